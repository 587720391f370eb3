/-
  Terms: what is beneath a term is it, all its arguments, and what is beneath these; nothing else.
-/
import Derived.Test.YtpihglmgkfecbaaDoorTmO
set_option linter.unusedVariables false
set_option linter.unusedSimpArgs false
namespace Go.Proofs.YtpihglmgkfecbaaDoor
open Go.Lf Go.RowKit

theorem under_in {T : List Tm} (hd : Down T) {i : Nat} (hi : i < T.length) {x : Int} (hx : x ∈ underT T i) : 0 ≤ x ∧ x < T.length := by
  obtain ⟨k, rfl, hu⟩ := (under_mem hd hi).1 hx
  have := hu.le hd hi
  omega

theorem want_more (T : List Tm) (bs : List Bool) (args : List Int) (a : Int) : wantL T bs (args ++ [a]) = markL (wantL T bs args) (underT T a.toNat) := by simp [wantL]

set_option maxRecDepth 100000 in
theorem under_spec {W : World} (hT : PT W.heap.size W) {s : Sl} {l : List Stp} (h : Stps W s l) (i : Int) :
    CallsV Tryd.prog n_trystlaw10_TermBeneath #[.slice s.a s.len s.cap, .int .i64 i] W fun v w' => v = .bool true ∧ Below W.heap.size W w' := by
  refine trystlaw10_TermBeneath.lift ?_
  unfold trystlaw10_TermBeneath.main
  refine (heavy_spec h).mono ?_
  rintro _ _ ⟨rfl, rfl⟩
  refine ⟨_, rfl, cond_c (fun _ => ⟨rfl, Below.refl _ _⟩) fun hh => cond_d (fun _ => ⟨rfl, Below.refl _ _⟩) fun hi0 => ?_⟩
  unfold trystlaw10_TermBeneath.c7
  refine (lawBuild hT h hh).mono ?_
  rintro _ w1 ⟨a, b, Na, Nb, rfl, hNa, hNb, h1, hB1⟩
  refine ⟨_, _, _, rfl, cond_f' rfl ?_⟩
  obtain ⟨B, hBe⟩ : ∃ B, B = W.heap.size := ⟨_, rfl⟩
  rw [← hBe] at hT h1 hB1 ⊢
  have hok := arOk h1
  have hfew := hok.few
  have hdown := ok_down hok
  have h1 : Sep B w1 [arA a Na] := h1.swap.drop
  generalize hRR : (fun (v : Value) (w' : World) => v = .bool true ∧ Below B W w') = RR
  have wk : ∀ w5 R, Sep B w5 R → Below B W w5 → CallsV Tryd.prog n_trystlaw10_wakes #[] w5 (fun v_10 w6 => ∃ b_11 : Bool, v_10 = .bool b_11 ∧ RR (.bool b_11) w6) := by
    intro w5 R h5 hB5
    refine (wakes_spec h5 (hT.on hB5)).mono ?_
    rintro _ w9 ⟨rfl, h9, hb9⟩
    refine ⟨_, rfl, ?_⟩
    rw [← hRR]
    exact ⟨rfl, hB5.trans hb9⟩
  obtain ⟨xa, ca, hca⟩ := arLen h1
  refine (len_spec hca).mono ?_
  rintro _ _ ⟨rfl, rfl⟩
  refine ⟨_, rfl, cond_e (fun _ => wk _ _ h1 hB1) fun hne => ?_⟩
  refine (len_spec hca).mono ?_
  rintro _ _ ⟨rfl, rfl⟩
  refine ⟨_, rfl, hne, ?_⟩
  rw [tmod_nn (by omega)]
  obtain ⟨n, hn⟩ : ∃ n : Nat, i % (((terms Na).length : Nat) : Int) = n := ⟨(i % (((terms Na).length : Nat) : Int)).toNat, by have := Int.emod_nonneg i hne; omega⟩
  have hnl : n < (terms Na).length := by have := Int.emod_lt_of_pos i (show (0 : Int) < (((terms Na).length : Nat) : Int) by omega); omega
  rw [hn]
  obtain ⟨hin, hat⟩ := at_nat hnl
  obtain ⟨o1, o2, o3, o4, o5, o6⟩ := ok_at hok hin
  have hml := most_le (tmAt (terms Na) (n : Int)).kind
  have hnode : nodeT (terms Na) (n : Int) = (tmAt (terms Na) (n : Int), 0) := by unfold nodeT; rw [if_pos hin]
  refine (node_spec h1 (n : Int)).mono ?_
  rintro _ w4 ⟨s4, rfl, h4, hb4⟩
  rw [hnode] at h4 ⊢
  have hB4 := hB1.trans hb4
  refine ⟨_, _, _, _, _, _, rfl, ?_⟩
  intro w5
  obtain ⟨r5, h6, b6⟩ := Sep.tmp3 h4 43 (.int .i64 0) (.int .i64 0) (.slice none 0 0) (.int .i64 (tmAt (terms Na) (n : Int)).kind) (.int .i64 (tmAt (terms Na) (n : Int)).n) (.slice s4.a s4.len s4.cap)
  refine ⟨r5, ?_⟩
  intro w6
  have h6 : Sep B w6 [boxA (newA w4) (tmC (tmAt (terms Na) (n : Int)) s4), ownA s4 (tmAt (terms Na) (n : Int)).args, arA a Na] := h6
  have hB6 : Below B W w6 := hB4.trans b6
  clear_value w6
  generalize newA w4 = tb at h6 ⊢
  have h6f : Sep B w6 [arA a Na, boxA tb (tmC (tmAt (terms Na) (n : Int)) s4), ownA s4 (tmAt (terms Na) (n : Int)).args] := h6.front 2 rfl
  refine (beneath_spec h6f (n : Int)).mono ?_
  rintro _ w7 ⟨s7, rfl, h7, hb7⟩
  rw [if_pos hin, Int.toNat_natCast] at h7
  rw [if_pos hin]
  have hB7 := hB6.trans hb7
  refine ⟨_, _, _, _, rfl, cond_n (fun h => absurd rfl h) fun _ => cond_n (fun h => absurd rfl h) fun _ => ?_⟩
  unfold trystlaw10_TermBeneath.c6
  obtain ⟨xa7, ca7, hca7⟩ := arLen (h7.front 1 rfl)
  refine (len_spec hca7).mono ?_
  rintro _ _ ⟨rfl, rfl⟩
  generalize hM : (terms Na).length = M at hnl hfew
  refine ⟨_, rfl, by omega, by omega, by omega, by omega, ?_⟩
  rw [show (((M : Nat) : Int)).toNat = M by omega]
  intro w8
  obtain ⟨h8, hb8⟩ := h7.bools (n := M) (by omega)
  have h8 : Sep B w8 [boolA ⟨some (newA w7), M, M⟩ (List.replicate M false), ownA s7 (underT (terms Na) n), arA a Na, boxA tb (tmC (tmAt (terms Na) (n : Int)) s4), ownA s4 (tmAt (terms Na) (n : Int)).args] := h8
  have hB8 : Below B W w8 := hB7.trans hb8
  clear_value w8
  generalize newA w7 = q0 at h8 ⊢
  refine ⟨by omega, by omega, q0, rfl, ?_⟩
  obtain ⟨wr9, h9, hb9⟩ := h8.boolSet 0 rfl (q := q0) rfl (j := n) (by simpa using hnl) true
  refine ⟨wr9, ?_⟩
  intro w9
  have h9 : Sep B w9 [boolA ⟨some q0, M, M⟩ ((List.replicate M false).set n true), ownA s7 (underT (terms Na) n), arA a Na, boxA tb (tmC (tmAt (terms Na) (n : Int)) s4), ownA s4 (tmAt (terms Na) (n : Int)).args] := h9
  have hB9 : Below B W w9 := hB8.trans hb9
  clear_value w9
  have hul := under_len (terms Na) n
  unfold trystlaw10_TermBeneath.l4
  refine ⟨fun t w' => ∃ k : Nat, t = k ∧ k ≤ (tmAt (terms Na) (n : Int)).args.length ∧ Sep B w' [boolA ⟨some q0, M, M⟩ (wantL (terms Na) ((List.replicate M false).set n true) ((tmAt (terms Na) (n : Int)).args.take k)), ownA s7 (underT (terms Na) n), arA a Na, boxA tb (tmC (tmAt (terms Na) (n : Int)) s4), ownA s4 (tmAt (terms Na) (n : Int)).args] ∧ Below B W w',
    fun t _ => (tmAt (terms Na) (n : Int)).args.length - t.toNat, ⟨0, rfl, Nat.zero_le _, h9, hB9⟩, ?_⟩
  rintro _ w10 ⟨k, rfl, hk, h10, hB10⟩
  have hs4 : s4.len = (tmAt (terms Na) (n : Int)).args.length := (h10.rowLen 4 rfl).1
  unfold trystlaw10_TermBeneath.b4
  refine ⟨_, _, _, h10.cell 3 rfl 2 rfl, cond_d (p := ((k : Nat) : Int) < ((s4.len : Nat) : Int)) (fun hkl => ?_) fun hkg => ?_⟩
  · have hk' : k < (tmAt (terms Na) (n : Int)).args.length := by omega
    have hI10 := rowInts (xs := (tmAt (terms Na) (n : Int)).args) 4 rfl h10 (by omega)
    obtain ⟨q, hq, hc⟩ := hI10.get (i := (k : Int)) (by omega) hkl
    rw [Int.toNat_natCast, List.getElem?_eq_getElem hk', Option.getD_some] at hc
    obtain ⟨g0, g1⟩ := o5 _ (List.getElem_mem hk')
    refine ⟨_, _, _, h10.cell 3 rfl 2 rfl, by omega, hkl, q, hq, _, by rw [Int.toNat_natCast]; exact hc, ?_⟩
    generalize harg : (tmAt (terms Na) (n : Int)).args[k] = x at hc g0 g1 ⊢
    have hxin : inT (terms Na) x := by unfold inT; rw [hM]; omega
    have hxl : x.toNat < (terms Na).length := by omega
    refine (beneath_spec (h10.front 2 rfl) x).mono ?_
    rintro _ w11 ⟨s11, rfl, h11, hb11⟩
    rw [if_pos hxin] at h11
    rw [if_pos hxin]
    have hB11 := hB10.trans hb11
    refine ⟨_, _, _, _, rfl, cond_n (fun h => absurd rfl h) fun _ => ?_⟩
    generalize hbs : wantL (terms Na) ((List.replicate M false).set n true) ((tmAt (terms Na) (n : Int)).args.take k) = bs at h11
    have hbl : bs.length = M := by rw [← hbs, want_len]; simp
    have h11 : Sep B w11 [ownA s11 (underT (terms Na) x.toNat), arA a Na, boolA ⟨some q0, M, M⟩ bs, ownA s7 (underT (terms Na) n), boxA tb (tmC (tmAt (terms Na) (n : Int)) s4), ownA s4 (tmAt (terms Na) (n : Int)).args] := h11
    have hux := under_len (terms Na) x.toNat
    unfold trystlaw10_TermBeneath.l5
    refine ⟨fun t w' => ∃ j : Nat, t = j ∧ j ≤ (underT (terms Na) x.toNat).length ∧ Sep B w' [ownA s11 (underT (terms Na) x.toNat), arA a Na, boolA ⟨some q0, M, M⟩ (markL bs ((underT (terms Na) x.toNat).take j)), ownA s7 (underT (terms Na) n), boxA tb (tmC (tmAt (terms Na) (n : Int)) s4), ownA s4 (tmAt (terms Na) (n : Int)).args] ∧ Below B W w',
      fun t _ => (underT (terms Na) x.toNat).length - t.toNat, ⟨0, rfl, Nat.zero_le _, h11, hB11⟩, ?_⟩
    rintro _ w12 ⟨j, rfl, hj, h12, hB12⟩
    have hs11 : s11.len = (underT (terms Na) x.toNat).length := (h12.rowLen 0 rfl).1
    unfold trystlaw10_TermBeneath.b5
    refine cond_d (p := ((j : Nat) : Int) < ((s11.len : Nat) : Int)) (fun hjl => ?_) fun hjg => ?_
    · have hj' : j < (underT (terms Na) x.toNat).length := by omega
      have hI12 := rowInts (xs := underT (terms Na) x.toNat) 0 rfl h12 (by omega)
      obtain ⟨q2, hq2, hc2⟩ := hI12.get (i := (j : Int)) (by omega) hjl
      rw [Int.toNat_natCast, List.getElem?_eq_getElem hj', Option.getD_some] at hc2
      obtain ⟨y0, y1⟩ := under_in hdown hxl (List.getElem_mem hj')
      have hgl : (underT (terms Na) x.toNat)[j].toNat < (markL bs ((underT (terms Na) x.toNat).take j)).length := by rw [mark_len]; omega
      obtain ⟨wr13, h13, hb13⟩ := h12.boolSet 2 rfl (q := q0) rfl hgl true
      refine ⟨by omega, hjl, q2, hq2, _, by rw [Int.toNat_natCast]; exact hc2, y0, by simp only; omega, q0, rfl, wr13, ?_⟩
      rw [inc (by omega)]
      refine ⟨⟨rfl, rfl, rfl, rfl, rfl, rfl, j + 1, rfl, by omega, ?_, hB12.trans hb13⟩, by (try dsimp only); omega⟩
      rw [List.take_succ_eq_append_getElem hj', mark_more]
      exact h13
    · have hje : j = (underT (terms Na) x.toNat).length := by omega
      rw [hje, List.take_length] at h12
      rw [inc (by omega)]
      refine ⟨⟨rfl, rfl, rfl, rfl, k + 1, rfl, by omega, ?_, hB12⟩, by (try dsimp only); omega⟩
      rw [List.take_succ_eq_append_getElem hk', want_more, hbs, harg]
      exact h12.drop.swap |> fun h => (h.perm (List.Perm.cons _ (List.Perm.swap _ _ _)))
  · have hke : k = (tmAt (terms Na) (n : Int)).args.length := by omega
    rw [hke, List.take_length] at h10
    have hwl := want_under hdown (i := n) (by omega)
    rw [hM] at hwl
    generalize hbs : wantL (terms Na) ((List.replicate M false).set n true) (tmAt (terms Na) (n : Int)).args = bs at h10 hwl
    have hbl : bs.length = M := by rw [← hbs, want_len]; simp
    unfold trystlaw10_TermBeneath.c3 trystlaw10_TermBeneath.l2
    refine ⟨fun st w' => ∃ j : Nat, st.2 = j ∧ j ≤ M ∧ Sep B w' (ownA st.1 (((List.range j).filter fun k => bs[k]?.getD false).map fun k => ((k : Nat) : Int)) :: [boolA ⟨some q0, M, M⟩ bs, ownA s7 (underT (terms Na) n), arA a Na, boxA tb (tmC (tmAt (terms Na) (n : Int)) s4), ownA s4 (tmAt (terms Na) (n : Int)).args]) ∧ Below B W w', fun st _ => M - st.2.toNat,
      ⟨0, rfl, Nat.zero_le _, h10.rowNil 3 1, hB10⟩, ?_⟩
    rintro ⟨out, _⟩ w2 ⟨j, hj0, hj, h2, hB2⟩
    simp only at hj0 h2
    subst hj0
    unfold trystlaw10_TermBeneath.b2
    refine cond_d (p := ((j : Nat) : Int) < ((M : Nat) : Int)) (fun hjl => ?_) fun hjg => ?_
    · obtain ⟨q1, hq1, hc1⟩ := h2.boolAt 1 rfl (j := j) (by omega)
      obtain rfl := Option.some.inj hq1
      refine ⟨by omega, by (try simp only); omega, q0, rfl, _, by rw [Int.toNat_natCast]; exact hc1, cond_c (fun ht => ?_) fun hf => ?_⟩
      · intro w3
        obtain ⟨s5, w5, hr5, h5, hb5⟩ := own_more 0 rfl h2 (j : Int) (by have := filt_le (fun k => bs[k]?.getD false) j; omega)
        refine ⟨_, _, _, _, hr5, ?_⟩
        rw [inc (by omega)]
        refine ⟨⟨rfl, rfl, j + 1, rfl, by omega, ?_, hB2.trans hb5⟩, by (try dsimp only); omega⟩
        rw [filt_more, if_pos ht]
        exact h5
      · rw [inc (by omega)]
        refine ⟨⟨rfl, rfl, j + 1, rfl, by omega, ?_, hB2⟩, by (try dsimp only); omega⟩
        rw [filt_more, if_neg (by rw [hf]; simp), List.append_nil]
        exact h2
    · have hjM : j = M := by omega
      rw [hjM, hwl] at h2
      unfold trystlaw10_TermBeneath.c1
      refine (ints_spec (s := s7) (t := out) (rowInts (xs := underT (terms Na) n) 2 rfl h2 (by omega)) (rowInts (xs := underT (terms Na) n) 0 rfl h2 (by omega))).mono ?_
      rintro _ w3 ⟨rfl, hs3⟩
      exact ⟨_, rfl, cond_t (by simp) (wk _ _ (h2.same hs3) (hB2.trans (hs3.below B)))⟩

end Go.Proofs.YtpihglmgkfecbaaDoor
