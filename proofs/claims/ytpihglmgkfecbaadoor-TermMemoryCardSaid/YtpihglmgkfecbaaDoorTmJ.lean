/-
  Terms: each answer, and each node, is the page's; made again each is what it was; as many arguments as may be.
-/
import Derived.Test.YtpihglmgkfecbaaDoorTmI
set_option linter.unusedVariables false
set_option linter.unusedSimpArgs false
namespace Go.Proofs.YtpihglmgkfecbaaDoor
open Go.Lf Go.RowKit

theorem lawBuild {W : World} {s : Sl} {l : List Stp} (hT : PT W.heap.size W) (h : Stps W s l) (hh : heavyL l = false) : CallsV Tryd.prog n_trystlaw10_Build #[.slice s.a s.len s.cap] W fun v w' => ∃ a b Na Nb, v = .tuple #[.pointer (some a), .pointer (some b), .bool true] ∧
      terms Na = buildT l ∧ terms Nb = buildT l ∧ Sep W.heap.size w' [arA a Na, pgA b Nb] ∧ Below W.heap.size W w' :=
  build_spec h (Below.refl _ _) (Sep.nil (Nat.le_refl _)) hT hh

theorem put_mem {T : List Tm} {t u : Tm} (h : u ∈ (put T t).1) : u ∈ T ∨ u = t := by
  unfold put at h
  split at h
  · exact .inl h
  · split at h
    · exact .inl h
    · split at h
      · exact .inl h
      · simpa using h

theorem fold_n {M : Int} : ∀ (l : List Stp) (T : List Tm), (∀ x ∈ l, x.n ≤ M) → (∀ t ∈ T, t.n ≤ M) → ∀ t ∈ l.foldl (fun T x => (put T (stepT T x)).1) T, t.n ≤ M
  | [], T, _, hT, t, ht => hT t ht
  | x :: l, T, hl, hT, t, ht => by
    refine fold_n l _ (fun y hy => hl y (by simp [hy])) (fun u hu => ?_) t ht
    rcases put_mem hu with hu | rfl
    · exact hT u hu
    · exact hl x (by simp)

theorem build_n {W : World} {s : Sl} {l : List Stp} (h : Stps W s l) : ∀ t ∈ buildT l, t.n ≤ 9223372036854775807 := by
  refine fold_n _ [] (fun x hx => ?_) (fun t ht => by cases ht)
  obtain ⟨i, hi, he⟩ := List.mem_iff_getElem.1 (List.mem_of_mem_take hx)
  obtain ⟨p, cs, _, _, _, sx, _, _, hn⟩ := h.el i x (by rw [List.getElem?_eq_getElem hi, he])
  exact hn

theorem at_nat {T : List Tm} {k : Nat} (h : k < T.length) : inT T (k : Int) ∧ T[k]? = some (tmAt T (k : Int)) := by
  refine ⟨by unfold inT; omega, ?_⟩
  unfold tmAt
  rw [Int.toNat_natCast, List.getElem?_eq_getElem h]; rfl

set_option maxRecDepth 100000 in
theorem exact_spec {W : World} (hT : PT W.heap.size W) {s : Sl} {l : List Stp} (h : Stps W s l) (n : Int) :
    CallsV Tryd.prog n_trystlaw10_TermExact #[.slice s.a s.len s.cap, .int .i64 n] W fun v w' => v = .bool true ∧ Below W.heap.size W w' := by
  refine trystlaw10_TermExact.lift ?_
  unfold trystlaw10_TermExact.main
  refine (heavy_spec h).mono ?_
  rintro _ _ ⟨rfl, rfl⟩
  refine ⟨_, rfl, cond_c (fun _ => ⟨rfl, Below.refl _ _⟩) fun hh => ?_⟩
  refine (lawBuild hT h hh).mono ?_
  rintro _ w1 ⟨a, b, Na, Nb, rfl, hNa, hNb, h1, hB1⟩
  refine ⟨_, _, _, rfl, cond_f' rfl ?_⟩
  obtain ⟨B, hBe⟩ : ∃ B, B = W.heap.size := ⟨_, rfl⟩
  rw [← hBe] at hT h1 hB1 ⊢
  have hN : terms Nb = terms Na := by rw [hNa, hNb]
  have hok := arOk h1
  have hlN : Nb.length = Na.length := by rw [← terms_len, ← terms_len, hN]
  have hfew := hok.few
  rw [terms_len] at hfew
  unfold trystlaw10_TermExact.l2
  refine ⟨fun t w' => ∃ k : Nat, t = k ∧ k ≤ Na.length ∧ Sep B w' [arA a Na, pgA b Nb] ∧ Below B W w', fun t _ => Na.length - t.toNat, ⟨0, rfl, Nat.zero_le _, h1, hB1⟩, ?_⟩
  rintro _ w2 ⟨k, rfl, hk, h2, hB2⟩
  unfold trystlaw10_TermExact.b2
  obtain ⟨xb, cb, hcb⟩ := pgLen h2.swap
  rw [hN, terms_len] at hcb
  refine ⟨b, rfl, _, _, _, hcb, cond_d (fun hlt => ?_) fun hge => ?_⟩
  · have hk' : k < (terms Na).length := by rw [terms_len]; omega
    obtain ⟨hin, hat⟩ := at_nat hk'
    have hnode : nodeT (terms Na) (k : Int) = (tmAt (terms Na) (k : Int), 0) := by unfold nodeT; rw [if_pos hin]
    have hargs := (ok_at hok hin).2.2.2.1
    have hm := most_le (tmAt (terms Na) (k : Int)).kind
    unfold trystlaw10_TermExact.l3
    refine ⟨fun t w' => ∃ j : Nat, t = j ∧ j ≤ 2 ∧ Sep B w' [arA a Na, pgA b Nb] ∧ Below B W w', fun t _ => 2 - t.toNat, ⟨0, rfl, by omega, h2, hB2⟩, ?_⟩
    rintro _ w3 ⟨j, rfl, hj, h3, hB3⟩
    unfold trystlaw10_TermExact.b3
    refine cond_d (fun hj2 => ?_) fun _ => ?_
    · refine (node_spec h3 (k : Int)).mono ?_
      rintro _ w4 ⟨s4, rfl, h4, hb4⟩
      rw [hnode] at h4 ⊢
      have hB4 := hB3.trans hb4
      refine ⟨_, _, _, _, _, _, rfl, ?_⟩
      intro w5
      obtain ⟨r5, h6, b6⟩ := Sep.tmp3 h4 43 (.int .i64 0) (.int .i64 0) (.slice none 0 0) (.int .i64 (tmAt (terms Na) (k : Int)).kind) (.int .i64 (tmAt (terms Na) (k : Int)).n) (.slice s4.a s4.len s4.cap)
      refine ⟨r5, ?_⟩
      intro w6
      have h6 : Sep B w6 [boxA (newA w4) (tmC (tmAt (terms Na) (k : Int)) s4), ownA s4 (tmAt (terms Na) (k : Int)).args, arA a Na, pgA b Nb] := h6
      have hB6 : Below B W w6 := hB4.trans b6
      clear_value w6
      have h7 := h6.drew
      have hB7 := hB6.trans ((Same.drew w6).below B)
      have h7f : Sep B w6.drew [pgA b Nb, boxA (newA w4) (tmC (tmAt (terms Na) (k : Int)) s4), ownA s4 (tmAt (terms Na) (k : Int)).args, arA a Na] := h7.front 3 rfl
      obtain ⟨sl, _, hS⟩ := h7f.unfold
      have hS : Sep B w6.drew (pgL 43 b Nb sl ++ [boxA (newA w4) (tmC (tmAt (terms Na) (k : Int)) s4), ownA s4 (tmAt (terms Na) (k : Int)).args, arA a Na]) := hS
      have hsl : sl.len = Nb.length := (hS.rowLen 1 rfl).1
      obtain ⟨sx, hx⟩ := terms_of (N := Nb) (by rw [hN]; exact hat)
      obtain ⟨q, hq, hc⟩ := hS.rowGet 1 (by omega) nodeC.w rfl hx
      have hc0 := hc 0 _ rfl
      rw [add_zero] at hc0
      refine ⟨fun y => y = w6.drew, rfl, cond_n (fun h => absurd rfl h) fun _ => ⟨_, fun y hy => by rw [hy]; exact h7.cell0 0 rfl rfl, _, fun y hy => by rw [hy]; exact h7.cell 0 rfl 1 rfl, _, _, _, fun y hy => by rw [hy]; exact h7.cell 0 rfl 2 rfl,
        b, rfl, _, _, _, fun y hy => by rw [hy]; exact hS.cell0 0 rfl rfl, by omega, by omega, q, hq, _, fun y hy => by rw [hy, Int.toNat_natCast]; exact hc0, _, fun y hy => by rw [hy, Int.toNat_natCast]; exact hc 1 _ rfl, _, _, _, fun y hy => by rw [hy, Int.toNat_natCast]; exact hc 2 _ rfl, ?_⟩⟩
      refine (termEq_spec (t := tmAt (terms Na) (k : Int)) (u := tmAt (terms Na) (k : Int)) (rowInts 1 rfl h7 (by omega)) (argsAt 2 rfl hS hx)).mono ?_
      rintro _ w8 ⟨rfl, hb8⟩
      have h8 := h7.keep hb8
      have hB8 := hB7.trans (hb8.mono h7.le)
      refine ⟨_, rfl, cond_f' (by simp) ?_⟩
      unfold trystlaw10_TermExact.c4
      refine ⟨_, _, _, h8.cell 0 rfl 2 rfl, ?_⟩
      refine (spoil_spec (h8.front 1 rfl) (by omega)).mono ?_
      rintro _ w9 ⟨rfl, h9, hb9⟩
      refine ⟨rfl, ?_⟩
      rw [inc (by omega)]
      exact ⟨⟨rfl, rfl, rfl, rfl, j + 1, rfl, by omega, h9.drop, hB8.trans hb9⟩, by (try dsimp only); omega⟩
    · rw [inc (by omega)]
      exact ⟨⟨rfl, rfl, rfl, k + 1, rfl, by omega, h3, hB3⟩, by (try dsimp only); omega⟩
  · unfold trystlaw10_TermExact.c1
    refine (node_spec h2 n).mono ?_
    rintro _ w4 ⟨s4, rfl, h4, hb4⟩
    have hB4 := hB2.trans hb4
    obtain ⟨tm, e, hte⟩ : ∃ tm e, nodeT (terms Na) n = (tm, e) := ⟨_, _, rfl⟩
    rw [hte] at h4 ⊢
    refine ⟨_, _, _, _, _, _, rfl, ?_⟩
    intro w5
    obtain ⟨r5, h6, b6⟩ := Sep.tmp3 h4 43 (.int .i64 0) (.int .i64 0) (.slice none 0 0) (.int .i64 tm.kind) (.int .i64 tm.n) (.slice s4.a s4.len s4.cap)
    refine ⟨r5, ?_⟩
    intro w6 w7
    have h6 : Sep B w6 [boxA (newA w4) (tmC tm s4), ownA s4 tm.args, arA a Na, pgA b Nb] := h6
    have hB6 : Below B W w6 := hB4.trans b6
    have hb7 : Below w6.heap.size w6 w7 := below_alloc _ _
    have hI7 : Ints .i64 w7 ⟨some (newA w6), 1, 1⟩ [n] := ints_one n
    have h7 := h6.keep hb7
    have hB7 : Below B W w7 := hB6.trans (hb7.mono h6.le)
    clear_value w7
    have h7f : Sep B w7 [pgA b Nb, boxA (newA w4) (tmC tm s4), ownA s4 tm.args, arA a Na] := h7.front 3 rfl
    obtain ⟨xb, cb, hcb⟩ := pgLen h7f
    refine (rhas_spec (s := ⟨some (newA w6), 1, 1⟩) hcb hI7).mono ?_
    rintro _ w8 ⟨rfl, hs8⟩
    have h8 := h7.same hs8
    have hB8 := hB7.trans (hs8.below B)
    rw [hN]
    have e9 : (∀ x ∈ [n], inT (terms Na) x) ↔ inT (terms Na) n := by simp
    have wk : ∀ w8, Sep B w8 [boxA (newA w4) (tmC tm s4), ownA s4 tm.args, arA a Na, pgA b Nb] → Below B W w8 → CallsV Tryd.prog n_trystlaw10_wakes #[] w8 (fun v_10 w6 => ∃ b_11 : Bool, v_10 = .bool b_11 ∧ (Value.bool b_11 = .bool true ∧ Below B W w6)) := by
      intro w8 h8 hB8
      refine (wakes_spec h8 (hT.on hB8)).mono ?_
      rintro _ w9 ⟨rfl, h9, hb9⟩
      exact ⟨_, rfl, rfl, hB8.trans hb9⟩
    refine ⟨_, rfl, cond_c (fun hb => ?_) fun hb => ?_⟩
    · have hb := e9.1 (of_decide_eq_true hb)
      have he : e = 0 := by unfold nodeT at hte; rw [if_pos hb] at hte; exact ((Prod.mk.inj hte).2).symm
      subst he
      exact cond_t rfl (wk _ h8 hB8)
    · have hb : ¬ inT (terms Na) n := fun h => of_decide_eq_false hb (e9.2 h)
      have he : tm = ⟨0, 0, []⟩ ∧ e = 8 := by unfold nodeT at hte; rw [if_neg hb] at hte; exact ⟨(Prod.mk.inj hte).1.symm, (Prod.mk.inj hte).2.symm⟩
      obtain ⟨rfl, rfl⟩ := he
      refine cond_t rfl ⟨_, h8.cell0 0 rfl rfl, _, h8.cell 0 rfl 1 rfl, _, _, _, h8.cell 0 rfl 2 rfl, ?_⟩
      refine (termEq_spec (t := ⟨0, 0, []⟩) (u := ⟨0, 0, []⟩) (r := ⟨none, 0, 0⟩) (rowInts 1 rfl h8 (by simp)) Ints.nil).mono ?_
      rintro _ w9 ⟨rfl, hb9⟩
      refine ⟨_, rfl, cond_t (by simp) (wk _ (h8.keep hb9) (hB8.trans (hb9.mono h8.le)))⟩

set_option maxRecDepth 100000 in
theorem once_spec {W : World} (hT : PT W.heap.size W) {s : Sl} {l : List Stp} (h : Stps W s l) :
    CallsV Tryd.prog n_trystlaw10_TermOnce #[.slice s.a s.len s.cap] W fun v w' => v = .bool true ∧ Below W.heap.size W w' := by
  refine trystlaw10_TermOnce.lift ?_
  unfold trystlaw10_TermOnce.main
  refine (heavy_spec h).mono ?_
  rintro _ _ ⟨rfl, rfl⟩
  refine ⟨_, rfl, cond_c (fun _ => ⟨rfl, Below.refl _ _⟩) fun hh => ?_⟩
  refine (lawBuild hT h hh).mono ?_
  rintro _ w1 ⟨a, b, Na, Nb, rfl, hNa, hNb, h1, hB1⟩
  refine ⟨_, _, _, rfl, cond_f' rfl ?_⟩
  obtain ⟨B, hBe⟩ : ∃ B, B = W.heap.size := ⟨_, rfl⟩
  rw [← hBe] at hT h1 hB1 ⊢
  have hok := arOk h1
  have hfew := hok.few
  obtain ⟨xa, ca, hca⟩ := arLen h1
  refine (len_spec hca).mono ?_
  rintro _ _ ⟨rfl, rfl⟩
  refine ⟨_, rfl, ?_⟩
  have h1 := h1.swap.drop
  have hbn := build_n h
  rw [← hNa] at hbn
  generalize hT0 : terms Na = T0 at hok hfew hca hbn ⊢
  unfold trystlaw10_TermOnce.l2
  refine ⟨fun t w' => ∃ k : Nat, t = k ∧ k ≤ T0.length ∧ ∃ N, terms N = T0 ∧ Sep B w' [arA a N] ∧ Below B W w', fun t _ => T0.length - t.toNat, ⟨0, rfl, Nat.zero_le _, Na, hT0, h1, hB1⟩, ?_⟩
  rintro _ w2 ⟨k, rfl, hk, N, hN, h2, hB2⟩
  unfold trystlaw10_TermOnce.b2
  refine cond_d (fun hlt => ?_) fun hge => ?_
  · have hk' : k < T0.length := by omega
    obtain ⟨hin, hat⟩ := at_nat hk'
    have hnode : nodeT T0 (k : Int) = (tmAt T0 (k : Int), 0) := by unfold nodeT; rw [if_pos hin]
    obtain ⟨o1, o2, o3, o4, o5, o6⟩ := ok_at hok hin
    have hm := most_le (tmAt T0 (k : Int)).kind
    refine (node_spec h2 (k : Int)).mono ?_
    rintro _ w4 ⟨s4, rfl, h4, hb4⟩
    rw [hN, hnode] at h4 ⊢
    have hB4 := hB2.trans hb4
    refine ⟨_, _, _, _, _, _, rfl, ?_⟩
    intro w5
    obtain ⟨r5, h6, b6⟩ := Sep.tmp3 h4 43 (.int .i64 0) (.int .i64 0) (.slice none 0 0) (.int .i64 (tmAt T0 (k : Int)).kind) (.int .i64 (tmAt T0 (k : Int)).n) (.slice s4.a s4.len s4.cap)
    refine ⟨r5, ?_⟩
    intro w6
    have h6 : Sep B w6 [boxA (newA w4) (tmC (tmAt T0 (k : Int)) s4), ownA s4 (tmAt T0 (k : Int)).args, arA a N] := h6
    have hB6 : Below B W w6 := hB4.trans b6
    clear_value w6
    refine cond_n (fun h => absurd rfl h) fun _ => ?_
    have hI6 : Ints .i64 w6 s4 (tmAt T0 (k : Int)).args := rowInts 1 rfl h6 (by omega)
    have hlen := hI6.len
    unfold trystlaw10_TermOnce.l4
    refine ⟨fun t w' => w' = w6 ∧ ∃ j : Nat, t = j ∧ j ≤ (tmAt T0 (k : Int)).args.length, fun t _ => (tmAt T0 (k : Int)).args.length - t.toNat, ⟨rfl, 0, rfl, Nat.zero_le _⟩, ?_⟩
    rintro _ _ ⟨rfl, j, rfl, hj⟩
    unfold trystlaw10_TermOnce.b4
    refine ⟨_, _, _, h6.cell 0 rfl 2 rfl, cond_d (fun hjl => ?_) fun hjg => ?_⟩
    · obtain ⟨q, hq, hc⟩ := hI6.get (i := (j : Int)) (by omega) hjl
      have hj' : j < (tmAt T0 (k : Int)).args.length := by omega
      rw [Int.toNat_natCast, List.getElem?_eq_getElem hj', Option.getD_some] at hc
      obtain ⟨g0, g1⟩ := o5 _ (List.getElem_mem hj')
      refine ⟨_, _, _, h6.cell 0 rfl 2 rfl, by omega, hjl, q, hq, _, by rw [Int.toNat_natCast]; exact hc, cond_d (fun hn => absurd hn (by omega)) fun _ => ⟨_, _, _, h6.cell 0 rfl 2 rfl, by omega, hjl, q, hq, _, by rw [Int.toNat_natCast]; exact hc, cond_d (fun hn => absurd hn (by omega)) fun _ => ?_⟩⟩
      rw [inc (by omega)]
      exact ⟨⟨rfl, rfl, rfl, rfl, rfl, j + 1, rfl, by omega⟩, by (try dsimp only); omega⟩
    · unfold trystlaw10_TermOnce.c3
      refine ⟨_, h6.cell0 0 rfl rfl, _, h6.cell 0 rfl 1 rfl, _, _, _, h6.cell 0 rfl 2 rfl, ?_⟩
      have hput : put T0 (tmAt T0 (k : Int)) = (T0, (k : Int), 0) := by
        refine put_is ?_ (hok.place hat)
        have hg := hok.good k _ hat
        obtain ⟨e1, e2, e3, e4, e5, e6⟩ := err_zero hg
        unfold errOf at hg ⊢
        rw [if_neg (by omega)] at hg ⊢
        split at hg
        · exact absurd hg (by decide)
        · rename_i hx
          rw [if_neg hx]
          rw [if_neg (by omega)] at hg ⊢
          rw [if_neg]
          intro hne
          apply hne
          intro x hx
          have := e5 x hx
          unfold inT at this ⊢
          rw [List.length_take] at this
          omega
      have hn64 : (tmAt T0 (k : Int)).n ≤ 9223372036854775807 := hbn _ (List.mem_of_getElem? hat)
      refine (make_spec (t := tmAt T0 (k : Int)) (s := s4) (R := [boxA (newA w4) (tmC (tmAt T0 (k : Int)) s4), ownA s4 (tmAt T0 (k : Int)).args]) (h6.front 2 rfl) (hT.on hB6) hn64 (fun X w' hs _ => rowInts 2 rfl hs (by omega))).mono ?_
      rintro _ w7 ⟨m7, rfl, e7, h7, hb7⟩
      rw [hN, hput] at e7 ⊢
      refine ⟨_, _, rfl, cond_n (fun h => absurd rfl h) fun _ => cond_n (fun h => absurd rfl h) fun _ => ?_⟩
      obtain ⟨xa, ca, hca⟩ := arLen h7
      refine (len_spec hca).mono ?_
      rintro _ _ ⟨rfl, rfl⟩
      rw [e7]
      refine ⟨_, rfl, cond_n (fun h => absurd rfl h) fun _ => ?_⟩
      rw [inc (by omega)]
      exact ⟨⟨rfl, rfl, k + 1, rfl, by omega, _, e7, h7.swap.drop.swap.drop, hB6.trans hb7⟩, by (try dsimp only); omega⟩
  · unfold trystlaw10_TermOnce.c1
    refine (wakes_spec h2 (hT.on hB2)).mono ?_
    rintro _ w9 ⟨rfl, h9, hb9⟩
    exact ⟨_, rfl, rfl, hB2.trans hb9⟩

end Go.Proofs.YtpihglmgkfecbaaDoor
