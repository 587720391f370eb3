/-
  Terms: what is beneath, of the page: contract.
-/
import Derived.Test.YtpihglmgkfecbaaDoorTmM
set_option linter.unusedVariables false
set_option linter.unusedSimpArgs false
namespace Go.Proofs.YtpihglmgkfecbaaDoor
open Go.Lf Go.RowKit

theorem filt_le (p : Nat → Bool) (k : Nat) : (((List.range k).filter p).map fun k => ((k : Nat) : Int)).length ≤ k := by
  rw [List.length_map]
  have := List.length_filter_le p (List.range k)
  rwa [List.length_range] at this
theorem filt_more (p : Nat → Bool) (k : Nat) : ((List.range (k + 1)).filter p).map (fun k => ((k : Nat) : Int)) = ((List.range k).filter p).map (fun k => ((k : Nat) : Int)) ++ (if p k = true then [(k : Int)] else []) := by
  rw [List.range_succ, List.filter_append, List.map_append]
  congr 1
  by_cases h : p k = true
  · rw [if_pos h]; simp [h]
  · rw [if_neg h]; simp [h]

set_option maxRecDepth 100000 in
theorem rbeneath_spec {B : Nat} {w : World} {p : Addr} {N : Nds} {R : List Asn} (h : Sep B w (pgA p N :: R)) {n : Nat} (hn : n < (terms N).length) :
    CallsV Tryd.prog n_trystref10_Arena_Beneath #[.pointer (some p), .int .i64 (n : Int)] w fun v w' => ∃ s' : Sl, v = .slice s'.a s'.len s'.cap ∧
      Sep B w' (ownA s' (underT (terms N) n) :: pgA p N :: R) ∧ Below B w w' := by
  refine trystref10_Arena_Beneath.lift ?_
  unfold trystref10_Arena_Beneath.main
  obtain ⟨sl, ⟨hok, hcaps⟩, hS⟩ := h.unfold
  have hS : Sep B w (pgL 43 p N sl ++ R) := hS
  have hsl : sl.len = N.length := (hS.rowLen 1 rfl).1
  have hfew := hok.few
  have hnN : n < N.length := by rw [← terms_len]; exact hn
  rw [terms_len] at hfew
  have hdown := ok_down hok
  refine ⟨p, rfl, _, _, _, hS.cell0 0 rfl rfl, ?_⟩
  rw [hsl]
  refine ⟨by omega, by omega, by omega, by omega, ?_⟩
  have en : (((N.length : Nat) : Int)).toNat = N.length := by omega
  rw [en]
  generalize hM : N.length = M at hsl hfew hnN
  intro w4
  obtain ⟨h4, hb4⟩ := hS.bools (n := M) (by omega)
  have h4 : Sep B w4 (boolA ⟨some (newA w), M, M⟩ (List.replicate M false) :: (pgL 43 p N sl ++ R)) := h4
  have hB4 : Below B w w4 := hb4
  clear_value w4
  generalize newA w = q0 at h4 ⊢
  refine ⟨by omega, by omega, q0, rfl, ?_⟩
  obtain ⟨wr5, h5, hb5⟩ := h4.boolSet 0 rfl (q := q0) rfl (j := n) (by simpa using hnN) true
  refine ⟨wr5, ?_⟩
  intro w5
  have h5 : Sep B w5 (boolA ⟨some q0, M, M⟩ ((List.replicate M false).set n true) :: (pgL 43 p N sl ++ R)) := h5
  have hB5 : Below B w w5 := hB4.trans hb5
  clear_value w5
  generalize hRR : (fun (v : Value) (w' : World) => ∃ s' : Sl, v = .slice s'.a s'.len s'.cap ∧ Sep B w' (ownA s' (underT (terms N) n) :: pgA p N :: R) ∧ Below B w w') = RR
  unfold trystref10_Arena_Beneath.l3
  refine ⟨fun t w' => ∃ (k : Nat) (bs : List Bool), t = (k : Int) - 1 ∧ k ≤ n + 1 ∧ bs.length = M ∧ sweep (terms N) k bs = finT (terms N) M n ∧ Sep B w' (boolA ⟨some q0, M, M⟩ bs :: (pgL 43 p N sl ++ R)) ∧ Below B w w', fun t _ => (t + 1).toNat,
    ⟨n + 1, _, by (try dsimp only); omega, Nat.le_refl _, by simp, rfl, h5, hB5⟩, ?_⟩
  rintro _ w1 ⟨k, bs, rfl, hk, hbl, hsw, h1, hB1⟩
  unfold trystref10_Arena_Beneath.b3
  refine cond_d (fun hge => ?_) fun hlt => ?_
  · obtain ⟨k, rfl⟩ : ∃ k', k = k' + 1 := ⟨k - 1, by omega⟩
    have ek : ((k + 1 : Nat) : Int) - 1 = (k : Int) := by omega
    rw [ek]
    have hkb : k < bs.length := by omega
    have hwrap : IntKind.i64.wrap ((k : Int) - 1) = (k : Int) - 1 := w64 (by omega)
    have hsweep : sweep (terms N) (k + 1) bs = sweep (terms N) k (if bs[k]?.getD false = true then markL bs (tmAt (terms N) (k : Int)).args else bs) := rfl
    have hkN : k < (terms N).length := by omega
    obtain ⟨hin, hat⟩ := at_nat hkN
    obtain ⟨sx, hx⟩ := terms_of hat
    obtain ⟨o1, o2, o3, o4, o5, o6⟩ := ok_at hok hin
    have hml := most_le (tmAt (terms N) (k : Int)).kind
    unfold trystref10_Arena_Beneath.l4
    refine ⟨fun t w' => ∃ j : Nat, t = j ∧ j ≤ (tmAt (terms N) (k : Int)).args.length ∧ (bs[k]?.getD false = true ∨ j = 0) ∧ Sep B w' (boolA ⟨some q0, M, M⟩ (markL bs ((tmAt (terms N) (k : Int)).args.take j)) :: (pgL 43 p N sl ++ R)) ∧ Below B w w',
      fun t _ => (tmAt (terms N) (k : Int)).args.length - t.toNat, ⟨0, rfl, Nat.zero_le _, .inr rfl, h1, hB1⟩, ?_⟩
    rintro _ w6 ⟨j, rfl, hj, hjb, h6, hB6⟩
    unfold trystref10_Arena_Beneath.b4
    have hml6 : (markL bs ((tmAt (terms N) (k : Int)).args.take j)).length = M := by rw [mark_len, hbl]
    obtain ⟨q1, hq1, hc1⟩ := h6.boolAt 0 rfl (j := k) (by omega)
    obtain rfl := Option.some.inj hq1
    rw [mark_other _ _ (fun x hx => by have := o5 x (List.mem_of_mem_take hx); omega)] at hc1
    refine ⟨by omega, by simp only; omega, q0, rfl, _, by rw [Int.toNat_natCast]; exact hc1, cond_c (fun ht => ?_) fun hf => ?_⟩
    · obtain ⟨q, hq, hc⟩ := h6.rowGet 2 (by omega) nodeC.w rfl hx
      have hI6 := argsAt 3 rfl h6 hx
      have hxl := hI6.len
      have hxl : sx.len = (tmAt (terms N) (k : Int)).args.length := hxl
      refine ⟨p, rfl, _, _, _, h6.cell0 1 rfl rfl, by omega, by omega, q, hq, _, _, _, by rw [Int.toNat_natCast]; exact hc 2 _ rfl, ?_⟩
      refine cond_d (p := ((j : Nat) : Int) < ((sx.len : Nat) : Int)) (fun hjl => ?_) fun hjg => ?_
      · have hj' : j < (tmAt (terms N) (k : Int)).args.length := by omega
        obtain ⟨q2, hq2, hc2⟩ := hI6.get (i := (j : Int)) (by omega) (by simp only; omega)
        have hc2 : w6.cell? (q2.add j) = some (.int .i64 (tmAt (terms N) (k : Int)).args[j]) := by
          rw [Int.toNat_natCast] at hc2
          rw [hc2]
          show some (Value.int .i64 ((tmAt (terms N) (k : Int)).args[j]?.getD 0)) = _
          rw [List.getElem?_eq_getElem hj']; rfl
        obtain ⟨g0, g1⟩ := o5 _ (List.getElem_mem hj')
        have hgl : (tmAt (terms N) (k : Int)).args[j].toNat < (markL bs ((tmAt (terms N) (k : Int)).args.take j)).length := by omega
        obtain ⟨wr7, h7, hb7⟩ := h6.boolSet 0 rfl (q := q0) rfl hgl true
        unfold trystref10_Arena_Beneath.c5
        refine ⟨p, rfl, _, _, _, h6.cell0 1 rfl rfl, by omega, by omega, q, hq, _, _, _, by rw [Int.toNat_natCast]; exact hc 2 _ rfl, by omega, by (try simp only); omega, q2, hq2, _, by rw [Int.toNat_natCast]; exact hc2, g0, by simp only; omega, q0, rfl, wr7, ?_⟩
        rw [inc (by omega)]
        refine ⟨⟨rfl, rfl, rfl, j + 1, rfl, by omega, .inl ht, ?_, hB6.trans hb7⟩, by (try dsimp only); omega⟩
        rw [List.take_succ_eq_append_getElem hj', mark_more]
        exact h7
      · have hje : j = (tmAt (terms N) (k : Int)).args.length := by omega
        rw [hje, List.take_length] at h6
        rw [ht, if_pos rfl] at hsweep
        rw [hwrap]
        exact ⟨⟨rfl, rfl, k, markL bs (tmAt (terms N) (k : Int)).args, rfl, by omega, by rw [mark_len, hbl], by rw [← hsweep]; exact hsw, h6, hB6⟩, by (try dsimp only); omega⟩
    · have hj0 : j = 0 := by
        rcases hjb with hjb | hjb
        · rw [hf] at hjb; cases hjb
        · exact hjb
      subst hj0
      rw [hf, if_neg (by simp)] at hsweep
      rw [hwrap]
      exact ⟨⟨rfl, rfl, k, bs, rfl, by omega, hbl, by rw [← hsweep]; exact hsw, h6, hB6⟩, by (try dsimp only); omega⟩
  · have hk0 : k = 0 := by omega
    subst hk0
    have hsw : bs = finT (terms N) M n := hsw
    have hU := under_all hdown hn (m := M) (by omega)
    rw [← hsw] at hU
    unfold trystref10_Arena_Beneath.c2 trystref10_Arena_Beneath.l1
    refine ⟨fun st w' => ∃ j : Nat, st.2 = j ∧ j ≤ M ∧ Sep B w' (ownA st.1 (((List.range j).filter fun k => bs[k]?.getD false).map fun k => ((k : Nat) : Int)) :: boolA ⟨some q0, M, M⟩ bs :: (pgL 43 p N sl ++ R)) ∧ Below B w w', fun st _ => M - st.2.toNat, ⟨0, rfl, Nat.zero_le _, h1.rowNil 3 1, hB1⟩, ?_⟩
    rintro ⟨out, _⟩ w2 ⟨j, hj0, hj, h2, hB2⟩
    simp only at hj0 h2
    subst hj0
    unfold trystref10_Arena_Beneath.b1
    refine cond_d (p := ((j : Nat) : Int) < ((M : Nat) : Int)) (fun hjl => ?_) fun hjg => ?_
    · obtain ⟨q1, hq1, hc1⟩ := h2.boolAt 1 rfl (j := j) (by omega)
      obtain rfl := Option.some.inj hq1
      refine ⟨by omega, by (try simp only); omega, q0, rfl, _, by rw [Int.toNat_natCast]; exact hc1, cond_c (fun ht => ?_) fun hf => ?_⟩
      · intro w3
        obtain ⟨s4, w4, hr4, h4, hb4⟩ := own_more 0 rfl h2 (j : Int) (by have := filt_le (fun k => bs[k]?.getD false) j; omega)
        refine ⟨_, _, _, _, hr4, ?_⟩
        rw [inc (by omega)]
        refine ⟨⟨rfl, j + 1, rfl, by omega, ?_, hB2.trans hb4⟩, by (try dsimp only); omega⟩
        rw [filt_more, if_pos ht]
        exact h4
      · rw [inc (by omega)]
        refine ⟨⟨rfl, j + 1, rfl, by omega, ?_, hB2⟩, by (try dsimp only); omega⟩
        rw [filt_more, if_neg (by rw [hf]; simp), List.append_nil]
        exact h2
    · have hjM : j = M := by omega
      rw [hjM, hU] at h2
      rw [← hRR]
      refine ⟨out, rfl, ?_, hB2⟩
      have h3 : Sep B w2 (pgL 43 p N sl ++ (ownA out (underT (terms N) n) :: boolA ⟨some q0, M, M⟩ bs :: R)) := Sep.comm (l := [ownA out (underT (terms N) n), boolA ⟨some q0, M, M⟩ bs]) h2
      have h4 : Sep B w2 (pgA p N :: ownA out (underT (terms N) n) :: boolA ⟨some q0, M, M⟩ bs :: R) := Sep.fold sl ⟨hok, hcaps⟩ h3
      exact Sep.mid (L := [ownA out (underT (terms N) n), pgA p N]) h4.swap

end Go.Proofs.YtpihglmgkfecbaaDoor
