/-
  Terms: what is beneath, of both arenas: contracts.
-/
import Derived.Test.YtpihglmgkfecbaaDoorTmL
set_option linter.unusedVariables false
set_option linter.unusedSimpArgs false
namespace Go.Proofs.YtpihglmgkfecbaaDoor
open Go.Lf Go.RowKit

theorem dec {k : Nat} (h : k < 9223372036854775807) : IntKind.i64.wrap (((k + 1 : Nat) : Int) - 1) = (k : Int) := by rw [w64 (by omega)]; omega

theorem ok_down {T : List Tm} (h : TOk T) : Down T := by
  intro n hn x hx
  exact (ok_at h (at_nat hn).1).2.2.2.2.1 x hx

/-! turned round -/

def swapped (xs : List Int) (i m : Nat) : Int := if m < i ∨ xs.length < m + 1 + i then xs[xs.length - 1 - m]?.getD 0 else xs[m]?.getD 0

theorem rev_spec {B : Nat} {w : World} {s : Sl} {xs : List Int} {R : List Asn} (h : Sep B w (ownA s xs :: R)) (hx : xs.length ≤ 1000000000) :
    CallsV Tryd.prog n_slices_Reverse_int #[.slice s.a s.len s.cap] w fun v w' => v = .tuple #[] ∧ Sep B w' (ownA s xs.reverse :: R) ∧ Below B w w' := by
  refine slices_Reverse_int.lift ?_
  unfold slices_Reverse_int.main
  have hl := (h.rowLen 0 rfl).1
  have hl : s.len = xs.length := hl
  intro j3
  have hj3 : j3 = (xs.length : Int) - 1 := by
    show IntKind.i64.wrap _ = _
    rw [w64 (by omega), hl]
  clear_value j3
  unfold slices_Reverse_int.l1
  refine ⟨fun st w' => ∃ i : Nat, st.1 = i ∧ st.2 = (xs.length : Int) - 1 - i ∧ ∃ ys : List Int, ys.length = xs.length ∧ (∀ m, m < xs.length → ys[m]?.getD 0 = swapped xs i m) ∧ 2 * i ≤ xs.length + 1 ∧ Sep B w' (ownA s ys :: R) ∧ Below B w w', fun st _ => xs.length + 1 - st.1.toNat,
    ⟨0, rfl, by rw [hj3]; simp, xs, rfl, fun m hm => by unfold swapped; rw [if_neg (by omega)], by omega, h, Below.refl _ _⟩, ?_⟩
  rintro ⟨_, _⟩ w1 ⟨i, hi0, hj0, ys, hyl, hys, hi2, h1, hb1⟩
  simp only at hi0 hj0
  subst hi0
  subst hj0
  unfold slices_Reverse_int.b1
  refine cond_d (fun hlt => ?_) fun hge => ?_
  · have hiy : i < ys.length := by omega
    have hjy : xs.length - 1 - i < ys.length := by omega
    have ej : ((xs.length : Int) - 1 - i).toNat = xs.length - 1 - i := by omega
    have h2 := h1.drew
    obtain ⟨q, hq, hc⟩ := h2.rowCell 0 rfl (j := 0) (by rw [List.length_map]; omega)
    have ci : w1.drew.cell? (q.add i) = some (.int .i64 ys[i]) := hc i _ (by rw [List.getElem?_map, List.getElem?_eq_getElem hiy]; rfl)
    have cj : w1.drew.cell? (q.add (xs.length - 1 - i)) = some (.int .i64 ys[xs.length - 1 - i]) := hc _ _ (by rw [List.getElem?_map, List.getElem?_eq_getElem hjy]; rfl)
    obtain ⟨h3, hb3⟩ := h2.rowSet 0 rfl hq (j := i) (by rw [List.length_map]; exact hiy) (.int .i64 ys[xs.length - 1 - i])
    have h3 : Sep B (w1.drew.setCell (q.add i) (.int .i64 ys[xs.length - 1 - i])) (rowA 3 1 s ys.length ((ys.map (Value.int .i64)).set i (.int .i64 ys[xs.length - 1 - i])) :: R) := h3
    obtain ⟨h4, hb4⟩ := h3.rowSet 0 rfl hq (j := xs.length - 1 - i) (by rw [List.length_set, List.length_map]; exact hjy) (.int .i64 ys[i])
    have wi := h2.rowWr 0 rfl hq (j := i) (by rw [List.length_map]; exact hiy)
    have wj := h3.rowWr 0 rfl hq (j := xs.length - 1 - i) (by rw [List.length_set, List.length_map]; exact hjy)
    refine ⟨fun y => y = w1.drew, rfl, by omega, by omega, q, hq, _, fun y hy => by rw [hy, ej]; exact cj, by omega, by omega, q, hq, _, fun y hy => by rw [hy, Int.toNat_natCast]; exact ci, by omega, by omega, q, hq, by rw [Int.toNat_natCast]; exact wi, ?_⟩
    rw [Int.toNat_natCast]
    refine ⟨by omega, by omega, q, hq, by rw [ej]; exact wj, ?_⟩
    rw [ej, inc (by omega)]
    refine ⟨⟨rfl, i + 1, rfl, ?_, (ys.set i ys[xs.length - 1 - i]).set (xs.length - 1 - i) ys[i], by simp [hyl], ?_, by omega, ?_, ((hb1.trans ((Same.drew w1).below B)).trans hb3).trans hb4⟩, by (try dsimp only); omega⟩
    · show IntKind.i64.wrap _ = _
      rw [w64 (by omega)]; omega
    · intro m hm
      have ei := hys i (by omega)
      have ejj := hys (xs.length - 1 - i) (by omega)
      rw [List.getElem?_eq_getElem hiy, Option.getD_some] at ei
      rw [List.getElem?_eq_getElem hjy, Option.getD_some] at ejj
      unfold swapped at ei ejj
      rw [if_neg (by omega)] at ei ejj
      rw [List.getElem?_set]
      by_cases h1 : xs.length - 1 - i = m
      · rw [if_pos h1, if_pos (by rw [List.length_set]; exact hjy), Option.getD_some, ei]
        unfold swapped
        rw [if_pos (by omega), show xs.length - 1 - m = i by omega]
      · rw [if_neg h1, List.getElem?_set]
        by_cases h2 : i = m
        · rw [if_pos h2, if_pos hiy, Option.getD_some, ejj]
          unfold swapped
          rw [if_pos (by omega), h2]
        · rw [if_neg h2, hys m hm]
          unfold swapped
          by_cases h3 : m < i ∨ xs.length < m + 1 + i
          · rw [if_pos h3, if_pos (by omega)]
          · rw [if_neg h3, if_neg (by omega)]
    · unfold ownA
      rw [List.map_set, List.map_set, List.length_set, List.length_set]
      exact h4
  · refine ⟨rfl, ?_, hb1⟩
    have : ys = xs.reverse := by
      apply List.ext_getElem (by simp [hyl])
      intro m hm1 hm2
      have hm : m < xs.length := by omega
      have := hys m hm
      rw [List.getElem?_eq_getElem hm1, Option.getD_some] at this
      rw [this, List.getElem_reverse]
      unfold swapped
      by_cases h3 : m < i ∨ xs.length < m + 1 + i
      · rw [if_pos h3, List.getElem?_eq_getElem (by omega), Option.getD_some]
      · rw [if_neg h3, List.getElem?_eq_getElem hm, Option.getD_some]
        congr 1
        omega
    rw [← this]
    exact h1

abbrev boolA (s : Sl) (bs : List Bool) : Asn := rowA 4 1 s bs.length (bs.map Value.bool)

theorem _root_.Go.Lf.Sep.boolAt {B : Nat} {w : World} {l : List Asn} (k : Nat) {s : Sl} {bs : List Bool} (hk : l[k]? = some (boolA s bs)) (h : Sep B w l) {j : Nat} (hj : j < bs.length) : ∃ q, s.a = some q ∧ w.cell? (q.add j) = some (.bool (bs[j]?.getD false)) := by
  obtain ⟨q, hq, hc⟩ := h.rowCell k hk (j := j) (by rw [List.length_map]; exact hj)
  exact ⟨q, hq, hc j _ (by rw [List.getElem?_map, List.getElem?_eq_getElem hj]; rfl)⟩
theorem _root_.Go.Lf.Sep.boolSet {B : Nat} {w : World} {l : List Asn} (k : Nat) {s : Sl} {bs : List Bool} (hk : l[k]? = some (boolA s bs)) (h : Sep B w l) {q : Addr} (hq : s.a = some q) {j : Nat} (hj : j < bs.length) (b : Bool) :
    Wr w (q.add j) ∧ Sep B (w.setCell (q.add j) (.bool b)) (l.set k (boolA s (bs.set j b))) ∧ Below B w (w.setCell (q.add j) (.bool b)) := by
  refine ⟨h.rowWr k hk hq (by rw [List.length_map]; exact hj), ?_⟩
  have := h.rowSet k hk hq (j := j) (by rw [List.length_map]; exact hj) (.bool b)
  unfold boolA
  rw [List.map_set, List.length_set]
  exact this

theorem _root_.Go.Lf.Sep.bools {B : Nat} {w : World} {R : List Asn} (h : Sep B w R) {n : Nat} (hn : n ≤ 1000000000) :
    Sep B (w.alloc (.cells ((Array.range (n * 1)).map ((#[.bool false] : Array Value)[· % (#[.bool false] : Array Value).size]!)) 4)) (boolA ⟨some (newA w), n, n⟩ (List.replicate n false) :: R) ∧ Below B w (w.alloc (.cells ((Array.range (n * 1)).map ((#[.bool false] : Array Value)[· % (#[.bool false] : Array Value).size]!)) 4)) := by
  rw [range_cells]
  have hb := below_alloc w (.cells (List.replicate n (Value.bool false)).toArray 4)
  refine ⟨?_, hb.mono h.le⟩
  have := h.row (e := 4) (size := 1) (s := ⟨some (newA w), n, n⟩) (n := n) (vs := List.replicate n (Value.bool false)) (row_made (n := n) (by simp) (by unfold maxLen; omega)) hb
  unfold boolA
  rw [List.length_replicate, List.map_replicate]
  exact this

theorem range'_filter (p : Nat → Bool) (n k : Nat) : (List.range' n (k + 1)).filter p = if p n = true then n :: (List.range' (n + 1) k).filter p else (List.range' (n + 1) k).filter p := by
  rw [List.range'_succ, List.filter_cons]

theorem own_more {B : Nat} {w : World} {l : List Asn} (k : Nat) {s : Sl} {xs : List Int} (hk : l[k]? = some (ownA s xs)) (h : Sep B w l) (x : Int) (hx : xs.length ≤ 100000000) :
    ∃ (s' : Sl) (w' : World), (builtin .append #[29, 29] 29 #[] #[.slice s.a s.len s.cap, .slice (some (newA w)) 1 1]).run Tryd.prog (w.alloc (.cells #[.int .i64 x] 3)) = .ok (.value (.slice s'.a s'.len s'.cap)) w' ∧ Sep B w' (l.set k (ownA s' (xs ++ [x]))) ∧ Below B w w' := by
  obtain ⟨i, hi, hz, hsz, hby⟩ := t3
  have hb1 := below_alloc w (.cells #[.int .i64 x] 3)
  have h1 := h.keep hb1
  obtain ⟨s', w', hr, _, h2, hb2⟩ := Sep.append (ty := 29) (c := 1) (m := 1) Tryd.underlying29 hi hz hsz hby rfl (by omega) k hk h1 (a := newA w) (news := [.int .i64 x]) rfl (fun j u hu => by rw [← hu]; exact (cell_new w #[.int .i64 x] 3 j).trans (by simp))
    (by intro u hu; simp at hu; subst hu; rfl) (by unfold maxLen; omega) (by omega) (by omega)
  refine ⟨s', w', hr, ?_, (hb1.mono h.le).trans hb2⟩
  unfold ownA
  rw [List.map_append, List.length_append]
  exact h2

set_option maxRecDepth 100000 in
theorem beneath_spec {B : Nat} {w : World} {p : Addr} {N : Nds} {R : List Asn} (h : Sep B w (arA p N :: R)) (i : Int) :
    CallsV Tryd.prog n_term_Arena_Beneath #[.pointer (some p), .int .i64 i] w fun v w' => ∃ s' : Sl, v = .tuple #[.slice s'.a s'.len s'.cap, .int .i64 (if inT (terms N) i then 0 else 8)] ∧
      Sep B w' (ownA s' (if inT (terms N) i then underT (terms N) i.toNat else []) :: arA p N :: R) ∧ Below B w w' := by
  refine term_Arena_Beneath.lift ?_
  unfold term_Arena_Beneath.main
  intro w5
  have hb5 : Below w.heap.size w w5 := below_alloc _ _
  have h5 := h.keep hb5
  have hB5 := hb5.mono h.le
  have hI : Ints .i64 w5 ⟨some (newA w), 1, 1⟩ [i] := ints_one i
  clear_value w5
  obtain ⟨⟨sl, m⟩, ⟨hok, hcaps⟩, hS⟩ := h5.unfold
  have hS : Sep B w5 (arL 43 p N sl m ++ R) := hS
  have hsl : sl.len = N.length := (hS.rowLen 1 rfl).1
  have hfew := hok.few
  rw [terms_len] at hfew
  refine (has_spec (s := ⟨some (newA w), 1, 1⟩) (T := terms N) (by rw [terms_len, ← hsl]; exact hS.cell0 0 rfl rfl) hI).mono ?_
  rintro _ _ ⟨rfl, rfl⟩
  have e9 : (∀ x ∈ [i], inT (terms N) x) ↔ inT (terms N) i := by simp
  refine ⟨_, rfl, cond_not (fun hb => ?_) fun hb => ?_⟩
  · have hb : ¬ inT (terms N) i := fun h => of_decide_eq_false hb (e9.2 h)
    rw [if_neg hb, if_neg hb]
    exact ⟨⟨none, 0, 0⟩, rfl, h5.rowNil 3 1, hB5⟩
  have hb := e9.1 (of_decide_eq_true hb)
  rw [if_pos hb, if_pos hb]
  have hi : 0 ≤ i ∧ i < (N.length : Int) := by unfold inT at hb; rw [terms_len] at hb; exact hb
  obtain ⟨n, rfl⟩ : ∃ n : Nat, i = n := ⟨i.toNat, by omega⟩
  rw [Int.toNat_natCast]
  have hn : n < (terms N).length := by rw [terms_len]; omega
  have hdown := ok_down hok
  rw [inc (by omega)]
  refine ⟨by omega, by omega, by omega, by omega, ?_⟩
  have en : (((n + 1 : Nat) : Int)).toNat = n + 1 := by omega
  rw [en]
  intro w7
  obtain ⟨h7, hb7⟩ := hS.bools (n := n + 1) (by omega)
  have h7 : Sep B w7 (boolA ⟨some (newA w5), n + 1, n + 1⟩ (List.replicate (n + 1) false) :: (arL 43 p N sl m ++ R)) := h7
  have hB7 : Below B w w7 := hB5.trans hb7
  clear_value w7
  generalize hq0 : newA w5 = q0 at h7 ⊢
  refine ⟨by omega, by omega, q0, rfl, ?_⟩
  obtain ⟨wr8, h8, hb8⟩ := h7.boolSet 0 rfl (q := q0) rfl (j := n) (by simp) true
  refine ⟨wr8, ?_⟩
  intro w8
  have h8 : Sep B w8 (boolA ⟨some q0, n + 1, n + 1⟩ ((List.replicate (n + 1) false).set n true) :: (arL 43 p N sl m ++ R)) := h8
  have hB8 : Below B w w8 := hB7.trans hb8
  clear_value w8
  have h9 : Sep B w8 (ownA ⟨none, 0, 0⟩ [] :: boolA ⟨some q0, n + 1, n + 1⟩ ((List.replicate (n + 1) false).set n true) :: (arL 43 p N sl m ++ R)) := h8.rowNil 3 1
  generalize hRR : (fun (v : Value) (w' : World) => ∃ s' : Sl, v = .tuple #[.slice s'.a s'.len s'.cap, .int .i64 0] ∧ Sep B w' (ownA s' (underT (terms N) n) :: arA p N :: R) ∧ Below B w w') = RR
  have isU_at : ∀ (k : Nat) (bs : List Bool), k ≤ n + 1 → sweep (terms N) k bs = finT (terms N) (n + 1) n → ∀ j, k ≤ j → bs[j]?.getD false = isU (terms N) n j := by
    intro k bs hk hsw j hj
    unfold isU
    rw [← hsw, sweep_above hdown k bs j (by omega) hj]
  unfold term_Arena_Beneath.l2
  refine ⟨fun st w' => ∃ (k : Nat) (bs : List Bool), st.2 = (k : Int) - 1 ∧ k ≤ n + 1 ∧ bs.length = n + 1 ∧ sweep (terms N) k bs = finT (terms N) (n + 1) n ∧
      Sep B w' (ownA st.1 (((List.range' k (n + 1 - k)).filter (isU (terms N) n)).map fun k => ((k : Nat) : Int)).reverse :: boolA ⟨some q0, n + 1, n + 1⟩ bs :: (arL 43 p N sl m ++ R)) ∧ Below B w w', fun st _ => (st.2 + 1).toNat,
    ⟨n + 1, (List.replicate (n + 1) false).set n true, by (try dsimp only); omega, Nat.le_refl _, by simp, rfl, by rw [Nat.sub_self]; exact h9, hB8⟩, ?_⟩
  rintro ⟨out, _⟩ w1 ⟨k, bs, hk0, hk, hbl, hsw, h1, hB1⟩
  simp only at hk0 h1
  subst hk0
  unfold term_Arena_Beneath.b2
  refine cond_d (fun hge => ?_) fun hlt => ?_
  · obtain ⟨k, rfl⟩ : ∃ k', k = k' + 1 := ⟨k - 1, by omega⟩
    have ek : ((k + 1 : Nat) : Int) - 1 = (k : Int) := by omega
    rw [ek]
    have hkb : k < bs.length := by omega
    obtain ⟨q1, hq1, hc1⟩ := h1.boolAt 1 rfl (j := k) hkb
    obtain rfl := Option.some.inj hq1
    have hwrap : IntKind.i64.wrap ((k : Int) - 1) = (k : Int) - 1 := w64 (by omega)
    have hrange : n + 1 - k = (n + 1 - (k + 1)) + 1 := by omega
    refine ⟨by omega, by simp only; omega, q0, rfl, _, by rw [Int.toNat_natCast]; exact hc1, ?_⟩
    have hsweep : sweep (terms N) (k + 1) bs = sweep (terms N) k (if bs[k]?.getD false = true then markL bs (tmAt (terms N) (k : Int)).args else bs) := rfl
    refine cond_not (fun hf => ?_) fun ht => ?_
    · rw [hf, if_neg (by simp)] at hsweep
      have hu : isU (terms N) n k = false := by
        rw [← isU_at k bs (by omega) (by rw [← hsweep]; exact hsw) k (Nat.le_refl _)]; exact hf
      rw [hwrap]
      refine ⟨⟨rfl, rfl, k, bs, rfl, by omega, hbl, by rw [← hsweep]; exact hsw, ?_, hB1⟩, by (try dsimp only); omega⟩
      rw [hrange, range'_filter, hu, if_neg (by simp)]
      exact h1
    · rw [ht, if_pos rfl] at hsweep
      intro w3
      obtain ⟨s4, w4, hr4, h4, hb4⟩ := own_more 0 rfl h1 (k : Int) (by
        rw [List.length_reverse, List.length_map]
        have := List.length_filter_le (isU (terms N) n) (List.range' (k + 1) (n + 1 - (k + 1)))
        rw [List.length_range'] at this
        omega)
      have h4 : Sep B w4 (ownA s4 ((((List.range' (k + 1) (n + 1 - (k + 1))).filter (isU (terms N) n)).map fun k => ((k : Nat) : Int)).reverse ++ [(k : Int)]) :: boolA ⟨some q0, n + 1, n + 1⟩ bs :: (arL 43 p N sl m ++ R)) := h4
      have hB4 := hB1.trans hb4
      have hkN : k < (terms N).length := by omega
      obtain ⟨hin, hat⟩ := at_nat hkN
      obtain ⟨sx, hx⟩ := terms_of hat
      obtain ⟨q, hq, hc⟩ := h4.rowGet 3 (by omega) nodeC.w rfl hx
      have hkN' : k < N.length := by rw [← terms_len]; exact hkN
      refine ⟨_, _, _, _, hr4, p, rfl, _, _, _, h4.cell0 2 rfl rfl, by omega, by omega, q, hq, _, _, _, by rw [Int.toNat_natCast]; exact hc 2 _ rfl, ?_⟩
      have hIx := argsAt 5 rfl h4 hx
      have hxl := hIx.len
      have hxl : sx.len = (tmAt (terms N) (k : Int)).args.length := hxl
      obtain ⟨o1, o2, o3, o4, o5, o6⟩ := ok_at hok hin
      have hml := most_le (tmAt (terms N) (k : Int)).kind
      unfold term_Arena_Beneath.l3
      refine ⟨fun t w' => ∃ j : Nat, t = j ∧ j ≤ (tmAt (terms N) (k : Int)).args.length ∧ Sep B w' (ownA s4 ((((List.range' (k + 1) (n + 1 - (k + 1))).filter (isU (terms N) n)).map fun k => ((k : Nat) : Int)).reverse ++ [(k : Int)]) :: boolA ⟨some q0, n + 1, n + 1⟩ (markL bs ((tmAt (terms N) (k : Int)).args.take j)) :: (arL 43 p N sl m ++ R)) ∧ Below B w w',
        fun t _ => (tmAt (terms N) (k : Int)).args.length - t.toNat, ⟨0, rfl, Nat.zero_le _, h4, hB4⟩, ?_⟩
      rintro _ w6 ⟨j, rfl, hj, h6, hB6⟩
      unfold term_Arena_Beneath.b3
      refine cond_d (p := ((j : Nat) : Int) < ((sx.len : Nat) : Int)) (fun hjl => ?_) fun hjg => ?_
      · have hj' : j < (tmAt (terms N) (k : Int)).args.length := by omega
        have hI6 := argsAt 5 rfl h6 hx
        obtain ⟨q2, hq2, hc2⟩ := hI6.get (i := (j : Int)) (by omega) (by simp only; omega)
        have hc2 : w6.cell? (q2.add j) = some (.int .i64 (tmAt (terms N) (k : Int)).args[j]) := by
          rw [Int.toNat_natCast] at hc2
          rw [hc2]
          show some (Value.int .i64 ((tmAt (terms N) (k : Int)).args[j]?.getD 0)) = _
          rw [List.getElem?_eq_getElem hj']; rfl
        obtain ⟨g0, g1⟩ := o5 _ (List.getElem_mem hj')
        have hgl : (tmAt (terms N) (k : Int)).args[j].toNat < (markL bs ((tmAt (terms N) (k : Int)).args.take j)).length := by rw [mark_len]; omega
        obtain ⟨wr7, h7, hb7⟩ := h6.boolSet 1 rfl (q := q0) rfl hgl true
        refine ⟨by omega, by (try simp only); omega, q2, hq2, _, by rw [Int.toNat_natCast]; exact hc2, g0, by simp only; omega, q0, rfl, wr7, ?_⟩
        rw [inc (by omega)]
        refine ⟨⟨rfl, rfl, rfl, rfl, rfl, rfl, j + 1, rfl, by omega, ?_, hB6.trans hb7⟩, by (try dsimp only); omega⟩
        rw [List.take_succ_eq_append_getElem hj', mark_more]
        exact h7
      · have hje : j = (tmAt (terms N) (k : Int)).args.length := by omega
        rw [hje, List.take_length] at h6
        rw [hwrap]
        have hu : isU (terms N) n k = true := by
          rw [← isU_at k _ (by omega) (by rw [← hsweep]; exact hsw) k (Nat.le_refl _), mark_other _ _ (fun x hx => by have := o5 x hx; omega)]
          exact ht
        refine ⟨⟨rfl, rfl, k, markL bs (tmAt (terms N) (k : Int)).args, rfl, by omega, by rw [mark_len, hbl], by rw [← hsweep]; exact hsw, ?_, hB6⟩, by (try dsimp only); omega⟩
        rw [hrange, range'_filter, hu, if_pos rfl, List.map_cons, List.reverse_cons]
        exact h6
  · have hk0 : k = 0 := by omega
    subst hk0
    have eU : ((List.range' 0 (n + 1 - 0)).filter (isU (terms N) n)).map (fun k => ((k : Nat) : Int)) = underT (terms N) n := by
      unfold underT
      rw [Nat.sub_zero, List.range_eq_range']
    rw [eU] at h1
    have hul : (underT (terms N) n).length ≤ n + 1 := by
      unfold underT
      rw [List.length_map]
      have := List.length_filter_le (isU (terms N) n) (List.range (n + 1))
      rw [List.length_range] at this
      exact this
    unfold term_Arena_Beneath.c1
    refine (rev_spec h1 (by rw [List.length_reverse]; omega)).mono ?_
    rintro _ w2 ⟨rfl, h2, hb2⟩
    refine ⟨rfl, ?_⟩
    rw [List.reverse_reverse] at h2
    rw [← hRR]
    refine ⟨out, rfl, ?_, hB1.trans hb2⟩
    have h3 : Sep B w2 (arL 43 p N sl m ++ (ownA out (underT (terms N) n) :: boolA ⟨some q0, n + 1, n + 1⟩ bs :: R)) := Sep.comm (l := [ownA out (underT (terms N) n), boolA ⟨some q0, n + 1, n + 1⟩ bs]) h2
    have h4 : Sep B w2 (arA p N :: ownA out (underT (terms N) n) :: boolA ⟨some q0, n + 1, n + 1⟩ bs :: R) := Sep.fold (sl, m) ⟨hok, hcaps⟩ h3
    exact Sep.mid (L := [ownA out (underT (terms N) n), arA p N]) h4.swap

end Go.Proofs.YtpihglmgkfecbaaDoor
