/-
  Rounds of servers: permutations; what is wrong with a round: contracts.
-/
import Derived.Test.YtoclhecldmahiaaDoorMxI
set_option linter.unusedVariables false
set_option linter.unusedVariables false
set_option linter.unusedSimpArgs false
namespace Go.Proofs.YtoclhecldmahiaaDoor
open Go.Lf Go.RowKit

def permOk (p : List Int) (n : Nat) : Prop := p.length = n ∧ (∀ x ∈ p, 0 ≤ x ∧ x < n) ∧ p.Nodup
instance (p : List Int) (n : Nat) : Decidable (permOk p n) := by unfold permOk; infer_instance

/-- rows of numbers that are read, and where they stand -/
structure Rw (w : World) (s : Sl) (Z : List (Sl × List Int)) : Prop where
  len : s.len = Z.length
  cell : ∀ (i : Nat) (z : Sl × List Int), Z[i]? = some z → ∃ q, s.a = some q ∧ w.cell? (q.add i) = some (.slice z.1.a z.1.len z.1.cap) ∧ Ints .i64 w z.1 z.2
theorem Rw.below {w w' : World} {s : Sl} {Z : List (Sl × List Int)} (h : Rw w s Z) (hb : Below w.heap.size w w') : Rw w' s Z :=
  ⟨h.len, fun i z hz => by obtain ⟨q, hq, h1, h2⟩ := h.cell i z hz; exact ⟨q, hq, Below.here hb h1, h2.keep hb⟩⟩
def rowsP (Z : List (Sl × List Int)) : List (List Int) := Z.map (·.2)
def rowP (Z : List (Sl × List Int)) (k : Nat) : List Int := ((Z[k]?).getD (⟨none, 0, 0⟩, [])).2
theorem rowsP_mem {Z : List (Sl × List Int)} {k : Nat} (hk : k < Z.length) : rowP Z k ∈ rowsP Z := by
  unfold rowP rowsP
  rw [List.getElem?_eq_getElem hk]
  exact List.mem_map.2 ⟨_, List.getElem_mem hk, rfl⟩

/-- what the servers hold -/
structure MxS where
  regs : List Rg
  seen : Nat → List Int
abbrev sV (s : Sl) : Value := .slice s.a s.len s.cap

def allIn (T : List Tm) (st : MxS) (secs l : List Int) : Prop := (∀ r ∈ st.regs, inT T r.1 ∧ inT T r.2) ∧ (∀ x ∈ secs, inT T x) ∧ (∀ x ∈ l, inT T x) ∧ ∀ k, k < 3 → ∀ x ∈ st.seen k, inT T x
instance (T : List Tm) (st : MxS) (secs l : List Int) : Decidable (allIn T st secs l) := by
  have i1 : Decidable (∀ r ∈ st.regs, inT T r.1 ∧ inT T r.2) := inferInstance
  have i2 : Decidable ((∀ x ∈ secs, inT T x) ∧ (∀ x ∈ l, inT T x) ∧ ∀ k, k < 3 → ∀ x ∈ st.seen k, inT T x) := inferInstance
  exact instDecidableAnd

def wrongT (T : List Tm) (st : MxS) (secs l : List Int) (P : List (List Int)) : Int :=
  if secs.length ≠ 3 ∨ P.length ≠ 3 ∨ 100 < l.length then 2 else if ¬ ∀ p ∈ P, permOk p l.length then 1 else
  if ¬ allIn T st secs l then 8 else 0

section
variable {W w w' : World} {L R : List Asn} {p : Addr} {T : List Tm}

theorem At.setNum (h : At W w L) (k : Nat) {s : Sl} {xs : List Int} (hk : L[k]? = some (ownA s xs)) {q : Addr} (hq : s.a = some q) {j : Nat} (hj : j < xs.length) (y : Int) :
    Wr w (q.add j) ∧ At W (w.setCell (q.add j) (.int .i64 y)) (L.set k (ownA s (xs.set j y))) := by
  have hj' : j < (xs.map (Value.int .i64)).length := by simpa using hj
  refine ⟨h.s.rowWr k hk hq hj', ?_⟩
  obtain ⟨h1, b1⟩ := h.s.rowSet k hk hq hj' (.int .i64 y)
  refine h.go ?_ b1
  unfold ownA
  rw [List.length_set, List.map_set]
  exact h1
theorem At.zeros (h : At W w R) {n : Nat} (hn : n ≤ 1000000) : At W (w.alloc (.cells ((Array.range (n * 1)).map ((#[.int .i64 0] : Array Value)[· % (#[.int .i64 0] : Array Value).size]!)) 3)) (ownA ⟨some (newA w), n, n⟩ (List.replicate n 0) :: R) :=
  h.own (make_ints (by unfold maxLen; omega)) (below_alloc _ _)

theorem index_spec {s : Sl} {xs : List Int} (h : Ints .i64 w s xs) (x : Int) :
    CallsV Tryd.prog n_slices_Index_int #[.slice s.a s.len s.cap, .int .i64 x] w fun v w' => ∃ y : Int, v = .int .i64 y ∧ (y ≥ 0 ↔ x ∈ xs) ∧ w = w' := by
  refine slices_Index_int.lift ?_
  unfold slices_Index_int.main slices_Index_int.l1
  have hl := h.len
  have hs := h.small
  refine ⟨fun t w' => ∃ k : Nat, t = k ∧ k ≤ xs.length ∧ x ∉ xs.take k ∧ w = w', fun t _ => xs.length - t.toNat, ⟨0, rfl, Nat.zero_le _, by simp, rfl⟩, ?_⟩
  rintro _ _ ⟨k, rfl, hk, hn, rfl⟩
  unfold slices_Index_int.b1
  refine cond_d (p := ((k : Nat) : Int) < ((s.len : Nat) : Int)) (fun hlt => ?_) fun hge => ?_
  · have hkl : k < xs.length := by omega
    obtain ⟨q, hq, hc⟩ := h.get (i := (k : Int)) (by omega) (by omega)
    rw [Int.toNat_natCast, List.getElem?_eq_getElem hkl, Option.getD_some] at hc
    refine ⟨by omega, hlt, q, hq, _, by rw [Int.toNat_natCast]; exact hc, cond_e (fun he => ?_) fun he => ?_⟩
    · exact ⟨_, rfl, ⟨fun _ => by rw [he]; exact List.getElem_mem hkl, fun _ => by omega⟩, rfl⟩
    · rw [inc (by omega)]
      refine ⟨⟨rfl, rfl, rfl, k + 1, rfl, by omega, ?_, rfl⟩, by (try dsimp only); omega⟩
      rw [List.take_succ_eq_append_getElem hkl, List.mem_append, List.mem_singleton]
      rintro (h | h)
      · exact hn h
      · exact he h
  · rw [List.take_of_length_le (by omega)] at hn
    exact ⟨-1, rfl, ⟨fun h => by omega, fun h => absurd h hn⟩, rfl⟩
theorem contains_spec {s : Sl} {xs : List Int} (h : Ints .i64 w s xs) (x : Int) :
    CallsV Tryd.prog n_slices_Contains_int #[.slice s.a s.len s.cap, .int .i64 x] w fun v w' => v = .bool (decide (x ∈ xs)) ∧ w = w' := by
  refine slices_Contains_int.lift ?_
  unfold slices_Contains_int.main
  refine (index_spec h x).mono ?_
  rintro _ _ ⟨y, rfl, hy, rfl⟩
  refine ⟨_, rfl, ?_, rfl⟩
  congr 1
  exact decide_eq_decide.2 hy
theorem perm_at (h : At W w R) {s : Sl} {ps : List Int} {n : Nat} (hn : n ≤ 1000000) (hI : ∀ L w', At W w' (L ++ R) → Ints .i64 w' s ps) :
    CallsV Tryd.prog n_mix_permutation #[.slice s.a s.len s.cap, .int .i64 (n : Int)] w fun v w' => v = .bool (decide (permOk ps n)) ∧ At W w' R := by
  refine mix_permutation.lift ?_
  unfold mix_permutation.main
  have hl := (hI [] w h).len
  have hsm := (hI [] w h).small
  have bad : ¬ permOk ps n → (Value.bool false) = .bool (decide (permOk ps n)) := fun hh => by rw [decide_eq_false hh]
  refine ⟨by omega, by omega, by omega, by omega, ?_⟩
  intro w2
  obtain ⟨h2s, b2⟩ := h.s.bools (n := n) (by omega)
  have h2 : At W w2 (boolA ⟨some (newA w), n, n⟩ (List.replicate n false) :: R) := h.go h2s b2
  have etk : (⟨some (newA w), ((n : Int)).toNat, ((n : Int)).toNat⟩ : Sl) = ⟨some (newA w), n, n⟩ := rfl
  rw [etk]
  generalize (⟨some (newA w), n, n⟩ : Sl) = sb at h2 ⊢
  clear_value w2
  unfold mix_permutation.l2
  refine ⟨fun t w' => ∃ (k : Nat) (bs : List Bool), t = k ∧ k ≤ ps.length ∧ bs.length = n ∧ (∀ x ∈ ps.take k, 0 ≤ x ∧ x < n) ∧ (ps.take k).Nodup ∧ (∀ j : Nat, j < n → bs[j]?.getD false = decide ((j : Int) ∈ ps.take k)) ∧ At W w' (boolA sb bs :: R), fun t _ => ps.length - t.toNat,
    ⟨0, List.replicate n false, rfl, Nat.zero_le _, by simp, by simp, by simp, fun j hj => by simp [hj], h2⟩, ?_⟩
  clear h2 h2s b2 h
  rintro _ w3 ⟨k, bs, rfl, hk, hbl, hr, hnd, hb, h3⟩
  unfold mix_permutation.b2
  have hsl : sb.len = n := by rw [(h3.s.rowLen 0 rfl).1, hbl]
  refine cond_d (p := ((k : Nat) : Int) < ((s.len : Nat) : Int)) (fun hlt => ?_) fun hge => ?_
  · have hkl : k < ps.length := by omega
    have et : ps.take (k + 1) = ps.take k ++ [ps[k]] := List.take_succ_eq_append_getElem hkl
    obtain ⟨q, hq, hc⟩ := (hI [_] w3 h3).get (i := (k : Int)) (by omega) (by omega)
    rw [Int.toNat_natCast, List.getElem?_eq_getElem hkl, Option.getD_some] at hc
    refine ⟨by omega, hlt, q, hq, _, by rw [Int.toNat_natCast]; exact hc, cond_d (fun hneg => ?_) fun hneg => cond_d (fun hbig => ?_) fun hbig => ?_⟩
    · exact ⟨bad fun hh => by have := hh.2.1 _ (List.getElem_mem hkl); omega, h3.drop⟩
    · exact ⟨bad fun hh => by have := hh.2.1 _ (List.getElem_mem hkl); omega, h3.drop⟩
    · have hxn : ps[k].toNat < n := by omega
      obtain ⟨qb, hqb, hcb⟩ := h3.s.boolAt 0 rfl (j := ps[k].toNat) (by omega)
      have hbx := hb ps[k].toNat hxn
      rw [show ((ps[k].toNat : Nat) : Int) = ps[k] by omega] at hbx
      rw [hbx] at hcb
      refine ⟨by omega, by omega, qb, hqb, _, hcb, cond_c (fun hin => ?_) fun hout => ?_⟩
      · have hin := of_decide_eq_true hin
        refine ⟨bad fun hh => ?_, h3.drop⟩
        have hnd2 : (ps.take (k + 1)).Nodup := hh.2.2.sublist (List.take_sublist _ _)
        rw [et, List.nodup_append] at hnd2
        exact hnd2.2.2 _ hin _ (by simp) rfl
      · have hout := of_decide_eq_false hout
        unfold mix_permutation.c3
        obtain ⟨wr, h4s, b4⟩ := h3.s.boolSet 0 rfl hqb (j := ps[k].toNat) (by omega) true
        refine ⟨by omega, by omega, qb, hqb, wr, ?_⟩
        dsimp only
        rw [inc (by omega)]
        refine ⟨⟨rfl, rfl, rfl, rfl, rfl, k + 1, bs.set ps[k].toNat true, rfl, by omega, by rw [List.length_set]; exact hbl, ?_, ?_, ?_, h3.go h4s b4⟩, by omega⟩
        · intro x hx
          rw [et, List.mem_append, List.mem_singleton] at hx
          rcases hx with hx | rfl
          · exact hr x hx
          · omega
        · rw [et, List.nodup_append]
          refine ⟨hnd, by simp, fun x hx y hy => ?_⟩
          rw [List.mem_singleton] at hy
          rintro rfl
          subst hy
          exact hout hx
        · intro j hj
          rw [List.getElem?_set, et]
          by_cases hjx : ps[k].toNat = j
          · rw [if_pos hjx, if_pos (by omega)]
            have : (j : Int) = ps[k] := by omega
            rw [this]
            exact (decide_eq_true (List.mem_append.2 (.inr (List.mem_singleton.2 rfl)))).symm
          · rw [if_neg hjx, hb j hj, decide_eq_decide, List.mem_append, List.mem_singleton]
            exact ⟨.inl, fun h => h.elim id fun h => absurd (by omega) hjx⟩
  · unfold mix_permutation.c1
    rw [List.take_of_length_le (by omega)] at hr hnd
    refine ⟨?_, h3.drop⟩
    congr 1
    by_cases hh : ps.length = n
    · rw [decide_eq_true (show permOk ps n from ⟨hh, hr, hnd⟩)]
      rw [beq_iff_eq]; omega
    · rw [decide_eq_false (show ¬ permOk ps n from fun hp => hh hp.1), beq_eq_false_iff_ne]; omega

/-- what is wrong with a round -/
theorem mixwrong_at (h : At W w (arT p T :: R)) {sr sec sl sp : Sl} {ss : Nat → Sl} {st : MxS} {secs l : List Int} {Z : List (Sl × List Int)} (hrl : st.regs.length ≤ 1000000)
    (hR : ∀ L w', At W w' (L ++ R) → Regs w' sr st.regs) (hSe : ∀ k, k < 3 → ∀ L w', At W w' (L ++ R) → Ints .i64 w' (ss k) (st.seen k))
    (hSc : ∀ L w', At W w' (L ++ R) → Ints .i64 w' sec secs) (hL : ∀ L w', At W w' (L ++ R) → Ints .i64 w' sl l) (hP : ∀ L w', At W w' (L ++ R) → Rw w' sp Z) :
    CallsV Tryd.prog n_mix_wrong #[.pointer (some p), .agg #[sV sr, sV (ss 0), sV (ss 1), sV (ss 2)], sV sec, sV sl, sV sp] w fun v w' => v = .int .i64 (wrongT T st secs l (rowsP Z)) ∧ At W w' (arT p T :: R) := by
  refine mix_wrong.lift (st1_0 := sr) (st1_1 := ss 0) (st1_2 := ss 1) (st1_3 := ss 2) (secrets2 := sec) (in3 := sl) (perms4 := sp) ?_
  unfold mix_wrong.main
  have l1 := (hSc [_] w h).len
  have l2 := (hL [_] w h).len
  have l3 := (hP [_] w h).len
  have l4 : (rowsP Z).length = Z.length := by simp [rowsP]
  intro w1
  have h1 : At W w1 (boxA (newA w) [sV sr, sV (ss 0), sV (ss 1), sV (ss 2)] :: arT p T :: R) := h.box 127 [sV sr, sV (ss 0), sV (ss 1), sV (ss 2)]
  clear_value w1
  generalize newA w = sb at h1 ⊢
  have h1 : At W w1 (arT p T :: boxA sb [sV sr, sV (ss 0), sV (ss 1), sV (ss 2)] :: R) := h1.swap
  refine cond_n (fun hne => ⟨by unfold wrongT; rw [if_pos (.inl (by omega))], h1.swap.drop⟩) fun e1 => cond_n (fun hne => ⟨by unfold wrongT; rw [if_pos (.inr (.inl (by omega)))], h1.swap.drop⟩) fun e2 => cond_d (fun hgt => ⟨by unfold wrongT; rw [if_pos (.inr (.inr (by omega)))], h1.swap.drop⟩) fun e3 => ?_
  have hlens : ¬ (secs.length ≠ 3 ∨ (rowsP Z).length ≠ 3 ∨ 100 < l.length) := by omega
  have hw1 : wrongT T st secs l (rowsP Z) = if ¬ ∀ p ∈ rowsP Z, permOk p l.length then 1 else if ¬ allIn T st secs l then 8 else 0 := by
    unfold wrongT; rw [if_neg hlens]
  rw [hw1]
  unfold mix_wrong.c6 mix_wrong.l5
  refine ⟨fun t w' => ∃ k : Nat, t = k ∧ k ≤ Z.length ∧ (∀ q ∈ (rowsP Z).take k, permOk q l.length) ∧ At W w' (arT p T :: boxA sb [sV sr, sV (ss 0), sV (ss 1), sV (ss 2)] :: R), fun t _ => Z.length - t.toNat, ⟨0, rfl, Nat.zero_le _, by simp, h1⟩, ?_⟩
  clear h1
  rintro _ w2 ⟨k, rfl, hk, hall, h2⟩
  unfold mix_wrong.b5
  refine cond_d (p := ((k : Nat) : Int) < ((sp.len : Nat) : Int)) (fun hlt => ?_) fun hge => ?_
  · have hkl : k < Z.length := by omega
    have et : (rowsP Z).take (k + 1) = (rowsP Z).take k ++ [Z[k].2] := by
      rw [List.take_succ_eq_append_getElem (by omega)]
      simp [rowsP]
    obtain ⟨q, hq, hc, _⟩ := (hP [_, _] w2 h2).cell k _ (List.getElem?_eq_getElem hkl)
    refine ⟨by omega, hlt, q, hq, _, _, _, by rw [Int.toNat_natCast]; exact hc, ?_⟩
    have hkeep : ∀ L w', At W w' (L ++ (arT p T :: boxA sb [sV sr, sV (ss 0), sV (ss 1), sV (ss 2)] :: R)) → Ints .i64 w' Z[k].1 Z[k].2 := by
      intro L w' hw
      obtain ⟨_, _, _, hI⟩ := (hP (L ++ [_, _]) w' (by rw [List.append_assoc]; exact hw)).cell k _ (List.getElem?_eq_getElem hkl)
      exact hI
    rw [l2]
    refine (perm_at h2 (s := Z[k].1) (ps := Z[k].2) (n := l.length) (by omega) hkeep).mono ?_
    rintro _ w3 ⟨rfl, h3⟩
    refine ⟨_, rfl, cond_not (fun hf => ?_) fun ht => ?_⟩
    · have hf := of_decide_eq_false hf
      exact ⟨by rw [if_pos (fun hh => hf (hh _ (List.mem_map.2 ⟨_, List.getElem_mem hkl, rfl⟩)))], h3.swap.drop⟩
    · have ht := of_decide_eq_true ht
      rw [inc (by omega)]
      refine ⟨⟨rfl, rfl, rfl, rfl, rfl, rfl, k + 1, rfl, by omega, fun x hx => ?_, h3⟩, by (try dsimp only); omega⟩
      rw [et, List.mem_append, List.mem_singleton] at hx
      rcases hx with hx | rfl
      · exact hall x hx
      · exact ht
  · rw [List.take_of_length_le (by omega)] at hall
    rw [if_neg (fun hh => hh hall)]
    have c3 : ∀ (w' : World) (b : Bool), b = decide ((∀ r ∈ st.regs, inT T r.1 ∧ inT T r.2) ∧ (∀ x ∈ secs, inT T x) ∧ ∀ x ∈ l, inT T x) → At W w' (arT p T :: boxA sb [sV sr, sV (ss 0), sV (ss 1), sV (ss 2)] :: R) →
        mix_wrong.c3 (fun v w' => v = .int .i64 (if ¬ allIn T st secs l then 8 else 0) ∧ At W w' (arT p T :: R)) (some p) sb b w' := by
      rintro w' _ rfl h'
      unfold mix_wrong.c3
      refine ⟨_, _, _, h'.s.cell 1 rfl 1 rfl, _, _, _, by rw [add_add]; exact h'.s.cell 1 rfl 2 rfl, _, _, _, by rw [add_add]; exact h'.s.cell 1 rfl 3 rfl, ?_⟩
      unfold mix_wrong.l2
      refine ⟨fun t w' => ∃ k : Nat, t.2 = k ∧ k ≤ 3 ∧ t.1 = decide (((∀ r ∈ st.regs, inT T r.1 ∧ inT T r.2) ∧ (∀ x ∈ secs, inT T x) ∧ ∀ x ∈ l, inT T x) ∧ ∀ j, j < k → ∀ x ∈ st.seen j, inT T x) ∧ At W w' (arT p T :: boxA sb [sV sr, sV (ss 0), sV (ss 1), sV (ss 2)] :: R), fun t _ => 3 - t.2.toNat, ⟨0, rfl, by omega, by simp, h'⟩, ?_⟩
      clear h'
      rintro ⟨_, _⟩ w4 ⟨k, rfl, hk, rfl, h4⟩
      show mix_wrong.b2 _ _ (some p) _ (decide (((∀ r ∈ st.regs, inT T r.1 ∧ inT T r.2) ∧ (∀ x ∈ secs, inT T x) ∧ ∀ x ∈ l, inT T x) ∧ ∀ j, j < k → ∀ x ∈ st.seen j, inT T x)) (k : Int) w4
      unfold mix_wrong.b2
      refine cond_d (p := ((k : Nat) : Int) < 3) (fun hlt => ?_) fun hge => ?_
      · have hk3 : k < 3 := by omega
        refine ⟨by omega, by omega, (ss k).a, (ss k).len, (ss k).cap, ?_, ?_⟩
        · rw [Int.toNat_natCast]
          have : k = 0 ∨ k = 1 ∨ k = 2 := by omega
          rcases this with rfl | rfl | rfl <;> rfl
        · refine cond_c (fun ht => ?_) fun hf => ?_
          · have ht := of_decide_eq_true ht
            refine (has_at h4 (s := ss k) (xs := st.seen k) (hSe k hk3 [_, _] w4 h4)).mono ?_
            rintro _ _ ⟨rfl, rfl⟩
            rw [inc (by omega)]
            refine ⟨_, rfl, ⟨rfl, rfl, k + 1, rfl, by omega, ?_, h4⟩, by (try dsimp only); omega⟩
            rw [decide_eq_decide]
            constructor
            · intro hh
              refine ⟨ht.1, fun j hj => ?_⟩
              by_cases hjk : j = k
              · subst hjk; exact hh
              · exact ht.2 j (by omega)
            · intro hh; exact hh.2 k (by omega)
          · have hf := of_decide_eq_false hf
            rw [inc (by omega)]
            refine ⟨⟨rfl, rfl, k + 1, rfl, by omega, ?_, h4⟩, by (try dsimp only); omega⟩
            rw [eq_comm, decide_eq_false_iff_not]
            exact fun hh => hf ⟨hh.1, fun j hj => hh.2 j (by omega)⟩
      · have hk3 : k = 3 := by omega
        subst hk3
        unfold mix_wrong.c1
        refine cond_not (fun hf => ?_) fun ht => ?_
        · have hf := of_decide_eq_false hf
          refine ⟨?_, h4.swap.drop⟩
          rw [if_pos]
          rintro ⟨a1, a2, a3, a4⟩; exact hf ⟨⟨a1, a2, a3⟩, a4⟩
        · have ht := of_decide_eq_true ht
          refine ⟨?_, h4.swap.drop⟩
          rw [if_neg]
          exact fun hh => hh ⟨ht.1.1, ht.1.2.1, ht.1.2.2, ht.2⟩
    unfold mix_wrong.c4
    refine ⟨_, _, _, h2.s.cell0 1 rfl rfl, ?_⟩
    refine (mixhas_at h2 hrl (fun L w' hw => hR (L ++ [_]) w' (by rw [List.append_assoc]; exact hw))).mono ?_
    rintro _ w3 ⟨rfl, h3⟩
    refine ⟨_, rfl, cond_c (fun ht => ?_) fun hf => ?_⟩
    · have ht := of_decide_eq_true ht
      refine (has_at h3 (s := sec) (xs := secs) (hSc [_, _] w3 h3)).mono ?_
      rintro _ _ ⟨rfl, rfl⟩
      refine ⟨_, rfl, cond_c (fun ht2 => ?_) fun hf => ?_⟩
      · have ht2 := of_decide_eq_true ht2
        refine (has_at h3 (s := sl) (xs := l) (hL [_, _] w3 h3)).mono ?_
        rintro _ _ ⟨rfl, rfl⟩
        refine ⟨_, rfl, c3 w3 _ ?_ h3⟩
        rw [decide_eq_decide]
        exact ⟨fun hh => ⟨ht, ht2, hh⟩, fun hh => hh.2.2⟩
      · have hf := of_decide_eq_false hf
        refine c3 w3 _ ?_ h3
        rw [eq_comm, decide_eq_false_iff_not]
        exact fun hh => hf hh.2.1
    · have hf := of_decide_eq_false hf
      refine c3 w3 _ ?_ h3
      rw [eq_comm, decide_eq_false_iff_not]
      exact fun hh => hf hh.1
end

end Go.Proofs.YtoclhecldmahiaaDoor

/-
  Rounds of servers: what a server opens, places, seals back; contract.
-/
set_option linter.unusedVariables false
set_option linter.unusedSimpArgs false
namespace Go.Proofs.YtoclhecldmahiaaDoor
open Go.Lf Go.RowKit

/-- what a server opens, one by one -/
def stepS (T : List Tm) (sec : Int) (seen : List Int) (t : Int) : Option (Int × Int) × List Int :=
  if (peelT T sec t).2.2 ≠ 0 ∨ t ∈ seen then (.none, seen) else (.some ((peelT T sec t).1, (peelT T sec t).2.1), seen ++ [t])
def openS (T : List Tm) (sec : Int) (seen l : List Int) : Nat → List (Option (Int × Int)) × List Int
  | 0 => ([], seen)
  | k + 1 => ((openS T sec seen l k).1 ++ [(stepS T sec (openS T sec seen l k).2 (l[k]?.getD 0)).1], (stepS T sec (openS T sec seen l k).2 (l[k]?.getD 0)).2)
def inO (nw : Int) : Option (Int × Int) → Int
  | .some x => x.1
  | .none => nw
def keyO : Option (Int × Int) → Int
  | .some x => x.2
  | .none => -1
/-- where they are placed -/
def onS (T : List Tm) (sec nw : Int) (seen l perm : List Int) : Nat → List Int
  | 0 => List.replicate l.length 0
  | k + 1 => (onS T sec nw seen l perm k).set (perm[k]?.getD 0).toNat (inO nw (stepS T sec (openS T sec seen l k).2 (l[k]?.getD 0)).1)
/-- what is sealed back -/
def sealS (T : List Tm) (keys perm back : List Int) (nw : Int) : Nat → List Tm × List Int
  | 0 => (T, [])
  | k + 1 => if 0 ≤ keys[k]?.getD 0 then
      ((put (sealS T keys perm back nw k).1 ⟨6, 0, [keys[k]?.getD 0, back[(perm[k]?.getD 0).toNat]?.getD 0]⟩).1, (sealS T keys perm back nw k).2 ++ [(put (sealS T keys perm back nw k).1 ⟨6, 0, [keys[k]?.getD 0, back[(perm[k]?.getD 0).toNat]?.getD 0]⟩).2.1])
    else ((sealS T keys perm back nw k).1, (sealS T keys perm back nw k).2 ++ [nw])
def seenAt (st : MxS) (s : Nat) (l : List Int) : MxS := { st with seen := fun j => if j = s then l else st.seen j }
/-- a round from a server on: the terms, what they hold, what comes back -/
def rndT (T : List Tm) (nw : Int) (secs : List Int) (perms : Nat → List Int) : Nat → Nat → MxS → List Int → List Tm × MxS × List Int
  | 0, _, st, l => ((wordT T).1, { st with regs := (doT T st.regs l).1 }, (doT T st.regs l).2)
  | d + 1, s, st, l =>
    ((sealS (rndT T nw secs perms d (s + 1) (seenAt st s (openS T (secs[s]?.getD 0) (st.seen s) l l.length).2) (onS T (secs[s]?.getD 0) nw (st.seen s) l (perms s) l.length)).1 ((openS T (secs[s]?.getD 0) (st.seen s) l l.length).1.map keyO) (perms s)
        (rndT T nw secs perms d (s + 1) (seenAt st s (openS T (secs[s]?.getD 0) (st.seen s) l l.length).2) (onS T (secs[s]?.getD 0) nw (st.seen s) l (perms s) l.length)).2.2 nw l.length).1,
     (rndT T nw secs perms d (s + 1) (seenAt st s (openS T (secs[s]?.getD 0) (st.seen s) l l.length).2) (onS T (secs[s]?.getD 0) nw (st.seen s) l (perms s) l.length)).2.1,
     (sealS (rndT T nw secs perms d (s + 1) (seenAt st s (openS T (secs[s]?.getD 0) (st.seen s) l l.length).2) (onS T (secs[s]?.getD 0) nw (st.seen s) l (perms s) l.length)).1 ((openS T (secs[s]?.getD 0) (st.seen s) l l.length).1.map keyO) (perms s)
        (rndT T nw secs perms d (s + 1) (seenAt st s (openS T (secs[s]?.getD 0) (st.seen s) l l.length).2) (onS T (secs[s]?.getD 0) nw (st.seen s) l (perms s) l.length)).2.2 nw l.length).2)

/-! all of it is there -/

theorem ev_refl {T : List Tm} (hT : TOk T) {x : Int} (hx : inT T x) : Ev T T x x := by
  unfold inT at hx
  exact ⟨hx.1, hx.1, Eqv.of_ext hT (Ext.refl T) _ (by omega)⟩
theorem evL_refl {T : List Tm} (hT : TOk T) {l : List Int} (h : ∀ x ∈ l, inT T x) : EvL T T l l :=
  ⟨rfl, fun q k x hk hx => by rw [hk] at hx; obtain rfl := Option.some.inj hx; exact ev_refl hT (h k (List.mem_of_getElem? hk))⟩
theorem regEv_refl {T : List Tm} (hT : TOk T) {l : List Rg} (h : ∀ r ∈ l, inT T r.1 ∧ inT T r.2) : RegEv T T l l :=
  ⟨rfl, fun q k x hk hx => by rw [hk] at hx; obtain rfl := Option.some.inj hx; exact ⟨ev_refl hT (h k (List.mem_of_getElem? hk)).1, ev_refl hT (h k (List.mem_of_getElem? hk)).2⟩⟩
theorem peel_in {T : List Tm} (hT : TOk T) {s o : Int} (hs : inT T s) (ho : inT T o) (h : (peelT T s o).2.2 = 0) : inT T (peelT T s o).1 ∧ inT T (peelT T s o).2.1 := by
  obtain ⟨_, _, g⟩ := peel_rel hT hT (ev_refl hT hs).rel (ev_refl hT ho).rel
  exact ⟨(g h).1.inA, (g h).2.inA⟩
theorem doT_in {T : List Tm} (hT : TOk T) (hl : T.length ≤ 900000) {rs : List Rg} {l : List Int} (hr : ∀ r ∈ rs, inT T r.1 ∧ inT T r.2) (hi : ∀ x ∈ l, inT T x) : (∀ r ∈ (doT T rs l).1, inT (wordT T).1 r.1 ∧ inT (wordT T).1 r.2) ∧ ∀ x ∈ (doT T rs l).2, inT (wordT T).1 x := by
  obtain ⟨e1, e2⟩ := doT_ev hT hT hl hl (evL_refl hT hi) (regEv_refl hT hr)
  exact ⟨e1.inB, e2.inB⟩

theorem getD_mem {l : List Int} {k : Nat} (h : k < l.length) : l[k]?.getD 0 ∈ l := by
  rw [List.getElem?_eq_getElem h]; exact List.getElem_mem h

section
variable {T : List Tm} {sec nw : Int} {seen l perm : List Int}

theorem openS_len (k : Nat) : (openS T sec seen l k).1.length = k := by
  induction k with
  | zero => rfl
  | succ k ih => show ((openS T sec seen l k).1 ++ [_]).length = k + 1; rw [List.length_append, ih]; rfl
theorem openS_seen (k : Nat) : (openS T sec seen l k).2.length ≤ seen.length + k := by
  induction k with
  | zero => exact Nat.le_refl _
  | succ k ih =>
    show (stepS T sec (openS T sec seen l k).2 (l[k]?.getD 0)).2.length ≤ _
    unfold stepS
    split
    · show (openS T sec seen l k).2.length ≤ _; omega
    · show ((openS T sec seen l k).2 ++ [_]).length ≤ _; rw [List.length_append]; simp; omega
theorem step_in (hT : TOk T) (hs : inT T sec) {t : Int} (ht : inT T t) {y : Int × Int} (h : (stepS T sec seen t).1 = some y) : inT T y.1 ∧ inT T y.2 := by
  unfold stepS at h
  split at h
  · cases h
  · rename_i hn
    obtain rfl := Option.some.inj h
    exact peel_in hT hs ht (Classical.byContradiction fun hh => hn (.inl hh))
theorem openS_in (hT : TOk T) (hs : inT T sec) (hl : ∀ x ∈ l, inT T x) : ∀ k, k ≤ l.length → ∀ o ∈ (openS T sec seen l k).1, ∀ y, o = some y → inT T y.1 ∧ inT T y.2
  | 0, _, o, ho, _, _ => by simp [openS] at ho
  | k + 1, hk, o, ho, y, hy => by
    have ho : o ∈ (openS T sec seen l k).1 ++ [_] := ho
    rw [List.mem_append, List.mem_singleton] at ho
    rcases ho with ho | rfl
    · exact openS_in hT hs hl k (by omega) o ho y hy
    · exact step_in hT hs (hl _ (getD_mem (by omega))) hy
theorem onS_len (k : Nat) : (onS T sec nw seen l perm k).length = l.length := by
  induction k with
  | zero => simp [onS]
  | succ k ih => show ((onS T sec nw seen l perm k).set _ _).length = _; rw [List.length_set, ih]
theorem onS_in (hT : TOk T) (hs : inT T sec) (hn : inT T nw) (hl : ∀ x ∈ l, inT T x) : ∀ k, k ≤ l.length → ∀ x ∈ onS T sec nw seen l perm k, inT T x
  | 0, _, x, hx => by
    have hx : x ∈ List.replicate l.length (0 : Int) := hx
    obtain ⟨_, rfl⟩ := List.mem_replicate.1 hx
    unfold inT at hn ⊢
    omega
  | k + 1, hk, x, hx => by
    have hx : x ∈ (onS T sec nw seen l perm k).set _ _ := hx
    rcases List.mem_or_eq_of_mem_set hx with hx | rfl
    · exact onS_in hT hs hn hl k (by omega) x hx
    · cases hst : (stepS T sec (openS T sec seen l k).2 (l[k]?.getD 0)).1 with
      | none => exact hn
      | some y => exact (step_in hT hs (hl _ (getD_mem (by omega))) hst).1

theorem sealS_good {T : List Tm} {keys perm back : List Int} (hl : T.length ≤ 900000) (hn : inT T nw) (hk : ∀ x ∈ keys, 0 ≤ x → inT T x) (hb : ∀ x ∈ back, inT T x) (hp : ∀ x ∈ perm, 0 ≤ x ∧ x < (back.length : Nat)) (hpl : perm.length = keys.length) :
    ∀ k, k ≤ keys.length → k ≤ 1000 → Grown T (sealS T keys perm back nw k).1 k ∧ (sealS T keys perm back nw k).2.length = k ∧ (∀ x ∈ (sealS T keys perm back nw k).2, inT (sealS T keys perm back nw k).1 x) ∧
      (k < keys.length → 0 ≤ keys[k]?.getD 0 → (put (sealS T keys perm back nw k).1 ⟨6, 0, [keys[k]?.getD 0, back[(perm[k]?.getD 0).toNat]?.getD 0]⟩).2.2 = 0) := by
  have args : ∀ {T1 : List Tm} {k m : Nat}, Grown T T1 m → k < keys.length → 0 ≤ keys[k]?.getD 0 → inT T1 (keys[k]?.getD 0) ∧ inT T1 (back[(perm[k]?.getD 0).toNat]?.getD 0) := by
    intro T1 k m hg hk' h0
    refine ⟨hg.ext.inT (hk _ (getD_mem hk') h0), hg.ext.inT (hb _ (getD_mem ?_))⟩
    have := hp _ (getD_mem (l := perm) (k := k) (by omega))
    omega
  intro k
  induction k with
  | zero => exact fun _ _ => ⟨Grown.refl T, rfl, by simp [sealS], fun h h0 => (putG (err_seal (args (Grown.refl T) h h0).1 (args (Grown.refl T) h h0).2) (by show T.length < _; omega)).1⟩
  | succ k ih =>
    intro h1 h2
    obtain ⟨g, e1, e2, e3⟩ := ih (by omega) (by omega)
    have gl := g.len
    have fin : ∀ {T1 : List Tm}, Grown T T1 (k + 1) → k + 1 < keys.length → 0 ≤ keys[k + 1]?.getD 0 → (put T1 ⟨6, 0, [keys[k + 1]?.getD 0, back[(perm[k + 1]?.getD 0).toNat]?.getD 0]⟩).2.2 = 0 := by
      intro T1 hg hlt h0
      have := hg.len
      exact (putG (err_seal (args hg hlt h0).1 (args hg hlt h0).2) (by omega)).1
    by_cases h0 : 0 ≤ keys[k]?.getD 0
    · have ed : sealS T keys perm back nw (k + 1) = ((put (sealS T keys perm back nw k).1 ⟨6, 0, [keys[k]?.getD 0, back[(perm[k]?.getD 0).toNat]?.getD 0]⟩).1, (sealS T keys perm back nw k).2 ++ [(put (sealS T keys perm back nw k).1 ⟨6, 0, [keys[k]?.getD 0, back[(perm[k]?.getD 0).toNat]?.getD 0]⟩).2.1]) := by
        show (if 0 ≤ keys[k]?.getD 0 then _ else _) = _; rw [if_pos h0]
      have hg1 : Grown (sealS T keys perm back nw k).1 (put (sealS T keys perm back nw k).1 ⟨6, 0, [keys[k]?.getD 0, back[(perm[k]?.getD 0).toNat]?.getD 0]⟩).1 1 := Grown.put _ (by simp)
      obtain ⟨_, hin⟩ := putG (err_seal (args g (by omega) h0).1 (args g (by omega) h0).2) (by omega : (sealS T keys perm back nw k).1.length < 1048576)
      rw [ed]
      refine ⟨g.trans hg1, by rw [List.length_append, e1]; rfl, fun x hx => ?_, fin (g.trans hg1)⟩
      rw [List.mem_append, List.mem_singleton] at hx
      rcases hx with hx | rfl
      · exact hg1.ext.inT (e2 x hx)
      · exact hin
    · have ed : sealS T keys perm back nw (k + 1) = ((sealS T keys perm back nw k).1, (sealS T keys perm back nw k).2 ++ [nw]) := by
        show (if 0 ≤ keys[k]?.getD 0 then _ else _) = _; rw [if_neg h0]
      rw [ed]
      refine ⟨g.up (by omega), by rw [List.length_append, e1]; rfl, fun x hx => ?_, fin (g.up (by omega))⟩
      rw [List.mem_append, List.mem_singleton] at hx
      rcases hx with hx | rfl
      · exact e2 x hx
      · exact g.ext.inT hn
end

/-- all that a round is handed may be -/
structure RdIn (T : List Tm) (nw : Int) (secs : List Int) (perms : Nat → List Int) (st : MxS) (l : List Int) : Prop where
  ok : TOk T
  word : wordT T = (T, nw, 0)
  nwin : inT T nw
  secl : secs.length = 3
  secin : ∀ x ∈ secs, inT T x
  permin : ∀ k, k < 3 → permOk (perms k) l.length
  regin : ∀ r ∈ st.regs, inT T r.1 ∧ inT T r.2
  lin : ∀ x ∈ l, inT T x
  few : l.length ≤ 100

section
variable {T : List Tm} {nw : Int} {secs : List Int} {perms : Nat → List Int} {st : MxS} {l : List Int}

theorem RdIn.sec (h : RdIn T nw secs perms st l) {s : Nat} (hs : s < 3) : inT T (secs[s]?.getD 0) := h.secin _ (getD_mem (by rw [h.secl]; exact hs))
theorem RdIn.next (h : RdIn T nw secs perms st l) {s : Nat} (hs : s < 3) : RdIn T nw secs perms (seenAt st s (openS T (secs[s]?.getD 0) (st.seen s) l l.length).2) (onS T (secs[s]?.getD 0) nw (st.seen s) l (perms s) l.length) :=
  ⟨h.ok, h.word, h.nwin, h.secl, h.secin, fun k hk => by rw [onS_len]; exact h.permin k hk, h.regin, onS_in h.ok (h.sec hs) h.nwin h.lin _ (Nat.le_refl _), by rw [onS_len]; exact h.few⟩
theorem RdIn.keys (h : RdIn T nw secs perms st l) {s : Nat} (hs : s < 3) : ∀ x ∈ (openS T (secs[s]?.getD 0) (st.seen s) l l.length).1.map keyO, 0 ≤ x → inT T x := by
  intro x hx h0
  obtain ⟨o, ho, rfl⟩ := List.mem_map.1 hx
  cases o with
  | none => exact absurd h0 (by decide)
  | some y => exact (openS_in h.ok (h.sec hs) h.lin _ (Nat.le_refl _) _ ho y rfl).2

theorem rnd_good : ∀ (d : Nat) {s : Nat} {st : MxS} {l : List Int}, s + d = 3 → RdIn T nw secs perms st l → T.length + 100 * d ≤ 800000 →
    Grown T (rndT T nw secs perms d s st l).1 (100 * d) ∧ (rndT T nw secs perms d s st l).2.2.length = l.length ∧ (∀ x ∈ (rndT T nw secs perms d s st l).2.2, inT (rndT T nw secs perms d s st l).1 x) ∧ (∀ r ∈ (rndT T nw secs perms d s st l).2.1.regs, inT (rndT T nw secs perms d s st l).1 r.1 ∧ inT (rndT T nw secs perms d s st l).1 r.2)
  | 0, s, st, l, hs, h, hl => by
    obtain ⟨d1, d2⟩ := doT_in h.ok (by omega) h.regin h.lin
    have e : (wordT T).1 = T := by rw [h.word]
    rw [e] at d1 d2
    show Grown T (wordT T).1 (100 * 0) ∧ (doT T st.regs l).2.length = l.length ∧ (∀ x ∈ (doT T st.regs l).2, inT (wordT T).1 x) ∧ ∀ r ∈ (doT T st.regs l).1, inT (wordT T).1 r.1 ∧ inT (wordT T).1 r.2
    rw [e]
    exact ⟨Grown.refl T, (doS_len _ _ _ _).1, d2, d1⟩
  | d + 1, s, st, l, hs, h, hl => by
    have hs3 : s < 3 := by omega
    obtain ⟨g, e1, e2, e3⟩ := rnd_good d (s := s + 1) (by omega) (h.next hs3) (by omega)
    have gl := g.len
    have hfew := h.few
    have hp := h.permin s hs3
    rw [onS_len] at e1
    have hkl : ((openS T (secs[s]?.getD 0) (st.seen s) l l.length).1.map keyO).length = l.length := by rw [List.length_map, openS_len]
    obtain ⟨z1, z2, z3, _⟩ := sealS_good (nw := nw) (keys := (openS T (secs[s]?.getD 0) (st.seen s) l l.length).1.map keyO) (perm := perms s) (T := (rndT T nw secs perms d (s + 1) (seenAt st s (openS T (secs[s]?.getD 0) (st.seen s) l l.length).2) (onS T (secs[s]?.getD 0) nw (st.seen s) l (perms s) l.length)).1)
      (back := (rndT T nw secs perms d (s + 1) (seenAt st s (openS T (secs[s]?.getD 0) (st.seen s) l l.length).2) (onS T (secs[s]?.getD 0) nw (st.seen s) l (perms s) l.length)).2.2) (by omega) (g.ext.inT h.nwin) (fun x hx h0 => g.ext.inT (h.keys hs3 x hx h0)) e2 (by rw [e1]; exact hp.2.1) (by rw [hkl]; exact hp.1) l.length (by omega) (by omega)
    refine ⟨(g.trans z1).up (by omega), z2, z3, fun r hr => ?_⟩
    exact ⟨z1.ext.inT (e3 r hr).1, z1.ext.inT (e3 r hr).2⟩
end

/-! the servers in memory -/

def srvL (x p : Addr) (nw : Int) (sec sp sr : Sl) (ss : Nat → Sl) (st : MxS) : List Asn :=
  [boxA x [.pointer (some p), sV sr, sV (ss 0), sV (ss 1), sV (ss 2), sV sec, sV sp, .int .i64 nw], regA sr st.regs, ownA (ss 0) (st.seen 0), ownA (ss 1) (st.seen 1), ownA (ss 2) (st.seen 2)]
theorem srvL_eq {x p : Addr} {nw : Int} {sec sp sr : Sl} {ss ss' : Nat → Sl} {st st' : MxS} (h1 : st.regs = st'.regs) (h2 : ∀ j, j < 3 → st.seen j = st'.seen j) (h3 : ∀ j, j < 3 → ss j = ss' j) : srvL x p nw sec sp sr ss st = srvL x p nw sec sp sr ss' st' := by
  unfold srvL
  rw [h1, h2 0 (by omega), h2 1 (by omega), h2 2 (by omega), h3 0 (by omega), h3 1 (by omega), h3 2 (by omega)]

section
variable {W w w' : World} {L R Y : List Asn} {x p : Addr} {T : List Tm} {nw : Int} {sec sp sr : Sl} {ss : Nat → Sl} {st : MxS} {X : Asn} {Z : List (Sl × List Int)}

theorem seen_cell (h : At W w (X :: (srvL x p nw sec sp sr ss st ++ Y))) {s : Nat} (hs : s < 3) : w.cell? (((x.add 1).add 1).add s) = some (.slice (ss s).a (ss s).len (ss s).cap) ∧ Ints .i64 w (ss s) (st.seen s) ∨ ¬ (st.seen s).length ≤ 100000000 := by
  by_cases hl : (st.seen s).length ≤ 100000000
  · left
    rw [add_add, add_add]
    have : s = 0 ∨ s = 1 ∨ s = 2 := by omega
    rcases this with rfl | rfl | rfl
    · exact ⟨h.s.cell 1 rfl 2 rfl, rowNow 3 rfl h.s (by omega)⟩
    · exact ⟨h.s.cell 1 rfl 3 rfl, rowNow 4 rfl h.s (by omega)⟩
    · exact ⟨h.s.cell 1 rfl 4 rfl, rowNow 5 rfl h.s (by omega)⟩
  · exact .inr hl

theorem seen_more (h : At W w (X :: (srvL x p nw sec sp sr ss st ++ Y))) {s : Nat} (hs : s < 3) (t : Int) (hl : (st.seen s).length ≤ 10000000) :
    ∃ (s' : Sl) (w' : World), (builtin .append #[29, 29] 29 #[] #[.slice (ss s).a (ss s).len (ss s).cap, .slice (some (newA w)) 1 1]).run Tryd.prog (w.alloc (.cells #[.int .i64 t] 3)) = .ok (.value (.slice s'.a s'.len s'.cap)) w' ∧ Wr w' (((x.add 1).add 1).add s) ∧
      At W (w'.setCell (((x.add 1).add 1).add s) (.slice s'.a s'.len s'.cap)) (X :: (srvL x p nw sec sp sr (fun j => if j = s then s' else ss j) (seenAt st s (st.seen s ++ [t])) ++ Y)) := by
  rw [add_add, add_add]
  have : s = 0 ∨ s = 1 ∨ s = 2 := by omega
  rcases this with rfl | rfl | rfl
  · obtain ⟨s', w', r, h2⟩ := more_at 3 rfl h t (by omega)
    have h2 : At W w' (X :: boxA x [.pointer (some p), sV sr, sV (ss 0), sV (ss 1), sV (ss 2), sV sec, sV sp, .int .i64 nw] :: regA sr st.regs :: ownA s' (st.seen 0 ++ [t]) :: ownA (ss 1) (st.seen 1) :: ownA (ss 2) (st.seen 2) :: Y) := h2
    exact ⟨s', w', r, h2.s.wr 1 rfl (j := 2) (by simp), h2.go2 (h2.s.set 1 rfl (j := 2) (by simp) (sV s'))⟩
  · obtain ⟨s', w', r, h2⟩ := more_at 4 rfl h t (by omega)
    have h2 : At W w' (X :: boxA x [.pointer (some p), sV sr, sV (ss 0), sV (ss 1), sV (ss 2), sV sec, sV sp, .int .i64 nw] :: regA sr st.regs :: ownA (ss 0) (st.seen 0) :: ownA s' (st.seen 1 ++ [t]) :: ownA (ss 2) (st.seen 2) :: Y) := h2
    exact ⟨s', w', r, h2.s.wr 1 rfl (j := 3) (by simp), h2.go2 (h2.s.set 1 rfl (j := 3) (by simp) (sV s'))⟩
  · obtain ⟨s', w', r, h2⟩ := more_at 5 rfl h t (by omega)
    have h2 : At W w' (X :: boxA x [.pointer (some p), sV sr, sV (ss 0), sV (ss 1), sV (ss 2), sV sec, sV sp, .int .i64 nw] :: regA sr st.regs :: ownA (ss 0) (st.seen 0) :: ownA (ss 1) (st.seen 1) :: ownA s' (st.seen 2 ++ [t]) :: Y) := h2
    exact ⟨s', w', r, h2.s.wr 1 rfl (j := 4) (by simp), h2.go2 (h2.s.set 1 rfl (j := 4) (by simp) (sV s'))⟩

theorem At.zeros3 (h : At W w R) {n : Nat} (hn : n ≤ 1000000) : At W (w.alloc (.cells ((Array.range ((((n : Nat) : Int)).toNat * 1)).map ((#[.int .i64 0] : Array Value)[· % (#[.int .i64 0] : Array Value).size]!)) 3)) (ownA ⟨some (newA w), n, n⟩ (List.replicate n 0) :: R) := h.zeros hn

/-- perms as they stand -/
theorem Rw.at_ {w : World} {Z : List (Sl × List Int)} {s : Nat} {k : Nat} (h : Rw w sp Z) (hs : s < Z.length) (hk : k < (rowP Z s).length) : ∃ q qs : Addr, sp.a = some q ∧ w.cell? (q.add s) = some (.slice ((Z[s]?).getD (⟨none, 0, 0⟩, [])).1.a ((Z[s]?).getD (⟨none, 0, 0⟩, [])).1.len ((Z[s]?).getD (⟨none, 0, 0⟩, [])).1.cap) ∧
    ((Z[s]?).getD (⟨none, 0, 0⟩, [])).1.len = (rowP Z s).length ∧ ((Z[s]?).getD (⟨none, 0, 0⟩, [])).1.a = some qs ∧ w.cell? (qs.add k) = some (.int .i64 ((rowP Z s)[k]?.getD 0)) := by
  unfold rowP at hk ⊢
  rw [List.getElem?_eq_getElem hs] at hk ⊢
  obtain ⟨q, hq, hc, hI⟩ := h.cell s _ (List.getElem?_eq_getElem hs)
  have hIl := hI.len
  have hk : k < Z[s].2.length := hk
  obtain ⟨qs, hqs, hcs⟩ := hI.get (i := (k : Int)) (by omega) (by omega)
  rw [Int.toNat_natCast] at hcs
  exact ⟨q, qs, hq, hc, hIl, hqs, hcs⟩
end

end Go.Proofs.YtoclhecldmahiaaDoor
