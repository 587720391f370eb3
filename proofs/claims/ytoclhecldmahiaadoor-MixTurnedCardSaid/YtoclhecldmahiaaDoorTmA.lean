/-
  Terms: the small functions, and the text of a term: contracts.
-/
import Derived.Test.YtoclhecldmahiaaDoorLiftB
import Derived.Test.YtoclhecldmahiaaDoorTmFns
import Derived.Test.YtoclhecldmahiaaDoorTmAi
set_option linter.unusedVariables false
set_option linter.unusedVariables false
set_option linter.unusedSimpArgs false
namespace Go.Proofs.YtoclhecldmahiaaDoor
open Go.Lf Go.RowKit

theorem t3 : ∃ i, Tryd.prog.info? 3 = some i ∧ i.zero = some (.int .i64 0) ∧ i.size = 1 ∧ i.bytes = 8 := ⟨Tryd.t3, by kernel_rfl, by kernel_rfl, by kernel_rfl, by kernel_rfl⟩
theorem t4 : ∃ i, Tryd.prog.info? 4 = some i ∧ i.zero = some (.bool false) ∧ i.size = 1 ∧ i.bytes = 1 := ⟨Tryd.t4, by kernel_rfl, by kernel_rfl, by kernel_rfl, by kernel_rfl⟩
theorem t5 : ∃ i, Tryd.prog.info? 5 = some i ∧ i.zero = some (.int .u8 0) ∧ i.size = 1 ∧ i.bytes = 1 := ⟨Tryd.t5, by kernel_rfl, by kernel_rfl, by kernel_rfl, by kernel_rfl⟩
theorem t98 : ∃ i, Tryd.prog.info? 98 = some i ∧ i.zero = some (.agg #[.int .i64 0, .int .i64 0, .slice none 0 0]) ∧ i.size = 3 ∧ i.bytes = 40 := ⟨Tryd.t98, by kernel_rfl, by kernel_rfl, by kernel_rfl, by kernel_rfl⟩

def PT (B : Nat) (w : World) : Prop := Lib.TabBelow Tryd.prog B w "internal/strconv.uint64pow10" .u64 Lib.pow10Tab
theorem PT.on {B : Nat} {w w' : World} (h : PT B w) (hb : Below B w w') : PT B w' := Lib.TabBelow.on h hb
theorem PT.up {B B' : Nat} {w : World} (h : PT B w) (hB : B ≤ B') : PT B' w := fun w' hb => h w' (hb.mono hB)

theorem many_spec (kind : Int) (w : World) : CallsV Tryd.prog n_term_many #[.int .i64 kind] w fun v w' => v = .tuple #[.int .i64 (least kind : Int), .int .i64 (mostOf kind : Int)] ∧ w = w' := by
  refine term_many.lift ?_
  unfold term_many.main term_many.c3 term_many.c2 term_many.c1
  by_cases h1 : kind = 1
  · subst h1; exact ⟨rfl, rfl⟩
  by_cases h2 : kind = 2
  · subst h2; exact ⟨rfl, rfl⟩
  by_cases h4 : kind = 4
  · subst h4; exact ⟨rfl, rfl⟩
  by_cases h5 : kind = 5
  · subst h5; exact ⟨rfl, rfl⟩
  by_cases h6 : kind = 6
  · subst h6; exact ⟨rfl, rfl⟩
  by_cases h7 : kind = 7
  · subst h7; exact ⟨rfl, rfl⟩
  by_cases h8 : kind = 8
  · subst h8; exact ⟨rfl, rfl⟩
  simp [h1, h2, h4, h5, h6, h7, h8, least, mostOf]

theorem count_spec (kind : Int) (n : Nat) (w : World) : CallsV Tryd.prog n_trystref10_count #[.int .i64 kind, .int .i64 (n : Int)] w fun v w' => v = .bool (decide (least kind ≤ n ∧ n ≤ mostOf kind)) ∧ w = w' := by
  refine trystref10_count.lift ?_
  unfold trystref10_count.main trystref10_count.c3 trystref10_count.c2 trystref10_count.c1
  have hm : mostOf kind ≤ 400 := by unfold mostOf; split <;> (try split) <;> omega
  refine cond_d (fun h => ⟨by rw [decide_eq_false]; omega, rfl⟩) fun h => ?_
  have fin : ∀ (p : Bool), (p = decide (least kind ≤ n ∧ n ≤ mostOf kind)) → (Value.bool p = .bool (decide (least kind ≤ n ∧ n ≤ mostOf kind)) ∧ w = w) := fun p hp => ⟨by rw [hp], rfl⟩
  by_cases h1 : kind = 1
  · subst h1; refine fin _ ?_; rw [show (((n : Int)) == 0) = decide (((n : Int)) = 0) from rfl]; simp only [decide_eq_decide, least, mostOf]; simp
  by_cases h2 : kind = 2
  · subst h2; refine fin _ ?_; rw [show (((n : Int)) == 0) = decide (((n : Int)) = 0) from rfl]; simp only [decide_eq_decide, least, mostOf]; simp
  by_cases h4 : kind = 4
  · subst h4; refine fin _ ?_; rw [show (((n : Int)) == 1) = decide (((n : Int)) = 1) from rfl]; simp only [decide_eq_decide, least, mostOf]; simp; omega
  by_cases h5 : kind = 5
  · subst h5; refine fin _ ?_; rw [show (((n : Int)) == 1) = decide (((n : Int)) = 1) from rfl]; simp only [decide_eq_decide, least, mostOf]; simp; omega
  by_cases h6 : kind = 6
  · subst h6; refine fin _ ?_; simp only [decide_eq_decide, least, mostOf]; simp; omega
  by_cases h7 : kind = 7
  · subst h7; refine fin _ ?_; simp only [decide_eq_decide, least, mostOf]; simp; omega
  by_cases h8 : kind = 8
  · subst h8; refine fin _ ?_; simp only [decide_eq_decide, least, mostOf]; simp; omega
  simp [h1, h2, h4, h5, h6, h7, h8, least, mostOf]; omega

theorem has_spec {w : World} {p : Addr} {a : Option Addr} {c : Nat} {T : List Tm} (hp : w.cell? p = some (.slice a T.length c)) {s : Sl} {xs : List Int} (h : Ints .i64 w s xs) :
    CallsV Tryd.prog n_term_Arena_Has #[.pointer (some p), .slice s.a s.len s.cap] w fun v w' => v = .bool (decide (∀ x ∈ xs, inT T x)) ∧ w = w' := by
  refine term_Arena_Has.lift ?_
  have hl := h.len
  have hsm := h.small
  unfold term_Arena_Has.main term_Arena_Has.l1
  refine ⟨fun t w' => w = w' ∧ ∃ k : Nat, t = k ∧ k ≤ xs.length ∧ ∀ x ∈ xs.take k, inT T x, fun t _ => xs.length - t.toNat, ⟨rfl, 0, rfl, Nat.zero_le _, by simp⟩, ?_⟩
  rintro _ w1 ⟨rfl, k, rfl, hk, hall⟩
  unfold term_Arena_Has.b1
  refine cond_d (fun hlt => ?_) fun hge => ⟨?_, rfl⟩
  · obtain ⟨q, hq, hc⟩ := h.get (i := (k : Int)) (by omega) (by omega)
    have hk' : k < xs.length := by omega
    refine ⟨by omega, by omega, q, hq, _, hc, ?_⟩
    rw [Int.toNat_natCast, List.getElem?_eq_getElem hk', Option.getD_some]
    refine cond_d (fun hn => ⟨?_, rfl⟩) fun hn => ⟨p, rfl, _, _, _, hp, cond_d (fun hb => ⟨?_, rfl⟩) fun hb => ?_⟩
    · rw [decide_eq_false]; intro hh; have := (hh _ (List.getElem_mem hk')).1; omega
    · rw [decide_eq_false]; intro hh; have := (hh _ (List.getElem_mem hk')).2; omega
    · rw [inc (by omega)]
      refine ⟨⟨rfl, rfl, rfl, rfl, k + 1, rfl, by omega, ?_⟩, by (try dsimp only); omega⟩
      intro x hx
      rw [List.take_succ_eq_append_getElem hk', List.mem_append, List.mem_singleton] at hx
      rcases hx with hx | rfl
      · exact hall x hx
      · exact ⟨by omega, by omega⟩
  · rw [List.take_of_length_le (by omega)] at hall
    rw [decide_eq_true hall]

theorem rhas_spec {w : World} {p : Addr} {a : Option Addr} {c : Nat} {T : List Tm} (hp : w.cell? p = some (.slice a T.length c)) {s : Sl} {xs : List Int} (h : Ints .i64 w s xs) :
    CallsV Tryd.prog n_trystref10_Arena_Has #[.pointer (some p), .slice s.a s.len s.cap] w fun v w' => v = .bool (decide (∀ x ∈ xs, inT T x)) ∧ Same w w' := by
  refine trystref10_Arena_Has.lift ?_
  have hl := h.len
  have hsm := h.small
  unfold trystref10_Arena_Has.main trystref10_Arena_Has.l1
  refine ⟨fun t w' => Same w w' ∧ ∃ k : Nat, t = k ∧ k ≤ xs.length ∧ ∀ x ∈ xs.take k, inT T x, fun t _ => xs.length - t.toNat, ⟨Same.refl _, 0, rfl, Nat.zero_le _, by simp⟩, ?_⟩
  rintro _ w1 ⟨hs, k, rfl, hk, hall⟩
  unfold trystref10_Arena_Has.b1
  refine cond_d (fun hlt => ?_) fun hge => ⟨?_, hs⟩
  · obtain ⟨q, hq, hc⟩ := (h.same hs).get (i := (k : Int)) (by omega) (by omega)
    have hk' : k < xs.length := by omega
    refine ⟨by omega, by omega, q, hq, _, hc, ?_⟩
    rw [Int.toNat_natCast, List.getElem?_eq_getElem hk', Option.getD_some] at *
    refine cond_d (fun hn => ⟨?_, hs.drew'⟩) fun hn => ⟨by omega, by omega, q, hq, _, hc, p, rfl, _, _, _, by rw [hs.cell]; exact hp, cond_d (fun hb => ⟨?_, hs.drew'⟩) fun hb => ?_⟩
    · rw [decide_eq_false]; intro hh; have := (hh _ (List.getElem_mem hk')).1; omega
    · rw [decide_eq_false]; intro hh; have := (hh _ (List.getElem_mem hk')).2; omega
    · rw [inc (by omega)]
      refine ⟨⟨rfl, rfl, hs.drew', k + 1, rfl, by omega, ?_⟩, by (try dsimp only); omega⟩
      intro x hx
      rw [List.take_succ_eq_append_getElem hk', List.mem_append, List.mem_singleton] at hx
      rcases hx with hx | rfl
      · exact hall x hx
      · exact ⟨by omega, by omega⟩
  · rw [List.take_of_length_le (by omega)] at hall
    rw [decide_eq_true hall]

theorem ints_spec {w : World} {s t : Sl} {xs ys : List Int} (h : Ints .i64 w s xs) (h' : Ints .i64 w t ys) :
    CallsV Tryd.prog n_trystkeep_Ints #[.slice s.a s.len s.cap, .slice t.a t.len t.cap] w fun v w' => v = .bool (decide (xs = ys)) ∧ Same w w' := by
  refine trystkeep_Ints.lift ?_
  have hl := h.len
  have hl' := h'.len
  have hsm := h.small
  unfold trystkeep_Ints.main
  refine cond_n (fun hne => ⟨by rw [decide_eq_false (fun he => hne (by rw [hl, hl', he]))], Same.refl _⟩) fun he => ?_
  unfold trystkeep_Ints.l1
  refine ⟨fun st w' => Same w w' ∧ ∃ k : Nat, st = k ∧ k ≤ xs.length ∧ xs.take k = ys.take k, fun st _ => xs.length - st.toNat, ⟨Same.refl _, 0, rfl, Nat.zero_le _, rfl⟩, ?_⟩
  rintro _ w' ⟨hs, k, rfl, hle, htk⟩
  unfold trystkeep_Ints.b1
  refine cond_d (fun hlt => ?_) fun hge => ⟨?_, hs⟩
  · obtain ⟨p, hp, hc⟩ := (h.same hs).get (i := (k : Int)) (by omega) (by omega)
    obtain ⟨q, hq, hd⟩ := (h'.same hs).get (i := (k : Int)) (by omega) (by omega)
    refine ⟨by omega, by omega, p, hp, _, hc, by omega, by omega, q, hq, _, hd, ?_⟩
    have hk : k < xs.length := by omega
    have hk' : k < ys.length := by omega
    rw [Int.toNat_natCast, List.getElem?_eq_getElem hk, List.getElem?_eq_getElem hk', Option.getD_some, Option.getD_some, inc (by omega)]
    refine cond_n (fun hne => ⟨?_, hs.drew'⟩) fun heq => ?_
    · rw [decide_eq_false]
      intro hxy
      subst hxy
      exact hne rfl
    · refine ⟨⟨rfl, rfl, hs.drew', k + 1, rfl, by omega, ?_⟩, by (try dsimp only); omega⟩
      rw [List.take_succ_eq_append_getElem hk, List.take_succ_eq_append_getElem hk', htk, heq]
  · rw [decide_eq_true]
    rwa [List.take_of_length_le (by omega), List.take_of_length_le (by omega)] at htk

theorem termEq_spec {w : World} {t u : Tm} {s r : Sl} (h : Ints .i64 w s t.args) (h' : Ints .i64 w r u.args) :
    CallsV Tryd.prog n_trystkeep_Term #[.agg #[.int .i64 t.kind, .int .i64 t.n, .slice s.a s.len s.cap], .agg #[.int .i64 u.kind, .int .i64 u.n, .slice r.a r.len r.cap]] w fun v w' => v = .bool (decide (t = u)) ∧ Below w.heap.size w w' := by
  refine trystkeep_Term.lift ?_
  unfold trystkeep_Term.main
  intro w1 w2
  have hb1 : Below w.heap.size w w1 := below_alloc _ _
  have hb2 : Below w1.heap.size w1 w2 := below_alloc _ _
  have hb := hb1.then hb2
  have c1 : ∀ (j : Nat) (v : Value), (#[Value.int .i64 t.kind, .int .i64 t.n, .slice s.a s.len s.cap] : Array Value)[j]? = some v → w2.cell? ((newA w).add j) = some v := fun j v hv => hb2.here (by rw [← hv]; exact cell_new w _ _ j)
  have c2 : ∀ (j : Nat) (v : Value), (#[Value.int .i64 u.kind, .int .i64 u.n, .slice r.a r.len r.cap] : Array Value)[j]? = some v → w2.cell? ((newA w1).add j) = some v := fun j v hv => by rw [← hv]; exact cell_new w1 _ _ j
  have no : ¬ (t = u) → decide (t = u) = false := fun h => decide_eq_false h
  have k1 := c1 0 _ rfl
  have k2 := c2 0 _ rfl
  rw [add_zero] at k1 k2
  refine ⟨_, k1, _, k2, cond_e (fun e1 => ?_) fun e1 => ⟨by rw [no fun e => e1 (by rw [e])], hb⟩⟩
  refine ⟨_, c1 1 _ rfl, _, c2 1 _ rfl, cond_e (fun e2 => ?_) fun e2 => ⟨by rw [no fun e => e2 (by rw [e])], hb⟩⟩
  refine ⟨_, _, _, c1 2 _ rfl, _, _, _, c2 2 _ rfl, ?_⟩
  refine (ints_spec (h.keep hb) (h'.keep hb)).mono ?_
  rintro _ w3 ⟨rfl, hs⟩
  refine ⟨_, rfl, ?_, hb.then (hs.below _)⟩
  congr 1
  rw [decide_eq_decide]
  cases t; cases u
  simp only [Tm.mk.injEq] at *
  simp [e1, e2]

theorem twin_spec {w : World} {s : Sl} {xs : List Int} (h : Ints .i64 w s xs) (hx : xs.length ≤ 1000000000) :
    CallsV Tryd.prog n_trystkeep_TwinInts #[.slice s.a s.len s.cap] w fun v w' => ∃ s' : Sl, v = .slice s'.a s'.len s'.cap ∧ OwnI w.heap.size 3 .i64 w' s' xs ∧ Below w.heap.size w w' := by
  refine trystkeep_TwinInts.lift ?_
  unfold trystkeep_TwinInts.main
  obtain ⟨i, hi, hz, hsz, hby⟩ := t3
  obtain ⟨s', w', hr, ho, hb⟩ := append_all (ty := 29) Tryd.underlying29 hi hz hsz hby rfl h (by unfold maxLen; omega) (by omega)
  exact ⟨_, _, _, _, hr, s', rfl, ho, hb⟩

theorem clone_spec {w : World} {s : Sl} {xs : List Int} (h : Ints .i64 w s xs) (hx : xs.length ≤ 1000000000) :
    CallsV Tryd.prog n_slices_Clone_int #[.slice s.a s.len s.cap] w fun v w' => ∃ s' : Sl, v = .slice s'.a s'.len s'.cap ∧ OwnI w.heap.size 3 .i64 w' s' xs ∧ Below w.heap.size w w' := by
  refine slices_Clone_int.lift ?_
  unfold slices_Clone_int.main
  obtain ⟨i, hi, hz, hsz, hby⟩ := t3
  cases ha : s.a with
  | none =>
    have hx : xs = [] := by
      cases xs with
      | nil => rfl
      | cons y r => obtain ⟨q, hq, _⟩ := h.cell 0 y rfl; rw [ha] at hq; cases hq
    subst hx
    exact cond_t rfl ⟨⟨none, 0, 0⟩, rfl, OwnI.nil, Below.refl _ _⟩
  | some a =>
    refine cond_f' rfl ?_
    obtain ⟨s', w', hr, ho, hb⟩ := clone_ints (ty := 29) Tryd.underlying29 hi hz hsz hby h ha (by unfold maxLen; omega) (by omega)
    rw [ha] at hr
    exact ⟨_, _, _, _, hr, s', rfl, ho, hb⟩

theorem spoil_spec {B : Nat} {w : World} {s : Sl} {xs : List Int} {R : List Asn} (h : Sep B w (rowA 3 1 s xs.length (xs.map (Value.int .i64)) :: R)) (hx : xs.length ≤ 9223372036854775807) :
    CallsV Tryd.prog n_trystkeep_SpoilInts #[.slice s.a s.len s.cap] w fun v w' => v = .tuple #[] ∧ Sep B w' R ∧ Below B w w' := by
  refine trystkeep_SpoilInts.lift ?_
  unfold trystkeep_SpoilInts.main trystkeep_SpoilInts.l1
  have hl := (h.rowLen 0 rfl).1
  refine ⟨fun t w' => ∃ k : Nat, t = k ∧ k ≤ xs.length ∧ ∃ ys : List Int, ys.length = xs.length ∧ Sep B w' (rowA 3 1 s ys.length (ys.map (Value.int .i64)) :: R) ∧ Below B w w', fun t _ => xs.length - t.toNat, ⟨0, rfl, Nat.zero_le _, xs, rfl, h, Below.refl _ _⟩, ?_⟩
  rintro _ w1 ⟨k, rfl, hk, ys, hy, h1, hb⟩
  unfold trystkeep_SpoilInts.b1
  refine cond_d (fun hlt => ?_) fun hge => ⟨rfl, h1.drop, hb⟩
  have hk' : k < ys.length := by omega
  obtain ⟨q, hq, hc⟩ := h1.rowCell 0 rfl (j := k) (by rw [List.length_map]; exact hk')
  obtain ⟨h2, hb2⟩ := h1.rowSet 0 rfl hq (j := k) (by rw [List.length_map]; exact hk') (.int .i64 (-7777))
  refine ⟨by omega, hlt, q, hq, by rw [Int.toNat_natCast]; exact h1.rowWr 0 rfl hq (by rw [List.length_map]; exact hk'), ?_⟩
  rw [Int.toNat_natCast, inc (by omega)]
  refine ⟨⟨rfl, k + 1, rfl, by omega, ys.set k (-7777), by rw [List.length_set, hy], ?_, hb.trans hb2⟩, by (try dsimp only); omega⟩
  rw [List.length_set, List.map_set]; exact h2

theorem len_spec {w : World} {p : Addr} {a : Option Addr} {n c : Nat} (hp : w.cell? p = some (.slice a n c)) : CallsV Tryd.prog n_term_Arena_Len #[.pointer (some p)] w fun v w' => v = .int .i64 (n : Int) ∧ w = w' := by
  refine term_Arena_Len.lift ?_
  unfold term_Arena_Len.main
  exact ⟨p, rfl, _, _, _, hp, rfl, rfl⟩

/-! the text of a term -/

theorem text_take {xs : List Int} {k : Nat} {x : Int} (h : xs[k]? = some x) : textOf (xs.take (k + 1)) = textOf (xs.take k) ++ (Lib.itoa x ++ [32]) := by
  obtain ⟨hlt, he⟩ := List.getElem?_eq_some_iff.1 h
  rw [List.take_succ_eq_append_getElem hlt, he]
  simp [textOf]

theorem key_spec {B : Nat} {w : World} (hT : PT B w) (hB : B ≤ w.heap.size) {t : Tm} {s : Sl} (h : Ints .i64 w s t.args) (hl : t.args.length ≤ 400)
    (hw : ∀ x ∈ t.kind :: t.n :: t.args, -9223372036854775808 ≤ x ∧ x ≤ 9223372036854775807) :
    CallsV Tryd.prog n_term_key #[.int .i64 t.kind, .int .i64 t.n, .slice s.a s.len s.cap] w fun v w' => v = .string t.key ∧ Below w.heap.size w w' := by
  refine term_key.lift ?_
  unfold term_key.main
  intro w5
  obtain ⟨i, hi, hz, hsz, hby⟩ := t3
  have hb5 : Below w.heap.size w w5 := below_alloc _ _
  have ho5 : OwnI w.heap.size 3 .i64 w5 ⟨some (newA w), 2, 2⟩ [t.kind, t.n] := made_ints (by simp [maxLen])
  obtain ⟨s6, w6, hr, ho6, hb6⟩ := append_more (ty := 29) Tryd.underlying29 hi hz hsz hby rfl ho5 hb5.size (h.keep hb5) (by simp only [List.length_cons, List.length_nil]; unfold maxLen; omega) (by simp only [List.length_cons, List.length_nil]; omega)
  refine ⟨_, _, _, _, hr, ?_⟩
  have hb : Below w.heap.size w w6 := hb5.trans hb6
  obtain ⟨xs, hxs⟩ : ∃ xs, xs = t.kind :: t.n :: t.args := ⟨_, rfl⟩
  have ho : OwnI w.heap.size 3 .i64 w6 s6 xs := by rw [hxs]; exact ho6
  have hkey : t.key = ⟨(textOf xs).toArray⟩ := by rw [hxs]; rfl
  have hxl : xs.length ≤ 402 := by rw [hxs]; simp; omega
  have hx0 : xs ≠ [] := by rw [hxs]; simp
  rw [← hxs] at hw
  have hI := ho.ints (by omega)
  have hlen := hI.len
  clear ho6 hr hxs ho5 hb6
  unfold term_key.l1
  refine ⟨fun st w' => Below w6.heap.size w6 w' ∧ ∃ k : Nat, st.2 = k ∧ k ≤ xs.length ∧ (textOf (xs.take k)).length ≤ 22 * k ∧ w'.ownsRow w6.heap.size 5 1 (.slice st.1.a st.1.len st.1.cap) (textOf (xs.take k)).length (Lib.byteCells (textOf (xs.take k))), fun st _ => xs.length - st.2.toNat,
    ⟨Below.refl _ _, 0, rfl, Nat.zero_le _, by simp [textOf], World.ownsRow_nil _ _ _ _⟩, ?_⟩
  rintro ⟨b, _⟩ w1 ⟨hb1, k, hk0, hk, htl, hown⟩
  simp only at hk0 hown
  subst hk0
  unfold term_key.b1
  refine cond_d (fun hlt => ?_) fun hge => ?_
  · obtain ⟨q, hq, hc⟩ := (hI.keep hb1).get (i := (k : Int)) (by omega) (by omega)
    have hk' : k < xs.length := by omega
    rw [Int.toNat_natCast, List.getElem?_eq_getElem hk', Option.getD_some] at hc
    obtain ⟨x0, x1⟩ := hw _ (List.getElem_mem hk')
    refine ⟨by omega, by omega, q, hq, _, by rw [Int.toNat_natCast]; exact hc, ?_⟩
    have hT1 : PT w6.heap.size w1 := ((hT.on (hb.mono hB)).up (Nat.le_trans hB hb.size)).on hb1
    have hil := Lib.itoa_length_le xs[k] x0 x1
    have hai := appendInt_10 w6.heap.size _ xs[k] x0 x1 _ _ w1 hown hb1.size (by omega) hT1
    refine Calls.mono hai ?_
    rintro e w2 ⟨v2, rfl, hown2, hb2, -⟩
    refine ⟨v2, rfl, ?_⟩
    have hv2 : ∃ s2 : Sl, v2 = .slice s2.a s2.len s2.cap := by
      rcases hown2.2 with ⟨rfl, _⟩ | ⟨g, cap, cur, rfl, _⟩
      · exact ⟨⟨none, 0, 0⟩, rfl⟩
      · exact ⟨⟨some ⟨g, 0, none⟩, _, cap⟩, rfl⟩
    obtain ⟨s2, rfl⟩ := hv2
    refine ⟨_, _, _, rfl, ?_⟩
    intro w3
    obtain ⟨i5, hi5, hz5, hsz5, hby5⟩ := t5
    obtain ⟨s4, w4, hr4, hl4, hown4, _, hb4⟩ := append_new (ty := 198) Tryd.underlying198 hi5 hz5 hsz5 hby5 rfl (by omega) hown2 (news := [.int .u8 32]) rfl (by simp [Value.oneCell']) (by unfold maxLen; omega) (by omega) (Nat.le_trans hb1.size hb2.size) (cells := #[.int .u8 32]) rfl
    refine ⟨_, _, _, _, hr4, ?_⟩
    rw [inc (by omega)]
    have htx := text_take (List.getElem?_eq_getElem hk')
    have hlx : (textOf (xs.take (k + 1))).length = (textOf (xs.take k)).length + (Lib.itoa xs[k]).length + 1 := by rw [htx]; simp; omega
    refine ⟨⟨rfl, rfl, hb1.trans (hb2.trans hb4), k + 1, rfl, by omega, by omega, ?_⟩, by (try dsimp only); omega⟩
    rw [hlx, htx]
    have e : Lib.byteCells (textOf (xs.take k) ++ (Lib.itoa xs[k] ++ [32])) = Lib.byteCells (textOf (xs.take k)) ++ Lib.byteCells (Lib.itoa xs[k]) ++ [Value.int .u8 32] := by simp [Lib.byteCells]
    rw [e]
    exact hown4
  · rw [List.take_of_length_le (by omega)] at hown htl
    rcases hown.2 with ⟨h1, h0⟩ | ⟨g, cap, cur, h1, _⟩
    · exfalso
      have := List.length_eq_zero_iff.1 h0
      obtain ⟨y, r, rfl⟩ := List.exists_cons_of_ne_nil hx0
      rw [text_cons] at this
      simp at this
    · have hg : (Value.slice b.a b.len b.cap).ownBlock = some g := by rw [h1]; rfl
      simp only [Value.slice.injEq] at h1
      have hcv := run_convert_bytes_back (P := Tryd.prog) w1 198 9 5 ⟨g, 0, none⟩ b.cap (textOf xs) Tryd.underlying198 Tryd.underlying5 Tryd.underlying9 (fun j hj => hown.cells hg j _ (by simp [Lib.byteCells, hj]))
      refine ⟨_, w1, ?_, by rw [hkey], hb.then hb1⟩
      rw [h1.1, h1.2.1]
      simp [hcv, Result.andThen]

end Go.Proofs.YtoclhecldmahiaaDoor

/-
  Terms: a new arena, a term that is made: contracts.
-/
set_option linter.unusedVariables false
set_option linter.unusedSimpArgs false
namespace Go.Proofs.YtoclhecldmahiaaDoor
open Go.Lf Go.RowKit

abbrev arA (p : Addr) (N : Nds) : Asn := arenaA 98 p N
abbrev pgA (p : Addr) (N : Nds) : Asn := pageA 98 p N

theorem Sep.any {B : Nat} {w : World} {l R : List Asn} (h : Sep B w (l ++ R)) : Sep B w (exA (fun _ : Unit => True) (fun _ => l) :: R) := h.fold () trivial

theorem new_spec {B : Nat} {w : World} {R : List Asn} (h : Sep B w R) : CallsV Tryd.prog n_term_New #[] w fun v w' => ∃ p : Addr, v = .pointer (some p) ∧ Sep B w' (arA p [] :: R) ∧ Below B w w' := by
  refine term_New.lift ?_
  unfold term_New.main
  intro w1 w2
  obtain ⟨h1, hb1⟩ := h.mapNew
  obtain ⟨h2, hb2⟩ := (h1.intsNil .i64).box [.slice none 0 0, .map (some w.heap.size)] 157
  refine ⟨_, rfl, ?_, hb1.trans hb2⟩
  refine Sep.fold (⟨none, 0, 0⟩, w.heap.size) ⟨TOk.nil, fun x hx => by cases hx⟩ ?_
  have h3 := h2.rowNil 98 3
  -- row, box, ints, map
  have h4 : Sep B w2 (boxA (newA w1) [.slice none 0 0, .map (some w.heap.size)] :: rowA 98 3 ⟨none, 0, 0⟩ 0 [] :: mapA w.heap.size [] :: intsAll .i64 [] :: R) := by
    refine h3.perm ?_
    refine (List.Perm.swap _ _ _).trans (List.Perm.cons _ (List.Perm.cons _ (List.Perm.swap _ _ _)))
  exact h4

theorem put_bad {T : List Tm} {t : Tm} {e : Int} (h : errOf T t = e) (he : e ≠ 0) : put T t = (T, 0, e) := by
  unfold put; rw [h, if_pos he]
theorem put_is {T : List Tm} {t : Tm} (h : errOf T t = 0) {i : Nat} (hi : place T t = some i) : put T t = (T, (i : Int), 0) := by
  unfold put; rw [h, if_neg (by simp), hi]
theorem put_full {T : List Tm} {t : Tm} (h : errOf T t = 0) (hi : place T t = none) (hl : 1048576 ≤ T.length) : put T t = (T, 0, 7) := by
  unfold put; rw [h, if_neg (by simp), hi]; simp [hl]
theorem put_new {T : List Tm} {t : Tm} (h : errOf T t = 0) (hi : place T t = none) (hl : ¬ 1048576 ≤ T.length) : put T t = (T ++ [t], (T.length : Int), 0) := by
  unfold put; rw [h, if_neg (by simp), hi]; simp [hl]

theorem flat_more {N : Nds} {x : Tm × Sl} : flat nodeC (N ++ [x]) = flat nodeC N ++ nodeC x := by rw [flat_app, flat_one]

theorem make_spec {B : Nat} {w : World} {p : Addr} {N : Nds} {R : List Asn} {t : Tm} {s : Sl} (h : Sep B w (arA p N :: R)) (hT : PT B w) (hn : t.n ≤ 9223372036854775807)
    (hI : ∀ X w', Sep B w' (X :: R) → Below B w w' → Ints .i64 w' s t.args) :
    CallsV Tryd.prog n_term_Arena_Make #[.pointer (some p), .int .i64 t.kind, .int .i64 t.n, .slice s.a s.len s.cap] w fun v w' => ∃ more, v = .tuple #[.int .i64 (put (terms N) t).2.1, .int .i64 (put (terms N) t).2.2] ∧
      terms (N ++ more) = (put (terms N) t).1 ∧ Sep B w' (arA p (N ++ more) :: R) ∧ Below B w w' := by
  refine term_Arena_Make.lift ?_
  have hI0 := hI _ _ h (Below.refl _ _)
  have hlen := hI0.len
  obtain ⟨⟨sl, m⟩, ⟨hok, hcaps⟩, hS⟩ := h.unfold
  simp only at hS
  have hsl : sl.len = N.length := (hS.rowLen 1 rfl).1
  have hfew := hok.few
  rw [terms_len] at hfew
  generalize hRR : (fun (v : Value) (w' : World) => ∃ more, v = .tuple #[.int .i64 (put (terms N) t).2.1, .int .i64 (put (terms N) t).2.2] ∧ terms (N ++ more) = (put (terms N) t).1 ∧ Sep B w' (arA p (N ++ more) :: R) ∧ Below B w w') = RR
  have bad : ∀ (e : Int) w', errOf (terms N) t = e → e ≠ 0 → w = w' → RR (.tuple #[.int .i64 0, .int .i64 e]) w' := by
    intro e w' he h0 hw
    subst hw
    rw [← hRR]
    refine ⟨[], by rw [put_bad he h0], by rw [put_bad he h0, List.append_nil], by rw [List.append_nil]; exact h, Below.refl _ _⟩
  have c5 : ∀ nb : Bool, nb = decide (numbered t.kind) → term_Arena_Make.c5 RR (some p) t.kind t.n s nb w := by
    intro nb hnb
    unfold term_Arena_Make.c5
    refine (many_spec t.kind w).mono ?_
    rintro _ _ ⟨rfl, rfl⟩
    refine ⟨_, _, rfl, cond_d (fun h1 => bad 6 _ ?_ (by decide) rfl) fun h1 => cond_d (fun h2 => bad 6 _ ?_ (by decide) rfl) fun h2 => ?_⟩
    · unfold errOf; rw [if_pos (by omega)]
    · unfold errOf; rw [if_pos (by omega)]
    have e1 : ∀ {a b : Int}, (if ¬ (1 ≤ t.kind ∧ t.kind ≤ 9) then a else b) = b := fun {a b} => if_neg (by omega)
    unfold term_Arena_Make.c4
    have c3 : ¬ (t.n < 0 ∨ 0 < t.n ∧ ¬ numbered t.kind) → term_Arena_Make.c3 RR (some p) t.kind t.n s (least t.kind : Int) (mostOf t.kind : Int) w := by
      intro hnn
      have e2 : ∀ {a b : Int}, (if t.n < 0 ∨ 0 < t.n ∧ ¬ numbered t.kind then a else b) = b := fun {a b} => if_neg hnn
      have hn0 : 0 ≤ t.n := by
        rcases Int.lt_or_le t.n 0 with h | h
        · exact absurd (.inl h) hnn
        · exact h
      unfold term_Arena_Make.c3
      refine cond_d (fun h3 => bad 2 _ ?_ (by decide) rfl) fun h3 => cond_d (fun h4 => bad 2 _ ?_ (by decide) rfl) fun h4 => ?_
      · unfold errOf; rw [e1, e2, if_pos (by omega)]
      · unfold errOf; rw [e1, e2, if_pos (by omega)]
      have e3 : ∀ {a b : Int}, (if t.args.length < least t.kind ∨ mostOf t.kind < t.args.length then a else b) = b := fun {a b} => if_neg (by omega)
      have hm4 : mostOf t.kind ≤ 400 := by unfold mostOf; split <;> (try split) <;> omega
      unfold term_Arena_Make.c2
      refine (has_spec (T := terms N) (by rw [terms_len, ← hsl]; exact hS.cell0 0 rfl rfl) hI0).mono ?_
      rintro _ _ ⟨rfl, rfl⟩
      refine ⟨_, rfl, cond_not (fun h5 => bad 8 _ ?_ (by decide) rfl) fun h5 => ?_⟩
      · unfold errOf; rw [e1, e2, e3, if_pos (of_decide_eq_false h5)]
      have hin := of_decide_eq_true h5
      have he0 : errOf (terms N) t = 0 := by unfold errOf; rw [e1, e2, e3, if_neg (fun h => h hin)]
      unfold term_Arena_Make.c1
      refine (key_spec hT h.le hI0 (by omega) ?_).mono ?_
      · intro x hx
        rcases List.mem_cons.1 hx with rfl | hx
        · omega
        rcases List.mem_cons.1 hx with rfl | hx
        · omega
        · have := hin x hx
          unfold inT at this
          rw [terms_len] at this
          omega
      rintro _ w1 ⟨rfl, hb1⟩
      have hS1 := hS.keep hb1
      have hB1 : Below B w w1 := hb1.mono h.le
      have hlook := look_map (P := Tryd.prog) Tryd.underlying155 Tryd.underlying9 (Tryd.zeroValue3 w1) (hS1.mapAt 2 rfl) t.key
      rw [keys_find] at hlook
      refine ⟨_, rfl, p, rfl, _, hS1.cell 0 rfl 1 rfl, _, _, _, hlook, ?_⟩
      cases hp : place (terms N) t with
      | some i =>
        refine cond_t rfl ?_
        rw [← hRR]
        have hput := put_is he0 hp
        refine ⟨[], by rw [hput], by rw [hput, List.append_nil], by rw [List.append_nil]; exact Sep.fold (sl, m) ⟨hok, hcaps⟩ hS1, hB1⟩
      | none =>
        refine cond_f' rfl ⟨p, rfl, _, _, _, hS1.cell0 0 rfl rfl, cond_d (fun h6 => ?_) fun h6 => ?_⟩
        · rw [← hRR]
          have hput := put_full he0 hp (by rw [terms_len]; omega)
          refine ⟨[], by rw [hput], by rw [hput, List.append_nil], by rw [List.append_nil]; exact Sep.fold (sl, m) ⟨hok, hcaps⟩ hS1, hB1⟩
        have hput := put_new he0 hp (by rw [terms_len]; omega)
        have hS2 := hS1.drew
        refine ⟨fun x => x.cell? (p.add 1) = some (.map (some m)) ∧ x.cell? p = some (.slice sl.a sl.len sl.cap), ⟨hS2.cell 0 rfl 1 rfl, hS2.cell0 0 rfl rfl⟩, p, rfl, _, fun x hx => hx.1, p, rfl, _, _, _, fun x hx => hx.2, ?_⟩
        have hkn : ((terms N).map Tm.key).findIdx? (fun k => decide (k = t.key)) = none := by rw [keys_find]; exact hp
        have hst := store_map (P := Tryd.prog) Tryd.underlying155 Tryd.underlying9 (hS2.mapAt 2 rfl) hkn
        have hkl : ((terms N).map Tm.key).length = sl.len := by rw [List.length_map, terms_len, hsl]
        rw [hkl] at hst
        obtain ⟨hS3, hb3⟩ := hS2.mapStore 2 rfl ((terms N).map Tm.key ++ [t.key])
        refine ⟨_, hst, ?_⟩
        generalize ChangeMaps.setBlock w1.drew m (.map (entsFrom 0 ((terms N).map Tm.key ++ [t.key])).toArray ((terms N).map Tm.key ++ [t.key]).length) = w3 at hS3 hb3 ⊢
        have hB3 : Below B w w3 := (hB1.trans ((Same.drew w1).below B)).trans hb3
        have hS3 : Sep B w3 ([boxA p [.slice sl.a sl.len sl.cap, .map (some m)], rowA 98 3 sl N.length (flat nodeC N), mapA m ((terms N).map Tm.key ++ [t.key]), intsAll .i64 (argsL N)] ++ R) := hS3
        have hS4 := hS3.drew
        refine ⟨fun x => x.cell? p = some (.slice sl.a sl.len sl.cap), hS4.cell0 0 rfl rfl, p, rfl, _, _, _, fun x hx => hx, ?_⟩
        have hI4 := hI _ _ (Sep.any hS4) (hB3.trans ((Same.drew w3).below B))
        refine (clone_spec hI4 (by omega)).mono ?_
        rintro _ w4 ⟨s', rfl, ho, hb4⟩
        have hS5 := Sep.intsMore 3 rfl hS4 ho (by omega) hb4
        have hS5 : Sep B w4 ([boxA p [.slice sl.a sl.len sl.cap, .map (some m)], rowA 98 3 sl N.length (flat nodeC N), mapA m ((terms N).map Tm.key ++ [t.key]), intsAll .i64 ((s', t.args) :: argsL N)] ++ R) := hS5
        have hB4 : Below B w w4 := (hB3.trans ((Same.drew w3).below B)).next hb4 h.le
        refine ⟨_, _, _, rfl, hS5.cell0 0 rfl rfl, ?_⟩
        intro w5
        have hb5 : Below w4.heap.size w4 w5 := below_alloc _ _
        have hS6 := hS5.keep hb5
        have hB5 : Below B w w5 := hB4.next hb5 h.le
        refine ⟨hS6.cell0 0 rfl rfl, ?_⟩
        obtain ⟨i, hi, hz, hsz, hby⟩ := t98
        obtain ⟨s6, w6, hr, hl6, hS7, hb6⟩ := Sep.append (ty := 73) (c := 1) (m := 1) Tryd.underlying73 hi hz hsz hby rfl (by omega) 1 rfl hS6 (a := newA w4) (news := nodeC (t, s')) (nodeC.w _) (fun j u hu => by rw [← hu]; exact (cell_new w4 #[.int .i64 t.kind, .int .i64 t.n, .slice s'.a s'.len s'.cap] 98 j).trans (by simp [nodeC]))
          (by intro u hu; simp only [nodeC, List.mem_cons, List.not_mem_nil, or_false] at hu; rcases hu with rfl | rfl | rfl <;> rfl) (by unfold maxLen; omega) (by omega) (by omega)
        refine ⟨_, _, _, _, hr, p, rfl, ?_⟩
        have hS7 : Sep B w6 ([boxA p [.slice sl.a sl.len sl.cap, .map (some m)], rowA 98 3 s6 (N.length + 1) (flat nodeC N ++ nodeC (t, s')), mapA m ((terms N).map Tm.key ++ [t.key]), intsAll .i64 ((s', t.args) :: argsL N)] ++ R) := hS7
        refine ⟨hS7.wr0 0 rfl (by simp), ?_⟩
        obtain ⟨hS8, hb8⟩ := hS7.set0 0 rfl (by simp) (.slice s6.a s6.len s6.cap)
        have hS8 : Sep B (w6.setCell p (.slice s6.a s6.len s6.cap)) ([boxA p [.slice s6.a s6.len s6.cap, .map (some m)], rowA 98 3 s6 (N.length + 1) (flat nodeC N ++ nodeC (t, s')), mapA m ((terms N).map Tm.key ++ [t.key]), intsAll .i64 ((s', t.args) :: argsL N)] ++ R) := hS8
        refine ⟨p, rfl, _, _, _, hS8.cell0 0 rfl rfl, ?_⟩
        rw [show ((s6.len : Nat) : Int) - 1 = (N.length : Int) by omega, w64 (by omega), ← hRR]
        refine ⟨[(t, s')], ?_, ?_, ?_, (hB5.trans hb6).trans hb8⟩
        · rw [hput, terms_len]
        · rw [hput, terms_app]; rfl
        · have hS9 := hS8.intsLess 3 rfl (L' := argsL (N ++ [(t, s')])) (by
            intro x hx
            unfold argsL at hx
            rw [List.map_append, List.mem_append] at hx
            rcases hx with hx | hx
            · exact List.mem_cons_of_mem _ hx
            · simp at hx; subst hx; simp)
          have e9 : TOk (terms (N ++ [(t, s')])) := by
            have := hok.put t
            rw [hput] at this
            rw [terms_app]; exact this
          refine Sep.fold (s6, m) ⟨e9, ?_⟩ ?_
          · intro x hx
            rw [List.mem_append] at hx
            rcases hx with hx | hx
            · exact hcaps x hx
            · simp at hx; subst hx; exact ho.cap
          · unfold arL
            rw [flat_more, terms_app, List.map_append, List.length_append]
            exact hS9
    refine cond_d (fun h3 => bad 1 _ ?_ (by decide) rfl) fun h3 => cond_d (fun h4 => cond_not (fun h5 => bad 1 _ ?_ (by decide) rfl) fun h5 => c3 ?_) fun h4 => c3 ?_
    · unfold errOf; rw [e1, if_pos (.inl (by omega))]
    · unfold errOf; rw [e1, if_pos (.inr ⟨by omega, of_decide_eq_false (by rw [← hnb]; exact h5)⟩)]
    · rintro (h | ⟨_, h⟩)
      · omega
      · exact h (of_decide_eq_true (by rw [← hnb]; exact h5))
    · omega
  unfold term_Arena_Make.main
  refine cond_e (fun h1 => c5 _ (by rw [decide_eq_true]; exact .inl h1)) fun h1 => cond_e (fun h2 => c5 _ (by rw [decide_eq_true]; exact .inr (.inl h2))) fun h2 => c5 _ ?_
  show decide (t.kind = 4) = _
  rw [decide_eq_decide]
  unfold numbered
  omega

end Go.Proofs.YtoclhecldmahiaaDoor

/-
  Terms: what is put in the page's arena: contract.
-/
set_option linter.unusedVariables false
set_option linter.unusedSimpArgs false
namespace Go.Proofs.YtoclhecldmahiaaDoor
open Go.Lf Go.RowKit

theorem newPage_spec {B : Nat} {w : World} {R : List Asn} (h : Sep B w R) : Sep B (w.alloc (.cells #[.slice none 0 0] 75)) (pgA (newA w) [] :: R) ∧ Below B w (w.alloc (.cells #[.slice none 0 0] 75)) := by
  obtain ⟨h2, hb2⟩ := (h.intsNil .i64).box [.slice none 0 0] 75
  refine ⟨Sep.fold ⟨none, 0, 0⟩ ⟨TOk.nil, fun x hx => by cases hx⟩ ?_, hb2⟩
  have h3 := (h2.rowNil 98 3).swap
  exact h3

theorem argsAt {B : Nat} {w : World} {l : List Asn} (k : Nat) {N : Nds} (hk : l[k]? = some (intsAll .i64 (argsL N))) (h : Sep B w l) {i : Nat} {x : Tm × Sl} (hi : N[i]? = some x) : Ints .i64 w x.2 x.1.args :=
  h.intsAt k hk (x := (x.2, x.1.args)) (List.mem_map.2 ⟨x, List.mem_of_getElem? hi, rfl⟩)

theorem rput_spec {B : Nat} {w : World} {p : Addr} {N : Nds} {R : List Asn} {t : Tm} {s : Sl} (h : Sep B w (pgA p N :: R))
    (hI : ∀ X w', Sep B w' (X :: R) → Below B w w' → Ints .i64 w' s t.args) :
    CallsV Tryd.prog n_trystref10_Arena_Put #[.pointer (some p), .int .i64 t.kind, .int .i64 t.n, .slice s.a s.len s.cap] w fun v w' => ∃ more, v = .tuple #[.int .i64 (put (terms N) t).2.1, .int .i64 (put (terms N) t).2.2] ∧
      terms (N ++ more) = (put (terms N) t).1 ∧ Sep B w' (pgA p (N ++ more) :: R) ∧ Below B w w' := by
  refine trystref10_Arena_Put.lift ?_
  have hI0 := hI _ _ h (Below.refl _ _)
  have hlen := hI0.len
  obtain ⟨sl, ⟨hok, hcaps⟩, hS⟩ := h.unfold
  have hsl : sl.len = N.length := (hS.rowLen 1 rfl).1
  have hfew := hok.few
  rw [terms_len] at hfew
  generalize hRR : (fun (v : Value) (w' : World) => ∃ more, v = .tuple #[.int .i64 (put (terms N) t).2.1, .int .i64 (put (terms N) t).2.2] ∧ terms (N ++ more) = (put (terms N) t).1 ∧ Sep B w' (pgA p (N ++ more) :: R) ∧ Below B w w') = RR
  have bad : ∀ (e : Int) w', errOf (terms N) t = e → e ≠ 0 → Same w w' → RR (.tuple #[.int .i64 0, .int .i64 e]) w' := by
    intro e w' he h0 hw
    rw [← hRR]
    refine ⟨[], by rw [put_bad he h0], by rw [put_bad he h0, List.append_nil], by rw [List.append_nil]; exact h.same hw, hw.below _⟩
  unfold trystref10_Arena_Put.main
  refine cond_d (fun h1 => bad 6 _ ?_ (by decide) (Same.refl _)) fun h1 => cond_d (fun h2 => bad 6 _ ?_ (by decide) (Same.refl _)) fun h2 => ?_
  · unfold errOf; rw [if_pos (by omega)]
  · unfold errOf; rw [if_pos (by omega)]
  have e1 : ∀ {a b : Int}, (if ¬ (1 ≤ t.kind ∧ t.kind ≤ 9) then a else b) = b := fun {a b} => if_neg (by omega)
  have c3 : ¬ (t.n < 0 ∨ 0 < t.n ∧ ¬ numbered t.kind) → trystref10_Arena_Put.c3 RR (some p) t.kind t.n s w := by
    intro hnn
    have e2 : ∀ {a b : Int}, (if t.n < 0 ∨ 0 < t.n ∧ ¬ numbered t.kind then a else b) = b := fun {a b} => if_neg hnn
    unfold trystref10_Arena_Put.c3
    refine (show CallsV _ _ _ _ _ from ?_)
    rw [hlen]
    refine (count_spec t.kind t.args.length w).mono ?_
    rintro _ _ ⟨rfl, rfl⟩
    refine ⟨_, rfl, cond_not (fun h3 => bad 2 _ ?_ (by decide) (Same.refl _)) fun h3 => ?_⟩
    · unfold errOf; rw [e1, e2, if_pos (by have := of_decide_eq_false h3; omega)]
    have hcnt := of_decide_eq_true h3
    have e3 : ∀ {a b : Int}, (if t.args.length < least t.kind ∨ mostOf t.kind < t.args.length then a else b) = b := fun {a b} => if_neg (by omega)
    have hm4 : mostOf t.kind ≤ 400 := by unfold mostOf; split <;> (try split) <;> omega
    rw [← hlen]
    refine (rhas_spec (T := terms N) (by rw [terms_len, ← hsl]; exact hS.cell0 0 rfl rfl) hI0).mono ?_
    rintro _ w8 ⟨rfl, hs8⟩
    refine ⟨_, rfl, cond_not (fun h5 => bad 8 _ ?_ (by decide) hs8) fun h5 => ?_⟩
    · unfold errOf; rw [e1, e2, e3, if_pos (of_decide_eq_false h5)]
    have hin := of_decide_eq_true h5
    have he0 : errOf (terms N) t = 0 := by unfold errOf; rw [e1, e2, e3, if_neg (fun h => h hin)]
    intro w9
    refine ⟨fun j hj => wr_new _ _ _ (by simpa using hj), ?_⟩
    intro w10
    have e10 : w10 = w8.alloc (.cells #[.int .i64 t.kind, .int .i64 t.n, .slice s.a s.len s.cap] 98) := box_set3
    clear_value w10
    obtain ⟨hS10, hb10⟩ := (hS.same hs8).box [.int .i64 t.kind, .int .i64 t.n, .slice s.a s.len s.cap] 98
    rw [show (w8.alloc (.cells [Value.int .i64 t.kind, .int .i64 t.n, .slice s.a s.len s.cap].toArray 98)) = w10 from e10.symm] at hS10 hb10
    have hB10 : Below B w w10 := (hs8.below B).trans hb10
    generalize newA w8 = tb at hS10 ⊢
    have hS10 : Sep B w10 ((boxA tb [.int .i64 t.kind, .int .i64 t.n, .slice s.a s.len s.cap] :: pgL 98 p N sl) ++ R) := hS10
    have ht64 : N.length ≤ 1048576 := hfew
    unfold trystref10_Arena_Put.l2
    refine ⟨fun st w' => ∃ k : Nat, st = k ∧ k ≤ N.length ∧ (∀ j u, j < k → (terms N)[j]? = some u → u ≠ t) ∧ Sep B w' ((boxA tb [.int .i64 t.kind, .int .i64 t.n, .slice s.a s.len s.cap] :: pgL 98 p N sl) ++ R) ∧ Below B w w', fun st _ => N.length - st.toNat,
      ⟨0, rfl, Nat.zero_le _, fun j u hj => by omega, hS10, hB10⟩, ?_⟩
    rintro _ w1 ⟨k, rfl, hk, hno, hS1, hB1⟩
    unfold trystref10_Arena_Put.b2
    refine ⟨p, rfl, _, _, _, hS1.cell0 1 rfl rfl, cond_d (fun hlt => ?_) fun hge => ?_⟩
    · have hk' : k < N.length := by omega
      obtain ⟨x, hx⟩ : ∃ x, N[k]? = some x := ⟨_, List.getElem?_eq_getElem hk'⟩
      have hS2 := hS1.drew
      obtain ⟨q, hq, hc⟩ := hS2.rowGet 2 (by omega) nodeC.w rfl hx
      have hc0 := hc 0 _ rfl
      rw [add_zero] at hc0
      have ho : ∀ {v u : World}, u = v → u = v := fun h => h
      refine ⟨fun y => y = w1.drew, rfl, p, rfl, _, _, _, fun y hy => by rw [hy]; exact hS2.cell0 1 rfl rfl, by omega, hlt, q, hq, _, fun y hy => by rw [hy, Int.toNat_natCast]; exact hc0, _, fun y hy => by rw [hy, Int.toNat_natCast]; exact hc 1 _ rfl,
        _, _, _, fun y hy => by rw [hy, Int.toNat_natCast]; exact hc 2 _ rfl, _, fun y hy => by rw [hy]; exact hS2.cell0 0 rfl rfl, _, fun y hy => by rw [hy]; exact hS2.cell 0 rfl 1 rfl, _, _, _, fun y hy => by rw [hy]; exact hS2.cell 0 rfl 2 rfl, ?_⟩
      have hB2 := hB1.trans ((Same.drew w1).below B)
      refine (termEq_spec (argsAt 3 rfl hS2 hx) (hI _ _ (Sep.any hS2) hB2)).mono ?_
      rintro _ w6 ⟨rfl, hb6⟩
      have hS6 := hS2.keep hb6
      have hB6 := hB2.next hb6 h.le
      refine ⟨_, rfl, cond_d (fun heq => ?_) fun hne => ?_⟩
      · rw [← hRR]
        have hput := put_is he0 (hok.place (i := k) (by rw [terms_at hx, heq]))
        refine ⟨[], by rw [hput], by rw [hput, List.append_nil], by rw [List.append_nil]; exact Sep.fold sl ⟨hok, hcaps⟩ hS6.drop, hB6⟩
      · rw [inc (by omega)]
        refine ⟨⟨rfl, rfl, rfl, k + 1, rfl, by omega, ?_, hS6, hB6⟩, by (try dsimp only); omega⟩
        intro j u hj hu
        by_cases hjk : j = k
        · subst hjk
          rw [terms_at hx] at hu
          obtain rfl := Option.some.inj hu
          exact hne
        · exact hno j u (by omega) hu
    · have hke : k = N.length := by omega
      have hp : place (terms N) t = none := by
        unfold place
        rw [List.findIdx?_eq_none_iff]
        intro u hu
        obtain ⟨j, hj, he⟩ := List.mem_iff_getElem.1 hu
        rw [terms_len] at hj
        exact decide_eq_false (hno j u (by omega) (by rw [← he, List.getElem?_eq_getElem]))
      unfold trystref10_Arena_Put.c1
      refine ⟨p, rfl, _, _, _, hS1.cell0 1 rfl rfl, cond_d (fun h6 => ?_) fun h6 => ?_⟩
      · rw [← hRR]
        have hput := put_full he0 hp (by rw [terms_len]; omega)
        refine ⟨[], by rw [hput], by rw [hput, List.append_nil], by rw [List.append_nil]; exact Sep.fold sl ⟨hok, hcaps⟩ hS1.drop, hB1⟩
      have hput := put_new he0 hp (by rw [terms_len]; omega)
      refine (twin_spec (hI _ _ (Sep.any hS1) hB1) (by omega)).mono ?_
      rintro _ w3 ⟨s', rfl, ho, hb3⟩
      have hS3 := Sep.intsMore 3 rfl hS1 ho (by omega) hb3
      have hS3 : Sep B w3 ([boxA tb [.int .i64 t.kind, .int .i64 t.n, .slice s.a s.len s.cap], boxA p [.slice sl.a sl.len sl.cap], rowA 98 3 sl N.length (flat nodeC N), intsAll .i64 ((s', t.args) :: argsL N)] ++ R) := hS3
      have hB3 := hB1.next hb3 h.le
      refine ⟨_, _, _, rfl, hS3.wr 0 rfl (j := 2) (by simp), ?_⟩
      obtain ⟨hS4, hb4⟩ := hS3.set 0 rfl (j := 2) (by simp) (.slice s'.a s'.len s'.cap)
      intro w4
      have hS4 : Sep B w4 ([boxA tb [.int .i64 t.kind, .int .i64 t.n, .slice s'.a s'.len s'.cap], boxA p [.slice sl.a sl.len sl.cap], rowA 98 3 sl N.length (flat nodeC N), intsAll .i64 ((s', t.args) :: argsL N)] ++ R) := hS4
      have hB4 : Below B w w4 := hB3.trans hb4
      clear_value w4
      have hS5 := hS4.drew
      refine ⟨fun y => y.cell? p = some (.slice sl.a sl.len sl.cap) ∧ y.cell? tb = some (.int .i64 t.kind) ∧ y.cell? (tb.add 1) = some (.int .i64 t.n) ∧ y.cell? (tb.add 2) = some (.slice s'.a s'.len s'.cap), ⟨hS5.cell0 1 rfl rfl, hS5.cell0 0 rfl rfl, hS5.cell 0 rfl 1 rfl, hS5.cell 0 rfl 2 rfl⟩,
        p, rfl, _, _, _, fun y hy => hy.1, _, fun y hy => hy.2.1, _, fun y hy => hy.2.2.1, _, _, _, fun y hy => hy.2.2.2, ?_⟩
      intro w5
      have hb5 : Below w4.drew.heap.size w4.drew w5 := below_alloc _ _
      have hS6 := hS5.keep hb5
      have hB5 : Below B w w5 := (hB4.trans ((Same.drew w4).below B)).next hb5 h.le
      refine ⟨⟨hS6.cell0 1 rfl rfl, hS6.cell0 0 rfl rfl, hS6.cell 0 rfl 1 rfl, hS6.cell 0 rfl 2 rfl⟩, ?_⟩
      obtain ⟨i, hi, hz, hsz, hby⟩ := t98
      obtain ⟨s6, w6, hr, hl6, hS7, hb6⟩ := Sep.append (ty := 73) (c := 1) (m := 1) Tryd.underlying73 hi hz hsz hby rfl (by omega) 2 rfl hS6 (a := newA w4.drew) (news := nodeC (t, s')) (nodeC.w _)
        (fun j u hu => by rw [← hu]; exact (cell_new w4.drew #[.int .i64 t.kind, .int .i64 t.n, .slice s'.a s'.len s'.cap] 98 j).trans (by simp [nodeC]))
        (by intro u hu; simp only [nodeC, List.mem_cons, List.not_mem_nil, or_false] at hu; rcases hu with rfl | rfl | rfl <;> rfl) (by unfold maxLen; omega) (by omega) (by omega)
      refine ⟨_, _, _, _, hr, p, rfl, ?_⟩
      have hS7 : Sep B w6 ([boxA tb [.int .i64 t.kind, .int .i64 t.n, .slice s'.a s'.len s'.cap], boxA p [.slice sl.a sl.len sl.cap], rowA 98 3 s6 (N.length + 1) (flat nodeC N ++ nodeC (t, s')), intsAll .i64 ((s', t.args) :: argsL N)] ++ R) := hS7
      refine ⟨hS7.wr0 1 rfl (by simp), ?_⟩
      obtain ⟨hS8, hb8⟩ := hS7.set0 1 rfl (by simp) (.slice s6.a s6.len s6.cap)
      have hS8 : Sep B (w6.setCell p (.slice s6.a s6.len s6.cap)) ([boxA tb [.int .i64 t.kind, .int .i64 t.n, .slice s'.a s'.len s'.cap], boxA p [.slice s6.a s6.len s6.cap], rowA 98 3 s6 (N.length + 1) (flat nodeC N ++ nodeC (t, s')), intsAll .i64 ((s', t.args) :: argsL N)] ++ R) := hS8
      refine ⟨p, rfl, _, _, _, hS8.cell0 1 rfl rfl, ?_⟩
      rw [show ((s6.len : Nat) : Int) - 1 = (N.length : Int) by omega, w64 (by omega), ← hRR]
      refine ⟨[(t, s')], ?_, ?_, ?_, (hB5.trans hb6).trans hb8⟩
      · rw [hput, terms_len]
      · rw [hput, terms_app]; rfl
      · have hS9 := (hS8.intsLess 3 rfl (L' := argsL (N ++ [(t, s')])) (by
          intro x hx
          unfold argsL at hx
          rw [List.map_append, List.mem_append] at hx
          rcases hx with hx | hx
          · exact List.mem_cons_of_mem _ hx
          · simp at hx; subst hx; simp)).drop
        have e9 : TOk (terms (N ++ [(t, s')])) := by
          have := hok.put t
          rw [hput] at this
          rw [terms_app]; exact this
        refine Sep.fold s6 ⟨e9, ?_⟩ ?_
        · intro x hx
          rw [List.mem_append] at hx
          rcases hx with hx | hx
          · exact hcaps x hx
          · simp at hx; subst hx; exact ho.cap
        · unfold pgL
          rw [flat_more, List.length_append]
          exact hS9
  unfold trystref10_Arena_Put.c4
  have e4 : ∀ {c : Bool} {A C : Prop}, c = true → A → cond c A C := fun h a => by rw [h]; exact a
  refine cond_d (fun h3 => bad 1 _ ?_ (by decide) (Same.refl _)) fun h3 => cond_d (fun h4 => cond_n (fun k1 => cond_n (fun k2 => cond_n (fun k4 => bad 1 _ ?_ (by decide) (Same.refl _)) fun k4 => c3 ?_) fun k2 => c3 ?_) fun k1 => c3 ?_) fun h4 => c3 ?_
  · unfold errOf; rw [e1, if_pos (.inl (by omega))]
  · unfold errOf; rw [e1, if_pos (.inr ⟨by omega, by unfold numbered; omega⟩)]
  · unfold numbered; omega
  · unfold numbered; omega
  · unfold numbered; omega
  · omega

end Go.Proofs.YtoclhecldmahiaaDoor

/-
  Terms: a node, and what is opened: contracts.
-/
set_option linter.unusedVariables false
set_option linter.unusedSimpArgs false
namespace Go.Proofs.YtoclhecldmahiaaDoor
open Go.Lf Go.RowKit

abbrev ownA (s : Sl) (xs : List Int) : Asn := rowA 3 1 s xs.length (xs.map (Value.int .i64))

def arg0 (t : Tm) : Int := t.args[0]?.getD 0
def openT (T : List Tm) (i k : Int) : List Int × Int :=
  if ¬ (inT T i ∧ inT T k) then ([], 8) else if (tmAt T i).kind ≠ 6 then ([], 6) else if arg0 (tmAt T i) ≠ k then ([], 3) else ((tmAt T i).args.drop 1, 0)
def unboxT (T : List Tm) (i k : Int) : List Int × Int :=
  if ¬ (inT T i ∧ inT T k) then ([], 8) else if (tmAt T i).kind ≠ 7 then ([], 6) else if (tmAt T (arg0 (tmAt T i))).kind ≠ 5 then ([], 3) else
  if arg0 (tmAt T (arg0 (tmAt T i))) ≠ k then ([], 3) else ((tmAt T i).args.drop 2, 0)
theorem at_in {N : Nds} {i : Int} (h : inT (terms N) i) : ∃ s, N[i.toNat]? = some (tmAt (terms N) i, s) := by
  have hlt : i.toNat < (terms N).length := by unfold inT at h; omega
  have he : (terms N)[i.toNat]? = some (tmAt (terms N) i) := by
    unfold tmAt; rw [List.getElem?_eq_getElem hlt]; rfl
  exact terms_of he

theorem err_zero {T : List Tm} {t : Tm} (h : errOf T t = 0) : 1 ≤ t.kind ∧ t.kind ≤ 9 ∧ least t.kind ≤ t.args.length ∧ t.args.length ≤ mostOf t.kind ∧ (∀ x ∈ t.args, inT T x) ∧ 0 ≤ t.n := by
  unfold errOf at h
  split at h
  · exact absurd h (by decide)
  split at h
  · exact absurd h (by decide)
  split at h
  · exact absurd h (by decide)
  split at h
  · exact absurd h (by decide)
  rename_i h1 h2 h3 h4
  exact ⟨by omega, by omega, by omega, by omega, Decidable.not_not.1 h4, by omega⟩

theorem ok_at {T : List Tm} (h : TOk T) {i : Int} (hi : inT T i) : 1 ≤ (tmAt T i).kind ∧ (tmAt T i).kind ≤ 9 ∧ least (tmAt T i).kind ≤ (tmAt T i).args.length ∧ (tmAt T i).args.length ≤ mostOf (tmAt T i).kind ∧ (∀ x ∈ (tmAt T i).args, 0 ≤ x ∧ x < i) ∧ 0 ≤ (tmAt T i).n := by
  have hlt : i.toNat < T.length := by unfold inT at hi; omega
  have he : T[i.toNat]? = some (tmAt T i) := by unfold tmAt; rw [List.getElem?_eq_getElem hlt]; rfl
  obtain ⟨h1, h2, h3, h4, h5, h6⟩ := err_zero (h.good _ _ he)
  refine ⟨h1, h2, h3, h4, fun x hx => ?_, h6⟩
  have := h5 x hx
  unfold inT at this hi
  rw [List.length_take] at this
  omega

theorem ints_two {w : World} (i k : Int) : Ints .i64 (w.alloc (.cells #[.int .i64 i, .int .i64 k] 3)) ⟨some (newA w), 2, 2⟩ [i, k] := (made_ints (w := w) (e := 3) (k := .i64) (xs := [i, k]) (by simp [maxLen])).ints (by simp)

theorem most_le (k : Int) : mostOf k ≤ 400 := by unfold mostOf; split <;> (try split) <;> omega

theorem arg_get {w : World} {s : Sl} {t : Tm} (h : Ints .i64 w s t.args) (h1 : 1 ≤ t.args.length) : (0 : Int) < (s.len : Int) ∧ ∃ q : Addr, s.a = some q ∧ w.cell? (q.add (0 : Int).toNat) = some (.int .i64 (arg0 t)) := by
  have hl := h.len
  refine ⟨by omega, ?_⟩
  obtain ⟨q, hq, hc⟩ := h.get (i := 0) (by omega) (by omega)
  exact ⟨q, hq, hc⟩

end Go.Proofs.YtoclhecldmahiaaDoor

/-
  Terms: what is opened, of both arenas: contracts.
-/
set_option linter.unusedVariables false
set_option linter.unusedSimpArgs false
namespace Go.Proofs.YtoclhecldmahiaaDoor
open Go.Lf Go.RowKit

theorem two_in {T : List Tm} {i k : Int} : (∀ x ∈ [i, k], inT T x) ↔ inT T i ∧ inT T k := by simp

theorem drop_ints {w : World} {s : Sl} {xs : List Int} (h : Ints .i64 w s xs) (hc : s.len ≤ s.cap) (m : Nat) (hm : m ≤ xs.length) :
    Ints .i64 w ⟨if (((s.cap : Nat) : Int)).toNat = ((m : Int)).toNat then s.a else s.a.map (·.add ((m : Int)).toNat), ((s.len : Nat) : Int).toNat - ((m : Int)).toNat, ((s.cap : Nat) : Int).toNat - ((m : Int)).toNat⟩ (xs.drop m) := h.drop hm hc

theorem unbox_spec {B : Nat} {w : World} {p : Addr} {N : Nds} {R : List Asn} (h : Sep B w (arA p N :: R)) (i k : Int) :
    CallsV Tryd.prog n_term_Arena_Unbox #[.pointer (some p), .int .i64 i, .int .i64 k] w fun v w' => ∃ s' : Sl, v = .tuple #[.slice s'.a s'.len s'.cap, .int .i64 (unboxT (terms N) i k).2] ∧
      Sep B w' (ownA s' (unboxT (terms N) i k).1 :: arA p N :: R) ∧ Below B w w' := by
  refine term_Arena_Unbox.lift ?_
  unfold term_Arena_Unbox.main
  intro w1
  have hb1 : Below w.heap.size w w1 := below_alloc _ _
  have h1 := h.keep hb1
  have hB1 := hb1.mono h.le
  have hI : Ints .i64 w1 ⟨some (newA w), 2, 2⟩ [i, k] := ints_two i k
  clear_value w1
  obtain ⟨⟨sl, m⟩, ⟨hok, hcaps⟩, hS⟩ := h1.unfold
  have hS : Sep B w1 (arL 98 p N sl m ++ R) := hS
  have hsl : sl.len = N.length := (hS.rowLen 1 rfl).1
  have none' : ∀ e w', unboxT (terms N) i k = ([], e) → Sep B w' (arA p N :: R) → Below B w w' → ∃ s' : Sl, Value.tuple #[.slice none 0 0, .int .i64 e] = .tuple #[.slice s'.a s'.len s'.cap, .int .i64 (unboxT (terms N) i k).2] ∧ Sep B w' (ownA s' (unboxT (terms N) i k).1 :: arA p N :: R) ∧ Below B w w' :=
    fun e w' he hs hb => ⟨⟨none, 0, 0⟩, by rw [he], by rw [he]; exact hs.rowNil 3 1, hb⟩
  refine (has_spec (s := ⟨some (newA w), 2, 2⟩) (T := terms N) (by rw [terms_len, ← hsl]; exact hS.cell0 0 rfl rfl) hI).mono ?_
  rintro _ _ ⟨rfl, rfl⟩
  refine ⟨_, rfl, cond_not (fun hb => none' _ _ ?_ h1 hB1) fun hb => ?_⟩
  · unfold unboxT; rw [if_pos (by rw [← two_in]; exact of_decide_eq_false hb)]
  have hb := two_in.1 (of_decide_eq_true hb)
  obtain ⟨sx, hx⟩ := at_in hb.1
  have hi : 0 ≤ i ∧ i < (N.length : Int) := by have := hb.1; unfold inT at this; rw [terms_len] at this; exact this
  obtain ⟨q, hq, hc⟩ := hS.rowGet 1 (by omega) nodeC.w rfl hx
  have hc0 := hc 0 _ rfl
  rw [add_zero] at hc0
  have e1 : ∀ {a b : List Int × Int}, (if ¬ (inT (terms N) i ∧ inT (terms N) k) then a else b) = b := fun {a b} => if_neg (fun h => h hb)
  obtain ⟨o1, o2, o3, o4, o5, o6⟩ := ok_at hok hb.1
  refine ⟨p, rfl, _, _, _, hS.cell0 0 rfl rfl, hi.1, by omega, q, hq, _, hc0, _, hc 1 _ rfl, _, _, _, hc 2 _ rfl, ?_⟩
  intro w4
  refine ⟨fun j hj => wr_new _ _ _ (by simpa using hj), ?_⟩
  intro w5
  have e5 : w5 = w1.alloc (.cells #[.int .i64 (tmAt (terms N) i).kind, .int .i64 (tmAt (terms N) i).n, .slice sx.a sx.len sx.cap] 98) := box_set3
  clear_value w5
  obtain ⟨hS5, hb5⟩ := hS.box [.int .i64 (tmAt (terms N) i).kind, .int .i64 (tmAt (terms N) i).n, .slice sx.a sx.len sx.cap] 98
  rw [show (w1.alloc (.cells [Value.int .i64 (tmAt (terms N) i).kind, .int .i64 (tmAt (terms N) i).n, .slice sx.a sx.len sx.cap].toArray 98)) = w5 from e5.symm] at hS5 hb5
  have hB5 := hB1.trans hb5
  generalize newA w1 = tb at hS5 ⊢
  have arOf : ∀ {w' : World} {X : Asn}, Sep B w' (X :: (arL 98 p N sl m ++ R)) → Sep B w' (arA p N :: R) := fun h => Sep.fold (sl, m) ⟨hok, hcaps⟩ h.drop
  refine ⟨_, hS5.cell0 0 rfl rfl, cond_n (fun hk => none' _ _ ?_ (arOf hS5) hB5) fun hk => ?_⟩
  · unfold unboxT; rw [e1, if_pos hk]
  have hk : (tmAt (terms N) i).kind = 7 := hk
  have hl2 : 2 ≤ (tmAt (terms N) i).args.length := by rw [hk] at o3; exact o3
  have hS6 := hS5.drew
  have hIa := argsAt 4 rfl hS6 hx
  obtain ⟨hpos, q2, hq2, hc2⟩ := arg_get hIa (by show 1 ≤ (tmAt (terms N) i).args.length; omega)
  have ha0 : 0 ≤ arg0 (tmAt (terms N) i) ∧ arg0 (tmAt (terms N) i) < i := by
    have : arg0 (tmAt (terms N) i) = (tmAt (terms N) i).args[0]'(by omega) := by unfold arg0; rw [List.getElem?_eq_getElem (by omega)]; rfl
    exact o5 _ (by rw [this]; exact List.getElem_mem _)
  have hin0 : inT (terms N) (arg0 (tmAt (terms N) i)) := by unfold inT; rw [terms_len]; omega
  obtain ⟨sy, hy⟩ := at_in hin0
  obtain ⟨q', hq', hd⟩ := hS6.rowGet 2 (by omega) nodeC.w rfl hy
  have hd0 := hd 0 _ rfl
  rw [add_zero] at hd0
  refine ⟨fun y => y.cell? p = some (.slice sl.a sl.len sl.cap) ∧ Sep B y (boxA tb [.int .i64 (tmAt (terms N) i).kind, .int .i64 (tmAt (terms N) i).n, .slice sx.a sx.len sx.cap] :: (arL 98 p N sl m ++ R)), ⟨hS6.cell0 1 rfl rfl, hS6⟩, p, rfl, _, _, _, fun y hy => hy.1, _, _, _, fun y hy => hy.2.cell 0 rfl 2 rfl, by omega, hpos, q2, hq2, arg0 (tmAt (terms N) i),
    fun y hy => ?_, ha0.1, by omega, q', hq', (tmAt (terms N) (arg0 (tmAt (terms N) i))).kind, fun y hy' => ?_, (tmAt (terms N) (arg0 (tmAt (terms N) i))).n, fun y hy' => ?_, sy.a, sy.len, sy.cap, fun y hy' => ?_, ?_⟩
  · obtain ⟨_, q3, hq3, hc3⟩ := arg_get (argsAt 4 rfl hy.2 hx) (by show 1 ≤ (tmAt (terms N) i).args.length; omega)
    rw [hq2] at hq3
    obtain rfl := Option.some.inj hq3
    exact hc3
  · obtain ⟨q4, hq4, hd4⟩ := hy'.2.rowGet 2 (by omega) nodeC.w rfl hy
    rw [hq'] at hq4
    obtain rfl := Option.some.inj hq4
    have := hd4 0 _ rfl
    rw [add_zero] at this
    exact this
  · obtain ⟨q4, hq4, hd4⟩ := hy'.2.rowGet 2 (by omega) nodeC.w rfl hy
    rw [hq'] at hq4
    obtain rfl := Option.some.inj hq4
    exact hd4 1 _ rfl
  · obtain ⟨q4, hq4, hd4⟩ := hy'.2.rowGet 2 (by omega) nodeC.w rfl hy
    rw [hq'] at hq4
    obtain rfl := Option.some.inj hq4
    exact hd4 2 _ rfl
  intro w6
  have hb6 : Below w5.drew.heap.size w5.drew w6 := below_alloc _ _
  have hS7 := hS6.keep hb6
  refine ⟨⟨hS7.cell0 1 rfl rfl, hS7⟩, fun j hj => wr_new _ _ _ (by simpa using hj), ?_⟩
  intro w7
  have e7 : w7 = w5.drew.alloc (.cells #[.int .i64 (tmAt (terms N) (arg0 (tmAt (terms N) i))).kind, .int .i64 (tmAt (terms N) (arg0 (tmAt (terms N) i))).n, .slice sy.a sy.len sy.cap] 98) := box_set3
  clear_value w7
  obtain ⟨hS8, hb8⟩ := hS6.box [.int .i64 (tmAt (terms N) (arg0 (tmAt (terms N) i))).kind, .int .i64 (tmAt (terms N) (arg0 (tmAt (terms N) i))).n, .slice sy.a sy.len sy.cap] 98
  rw [show (w5.drew.alloc (.cells [Value.int .i64 (tmAt (terms N) (arg0 (tmAt (terms N) i))).kind, .int .i64 (tmAt (terms N) (arg0 (tmAt (terms N) i))).n, .slice sy.a sy.len sy.cap].toArray 98)) = w7 from e7.symm] at hS8 hb8
  have hB8 := (hB5.trans ((Same.drew w5).below B)).trans hb8
  generalize newA w5.drew = tc at hS8 ⊢
  have arOf2 : Sep B w7 (arA p N :: R) := arOf hS8.drop
  refine ⟨_, hS8.cell0 0 rfl rfl, cond_n (fun hk2 => none' _ _ ?_ arOf2 hB8) fun hk2 => ?_⟩
  · unfold unboxT; rw [e1, if_neg (by rw [hk]; decide), if_pos hk2]
  have hk2 : (tmAt (terms N) (arg0 (tmAt (terms N) i))).kind = 5 := hk2
  obtain ⟨y1, y2, y3, y4, y5, y6⟩ := ok_at hok hin0
  have hly : 1 ≤ (tmAt (terms N) (arg0 (tmAt (terms N) i))).args.length := by rw [hk2] at y3; exact y3
  obtain ⟨hpos3, q5, hq5, hc5⟩ := arg_get (argsAt 5 rfl hS8 hy) hly
  refine ⟨_, _, _, hS8.cell 0 rfl 2 rfl, by omega, hpos3, q5, hq5, _, hc5, cond_n (fun ha => none' _ _ ?_ arOf2 hB8) fun ha => ?_⟩
  · unfold unboxT; rw [e1, if_neg (by rw [hk]; decide), if_neg (by rw [hk2]; decide), if_pos ha]
  have ha : arg0 (tmAt (terms N) (arg0 (tmAt (terms N) i))) = k := ha
  have hcap := hcaps _ (List.mem_of_getElem? hx)
  have hI8 := argsAt 5 rfl hS8 hx
  have hlen := hI8.len
  unfold term_Arena_Unbox.c1
  refine ⟨_, _, _, hS8.cell 1 rfl 2 rfl, by omega, by (try dsimp only at hlen ⊢); omega, by (try dsimp only at hcap ⊢); omega, by omega, ?_⟩
  have hml := most_le (tmAt (terms N) i).kind
  refine (clone_spec (drop_ints hI8 hcap 2 hl2) (by rw [List.length_drop]; show (tmAt (terms N) i).args.length - 2 ≤ _; omega)).mono ?_
  rintro _ w9 ⟨s', rfl, ho, hb9⟩
  have er : unboxT (terms N) i k = ((tmAt (terms N) i).args.drop 2, 0) := by unfold unboxT; rw [e1, if_neg (by rw [hk]; decide), if_neg (by rw [hk2]; decide), if_neg (fun h => h ha)]
  refine ⟨_, _, _, rfl, s', by rw [er], by rw [er]; exact Sep.row arOf2 ho hb9, hB8.next hb9 h.le⟩

end Go.Proofs.YtoclhecldmahiaaDoor

/-
  Terms: who signed, and what the page opens: contracts.
-/
set_option linter.unusedVariables false
set_option linter.unusedSimpArgs false
namespace Go.Proofs.YtoclhecldmahiaaDoor
open Go.Lf Go.RowKit

def tmC (t : Tm) (s : Sl) : List Value := [.int .i64 t.kind, .int .i64 t.n, .slice s.a s.len s.cap]

/-! the page's -/

end Go.Proofs.YtoclhecldmahiaaDoor

/-
  Terms: what the statements begin with: the steps that come in, what is built of them, the wake: contracts.
-/
set_option linter.unusedVariables false
set_option linter.unusedSimpArgs false
namespace Go.Proofs.YtoclhecldmahiaaDoor
open Go.Lf Go.RowKit

theorem rowInts {B : Nat} {w : World} {l : List Asn} (k : Nat) {e : TypeId} {s : Sl} {kd : IntKind} {xs : List Int} (hk : l[k]? = some (rowA e 1 s xs.length (xs.map (Value.int kd)))) (h : Sep B w l) (hx : xs.length ≤ 9223372036854775807) : Ints kd w s xs := by
  have hl := (h.rowLen k hk).1
  refine ⟨hl, by omega, fun i x hi => ?_⟩
  obtain ⟨q, hq, hc⟩ := h.rowCell k hk (j := i) (by rw [List.length_map]; exact (List.getElem?_eq_some_iff.1 hi).1)
  have hv := hc i (.int kd x) (by rw [List.getElem?_map, hi]; rfl)
  refine ⟨q, hq, ?_, hv⟩
  have := World.block_lt_of_cell? _ _ hv
  rwa [add_block] at this

structure Stp where
  kind : Int
  n : Int
  args : List Int
  raw : Bool

def StpC (w : World) (cs : List Value) (x : Stp) : Prop := ∃ s : Sl, cs = [.int .i64 x.kind, .int .i64 x.n, .slice s.a s.len s.cap, .bool x.raw] ∧ Ints .i64 w s x.args ∧ x.n ≤ 9223372036854775807
theorem StpC.stab : Stab StpC := fun _ _ _ _ hb ⟨s, hs, h, h2⟩ => ⟨s, hs, h.keep hb, h2⟩
theorem StpC.len {w : World} {cs : List Value} {a : Stp} (h : StpC w cs a) : cs.length = 4 := by obtain ⟨s, rfl, _⟩ := h; rfl
abbrev Stps (w : World) (s : Sl) (l : List Stp) : Prop := Els 4 StpC w s l

theorem Stps.get {w : World} {s : Sl} {l : List Stp} (h : Stps w s l) {i : Int} (h0 : 0 ≤ i) (h1 : i < s.len) :
    ∃ p x sx, s.a = some p ∧ l[i.toNat]? = some x ∧ w.cell? (p.add (i.toNat * 4)) = some (.int .i64 x.kind) ∧ w.cell? ((p.add (i.toNat * 4)).add 1) = some (.int .i64 x.n) ∧
      w.cell? ((p.add (i.toNat * 4)).add 2) = some (.slice sx.a sx.len sx.cap) ∧ w.cell? ((p.add (i.toNat * 4)).add 3) = some (.bool x.raw) ∧ Ints .i64 w sx x.args ∧ x.n ≤ 9223372036854775807 := by
  obtain ⟨p, x, cs, hp, _, hg, hc, sx, rfl, hb, hn⟩ := Els.get h h0 h1
  exact ⟨p, x, sx, hp, hg, by have := hc 0 _ rfl; rwa [add_zero] at this, hc 1 _ rfl, hc 2 _ rfl, hc 3 _ rfl, hb, hn⟩

/-! what is light -/

def heavyL (l : List Stp) : Bool := decide (600 < l.length) || (l.take 150).any fun x => decide (420 < x.args.length)

theorem light {l : List Stp} (h : heavyL l = false) : l.length ≤ 600 ∧ ∀ (k : Nat) (x : Stp), k < 150 → l[k]? = some x → x.args.length ≤ 420 := by
  unfold heavyL at h
  rw [Bool.or_eq_false_iff] at h
  refine ⟨by have := of_decide_eq_false h.1; omega, fun k x hk hx => ?_⟩
  have := (List.any_eq_false.1 h.2) x (List.mem_of_getElem? (i := k) (by rw [List.getElem?_take, if_pos hk]; exact hx))
  simp at this
  omega

/-! some that are there -/

def someI (xs : List Int) (n : Int) : List Int := xs.map fun x => if 0 < n ∧ 0 ≤ x then x % n else x

theorem some_spec {w : World} {s : Sl} {xs : List Int} (h : Ints .i64 w s xs) (hx : xs.length ≤ 1000000) (n : Int) :
    CallsV Tryd.prog n_trystlaw10_Some #[.slice s.a s.len s.cap, .int .i64 n] w fun v w' => ∃ s' : Sl, v = .slice s'.a s'.len s'.cap ∧ OwnI w.heap.size 3 .i64 w' s' (someI xs n) ∧ Below w.heap.size w w' := by
  refine trystlaw10_Some.lift ?_
  have hl := h.len
  have hsl : (someI xs n).length = xs.length := by simp [someI]
  obtain ⟨i, hi, hz, hsz, hby⟩ := t3
  unfold trystlaw10_Some.main trystlaw10_Some.l1
  refine ⟨fun st w' => ∃ k : Nat, st.2 = k ∧ k ≤ xs.length ∧ OwnI w.heap.size 3 .i64 w' st.1 ((someI xs n).take k) ∧ Below w.heap.size w w', fun st _ => xs.length - st.2.toNat, ⟨0, rfl, Nat.zero_le _, OwnI.nil, Below.refl _ _⟩, ?_⟩
  rintro ⟨o, _⟩ w1 ⟨k, hk0, hk, ho, hb⟩
  simp only at hk0 ho
  subst hk0
  unfold trystlaw10_Some.b1
  refine cond_d (fun hlt => ?_) fun hge => ⟨o, rfl, ?_, hb⟩
  · have hk' : k < xs.length := by omega
    obtain ⟨q, hq, hc⟩ := (h.keep hb).get (i := (k : Int)) (by omega) hlt
    rw [Int.toNat_natCast, List.getElem?_eq_getElem hk', Option.getD_some] at hc
    have step : ∀ x, x = (if 0 < n ∧ 0 ≤ xs[k] then xs[k] % n else xs[k]) → trystlaw10_Some.c2 (fun v w' => ∃ s' : Sl, v = .slice s'.a s'.len s'.cap ∧ OwnI w.heap.size 3 .i64 w' s' (someI xs n) ∧ Below w.heap.size w w')
        (fun l0' n1' out5' i6' w' => (l0' = s ∧ n1' = n ∧ ∃ k : Nat, i6' = k ∧ k ≤ xs.length ∧ OwnI w.heap.size 3 .i64 w' out5' ((someI xs n).take k) ∧ Below w.heap.size w w') ∧ xs.length - i6'.toNat < xs.length - ((k : Nat) : Int).toNat) s n o ((k : Nat) : Int) x w1 := by
      intro x hxe
      unfold trystlaw10_Some.c2
      intro w2
      obtain ⟨s', w', hr, ho', _, hb'⟩ := append_int (ty := 29) Tryd.underlying29 hi hz hsz hby rfl ho (x := x) (by rw [List.length_take]; unfold maxLen; omega) (by rw [List.length_take]; omega) hb.size
      refine ⟨_, _, _, _, hr, ?_⟩
      rw [inc (by omega)]
      refine ⟨⟨rfl, rfl, k + 1, rfl, by omega, ?_, hb.trans hb'⟩, by (try dsimp only); omega⟩
      have : (someI xs n).take (k + 1) = (someI xs n).take k ++ [x] := by
        rw [List.take_succ_eq_append_getElem (by omega), hxe]
        simp [someI]
      rw [this]; exact ho'
    refine ⟨by omega, hlt, q, hq, _, by rw [Int.toNat_natCast]; exact hc, cond_d (fun hn => cond_d (fun h0 => ⟨by omega, step _ ?_⟩) fun h0 => step _ ?_) fun hn => step _ ?_⟩
    · rw [if_pos ⟨by omega, by omega⟩, tmod_nn (by omega)]
    · rw [if_neg (by omega)]
    · rw [if_neg (by omega)]
  · rw [List.take_of_length_le (by omega)] at ho
    exact ho

/-! the wake -/

/-! what is built -/

def stepT (T : List Tm) (x : Stp) : Tm := ⟨x.kind, x.n, if x.raw = true then x.args else someI x.args (T.length : Int)⟩
def buildT (l : List Stp) : List Tm := (l.take 150).foldl (fun T x => (put T (stepT T x)).1) []

end Go.Proofs.YtoclhecldmahiaaDoor

/-
  Terms: what is built of steps, on both arenas: contract.
-/
set_option linter.unusedVariables false
set_option linter.unusedSimpArgs false
namespace Go.Proofs.YtoclhecldmahiaaDoor
open Go.Lf Go.RowKit

theorem Sep.tmp3 {B : Nat} {w : World} {l : List Asn} (h : Sep B w l) (T : TypeId) (x y z a b c : Value) :
    (∀ j, j < 3 → Wr (w.alloc (.cells #[x, y, z] T)) ((newA w).add j)) ∧ Sep B (setCells (newA w) [a, b, c] 0 (w.alloc (.cells #[x, y, z] T))) (boxA (newA w) [a, b, c] :: l) ∧ Below B w (setCells (newA w) [a, b, c] 0 (w.alloc (.cells #[x, y, z] T))) := by
  refine ⟨fun j hj => wr_new _ _ _ (by simpa using hj), ?_⟩
  rw [box_set3]
  exact h.box [a, b, c] T

theorem arOk {B : Nat} {w : World} {p : Addr} {N : Nds} {R : List Asn} (h : Sep B w (arA p N :: R)) : TOk (terms N) := h.unfold.choose_spec.1.1
theorem pgOk {B : Nat} {w : World} {p : Addr} {N : Nds} {R : List Asn} (h : Sep B w (pgA p N :: R)) : TOk (terms N) := h.unfold.choose_spec.1.1

theorem arLen {B : Nat} {w : World} {p : Addr} {N : Nds} {R : List Asn} (h : Sep B w (arA p N :: R)) : ∃ a c, w.cell? p = some (.slice a (terms N).length c) := by
  obtain ⟨⟨sl, m⟩, _, hS⟩ := h.unfold
  have hS : Sep B w (arL 98 p N sl m ++ R) := hS
  refine ⟨sl.a, sl.cap, ?_⟩
  rw [terms_len, ← (hS.rowLen 1 rfl).1]
  exact hS.cell0 0 rfl rfl
theorem pgLen {B : Nat} {w : World} {p : Addr} {N : Nds} {R : List Asn} (h : Sep B w (pgA p N :: R)) : ∃ a c, w.cell? p = some (.slice a (terms N).length c) := by
  obtain ⟨sl, _, hS⟩ := h.unfold
  have hS : Sep B w (pgL 98 p N sl ++ R) := hS
  refine ⟨sl.a, sl.cap, ?_⟩
  rw [terms_len, ← (hS.rowLen 1 rfl).1]
  exact hS.cell0 0 rfl rfl

theorem build_at {l : List Stp} {k : Nat} {x : Stp} (h : l[k]? = some x) : (l.take (k + 1)).foldl (fun T x => (put T (stepT T x)).1) [] = (put ((l.take k).foldl (fun T x => (put T (stepT T x)).1) []) (stepT ((l.take k).foldl (fun T x => (put T (stepT T x)).1) []) x)).1 := by
  obtain ⟨hlt, he⟩ := List.getElem?_eq_some_iff.1 h
  rw [List.take_succ_eq_append_getElem hlt, he, List.foldl_append]
  rfl

set_option maxRecDepth 100000 in
theorem build_spec {W w : World} {R : List Asn} {s : Sl} {l : List Stp} (hL : Stps W s l) (h0 : Below W.heap.size W w) (h : Sep W.heap.size w R) (hT : PT W.heap.size w) (hh : heavyL l = false) :
    CallsV Tryd.prog n_trystlaw10_Build #[.slice s.a s.len s.cap] w fun v w' => ∃ a b Na Nb, v = .tuple #[.pointer (some a), .pointer (some b), .bool true] ∧
      terms Na = buildT l ∧ terms Nb = buildT l ∧ Sep W.heap.size w' (arA a Na :: pgA b Nb :: R) ∧ Below W.heap.size w w' := by
  refine trystlaw10_Build.lift ?_
  obtain ⟨hl6, hlight⟩ := light hh
  have hlen := hL.len
  obtain ⟨B, hBe⟩ : ∃ B, B = W.heap.size := ⟨_, rfl⟩
  rw [← hBe] at h0 h hT ⊢
  unfold trystlaw10_Build.main
  refine (new_spec h).mono ?_
  rintro _ w8 ⟨a, rfl, h8, hb8⟩
  refine ⟨_, rfl, ?_⟩
  intro w9
  obtain ⟨h9, hb9⟩ := newPage_spec h8
  have h9 : Sep B w9 (pgA (newA w8) [] :: arA a [] :: R) := h9
  have hB9 : Below B w w9 := hb8.trans hb9
  clear_value w9
  generalize newA w8 = b at h9 ⊢
  refine cond_f' rfl ?_
  generalize hRR : (fun (v : Value) (w' : World) => ∃ a b Na Nb, v = .tuple #[.pointer (some a), .pointer (some b), .bool true] ∧ terms Na = buildT l ∧ terms Nb = buildT l ∧ Sep B w' (arA a Na :: pgA b Nb :: R) ∧ Below B w w') = RR
  unfold trystlaw10_Build.l2
  refine ⟨fun t w' => ∃ k : Nat, t = k ∧ k ≤ l.length ∧ k ≤ 150 ∧ ∃ Na Nb, terms Na = (l.take k).foldl (fun T x => (put T (stepT T x)).1) [] ∧ terms Nb = terms Na ∧ Sep B w' (arA a Na :: pgA b Nb :: R) ∧ Below B w w', fun t _ => l.length - t.toNat, ⟨0, rfl, Nat.zero_le _, Nat.zero_le _, [], [], rfl, rfl, h9.swap, hB9⟩, ?_⟩
  rintro _ w1 ⟨k, rfl, hk, hk2, Na, Nb, hNa, hNb, h1, hB1⟩
  have fin : (l.length ≤ k ∨ 150 ≤ k) → trystlaw10_Build.c1 RR (some a) (some b) w1 := by
    intro hc
    have hbt : terms Na = buildT l := by
      rw [hNa]
      unfold buildT
      congr 1
      rcases hc with hc | hc
      · rw [List.take_of_length_le (by omega), List.take_of_length_le (by omega)]
      · have e : k = 150 := Nat.le_antisymm hk2 hc
        rw [e]
    unfold trystlaw10_Build.c1
    have h2 := h1.drew
    obtain ⟨xa, ca, hca⟩ := arLen h2
    obtain ⟨xb, cb, hcb⟩ := pgLen h2.swap
    refine ⟨fun y => y = w1.drew, rfl, b, rfl, _, _, _, fun y hy => by rw [hy]; exact hcb, ?_⟩
    refine (len_spec hca).mono ?_
    rintro _ _ ⟨rfl, rfl⟩
    refine ⟨_, rfl, rfl, ?_⟩
    rw [← hRR]
    refine ⟨a, b, Na, Nb, ?_, hbt, by rw [hNb, hbt], h2, hB1.trans ((Same.drew w1).below B)⟩
    rw [hNb]
    simp
  unfold trystlaw10_Build.b2
  refine cond_d (fun hlt => ?_) fun hge => fin (.inl (by omega))
  refine cond_d (p := ((k : Nat) : Int) < 150) (fun h150 => ?_) fun h150 => fin (.inr (by omega))
  have hk' : k < l.length := by omega
  obtain ⟨p, x, sx, hp, hx, c0, c1, c2, c3, hI, hn⟩ := hL.get (i := (k : Int)) (by omega) hlt
  rw [Int.toNat_natCast] at hx
  have hxl := hlight k x (by omega) hx
  have h01 : Below W.heap.size W w1 := by rw [← hBe]; exact h0.trans hB1
  have hst : ∀ (w' : World), Below B w1 w' → Ints .i64 w' sx x.args ∧ w'.cell? (p.add (((k : Nat) : Int).toNat * 4)) = some (.int .i64 x.kind) ∧ w'.cell? ((p.add (((k : Nat) : Int).toNat * 4)).add 1) = some (.int .i64 x.n) := by
    intro w' hb'
    have hb : Below W.heap.size W w' := h01.trans (by rw [← hBe]; exact hb')
    exact ⟨hI.keep hb, hb.here c0, hb.here c1⟩
  have c4 : ∀ (w2 : World) (R' : List Asn) (az : Sl) (args : List Int), Below B w1 w2 → Sep B w2 (arA a Na :: pgA b Nb :: R') → args = (stepT (terms Na) x).args → (∀ L w', Sep B w' (L ++ R') → Below B w2 w' → Ints .i64 w' az args) → (∀ w' L, Sep B w' (L ++ R') → Sep B w' (L ++ R)) →
      trystlaw10_Build.c4 RR (fun l0' a5' b6' i7' w' => (l0' = s ∧ a5' = some a ∧ b6' = some b ∧ ∃ k : Nat, i7' = k ∧ k ≤ l.length ∧ k ≤ 150 ∧ ∃ Na Nb, terms Na = (l.take k).foldl (fun T x => (put T (stepT T x)).1) [] ∧ terms Nb = terms Na ∧ Sep B w' (arA a Na :: pgA b Nb :: R) ∧ Below B w w') ∧ l.length - i7'.toNat < l.length - ((k : Nat) : Int).toNat) s (some a) (some b) ((k : Nat) : Int) az w2 := by
    intro w2 R' az args hb12 h2 hargs hAs hback
    have hB2 := hB1.trans hb12
    have hal : args.length ≤ 420 := by
      rw [hargs]
      unfold stepT
      simp only
      split
      · exact hxl
      · simp only [someI, List.length_map]; exact hxl
    unfold trystlaw10_Build.c4
    have hA2 := hAs [arA a Na, pgA b Nb] w2 h2 (Below.refl _ _)
    refine (twin_spec hA2 (by omega)).mono ?_
    rintro _ w3 ⟨si, rfl, ho, hb3⟩
    have h3 : Sep B w3 (ownA si args :: arA a Na :: pgA b Nb :: R') := Sep.row h2 ho hb3
    have hb23 : Below B w2 w3 := hb3.mono h2.le
    have h3d := h3.drew
    have hb13 : Below B w1 w3.drew := (hb12.trans hb23).trans ((Same.drew w3).below B)
    obtain ⟨_, d0, d1⟩ := hst _ hb13
    refine ⟨_, _, _, rfl, fun y => y = w3.drew, rfl, by omega, hlt, p, hp, _, fun y hy => by rw [hy]; exact d0, by omega, hlt, p, hp, _, fun y hy => by rw [hy]; exact d1, ?_⟩
    refine (make_spec (t := stepT (terms Na) x) (s := si) h3d.swap (hT.on (hB1.trans hb13)) hn (fun X w' hs _ => by rw [← hargs]; exact rowInts 1 rfl hs (by omega))).mono ?_
    rintro _ w4 ⟨ma, rfl, hma, h4, hb4⟩
    have h4d := h4.drew
    have hb24 : Below B w2 w4.drew := ((hb23.trans ((Same.drew w3).below B)).trans hb4).trans ((Same.drew w4).below B)
    have hb14 : Below B w1 w4.drew := hb12.trans hb24
    obtain ⟨_, f0, f1⟩ := hst _ hb14
    refine ⟨_, _, rfl, fun y => y = w4.drew, rfl, by omega, hlt, p, hp, _, fun y hy => by rw [hy]; exact f0, by omega, hlt, p, hp, _, fun y hy => by rw [hy]; exact f1, ?_⟩
    have h4p : Sep B w4.drew (pgA b Nb :: arA a (Na ++ ma) :: ownA si args :: R') := h4d.front 2 rfl
    refine (rput_spec (t := stepT (terms Na) x) (s := az) h4p (fun X w' hs hb' => by rw [← hargs]; exact hAs [X, arA a (Na ++ ma), ownA si args] w' hs (hb24.trans hb'))).mono ?_
    rintro _ w5 ⟨mb, rfl, hmb, h5, hb5⟩
    rw [hNb] at hmb ⊢
    refine ⟨_, _, rfl, cond_n (fun h => absurd rfl h) fun _ => cond_n (fun h => absurd rfl h) fun _ => ?_⟩
    have hb25 := hb24.trans hb5
    have hA5 := hAs [pgA b (Nb ++ mb), arA a (Na ++ ma), ownA si args] w5 h5 hb25
    refine (ints_spec (s := si) (t := az) (rowInts (xs := args) 2 rfl h5 (by omega)) hA5).mono ?_
    rintro _ w6 ⟨rfl, hs6⟩
    refine ⟨_, rfl, cond_not (fun h => by simp at h) fun _ => ?_⟩
    have h6 := h5.same hs6
    unfold trystlaw10_Build.c3
    have h6f : Sep B w6 (ownA si args :: pgA b (Nb ++ mb) :: arA a (Na ++ ma) :: R') := h6.front 2 rfl
    refine (spoil_spec h6f (by omega)).mono ?_
    rintro _ w7 ⟨rfl, h7, hb7⟩
    refine ⟨rfl, ?_⟩
    rw [inc (by omega)]
    refine ⟨⟨rfl, rfl, rfl, k + 1, rfl, by omega, by omega, Na ++ ma, Nb ++ mb, ?_, ?_, hback w7 [arA a (Na ++ ma), pgA b (Nb ++ mb)] h7.swap, (((hB2.trans hb25).trans (hs6.below B))).trans hb7⟩, by (try dsimp only); omega⟩
    · rw [hma, build_at hx, ← hNa]
    · rw [hma, hmb]
  unfold trystlaw10_Build.c5
  refine ⟨by omega, hlt, p, hp, _, _, _, h01.here c2, by omega, hlt, p, hp, _, h01.here c3, cond_not (fun hr => ?_) fun hr => ?_⟩
  · obtain ⟨xb, cb, hcb⟩ := pgLen h1.swap
    refine ⟨b, rfl, _, _, _, hcb, ?_⟩
    refine (some_spec (hI.keep h01) (by omega) _).mono ?_
    rintro _ w2 ⟨s2, rfl, ho, hb2⟩
    refine ⟨_, _, _, rfl, ?_⟩
    have h2 : Sep B w2 (ownA s2 (someI x.args ((terms Nb).length : Int)) :: arA a Na :: pgA b Nb :: R) := Sep.row h1 ho hb2
    have hsl : (someI x.args ((terms Nb).length : Int)).length = x.args.length := by simp [someI]
    refine c4 w2 (ownA s2 (someI x.args ((terms Nb).length : Int)) :: R) s2 _ (hb2.mono h1.le) ?_ ?_ (fun L w' hs _ => rowInts 0 rfl (Sep.dropL hs) (by omega)) (fun w' L hs => ?_)
    · exact (h2.front 1 rfl).perm (List.Perm.cons _ (List.Perm.swap _ _ _))
    · unfold stepT; simp only; rw [if_neg (by rw [hr]; decide), hNb]
    · exact (hs.perm List.perm_middle).drop
  · refine c4 w1 R sx x.args (Below.refl _ _) h1 ?_ (fun L w' hs hb' => ?_) fun w' L hs => hs
    · unfold stepT; simp only; rw [if_pos hr]
    · exact (hst w' hb').1

end Go.Proofs.YtoclhecldmahiaaDoor
