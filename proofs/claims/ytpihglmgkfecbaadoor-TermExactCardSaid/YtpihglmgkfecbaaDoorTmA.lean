/-
  Terms: the small functions, and the text of a term: contracts.
-/
import Derived.Test.YtpihglmgkfecbaaDoorLiftArr
import Derived.Test.YtpihglmgkfecbaaDoorTmFns
import Derived.Test.YtpihglmgkfecbaaDoorTmAi
set_option linter.unusedVariables false
set_option linter.unusedSimpArgs false
namespace Go.Proofs.YtpihglmgkfecbaaDoor
open Go.Lf Go.RowKit

theorem t3 : ∃ i, Tryd.prog.info? 3 = some i ∧ i.zero = some (.int .i64 0) ∧ i.size = 1 ∧ i.bytes = 8 := ⟨Tryd.t3, by kernel_rfl, by kernel_rfl, by kernel_rfl, by kernel_rfl⟩
theorem t4 : ∃ i, Tryd.prog.info? 4 = some i ∧ i.zero = some (.bool false) ∧ i.size = 1 ∧ i.bytes = 1 := ⟨Tryd.t4, by kernel_rfl, by kernel_rfl, by kernel_rfl, by kernel_rfl⟩
theorem t5 : ∃ i, Tryd.prog.info? 5 = some i ∧ i.zero = some (.int .u8 0) ∧ i.size = 1 ∧ i.bytes = 1 := ⟨Tryd.t5, by kernel_rfl, by kernel_rfl, by kernel_rfl, by kernel_rfl⟩
theorem t43 : ∃ i, Tryd.prog.info? 43 = some i ∧ i.zero = some (.agg #[.int .i64 0, .int .i64 0, .slice none 0 0]) ∧ i.size = 3 ∧ i.bytes = 40 := ⟨Tryd.t43, by kernel_rfl, by kernel_rfl, by kernel_rfl, by kernel_rfl⟩

def PT (B : Nat) (w : World) : Prop := Lib.TabBelow Tryd.prog B w "internal/strconv.uint64pow10" .u64 Lib.pow10Tab
theorem PT.on {B : Nat} {w w' : World} (h : PT B w) (hb : Below B w w') : PT B w' := Lib.TabBelow.on h hb
theorem PT.up {B B' : Nat} {w : World} (h : PT B w) (hB : B ≤ B') : PT B' w := fun w' hb => h w' (hb.mono hB)

theorem many_spec (kind : Int) (w : World) : CallsV Tryd.prog n_term_many #[.int .i64 kind] w fun v w' => v = .tuple #[.int .i64 (least kind : Int), .int .i64 (mostOf kind : Int)] ∧ w = w' := by
  refine term_many.lift ?_
  unfold term_many.main term_many.c3 term_many.c2 term_many.c1
  by_cases h1 : kind = 1
  · subst h1; exact ⟨rfl, rfl⟩
  by_cases h2 : kind = 2
  · subst h2; exact ⟨rfl, rfl⟩
  by_cases h4 : kind = 4
  · subst h4; exact ⟨rfl, rfl⟩
  by_cases h5 : kind = 5
  · subst h5; exact ⟨rfl, rfl⟩
  by_cases h6 : kind = 6
  · subst h6; exact ⟨rfl, rfl⟩
  by_cases h7 : kind = 7
  · subst h7; exact ⟨rfl, rfl⟩
  by_cases h8 : kind = 8
  · subst h8; exact ⟨rfl, rfl⟩
  simp [h1, h2, h4, h5, h6, h7, h8, least, mostOf]

theorem count_spec (kind : Int) (n : Nat) (w : World) : CallsV Tryd.prog n_trystref10_count #[.int .i64 kind, .int .i64 (n : Int)] w fun v w' => v = .bool (decide (least kind ≤ n ∧ n ≤ mostOf kind)) ∧ w = w' := by
  refine trystref10_count.lift ?_
  unfold trystref10_count.main trystref10_count.c3 trystref10_count.c2 trystref10_count.c1
  have hm : mostOf kind ≤ 400 := by unfold mostOf; split <;> (try split) <;> omega
  refine cond_d (fun h => ⟨by rw [decide_eq_false]; omega, rfl⟩) fun h => ?_
  have fin : ∀ (p : Bool), (p = decide (least kind ≤ n ∧ n ≤ mostOf kind)) → (Value.bool p = .bool (decide (least kind ≤ n ∧ n ≤ mostOf kind)) ∧ w = w) := fun p hp => ⟨by rw [hp], rfl⟩
  by_cases h1 : kind = 1
  · subst h1; refine fin _ ?_; rw [show (((n : Int)) == 0) = decide (((n : Int)) = 0) from rfl]; simp only [decide_eq_decide, least, mostOf]; simp
  by_cases h2 : kind = 2
  · subst h2; refine fin _ ?_; rw [show (((n : Int)) == 0) = decide (((n : Int)) = 0) from rfl]; simp only [decide_eq_decide, least, mostOf]; simp
  by_cases h4 : kind = 4
  · subst h4; refine fin _ ?_; rw [show (((n : Int)) == 1) = decide (((n : Int)) = 1) from rfl]; simp only [decide_eq_decide, least, mostOf]; simp; omega
  by_cases h5 : kind = 5
  · subst h5; refine fin _ ?_; rw [show (((n : Int)) == 1) = decide (((n : Int)) = 1) from rfl]; simp only [decide_eq_decide, least, mostOf]; simp; omega
  by_cases h6 : kind = 6
  · subst h6; refine fin _ ?_; simp only [decide_eq_decide, least, mostOf]; simp; omega
  by_cases h7 : kind = 7
  · subst h7; refine fin _ ?_; simp only [decide_eq_decide, least, mostOf]; simp; omega
  by_cases h8 : kind = 8
  · subst h8; refine fin _ ?_; simp only [decide_eq_decide, least, mostOf]; simp; omega
  simp [h1, h2, h4, h5, h6, h7, h8, least, mostOf]; omega

theorem has_spec {w : World} {p : Addr} {a : Option Addr} {c : Nat} {T : List Tm} (hp : w.cell? p = some (.slice a T.length c)) {s : Sl} {xs : List Int} (h : Ints .i64 w s xs) :
    CallsV Tryd.prog n_term_Arena_Has #[.pointer (some p), .slice s.a s.len s.cap] w fun v w' => v = .bool (decide (∀ x ∈ xs, inT T x)) ∧ w = w' := by
  refine term_Arena_Has.lift ?_
  have hl := h.len
  have hsm := h.small
  unfold term_Arena_Has.main term_Arena_Has.l1
  refine ⟨fun t w' => w = w' ∧ ∃ k : Nat, t = k ∧ k ≤ xs.length ∧ ∀ x ∈ xs.take k, inT T x, fun t _ => xs.length - t.toNat, ⟨rfl, 0, rfl, Nat.zero_le _, by simp⟩, ?_⟩
  rintro _ w1 ⟨rfl, k, rfl, hk, hall⟩
  unfold term_Arena_Has.b1
  refine cond_d (fun hlt => ?_) fun hge => ⟨?_, rfl⟩
  · obtain ⟨q, hq, hc⟩ := h.get (i := (k : Int)) (by omega) (by omega)
    have hk' : k < xs.length := by omega
    refine ⟨by omega, by omega, q, hq, _, hc, ?_⟩
    rw [Int.toNat_natCast, List.getElem?_eq_getElem hk', Option.getD_some]
    refine cond_d (fun hn => ⟨?_, rfl⟩) fun hn => ⟨p, rfl, _, _, _, hp, cond_d (fun hb => ⟨?_, rfl⟩) fun hb => ?_⟩
    · rw [decide_eq_false]; intro hh; have := (hh _ (List.getElem_mem hk')).1; omega
    · rw [decide_eq_false]; intro hh; have := (hh _ (List.getElem_mem hk')).2; omega
    · rw [inc (by omega)]
      refine ⟨⟨rfl, rfl, rfl, rfl, k + 1, rfl, by omega, ?_⟩, by (try dsimp only); omega⟩
      intro x hx
      rw [List.take_succ_eq_append_getElem hk', List.mem_append, List.mem_singleton] at hx
      rcases hx with hx | rfl
      · exact hall x hx
      · exact ⟨by omega, by omega⟩
  · rw [List.take_of_length_le (by omega)] at hall
    rw [decide_eq_true hall]

theorem rhas_spec {w : World} {p : Addr} {a : Option Addr} {c : Nat} {T : List Tm} (hp : w.cell? p = some (.slice a T.length c)) {s : Sl} {xs : List Int} (h : Ints .i64 w s xs) :
    CallsV Tryd.prog n_trystref10_Arena_Has #[.pointer (some p), .slice s.a s.len s.cap] w fun v w' => v = .bool (decide (∀ x ∈ xs, inT T x)) ∧ Same w w' := by
  refine trystref10_Arena_Has.lift ?_
  have hl := h.len
  have hsm := h.small
  unfold trystref10_Arena_Has.main trystref10_Arena_Has.l1
  refine ⟨fun t w' => Same w w' ∧ ∃ k : Nat, t = k ∧ k ≤ xs.length ∧ ∀ x ∈ xs.take k, inT T x, fun t _ => xs.length - t.toNat, ⟨Same.refl _, 0, rfl, Nat.zero_le _, by simp⟩, ?_⟩
  rintro _ w1 ⟨hs, k, rfl, hk, hall⟩
  unfold trystref10_Arena_Has.b1
  refine cond_d (fun hlt => ?_) fun hge => ⟨?_, hs⟩
  · obtain ⟨q, hq, hc⟩ := (h.same hs).get (i := (k : Int)) (by omega) (by omega)
    have hk' : k < xs.length := by omega
    refine ⟨by omega, by omega, q, hq, _, hc, ?_⟩
    rw [Int.toNat_natCast, List.getElem?_eq_getElem hk', Option.getD_some] at *
    refine cond_d (fun hn => ⟨?_, hs.drew'⟩) fun hn => ⟨by omega, by omega, q, hq, _, hc, p, rfl, _, _, _, by rw [hs.cell]; exact hp, cond_d (fun hb => ⟨?_, hs.drew'⟩) fun hb => ?_⟩
    · rw [decide_eq_false]; intro hh; have := (hh _ (List.getElem_mem hk')).1; omega
    · rw [decide_eq_false]; intro hh; have := (hh _ (List.getElem_mem hk')).2; omega
    · rw [inc (by omega)]
      refine ⟨⟨rfl, rfl, hs.drew', k + 1, rfl, by omega, ?_⟩, by (try dsimp only); omega⟩
      intro x hx
      rw [List.take_succ_eq_append_getElem hk', List.mem_append, List.mem_singleton] at hx
      rcases hx with hx | rfl
      · exact hall x hx
      · exact ⟨by omega, by omega⟩
  · rw [List.take_of_length_le (by omega)] at hall
    rw [decide_eq_true hall]

theorem ints_spec {w : World} {s t : Sl} {xs ys : List Int} (h : Ints .i64 w s xs) (h' : Ints .i64 w t ys) :
    CallsV Tryd.prog n_trystkeep_Ints #[.slice s.a s.len s.cap, .slice t.a t.len t.cap] w fun v w' => v = .bool (decide (xs = ys)) ∧ Same w w' := by
  refine trystkeep_Ints.lift ?_
  have hl := h.len
  have hl' := h'.len
  have hsm := h.small
  unfold trystkeep_Ints.main
  refine cond_n (fun hne => ⟨by rw [decide_eq_false (fun he => hne (by rw [hl, hl', he]))], Same.refl _⟩) fun he => ?_
  unfold trystkeep_Ints.l1
  refine ⟨fun st w' => Same w w' ∧ ∃ k : Nat, st = k ∧ k ≤ xs.length ∧ xs.take k = ys.take k, fun st _ => xs.length - st.toNat, ⟨Same.refl _, 0, rfl, Nat.zero_le _, rfl⟩, ?_⟩
  rintro _ w' ⟨hs, k, rfl, hle, htk⟩
  unfold trystkeep_Ints.b1
  refine cond_d (fun hlt => ?_) fun hge => ⟨?_, hs⟩
  · obtain ⟨p, hp, hc⟩ := (h.same hs).get (i := (k : Int)) (by omega) (by omega)
    obtain ⟨q, hq, hd⟩ := (h'.same hs).get (i := (k : Int)) (by omega) (by omega)
    refine ⟨by omega, by omega, p, hp, _, hc, by omega, by omega, q, hq, _, hd, ?_⟩
    have hk : k < xs.length := by omega
    have hk' : k < ys.length := by omega
    rw [Int.toNat_natCast, List.getElem?_eq_getElem hk, List.getElem?_eq_getElem hk', Option.getD_some, Option.getD_some, inc (by omega)]
    refine cond_n (fun hne => ⟨?_, hs.drew'⟩) fun heq => ?_
    · rw [decide_eq_false]
      intro hxy
      subst hxy
      exact hne rfl
    · refine ⟨⟨rfl, rfl, hs.drew', k + 1, rfl, by omega, ?_⟩, by (try dsimp only); omega⟩
      rw [List.take_succ_eq_append_getElem hk, List.take_succ_eq_append_getElem hk', htk, heq]
  · rw [decide_eq_true]
    rwa [List.take_of_length_le (by omega), List.take_of_length_le (by omega)] at htk

theorem termEq_spec {w : World} {t u : Tm} {s r : Sl} (h : Ints .i64 w s t.args) (h' : Ints .i64 w r u.args) :
    CallsV Tryd.prog n_trystkeep_Term #[.agg #[.int .i64 t.kind, .int .i64 t.n, .slice s.a s.len s.cap], .agg #[.int .i64 u.kind, .int .i64 u.n, .slice r.a r.len r.cap]] w fun v w' => v = .bool (decide (t = u)) ∧ Below w.heap.size w w' := by
  refine trystkeep_Term.lift ?_
  unfold trystkeep_Term.main
  intro w1 w2
  have hb1 : Below w.heap.size w w1 := below_alloc _ _
  have hb2 : Below w1.heap.size w1 w2 := below_alloc _ _
  have hb := hb1.then hb2
  have c1 : ∀ (j : Nat) (v : Value), (#[Value.int .i64 t.kind, .int .i64 t.n, .slice s.a s.len s.cap] : Array Value)[j]? = some v → w2.cell? ((newA w).add j) = some v := fun j v hv => hb2.here (by rw [← hv]; exact cell_new w _ _ j)
  have c2 : ∀ (j : Nat) (v : Value), (#[Value.int .i64 u.kind, .int .i64 u.n, .slice r.a r.len r.cap] : Array Value)[j]? = some v → w2.cell? ((newA w1).add j) = some v := fun j v hv => by rw [← hv]; exact cell_new w1 _ _ j
  have no : ¬ (t = u) → decide (t = u) = false := fun h => decide_eq_false h
  have k1 := c1 0 _ rfl
  have k2 := c2 0 _ rfl
  rw [add_zero] at k1 k2
  refine ⟨_, k1, _, k2, cond_e (fun e1 => ?_) fun e1 => ⟨by rw [no fun e => e1 (by rw [e])], hb⟩⟩
  refine ⟨_, c1 1 _ rfl, _, c2 1 _ rfl, cond_e (fun e2 => ?_) fun e2 => ⟨by rw [no fun e => e2 (by rw [e])], hb⟩⟩
  refine ⟨_, _, _, c1 2 _ rfl, _, _, _, c2 2 _ rfl, ?_⟩
  refine (ints_spec (h.keep hb) (h'.keep hb)).mono ?_
  rintro _ w3 ⟨rfl, hs⟩
  refine ⟨_, rfl, ?_, hb.then (hs.below _)⟩
  congr 1
  rw [decide_eq_decide]
  cases t; cases u
  simp only [Tm.mk.injEq] at *
  simp [e1, e2]

theorem twin_spec {w : World} {s : Sl} {xs : List Int} (h : Ints .i64 w s xs) (hx : xs.length ≤ 1000000000) :
    CallsV Tryd.prog n_trystkeep_TwinInts #[.slice s.a s.len s.cap] w fun v w' => ∃ s' : Sl, v = .slice s'.a s'.len s'.cap ∧ OwnI w.heap.size 3 .i64 w' s' xs ∧ Below w.heap.size w w' := by
  refine trystkeep_TwinInts.lift ?_
  unfold trystkeep_TwinInts.main
  obtain ⟨i, hi, hz, hsz, hby⟩ := t3
  obtain ⟨s', w', hr, ho, hb⟩ := append_all (ty := 29) Tryd.underlying29 hi hz hsz hby rfl h (by unfold maxLen; omega) (by omega)
  exact ⟨_, _, _, _, hr, s', rfl, ho, hb⟩

theorem clone_spec {w : World} {s : Sl} {xs : List Int} (h : Ints .i64 w s xs) (hx : xs.length ≤ 1000000000) :
    CallsV Tryd.prog n_slices_Clone_int #[.slice s.a s.len s.cap] w fun v w' => ∃ s' : Sl, v = .slice s'.a s'.len s'.cap ∧ OwnI w.heap.size 3 .i64 w' s' xs ∧ Below w.heap.size w w' := by
  refine slices_Clone_int.lift ?_
  unfold slices_Clone_int.main
  obtain ⟨i, hi, hz, hsz, hby⟩ := t3
  cases ha : s.a with
  | none =>
    have hx : xs = [] := by
      cases xs with
      | nil => rfl
      | cons y r => obtain ⟨q, hq, _⟩ := h.cell 0 y rfl; rw [ha] at hq; cases hq
    subst hx
    exact cond_t rfl ⟨⟨none, 0, 0⟩, rfl, OwnI.nil, Below.refl _ _⟩
  | some a =>
    refine cond_f' rfl ?_
    obtain ⟨s', w', hr, ho, hb⟩ := clone_ints (ty := 29) Tryd.underlying29 hi hz hsz hby h ha (by unfold maxLen; omega) (by omega)
    rw [ha] at hr
    exact ⟨_, _, _, _, hr, s', rfl, ho, hb⟩

theorem spoil_spec {B : Nat} {w : World} {s : Sl} {xs : List Int} {R : List Asn} (h : Sep B w (rowA 3 1 s xs.length (xs.map (Value.int .i64)) :: R)) (hx : xs.length ≤ 9223372036854775807) :
    CallsV Tryd.prog n_trystkeep_SpoilInts #[.slice s.a s.len s.cap] w fun v w' => v = .tuple #[] ∧ Sep B w' R ∧ Below B w w' := by
  refine trystkeep_SpoilInts.lift ?_
  unfold trystkeep_SpoilInts.main trystkeep_SpoilInts.l1
  have hl := (h.rowLen 0 rfl).1
  refine ⟨fun t w' => ∃ k : Nat, t = k ∧ k ≤ xs.length ∧ ∃ ys : List Int, ys.length = xs.length ∧ Sep B w' (rowA 3 1 s ys.length (ys.map (Value.int .i64)) :: R) ∧ Below B w w', fun t _ => xs.length - t.toNat, ⟨0, rfl, Nat.zero_le _, xs, rfl, h, Below.refl _ _⟩, ?_⟩
  rintro _ w1 ⟨k, rfl, hk, ys, hy, h1, hb⟩
  unfold trystkeep_SpoilInts.b1
  refine cond_d (fun hlt => ?_) fun hge => ⟨rfl, h1.drop, hb⟩
  have hk' : k < ys.length := by omega
  obtain ⟨q, hq, hc⟩ := h1.rowCell 0 rfl (j := k) (by rw [List.length_map]; exact hk')
  obtain ⟨h2, hb2⟩ := h1.rowSet 0 rfl hq (j := k) (by rw [List.length_map]; exact hk') (.int .i64 (-7777))
  refine ⟨by omega, hlt, q, hq, by rw [Int.toNat_natCast]; exact h1.rowWr 0 rfl hq (by rw [List.length_map]; exact hk'), ?_⟩
  rw [Int.toNat_natCast, inc (by omega)]
  refine ⟨⟨rfl, k + 1, rfl, by omega, ys.set k (-7777), by rw [List.length_set, hy], ?_, hb.trans hb2⟩, by (try dsimp only); omega⟩
  rw [List.length_set, List.map_set]; exact h2

theorem len_spec {w : World} {p : Addr} {a : Option Addr} {n c : Nat} (hp : w.cell? p = some (.slice a n c)) : CallsV Tryd.prog n_term_Arena_Len #[.pointer (some p)] w fun v w' => v = .int .i64 (n : Int) ∧ w = w' := by
  refine term_Arena_Len.lift ?_
  unfold term_Arena_Len.main
  exact ⟨p, rfl, _, _, _, hp, rfl, rfl⟩

/-! the text of a term -/

theorem text_take {xs : List Int} {k : Nat} {x : Int} (h : xs[k]? = some x) : textOf (xs.take (k + 1)) = textOf (xs.take k) ++ (Lib.itoa x ++ [32]) := by
  obtain ⟨hlt, he⟩ := List.getElem?_eq_some_iff.1 h
  rw [List.take_succ_eq_append_getElem hlt, he]
  simp [textOf]

theorem key_spec {B : Nat} {w : World} (hT : PT B w) (hB : B ≤ w.heap.size) {t : Tm} {s : Sl} (h : Ints .i64 w s t.args) (hl : t.args.length ≤ 400)
    (hw : ∀ x ∈ t.kind :: t.n :: t.args, -9223372036854775808 ≤ x ∧ x ≤ 9223372036854775807) :
    CallsV Tryd.prog n_term_key #[.int .i64 t.kind, .int .i64 t.n, .slice s.a s.len s.cap] w fun v w' => v = .string t.key ∧ Below w.heap.size w w' := by
  refine term_key.lift ?_
  unfold term_key.main
  intro w5
  obtain ⟨i, hi, hz, hsz, hby⟩ := t3
  have hb5 : Below w.heap.size w w5 := below_alloc _ _
  have ho5 : OwnI w.heap.size 3 .i64 w5 ⟨some (newA w), 2, 2⟩ [t.kind, t.n] := made_ints (by simp [maxLen])
  obtain ⟨s6, w6, hr, ho6, hb6⟩ := append_more (ty := 29) Tryd.underlying29 hi hz hsz hby rfl ho5 hb5.size (h.keep hb5) (by simp only [List.length_cons, List.length_nil]; unfold maxLen; omega) (by simp only [List.length_cons, List.length_nil]; omega)
  refine ⟨_, _, _, _, hr, ?_⟩
  have hb : Below w.heap.size w w6 := hb5.trans hb6
  obtain ⟨xs, hxs⟩ : ∃ xs, xs = t.kind :: t.n :: t.args := ⟨_, rfl⟩
  have ho : OwnI w.heap.size 3 .i64 w6 s6 xs := by rw [hxs]; exact ho6
  have hkey : t.key = ⟨(textOf xs).toArray⟩ := by rw [hxs]; rfl
  have hxl : xs.length ≤ 402 := by rw [hxs]; simp; omega
  have hx0 : xs ≠ [] := by rw [hxs]; simp
  rw [← hxs] at hw
  have hI := ho.ints (by omega)
  have hlen := hI.len
  clear ho6 hr hxs ho5 hb6
  unfold term_key.l1
  refine ⟨fun st w' => Below w6.heap.size w6 w' ∧ ∃ k : Nat, st.2 = k ∧ k ≤ xs.length ∧ (textOf (xs.take k)).length ≤ 22 * k ∧ w'.ownsRow w6.heap.size 5 1 (.slice st.1.a st.1.len st.1.cap) (textOf (xs.take k)).length (Lib.byteCells (textOf (xs.take k))), fun st _ => xs.length - st.2.toNat,
    ⟨Below.refl _ _, 0, rfl, Nat.zero_le _, by simp [textOf], World.ownsRow_nil _ _ _ _⟩, ?_⟩
  rintro ⟨b, _⟩ w1 ⟨hb1, k, hk0, hk, htl, hown⟩
  simp only at hk0 hown
  subst hk0
  unfold term_key.b1
  refine cond_d (fun hlt => ?_) fun hge => ?_
  · obtain ⟨q, hq, hc⟩ := (hI.keep hb1).get (i := (k : Int)) (by omega) (by omega)
    have hk' : k < xs.length := by omega
    rw [Int.toNat_natCast, List.getElem?_eq_getElem hk', Option.getD_some] at hc
    obtain ⟨x0, x1⟩ := hw _ (List.getElem_mem hk')
    refine ⟨by omega, by omega, q, hq, _, by rw [Int.toNat_natCast]; exact hc, ?_⟩
    have hT1 : PT w6.heap.size w1 := ((hT.on (hb.mono hB)).up (Nat.le_trans hB hb.size)).on hb1
    have hil := Lib.itoa_length_le xs[k] x0 x1
    have hai := appendInt_10 w6.heap.size _ xs[k] x0 x1 _ _ w1 hown hb1.size (by omega) hT1
    refine Calls.mono hai ?_
    rintro e w2 ⟨v2, rfl, hown2, hb2, -⟩
    refine ⟨v2, rfl, ?_⟩
    have hv2 : ∃ s2 : Sl, v2 = .slice s2.a s2.len s2.cap := by
      rcases hown2.2 with ⟨rfl, _⟩ | ⟨g, cap, cur, rfl, _⟩
      · exact ⟨⟨none, 0, 0⟩, rfl⟩
      · exact ⟨⟨some ⟨g, 0, none⟩, _, cap⟩, rfl⟩
    obtain ⟨s2, rfl⟩ := hv2
    refine ⟨_, _, _, rfl, ?_⟩
    intro w3
    obtain ⟨i5, hi5, hz5, hsz5, hby5⟩ := t5
    obtain ⟨s4, w4, hr4, hl4, hown4, _, hb4⟩ := append_new (ty := 81) Tryd.underlying81 hi5 hz5 hsz5 hby5 rfl (by omega) hown2 (news := [.int .u8 32]) rfl (by simp [Value.oneCell']) (by unfold maxLen; omega) (by omega) (Nat.le_trans hb1.size hb2.size) (cells := #[.int .u8 32]) rfl
    refine ⟨_, _, _, _, hr4, ?_⟩
    rw [inc (by omega)]
    have htx := text_take (List.getElem?_eq_getElem hk')
    have hlx : (textOf (xs.take (k + 1))).length = (textOf (xs.take k)).length + (Lib.itoa xs[k]).length + 1 := by rw [htx]; simp; omega
    refine ⟨⟨rfl, rfl, hb1.trans (hb2.trans hb4), k + 1, rfl, by omega, by omega, ?_⟩, by (try dsimp only); omega⟩
    rw [hlx, htx]
    have e : Lib.byteCells (textOf (xs.take k) ++ (Lib.itoa xs[k] ++ [32])) = Lib.byteCells (textOf (xs.take k)) ++ Lib.byteCells (Lib.itoa xs[k]) ++ [Value.int .u8 32] := by simp [Lib.byteCells]
    rw [e]
    exact hown4
  · rw [List.take_of_length_le (by omega)] at hown htl
    rcases hown.2 with ⟨h1, h0⟩ | ⟨g, cap, cur, h1, _⟩
    · exfalso
      have := List.length_eq_zero_iff.1 h0
      obtain ⟨y, r, rfl⟩ := List.exists_cons_of_ne_nil hx0
      rw [text_cons] at this
      simp at this
    · have hg : (Value.slice b.a b.len b.cap).ownBlock = some g := by rw [h1]; rfl
      simp only [Value.slice.injEq] at h1
      have hcv := run_convert_bytes_back (P := Tryd.prog) w1 81 9 5 ⟨g, 0, none⟩ b.cap (textOf xs) Tryd.underlying81 Tryd.underlying5 Tryd.underlying9 (fun j hj => hown.cells hg j _ (by simp [Lib.byteCells, hj]))
      refine ⟨_, w1, ?_, by rw [hkey], hb.then hb1⟩
      rw [h1.1, h1.2.1]
      simp [hcv, Result.andThen]

end Go.Proofs.YtpihglmgkfecbaaDoor
