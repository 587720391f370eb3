/-
  A store: what it has on its disk; what a crash leaves of it.
-/
import Derived.Test.YtledhokhcoeeeaaDoorDiA
set_option linter.unusedVariables false
set_option linter.unusedVariables false
set_option linter.unusedSimpArgs false
namespace Go.Proofs.YtledhokhcoeeeaaDoor
open Go.Lf Go.RowKit

/-! what a store has on its disk -/

/-- bytes of a number, the lowest first -/
def leB (x n : Nat) : List Int := (List.range n).map fun i => ((x / 256 ^ i % 256 : Nat) : Int)
def zer (n : Nat) : List Int := List.replicate n 0
/-- a mark's sector -/
def markB (c s : Nat) : List Int := leB c 8 ++ leB s 8 ++ zer 48
/-- the k-th sector of a state -/
def chunk (S : List Int) (k : Nat) : List Int := ((S ++ zer 64).drop (64 * k)).take 64
def base (c : Nat) : Nat := 2 + c % 2 * 125

structure OthOk (safe : List (Option (List Int))) (c k : Nat) : Prop where
  ok : safe[k]? = some none ∨ ∃ c' s', safe[k]? = some (some (markB c' s')) ∧ (c' < c ∨ c' = 0) ∧ s' ≤ 8000
structure Area (safe : List (Option (List Int))) (c : Nat) (S : List Int) : Prop where
  at_ : ∀ k, 64 * k < S.length → safe[base c + k]? = some (some (chunk S k))
/-- the state is S, of the c-th save -/
structure Holds (safe : List (Option (List Int))) (c : Nat) (S : List Int) : Prop where
  len : 300 ≤ safe.length
  few : S.length ≤ 8000
  nil : c = 0 → S = []
  own : 0 < c → safe[c % 2]? = some (some (markB c S.length))
  oth : ∀ k, k < 2 → (c = 0 ∨ k ≠ c % 2) → OthOk safe c k
  area : Area safe c S

theorem leB_len (x n : Nat) : (leB x n).length = n := by simp [leB]
theorem markB_len (c s : Nat) : (markB c s).length = 64 := by simp [markB, leB_len, zer]
theorem chunk_len {S : List Int} {k : Nat} (h : 64 * k ≤ S.length) : (chunk S k).length = 64 := by
  unfold chunk zer
  rw [List.length_take, List.length_drop, List.length_append, List.length_replicate]
  omega
theorem chunk_take {S : List Int} {k : Nat} : (S ++ zer 64).take (64 * k) ++ chunk S k = (S ++ zer 64).take (64 * (k + 1)) := by
  unfold chunk
  rw [show 64 * (k + 1) = 64 * k + 64 by omega, List.take_add]
theorem whole {S : List Int} {k : Nat} (h : S.length ≤ 64 * k) : ((S ++ zer 64).take (64 * k)).take S.length = S := by
  rw [List.take_take, Nat.min_eq_left h, List.take_append_of_le_length (Nat.le_refl _), List.take_length]
theorem zero_mark : zer 64 = markB 0 0 := by decide

/-! what a crash leaves -/

theorem crashSafe_other (keep : List Bool) (torn : Int) {j : Nat} : ∀ (p : List (Nat × List Int)) (k : Nat) (s : List (Option (List Int))), (∀ y ∈ p, y.1 ≠ j) → (crashSafe keep torn k p s)[j]? = s[j]?
  | [], _, _, _ => rfl
  | y :: p, k, s, h => by
    have hy := h y (by simp)
    show (crashSafe keep torn (k + 1) p _)[j]? = _
    rw [crashSafe_other keep torn p (k + 1) _ fun z hz => h z (by simp [hz])]
    split
    · rw [List.getElem?_set_ne hy]
    · split
      · rw [List.getElem?_set_ne hy]
      · rfl
theorem nowOf_other {j : Nat} : ∀ (p : List (Nat × List Int)) (s : List (Option (List Int))), (∀ y ∈ p, y.1 ≠ j) → (nowOf s p)[j]? = s[j]?
  | [], _, _ => rfl
  | y :: p, s, h => by
    show (nowOf (s.set y.1 (some y.2)) p)[j]? = _
    rw [nowOf_other p _ fun z hz => h z (by simp [hz]), List.getElem?_set_ne (h y (by simp))]

theorem Holds.same {safe safe' : List (Option (List Int))} {c : Nat} {S : List Int} (h : Holds safe c S) (hl : safe'.length = safe.length) (h0 : ∀ j, j < 2 → safe'[j]? = safe[j]?) (h1 : ∀ k, k < 125 → safe'[base c + k]? = safe[base c + k]?) : Holds safe' c S := by
  have few := h.few
  refine ⟨by rw [hl]; exact h.len, few, h.nil, fun hc => ?_, fun k hk hh => ?_, ⟨fun k hk => ?_⟩⟩
  · rw [h0 _ (Nat.mod_lt _ (by omega))]; exact h.own hc
  · obtain ⟨o⟩ := h.oth k hk hh
    rw [← h0 k hk] at o
    exact ⟨o⟩
  · rw [h1 k (by omega)]; exact h.area.at_ k hk

theorem base_next (c : Nat) {k j : Nat} (hk : k < 125) (hj : j < 125) : base (c + 1) + k ≠ base c + j ∧ 2 ≤ base (c + 1) + k ∧ base (c + 1) + k < 252 := by
  unfold base
  rcases Nat.mod_two_eq_zero_or_one c with h | h
  · rw [show (c + 1) % 2 = 1 by omega, h]; omega
  · rw [show (c + 1) % 2 = 0 by omega, h]; omega

/-- the writes of an area that does not count -/
def areaW (c : Nat) (S : List Int) (m : Nat) : List (Nat × List Int) := (List.range m).map fun k => (base (c + 1) + k, chunk S k)
theorem areaW_succ (c : Nat) (S : List Int) (m : Nat) : areaW c S (m + 1) = areaW c S m ++ [(base (c + 1) + m, chunk S m)] := by
  unfold areaW
  rw [List.range_succ, List.map_append]
  rfl
theorem areaW_far {c m : Nat} {S : List Int} (hm : m ≤ 125) {j : Nat} (hj : j < 2 ∨ ∃ k, k < 125 ∧ j = base c + k) : ∀ y ∈ areaW c S m, y.1 ≠ j := by
  intro y hy
  unfold areaW at hy
  obtain ⟨k, hk, rfl⟩ := List.mem_map.1 hy
  have hk := List.mem_range.1 hk
  obtain ⟨_, b, _⟩ := base_next c (k := k) (j := 0) (by omega) (by omega)
  rcases hj with hj | ⟨q, hq, rfl⟩
  · show base (c + 1) + k ≠ j; omega
  · exact (base_next c (by omega) hq).1
theorem nowOf_len : ∀ (p : List (Nat × List Int)) (s : List (Option (List Int))), (nowOf s p).length = s.length
  | [], _ => rfl
  | y :: p, s => by
    show (nowOf (s.set y.1 (some y.2)) p).length = _
    rw [nowOf_len p, List.length_set]
theorem Holds.crash {safe : List (Option (List Int))} {c m : Nat} {S b : List Int} (h : Holds safe c S) (hm : m ≤ 125) (keep : List Bool) (torn : Int) : Holds (crashSafe keep torn 0 (areaW c b m) safe) c S :=
  h.same (crashSafe_length keep torn _ 0 _) (fun j hj => crashSafe_other keep torn _ 0 _ (areaW_far hm (.inl hj))) (fun k hk => crashSafe_other keep torn _ 0 _ (areaW_far hm (.inr ⟨k, hk, rfl⟩)))
theorem Holds.now {safe : List (Option (List Int))} {c m : Nat} {S b : List Int} (h : Holds safe c S) (hm : m ≤ 125) : Holds (nowOf safe (areaW c b m)) c S :=
  h.same (nowOf_len _ _) (fun j hj => nowOf_other _ _ (areaW_far hm (.inl hj))) (fun k hk => nowOf_other _ _ (areaW_far hm (.inr ⟨k, hk, rfl⟩)))
theorem now_area {safe : List (Option (List Int))} {c m : Nat} {b : List Int} (hl : 300 ≤ safe.length) (hm : m ≤ 125) (hb : b.length ≤ 64 * m) : Area (nowOf safe (areaW c b m)) (c + 1) b := by
  refine ⟨fun k hk => ?_⟩
  have hkm : k < m := by omega
  clear hk hb
  induction m with
  | zero => omega
  | succ m ih =>
    rw [areaW_succ]
    have e : nowOf safe (areaW c b m ++ [(base (c + 1) + m, chunk b m)]) = (nowOf safe (areaW c b m)).set (base (c + 1) + m) (some (chunk b m)) := by
      unfold nowOf
      rw [List.foldl_append]
      rfl
    rw [e]
    by_cases hkk : k = m
    · subst hkk
      obtain ⟨_, _, b3⟩ := base_next c (k := k) (j := 0) (by omega) (by omega)
      rw [List.getElem?_set_self (by rw [nowOf_len]; omega)]
    · rw [List.getElem?_set_ne (by omega)]
      exact ih (by omega) (by omega)

/-- the mark, too, is written -/
theorem Holds.next {safe : List (Option (List Int))} {c : Nat} {S b : List Int} (h : Holds safe c S) (hb : b.length ≤ 8000) (ha : Area safe (c + 1) b) : Holds (safe.set ((c + 1) % 2) (some (markB (c + 1) b.length))) (c + 1) b := by
  have hl := h.len
  have hlt : (c + 1) % 2 < 2 := Nat.mod_lt _ (by omega)
  refine ⟨by rw [List.length_set]; exact hl, hb, fun hc => absurd hc (by omega), fun _ => ?_, fun k hk hh => ?_, ⟨fun k hk => ?_⟩⟩
  · rw [List.getElem?_set_self (by omega)]
  · have hne : k ≠ (c + 1) % 2 := hh.elim (fun hc => absurd hc (by omega)) id
    refine ⟨?_⟩
    rw [List.getElem?_set_ne (fun e => hne e.symm)]
    by_cases hc : c = 0
    · obtain ⟨o⟩ := h.oth k hk (.inl hc)
      refine o.imp id ?_
      rintro ⟨c', s', e1, e2, e3⟩
      exact ⟨c', s', e1, by omega, e3⟩
    · have hkc : k = c % 2 := by omega
      subst hkc
      exact .inr ⟨c, S.length, h.own (by omega), by omega, h.few⟩
  · have : 2 ≤ base (c + 1) + k := by unfold base; omega
    rw [List.getElem?_set_ne (by omega)]
    exact ha.at_ k hk
/-- the mark is torn -/
theorem Holds.torn {safe : List (Option (List Int))} {c : Nat} {S : List Int} (h : Holds safe c S) : Holds (safe.set ((c + 1) % 2) none) c S := by
  have hl := h.len
  have hlt : (c + 1) % 2 < 2 := Nat.mod_lt _ (by omega)
  refine ⟨by rw [List.length_set]; exact hl, h.few, h.nil, fun hc => ?_, fun k hk hh => ?_, ⟨fun k hk => ?_⟩⟩
  · rw [List.getElem?_set_ne (by omega)]; exact h.own hc
  · refine ⟨?_⟩
    by_cases hkc : k = (c + 1) % 2
    · subst hkc
      exact .inl (by rw [List.getElem?_set_self (by omega)])
    · rw [List.getElem?_set_ne (fun e => hkc e.symm)]
      exact (h.oth k hk hh).ok
  · have : 2 ≤ base c + k := by unfold base; omega
    rw [List.getElem?_set_ne (by omega)]
    exact h.area.at_ k hk
theorem Holds.mark {safe : List (Option (List Int))} {c : Nat} {S b : List Int} (h : Holds safe c S) (hb : b.length ≤ 8000) (ha : Area safe (c + 1) b) (keep : List Bool) (torn : Int) :
    Holds (crashSafe keep torn 0 [((c + 1) % 2, markB (c + 1) b.length)] safe) c S ∨ Holds (crashSafe keep torn 0 [((c + 1) % 2, markB (c + 1) b.length)] safe) (c + 1) b := by
  show Holds (if ((0 : Nat) : Int) = torn then _ else _) c S ∨ Holds (if ((0 : Nat) : Int) = torn then _ else _) (c + 1) b
  split
  · exact .inl h.torn
  · split
    · exact .inr (h.next hb ha)
    · exact .inl h
/-- a new disk -/
theorem Holds.new {n : Nat} (hn : 300 ≤ n) : Holds (List.replicate n (some (List.replicate 64 0))) 0 [] := by
  refine ⟨by simpa using hn, by simp, fun _ => rfl, fun h => absurd h (by omega), fun k hk _ => ⟨.inr ⟨0, 0, ?_, .inr rfl, by omega⟩⟩, ⟨fun k hk => by simp at hk⟩⟩
  rw [List.getElem?_replicate, if_pos (by omega), ← zero_mark]
  rfl

/-! bytes -/

theorem leB_succ (x n : Nat) : leB x (n + 1) = leB x n ++ [((x / 256 ^ n % 256 : Nat) : Int)] := by
  unfold leB
  rw [List.range_succ, List.map_append]
  rfl
theorem le_step (x n : Nat) : (x % 256 ^ n) ||| (x / 256 ^ n % 256 * 256 ^ n) = x % 256 ^ (n + 1) := by
  have e : 256 ^ n = 2 ^ (8 * n) := by rw [show 256 = 2 ^ 8 from rfl, ← Nat.pow_mul]
  have h1 : x % 256 ^ n < 2 ^ (8 * n) := by rw [← e]; exact Nat.mod_lt _ (Nat.pow_pos (by omega))
  have h2 := Nat.two_pow_add_eq_or_of_lt h1 (x / 256 ^ n % 256)
  rw [← e] at h2
  rw [Nat.or_comm, Nat.mul_comm, ← h2, Nat.pow_succ, Nat.mod_mul, Nat.add_comm]

end Go.Proofs.YtledhokhcoeeeaaDoor
