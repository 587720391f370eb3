/-
  An epoch's keys: which terms they are; that none tells the secret, nor another one of them.
-/
import Derived.Test.YtoclhecldmahiaaDoorScD
set_option linter.unusedVariables false
set_option linter.unusedVariables false
set_option linter.unusedSimpArgs false
namespace Go.Proofs.YtoclhecldmahiaaDoor
open Go.Lf Go.RowKit

/-- the terms of an epoch's arena -/
structure ScT (T : List Tm) (h : Nat) : Prop where
  head : ∃ n, T[0]? = some ⟨1, n, []⟩
  each : ∀ (i : Nat) (t : Tm), T[i]? = some t → (t.kind = 1 ∧ (i = 0 ∨ i = h)) ∨ t.kind = 2 ∨ (t.kind = 4 ∧ t.args = [0]) ∨ (t.kind = 3 ∧ ∃ (x : Nat) (r : List Int) (m : Int), t.args = (x : Int) :: r ∧ T[x]? = some ⟨4, m, [0]⟩ ∧ 22 ≤ m ∧ m ≤ 24)

theorem ScT.put {T : List Tm} {h : Nat} (hs : ScT T h) {t : Tm} (ht : t.kind = 2 ∨ (t.kind = 4 ∧ t.args = [0]) ∨ (t.kind = 3 ∧ ∃ (x : Nat) (r : List Int) (m : Int), t.args = (x : Int) :: r ∧ T[x]? = some ⟨4, m, [0]⟩ ∧ 22 ≤ m ∧ m ≤ 24)) : ScT (put T t).1 h := by
  refine ⟨?_, fun i u hu => ?_⟩
  · obtain ⟨n, hn⟩ := hs.head
    exact ⟨n, put_old hn⟩
  · have up : ∀ v : Tm, (v.kind = 3 ∧ ∃ (x : Nat) (r : List Int) (m : Int), v.args = (x : Int) :: r ∧ T[x]? = some ⟨4, m, [0]⟩ ∧ 22 ≤ m ∧ m ≤ 24) → (v.kind = 3 ∧ ∃ (x : Nat) (r : List Int) (m : Int), v.args = (x : Int) :: r ∧ (Lf.put T t).1[x]? = some ⟨4, m, [0]⟩ ∧ 22 ≤ m ∧ m ≤ 24) :=
      fun v ⟨h1, x, r, m, h2, h3, h4⟩ => ⟨h1, x, r, m, h2, put_old h3, h4⟩
    rcases put_idx hu with hu | ⟨_, rfl⟩
    · rcases hs.each i u hu with h1 | h1 | h1 | h1
      · exact .inl h1
      · exact .inr (.inl h1)
      · exact .inr (.inr (.inl h1))
      · exact .inr (.inr (.inr (up u h1)))
    · rcases ht with h1 | h1 | h1
      · exact .inr (.inl h1)
      · exact .inr (.inr (.inl h1))
      · exact .inr (.inr (.inr (up _ h1)))

def lo8 (i : Nat) : Nat := if i = 7 then 0 else i
def hi8 (i : Nat) : Nat := if i = 7 then 7 else i + 1

inductive IsKey (T : List Tm) (h : Nat) (r : Int) : Nat → Nat → Prop
  | start {j k : Nat} (hj : j = 0) (hk : T[k]? = some ⟨4, 21, [0]⟩) : IsKey T h r j k
  | tag {j k a : Nat} (hj : j = 1) (hk : T[k]? = some ⟨3, 0, [(a : Int), (h : Int)]⟩) (ha : T[a]? = some ⟨4, 22, [0]⟩) : IsKey T h r j k
  | reg {j k : Nat} (hj : j = 2) (hk : T[k]? = some ⟨4, 25, [0]⟩) : IsKey T h r j k
  | chain {j i k a b : Nat} (hj : j = 3 + 2 * i) (hi : i < 8) (hk : T[k]? = some ⟨3, 0, [(a : Int), (b : Int)]⟩) (ha : T[a]? = some ⟨4, 23, [0]⟩) (hb : T[b]? = some ⟨2, (i : Int), []⟩) : IsKey T h r j k
  | meet {j i k a b c d : Nat} (hj : j = 4 + 2 * i) (hi : i < 8) (hk : T[k]? = some ⟨3, 0, [(a : Int), (b : Int), (c : Int), (d : Int)]⟩) (ha : T[a]? = some ⟨4, 24, [0]⟩) (hb : T[b]? = some ⟨2, ((lo8 i : Nat) : Int), []⟩)
      (hc : T[c]? = some ⟨2, ((hi8 i : Nat) : Int), []⟩) (hd : T[d]? = some ⟨2, r, []⟩) : IsKey T h r j k

theorem IsKey.mono {T T' : List Tm} (he : Ext T T') {h : Nat} {r : Int} {j k : Nat} (hk : IsKey T h r j k) : IsKey T' h r j k := by
  cases hk with
  | start hj hk => exact .start hj (he _ _ hk)
  | tag hj hk ha => exact .tag hj (he _ _ hk) (he _ _ ha)
  | reg hj hk => exact .reg hj (he _ _ hk)
  | chain hj hi hk ha hb => exact .chain hj hi (he _ _ hk) (he _ _ ha) (he _ _ hb)
  | meet hj hi hk ha hb hc hd => exact .meet hj hi (he _ _ hk) (he _ _ ha) (he _ _ hb) (he _ _ hc) (he _ _ hd)

theorem IsKey.one {T : List Tm} {h : Nat} {r : Int} {j j' k : Nat} (h1 : IsKey T h r j k) (h2 : IsKey T h r j' k) : j = j' := by
  cases h1 with
  | start hj hk =>
    cases h2 with
    | start hj' hk' => omega
    | tag hj' hk' ha' => have := some_two hk hk'; simp at this
    | reg hj' hk' => have := some_two hk hk'; simp at this
    | chain hj' hi' hk' ha' hb' => have := some_two hk hk'; simp at this
    | meet hj' hi' hk' ha' hb' hc' hd' => have := some_two hk hk'; simp at this
  | tag hj hk ha =>
    cases h2 with
    | start hj' hk' => have := some_two hk hk'; simp at this
    | tag hj' hk' ha' => omega
    | reg hj' hk' => have := some_two hk hk'; simp at this
    | chain hj' hi' hk' ha' hb' =>
      have := some_two hk hk'; simp at this
      rw [Int.natCast_inj.1 this.1] at ha
      have := some_two ha ha'; simp at this
    | meet hj' hi' hk' ha' hb' hc' hd' => have := some_two hk hk'; simp at this
  | reg hj hk =>
    cases h2 with
    | start hj' hk' => have := some_two hk hk'; simp at this
    | tag hj' hk' ha' => have := some_two hk hk'; simp at this
    | reg hj' hk' => omega
    | chain hj' hi' hk' ha' hb' => have := some_two hk hk'; simp at this
    | meet hj' hi' hk' ha' hb' hc' hd' => have := some_two hk hk'; simp at this
  | chain hj hi hk ha hb =>
    cases h2 with
    | start hj' hk' => have := some_two hk hk'; simp at this
    | tag hj' hk' ha' =>
      have := some_two hk hk'; simp at this
      rw [Int.natCast_inj.1 this.1] at ha
      have := some_two ha ha'; simp at this
    | reg hj' hk' => have := some_two hk hk'; simp at this
    | chain hj' hi' hk' ha' hb' =>
      have := some_two hk hk'; simp at this
      rw [Int.natCast_inj.1 this.2] at hb
      have := some_two hb hb'; simp at this
      omega
    | meet hj' hi' hk' ha' hb' hc' hd' => have := some_two hk hk'; simp at this
  | meet hj hi hk ha hb hc hd =>
    cases h2 with
    | start hj' hk' => have := some_two hk hk'; simp at this
    | tag hj' hk' ha' => have := some_two hk hk'; simp at this
    | reg hj' hk' => have := some_two hk hk'; simp at this
    | chain hj' hi' hk' ha' hb' => have := some_two hk hk'; simp at this
    | meet hj' hi' hk' ha' hb' hc' hd' =>
      have := some_two hk hk'; simp at this
      rw [Int.natCast_inj.1 this.2.1] at hb
      rw [Int.natCast_inj.1 this.2.2.1] at hc
      have e1 := some_two hb hb'; simp [lo8] at e1
      have e2 := some_two hc hc'; simp [hi8] at e2
      split at e1 <;> split at e1 <;> (try split at e2) <;> (try split at e2) <;> omega

theorem IsKey.lt {T : List Tm} {h : Nat} {r : Int} {j k : Nat} (hk : IsKey T h r j k) : k < T.length := by
  cases hk with
  | start hj hk => exact (List.getElem?_eq_some_iff.1 hk).1
  | tag hj hk ha => exact (List.getElem?_eq_some_iff.1 hk).1
  | reg hj hk => exact (List.getElem?_eq_some_iff.1 hk).1
  | chain hj hi hk ha hb => exact (List.getElem?_eq_some_iff.1 hk).1
  | meet hj hi hk ha hb hc hd => exact (List.getElem?_eq_some_iff.1 hk).1

/-- of an epoch's keys those are known that are told, and not the secret -/
theorem keys_apart {T : List Tm} {h : Nat} {r : Int} (hs : ScT T h) (told : Nat → Prop) {S : Nat → Prop} (hS : ∀ i, S i → ∃ j, IsKey T h r j i ∧ told j) :
    ∀ i, Kn T S i → ¬ (i = 0 ∨ (∃ m, 22 ≤ m ∧ m ≤ 24 ∧ T[i]? = some ⟨4, m, [0]⟩) ∨ ∃ j, IsKey T h r j i ∧ ¬ told j) := by
  have kinds : ∀ i, kd T i ≠ 6 ∧ kd T i ≠ 7 ∧ kd T i ≠ 8 ∧ kd T i ≠ 9 := by
    intro i
    rcases Nat.lt_or_ge i T.length with hi | hi
    · have ht := List.getElem?_eq_getElem hi
      rw [kd_of ht]
      rcases hs.each i _ ht with h1 | h1 | h1 | h1
      · omega
      · omega
      · omega
      · omega
    · rw [kd_out hi]; decide
  refine Kn.avoid _ ?_ ?_ (fun i _ h9 => absurd h9 (kinds i).2.2.2) (fun i _ h9 => absurd h9 (kinds i).2.2.1) (fun i _ h9 => absurd h9 (kinds i).1) (fun i _ h9 => absurd h9 (kinds i).2.1)
  · intro i hi hb
    obtain ⟨j, hj, ht⟩ := hS i hi
    rcases hb with rfl | ⟨m, m1, m2, hm⟩ | ⟨j', hj', hn⟩
    · obtain ⟨n, hn⟩ := hs.head
      cases hj with
      | start hj hk => have := some_two hk hn; simp at this
      | tag hj hk ha => have := some_two hk hn; simp at this
      | reg hj hk => have := some_two hk hn; simp at this
      | chain hj hi hk ha hb => have := some_two hk hn; simp at this
      | meet hj hi hk ha hb hc hd => have := some_two hk hn; simp at this
    · cases hj with
      | start hj hk => have := some_two hk hm; simp at this; omega
      | tag hj hk ha => have := some_two hk hm; simp at this
      | reg hj hk => have := some_two hk hm; simp at this; omega
      | chain hj hi hk ha hb => have := some_two hk hm; simp at this
      | meet hj hi hk ha hb hc hd => have := some_two hk hm; simp at this
    · exact hn (hj.one hj' ▸ ht)
  · intro i hi hb
    rcases hb with rfl | ⟨m, m1, m2, hm⟩ | ⟨j', hj', hn⟩
    · obtain ⟨n, hn⟩ := hs.head
      exact .inl (by rw [kd_of hn])
    · exact .inr ⟨0, by rw [ar_of hm]; simp, .inl rfl⟩
    · cases hj' with
      | start hj hk => exact .inr ⟨0, by rw [ar_of hk]; simp, .inl rfl⟩
      | tag hj hk ha => exact .inr ⟨_, by rw [ar_of hk]; simp, .inr (.inl ⟨22, by omega, by omega, ha⟩)⟩
      | reg hj hk => exact .inr ⟨0, by rw [ar_of hk]; simp, .inl rfl⟩
      | chain hj hi hk ha hb => exact .inr ⟨_, by rw [ar_of hk]; simp, .inr (.inl ⟨23, by omega, by omega, ha⟩)⟩
      | meet hj hi hk ha hb hc hd => exact .inr ⟨_, by rw [ar_of hk]; simp, .inr (.inl ⟨24, by omega, by omega, ha⟩)⟩

theorem keys_all {T : List Tm} {h : Nat} (hs : ScT T h) (hT : TOk T) {S : Nat → Prop} (h0 : S 0) (h1 : S h) : ∀ i, i < T.length → Kn T S i := by
  refine kn_atoms hT.kt fun i hi hk => ?_
  have ht := List.getElem?_eq_getElem hi
  rw [kd_of ht] at hk
  rcases hs.each i _ ht with ⟨_, rfl | rfl⟩ | h2 | h2 | h2
  · exact h0
  · exact h1
  · omega
  · omega
  · omega

/-! what is made -/

theorem ScT.in0 {T : List Tm} {h : Nat} (hs : ScT T h) : inT T 0 := by
  obtain ⟨n, hn⟩ := hs.head
  exact inT_of hn

theorem start_key {T : List Tm} {h : Nat} {r : Int} (hs : ScT T h) (hl : T.length ≤ 1000000) : ∃ k : Nat, (put T ⟨4, 21, [0]⟩).2.1 = k ∧ (put T ⟨4, 21, [0]⟩).2.2 = 0 ∧ ScT (put T ⟨4, 21, [0]⟩).1 h ∧ IsKey (put T ⟨4, 21, [0]⟩).1 h r 0 k ∧ Grown T (put T ⟨4, 21, [0]⟩).1 1 := by
  obtain ⟨n, hn⟩ := hs.head
  obtain ⟨k, g1, g2, g3⟩ := putAt (err_kdf (n := 21) hs.in0 (by omega)) (by omega)
  exact ⟨k, g1, g2, hs.put (.inr (.inl ⟨rfl, rfl⟩)), .start rfl g3, Grown.put _ (by simp)⟩
theorem reg_key {T : List Tm} {h : Nat} {r : Int} (hs : ScT T h) (hl : T.length ≤ 1000000) : ∃ k : Nat, (put T ⟨4, 25, [0]⟩).2.1 = k ∧ (put T ⟨4, 25, [0]⟩).2.2 = 0 ∧ ScT (put T ⟨4, 25, [0]⟩).1 h ∧ IsKey (put T ⟨4, 25, [0]⟩).1 h r 2 k ∧ Grown T (put T ⟨4, 25, [0]⟩).1 1 := by
  obtain ⟨n, hn⟩ := hs.head
  obtain ⟨k, g1, g2, g3⟩ := putAt (err_kdf (n := 25) hs.in0 (by omega)) (by omega)
  exact ⟨k, g1, g2, hs.put (.inr (.inl ⟨rfl, rfl⟩)), .reg rfl g3, Grown.put _ (by simp)⟩
theorem tag_key {T : List Tm} {h : Nat} {r : Int} (hs : ScT T h) (hh : inT T h) (hl : T.length ≤ 1000000) : ∃ k : Nat, (tagP T 0 h).2 = k ∧ ScT (tagP T 0 h).1 h ∧ IsKey (tagP T 0 h).1 h r 1 k ∧ Grown T (tagP T 0 h).1 2 := by
  obtain ⟨n, hn⟩ := hs.head
  obtain ⟨k2, k3⟩ := tagP_good hs.in0 hh hl
  obtain ⟨a, g1, g2, g3⟩ := putAt (err_kdf (n := 22) hs.in0 (by omega)) (by omega)
  have gl := put_len1 T ⟨4, 22, [0]⟩
  have hs1 : ScT (put T ⟨4, 22, [0]⟩).1 h := hs.put (.inr (.inl ⟨rfl, rfl⟩))
  have he := err_hash (T := (put T ⟨4, 22, [0]⟩).1) (xs := [(a : Int), (h : Int)]) (by simp) (by simp; exact ⟨inT_of g3, (Ext.put _ _).inT hh⟩)
  obtain ⟨k, e1, e2, e3⟩ := putAt he (by omega)
  have et : tagP T 0 h = ((put (put T ⟨4, 22, [0]⟩).1 ⟨3, 0, [(a : Int), (h : Int)]⟩).1, (put (put T ⟨4, 22, [0]⟩).1 ⟨3, 0, [(a : Int), (h : Int)]⟩).2.1) := by unfold tagP; rw [← g1]
  refine ⟨k, by rw [et]; exact e1, ?_, ?_, k3⟩
  · rw [et]; exact hs1.put (.inr (.inr ⟨rfl, a, _, 22, rfl, g3, by omega, by omega⟩))
  · rw [et]; exact .tag rfl e3 (put_old g3)
theorem chain_key {T : List Tm} {h : Nat} {r : Int} (hs : ScT T h) {i : Nat} (hi : i < 8) (hl : T.length ≤ 1000000) : ∃ k : Nat, (chainP T 0 i).2 = k ∧ ScT (chainP T 0 i).1 h ∧ IsKey (chainP T 0 i).1 h r (3 + 2 * i) k ∧ Grown T (chainP T 0 i).1 3 := by
  obtain ⟨n, hn⟩ := hs.head
  obtain ⟨k2, k3⟩ := chainP_good (i := i) hs.in0 (by omega) (by omega) hl
  obtain ⟨a, g1, g2, g3⟩ := putAt (err_kdf (n := 23) hs.in0 (by omega)) (by omega)
  have gl := put_len1 T ⟨4, 23, [0]⟩
  have hs1 : ScT (put T ⟨4, 23, [0]⟩).1 h := hs.put (.inr (.inl ⟨rfl, rfl⟩))
  obtain ⟨b, f1, f2, f3⟩ := putAt (T := (put T ⟨4, 23, [0]⟩).1) (err_word (n := i) (by omega)) (by omega)
  have fl := put_len1 (put T ⟨4, 23, [0]⟩).1 ⟨2, i, []⟩
  have hs2 := hs1.put (t := ⟨2, i, []⟩) (.inl rfl)
  have ha := put_old (t := ⟨2, (i : Int), []⟩) g3
  have he := err_hash (T := (put (put T ⟨4, 23, [0]⟩).1 ⟨2, i, []⟩).1) (xs := [(a : Int), (b : Int)]) (by simp) (by simp; exact ⟨inT_of ha, inT_of f3⟩)
  obtain ⟨k, e1, e2, e3⟩ := putAt he (by omega)
  have et : chainP T 0 i = ((put (put (put T ⟨4, 23, [0]⟩).1 ⟨2, i, []⟩).1 ⟨3, 0, [(a : Int), (b : Int)]⟩).1, (put (put (put T ⟨4, 23, [0]⟩).1 ⟨2, i, []⟩).1 ⟨3, 0, [(a : Int), (b : Int)]⟩).2.1) := by
    have g1 : (put T ⟨4, 23, [0]⟩).2.1 = (a : Int) := g1
    unfold chainP; dsimp only; rw [g1, f1]
  refine ⟨k, by rw [et]; exact e1, ?_, ?_, k3⟩
  · rw [et]; exact hs2.put (.inr (.inr ⟨rfl, a, _, 23, rfl, ha, by omega, by omega⟩))
  · rw [et]; exact .chain rfl hi e3 (put_old ha) (put_old f3)
theorem next8 {i : Nat} (hi : i < 8) : Int.tmod (IntKind.i64.wrap ((i : Int) + 1)) 8 = (if i = 7 then 0 else i + 1 : Nat) := by
  have : i = 0 ∨ i = 1 ∨ i = 2 ∨ i = 3 ∨ i = 4 ∨ i = 5 ∨ i = 6 ∨ i = 7 := by omega
  rcases this with rfl | rfl | rfl | rfl | rfl | rfl | rfl | rfl <;> decide
theorem meet_key {T : List Tm} {h : Nat} {r : Int} (hs : ScT T h) {i : Nat} (hi : i < 8) (hr : 0 ≤ r) (hr2 : r ≤ 9223372036854775807) (hl : T.length ≤ 1000000) : ∃ k : Nat, (meetP T 0 i (if i = 7 then 0 else i + 1 : Nat) r).2 = k ∧ ScT (meetP T 0 i (if i = 7 then 0 else i + 1 : Nat) r).1 h ∧ IsKey (meetP T 0 i (if i = 7 then 0 else i + 1 : Nat) r).1 h r (4 + 2 * i) k ∧ Grown T (meetP T 0 i (if i = 7 then 0 else i + 1 : Nat) r).1 5 := by
  obtain ⟨n, hn⟩ := hs.head
  obtain ⟨k2, k3⟩ := meetP_good (i := i) (j := (if i = 7 then 0 else i + 1 : Nat)) (n := r) hs.in0 (by unfold isLeaf; omega) (by unfold isLeaf; split <;> omega) hr hr2 hl
  have elo : (if ((if i = 7 then 0 else i + 1 : Nat) : Int) < (i : Int) then ((if i = 7 then 0 else i + 1 : Nat) : Int) else (i : Int)) = ((lo8 i : Nat) : Int) := by
    unfold lo8; split <;> split <;> omega
  have ehi : (if ((if i = 7 then 0 else i + 1 : Nat) : Int) > (i : Int) then ((if i = 7 then 0 else i + 1 : Nat) : Int) else (i : Int)) = ((hi8 i : Nat) : Int) := by
    unfold hi8; split <;> split <;> omega
  obtain ⟨a, g1, g2, g3⟩ := putAt (err_kdf (n := 24) hs.in0 (by omega)) (by omega)
  have gl := put_len1 T ⟨4, 24, [0]⟩
  have hs1 : ScT (put T ⟨4, 24, [0]⟩).1 h := hs.put (.inr (.inl ⟨rfl, rfl⟩))
  obtain ⟨T1, hT1⟩ : ∃ T1, T1 = (put T ⟨4, 24, [0]⟩).1 := ⟨_, rfl⟩
  rw [← hT1] at g3 gl hs1
  obtain ⟨b, b1, b2, b3⟩ := putAt (T := T1) (err_word (n := (lo8 i : Nat)) (by omega)) (by omega)
  have bl := put_len1 T1 ⟨2, (lo8 i : Nat), []⟩
  have hs2 := hs1.put (t := ⟨2, (lo8 i : Nat), []⟩) (.inl rfl)
  have a2 := put_old (t := ⟨2, ((lo8 i : Nat) : Int), []⟩) g3
  obtain ⟨T2, hT2⟩ : ∃ T2, T2 = (put T1 ⟨2, (lo8 i : Nat), []⟩).1 := ⟨_, rfl⟩
  rw [← hT2] at b3 bl hs2 a2
  obtain ⟨c, c1, c2, c3⟩ := putAt (T := T2) (err_word (n := (hi8 i : Nat)) (by omega)) (by omega)
  have cl := put_len1 T2 ⟨2, (hi8 i : Nat), []⟩
  have hs3 := hs2.put (t := ⟨2, (hi8 i : Nat), []⟩) (.inl rfl)
  have a3 := put_old (t := ⟨2, ((hi8 i : Nat) : Int), []⟩) a2
  have b4 := put_old (t := ⟨2, ((hi8 i : Nat) : Int), []⟩) b3
  obtain ⟨T3, hT3⟩ : ∃ T3, T3 = (put T2 ⟨2, (hi8 i : Nat), []⟩).1 := ⟨_, rfl⟩
  rw [← hT3] at c3 cl hs3 a3 b4
  obtain ⟨d, d1, d2, d3⟩ := putAt (T := T3) (err_word (n := r) hr) (by omega)
  have dl := put_len1 T3 ⟨2, r, []⟩
  have hs4 := hs3.put (t := ⟨2, r, []⟩) (.inl rfl)
  have a4 := put_old (t := ⟨2, r, []⟩) a3
  have b5 := put_old (t := ⟨2, r, []⟩) b4
  have c4 := put_old (t := ⟨2, r, []⟩) c3
  obtain ⟨T4, hT4⟩ : ∃ T4, T4 = (put T3 ⟨2, r, []⟩).1 := ⟨_, rfl⟩
  rw [← hT4] at d3 dl hs4 a4 b5 c4
  have he := err_hash (T := T4) (xs := [(a : Int), (b : Int), (c : Int), (d : Int)]) (by simp) (by simp; exact ⟨inT_of a4, inT_of b5, inT_of c4, inT_of d3⟩)
  obtain ⟨k, e1, e2, e3⟩ := putAt he (by omega)
  have et : meetP T 0 i (if i = 7 then 0 else i + 1 : Nat) r = ((put T4 ⟨3, 0, [(a : Int), (b : Int), (c : Int), (d : Int)]⟩).1, (put T4 ⟨3, 0, [(a : Int), (b : Int), (c : Int), (d : Int)]⟩).2.1) := by
    unfold meetP
    dsimp only
    have g1 : (put T ⟨4, 24, [0]⟩).2.1 = (a : Int) := g1
    rw [elo, ehi, ← hT1, ← hT2, ← hT3, ← hT4, g1, b1, c1, d1]
  refine ⟨k, by rw [et]; exact e1, ?_, ?_, k3⟩
  · rw [et]; exact hs4.put (.inr (.inr ⟨rfl, a, _, 24, rfl, a4, by omega, by omega⟩))
  · rw [et]; exact .meet rfl hi e3 (put_old a4) (put_old b5) (put_old c4) (put_old d3)

end Go.Proofs.YtoclhecldmahiaaDoor

/-
  Of an epoch's keys none tells the secret, nor another one of them.
-/
set_option linter.unusedVariables false
set_option linter.unusedSimpArgs false
namespace Go.Proofs.YtoclhecldmahiaaDoor
open Go.Lf Go.RowKit

set_option maxRecDepth 100000 in
theorem apart_spec {W : World} (hT : PT W.heap.size W) {s : Sl} {bs : List Bool} (hb : Bools W s bs) (n r : Int) (hn : n ≤ 9223372036854775807) :
    CallsV Tryd.prog n_trystlaw18_SchedApart #[.int .i64 n, .int .i64 r, .slice s.a s.len s.cap] W fun v w' => v = .bool true ∧ Below W.heap.size W w' := by
  refine trystlaw18_SchedApart.lift ?_
  unfold trystlaw18_SchedApart.main
  have hbl : s.len = bs.length := hb.len
  refine cond_d (fun _ => ⟨rfl, Below.refl _ _⟩) fun hn0 => cond_d (fun _ => ⟨rfl, Below.refl _ _⟩) fun hr0 => cond_d (fun _ => ⟨rfl, Below.refl _ _⟩) fun hr1 => cond_d (fun _ => ⟨rfl, Below.refl _ _⟩) fun hs50 => ?_
  generalize hRR : (fun (v : Value) (w' : World) => v = .bool true ∧ Below W.heap.size W w') = RR
  unfold trystlaw18_SchedApart.c16
  refine (new_at (At.start hT)).mono ?_
  rintro _ w1 ⟨p, rfl, h1⟩
  refine ⟨_, rfl, cond_f' rfl ?_⟩
  refine (mk0 1 n h1 hn).mono ?_
  rintro _ w2 ⟨rfl, h2⟩
  have e0 : errOf [] ⟨1, n, []⟩ = 0 := errOk (by simp) (by simp; omega) (.inl (.inl rfl)) (by simp [least]) (by simp) (by simp)
  rw [put_fresh e0 (by simp) (by simp)] at h2 ⊢
  have h2 : At W w2 [arT p [⟨1, n, []⟩]] := h2
  have em : IntKind.i64.wrap (IntKind.i64.wrap (Int.tdiv n 2) + 1099511627776) = n / 2 + 1099511627776 := by
    have e1 : Int.tdiv n 2 = n / 2 := Int.tdiv_eq_ediv_of_nonneg (by omega)
    rw [e1, w64 (n := n / 2) (by omega), w64 (by omega)]
  refine ⟨_, _, rfl, by decide, ?_⟩
  rw [em]
  obtain ⟨m, hm⟩ : ∃ m, m = n / 2 + 1099511627776 := ⟨_, rfl⟩
  rw [← hm]
  have hm0 : 0 ≤ m := by omega
  have hm1 : m ≤ 9223372036854775807 := by omega
  clear em
  refine (mk0 1 m h2 hm1).mono ?_
  rintro _ w3 ⟨rfl, h3⟩
  have e1 : errOf [⟨1, n, []⟩] ⟨1, m, []⟩ = 0 := errOk (by simp) (by simp; omega) (.inl (.inl rfl)) (by simp [least]) (by simp) (by simp)
  obtain ⟨hh, g1, g2, g3⟩ := putAt e1 (by simp)
  have gl := put_len1 [⟨1, n, []⟩] ⟨1, m, []⟩
  have hsc : ScT (put [⟨1, n, []⟩] ⟨1, m, []⟩).1 hh := by
    refine ⟨⟨n, put_old rfl⟩, fun i t hi => ?_⟩
    rcases put_idx hi with hi' | ⟨hi', rfl⟩
    · have := (List.getElem?_eq_some_iff.1 hi').1
      simp at this
      subst this
      simp at hi'
      subst hi'
      exact .inl ⟨rfl, .inl rfl⟩
    · refine .inl ⟨rfl, .inr ?_⟩
      have hok : TOk (put [⟨1, n, []⟩] ⟨1, m, []⟩).1 := h3.ok
      exact hok.once _ _ _ hi g3
  refine ⟨_, _, rfl, ?_⟩
  rw [g1, g2]
  refine cond_n (fun h => absurd rfl h) fun _ => cond_n (fun h => absurd rfl h) fun _ => ?_
  have ihh := inT_of g3
  generalize put [⟨1, n, []⟩] ⟨1, m, []⟩ = q0 at h3 gl hsc ihh
  obtain ⟨T0, q0'⟩ := q0
  have gl : T0.length ≤ 2 := by simpa using gl.1
  have h3 : At W w3 [arT p T0] := h3
  have hsc : ScT T0 hh := hsc
  have ihh : inT T0 hh := ihh
  unfold trystlaw18_SchedApart.c15
  refine (start_at 0 h3).mono ?_
  rintro _ w4 ⟨rfl, h4⟩
  obtain ⟨k0, f1, f2, f3, f4, f5⟩ := start_key (r := r) hsc (by omega)
  rw [f1, f2]
  generalize (put T0 ⟨4, 21, [0]⟩).1 = T1 at h4 f3 f4 f5
  have f6 := f5.len
  refine ⟨_, _, rfl, (tag_at 0 hh h4 (by omega)).mono ?_⟩
  rintro v5 w5 ⟨good, _⟩
  obtain ⟨rfl, h5⟩ := good ⟨f3.in0, f5.ext.inT ihh⟩
  obtain ⟨k1, d1, d3, d4, d5⟩ := tag_key (r := r) f3 (f5.ext.inT ihh) (by omega)
  rw [d1]
  generalize (tagP T1 0 hh).1 = T2 at h5 d3 d4 d5
  have d6 := d5.len
  refine ⟨_, _, rfl, (register_at 0 h5).mono ?_⟩
  rintro _ w6 ⟨rfl, h6⟩
  obtain ⟨k2, b1, b2, b3, b4, b5⟩ := reg_key (r := r) d3 (by omega)
  rw [b1, b2]
  generalize (put T2 ⟨4, 25, [0]⟩).1 = T3 at h6 b3 b4 b5
  have b6 := b5.len
  refine ⟨_, _, rfl, cond_n (fun h => absurd rfl h) fun _ => cond_n (fun h => absurd rfl h) fun _ => cond_n (fun h => absurd rfl h) fun _ => ?_⟩
  unfold trystlaw18_SchedApart.c14
  intro w7
  obtain ⟨s8, w8, hr8, h8⟩ := moreN_at 0 rfl (s := ⟨none, 0, 0⟩) (xs := []) h6.nil [(k0 : Int), (k1 : Int), (k2 : Int)] (by simp) (by simp) (by simp)
  refine ⟨_, _, _, _, hr8, ?_⟩
  have h8 : At W w8 [ownA s8 (toI [k0, k1, k2]), arT p T3] := h8
  have hkeys : ∀ j k, [k0, k1, k2][j]? = some k → IsKey T3 hh r j k := by
    intro j k hjk
    match j with
    | 0 => simp at hjk; subst hjk; exact (f4.mono d5.ext).mono b5.ext
    | 1 => simp at hjk; subst hjk; exact d4.mono b5.ext
    | 2 => simp at hjk; subst hjk; exact b4
    | j + 3 => simp at hjk
  have ihh3 : inT T3 hh := b5.ext.inT (d5.ext.inT (f5.ext.inT ihh))
  clear hsc ihh h1 h2 h3 h4 h5 h6 f3 f4 f5 d3 d4 d5 b4 b5 hr8 e0 e1
  have hT3 : T3.length ≤ 6 := by omega
  clear gl f6 d6 b6
  unfold trystlaw18_SchedApart.l12
  refine ⟨fun x w' => ∃ (i : Nat) (K : List Nat) (T : List Tm), x.2 = i ∧ i ≤ 8 ∧ K.length = 3 + 2 * i ∧ T.length ≤ 6 + 8 * i ∧ ScT T hh ∧ inT T hh ∧ (∀ j k, K[j]? = some k → IsKey T hh r j k) ∧ At W w' [ownA x.1 (toI K), arT p T], fun x _ => 8 - x.2.toNat, ⟨0, _, T3, rfl, by omega, rfl, by omega, b3, ihh3, hkeys, h8⟩, ?_⟩
  clear h8 hkeys ihh3 b3
  rintro ⟨s9, _⟩ w9 ⟨i, K, T, rfl, hi, hKl, hTl, hsc, ihh, hkeys, h9⟩
  show trystlaw18_SchedApart.b12 _ _ r s (some p) 0 hh s9 (i : Int) w9
  unfold trystlaw18_SchedApart.b12
  refine cond_d (p := ((i : Nat) : Int) < 8) (fun hlt => ?_) fun hge => ?_
  · have hi8 : i < 8 := by omega
    refine (chain_at 0 i h9.swap (by omega)).mono ?_
    rintro v10 w10 ⟨good, _⟩
    obtain ⟨rfl, h10⟩ := good (by unfold isLeaf; omega) hsc.in0
    obtain ⟨k1, d1, d3, d4, d5⟩ := chain_key (r := r) hsc hi8 (by omega)
    rw [d1]
    generalize (chainP T 0 i).1 = T1 at h10 d3 d4 d5
    have d6 := d5.len
    refine ⟨_, _, rfl, by decide, ?_⟩
    rw [next8 hi8]
    refine (meet_at 0 i _ r h10 (by omega) (by omega)).mono ?_
    rintro v11 w11 ⟨good, _⟩
    obtain ⟨rfl, h11⟩ := good ⟨by unfold isLeaf; omega, by unfold isLeaf; split <;> omega, by omega⟩ d3.in0
    obtain ⟨k2, b1, b3, b4, b5⟩ := meet_key (r := r) d3 hi8 (by omega) (by omega) (by omega)
    rw [b1]
    generalize (meetP T1 0 i (if i = 7 then 0 else i + 1 : Nat) r).1 = T2 at h11 b3 b4 b5
    have b6 := b5.len
    refine ⟨_, _, rfl, cond_n (fun h => absurd rfl h) fun _ => cond_n (fun h => absurd rfl h) fun _ => ?_⟩
    unfold trystlaw18_SchedApart.c13
    intro w12
    obtain ⟨s13, w13, hr13, h13⟩ := moreN_at 1 rfl h11 [(k1 : Int), (k2 : Int)] (by rw [toI_len]; omega) (by simp) (by simp)
    refine ⟨_, _, _, _, hr13, ?_⟩
    dsimp only
    rw [inc (by omega)]
    refine ⟨⟨rfl, rfl, rfl, rfl, rfl, i + 1, K ++ [k1, k2], T2, rfl, by omega, by simp [hKl]; omega, by omega, b3, b5.ext.inT (d5.ext.inT ihh), ?_, ?_⟩, by (try dsimp only); omega⟩
    · intro j k hjk
      rw [List.getElem?_append] at hjk
      split at hjk
      · exact ((hkeys j k hjk).mono d5.ext).mono b5.ext
      · rename_i hge
        have hj := (List.getElem?_eq_some_iff.1 hjk).1
        simp at hj
        have : j = 3 + 2 * i ∨ j = 4 + 2 * i := by omega
        rcases this with rfl | rfl
        · rw [hKl, Nat.sub_self] at hjk
          simp at hjk; subst hjk
          exact d4.mono b5.ext
        · rw [hKl, show 4 + 2 * i - (3 + 2 * i) = 1 by omega] at hjk
          simp at hjk; subst hjk
          exact b4
    · have h13 : At W w13 [arT p T2, ownA s13 (toI K ++ [(k1 : Int), (k2 : Int)])] := h13
      have e : toI (K ++ [k1, k2]) = toI K ++ [(k1 : Int), (k2 : Int)] := by simp [toI]
      rw [e]; exact h13.swap
  · have hi8 : i = 8 := by omega
    subst hi8
    have hKl : K.length = 19 := hKl
    have hTl : T.length ≤ 70 := hTl
    have hslen : s9.len = 19 := by rw [h9.numLen 0 rfl, toI_len, hKl]
    have keyAt : ∀ {w' : World} {L : List Asn} (k : Nat), L[k]? = some (ownA s9 (toI K)) → At W w' L → ∀ {j : Nat} (hj : j < K.length), ∃ q, s9.a = some q ∧ w'.cell? (q.add j) = some (.int .i64 ((K[j] : Nat) : Int)) := by
      intro w' L k hk hat j hj
      obtain ⟨q, hq, hc⟩ := hat.num k hk (i := j) (by rw [toI_len]; exact hj)
      refine ⟨q, hq, ?_⟩
      rw [hc]; simp [toI]
    have hinj : ∀ {i j : Nat} (hi : i < K.length) (hj : j < K.length), K[i] = K[j] → i = j := fun {i j} hi hj e =>
      (hkeys i _ (List.getElem?_eq_getElem hi)).one (by rw [e]; exact hkeys j _ (List.getElem?_eq_getElem hj))
    have hKlt : ∀ {j : Nat} (hj : j < K.length), K[j] < T.length := fun {j} hj => (hkeys j _ (List.getElem?_eq_getElem hj)).lt
    unfold trystlaw18_SchedApart.c11 trystlaw18_SchedApart.l7
    let tl : Nat → Prop := fun j => bs[j]?.getD false = true
    refine ⟨fun x w' => ∃ (i : Nat) (D : List Nat), x.2 = i ∧ i ≤ 19 ∧ D.length ≤ i ∧ (∀ k, k ∈ D ↔ ∃ j, j < i ∧ K[j]? = some k ∧ tl j) ∧ At W w' [ownA x.1 (toI D), ownA s9 (toI K), arT p T], fun x _ => 19 - x.2.toNat, ⟨0, [], rfl, by omega, by simp, by simp, h9.nil⟩, ?_⟩
    clear h9
    rintro ⟨sd, _⟩ w10 ⟨i, D, rfl, hi, hDl, hD, h10⟩
    show trystlaw18_SchedApart.b7 _ _ s (some p) 0 hh s9 sd (i : Int) w10
    unfold trystlaw18_SchedApart.b7
    rw [hslen]
    refine cond_d (p := ((i : Nat) : Int) < ((19 : Nat) : Int)) (fun hlt => ?_) fun hge => ?_
    · have hi19 : i < K.length := by omega
      unfold trystlaw18_SchedApart.l10
      refine ⟨fun x w' => ∃ k : Nat, x = k ∧ k ≤ i ∧ At W w' [ownA sd (toI D), ownA s9 (toI K), arT p T], fun x _ => i - x.toNat, ⟨0, rfl, by omega, h10⟩, ?_⟩
      rintro _ w11 ⟨k, rfl, hk, h11⟩
      unfold trystlaw18_SchedApart.b10
      rw [hslen]
      refine cond_d (p := ((k : Nat) : Int) < (i : Int)) (fun hlt2 => ?_) fun hge2 => ?_
      · obtain ⟨q, hq, hc⟩ := keyAt 1 rfl h11 hi19
        obtain ⟨q', hq', hc'⟩ := keyAt 1 rfl h11 (j := k) (by omega)
        refine ⟨by omega, by omega, q, hq, _, by rw [Int.toNat_natCast]; exact hc, by omega, by omega, q', hq', _, by rw [Int.toNat_natCast]; exact hc', cond_e (fun he => ?_) fun he => ?_⟩
        · have := hinj hi19 (j := k) (by omega) (by omega)
          omega
        · rw [inc (by omega)]
          exact ⟨⟨rfl, rfl, rfl, rfl, rfl, rfl, rfl, k + 1, rfl, by omega, h11.drew⟩, by (try dsimp only); omega⟩
      · unfold trystlaw18_SchedApart.c9
        have hskip : (¬ tl i) → (∀ k, k ∈ D ↔ ∃ j, j < i + 1 ∧ K[j]? = some k ∧ tl j) := by
          intro hnt k
          rw [hD]
          constructor
          · rintro ⟨j, hj, hk, ht⟩; exact ⟨j, by omega, hk, ht⟩
          · rintro ⟨j, hj, hk, ht⟩
            rcases Nat.lt_or_eq_of_le (Nat.le_of_lt_succ hj) with h | rfl
            · exact ⟨j, h, hk, ht⟩
            · exact absurd ht hnt
        refine cond_d (p := ((i : Nat) : Int) < ((s.len : Nat) : Int)) (fun hlt3 => ?_) fun hge3 => ?_
        · have hib : i < bs.length := by omega
          obtain ⟨q, hq, hc⟩ := bools_get (h11.bools hb) hib
          refine ⟨by omega, hlt3, q, hq, _, by rw [Int.toNat_natCast]; exact hc, cond_c (fun hbt => ?_) fun hbf => ?_⟩
          · unfold trystlaw18_SchedApart.c8
            rw [hslen]
            obtain ⟨q, hq, hc⟩ := keyAt 1 rfl h11 hi19
            refine ⟨by omega, by omega, q, hq, _, by rw [Int.toNat_natCast]; exact hc, ?_⟩
            intro w12
            obtain ⟨s13, w13, hr13, h13⟩ := more_at 0 rfl h11 ((K[i] : Nat) : Int) (by rw [toI_len]; omega)
            refine ⟨_, _, _, _, hr13, ?_⟩
            dsimp only
            rw [inc (by omega)]
            refine ⟨⟨rfl, rfl, rfl, rfl, rfl, i + 1, D ++ [K[i]], rfl, by omega, by simp; omega, ?_, ?_⟩, by (try dsimp only); omega⟩
            · intro k
              rw [List.mem_append, List.mem_singleton, hD]
              constructor
              · rintro (⟨j, hj, hk, ht⟩ | rfl)
                · exact ⟨j, by omega, hk, ht⟩
                · exact ⟨i, by omega, List.getElem?_eq_getElem hi19, hbt⟩
              · rintro ⟨j, hj, hkj, ht⟩
                rcases Nat.lt_or_eq_of_le (Nat.le_of_lt_succ hj) with h | h
                · exact .inl ⟨j, h, hkj, ht⟩
                · rw [h, List.getElem?_eq_getElem hi19] at hkj
                  exact .inr (Option.some.inj hkj).symm
            · rw [toI_app]; exact h13
          · dsimp only
            rw [inc (by omega)]
            exact ⟨⟨rfl, rfl, rfl, rfl, rfl, i + 1, D, rfl, by omega, by omega, hskip (by show ¬ bs[i]?.getD false = true; rw [hbf]; decide), h11⟩, by (try dsimp only); omega⟩
        · dsimp only
          rw [inc (by omega)]
          refine ⟨⟨rfl, rfl, rfl, rfl, rfl, i + 1, D, rfl, by omega, by omega, hskip (by show ¬ bs[i]?.getD false = true; rw [List.getElem?_eq_none (by omega)]; decide), h11⟩, by (try dsimp only); omega⟩
    · have hi19 : i = 19 := by omega
      subst hi19
      unfold trystlaw18_SchedApart.c6
      have hDin : ∀ x ∈ toI D, inT T x := by
        intro x hx
        unfold toI at hx
        obtain ⟨k, hk, rfl⟩ := List.mem_map.1 hx
        obtain ⟨j, hj, hkj, _⟩ := (hD k).1 hk
        have := (hkeys j k hkj).lt
        unfold inT; omega
      refine (all_at (h10.front 2 rfl) (s := sd) (xs := toI D) (by rw [toI_len]; omega) fun L w' hs => rowNow 0 rfl hs.dropL.s (by rw [toI_len]; omega)).mono ?_
      rintro _ w11 ⟨s12, al, rfl, h11, hgood, _⟩
      obtain ⟨hal, hkn⟩ := hgood hDin
      rw [if_pos hDin]
      have hS : ∀ i, (fun i : Nat => (i : Int) ∈ toI D) i → ∃ j, IsKey T hh r j i ∧ tl j := by
        intro i hi
        have hi : (i : Int) ∈ toI D := hi
        unfold toI at hi
        obtain ⟨k, hk, e⟩ := List.mem_map.1 hi
        have e : k = i := by omega
        subst e
        obtain ⟨j, hj, hkj, ht⟩ := (hD k).1 hk
        exact ⟨j, hkeys j k hkj, ht⟩
      have hav := keys_apart hsc tl hS
      have h0 : al[0]?.getD false = false := by
        cases hx : al[0]?.getD false with
        | false => rfl
        | true => exact absurd (.inl rfl) (hav 0 ((hkn 0).1 hx))
      have hkey : ∀ {j : Nat} (hj : j < K.length), al[K[j]]?.getD false = bs[j]?.getD false := by
        intro j hj
        have hkj := hkeys j _ (List.getElem?_eq_getElem hj)
        cases hx : bs[j]?.getD false with
        | true =>
          refine (hkn _).2 (.start ?_)
          show ((K[j] : Nat) : Int) ∈ toI D
          unfold toI
          exact List.mem_map.2 ⟨_, (hD _).2 ⟨j, by omega, List.getElem?_eq_getElem hj, hx⟩, rfl⟩
        | false =>
          cases hy : al[K[j]]?.getD false with
          | false => rfl
          | true => exact absurd (.inr (.inr ⟨j, hkj, by show ¬ bs[j]?.getD false = true; rw [hx]; decide⟩)) (hav _ ((hkn _).1 hy))
      have hTpos : 0 < T.length := by obtain ⟨n, hn⟩ := hsc.head; exact (List.getElem?_eq_some_iff.1 hn).1
      refine ⟨_, _, _, _, rfl, cond_n (fun h => absurd rfl h) fun _ => ?_⟩
      have h11 : At W w11 [boolA s12 al, arT p T, ownA sd (toI D), ownA s9 (toI K)] := h11
      have hs12 : s12.len = T.length := by rw [(h11.s.rowLen 0 rfl).1, hal]
      refine (len_at h11.swap).mono ?_
      rintro _ _ ⟨rfl, rfl⟩
      obtain ⟨q, hq, hc⟩ := h11.s.boolAt 0 rfl (j := 0) (by omega)
      refine ⟨_, rfl, cond_n (fun h => absurd (by rw [hs12]) h) fun _ => ⟨by omega, by rw [hs12]; omega, q, hq, _, hc, cond_c (fun h => by rw [h0] at h; cases h) fun _ => ?_⟩⟩
      unfold trystlaw18_SchedApart.c5 trystlaw18_SchedApart.l4
      refine ⟨fun x w' => ∃ k : Nat, x = k ∧ k ≤ 19 ∧ At W w' [boolA s12 al, arT p T, ownA sd (toI D), ownA s9 (toI K)], fun x _ => 19 - x.toNat, ⟨0, rfl, by omega, h11⟩, ?_⟩
      clear hq hc
      rintro _ w12 ⟨k, rfl, hk, h12⟩
      unfold trystlaw18_SchedApart.b4
      rw [hslen]
      refine cond_d (p := ((k : Nat) : Int) < ((19 : Nat) : Int)) (fun hlt => ?_) fun hge => ?_
      · have hk19 : k < K.length := by omega
        obtain ⟨q, hq, hc⟩ := keyAt 3 rfl h12 hk19
        have hlt2 := hKlt hk19
        obtain ⟨q', hq', hc'⟩ := h12.s.boolAt 0 rfl (j := K[k]) (by omega)
        refine ⟨by omega, by omega, q, hq, _, by rw [Int.toNat_natCast]; exact hc, by omega, by rw [hs12]; omega, q', hq', _, by rw [Int.toNat_natCast]; exact hc', cond_d (p := ((k : Nat) : Int) < ((s.len : Nat) : Int)) (fun hlt3 => ?_) fun hge3 => ?_⟩
        · have hkb : k < bs.length := by omega
          obtain ⟨q3, hq3, hc3⟩ := bools_get (h12.bools hb) hkb
          refine ⟨by omega, hlt3, q3, hq3, _, by rw [Int.toNat_natCast]; exact hc3, ?_⟩
          rw [hkey hk19]
          refine cond_f' (by simp) ?_
          dsimp only
          rw [inc (by omega)]
          exact ⟨⟨rfl, rfl, rfl, rfl, rfl, rfl, k + 1, rfl, by omega, h12.drew⟩, by (try dsimp only); omega⟩
        · rw [hkey hk19, List.getElem?_eq_none (by omega)]
          refine cond_f' rfl ?_
          dsimp only
          rw [inc (by omega)]
          exact ⟨⟨rfl, rfl, rfl, rfl, rfl, rfl, k + 1, rfl, by omega, h12.drew⟩, by (try dsimp only); omega⟩
      · unfold trystlaw18_SchedApart.c3
        intro w13
        have h13 : At W w13 [ownA ⟨some (newA w12), 2, 2⟩ [0, (hh : Int)], boolA s12 al, arT p T, ownA sd (toI D), ownA s9 (toI K)] := h12.row [0, (hh : Int)] (by simp)
        have hin : ∀ x ∈ [0, (hh : Int)], inT T x := by simp; exact ⟨hsc.in0, ihh⟩
        refine (all_at (h13.front 2 rfl) (s := ⟨some (newA w12), 2, 2⟩) (xs := [0, (hh : Int)]) (by simp) fun L w' hs => rowNow 0 rfl hs.dropL.s (by simp)).mono ?_
        rintro _ w14 ⟨s15, al2, rfl, h14, hgood2, _⟩
        obtain ⟨hal2, hkn2⟩ := hgood2 hin
        rw [if_pos hin]
        refine ⟨_, _, _, _, rfl, ?_⟩
        have hT' : TOk T := (h12.swap).ok
        have hall : ∀ {j : Nat} (hj : j < K.length), al2[K[j]]?.getD false = true := fun {j} hj => (hkn2 _).2 (keys_all hsc hT' (by simp) (by simp) _ (hKlt hj))
        have h14 : At W w14 [boolA s15 al2, arT p T, ownA ⟨some (newA w12), 2, 2⟩ [0, (hh : Int)], boolA s12 al, ownA sd (toI D), ownA s9 (toI K)] := h14
        have hs15 : s15.len = T.length := by rw [(h14.s.rowLen 0 rfl).1, hal2]
        unfold trystlaw18_SchedApart.l2
        refine ⟨fun x w' => ∃ k : Nat, x = k ∧ k ≤ 19 ∧ At W w' [boolA s15 al2, arT p T, ownA ⟨some (newA w12), 2, 2⟩ [0, (hh : Int)], boolA s12 al, ownA sd (toI D), ownA s9 (toI K)], fun x _ => 19 - x.toNat, ⟨0, rfl, by omega, h14⟩, ?_⟩
        rintro _ w16 ⟨k, rfl, hk, h16⟩
        unfold trystlaw18_SchedApart.b2
        rw [hslen]
        refine cond_d (p := ((k : Nat) : Int) < ((19 : Nat) : Int)) (fun hlt => ?_) fun hge => ?_
        · have hk19 : k < K.length := by omega
          obtain ⟨q, hq, hc⟩ := keyAt 5 rfl h16 hk19
          have hlt2 := hKlt hk19
          obtain ⟨q', hq', hc'⟩ := h16.s.boolAt 0 rfl (j := K[k]) (by omega)
          refine ⟨by omega, by omega, q, hq, _, by rw [Int.toNat_natCast]; exact hc, by omega, by show ((K[k] : Nat) : Int) < ((s15.len : Nat) : Int); rw [hs15]; omega, q', hq', _, by rw [Int.toNat_natCast]; exact hc', ?_⟩
          rw [hall hk19]
          refine cond_f' rfl ?_
          dsimp only
          rw [inc (by omega)]
          exact ⟨⟨rfl, rfl, rfl, k + 1, rfl, by omega, h16⟩, by (try dsimp only); omega⟩
        · unfold trystlaw18_SchedApart.c1
          refine cond_t rfl ((wakes18 h16).mono ?_)
          rintro _ w17 ⟨rfl, h17⟩
          refine ⟨_, rfl, ?_⟩
          rw [← hRR]
          exact ⟨rfl, h17.b⟩

end Go.Proofs.YtoclhecldmahiaaDoor
