/-
  What is beneath a term: the law of the marks.
-/
import Derived.Test.YtpihglmgkfecbaaDoorLiftArr
namespace Go.Lf
open Go Go.RowKit Go.ChangeShapes
set_option linter.unusedVariables false

def tmAt (T : List Tm) (i : Int) : Tm := (T[i.toNat]?).getD ⟨0, 0, []⟩

def markL (bs : List Bool) (xs : List Int) : List Bool := xs.foldl (fun b x => b.set x.toNat true) bs
theorem mark_nil (bs : List Bool) : markL bs [] = bs := rfl
theorem mark_more (bs : List Bool) (xs : List Int) (x : Int) : markL bs (xs ++ [x]) = (markL bs xs).set x.toNat true := by simp [markL]
theorem mark_len : ∀ (xs : List Int) (bs : List Bool), (markL bs xs).length = bs.length
  | [], bs => rfl
  | x :: r, bs => by
    show (markL (bs.set x.toNat true) r).length = _
    rw [mark_len r, List.length_set]
theorem mark_take (m : Nat) : ∀ (xs : List Int) (bs : List Bool), markL (bs.take m) xs = (markL bs xs).take m
  | [], bs => rfl
  | x :: r, bs => by
    show markL ((bs.take m).set x.toNat true) r = (markL (bs.set x.toNat true) r).take m
    rw [← mark_take m r, List.take_set]
theorem mark_other {j : Nat} : ∀ (xs : List Int) (bs : List Bool), (∀ x ∈ xs, x.toNat ≠ j) → (markL bs xs)[j]? = bs[j]?
  | [], bs, _ => rfl
  | x :: r, bs, h => by
    show (markL (bs.set x.toNat true) r)[j]? = _
    rw [mark_other r _ (fun y hy => h y (by simp [hy])), List.getElem?_set_ne (h x (by simp))]

def sweep (T : List Tm) : Nat → List Bool → List Bool
  | 0, bs => bs
  | n + 1, bs => sweep T n (if bs[n]?.getD false = true then markL bs (tmAt T (n : Int)).args else bs)

theorem sweep_len (T : List Tm) : ∀ (n : Nat) (bs : List Bool), (sweep T n bs).length = bs.length
  | 0, bs => rfl
  | n + 1, bs => by
    unfold sweep
    rw [sweep_len T n]
    split
    · rw [mark_len]
    · rfl
theorem sweep_take (T : List Tm) (m : Nat) : ∀ (n : Nat) (bs : List Bool), n ≤ m → sweep T n (bs.take m) = (sweep T n bs).take m
  | 0, bs, _ => rfl
  | n + 1, bs, h => by
    have e : (bs.take m)[n]? = bs[n]? := by rw [List.getElem?_take, if_pos (by omega)]
    unfold sweep
    rw [e]
    split
    · rw [mark_take]; exact sweep_take T m n _ (by omega)
    · exact sweep_take T m n _ (by omega)

/-- the args of each stand ahead of it -/
def Down (T : List Tm) : Prop := ∀ (n : Nat), n < T.length → ∀ x ∈ (tmAt T (n : Int)).args, 0 ≤ x ∧ x < n

theorem sweep_above {T : List Tm} (hd : Down T) : ∀ (n : Nat) (bs : List Bool) (j : Nat), n ≤ T.length → n ≤ j → (sweep T n bs)[j]? = bs[j]?
  | 0, bs, j, _, _ => rfl
  | n + 1, bs, j, hn, hj => by
    unfold sweep
    rw [sweep_above hd n _ j (by omega) (by omega)]
    split
    · refine mark_other _ _ fun x hx => ?_
      have := hd n (by omega) x hx
      omega
    · rfl

def finT (T : List Tm) (m i : Nat) : List Bool := sweep T (i + 1) ((List.replicate m false).set i true)
def isU (T : List Tm) (i k : Nat) : Bool := (finT T (i + 1) i)[k]?.getD false
def underT (T : List Tm) (i : Nat) : List Int := ((List.range (i + 1)).filter (isU T i)).map fun k => ((k : Nat) : Int)

theorem fin_take {T : List Tm} {m i : Nat} (h : i + 1 ≤ m) : finT T (i + 1) i = (finT T m i).take (i + 1) := by
  unfold finT
  rw [← sweep_take T (i + 1) (i + 1) _ (Nat.le_refl _), List.take_set, List.take_replicate, Nat.min_eq_left h]

theorem fin_isU {T : List Tm} {m i k : Nat} (h : i + 1 ≤ m) (hk : k ≤ i) : (finT T m i)[k]?.getD false = isU T i k := by
  unfold isU
  rw [fin_take h, List.getElem?_take, if_pos (by omega)]

theorem fin_above {T : List Tm} (hd : Down T) {m i k : Nat} (hi : i < T.length) (hk : i < k) : (finT T m i)[k]?.getD false = false := by
  unfold finT
  rw [sweep_above hd _ _ _ (by omega) (by omega), List.getElem?_set_ne (by omega), List.getElem?_replicate]
  split <;> rfl

theorem under_all {T : List Tm} (hd : Down T) {i : Nat} (hi : i < T.length) {m : Nat} (hm : i + 1 ≤ m) : ((List.range m).filter fun k => (finT T m i)[k]?.getD false).map (fun k => ((k : Nat) : Int)) = underT T i := by
  unfold underT
  congr 1
  obtain ⟨d, rfl⟩ : ∃ d, m = i + 1 + d := ⟨m - (i + 1), by omega⟩
  rw [List.range_add, List.filter_append]
  have e2 : ((List.range d).map (i + 1 + ·)).filter (fun k => (finT T (i + 1 + d) i)[k]?.getD false) = [] := by
    rw [List.filter_eq_nil_iff]
    intro k hk
    obtain ⟨j, _, rfl⟩ := List.mem_map.1 hk
    rw [fin_above hd hi (by omega)]
    simp
  rw [e2, List.append_nil]
  refine List.filter_congr fun k hk => ?_
  have := List.mem_range.1 hk
  exact fin_isU hm (by omega)

theorem mark_mem {k : Nat} : ∀ (xs : List Int) (bs : List Bool), k < bs.length → ((markL bs xs)[k]?.getD false = true ↔ bs[k]?.getD false = true ∨ ∃ x ∈ xs, x.toNat = k)
  | [], bs, h => by simp [markL]
  | x :: r, bs, h => by
    show (markL (bs.set x.toNat true) r)[k]?.getD false = true ↔ _
    rw [mark_mem r _ (by rw [List.length_set]; exact h), List.getElem?_set]
    by_cases hx : x.toNat = k
    · rw [if_pos hx, if_pos (by rw [hx]; exact h)]
      simp only [Option.getD_some, true_or, true_iff]
      exact .inr ⟨x, by simp, hx⟩
    · rw [if_neg hx]
      simp [hx]

inductive U (T : List Tm) : Nat → Nat → Prop
  | refl (i : Nat) : U T i i
  | step {i k : Nat} {x : Int} (hx : x ∈ (tmAt T (i : Int)).args) (h : U T x.toNat k) : U T i k

theorem U.le {T : List Tm} (hd : Down T) {i k : Nat} (h : U T i k) : i < T.length → k ≤ i := by
  induction h with
  | refl i => intro _; exact Nat.le_refl _
  | step hx h ih =>
    intro hi
    have := hd _ hi _ hx
    have := ih (by omega)
    omega

theorem sweep_mem {T : List Tm} (hd : Down T) {k : Nat} : ∀ (n : Nat) (bs : List Bool), n ≤ T.length → n ≤ bs.length → k < bs.length →
    ((sweep T n bs)[k]?.getD false = true ↔ bs[k]?.getD false = true ∨ ∃ j, j < n ∧ bs[j]?.getD false = true ∧ U T j k)
  | 0, bs, _, _, _ => by
    constructor
    · exact .inl
    · rintro (h | ⟨j, hj, _⟩)
      · exact h
      · omega
  | n + 1, bs, hn, hl, hk => by
    unfold sweep
    by_cases hb : bs[n]?.getD false = true
    · rw [if_pos hb, sweep_mem hd n _ (by omega) (by rw [mark_len]; omega) (by rw [mark_len]; exact hk), mark_mem _ _ hk]
      constructor
      · rintro ((h | ⟨x, hx, rfl⟩) | ⟨j, hj, h1, h2⟩)
        · exact .inl h
        · exact .inr ⟨n, by omega, hb, .step hx (.refl _)⟩
        · rw [mark_mem _ _ (by omega)] at h1
          rcases h1 with h1 | ⟨x, hx, rfl⟩
          · exact .inr ⟨j, by omega, h1, h2⟩
          · exact .inr ⟨n, by omega, hb, .step hx h2⟩
      · rintro (h | ⟨j, hj, h1, h2⟩)
        · exact .inl (.inl h)
        · by_cases hjn : j = n
          · subst hjn
            cases h2 with
            | refl => exact .inl (.inl hb)
            | step hx h2 =>
              have := hd j (by omega) _ hx
              exact .inr ⟨_, by omega, by rw [mark_mem _ _ (by omega)]; exact .inr ⟨_, hx, rfl⟩, h2⟩
          · exact .inr ⟨j, by omega, by rw [mark_mem _ _ (by omega)]; exact .inl h1, h2⟩
    · rw [if_neg hb, sweep_mem hd n bs (by omega) (by omega) hk]
      constructor
      · rintro (h | ⟨j, hj, h1, h2⟩)
        · exact .inl h
        · exact .inr ⟨j, by omega, h1, h2⟩
      · rintro (h | ⟨j, hj, h1, h2⟩)
        · exact .inl h
        · by_cases hjn : j = n
          · subst hjn; exact absurd h1 hb
          · exact .inr ⟨j, by omega, h1, h2⟩

theorem start_mem {m i k : Nat} (hi : i < m) (hk : k < m) : ((List.replicate m false).set i true)[k]?.getD false = true ↔ k = i := by
  rw [List.getElem?_set]
  by_cases h : i = k
  · subst h
    rw [if_pos rfl, if_pos (by simpa using hi)]; simp
  · rw [if_neg h, List.getElem?_replicate, if_pos hk]
    simp; omega

theorem fin_mem {T : List Tm} (hd : Down T) {m i k : Nat} (hi : i < T.length) (him : i < m) (hk : k < m) : (finT T m i)[k]?.getD false = true ↔ U T i k := by
  unfold finT
  rw [sweep_mem hd _ _ (by omega) (by simp; omega) (by simpa using hk), start_mem him hk]
  constructor
  · rintro (rfl | ⟨j, hj, h1, h2⟩)
    · exact .refl _
    · rw [start_mem him (by omega)] at h1
      subst h1; exact h2
  · intro h
    exact .inr ⟨i, by omega, (start_mem him him).2 rfl, h⟩

theorem isU_iff {T : List Tm} (hd : Down T) {i k : Nat} (hi : i < T.length) : isU T i k = true ↔ U T i k := by
  by_cases hk : k < i + 1
  · exact fin_mem hd hi (by omega) hk
  · constructor
    · intro h
      unfold isU at h
      rw [List.getElem?_eq_none (by unfold finT; rw [sweep_len]; simp; omega)] at h
      cases h
    · intro h
      have := h.le hd hi
      omega

theorem under_mem {T : List Tm} (hd : Down T) {i : Nat} (hi : i < T.length) {x : Int} : x ∈ underT T i ↔ ∃ k : Nat, x = k ∧ U T i k := by
  unfold underT
  rw [List.mem_map]
  constructor
  · rintro ⟨k, hk, rfl⟩
    rw [List.mem_filter] at hk
    exact ⟨k, rfl, (isU_iff hd hi).1 hk.2⟩
  · rintro ⟨k, rfl, hk⟩
    refine ⟨k, ?_, rfl⟩
    rw [List.mem_filter, List.mem_range]
    exact ⟨by have := hk.le hd hi; omega, (isU_iff hd hi).2 hk⟩

def wantL (T : List Tm) (bs : List Bool) (args : List Int) : List Bool := args.foldl (fun b a => markL b (underT T a.toNat)) bs
theorem want_len (T : List Tm) : ∀ (args : List Int) (bs : List Bool), (wantL T bs args).length = bs.length
  | [], bs => rfl
  | a :: r, bs => by
    show (wantL T (markL bs (underT T a.toNat)) r).length = _
    rw [want_len T r, mark_len]
theorem want_mem {T : List Tm} (hd : Down T) {k : Nat} : ∀ (args : List Int) (bs : List Bool), (∀ a ∈ args, a.toNat < T.length) → k < bs.length → ((wantL T bs args)[k]?.getD false = true ↔ bs[k]?.getD false = true ∨ ∃ a ∈ args, U T a.toNat k)
  | [], bs, _, _ => by simp [wantL]
  | a :: r, bs, ha, hk => by
    show (wantL T (markL bs (underT T a.toNat)) r)[k]?.getD false = true ↔ _
    rw [want_mem hd r _ (fun x hx => ha x (by simp [hx])) (by rw [mark_len]; exact hk), mark_mem _ _ hk]
    constructor
    · rintro ((h | ⟨x, hx, rfl⟩) | ⟨y, hy, h⟩)
      · exact .inl h
      · obtain ⟨k, rfl, hu⟩ := (under_mem hd (ha a (by simp))).1 hx
        exact .inr ⟨a, by simp, by rw [Int.toNat_natCast]; exact hu⟩
      · exact .inr ⟨y, by simp [hy], h⟩
    · rintro (h | ⟨y, hy, h⟩)
      · exact .inl (.inl h)
      · rcases List.mem_cons.1 hy with rfl | hy
        · exact .inl (.inr ⟨(k : Int), (under_mem hd (ha y (by simp))).2 ⟨k, rfl, h⟩, by omega⟩)
        · exact .inr ⟨y, hy, h⟩

theorem want_under {T : List Tm} (hd : Down T) {i : Nat} (hi : i < T.length) :
    ((List.range T.length).filter fun k => (wantL T ((List.replicate T.length false).set i true) (tmAt T (i : Int)).args)[k]?.getD false).map (fun k => ((k : Nat) : Int)) = underT T i := by
  rw [← under_all hd hi (m := T.length) (by omega)]
  congr 1
  refine List.filter_congr fun k hk => ?_
  have hk := List.mem_range.1 hk
  rw [Bool.eq_iff_iff, want_mem hd _ _ (fun a ha => by have := hd i hi a ha; omega) (by simpa using hk), start_mem hi hk, fin_mem hd hi hi hk]
  constructor
  · rintro (rfl | ⟨a, ha, h⟩)
    · exact .refl _
    · exact .step ha h
  · intro h
    cases h with
    | refl => exact .inl rfl
    | step hx h => exact .inr ⟨_, hx, h⟩

end Go.Lf
