/-
  Rounds in which each server leaves everything at its place.
-/
import Derived.Test.YtoclhecldmahiaaDoorMxS
import Derived.Test.YtoclhecldmahiaaDoorMxE0
set_option linter.unusedVariables false
set_option linter.unusedVariables false
set_option linter.unusedSimpArgs false
namespace Go.Proofs.YtoclhecldmahiaaDoor
open Go.Lf Go.RowKit

/-- nothing is moved -/
def idsP (n : Nat) : List Int := (List.range n).map fun (i : Nat) => (i : Int)
theorem idsP_at {n k : Nat} (h : k < n) : (idsP n)[k]?.getD 0 = k := by
  unfold idsP
  rw [List.getElem?_map, List.getElem?_range h]
  rfl
theorem idsP_ok (n : Nat) : permOk (idsP n) n := permOk_of (List.Perm.refl _)

section
variable {T : List Tm} {sec nw : Int} {seen l : List Int}

theorem onS_ids : ∀ k, k ≤ l.length → ∀ j, j < l.length → (onS T sec nw seen l (idsP l.length) k)[j]?.getD 0 = if j < k then inO nw (stepS T sec (openS T sec seen l j).2 (l[j]?.getD 0)).1 else 0
  | 0, _, j, hj => by
    show (List.replicate l.length (0 : Int))[j]?.getD 0 = _
    rw [List.getElem?_replicate, if_pos hj]
    rfl
  | k + 1, hk, j, hj => by
    have ih := onS_ids k (by omega) j hj
    show ((onS T sec nw seen l (idsP l.length) k).set ((idsP l.length)[k]?.getD 0).toNat _)[j]?.getD 0 = _
    rw [idsP_at (by omega), Int.toNat_natCast]
    by_cases hjk : j = k
    · subst hjk
      rw [List.getElem?_set_self (by rw [onS_len]; exact hj), if_pos (by omega)]
      rfl
    · rw [List.getElem?_set_ne (by omega), ih]
      by_cases h : j < k
      · rw [if_pos h, if_pos (by omega)]
      · rw [if_neg h, if_neg (by omega)]

/-- what is no onion of the server's, or has been seen -/
theorem stepS_bad {t : Int} (h : (peelT T sec t).2.2 ≠ 0 ∨ t ∈ seen) : stepS T sec seen t = (.none, seen) := by unfold stepS; rw [if_pos h]
theorem openS_bad (h : ∀ x ∈ l, (peelT T sec x).2.2 ≠ 0 ∨ x ∈ seen) : ∀ k, k ≤ l.length → openS T sec seen l k = (List.replicate k .none, seen)
  | 0, _ => rfl
  | k + 1, hk => by
    have ih := openS_bad h k (by omega)
    show ((openS T sec seen l k).1 ++ [(stepS T sec (openS T sec seen l k).2 (l[k]?.getD 0)).1], (stepS T sec (openS T sec seen l k).2 (l[k]?.getD 0)).2) = _
    rw [ih, stepS_bad (h _ (getD_mem (by omega)))]
    show (List.replicate k (none : Option (Int × Int)) ++ [none], seen) = _
    rw [← List.replicate_succ']
end

end Go.Proofs.YtoclhecldmahiaaDoor

/-
  Rounds in which each that comes is an onion: what is opened, placed, sealed back.
-/
set_option linter.unusedVariables false
set_option linter.unusedSimpArgs false
namespace Go.Proofs.YtoclhecldmahiaaDoor
open Go.Lf Go.RowKit

/-! where each one stands -/

structure Pos (n : Nat) (pos : Nat → Nat) : Prop where
  lt : ∀ i, i < n → pos i < n
  inj : ∀ i j, i < n → j < n → pos i = pos j → i = j
theorem Pos.id (n : Nat) : Pos n fun i => i := ⟨fun _ h => h, fun _ _ _ _ h => h⟩
theorem Pos.ok {n : Nat} {pos : Nat → Nat} (h : Pos n pos) : permOk ((List.range n).map fun i => ((pos i : Nat) : Int)) n := by
  refine ⟨by simp, fun x hx => ?_, ?_⟩
  · obtain ⟨i, hi, rfl⟩ := List.mem_map.1 hx
    have := h.lt i (List.mem_range.1 hi)
    omega
  · refine List.pairwise_map.2 (List.nodup_range.imp_of_mem fun {a b} ha hb hne he => hne ?_)
    exact h.inj _ _ (List.mem_range.1 ha) (List.mem_range.1 hb) (by omega)
theorem Pos.surj {n : Nat} {pos : Nat → Nat} (h : Pos n pos) {q : Nat} (hq : q < n) : ∃ i, i < n ∧ pos i = q := by
  obtain ⟨j, hj, e⟩ := perm_all h.ok hq
  rw [List.getElem?_map, List.getElem?_range hj] at e
  have e : ((pos j : Nat) : Int) = q := by simpa using e
  exact ⟨j, hj, by omega⟩
theorem Pos.perm {n : Nat} {pos : Nat → Nat} (h : Pos n pos) : ((List.range n).map pos).Perm (List.range n) := by
  refine (List.perm_ext_iff_of_nodup ?_ List.nodup_range).2 fun q => ?_
  · exact List.pairwise_map.2 (List.nodup_range.imp_of_mem fun {a b} ha hb hne he => hne (h.inj _ _ (List.mem_range.1 ha) (List.mem_range.1 hb) he))
  · rw [List.mem_map, List.mem_range]
    constructor
    · rintro ⟨i, hi, rfl⟩
      exact h.lt i (List.mem_range.1 hi)
    · intro hq
      obtain ⟨i, hi, e⟩ := h.surj hq
      exact ⟨i, List.mem_range.2 hi, e⟩
theorem Pos.step {n : Nat} {pos : Nat → Nat} (h : Pos n pos) {p : List Int} (hp : permOk p n) : Pos n fun i => (p[pos i]?.getD 0).toNat := by
  have hl := hp.1
  refine ⟨fun i hi => ?_, fun i j hi hj he => ?_⟩
  · have := hp.2.1 _ (getD_mem (l := p) (k := pos i) (by have := h.lt i hi; omega))
    omega
  · refine Classical.byContradiction fun hne => ?_
    have h1 := h.lt i hi
    have h2 := h.lt j hj
    have hpi := hp.2.1 _ (getD_mem (l := p) (k := pos i) (by omega))
    have hpj := hp.2.1 _ (getD_mem (l := p) (k := pos j) (by omega))
    have he : (p[pos i]?.getD 0).toNat = (p[pos j]?.getD 0).toNat := he
    exact perm_ne hp h1 h2 (fun e => hne (h.inj i j hi hj e)) (by omega)

structure Plc (n : Nat) (pos : Nat → Nat) (f : Nat → Int) (l : List Int) : Prop where
  len : l.length = n
  at_ : ∀ i, i < n → l[pos i]?.getD 0 = f i
theorem Plc.mem {n : Nat} {pos : Nat → Nat} {f : Nat → Int} {l : List Int} (h : Plc n pos f l) (hp : Pos n pos) {x : Int} (hx : x ∈ l) : ∃ i, i < n ∧ x = f i := by
  obtain ⟨q, hq⟩ := List.getElem?_of_mem hx
  have hlt := (List.getElem?_eq_some_iff.1 hq).1
  obtain ⟨i, hi, rfl⟩ := hp.surj (q := q) (by rw [← h.len]; exact hlt)
  exact ⟨i, hi, by rw [← h.at_ i hi, hq]; rfl⟩
theorem Plc.nodup {n : Nat} {pos : Nat → Nat} {f : Nat → Int} {l : List Int} (h : Plc n pos f l) (hp : Pos n pos) (hf : ∀ i j, i < n → j < n → f i = f j → i = j) : l.Nodup := by
  have hl := h.len
  refine List.pairwise_iff_getElem.2 fun a b ha hb hab he => ?_
  obtain ⟨i, hi, ei⟩ := hp.surj (q := a) (by omega)
  obtain ⟨j, hj, ej⟩ := hp.surj (q := b) (by omega)
  have h1 := h.at_ i hi
  have h2 := h.at_ j hj
  rw [ei, List.getElem?_eq_getElem ha, Option.getD_some] at h1
  rw [ej, List.getElem?_eq_getElem hb, Option.getD_some] at h2
  have := hf i j hi hj (by rw [← h1, ← h2, he])
  subst this
  omega

/-! a server, of onions alone -/

section
variable {T : List Tm} {sec nw : Int} {l perm : List Int}

end

/-! a round -/

/-- sealed, so many times, from a server on -/
def SealC (T : List Tm) (K : List Int) : Nat → Int → Int → Prop
  | 0, y, a => y = a
  | d + 1, y, a => ∃ (o : Nat) (y' : Int), y = o ∧ T[o]? = some ⟨6, 0, [K[2 - d]?.getD 0, y']⟩ ∧ SealC T K d y' a
theorem SealC.mono {T T' : List Tm} (hE : Ext T T') {K : List Int} : ∀ {d : Nat} {y a : Int}, SealC T K d y a → SealC T' K d y a
  | 0, _, _, h => h
  | _ + 1, _, _, ⟨o, y', h1, h2, h3⟩ => ⟨o, y', h1, hE _ _ h2, h3.mono hE⟩
/-- what is to be opened, onion by onion -/
structure Peels (T : List Tm) (secs : List Int) (n : Nat) (X : Nat → Nat → Int) (K : Nat → List Int) : Prop where
  peel : ∀ i, i < n → ∀ s, s < 3 → peelT T (secs[s]?.getD 0) (X i (3 - s)) = (X i (2 - s), (K i)[s]?.getD 0, 0)
  ne : ∀ i j, i < n → j < n → ∀ m, 1 ≤ m → m ≤ 3 → X i m = X j m → i = j
  key : ∀ i, i < n → ∀ s, s < 3 → inT T ((K i)[s]?.getD 0)

end Go.Proofs.YtoclhecldmahiaaDoor

/-
  What the last server does, in any order: where no two write one register, and none reads one that is written.
-/
set_option linter.unusedVariables false
set_option linter.unusedSimpArgs false
namespace Go.Proofs.YtoclhecldmahiaaDoor
open Go.Lf Go.RowKit

/-- no two write one register, and none reads one that is written -/
def SepQ (Q : List Rq) : Prop := ∀ i j, i < Q.length → j < Q.length → i ≠ j → ((rq Q i).1 = 71 ∨ (rq Q i).1 = 72) → (rq Q j).1 = 71 → rqId Q i ≠ rqId Q j
/-! in another order -/

section
variable {none : Int} {Q Q' : List Rq} {n : Nat} {pos : Nat → Nat}

theorem rq_pos (hl : Q.length = n) (hl' : Q'.length = n) (h : ∀ i, i < n → rq Q' (pos i) = rq Q i) {i : Nat} (hi : i < n) : rqId Q' (pos i) = rqId Q i ∧ rqV Q' (pos i) = rqV Q i := by
  unfold rqId rqV
  rw [h i hi]
  exact ⟨rfl, rfl⟩
theorem SepQ.move (hp : Pos n pos) (hl : Q.length = n) (hl' : Q'.length = n) (h : ∀ i, i < n → rq Q' (pos i) = rq Q i) (hs : SepQ Q) : SepQ Q' := by
  intro a b ha hb hne hw h71
  obtain ⟨i, hi, rfl⟩ := hp.surj (q := a) (by omega)
  obtain ⟨j, hj, rfl⟩ := hp.surj (q := b) (by omega)
  rw [h i hi] at hw
  rw [h j hj] at h71
  rw [(rq_pos hl hl' h hi).1, (rq_pos hl hl' h hj).1]
  exact hs i j (by omega) (by omega) (fun e => hne (by rw [e])) hw h71
end

end Go.Proofs.YtoclhecldmahiaaDoor
