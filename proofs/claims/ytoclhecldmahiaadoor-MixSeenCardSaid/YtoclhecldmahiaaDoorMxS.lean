/-
  Rounds over two arenas: what is opened, placed, sealed back.
-/
import Derived.Test.YtoclhecldmahiaaDoorMxQ
set_option linter.unusedVariables false
set_option linter.unusedVariables false
set_option linter.unusedSimpArgs false
namespace Go.Proofs.YtoclhecldmahiaaDoor
open Go.Lf Go.RowKit

theorem perm_all {p : List Int} {n : Nat} (h : permOk p n) {i : Nat} (hi : i < n) : ∃ j : Nat, j < n ∧ p[j]?.getD 0 = i := by
  obtain ⟨h1, h2, h3⟩ := h
  by_cases hm : (i : Int) ∈ p
  · obtain ⟨j, hj⟩ := List.getElem?_of_mem hm
    have := (List.getElem?_eq_some_iff.1 hj).1
    exact ⟨j, by omega, by rw [hj]; rfl⟩
  · have := List.Nodup.length_le_of_subset (l₁ := (i : Int) :: p) (l₂ := (List.range n).map fun (i : Nat) => (i : Int)) (List.nodup_cons.2 ⟨hm, h3⟩) (fun x hx => by
      rw [List.mem_cons] at hx
      rcases hx with rfl | hx
      · exact List.mem_map.2 ⟨i, List.mem_range.2 hi, rfl⟩
      · have := h2 x hx
        exact List.mem_map.2 ⟨x.toNat, List.mem_range.2 (by omega), by omega⟩)
    simp at this
    omega
theorem perm_ne {p : List Int} {n : Nat} (h : permOk p n) {i j : Nat} (hi : i < n) (hj : j < n) (hne : i ≠ j) : p[i]?.getD 0 ≠ p[j]?.getD 0 := by
  obtain ⟨h1, h2, h3⟩ := h
  rw [List.getElem?_eq_getElem (by omega), List.getElem?_eq_getElem (by omega)]
  rcases Nat.lt_or_gt_of_ne hne with h | h
  · exact List.pairwise_iff_getElem.1 h3 i j (by omega) (by omega) h
  · exact fun e => List.pairwise_iff_getElem.1 h3 j i (by omega) (by omega) h e.symm

/-- what the servers hold, over two arenas -/
structure StEv (A B : List Tm) (sa sb : MxS) : Prop where
  regs : RegEv A B sa.regs sb.regs
  seen : ∀ k, k < 3 → EvL A B (sa.seen k) (sb.seen k)
theorem StEv.mono {A B A' B' : List Tm} (hA : Ext A A') (hB : Ext B B') {sa sb : MxS} (h : StEv A B sa sb) : StEv A' B' sa sb := ⟨h.regs.mono hA hB, fun k hk => (h.seen k hk).mono hA hB⟩

section
variable {A B A' B' : List Tm} {sA sB nA nB : Int} {la lb ea eb perm : List Int}

theorem EvL.mem (hA : TOk A) (hB : TOk B) {xs ys : List Int} (h : EvL A B xs ys) {t u : Int} (ht : Ev A B t u) : t ∈ xs ↔ u ∈ ys := by
  have hl := h.1
  constructor
  · intro hm
    obtain ⟨j, hj⟩ := List.getElem?_of_mem hm
    have hlt := (List.getElem?_eq_some_iff.1 hj).1
    have hy : ys[j]? = some (ys[j]'(by omega)) := List.getElem?_eq_getElem (by omega)
    have := (ht.same_iff hA hB (h.2 j t _ hj hy)).1 rfl
    rw [this]
    exact List.mem_of_getElem? hy
  · intro hm
    obtain ⟨j, hj⟩ := List.getElem?_of_mem hm
    have hlt := (List.getElem?_eq_some_iff.1 hj).1
    have hy : xs[j]? = some (xs[j]'(by omega)) := List.getElem?_eq_getElem (by omega)
    have := (ht.same_iff hA hB (h.2 j _ u hy hj)).2 rfl
    rw [this]
    exact List.mem_of_getElem? hy

end

end Go.Proofs.YtoclhecldmahiaaDoor

/-
  Rounds over a pair of arenas: states, rounds.
-/
set_option linter.unusedVariables false
set_option linter.unusedSimpArgs false
namespace Go.Proofs.YtoclhecldmahiaaDoor
open Go.Lf Go.RowKit

theorem Regs.none {w : World} {s : Sl} {rs : List Rg} (h : Regs w s rs) (hn : s.a = .none) : rs = [] := by
  cases rs with
  | nil => rfl
  | cons r rs =>
    obtain ⟨q, hq, _⟩ := h.cell 0 r rfl
    rw [hn] at hq
    cases hq

section
variable {W w w' : World} {L R Y : List Asn} {y p pp a b : Addr} {A B T T1 : List Tm} {n : Nat} {nw : Int} {sec sp sr sl : Sl} {ss : Nat → Sl} {st : MxS} {Z : List (Sl × List Int)} {secs l : List Int}

theorem PairAt.seen_put {s : Nat} {s' : Sl} {ys : List Int} (h : PairAt W w pp a b A B n (ownA s' ys :: (pmxL y sr ss st ++ Y))) (hs : s < 3) : Wr w ((y.add 1).add s) ∧
    PairAt W (w.setCell ((y.add 1).add s) (.slice s'.a s'.len s'.cap)) pp a b A B n (pmxL y sr (fun j => if j = s then s' else ss j) (seenAt st s ys) ++ Y) := by
  obtain ⟨M, h1, hr⟩ := h
  have h2 : At W w (ownA s' ys :: (pmxL y sr ss st ++ (Y ++ [prA pp a b M, arT a A, pgT b B]))) := h1.perm (by
    have := List.perm_append_comm (l₁ := [prA pp a b M, arT a A, pgT b B]) (l₂ := ownA s' ys :: (pmxL y sr ss st ++ Y))
    simpa [List.append_assoc] using this)
  obtain ⟨wr, h3⟩ := seen_putP h2 hs
  refine ⟨wr, M, h3.perm ?_, hr⟩
  have := List.perm_append_comm (l₁ := pmxL y sr (fun j => if j = s then s' else ss j) (seenAt st s ys) ++ Y) (l₂ := [prA pp a b M, arT a A, pgT b B])
  simpa [List.append_assoc] using this

end

end Go.Proofs.YtoclhecldmahiaaDoor
