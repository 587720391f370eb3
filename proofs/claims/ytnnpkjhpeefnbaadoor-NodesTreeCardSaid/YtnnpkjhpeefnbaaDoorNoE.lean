/-
  Nodes: the page's parents, siblings, and what is beneath: contracts.
-/
import Derived.Test.YtnnpkjhpeefnbaaDoorNoD
set_option linter.unusedVariables false
set_option linter.unusedSimpArgs false
namespace Go.Proofs.YtnnpkjhpeefnbaaDoor
open Go.Lf Go.RowKit

theorem may_nat {n : Int} (h : mayI n = true) : ∃ m : Nat, n = m ∧ m ∈ [1, 2, 4, 8] := by
  rcases mayI_cases h with rfl | rfl | rfl | rfl
  · exact ⟨1, rfl, by simp⟩
  · exact ⟨2, rfl, by simp⟩
  · exact ⟨4, rfl, by simp⟩
  · exact ⟨8, rfl, by simp⟩

theorem inc {k : Nat} (h : k < 9223372036854775807) : IntKind.i64.wrap ((k : Int) + 1) = ((k + 1 : Nat) : Int) := by rw [w64 (by omega)]; omega

theorem ref_parent_spec (x n : Int) (hx : x ≤ 9223372036854775807) (w : World) : CallsV Tryd.prog n_trystref15_Parent #[.int .i64 x, .int .i64 n] w fun v w' => v = .tuple #[.int .i64 (parentI x n).1, .bool ((parentI x n).2 == 0)] ∧ w = w' := by
  refine trystref15_Parent.lift ?_
  unfold trystref15_Parent.main
  have bad : (mayI n = false ∨ x < 0 ∨ 2 * n - 2 < x ∨ x = n - 1) → parentI x n = (0, 1) := fun h => by rw [parentI, if_pos h]
  refine (ref_may_spec n w).mono ?_
  rintro _ _ ⟨rfl, rfl⟩
  refine ⟨_, rfl, cond_not (fun h => ⟨by rw [bad (.inl h)]; rfl, rfl⟩) fun hm => cond_d (fun h => ⟨by rw [bad (.inr (.inl h))]; rfl, rfl⟩) fun h1 => ?_⟩
  obtain ⟨m, rfl, hmem⟩ := may_nat hm
  have hm8 : 1 ≤ m ∧ m ≤ 8 := by simp at hmem; omega
  rw [w64 (n := 2 * (m : Int)) (by omega), w64 (n := 2 * (m : Int) - 2) (by omega)]
  refine cond_d (fun h => ⟨by rw [bad (.inr (.inr (.inl (by omega))))]; rfl, rfl⟩) fun h2 => ?_
  obtain ⟨y, rfl⟩ : ∃ y : Nat, x = y := ⟨x.toNat, by omega⟩
  unfold trystref15_Parent.c2 trystref15_Parent.l1
  refine ⟨fun p w' => (∃ k : Nat, p = k ∧ k ≤ 2 * m - 1 ∧ ∀ j, j < k → kidOf ((j : Nat) : Int) y = false) ∧ w = w', fun p _ => 20 - p.toNat, ⟨⟨0, rfl, by omega, fun j hj => by omega⟩, rfl⟩, ?_⟩
  rintro _ _ ⟨⟨k, rfl, hk, hj⟩, rfl⟩
  unfold trystref15_Parent.b1
  rw [w64 (n := 2 * (m : Int)) (by omega), w64 (n := 2 * (m : Int) - 2) (by omega)]
  refine cond_d (fun h3 => ?_) fun h3 => ?_
  · refine (ref_kids_spec k (by omega) w).mono ?_
    rintro _ _ ⟨rfl, rfl⟩
    have hit : kidOf ((k : Nat) : Int) y = true → parentI (y : Int) (m : Int) = ((k : Int), 0) := by
      intro hh
      have := parent_fact m hmem y (by simp; omega) k (by simp; omega)
      rw [hh] at this
      simpa using this
    have miss : kidOf ((k : Nat) : Int) y = false → ∀ q : Int, q = IntKind.i64.wrap ((k : Int) + 1) →
        ((y : Int) = y ∧ (m : Int) = m ∧ (∃ k' : Nat, q = k' ∧ k' ≤ 2 * m - 1 ∧ ∀ j, j < k' → kidOf ((j : Nat) : Int) y = false) ∧ w = w) ∧ 20 - q.toNat < 20 - (k : Int).toNat := by
      intro hh q hq
      rw [inc (by omega)] at hq
      subst hq
      refine ⟨⟨rfl, rfl, ⟨k + 1, rfl, by omega, fun j hj' => ?_⟩, rfl⟩, by omega⟩
      by_cases he : j = k
      · subst he; exact hh
      · exact hj j (by omega)
    refine ⟨_, _, _, rfl, cond_c (fun hb => cond_e (fun he => ?_) fun hne => cond_e (fun he => ?_) fun hne2 => ?_) fun hb => ?_⟩
    · rw [hit (by unfold kidOf; rw [hb, he]; simp)]; exact ⟨rfl, rfl⟩
    · rw [hit (by unfold kidOf; rw [hb, he]; simp)]; exact ⟨rfl, rfl⟩
    · exact miss (by unfold kidOf; rw [hb]; simp [hne, hne2]) _ rfl
    · exact miss (by unfold kidOf; rw [hb]; rfl) _ rfl
  · have := orphan_fact m hmem y (by simp; omega)
    have hno : (List.range (2 * m - 1)).any (fun p => kidOf ((p : Nat) : Int) ((y : Nat) : Int)) = false := by
      rw [List.any_eq_false]
      intro j hj'
      rw [hj j (by simp at hj'; omega)]; simp
    rw [hno] at this
    have hp : parentI ((y : Nat) : Int) ((m : Nat) : Int) = (0, 1) := by simpa using this
    rw [hp]
    exact ⟨rfl, rfl⟩

end Go.Proofs.YtnnpkjhpeefnbaaDoor
