/-
  Nodes: siblings, what is beneath, paths: contracts.
-/
import Derived.Test.YtnnpkjhpeefnbaaDoorNoB
set_option linter.unusedVariables false
set_option linter.unusedSimpArgs false
namespace Go.Proofs.YtnnpkjhpeefnbaaDoor
open Go.Lf Go.RowKit

theorem parentI_range {x n : Int} (h : (parentI x n).2 = 0) : 0 ≤ x ∧ x ≤ 14 ∧ -200 ≤ (parentI x n).1 ∧ (parentI x n).1 ≤ 200 := by
  unfold parentI at h ⊢
  by_cases hb : mayI n = false ∨ x < 0 ∨ 2 * n - 2 < x ∨ x = n - 1
  · rw [if_pos hb] at h; simp at h
  · rw [if_neg hb]
    have hm : mayI n = true := by cases hh : mayI n with
      | true => rfl
      | false => exact absurd (.inl hh) hb
    have hn := mayI_cases hm
    obtain ⟨l0, l5⟩ := lev_small (x := x) (by omega) (by omega)
    obtain ⟨_, p2, p3⟩ := shl_small (l := levI x) (by omega) (by omega)
    refine ⟨by omega, by omega, ?_⟩
    split
    · simp only; omega
    · simp only; omega

theorem parentI_err (x n : Int) : (parentI x n).2 = 0 ∨ parentI x n = (0, 1) := by
  unfold parentI
  split
  · exact .inr rfl
  · left; split <;> rfl

theorem sibling_spec {w : World} (ht : Tab w) (x n : Int) (hx : x ≤ 9223372036854775807) : CallsV Tryd.prog n_nodes_Sibling #[.int .i64 x, .int .i64 n] w fun v w' => v = .tuple #[.int .i64 (siblingI x n).1, .int .i64 (siblingI x n).2] ∧ w = w' := by
  refine nodes_Sibling.lift ?_
  unfold nodes_Sibling.main
  refine (parent_spec ht x n hx).mono ?_
  rintro _ _ ⟨rfl, rfl⟩
  refine ⟨_, _, rfl, cond_n (fun h => ?_) fun h => ?_⟩
  · rcases parentI_err x n with h1 | h1
    · exact absurd h1 h
    · rw [siblingI, h1]; exact ⟨rfl, rfl⟩
  · intro t
    obtain ⟨h1, h2, h3, h4⟩ := parentI_range h
    have : t = 2 * (parentI x n).1 - x := by
      show IntKind.i64.wrap _ = _
      rw [w64 (n := 2 * (parentI x n).1) (by omega), w64 (by omega)]
    rw [siblingI, if_pos h, this]
    exact ⟨rfl, rfl⟩

theorem has_spec {w : World} (ht : Tab w) (x i : Int) : CallsV Tryd.prog n_nodes_Has #[.int .i64 x, .int .i64 i] w fun v w' => v = .bool (hasI x i) ∧ w = w' := by
  refine nodes_Has.lift ?_
  unfold nodes_Has.main
  refine cond_d (fun h => ⟨by congr 1; simp [hasI]; omega, rfl⟩) fun h1 => cond_d (fun h => ⟨by congr 1; simp [hasI]; omega, rfl⟩) fun h2 => cond_d (fun h => ⟨by congr 1; simp [hasI]; omega, rfl⟩) fun h3 => cond_d (fun h => ⟨by congr 1; simp [hasI]; omega, rfl⟩) fun h4 => ?_
  unfold nodes_Has.c1
  refine (levelI_spec ht (by omega)).mono ?_
  rintro _ _ ⟨rfl, rfl⟩
  obtain ⟨l0, l5⟩ := lev_small (x := x) (by omega) (by omega)
  obtain ⟨p1, p2, p3⟩ := shl_small (l := levI x) (by omega) (by omega)
  refine ⟨_, rfl, l0, ?_⟩
  rw [p1]
  have hh : hasI x i = (decide (x - (2 ^ (levI x).toNat - 1) ≤ 2 * i) && decide (2 * i ≤ x + (2 ^ (levI x).toNat - 1))) := by
    unfold hasI
    rw [decide_eq_true (show 0 ≤ x by omega), decide_eq_true (show 0 ≤ i by omega), decide_eq_true (show x ≤ 16 by omega), decide_eq_true (show i ≤ 16 by omega)]; rfl
  rw [hh]
  generalize (2 : Int) ^ (levI x).toNat = q at *
  intro far
  have hf : far = q - 1 := w64 (by omega)
  clear_value far
  subst hf
  rw [w64 (n := 2 * i) (by omega), w64 (n := x - (q - 1)) (by omega), w64 (n := x + (q - 1)) (by omega)]
  refine cond_d (fun h => ?_) fun h => ?_
  · rw [decide_eq_true (show x - (q - 1) ≤ 2 * i from h)]
    exact ⟨rfl, rfl⟩
  · rw [decide_eq_false (show ¬ x - (q - 1) ≤ 2 * i from h)]
    exact ⟨rfl, rfl⟩

end Go.Proofs.YtnnpkjhpeefnbaaDoor
