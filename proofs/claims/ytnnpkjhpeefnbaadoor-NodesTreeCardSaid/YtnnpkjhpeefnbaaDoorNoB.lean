/-
  Nodes: children, parents, siblings: contracts.
-/
import Derived.Test.YtnnpkjhpeefnbaaDoorNoA
set_option linter.unusedVariables false
set_option linter.unusedSimpArgs false
namespace Go.Proofs.YtnnpkjhpeefnbaaDoor
open Go.Lf Go.RowKit

def levI (x : Int) : Int := if x < 0 then 0 else (lev 64 x.toNat : Int)
def mayI (n : Int) : Bool := n == 1 || n == 2 || n == 4 || n == 8
def rootI (n : Int) : Int := if mayI n = true then n - 1 else 0
def childI (x s : Int) : Int × Int := if x < 0 ∨ 14 < x ∨ levI x = 0 then (0, 1) else (x + s * 2 ^ (levI x - 1).toNat, 0)
def parentI (x n : Int) : Int × Int := if mayI n = false ∨ x < 0 ∨ 2 * n - 2 < x ∨ x = n - 1 then (0, 1) else
  if levI (x + 2 ^ (levI x).toNat) = levI x + 1 then (x + 2 ^ (levI x).toNat, 0) else (x - 2 ^ (levI x).toNat, 0)
def siblingI (x n : Int) : Int × Int := if (parentI x n).2 = 0 then (2 * (parentI x n).1 - x, 0) else (0, 1)
def hasI (x i : Int) : Bool := decide (0 ≤ x) && decide (0 ≤ i) && decide (x ≤ 16) && decide (i ≤ 16) && decide (x - (2 ^ (levI x).toNat - 1) ≤ 2 * i) && decide (2 * i ≤ x + (2 ^ (levI x).toNat - 1))

theorem levelI_spec {w : World} (ht : Tab w) {x : Int} (h : x ≤ 9223372036854775807) : CallsV Tryd.prog n_nodes_Level #[.int .i64 x] w fun v w' => v = .int .i64 (levI x) ∧ w = w' := level_spec ht h

theorem may_bits0 : ∀ n ∈ [1, 2, 3, 4, 5, 6, 7, 8], ((Go.bits BinOp.and .i64 ((n : Nat) : Int) (IntKind.i64.wrap (((n : Nat) : Int) - 1))) == 0) = mayI ((n : Nat) : Int) := by decide +kernel
theorem may_bits (n : Nat) (h1 : 1 ≤ n) (h8 : n ≤ 8) : ((Go.bits BinOp.and .i64 (n : Int) (IntKind.i64.wrap ((n : Int) - 1))) == 0) = mayI n := may_bits0 n (by simp; omega)

theorem may_spec (n : Int) (w : World) : CallsV Tryd.prog n_nodes_May #[.int .i64 n] w fun v w' => v = .bool (mayI n) ∧ w = w' := by
  refine nodes_May.lift ?_
  unfold nodes_May.main
  refine cond_d (fun h1 => cond_d (fun h2 => ?_) fun h2 => ⟨?_, rfl⟩) fun h1 => ⟨?_, rfl⟩
  · intro t
    obtain ⟨m, rfl⟩ : ∃ m : Nat, n = m := ⟨n.toNat, by omega⟩
    exact ⟨congrArg Value.bool (may_bits m (by omega) (by omega)), rfl⟩
  · congr 1; simp [mayI]; omega
  · congr 1; simp [mayI]; omega

theorem mayI_cases {n : Int} (h : mayI n = true) : n = 1 ∨ n = 2 ∨ n = 4 ∨ n = 8 := by
  simp [mayI] at h; omega

theorem root_spec (n : Int) (w : World) : CallsV Tryd.prog n_nodes_Root #[.int .i64 n] w fun v w' => v = .int .i64 (rootI n) ∧ w = w' := by
  refine nodes_Root.lift ?_
  unfold nodes_Root.main
  refine (may_spec n w).mono ?_
  rintro _ _ ⟨rfl, rfl⟩
  refine ⟨_, rfl, cond_not (fun h => ⟨by rw [rootI, h]; rfl, rfl⟩) fun h => ?_⟩
  intro t
  have := mayI_cases h
  exact ⟨by rw [rootI, h, if_pos rfl]; congr 1; show IntKind.i64.wrap _ = _; rw [w64 (by omega)], rfl⟩

theorem levI_small : ∀ x ∈ List.range 40, 0 ≤ levI (x : Nat) ∧ levI (x : Nat) ≤ 5 ∧ (levI (x : Nat)).toNat = levI (x : Nat) := by decide +kernel

theorem lev_small {x : Int} (h0 : 0 ≤ x) (h : x < 40) : 0 ≤ levI x ∧ levI x ≤ 5 := by
  obtain ⟨n, rfl⟩ : ∃ n : Nat, x = n := ⟨x.toNat, by omega⟩
  have := levI_small n (by simp; omega)
  exact ⟨this.1, this.2.1⟩

theorem pow_small : ∀ l ∈ List.range 8, IntKind.i64.wrap (1 * 2 ^ (min ((l : Nat) : Int).toNat IntKind.i64.bits)) = 2 ^ l ∧ (2 : Int) ^ l ≤ 128 ∧ (1 : Int) ≤ 2 ^ l := by decide +kernel

theorem shl_small {l : Int} (h0 : 0 ≤ l) (h : l < 8) : IntKind.i64.wrap (1 * 2 ^ (min l.toNat IntKind.i64.bits)) = 2 ^ l.toNat ∧ (2 : Int) ^ l.toNat ≤ 128 ∧ (1 : Int) ≤ 2 ^ l.toNat := by
  obtain ⟨n, rfl⟩ : ∃ n : Nat, l = n := ⟨l.toNat, by omega⟩
  have := pow_small n (by simp; omega)
  rw [Int.toNat_natCast] at this ⊢
  exact this

theorem child_spec {w : World} (ht : Tab w) (x s : Int) (hs : s = 1 ∨ s = -1) : CallsV Tryd.prog n_nodes_child #[.int .i64 x, .int .i64 s] w fun v w' => v = .tuple #[.int .i64 (childI x s).1, .int .i64 (childI x s).2] ∧ w = w' := by
  refine nodes_child.lift ?_
  unfold nodes_child.main
  have bad : (x < 0 ∨ 14 < x ∨ levI x = 0) → childI x s = (0, 1) := fun h => by rw [childI, if_pos h]
  refine cond_d (fun h => ⟨by rw [bad (.inl h)], rfl⟩) fun h1 => cond_d (fun h => ⟨by rw [bad (.inr (.inl (by omega)))], rfl⟩) fun h2 => ?_
  refine (levelI_spec ht (by omega)).mono ?_
  rintro _ _ ⟨rfl, rfl⟩
  refine ⟨_, rfl, cond_e (fun h => ⟨by rw [bad (.inr (.inr h))], rfl⟩) fun h3 => ?_⟩
  unfold nodes_child.c1
  refine (levelI_spec ht (by omega)).mono ?_
  rintro _ _ ⟨rfl, rfl⟩
  obtain ⟨l0, l5⟩ := lev_small (x := x) (by omega) (by omega)
  refine ⟨_, rfl, ?_⟩
  have e1 : IntKind.i64.wrap (levI x - 1) = levI x - 1 := w64 (by omega)
  rw [e1]
  obtain ⟨p1, p2, p3⟩ := shl_small (l := levI x - 1) (by omega) (by omega)
  rw [p1]
  refine ⟨by omega, ?_⟩
  intro t
  refine ⟨?_, rfl⟩
  rw [childI, if_neg (by omega)]
  have ht : t = x + s * 2 ^ (levI x - 1).toNat := by
    show IntKind.i64.wrap _ = _
    generalize (2 : Int) ^ (levI x - 1).toNat = q at *
    rcases hs with rfl | rfl
    · rw [w64 (n := 1 * q) (by omega), w64 (by omega)]
    · rw [w64 (n := -1 * q) (by omega), w64 (by omega)]
  rw [ht]

theorem left_spec {w : World} (ht : Tab w) (x : Int) : CallsV Tryd.prog n_nodes_Left #[.int .i64 x] w fun v w' => v = .tuple #[.int .i64 (childI x (-1)).1, .int .i64 (childI x (-1)).2] ∧ w = w' := by
  refine nodes_Left.lift ?_
  unfold nodes_Left.main
  refine (child_spec ht x (-1) (.inr rfl)).mono ?_
  rintro _ _ ⟨rfl, rfl⟩
  exact ⟨_, _, rfl, rfl, rfl⟩
theorem right_spec {w : World} (ht : Tab w) (x : Int) : CallsV Tryd.prog n_nodes_Right #[.int .i64 x] w fun v w' => v = .tuple #[.int .i64 (childI x 1).1, .int .i64 (childI x 1).2] ∧ w = w' := by
  refine nodes_Right.lift ?_
  unfold nodes_Right.main
  refine (child_spec ht x 1 (.inl rfl)).mono ?_
  rintro _ _ ⟨rfl, rfl⟩
  exact ⟨_, _, rfl, rfl, rfl⟩

theorem parent_spec {w : World} (ht : Tab w) (x n : Int) (hx : x ≤ 9223372036854775807) : CallsV Tryd.prog n_nodes_Parent #[.int .i64 x, .int .i64 n] w fun v w' => v = .tuple #[.int .i64 (parentI x n).1, .int .i64 (parentI x n).2] ∧ w = w' := by
  refine nodes_Parent.lift ?_
  unfold nodes_Parent.main
  have bad : (mayI n = false ∨ x < 0 ∨ 2 * n - 2 < x ∨ x = n - 1) → parentI x n = (0, 1) := fun h => by rw [parentI, if_pos h]
  refine (may_spec n w).mono ?_
  rintro _ _ ⟨rfl, rfl⟩
  refine ⟨_, rfl, cond_not (fun h => ⟨by rw [bad (.inl h)], rfl⟩) fun hm => cond_d (fun h => ⟨by rw [bad (.inr (.inl h))], rfl⟩) fun h1 => ?_⟩
  have hn := mayI_cases hm
  rw [w64 (n := 2 * n) (by omega), w64 (n := 2 * n - 2) (by omega)]
  refine cond_d (fun h => ⟨by rw [bad (.inr (.inr (.inl (by omega))))], rfl⟩) fun h2 => ?_
  refine (root_spec n w).mono ?_
  rintro _ _ ⟨rfl, rfl⟩
  have hr : rootI n = n - 1 := by rw [rootI, if_pos hm]
  rw [hr]
  refine ⟨_, rfl, cond_e (fun h => ⟨by rw [bad (.inr (.inr (.inr h)))], rfl⟩) fun h3 => ?_⟩
  unfold nodes_Parent.c1
  refine (levelI_spec ht (by omega)).mono ?_
  rintro _ _ ⟨rfl, rfl⟩
  obtain ⟨l0, l5⟩ := lev_small (x := x) (by omega) (by omega)
  obtain ⟨p1, p2, p3⟩ := shl_small (l := levI x) (by omega) (by omega)
  refine ⟨_, rfl, l0, ?_⟩
  rw [p1]
  intro step
  have hstep : step = 2 ^ (levI x).toNat := rfl
  have e1 : IntKind.i64.wrap (x + step) = x + step := w64 (by rw [hstep]; omega)
  rw [e1]
  refine (levelI_spec ht (by rw [hstep]; omega)).mono ?_
  rintro _ _ ⟨rfl, rfl⟩
  refine ⟨_, rfl, ?_⟩
  refine (levelI_spec ht (by omega)).mono ?_
  rintro _ _ ⟨rfl, rfl⟩
  refine ⟨_, rfl, ?_⟩
  rw [w64 (n := levI x + 1) (by omega)]
  have hp : parentI x n = if levI (x + step) = levI x + 1 then (x + step, 0) else (x - step, 0) := by
    rw [parentI, if_neg (by rw [hm]; simp; omega), hstep]
  rw [hp]
  refine cond_e (fun h => ?_) fun h => ?_
  · intro t
    rw [if_pos h]
    exact ⟨rfl, rfl⟩
  · intro t
    rw [if_neg h]
    have : t = x - step := by show IntKind.i64.wrap _ = _; rw [w64 (by rw [hstep]; omega)]
    rw [this]
    exact ⟨rfl, rfl⟩

end Go.Proofs.YtnnpkjhpeefnbaaDoor
