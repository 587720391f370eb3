/-
  Nodes: the page's answers: contracts.
-/
import Derived.Test.YtnnpkjhpeefnbaaDoorNoC
set_option linter.unusedVariables false
set_option linter.unusedSimpArgs false
namespace Go.Proofs.YtnnpkjhpeefnbaaDoor
open Go.Lf Go.RowKit

theorem and_one_i64 (n : Nat) (h : n < 9223372036854775808) : Go.bits BinOp.and .i64 (n : Int) 1 = ((n % 2 : Nat) : Int) := by
  have h1 : (BitVec.ofInt 64 (n : Int)).toNat = n := by
    rw [BitVec.ofInt_natCast, BitVec.toNat_ofNat]; exact Nat.mod_eq_of_lt (by omega)
  have h2 : (BitVec.ofInt 64 (1 : Int)).toNat = 1 := by decide
  show IntKind.i64.wrap ((BitVec.ofInt 64 (n : Int) &&& BitVec.ofInt 64 (1 : Int)).toNat : Int) = _
  rw [BitVec.toNat_and, h1, h2, Nat.and_one_is_mod, w64 (by omega)]

theorem lev_zero : ∀ f : Nat, lev f 0 = 0
  | 0 => rfl
  | f + 1 => rfl

theorem lev_more : ∀ (f x : Nat), x < 2 ^ f → lev (f + 1) x = lev f x
  | 0, x, h => by
    have : x = 0 := by simpa using h
    subst this; rfl
  | f + 1, x, h => by
    have hp : 2 ^ (f + 1) = 2 * 2 ^ f := by rw [Nat.pow_succ, Nat.mul_comm]
    show (if x % 2 = 1 then lev (f + 1) (x / 2) + 1 else 0) = (if x % 2 = 1 then lev f (x / 2) + 1 else 0)
    rw [lev_more f (x / 2) (by omega)]

theorem ref_level_spec (x : Int) (h : x ≤ 9223372036854775807) (w : World) : CallsV Tryd.prog n_trystref15_Level #[.int .i64 x] w fun v w' => v = .int .i64 (levI x) ∧ w = w' := by
  refine trystref15_Level.lift ?_
  unfold trystref15_Level.main trystref15_Level.l1
  -- what is left of the number, and what was counted
  refine ⟨fun s w' => (∃ k : Nat, k ≤ 64 ∧ s.2 = k ∧ s.1 < 2 ^ (64 - k) ∧ levI x = k + (if s.1 ≤ 0 then 0 else (lev (64 - k) s.1.toNat : Int)) ∧ s.1 ≤ 9223372036854775807) ∧ w = w', fun s _ => s.1.toNat, ⟨⟨0, by omega, rfl, ?_, ?_, h⟩, rfl⟩, ?_⟩
  · have : (2 : Int) ^ (64 - 0) = 18446744073709551616 := by decide +kernel
    rw [this]; simp only; omega
  · unfold levI
    by_cases hx : x < 0
    · rw [if_pos hx, if_pos (by simp only; omega)]; rfl
    · rw [if_neg hx]
      by_cases h0 : x ≤ 0
      · rw [if_pos h0, show x.toNat = 0 by omega, lev_zero]; rfl
      · rw [if_neg h0]; simp
  rintro ⟨y, c⟩ _ ⟨⟨k, hk, hc, hy, he, hm⟩, rfl⟩
  dsimp only at hc hy he hm ⊢
  subst hc
  unfold trystref15_Level.b1
  refine cond_d (fun h0 => ?_) fun h0 => ?_
  · obtain ⟨n, rfl⟩ : ∃ n : Nat, y = n := ⟨y.toNat, by omega⟩
    rw [and_one_i64 n (by omega)]
    rw [if_neg (by omega), Int.toNat_natCast] at he
    obtain ⟨f, hf⟩ : ∃ f, 64 - k = f + 1 := by
      cases hh : 64 - k with
      | zero => rw [hh] at hy; simp at hy; omega
      | succ f => exact ⟨f, rfl⟩
    rw [hf] at he hy
    have hl : lev (f + 1) n = if n % 2 = 1 then lev f (n / 2) + 1 else 0 := rfl
    refine cond_e (fun h1 => ?_) fun h1 => ?_
    · unfold trystref15_Level.c2
      refine ⟨by omega, ?_⟩
      intro x0 k3
      have hx0 : x0 = ((n / 2 : Nat) : Int) := by
        show Int.fdiv (n : Int) (2 ^ (min (1 : Int).toNat IntKind.i64.bits)) = _
        have : (2 : Int) ^ (min (1 : Int).toNat IntKind.i64.bits) = 2 := by decide +kernel
        rw [this, Int.fdiv_eq_ediv_of_nonneg _ (by omega)]; omega
      have hk3 : k3 = ((k + 1 : Nat) : Int) := by show IntKind.i64.wrap _ = _; rw [w64 (by omega)]; omega
      clear_value x0 k3
      subst hx0 hk3
      rw [hl, if_pos (by omega)] at he
      refine ⟨⟨⟨k + 1, by omega, rfl, ?_, ?_, by omega⟩, rfl⟩, by (try dsimp only); omega⟩
      · have : 64 - (k + 1) = f := by omega
        rw [this]
        rw [Int.pow_succ] at hy
        omega
      · have : 64 - (k + 1) = f := by omega
        rw [this, he]
        by_cases h2 : ((n / 2 : Nat) : Int) ≤ 0
        · rw [if_pos h2, show n / 2 = 0 by omega, lev_zero]; omega
        · rw [if_neg h2, Int.toNat_natCast]; omega
    · rw [hl, if_neg (by omega)] at he
      refine ⟨?_, rfl⟩
      rw [he]; simp
  · rw [if_pos (by omega)] at he
    refine ⟨?_, rfl⟩
    rw [he]; simp

theorem ref_may_spec (n : Int) (w : World) : CallsV Tryd.prog n_trystref15_May #[.int .i64 n] w fun v w' => v = .bool (mayI n) ∧ w = w' := by
  refine trystref15_May.lift ?_
  unfold trystref15_May.main
  refine cond_e (fun h => ⟨by subst h; rfl, rfl⟩) fun h1 => cond_e (fun h => ⟨by subst h; rfl, rfl⟩) fun h2 => cond_e (fun h => ⟨by subst h; rfl, rfl⟩) fun h3 => ⟨?_, rfl⟩
  congr 1
  simp [mayI, h1, h2, h3]

def kidsI (x : Int) : Int × Int × Bool := if x < 0 ∨ 14 < x ∨ levI x = 0 then (0, 0, false) else (x - 2 ^ (levI x - 1).toNat, x + 2 ^ (levI x - 1).toNat, true)

theorem u64_small {n : Int} (h : 0 ≤ n ∧ n < 1000) : IntKind.u64.wrap n = n := by rw [IntKind.wrap_u64]; omega

theorem ref_kids_spec (x : Int) (h : x ≤ 9223372036854775807) (w : World) : CallsV Tryd.prog n_trystref15_Kids #[.int .i64 x] w fun v w' => v = .tuple #[.int .i64 (kidsI x).1, .int .i64 (kidsI x).2.1, .bool (kidsI x).2.2] ∧ w = w' := by
  refine trystref15_Kids.lift ?_
  unfold trystref15_Kids.main
  have bad : (x < 0 ∨ 14 < x ∨ levI x = 0) → kidsI x = (0, 0, false) := fun h => by rw [kidsI, if_pos h]
  refine (ref_level_spec x h w).mono ?_
  rintro _ _ ⟨rfl, rfl⟩
  refine ⟨_, rfl, cond_d (fun h => ⟨by rw [bad (.inl h)], rfl⟩) fun h1 => cond_d (fun h => ⟨by rw [bad (.inr (.inl (by omega)))], rfl⟩) fun h2 => cond_e (fun h => ⟨by rw [bad (.inr (.inr h))], rfl⟩) fun h3 => ?_⟩
  unfold trystref15_Kids.c1
  obtain ⟨l0, l5⟩ := lev_small (x := x) (by omega) (by omega)
  obtain ⟨p1, p2, p3⟩ := shl_small (l := levI x - 1) (by omega) (by omega)
  rw [w64 (n := levI x - 1) (by omega), u64_small (by omega), p1]
  have hk : kidsI x = (x - 2 ^ (levI x - 1).toNat, x + 2 ^ (levI x - 1).toNat, true) := by rw [kidsI, if_neg (by omega)]
  rw [hk]
  generalize (2 : Int) ^ (levI x - 1).toNat = q at *
  refine ⟨by omega, by omega, ?_⟩
  intro a b
  have ha : a = x - q := w64 (by omega)
  have hb : b = x + q := w64 (by omega)
  rw [ha, hb]
  exact ⟨rfl, rfl⟩

def kidOf (p x : Int) : Bool := (kidsI p).2.2 && ((kidsI p).1 == x || (kidsI p).2.1 == x)
theorem parent_fact : ∀ n ∈ [1, 2, 4, 8], ∀ x ∈ List.range (2 * n - 1), ∀ p ∈ List.range (2 * n - 1), (!kidOf ((p : Nat) : Int) ((x : Nat) : Int) || decide (parentI ((x : Nat) : Int) ((n : Nat) : Int) = (((p : Nat) : Int), 0))) = true := by decide +kernel
theorem orphan_fact : ∀ n ∈ [1, 2, 4, 8], ∀ x ∈ List.range (2 * n - 1), ((List.range (2 * n - 1)).any (fun p => kidOf ((p : Nat) : Int) ((x : Nat) : Int)) || decide (parentI ((x : Nat) : Int) ((n : Nat) : Int) = (0, 1))) = true := by decide +kernel

end Go.Proofs.YtnnpkjhpeefnbaaDoor
