/-
  Nodes: places in a full tree: contracts.
-/
import Derived.Test.YtnnpkjhpeefnbaaDoorLiftMem
import Derived.Test.YtnnpkjhpeefnbaaDoorNoFns
import Derived.Laws.Bits64b
import Derived.Lib.LaidTab
set_option linter.unusedVariables false
set_option linter.unusedSimpArgs false
namespace Go.Proofs.YtnnpkjhpeefnbaaDoor
open Go.Lf Go.RowKit

/-! bits -/

theorem and_bit (a b r s : Nat) (hr : r < 2) (hs : s < 2) : (2 * a + r) &&& (2 * b + s) = 2 * (a &&& b) + r * s := by
  apply Nat.eq_of_testBit_eq
  intro i
  cases i with
  | zero =>
    simp only [Nat.testBit_and, Nat.testBit_zero]
    have : r = 0 ∨ r = 1 := by omega
    have : s = 0 ∨ s = 1 := by omega
    rcases ‹r = 0 ∨ r = 1› with rfl | rfl <;> rcases ‹s = 0 ∨ s = 1› with rfl | rfl <;> simp <;> omega
  | succ i =>
    rw [Nat.testBit_and]
    simp only [Nat.testBit_succ]
    have h1 : (2 * a + r) / 2 = a := by omega
    have h2 : (2 * b + s) / 2 = b := by omega
    have : r * s < 2 := by
      have : r = 0 ∨ r = 1 := by omega
      rcases this with rfl | rfl <;> omega
    have h3 : (2 * (a &&& b) + r * s) / 2 = a &&& b := by omega
    rw [h1, h2, h3, Nat.testBit_and]

theorem and_compl : ∀ (n m : Nat), m < 2 ^ n → m &&& (2 ^ n - 1 - m) = 0
  | 0, m, h => by
    have : m = 0 := by simpa using h
    subst this; rfl
  | n + 1, m, h => by
    have hp : 2 ^ (n + 1) = 2 * 2 ^ n := by rw [Nat.pow_succ, Nat.mul_comm]
    have e1 : m = 2 * (m / 2) + m % 2 := by omega
    have e2 : 2 ^ (n + 1) - 1 - m = 2 * (2 ^ n - 1 - m / 2) + (1 - m % 2) := by omega
    have ih := and_compl n (m / 2) (by omega)
    rw [e2]
    conv => lhs; lhs; rw [e1]
    rw [and_bit _ _ _ _ (by omega) (by omega), ih]
    have : m % 2 = 0 ∨ m % 2 = 1 := by omega
    rcases this with h | h <;> rw [h]

/-- the lowest one -/
theorem and_neg : ∀ (n y : Nat), 0 < y → y < 2 ^ n → ∃ k, k < n ∧ y &&& (2 ^ n - y) = 2 ^ k ∧ y % 2 ^ k = 0 ∧ y / 2 ^ k % 2 = 1
  | 0, y, h0, h => by simp at h; omega
  | n + 1, y, h0, h => by
    have hp : 2 ^ (n + 1) = 2 * 2 ^ n := by rw [Nat.pow_succ, Nat.mul_comm]
    by_cases ho : y % 2 = 1
    · refine ⟨0, by omega, ?_, by omega, by simpa using ho⟩
      have e1 : y = 2 * (y / 2) + 1 := by omega
      have e2 : 2 ^ (n + 1) - y = 2 * (2 ^ n - 1 - y / 2) + 1 := by omega
      rw [e2]
      conv => lhs; lhs; rw [e1]
      rw [and_bit _ _ _ _ (by omega) (by omega), and_compl n (y / 2) (by omega)]
    · obtain ⟨k, hk, h1, h2, h3⟩ := and_neg n (y / 2) (by omega) (by omega)
      have e1 : y = 2 * (y / 2) + 0 := by omega
      have e2 : 2 ^ (n + 1) - y = 2 * (2 ^ n - y / 2) + 0 := by omega
      have hpk : 2 ^ (k + 1) = 2 * 2 ^ k := by rw [Nat.pow_succ, Nat.mul_comm]
      refine ⟨k + 1, by omega, ?_, ?_, ?_⟩
      · rw [e2]
        conv => lhs; lhs; rw [e1]
        rw [and_bit _ _ _ _ (by omega) (by omega), h1, hpk]; omega
      · rw [hpk, Nat.mod_mul, h2]; omega
      · rw [hpk, ← Nat.div_div_eq_div_mul]; exact h3

/-- how many ones there are at the end -/
def lev : Nat → Nat → Nat
  | 0, _ => 0
  | f + 1, x => if x % 2 = 1 then lev f (x / 2) + 1 else 0

theorem lev_eq : ∀ (k f x : Nat), k < f → (2 ^ f - 1 - x) % 2 ^ k = 0 → (2 ^ f - 1 - x) / 2 ^ k % 2 = 1 → x < 2 ^ f → lev f x = k
  | 0, f, x, hk, h1, h2, hx => by
    obtain ⟨g, rfl⟩ : ∃ g, f = g + 1 := ⟨f - 1, by omega⟩
    have hp : 2 ^ (g + 1) = 2 * 2 ^ g := by rw [Nat.pow_succ, Nat.mul_comm]
    unfold lev
    rw [if_neg]
    simp only [Nat.pow_zero, Nat.div_one] at h2
    omega
  | k + 1, f, x, hk, h1, h2, hx => by
    obtain ⟨g, rfl⟩ : ∃ g, f = g + 1 := ⟨f - 1, by omega⟩
    have hp : 2 ^ (g + 1) = 2 * 2 ^ g := by rw [Nat.pow_succ, Nat.mul_comm]
    have hpk : 2 ^ (k + 1) = 2 * 2 ^ k := by rw [Nat.pow_succ, Nat.mul_comm]
    have hodd : x % 2 = 1 := by
      rw [hpk, Nat.mod_mul] at h1
      omega
    unfold lev
    rw [if_pos hodd]
    have he : (2 ^ (g + 1) - 1 - x) / 2 = 2 ^ g - 1 - x / 2 := by omega
    rw [hpk, Nat.mod_mul] at h1
    rw [hpk, ← Nat.div_div_eq_div_mul, he] at h2
    rw [he] at h1
    have := lev_eq k g (x / 2) (by omega) (by omega) h2 (by omega)
    rw [this]

theorem xor_compl : ∀ (n m : Nat), m < 2 ^ n → (2 ^ n - 1) ^^^ m = 2 ^ n - 1 - m := by
  intro n m h
  apply Nat.eq_of_testBit_eq
  intro i
  rw [Nat.testBit_xor, Nat.testBit_two_pow_sub_one, show 2 ^ n - 1 - m = 2 ^ n - (m + 1) by omega, Nat.testBit_two_pow_sub_succ h]
  cases hi : decide (i < n)
  · have : m.testBit i = false := Nat.testBit_lt_two_pow (Nat.lt_of_lt_of_le h (Nat.pow_le_pow_right (by omega) (by simpa using hi)))
    rw [this]; rfl
  · simp

def tab : List Int := [0, 1, 56, 2, 57, 49, 28, 3, 61, 58, 42, 50, 38, 29, 17, 4, 62, 47, 59, 36, 45, 43, 51, 22, 53, 39, 33, 30, 24, 18, 12, 5, 63, 55, 48, 27, 60, 41, 37, 16, 46, 35, 44, 21, 52, 32, 23, 11, 54, 26, 40, 15, 34, 20, 31, 10, 25, 14, 19, 9, 13, 8, 7, 6]
/-- the library's table lies there -/
def Tab (w : World) : Prop := ∀ i : Nat, i < 64 → w.cell? ((⟨0, 0, none⟩ : Addr).add i) = some (.int .u8 (tab[i]?.getD 0))

theorem tab_at : ∀ k : Nat, k < 64 → (2 ^ k * 285870213051353865 % 18446744073709551616) / 288230376151711744 < 64 ∧ tab[(2 ^ k * 285870213051353865 % 18446744073709551616) / 288230376151711744]?.getD 0 = (k : Int) := by decide +kernel

theorem p64 : (2 : Nat) ^ 64 = 18446744073709551616 := by decide +kernel
theorem p58 : (2 : Int) ^ (min (58 : Int).toNat IntKind.u64.bits) = ((288230376151711744 : Nat) : Int) := by decide +kernel
theorem i58 (q : Nat) : Int.fdiv ((q : Int) * 285870213051353865 % 18446744073709551616) ((288230376151711744 : Nat) : Int) = (((q * 285870213051353865 % 18446744073709551616) / 288230376151711744 : Nat) : Int) := by
  rw [Int.fdiv_eq_ediv_of_nonneg _ (by omega)]
  omega

theorem tz_ix {y k : Nat} (h0 : 0 < y) (h : y < 18446744073709551616) (hk : k < 64) (h1 : y &&& (18446744073709551616 - y) = 2 ^ k) :
    ∃ ix : Nat, Int.fdiv (IntKind.u64.wrap ((Go.bits BinOp.and .u64 (y : Int) (IntKind.u64.wrap (0 - (y : Int)))) * 285870213051353865)) (2 ^ (min (58 : Int).toNat IntKind.u64.bits)) = (ix : Int) ∧ ix < 64 ∧ tab[ix]?.getD 0 = (k : Int) := by
  obtain ⟨t1, t2⟩ := tab_at k hk
  refine ⟨_, ?_, t1, t2⟩
  clear t1 t2
  have e1 : IntKind.u64.wrap (0 - (y : Int)) = ((18446744073709551616 - y : Nat) : Int) := by clear h1; rw [IntKind.wrap_u64]; omega
  have e2 : 18446744073709551616 - y < 18446744073709551616 := by clear h1; omega
  rw [e1, bits_and_u64_nat _ _ h e2, h1, IntKind.wrap_u64, p58, i58]

theorem tz_run {w : World} {y : Int} {ix k : Nat} (hy : y ≠ 0) (he : Int.fdiv (IntKind.u64.wrap ((Go.bits BinOp.and .u64 y (IntKind.u64.wrap (0 - y))) * 285870213051353865)) (2 ^ (min (58 : Int).toNat IntKind.u64.bits)) = (ix : Int)) (hi : ix < 64) (hk : k < 64)
    (hc : w.cell? ((⟨0, 0, none⟩ : Addr).add ix) = some (.int .u8 k)) : CallsV Tryd.prog n_bits_TrailingZeros64 #[.int .u64 y] w fun v w' => v = .int .i64 k ∧ w = w' := by
  refine bits_TrailingZeros64.lift ?_
  unfold bits_TrailingZeros64.main
  rw [he]
  refine cond_e (fun hh => absurd hh hy) fun _ => ?_
  refine ⟨by decide, by omega, by omega, (k : Int), ?_, ?_⟩
  · rw [Int.toNat_natCast]; exact hc
  · rw [w64 (by omega)]; exact ⟨rfl, rfl⟩

theorem tz_spec {w : World} (ht : Tab w) {y : Nat} (h0 : 0 < y) (h : y < 18446744073709551616) : CallsV Tryd.prog n_bits_TrailingZeros64 #[.int .u64 y] w fun v w' => (∃ k : Nat, v = .int .i64 k ∧ k < 64 ∧ y % 2 ^ k = 0 ∧ y / 2 ^ k % 2 = 1) ∧ w = w' := by
  obtain ⟨k, hk, h1, h2, h3⟩ := and_neg 64 y h0 (by rw [p64]; exact h)
  rw [p64] at h1
  obtain ⟨ix, he, hi, hx⟩ := tz_ix h0 h hk h1
  have hc := ht _ hi
  rw [hx] at hc
  refine (tz_run (by clear h1 h2 h3 he hx; omega) he hi hk hc).mono ?_
  rintro _ _ ⟨rfl, rfl⟩
  exact ⟨⟨k, rfl, hk, h2, h3⟩, rfl⟩

theorem level_spec {w : World} (ht : Tab w) {x : Int} (h : x ≤ 9223372036854775807) : CallsV Tryd.prog n_nodes_Level #[.int .i64 x] w fun v w' => v = .int .i64 (if x < 0 then 0 else (lev 64 x.toNat : Int)) ∧ w = w' := by
  refine nodes_Level.lift ?_
  unfold nodes_Level.main
  refine cond_d (fun hx => ⟨by rw [if_pos hx], rfl⟩) fun hx => ?_
  obtain ⟨n, rfl⟩ : ∃ n : Nat, x = n := ⟨x.toNat, by omega⟩
  have e : Go.bits BinOp.xor .u64 (if IntKind.u64.signed = true then -1 else IntKind.u64.max) (IntKind.u64.wrap (n : Int)) = ((18446744073709551615 - n : Nat) : Int) := by
    rw [IntKind.wrap_u64, show (n : Int) % 18446744073709551616 = ((n : Nat) : Int) by omega, show (if IntKind.u64.signed = true then -1 else IntKind.u64.max) = ((18446744073709551615 : Nat) : Int) by decide]
    rw [bits_xor_u64_nat _ _ (by omega) (by omega)]
    have := xor_compl 64 n (by rw [p64]; omega)
    rw [p64] at this
    rw [show 18446744073709551615 = 18446744073709551616 - 1 from rfl, this]
  rw [e]
  refine (tz_spec ht (by omega) (by omega)).mono ?_
  rintro _ _ ⟨⟨k, rfl, hk, h1, h2⟩, rfl⟩
  refine ⟨_, rfl, ?_, rfl⟩
  rw [if_neg hx, Int.toNat_natCast, lev_eq k 64 n hk h1 h2 (by omega)]

end Go.Proofs.YtnnpkjhpeefnbaaDoor
