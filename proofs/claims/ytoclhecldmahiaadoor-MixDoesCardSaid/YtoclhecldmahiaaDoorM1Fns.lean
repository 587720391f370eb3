/-
  What the code of these functions comes to, and that it suffices for the call. Written by a program of ours, for this claim.
-/
import Derived.Test.YtoclhecldmahiaaDoorMcFns
set_option linter.unusedVariables false
set_option linter.unusedVariables false
namespace Go.Proofs.YtoclhecldmahiaaDoor
open Go.Lf
abbrev n_trystlaw24_MixOnce : Nat := 6
abbrev n_trystlaw24_MixDrops : Nat := 7
abbrev n_trystkeep_Regs : Nat := 52
/-! trystlaw24_MixOnce -/
def trystlaw24_MixOnce.c1 (R : Value → World → Prop) (w : World) : Prop :=
  CallsV Tryd.prog n_trystlaw24_wakes #[] w (fun v_1 w1 =>
  ∃ b_2 : Bool, v_1 = .bool b_2 ∧
  R (.bool b_2) w1)

def trystlaw24_MixOnce.c3 (R : Value → World → Prop) (N2 : Sl → Option Addr → Int → Int → Int → Sl → Sl → Int → World → Prop) (asks1 : Sl) (a5 : Option Addr) (put6 : Int) (get8 : Int) (none10 : Int) (st12 : Sl) (first13 : Sl) (i14 : Int) (e17 : Int) (next22 : Sl) (out23 : Sl) (want24 : Int) (w : World) : Prop :=
  cond ((e17 : Int) != 0)
  (R (.bool false) w)
  (cond ((((out23.len : Nat) : Int) : Int) != 1)
  (R (.bool false) w)
  (0 ≤ (0 : Int) ∧ 0 < ((out23.len : Nat) : Int) ∧ ∃ q_3 : Addr, out23.a = some q_3 ∧
  ∃ x_4 : Int, w.cell? (q_3.add (0 : Int).toNat) = some (.int .i64 x_4) ∧
  cond ((x_4 : Int) != want24)
  (R (.bool false) w)
  (cond (decide ((((next22.len : Nat) : Int) : Int) < ((st12.len : Nat) : Int)))
  (R (.bool false) w)
  (0 ≤ ((0 : Int) : Int) ∧ ((0 : Int) : Int) ≤ ((st12.len : Nat) : Int) ∧ (((st12.len : Nat) : Int) : Int) ≤ ((next22.cap : Nat) : Int) ∧ (((next22.cap : Nat) : Int) : Int) ≤ ((next22.cap : Nat) : Int) ∧
  CallsV Tryd.prog n_trystkeep_Regs #[.slice (if ((((next22.cap : Nat) : Int) : Int)).toNat = (((0 : Int) : Int)).toNat then next22.a else (next22.a).map (·.add ((((0 : Int) : Int)).toNat * 2))) (((((st12.len : Nat) : Int) : Int)).toNat - (((0 : Int) : Int)).toNat) (((((next22.cap : Nat) : Int) : Int)).toNat - (((0 : Int) : Int)).toNat), .slice st12.a st12.len st12.cap] w (fun v_5 w2 =>
  ∃ b_6 : Bool, v_5 = .bool b_6 ∧
  cond (!b_6)
  (R (.bool false) w2)
  ((let i14_6 : Int := (IntKind.i64.wrap (i14 + 1));
  N2 asks1 a5 put6 get8 none10 first13 next22 i14_6 w2)))))))

def trystlaw24_MixOnce.c4 (R : Value → World → Prop) (N2 : Sl → Option Addr → Int → Int → Int → Sl → Sl → Int → World → Prop) (asks1 : Sl) (a5 : Option Addr) (put6 : Int) (get8 : Int) (none10 : Int) (st12 : Sl) (first13 : Sl) (i14 : Int) (k15 : Int) (x20 : Int) (w : World) : Prop :=
  let w3 := w.alloc (.cells #[.int .i64 x20] 3);
  CallsV Tryd.prog n_mix_Do #[.pointer a5, .slice st12.a st12.len st12.cap, .slice (some (newA w)) 1 1] w3 (fun v_8 w4 =>
  ∃ (a_9 : Option Addr) (l_10 c_11 : Nat), ∃ (a_12 : Option Addr) (l_13 c_14 : Nat), ∃ x_15 : Int, v_8 = .tuple #[.slice a_9 l_10 c_11, .slice a_12 l_13 c_14, .int .i64 x_15] ∧
  0 ≤ (k15 : Int) ∧ k15 < ((first13.len : Nat) : Int) ∧ ∃ q_16 : Addr, first13.a = some q_16 ∧
  ∃ x_17 : Int, w4.cell? (q_16.add (k15 : Int).toNat) = some (.int .i64 x_17) ∧
  cond ((x_17 : Int) == 0)
  (trystlaw24_MixOnce.c3 R N2 asks1 a5 put6 get8 none10 st12 first13 i14 x_15 ⟨a_9, l_10, c_11⟩ ⟨a_12, l_13, c_14⟩ none10 w4)
  (trystlaw24_MixOnce.c3 R N2 asks1 a5 put6 get8 none10 st12 first13 i14 x_15 ⟨a_9, l_10, c_11⟩ ⟨a_12, l_13, c_14⟩ x_17 w4))

def trystlaw24_MixOnce.c5 (R : Value → World → Prop) (N2 : Sl → Option Addr → Int → Int → Int → Sl → Sl → Int → World → Prop) (asks1 : Sl) (a5 : Option Addr) (put6 : Int) (get8 : Int) (none10 : Int) (st12 : Sl) (first13 : Sl) (i14 : Int) (k15 : Int) (e17 : Int) (f19 : Int) (x20 : Int) (g21 : Int) (w : World) : Prop :=
  cond ((e17 : Int) != 0)
  (R (.bool false) w)
  (cond ((f19 : Int) != 0)
  (R (.bool false) w)
  (cond ((g21 : Int) != 0)
  (R (.bool false) w)
  (trystlaw24_MixOnce.c4 R N2 asks1 a5 put6 get8 none10 st12 first13 i14 k15 x20 w)))

def trystlaw24_MixOnce.b2 (R : Value → World → Prop) (N2 : Sl → Option Addr → Int → Int → Int → Sl → Sl → Int → World → Prop) (asks1 : Sl) (a5 : Option Addr) (put6 : Int) (get8 : Int) (none10 : Int) (first13 : Sl) (st12 : Sl) (i14 : Int) (w : World) : Prop :=
  cond (decide ((i14 : Int) < ((asks1.len : Nat) : Int)))
  (0 ≤ (i14 : Int) ∧ i14 < ((asks1.len : Nat) : Int) ∧ ∃ q_18 : Addr, asks1.a = some q_18 ∧
  0 ≤ (0 : Int) ∧ 0 < ((2 : Nat) : Int) ∧
  ∃ x_19 : Int, w.cell? ((q_18.add ((i14 : Int).toNat * 2)).add (0 : Int).toNat) = some (.int .i64 x_19) ∧
  (5 : Int) ≠ 0 ∧
  (let k15_19 : Int := (IntKind.i64.wrap (Int.tmod (IntKind.u64.wrap x_19) 5));
  CallsV Tryd.prog n_term_Arena_Make #[.pointer a5, .int .i64 1, .int .i64 (IntKind.i64.wrap (100 + k15_19)), .slice none 0 0] w (fun v_21 w5 =>
  ∃ x_22 : Int, ∃ x_23 : Int, v_21 = .tuple #[.int .i64 x_22, .int .i64 x_23] ∧
  0 ≤ (i14 : Int) ∧ i14 < ((asks1.len : Nat) : Int) ∧ ∃ q_24 : Addr, asks1.a = some q_24 ∧
  0 ≤ (1 : Int) ∧ 1 < ((2 : Nat) : Int) ∧
  ∃ x_25 : Int, w5.cell? ((q_24.add ((i14 : Int).toNat * 2)).add (1 : Int).toNat) = some (.int .i64 x_25) ∧
  (50 : Int) ≠ 0 ∧
  CallsV Tryd.prog n_term_Arena_Make #[.pointer a5, .int .i64 1, .int .i64 (IntKind.i64.wrap (1000 + (IntKind.i64.wrap (Int.tmod (IntKind.u64.wrap x_25) 50)))), .slice none 0 0] w5 (fun v_26 w6 =>
  ∃ x_27 : Int, ∃ x_28 : Int, v_26 = .tuple #[.int .i64 x_27, .int .i64 x_28] ∧
  let w7 := w6.alloc (.cells #[.int .i64 put6, .int .i64 x_22, .int .i64 x_27] 3);
  CallsV Tryd.prog n_term_Arena_Make #[.pointer a5, .int .i64 9, .int .i64 0, .slice (some (newA w6)) 3 3] w7 (fun v_29 w8 =>
  ∃ x_30 : Int, ∃ x_31 : Int, v_29 = .tuple #[.int .i64 x_30, .int .i64 x_31] ∧
  0 ≤ (i14 : Int) ∧ i14 < ((asks1.len : Nat) : Int) ∧ ∃ q_32 : Addr, asks1.a = some q_32 ∧
  0 ≤ (1 : Int) ∧ 1 < ((2 : Nat) : Int) ∧
  ∃ x_33 : Int, w8.cell? ((q_32.add ((i14 : Int).toNat * 2)).add (1 : Int).toNat) = some (.int .i64 x_33) ∧
  (3 : Int) ≠ 0 ∧
  cond (((Int.tmod x_33 3) : Int) == 0)
  (let w9 := w8.alloc (.cells #[.int .i64 get8, .int .i64 x_22] 3);
  CallsV Tryd.prog n_term_Arena_Make #[.pointer a5, .int .i64 9, .int .i64 0, .slice (some (newA w8)) 2 2] w9 (fun v_34 w10 =>
  ∃ x_35 : Int, ∃ x_36 : Int, v_34 = .tuple #[.int .i64 x_35, .int .i64 x_36] ∧
  trystlaw24_MixOnce.c5 R N2 asks1 a5 put6 get8 none10 st12 first13 i14 k15_19 x_23 x_28 x_35 x_36 w10))
  (0 ≤ (k15_19 : Int) ∧ k15_19 < ((first13.len : Nat) : Int) ∧ ∃ q_37 : Addr, first13.a = some q_37 ∧
  ∃ x_38 : Int, w8.cell? (q_37.add (k15_19 : Int).toNat) = some (.int .i64 x_38) ∧
  cond ((x_38 : Int) == 0)
  (0 ≤ (k15_19 : Int) ∧ k15_19 < ((first13.len : Nat) : Int) ∧ ∃ q_39 : Addr, first13.a = some q_39 ∧
  Wr w8 (q_39.add (k15_19 : Int).toNat) ∧
  (let w11 := w8.setCell (q_39.add (k15_19 : Int).toNat) (.int .i64 x_27);
  trystlaw24_MixOnce.c5 R N2 asks1 a5 put6 get8 none10 st12 first13 i14 k15_19 x_23 x_28 x_30 x_31 w11))
  (trystlaw24_MixOnce.c5 R N2 asks1 a5 put6 get8 none10 st12 first13 i14 k15_19 x_23 x_28 x_30 x_31 w8)))))))
  (trystlaw24_MixOnce.c1 R w)

def trystlaw24_MixOnce.l2 (R : Value → World → Prop) (asks1 : Sl) (a5 : Option Addr) (put6 : Int) (get8 : Int) (none10 : Int) (first13 : Sl) (st12 : Sl) (i14 : Int) (w : World) : Prop :=
  ∃ (I : (Sl × Int) → World → Prop) (μ : (Sl × Int) → World → Nat), I (st12, i14) w ∧ ∀ s w, I s w → trystlaw24_MixOnce.b2 R (fun asks1' a5' put6' get8' none10' first13' st12' i14' w' => (asks1' = asks1 ∧ a5' = a5 ∧ put6' = put6 ∧ get8' = get8 ∧ none10' = none10 ∧ first13' = first13 ∧ I (st12', i14') w') ∧ μ (st12', i14') w' < μ s w) asks1 a5 put6 get8 none10 first13 s.1 s.2 w

def trystlaw24_MixOnce.c6 (R : Value → World → Prop) (asks1 : Sl) (a5 : Option Addr) (put6 : Int) (get8 : Int) (none10 : Int) (w : World) : Prop :=
  0 ≤ (5 : Int) ∧ (5 : Int) ≤ 5 ∧ (8 : Int) * 5 ≤ 281474976710656 ∧ (5 : Int) ≤ 9223372036854775807 ∧
  (let w12 := w.alloc (.cells ((Array.range ((5 : Int).toNat * 1)).map ((#[.int .i64 0] : Array Value)[· % (#[.int .i64 0] : Array Value).size]!)) 3);
  trystlaw24_MixOnce.l2 R asks1 a5 put6 get8 none10 ⟨(some (newA w)), (5 : Int).toNat, (5 : Int).toNat⟩ ⟨none, 0, 0⟩ 0 w12)

def trystlaw24_MixOnce.main (R : Value → World → Prop) (n0 : Int) (asks1 : Sl) (w : World) : Prop :=
  cond (decide ((((asks1.len : Nat) : Int) : Int) > 80))
  (R (.bool true) w)
  (CallsV Tryd.prog n_term_New #[] w (fun v_40 w13 =>
  ∃ p_41 : Option Addr, v_40 = .pointer p_41 ∧
  cond ((p_41).isNone)
  (R (.bool false) w13)
  (CallsV Tryd.prog n_term_Arena_Make #[.pointer p_41, .int .i64 2, .int .i64 71, .slice none 0 0] w13 (fun v_42 w14 =>
  ∃ x_43 : Int, ∃ x_44 : Int, v_42 = .tuple #[.int .i64 x_43, .int .i64 x_44] ∧
  CallsV Tryd.prog n_term_Arena_Make #[.pointer p_41, .int .i64 2, .int .i64 72, .slice none 0 0] w14 (fun v_45 w15 =>
  ∃ x_46 : Int, ∃ x_47 : Int, v_45 = .tuple #[.int .i64 x_46, .int .i64 x_47] ∧
  CallsV Tryd.prog n_term_Arena_Make #[.pointer p_41, .int .i64 2, .int .i64 0, .slice none 0 0] w15 (fun v_48 w16 =>
  ∃ x_49 : Int, ∃ x_50 : Int, v_48 = .tuple #[.int .i64 x_49, .int .i64 x_50] ∧
  cond ((x_44 : Int) != 0)
  (R (.bool false) w16)
  (cond ((x_47 : Int) != 0)
  (R (.bool false) w16)
  (cond ((x_50 : Int) != 0)
  (R (.bool false) w16)
  (trystlaw24_MixOnce.c6 R asks1 p_41 x_43 x_46 x_49 w16)))))))))

def trystlaw24_MixOnce.J2 (R : Value → World → Prop) (N2 : Sl → Option Addr → Int → Int → Int → Sl → Sl → Int → World → Prop) (k : Nat) (fr : Fr) (w : World) : Prop :=
  cond (Nat.beq k 5) (dec [(1, .slice), (5, .ptr), (6, (.int .i64)), (8, (.int .i64)), (10, (.int .i64)), (12, .slice), (13, .slice), (14, (.int .i64)), (15, (.int .i64)), (17, (.int .i64)), (19, (.int .i64)), (20, (.int .i64)), (21, (.int .i64))] fr fun x => trystlaw24_MixOnce.c5 R N2 x.1 x.2.1 x.2.2.1 x.2.2.2.1 x.2.2.2.2.1 x.2.2.2.2.2.1 x.2.2.2.2.2.2.1 x.2.2.2.2.2.2.2.1 x.2.2.2.2.2.2.2.2.1 x.2.2.2.2.2.2.2.2.2.1 x.2.2.2.2.2.2.2.2.2.2.1 x.2.2.2.2.2.2.2.2.2.2.2.1 x.2.2.2.2.2.2.2.2.2.2.2.2 w) (cond (Nat.beq k 4) (dec [(1, .slice), (5, .ptr), (6, (.int .i64)), (8, (.int .i64)), (10, (.int .i64)), (12, .slice), (13, .slice), (14, (.int .i64)), (15, (.int .i64)), (20, (.int .i64))] fr fun x => trystlaw24_MixOnce.c4 R N2 x.1 x.2.1 x.2.2.1 x.2.2.2.1 x.2.2.2.2.1 x.2.2.2.2.2.1 x.2.2.2.2.2.2.1 x.2.2.2.2.2.2.2.1 x.2.2.2.2.2.2.2.2.1 x.2.2.2.2.2.2.2.2.2 w) (cond (Nat.beq k 3) (dec [(1, .slice), (5, .ptr), (6, (.int .i64)), (8, (.int .i64)), (10, (.int .i64)), (12, .slice), (13, .slice), (14, (.int .i64)), (17, (.int .i64)), (22, .slice), (23, .slice), (24, (.int .i64))] fr fun x => trystlaw24_MixOnce.c3 R N2 x.1 x.2.1 x.2.2.1 x.2.2.2.1 x.2.2.2.2.1 x.2.2.2.2.2.1 x.2.2.2.2.2.2.1 x.2.2.2.2.2.2.2.1 x.2.2.2.2.2.2.2.2.1 x.2.2.2.2.2.2.2.2.2.1 x.2.2.2.2.2.2.2.2.2.2.1 x.2.2.2.2.2.2.2.2.2.2.2 w) (False)))

def trystlaw24_MixOnce.J0 (R : Value → World → Prop) (k : Nat) (fr : Fr) (w : World) : Prop :=
  cond (Nat.beq k 6) (dec [(1, .slice), (5, .ptr), (6, (.int .i64)), (8, (.int .i64)), (10, (.int .i64))] fr fun x => trystlaw24_MixOnce.c6 R x.1 x.2.1 x.2.2.1 x.2.2.2.1 x.2.2.2.2 w) (cond (Nat.beq k 2) (dec [(1, .slice), (5, .ptr), (6, (.int .i64)), (8, (.int .i64)), (10, (.int .i64)), (13, .slice), (12, .slice), (14, (.int .i64))] fr fun x => trystlaw24_MixOnce.l2 R x.1 x.2.1 x.2.2.1 x.2.2.2.1 x.2.2.2.2.1 x.2.2.2.2.2.1 x.2.2.2.2.2.2.1 x.2.2.2.2.2.2.2 w) (cond (Nat.beq k 1) (dec [] fr fun x => trystlaw24_MixOnce.c1 R w) (False)))

set_option maxRecDepth 100000 in
theorem trystlaw24_MixOnce.lift {R : Value → World → Prop} {n0 : Int} {asks1 : Sl} {w : World} (h : trystlaw24_MixOnce.main R n0 asks1 w) : CallsV Tryd.prog n_trystlaw24_MixOnce #[.int .i64 n0, .slice asks1.a asks1.len asks1.cap] w R :=
  liftCalls (c := (.seq (.leaf (cL (bd Tryd.f6))) (.seq (.seq (.leaf (cL (cL (cR (bd Tryd.f6))))) (.cnd (.tmp 27) (.seq (.leaf (cL (cT (cR (cL (cR (bd Tryd.f6))))))) (.leaf (cR (cT (cR (cL (cR (bd Tryd.f6)))))))) (.leaf (cE (cR (cL (cR (bd Tryd.f6)))))))) (.seq (.leaf (cL (cR (cR (bd Tryd.f6))))) (.seq (.seq (.leaf (cL (cL (cR (cR (cR (bd Tryd.f6))))))) (.cnd (.tmp 30) (.seq (.leaf (cL (cT (cR (cL (cR (cR (cR (bd Tryd.f6))))))))) (.leaf (cR (cT (cR (cL (cR (cR (cR (bd Tryd.f6)))))))))) (.leaf (cE (cR (cL (cR (cR (cR (bd Tryd.f6)))))))))) (.seq (.leaf (cL (cR (cR (cR (cR (bd Tryd.f6))))))) (.seq (.leaf (cL (cR (cR (cR (cR (cR (bd Tryd.f6)))))))) (.seq (.leaf (cL (cR (cR (cR (cR (cR (cR (bd Tryd.f6))))))))) (.seq (.seq (.leaf (cL (cL (cR (cR (cR (cR (cR (cR (cR (bd Tryd.f6))))))))))) (.cnd (.tmp 55) (.seq (.leaf (cL (cT (cR (cL (cR (cR (cR (cR (cR (cR (cR (bd Tryd.f6))))))))))))) (.leaf (cR (cT (cR (cL (cR (cR (cR (cR (cR (cR (cR (bd Tryd.f6)))))))))))))) (.leaf (cE (cR (cL (cR (cR (cR (cR (cR (cR (cR (bd Tryd.f6)))))))))))))) (.cut 6 (.seq (.leaf (cL (cR (cR (cR (cR (cR (cR (cR (cR (bd Tryd.f6))))))))))) (.seq (.leaf (cL (cR (cR (cR (cR (cR (cR (cR (cR (cR (bd Tryd.f6)))))))))))) (.seq (.seq (.leaf (cL (cL (cR (cR (cR (cR (cR (cR (cR (cR (cR (cR (bd Tryd.f6)))))))))))))) (.block 0 (.loop 2 (.seq (.seq (.leaf (cL (cL (cB (cB (cR (cL (cR (cR (cR (cR (cR (cR (cR (cR (cR (cR (bd Tryd.f6)))))))))))))))))) (.cnd (.tmp 60) (.leaf (cT (cR (cL (cB (cB (cR (cL (cR (cR (cR (cR (cR (cR (cR (cR (cR (cR (bd Tryd.f6))))))))))))))))))) (.leaf (cE (cR (cL (cB (cB (cR (cL (cR (cR (cR (cR (cR (cR (cR (cR (cR (cR (bd Tryd.f6))))))))))))))))))))) (.seq (.block 1 (.seq (.leaf (cL (cB (cL (cR (cB (cB (cR (cL (cR (cR (cR (cR (cR (cR (cR (cR (cR (cR (bd Tryd.f6)))))))))))))))))))) (.seq (.leaf (cL (cR (cB (cL (cR (cB (cB (cR (cL (cR (cR (cR (cR (cR (cR (cR (cR (cR (cR (bd Tryd.f6))))))))))))))))))))) (.seq (.leaf (cL (cR (cR (cB (cL (cR (cB (cB (cR (cL (cR (cR (cR (cR (cR (cR (cR (cR (cR (cR (bd Tryd.f6)))))))))))))))))))))) (.seq (.leaf (cL (cR (cR (cR (cB (cL (cR (cB (cB (cR (cL (cR (cR (cR (cR (cR (cR (cR (cR (cR (cR (bd Tryd.f6))))))))))))))))))))))) (.seq (.seq (.leaf (cL (cL (cR (cR (cR (cR (cB (cL (cR (cB (cB (cR (cL (cR (cR (cR (cR (cR (cR (cR (cR (cR (cR (bd Tryd.f6))))))))))))))))))))))))) (.cnd (.tmp 107) (.leaf (cT (cR (cL (cR (cR (cR (cR (cB (cL (cR (cB (cB (cR (cL (cR (cR (cR (cR (cR (cR (cR (cR (cR (cR (bd Tryd.f6)))))))))))))))))))))))))) (.seq (.leaf (cL (cE (cR (cL (cR (cR (cR (cR (cB (cL (cR (cB (cB (cR (cL (cR (cR (cR (cR (cR (cR (cR (cR (cR (cR (bd Tryd.f6))))))))))))))))))))))))))) (.cnd (.tmp 120) (.leaf (cT (cR (cE (cR (cL (cR (cR (cR (cR (cB (cL (cR (cB (cB (cR (cL (cR (cR (cR (cR (cR (cR (cR (cR (cR (cR (bd Tryd.f6)))))))))))))))))))))))))))) (.leaf (cE (cR (cE (cR (cL (cR (cR (cR (cR (cB (cL (cR (cB (cB (cR (cL (cR (cR (cR (cR (cR (cR (cR (cR (cR (cR (bd Tryd.f6)))))))))))))))))))))))))))))))) (.cut 5 (.seq (.seq (.leaf (cL (cL (cR (cR (cR (cR (cR (cB (cL (cR (cB (cB (cR (cL (cR (cR (cR (cR (cR (cR (cR (cR (cR (cR (bd Tryd.f6)))))))))))))))))))))))))) (.cnd (.tmp 134) (.seq (.leaf (cL (cT (cR (cL (cR (cR (cR (cR (cR (cB (cL (cR (cB (cB (cR (cL (cR (cR (cR (cR (cR (cR (cR (cR (cR (cR (bd Tryd.f6)))))))))))))))))))))))))))) (.leaf (cR (cT (cR (cL (cR (cR (cR (cR (cR (cB (cL (cR (cB (cB (cR (cL (cR (cR (cR (cR (cR (cR (cR (cR (cR (cR (bd Tryd.f6))))))))))))))))))))))))))))) (.leaf (cE (cR (cL (cR (cR (cR (cR (cR (cB (cL (cR (cB (cB (cR (cL (cR (cR (cR (cR (cR (cR (cR (cR (cR (cR (bd Tryd.f6))))))))))))))))))))))))))))) (.cut 4 (.seq (.leaf (cL (cR (cR (cR (cR (cR (cR (cB (cL (cR (cB (cB (cR (cL (cR (cR (cR (cR (cR (cR (cR (cR (cR (cR (bd Tryd.f6)))))))))))))))))))))))))) (.seq (.leaf (cL (cR (cR (cR (cR (cR (cR (cR (cB (cL (cR (cB (cB (cR (cL (cR (cR (cR (cR (cR (cR (cR (cR (cR (cR (bd Tryd.f6))))))))))))))))))))))))))) (.seq (.seq (.leaf (cL (cL (cR (cR (cR (cR (cR (cR (cR (cR (cB (cL (cR (cB (cB (cR (cL (cR (cR (cR (cR (cR (cR (cR (cR (cR (cR (bd Tryd.f6))))))))))))))))))))))))))))) (.cnd (.tmp 149) (.leaf (cT (cR (cL (cR (cR (cR (cR (cR (cR (cR (cR (cB (cL (cR (cB (cB (cR (cL (cR (cR (cR (cR (cR (cR (cR (cR (cR (cR (bd Tryd.f6)))))))))))))))))))))))))))))) (.leaf (cE (cR (cL (cR (cR (cR (cR (cR (cR (cR (cR (cB (cL (cR (cB (cB (cR (cL (cR (cR (cR (cR (cR (cR (cR (cR (cR (cR (bd Tryd.f6)))))))))))))))))))))))))))))))) (.cut 3 (.seq (.seq (.leaf (cL (cL (cR (cR (cR (cR (cR (cR (cR (cR (cR (cB (cL (cR (cB (cB (cR (cL (cR (cR (cR (cR (cR (cR (cR (cR (cR (cR (bd Tryd.f6)))))))))))))))))))))))))))))) (.cnd (.tmp 180) (.seq (.leaf (cL (cT (cR (cL (cR (cR (cR (cR (cR (cR (cR (cR (cR (cB (cL (cR (cB (cB (cR (cL (cR (cR (cR (cR (cR (cR (cR (cR (cR (cR (bd Tryd.f6)))))))))))))))))))))))))))))))) (.leaf (cR (cT (cR (cL (cR (cR (cR (cR (cR (cR (cR (cR (cR (cB (cL (cR (cB (cB (cR (cL (cR (cR (cR (cR (cR (cR (cR (cR (cR (cR (bd Tryd.f6))))))))))))))))))))))))))))))))) (.leaf (cE (cR (cL (cR (cR (cR (cR (cR (cR (cR (cR (cR (cB (cL (cR (cB (cB (cR (cL (cR (cR (cR (cR (cR (cR (cR (cR (cR (cR (bd Tryd.f6))))))))))))))))))))))))))))))))) (.leaf (cR (cR (cR (cR (cR (cR (cR (cR (cR (cR (cB (cL (cR (cB (cB (cR (cL (cR (cR (cR (cR (cR (cR (cR (cR (cR (cR (bd Tryd.f6))))))))))))))))))))))))))))))))))))))))))) (.leaf (cR (cR (cB (cB (cR (cL (cR (cR (cR (cR (cR (cR (cR (cR (cR (cR (bd Tryd.f6))))))))))))))))))))))) (.cut 1 (.seq (.leaf (cL (cR (cR (cR (cR (cR (cR (cR (cR (cR (cR (cR (bd Tryd.f6)))))))))))))) (.leaf (cR (cR (cR (cR (cR (cR (cR (cR (cR (cR (cR (cR (bd Tryd.f6))))))))))))))))))))))))))))) (J := trystlaw24_MixOnce.J0 R) LfYtoclhecldmahiaaDoor.mixed Tryd.func6 (by kernel_rfl) (by kernel_rfl) (mkSeq (mkSeq (mkSeq (mkSeq (mkSeq (mkSeq (mkSeq (mkSeq (mkCut (cutDef [(1, .slice), (5, .ptr), (6, (.int .i64)), (8, (.int .i64)), (10, (.int .i64))] (fun x w => trystlaw24_MixOnce.c6 R x.1 x.2.1 x.2.2.1 x.2.2.2.1 x.2.2.2.2 w) (fun _ _ => by kernel_rfl) (fun _ _ => by kernel_rfl)) (mkSeq (mkSeq (mkSeq (mkCut (cutDef [] (fun x w => trystlaw24_MixOnce.c1 R w) (fun _ _ => by kernel_rfl) (fun _ _ => by kernel_rfl)) (mkSeq mkLeaf mkLeaf)) (mkSeq (mkBlock (mkLoop (loopDef LfYtoclhecldmahiaaDoor.mixed [(1, .slice), (5, .ptr), (6, (.int .i64)), (8, (.int .i64)), (10, (.int .i64)), (13, .slice), (12, .slice), (14, (.int .i64))] (by kernel_rfl) (fun M2 x w => trystlaw24_MixOnce.b2 R (fun y0 y1 y2 y3 y4 y5 y6 y7 w => M2 (y0, y1, y2, y3, y4, y5, y6, y7) w) x.1 x.2.1 x.2.2.1 x.2.2.2.1 x.2.2.2.2.1 x.2.2.2.2.2.1 x.2.2.2.2.2.2.1 x.2.2.2.2.2.2.2 w) (fun M2 => trystlaw24_MixOnce.J2 R (fun y0 y1 y2 y3 y4 y5 y6 y7 w => M2 (y0, y1, y2, y3, y4, y5, y6, y7) w)) (fun _ _ _ => by kernel_rfl) (fun M2 => (mkSeq (mkSeq mkLeaf (mkBlock (mkSeq (mkSeq (mkSeq (mkSeq (mkSeq (mkCut (cutDef [(1, .slice), (5, .ptr), (6, (.int .i64)), (8, (.int .i64)), (10, (.int .i64)), (12, .slice), (13, .slice), (14, (.int .i64)), (15, (.int .i64)), (17, (.int .i64)), (19, (.int .i64)), (20, (.int .i64)), (21, (.int .i64))] (fun x w => trystlaw24_MixOnce.c5 R (fun y0 y1 y2 y3 y4 y5 y6 y7 w => M2 (y0, y1, y2, y3, y4, y5, y6, y7) w) x.1 x.2.1 x.2.2.1 x.2.2.2.1 x.2.2.2.2.1 x.2.2.2.2.2.1 x.2.2.2.2.2.2.1 x.2.2.2.2.2.2.2.1 x.2.2.2.2.2.2.2.2.1 x.2.2.2.2.2.2.2.2.2.1 x.2.2.2.2.2.2.2.2.2.2.1 x.2.2.2.2.2.2.2.2.2.2.2.1 x.2.2.2.2.2.2.2.2.2.2.2.2 w) (fun _ _ => by kernel_rfl) (fun _ _ => by kernel_rfl)) (mkSeq (mkCut (cutDef [(1, .slice), (5, .ptr), (6, (.int .i64)), (8, (.int .i64)), (10, (.int .i64)), (12, .slice), (13, .slice), (14, (.int .i64)), (15, (.int .i64)), (20, (.int .i64))] (fun x w => trystlaw24_MixOnce.c4 R (fun y0 y1 y2 y3 y4 y5 y6 y7 w => M2 (y0, y1, y2, y3, y4, y5, y6, y7) w) x.1 x.2.1 x.2.2.1 x.2.2.2.1 x.2.2.2.2.1 x.2.2.2.2.2.1 x.2.2.2.2.2.2.1 x.2.2.2.2.2.2.2.1 x.2.2.2.2.2.2.2.2.1 x.2.2.2.2.2.2.2.2.2 w) (fun _ _ => by kernel_rfl) (fun _ _ => by kernel_rfl)) (mkSeq (mkSeq (mkSeq (mkCut (cutDef [(1, .slice), (5, .ptr), (6, (.int .i64)), (8, (.int .i64)), (10, (.int .i64)), (12, .slice), (13, .slice), (14, (.int .i64)), (17, (.int .i64)), (22, .slice), (23, .slice), (24, (.int .i64))] (fun x w => trystlaw24_MixOnce.c3 R (fun y0 y1 y2 y3 y4 y5 y6 y7 w => M2 (y0, y1, y2, y3, y4, y5, y6, y7) w) x.1 x.2.1 x.2.2.1 x.2.2.2.1 x.2.2.2.2.1 x.2.2.2.2.2.1 x.2.2.2.2.2.2.1 x.2.2.2.2.2.2.2.1 x.2.2.2.2.2.2.2.2.1 x.2.2.2.2.2.2.2.2.2.1 x.2.2.2.2.2.2.2.2.2.2.1 x.2.2.2.2.2.2.2.2.2.2.2 w) (fun _ _ => by kernel_rfl) (fun _ _ => by kernel_rfl)) (mkSeq mkLeaf (mkSeq (mkCnd (mkSeq mkLeaf mkLeaf) mkLeaf) mkLeaf))) (mkSeq (mkCnd mkLeaf mkLeaf) mkLeaf)) mkLeaf) mkLeaf)) (mkSeq (mkCnd (mkSeq mkLeaf mkLeaf) mkLeaf) mkLeaf))) (mkSeq (mkCnd mkLeaf (mkSeq (mkCnd mkLeaf mkLeaf) mkLeaf)) mkLeaf)) mkLeaf) mkLeaf) mkLeaf) mkLeaf))) (mkSeq (mkCnd mkLeaf mkLeaf) mkLeaf))) (fun x w => trystlaw24_MixOnce.l2 R x.1 x.2.1 x.2.2.1 x.2.2.2.1 x.2.2.2.2.1 x.2.2.2.2.2.1 x.2.2.2.2.2.2.1 x.2.2.2.2.2.2.2 w) (by rintro ⟨c0, c1, c2, c3, c4, c5, s0⟩ w ⟨I, μ, h0, h1⟩; refine ⟨fun y w => y.1 = c0 ∧ y.2.1 = c1 ∧ y.2.2.1 = c2 ∧ y.2.2.2.1 = c3 ∧ y.2.2.2.2.1 = c4 ∧ y.2.2.2.2.2.1 = c5 ∧ I y.2.2.2.2.2.2 w, fun y w => μ y.2.2.2.2.2.2 w, ⟨rfl, rfl, rfl, rfl, rfl, rfl, h0⟩, ?_⟩; rintro ⟨d0, d1, d2, d3, d4, d5, t0⟩ w ⟨e0, e1, e2, e3, e4, e5, hI⟩; dsimp only at e0 e1 e2 e3 e4 e5 hI; subst e0; subst e1; subst e2; subst e3; subst e4; subst e5; exact h1 _ _ hI) (fun _ _ => by kernel_rfl)))) mkLeaf)) mkLeaf) mkLeaf)) (mkSeq (mkCnd (mkSeq mkLeaf mkLeaf) mkLeaf) mkLeaf)) mkLeaf) mkLeaf) mkLeaf) (mkSeq (mkCnd (mkSeq mkLeaf mkLeaf) mkLeaf) mkLeaf)) mkLeaf) (mkSeq (mkCnd (mkSeq mkLeaf mkLeaf) mkLeaf) mkLeaf)) mkLeaf) (kcast (by kernel_rfl) h)

/-! trystlaw24_MixDrops -/
def trystlaw24_MixDrops.c1 (R : Value → World → Prop) (w : World) : Prop :=
  CallsV Tryd.prog n_trystlaw24_wakes #[] w (fun v_1 w1 =>
  ∃ b_2 : Bool, v_1 = .bool b_2 ∧
  R (.bool b_2) w1)

def trystlaw24_MixDrops.c3 (R : Value → World → Prop) (N2 : Sl → Int → Sl → Sl → Sl → Int → World → Prop) (drops0 : Sl) (none6 : Int) (l8 : Sl) (c9 : Sl) (out18 : Sl) (i19 : Int) (other21 : Int) (w : World) : Prop :=
  0 ≤ (i19 : Int) ∧ i19 < ((out18.len : Nat) : Int) ∧ ∃ q_3 : Addr, out18.a = some q_3 ∧
  ∃ x_4 : Int, w.cell? (q_3.add (i19 : Int).toNat) = some (.int .i64 x_4) ∧
  cond ((x_4 : Int) != other21)
  (R (.bool false) w)
  ((let i19_4 : Int := (IntKind.i64.wrap (i19 + 1));
  N2 drops0 none6 l8 c9 out18 i19_4 w))

def trystlaw24_MixDrops.c4 (R : Value → World → Prop) (N2 : Sl → Int → Sl → Sl → Sl → Int → World → Prop) (drops0 : Sl) (none6 : Int) (l8 : Sl) (c9 : Sl) (out18 : Sl) (i19 : Int) (n20 : Int) (other21 : Int) (w : World) : Prop :=
  cond ((n20 : Int) != 1)
  (trystlaw24_MixDrops.c3 R N2 drops0 none6 l8 c9 out18 i19 none6 w)
  (trystlaw24_MixDrops.c3 R N2 drops0 none6 l8 c9 out18 i19 other21 w)

def trystlaw24_MixDrops.c6 (R : Value → World → Prop) (N2 : Sl → Int → Sl → Sl → Sl → Int → World → Prop) (N5 : Sl → Int → Sl → Sl → Sl → Int → Int → Int → Int → World → Prop) (drops0 : Sl) (none6 : Int) (l8 : Sl) (c9 : Sl) (out18 : Sl) (i19 : Int) (n20 : Int) (k22 : Int) (w : World) : Prop :=
  0 ≤ (k22 : Int) ∧ k22 < ((c9.len : Nat) : Int) ∧ ∃ q_6 : Addr, c9.a = some q_6 ∧
  ∃ x_7 : Int, w.cell? (q_6.add (k22 : Int).toNat) = some (.int .i64 x_7) ∧
  (let n20_7 : Int := (IntKind.i64.wrap (n20 + 1));
  (let k22_8 : Int := (IntKind.i64.wrap (k22 + 1));
  N5 drops0 none6 l8 c9 out18 i19 n20_7 x_7 k22_8 w.drew))

def trystlaw24_MixDrops.b5 (R : Value → World → Prop) (N2 : Sl → Int → Sl → Sl → Sl → Int → World → Prop) (N5 : Sl → Int → Sl → Sl → Sl → Int → Int → Int → Int → World → Prop) (drops0 : Sl) (none6 : Int) (l8 : Sl) (c9 : Sl) (out18 : Sl) (i19 : Int) (n20 : Int) (other21 : Int) (k22 : Int) (w : World) : Prop :=
  cond (decide ((k22 : Int) < ((l8.len : Nat) : Int)))
  (cond ((k22 : Int) != i19)
  (0 ≤ (k22 : Int) ∧ k22 < ((drops0.len : Nat) : Int) ∧ ∃ q_10 : Addr, drops0.a = some q_10 ∧
  ∃ x_11 : Int, w.cell? (q_10.add (k22 : Int).toNat) = some (.int .i64 x_11) ∧
  (12 : Int) ≠ 0 ∧
  0 ≤ (i19 : Int) ∧ i19 < ((drops0.len : Nat) : Int) ∧ ∃ q_12 : Addr, drops0.a = some q_12 ∧
  ∃ x_13 : Int, w.cell? (q_12.add (i19 : Int).toNat) = some (.int .i64 x_13) ∧
  (12 : Int) ≠ 0 ∧
  cond (((Int.tmod (IntKind.u64.wrap x_11) 12) : Int) == (Int.tmod (IntKind.u64.wrap x_13) 12))
  (trystlaw24_MixDrops.c6 R N2 N5 drops0 none6 l8 c9 out18 i19 n20 k22 w.drew)
  ((let k22_13 : Int := (IntKind.i64.wrap (k22 + 1));
  N5 drops0 none6 l8 c9 out18 i19 n20 other21 k22_13 w.drew)))
  ((let k22_14 : Int := (IntKind.i64.wrap (k22 + 1));
  N5 drops0 none6 l8 c9 out18 i19 n20 other21 k22_14 w.drew)))
  (trystlaw24_MixDrops.c4 R N2 drops0 none6 l8 c9 out18 i19 n20 other21 w)

def trystlaw24_MixDrops.l5 (R : Value → World → Prop) (N2 : Sl → Int → Sl → Sl → Sl → Int → World → Prop) (drops0 : Sl) (none6 : Int) (l8 : Sl) (c9 : Sl) (out18 : Sl) (i19 : Int) (n20 : Int) (other21 : Int) (k22 : Int) (w : World) : Prop :=
  ∃ (I : (Int × Int × Int) → World → Prop) (μ : (Int × Int × Int) → World → Nat), I (n20, other21, k22) w ∧ ∀ s w, I s w → trystlaw24_MixDrops.b5 R N2 (fun drops0' none6' l8' c9' out18' i19' n20' other21' k22' w' => (drops0' = drops0 ∧ none6' = none6 ∧ l8' = l8 ∧ c9' = c9 ∧ out18' = out18 ∧ i19' = i19 ∧ I (n20', other21', k22') w') ∧ μ (n20', other21', k22') w' < μ s w) drops0 none6 l8 c9 out18 i19 s.1 s.2.1 s.2.2 w

def trystlaw24_MixDrops.b2 (R : Value → World → Prop) (N2 : Sl → Int → Sl → Sl → Sl → Int → World → Prop) (drops0 : Sl) (none6 : Int) (l8 : Sl) (c9 : Sl) (out18 : Sl) (i19 : Int) (w : World) : Prop :=
  cond (decide ((i19 : Int) < ((l8.len : Nat) : Int)))
  (trystlaw24_MixDrops.l5 R N2 drops0 none6 l8 c9 out18 i19 0 none6 0 w)
  (trystlaw24_MixDrops.c1 R w)

def trystlaw24_MixDrops.l2 (R : Value → World → Prop) (drops0 : Sl) (none6 : Int) (l8 : Sl) (c9 : Sl) (out18 : Sl) (i19 : Int) (w : World) : Prop :=
  ∃ (I : Int → World → Prop) (μ : Int → World → Nat), I i19 w ∧ ∀ s w, I s w → trystlaw24_MixDrops.b2 R (fun drops0' none6' l8' c9' out18' i19' w' => (drops0' = drops0 ∧ none6' = none6 ∧ l8' = l8 ∧ c9' = c9 ∧ out18' = out18 ∧ I i19' w') ∧ μ i19' w' < μ s w) drops0 none6 l8 c9 out18 s w

def trystlaw24_MixDrops.c7 (R : Value → World → Prop) (drops0 : Sl) (none6 : Int) (l8 : Sl) (c9 : Sl) (out18 : Sl) (w : World) : Prop :=
  trystlaw24_MixDrops.l2 R drops0 none6 l8 c9 out18 0 w

def trystlaw24_MixDrops.c8 (R : Value → World → Prop) (drops0 : Sl) (a3 : Option Addr) (none6 : Int) (l8 : Sl) (c9 : Sl) (w : World) : Prop :=
  CallsV Tryd.prog n_mix_Do #[.pointer a3, .slice none 0 0, .slice l8.a l8.len l8.cap] w (fun v_16 w2 =>
  ∃ (a_17 : Option Addr) (l_18 c_19 : Nat), ∃ (a_20 : Option Addr) (l_21 c_22 : Nat), ∃ x_23 : Int, v_16 = .tuple #[.slice a_17 l_18 c_19, .slice a_20 l_21 c_22, .int .i64 x_23] ∧
  cond ((x_23 : Int) != 0)
  (R (.bool false) w2)
  (cond (decide ((((l_18 : Nat) : Int) : Int) > 0))
  (R (.bool false) w2)
  (cond ((((l_21 : Nat) : Int) : Int) != ((l8.len : Nat) : Int))
  (R (.bool false) w2)
  (trystlaw24_MixDrops.c7 R drops0 none6 l8 c9 ⟨a_20, l_21, c_22⟩ w2))))

def trystlaw24_MixDrops.c10 (R : Value → World → Prop) (N9 : Sl → Option Addr → Int → Int → Sl → Sl → Int → World → Prop) (drops0 : Sl) (a3 : Option Addr) (wv4 : Int) (none6 : Int) (l8 : Sl) (c9 : Sl) (i10 : Int) (x13 : Int) (y15 : Int) (w : World) : Prop :=
  let w3 := w.alloc (.cells #[.int .i64 y15] 3);
  ∃ (a_24 : Option Addr) (l_25 c_26 : Nat), ∃ w4 : World, (builtin .append #[29, 29] 29 #[] #[.slice l8.a l8.len l8.cap, .slice (some (newA w)) 1 1]).run Tryd.prog w3 = .ok (.value (.slice a_24 l_25 c_26)) w4 ∧
  let w5 := w4.alloc (.cells #[.int .i64 x13] 3);
  ∃ (a_27 : Option Addr) (l_28 c_29 : Nat), ∃ w6 : World, (builtin .append #[29, 29] 29 #[] #[.slice c9.a c9.len c9.cap, .slice (some (newA w4)) 1 1]).run Tryd.prog w5 = .ok (.value (.slice a_27 l_28 c_29)) w6 ∧
  (let i10_29 : Int := (IntKind.i64.wrap (i10 + 1));
  N9 drops0 a3 wv4 none6 ⟨a_24, l_25, c_26⟩ ⟨a_27, l_28, c_29⟩ i10_29 w6)

def trystlaw24_MixDrops.b9 (R : Value → World → Prop) (N9 : Sl → Option Addr → Int → Int → Sl → Sl → Int → World → Prop) (drops0 : Sl) (a3 : Option Addr) (wv4 : Int) (none6 : Int) (l8 : Sl) (c9 : Sl) (i10 : Int) (w : World) : Prop :=
  cond (decide ((i10 : Int) < ((drops0.len : Nat) : Int)))
  (0 ≤ (i10 : Int) ∧ i10 < ((drops0.len : Nat) : Int) ∧ ∃ q_31 : Addr, drops0.a = some q_31 ∧
  ∃ x_32 : Int, w.cell? (q_31.add (i10 : Int).toNat) = some (.int .i64 x_32) ∧
  (12 : Int) ≠ 0 ∧
  CallsV Tryd.prog n_term_Arena_Make #[.pointer a3, .int .i64 1, .int .i64 (IntKind.i64.wrap (Int.tmod (IntKind.u64.wrap x_32) 12)), .slice none 0 0] w (fun v_33 w7 =>
  ∃ x_34 : Int, ∃ x_35 : Int, v_33 = .tuple #[.int .i64 x_34, .int .i64 x_35] ∧
  CallsV Tryd.prog n_term_Arena_Make #[.pointer a3, .int .i64 1, .int .i64 (IntKind.i64.wrap (100 + i10)), .slice none 0 0] w7 (fun v_36 w8 =>
  ∃ x_37 : Int, ∃ x_38 : Int, v_36 = .tuple #[.int .i64 x_37, .int .i64 x_38] ∧
  let w9 := w8.alloc (.cells #[.int .i64 wv4, .int .i64 x_34, .int .i64 x_37] 3);
  CallsV Tryd.prog n_term_Arena_Make #[.pointer a3, .int .i64 9, .int .i64 0, .slice (some (newA w8)) 3 3] w9 (fun v_39 w10 =>
  ∃ x_40 : Int, ∃ x_41 : Int, v_39 = .tuple #[.int .i64 x_40, .int .i64 x_41] ∧
  cond ((x_35 : Int) != 0)
  (R (.bool false) w10)
  (cond ((x_38 : Int) != 0)
  (R (.bool false) w10)
  (cond ((x_41 : Int) != 0)
  (R (.bool false) w10)
  (trystlaw24_MixDrops.c10 R N9 drops0 a3 wv4 none6 l8 c9 i10 x_37 x_40 w10)))))))
  (trystlaw24_MixDrops.c8 R drops0 a3 none6 l8 c9 w)

def trystlaw24_MixDrops.l9 (R : Value → World → Prop) (drops0 : Sl) (a3 : Option Addr) (wv4 : Int) (none6 : Int) (l8 : Sl) (c9 : Sl) (i10 : Int) (w : World) : Prop :=
  ∃ (I : (Sl × Sl × Int) → World → Prop) (μ : (Sl × Sl × Int) → World → Nat), I (l8, c9, i10) w ∧ ∀ s w, I s w → trystlaw24_MixDrops.b9 R (fun drops0' a3' wv4' none6' l8' c9' i10' w' => (drops0' = drops0 ∧ a3' = a3 ∧ wv4' = wv4 ∧ none6' = none6 ∧ I (l8', c9', i10') w') ∧ μ (l8', c9', i10') w' < μ s w) drops0 a3 wv4 none6 s.1 s.2.1 s.2.2 w

def trystlaw24_MixDrops.c11 (R : Value → World → Prop) (drops0 : Sl) (a3 : Option Addr) (wv4 : Int) (none6 : Int) (w : World) : Prop :=
  trystlaw24_MixDrops.l9 R drops0 a3 wv4 none6 ⟨none, 0, 0⟩ ⟨none, 0, 0⟩ 0 w

def trystlaw24_MixDrops.main (R : Value → World → Prop) (drops0 : Sl) (w : World) : Prop :=
  cond (decide ((((drops0.len : Nat) : Int) : Int) > 60))
  (R (.bool true) w)
  (CallsV Tryd.prog n_term_New #[] w (fun v_42 w11 =>
  ∃ p_43 : Option Addr, v_42 = .pointer p_43 ∧
  cond ((p_43).isNone)
  (R (.bool false) w11)
  (CallsV Tryd.prog n_term_Arena_Make #[.pointer p_43, .int .i64 2, .int .i64 73, .slice none 0 0] w11 (fun v_44 w12 =>
  ∃ x_45 : Int, ∃ x_46 : Int, v_44 = .tuple #[.int .i64 x_45, .int .i64 x_46] ∧
  CallsV Tryd.prog n_term_Arena_Make #[.pointer p_43, .int .i64 2, .int .i64 0, .slice none 0 0] w12 (fun v_47 w13 =>
  ∃ x_48 : Int, ∃ x_49 : Int, v_47 = .tuple #[.int .i64 x_48, .int .i64 x_49] ∧
  cond ((x_46 : Int) != 0)
  (R (.bool false) w13)
  (cond ((x_49 : Int) != 0)
  (R (.bool false) w13)
  (trystlaw24_MixDrops.c11 R drops0 p_43 x_45 x_48 w13)))))))

def trystlaw24_MixDrops.J2 (R : Value → World → Prop) (N2 : Sl → Int → Sl → Sl → Sl → Int → World → Prop) (k : Nat) (fr : Fr) (w : World) : Prop :=
  cond (Nat.beq k 5) (dec [(0, .slice), (6, (.int .i64)), (8, .slice), (9, .slice), (18, .slice), (19, (.int .i64)), (20, (.int .i64)), (21, (.int .i64)), (22, (.int .i64))] fr fun x => trystlaw24_MixDrops.l5 R N2 x.1 x.2.1 x.2.2.1 x.2.2.2.1 x.2.2.2.2.1 x.2.2.2.2.2.1 x.2.2.2.2.2.2.1 x.2.2.2.2.2.2.2.1 x.2.2.2.2.2.2.2.2 w) (cond (Nat.beq k 4) (dec [(0, .slice), (6, (.int .i64)), (8, .slice), (9, .slice), (18, .slice), (19, (.int .i64)), (20, (.int .i64)), (21, (.int .i64))] fr fun x => trystlaw24_MixDrops.c4 R N2 x.1 x.2.1 x.2.2.1 x.2.2.2.1 x.2.2.2.2.1 x.2.2.2.2.2.1 x.2.2.2.2.2.2.1 x.2.2.2.2.2.2.2 w) (cond (Nat.beq k 3) (dec [(0, .slice), (6, (.int .i64)), (8, .slice), (9, .slice), (18, .slice), (19, (.int .i64)), (21, (.int .i64))] fr fun x => trystlaw24_MixDrops.c3 R N2 x.1 x.2.1 x.2.2.1 x.2.2.2.1 x.2.2.2.2.1 x.2.2.2.2.2.1 x.2.2.2.2.2.2 w) (False)))

def trystlaw24_MixDrops.J5 (R : Value → World → Prop) (N2 : Sl → Int → Sl → Sl → Sl → Int → World → Prop) (N5 : Sl → Int → Sl → Sl → Sl → Int → Int → Int → Int → World → Prop) (k : Nat) (fr : Fr) (w : World) : Prop :=
  cond (Nat.beq k 6) (dec [(0, .slice), (6, (.int .i64)), (8, .slice), (9, .slice), (18, .slice), (19, (.int .i64)), (20, (.int .i64)), (22, (.int .i64))] fr fun x => trystlaw24_MixDrops.c6 R N2 N5 x.1 x.2.1 x.2.2.1 x.2.2.2.1 x.2.2.2.2.1 x.2.2.2.2.2.1 x.2.2.2.2.2.2.1 x.2.2.2.2.2.2.2 w) (False)

def trystlaw24_MixDrops.J9 (R : Value → World → Prop) (N9 : Sl → Option Addr → Int → Int → Sl → Sl → Int → World → Prop) (k : Nat) (fr : Fr) (w : World) : Prop :=
  cond (Nat.beq k 10) (dec [(0, .slice), (3, .ptr), (4, (.int .i64)), (6, (.int .i64)), (8, .slice), (9, .slice), (10, (.int .i64)), (13, (.int .i64)), (15, (.int .i64))] fr fun x => trystlaw24_MixDrops.c10 R N9 x.1 x.2.1 x.2.2.1 x.2.2.2.1 x.2.2.2.2.1 x.2.2.2.2.2.1 x.2.2.2.2.2.2.1 x.2.2.2.2.2.2.2.1 x.2.2.2.2.2.2.2.2 w) (False)

def trystlaw24_MixDrops.J0 (R : Value → World → Prop) (k : Nat) (fr : Fr) (w : World) : Prop :=
  cond (Nat.beq k 11) (dec [(0, .slice), (3, .ptr), (4, (.int .i64)), (6, (.int .i64))] fr fun x => trystlaw24_MixDrops.c11 R x.1 x.2.1 x.2.2.1 x.2.2.2 w) (cond (Nat.beq k 9) (dec [(0, .slice), (3, .ptr), (4, (.int .i64)), (6, (.int .i64)), (8, .slice), (9, .slice), (10, (.int .i64))] fr fun x => trystlaw24_MixDrops.l9 R x.1 x.2.1 x.2.2.1 x.2.2.2.1 x.2.2.2.2.1 x.2.2.2.2.2.1 x.2.2.2.2.2.2 w) (cond (Nat.beq k 8) (dec [(0, .slice), (3, .ptr), (6, (.int .i64)), (8, .slice), (9, .slice)] fr fun x => trystlaw24_MixDrops.c8 R x.1 x.2.1 x.2.2.1 x.2.2.2.1 x.2.2.2.2 w) (cond (Nat.beq k 7) (dec [(0, .slice), (6, (.int .i64)), (8, .slice), (9, .slice), (18, .slice)] fr fun x => trystlaw24_MixDrops.c7 R x.1 x.2.1 x.2.2.1 x.2.2.2.1 x.2.2.2.2 w) (cond (Nat.beq k 2) (dec [(0, .slice), (6, (.int .i64)), (8, .slice), (9, .slice), (18, .slice), (19, (.int .i64))] fr fun x => trystlaw24_MixDrops.l2 R x.1 x.2.1 x.2.2.1 x.2.2.2.1 x.2.2.2.2.1 x.2.2.2.2.2 w) (cond (Nat.beq k 1) (dec [] fr fun x => trystlaw24_MixDrops.c1 R w) (False))))))

set_option maxRecDepth 100000 in
theorem trystlaw24_MixDrops.lift {R : Value → World → Prop} {drops0 : Sl} {w : World} (h : trystlaw24_MixDrops.main R drops0 w) : CallsV Tryd.prog n_trystlaw24_MixDrops #[.slice drops0.a drops0.len drops0.cap] w R :=
  liftCalls (c := (.seq (.leaf (cL (bd Tryd.f7))) (.seq (.seq (.leaf (cL (cL (cR (bd Tryd.f7))))) (.cnd (.tmp 25) (.seq (.leaf (cL (cT (cR (cL (cR (bd Tryd.f7))))))) (.leaf (cR (cT (cR (cL (cR (bd Tryd.f7)))))))) (.leaf (cE (cR (cL (cR (bd Tryd.f7)))))))) (.seq (.leaf (cL (cR (cR (bd Tryd.f7))))) (.seq (.seq (.leaf (cL (cL (cR (cR (cR (bd Tryd.f7))))))) (.cnd (.tmp 28) (.seq (.leaf (cL (cT (cR (cL (cR (cR (cR (bd Tryd.f7))))))))) (.leaf (cR (cT (cR (cL (cR (cR (cR (bd Tryd.f7)))))))))) (.leaf (cE (cR (cL (cR (cR (cR (bd Tryd.f7)))))))))) (.seq (.leaf (cL (cR (cR (cR (cR (bd Tryd.f7))))))) (.seq (.leaf (cL (cR (cR (cR (cR (cR (bd Tryd.f7)))))))) (.seq (.seq (.leaf (cL (cL (cR (cR (cR (cR (cR (cR (bd Tryd.f7)))))))))) (.cnd (.tmp 44) (.seq (.leaf (cL (cT (cR (cL (cR (cR (cR (cR (cR (cR (bd Tryd.f7)))))))))))) (.leaf (cR (cT (cR (cL (cR (cR (cR (cR (cR (cR (bd Tryd.f7))))))))))))) (.leaf (cE (cR (cL (cR (cR (cR (cR (cR (cR (bd Tryd.f7))))))))))))) (.cut 11 (.seq (.leaf (cL (cR (cR (cR (cR (cR (cR (cR (bd Tryd.f7)))))))))) (.seq (.seq (.leaf (cL (cL (cR (cR (cR (cR (cR (cR (cR (cR (bd Tryd.f7)))))))))))) (.block 0 (.loop 9 (.seq (.seq (.leaf (cL (cL (cB (cB (cR (cL (cR (cR (cR (cR (cR (cR (cR (cR (bd Tryd.f7)))))))))))))))) (.cnd (.tmp 48) (.leaf (cT (cR (cL (cB (cB (cR (cL (cR (cR (cR (cR (cR (cR (cR (cR (bd Tryd.f7))))))))))))))))) (.leaf (cE (cR (cL (cB (cB (cR (cL (cR (cR (cR (cR (cR (cR (cR (cR (bd Tryd.f7))))))))))))))))))) (.seq (.block 1 (.seq (.leaf (cL (cB (cL (cR (cB (cB (cR (cL (cR (cR (cR (cR (cR (cR (cR (cR (bd Tryd.f7)))))))))))))))))) (.seq (.leaf (cL (cR (cB (cL (cR (cB (cB (cR (cL (cR (cR (cR (cR (cR (cR (cR (cR (bd Tryd.f7))))))))))))))))))) (.seq (.leaf (cL (cR (cR (cB (cL (cR (cB (cB (cR (cL (cR (cR (cR (cR (cR (cR (cR (cR (bd Tryd.f7)))))))))))))))))))) (.seq (.seq (.leaf (cL (cL (cR (cR (cR (cB (cL (cR (cB (cB (cR (cL (cR (cR (cR (cR (cR (cR (cR (cR (bd Tryd.f7)))))))))))))))))))))) (.cnd (.tmp 88) (.seq (.leaf (cL (cT (cR (cL (cR (cR (cR (cB (cL (cR (cB (cB (cR (cL (cR (cR (cR (cR (cR (cR (cR (cR (bd Tryd.f7)))))))))))))))))))))))) (.leaf (cR (cT (cR (cL (cR (cR (cR (cB (cL (cR (cB (cB (cR (cL (cR (cR (cR (cR (cR (cR (cR (cR (bd Tryd.f7))))))))))))))))))))))))) (.leaf (cE (cR (cL (cR (cR (cR (cB (cL (cR (cB (cB (cR (cL (cR (cR (cR (cR (cR (cR (cR (cR (bd Tryd.f7))))))))))))))))))))))))) (.cut 10 (.leaf (cR (cR (cR (cR (cB (cL (cR (cB (cB (cR (cL (cR (cR (cR (cR (cR (cR (cR (cR (bd Tryd.f7))))))))))))))))))))))))))) (.leaf (cR (cR (cB (cB (cR (cL (cR (cR (cR (cR (cR (cR (cR (cR (bd Tryd.f7))))))))))))))))))))) (.cut 8 (.seq (.leaf (cL (cR (cR (cR (cR (cR (cR (cR (cR (cR (bd Tryd.f7)))))))))))) (.seq (.seq (.leaf (cL (cL (cR (cR (cR (cR (cR (cR (cR (cR (cR (cR (bd Tryd.f7)))))))))))))) (.cnd (.tmp 117) (.seq (.leaf (cL (cT (cR (cL (cR (cR (cR (cR (cR (cR (cR (cR (cR (cR (bd Tryd.f7)))))))))))))))) (.leaf (cR (cT (cR (cL (cR (cR (cR (cR (cR (cR (cR (cR (cR (cR (bd Tryd.f7))))))))))))))))) (.leaf (cE (cR (cL (cR (cR (cR (cR (cR (cR (cR (cR (cR (cR (bd Tryd.f7))))))))))))))))) (.cut 7 (.seq (.seq (.leaf (cL (cL (cR (cR (cR (cR (cR (cR (cR (cR (cR (cR (cR (bd Tryd.f7))))))))))))))) (.block 2 (.loop 2 (.seq (.seq (.leaf (cL (cL (cB (cB (cR (cL (cR (cR (cR (cR (cR (cR (cR (cR (cR (cR (cR (bd Tryd.f7))))))))))))))))))) (.cnd (.tmp 121) (.leaf (cT (cR (cL (cB (cB (cR (cL (cR (cR (cR (cR (cR (cR (cR (cR (cR (cR (cR (bd Tryd.f7)))))))))))))))))))) (.leaf (cE (cR (cL (cB (cB (cR (cL (cR (cR (cR (cR (cR (cR (cR (cR (cR (cR (cR (bd Tryd.f7)))))))))))))))))))))) (.seq (.block 3 (.seq (.leaf (cL (cB (cL (cR (cB (cB (cR (cL (cR (cR (cR (cR (cR (cR (cR (cR (cR (cR (cR (bd Tryd.f7))))))))))))))))))))) (.seq (.seq (.leaf (cL (cL (cR (cB (cL (cR (cB (cB (cR (cL (cR (cR (cR (cR (cR (cR (cR (cR (cR (cR (cR (bd Tryd.f7))))))))))))))))))))))) (.block 4 (.loop 5 (.seq (.seq (.leaf (cL (cL (cB (cB (cR (cL (cR (cB (cL (cR (cB (cB (cR (cL (cR (cR (cR (cR (cR (cR (cR (cR (cR (cR (cR (bd Tryd.f7))))))))))))))))))))))))))) (.cnd (.tmp 128) (.leaf (cT (cR (cL (cB (cB (cR (cL (cR (cB (cL (cR (cB (cB (cR (cL (cR (cR (cR (cR (cR (cR (cR (cR (cR (cR (cR (bd Tryd.f7)))))))))))))))))))))))))))) (.leaf (cE (cR (cL (cB (cB (cR (cL (cR (cB (cL (cR (cB (cB (cR (cL (cR (cR (cR (cR (cR (cR (cR (cR (cR (cR (cR (bd Tryd.f7)))))))))))))))))))))))))))))) (.seq (.block 5 (.seq (.leaf (cL (cB (cL (cR (cB (cB (cR (cL (cR (cB (cL (cR (cB (cB (cR (cL (cR (cR (cR (cR (cR (cR (cR (cR (cR (cR (cR (bd Tryd.f7))))))))))))))))))))))))))))) (.cnd (.tmp 148) (.cut 6 (.leaf (cT (cR (cB (cL (cR (cB (cB (cR (cL (cR (cB (cL (cR (cB (cB (cR (cL (cR (cR (cR (cR (cR (cR (cR (cR (cR (cR (cR (bd Tryd.f7))))))))))))))))))))))))))))))) (.leaf (cE (cR (cB (cL (cR (cB (cB (cR (cL (cR (cB (cL (cR (cB (cB (cR (cL (cR (cR (cR (cR (cR (cR (cR (cR (cR (cR (cR (bd Tryd.f7))))))))))))))))))))))))))))))))) (.leaf (cR (cR (cB (cB (cR (cL (cR (cB (cL (cR (cB (cB (cR (cL (cR (cR (cR (cR (cR (cR (cR (cR (cR (cR (cR (bd Tryd.f7)))))))))))))))))))))))))))))))) (.cut 4 (.seq (.seq (.leaf (cL (cL (cR (cR (cB (cL (cR (cB (cB (cR (cL (cR (cR (cR (cR (cR (cR (cR (cR (cR (cR (cR (bd Tryd.f7)))))))))))))))))))))))) (.cnd (.tmp 156) (.leaf (cT (cR (cL (cR (cR (cB (cL (cR (cB (cB (cR (cL (cR (cR (cR (cR (cR (cR (cR (cR (cR (cR (cR (bd Tryd.f7))))))))))))))))))))))))) (.leaf (cE (cR (cL (cR (cR (cB (cL (cR (cB (cB (cR (cL (cR (cR (cR (cR (cR (cR (cR (cR (cR (cR (cR (bd Tryd.f7))))))))))))))))))))))))))) (.cut 3 (.seq (.leaf (cL (cR (cR (cR (cB (cL (cR (cB (cB (cR (cL (cR (cR (cR (cR (cR (cR (cR (cR (cR (cR (cR (bd Tryd.f7)))))))))))))))))))))))) (.cnd (.tmp 163) (.seq (.leaf (cL (cT (cR (cR (cR (cR (cB (cL (cR (cB (cB (cR (cL (cR (cR (cR (cR (cR (cR (cR (cR (cR (cR (cR (bd Tryd.f7)))))))))))))))))))))))))) (.leaf (cR (cT (cR (cR (cR (cR (cB (cL (cR (cB (cB (cR (cL (cR (cR (cR (cR (cR (cR (cR (cR (cR (cR (cR (bd Tryd.f7))))))))))))))))))))))))))) (.leaf (cE (cR (cR (cR (cR (cB (cL (cR (cB (cB (cR (cL (cR (cR (cR (cR (cR (cR (cR (cR (cR (cR (cR (bd Tryd.f7))))))))))))))))))))))))))))))))) (.leaf (cR (cR (cB (cB (cR (cL (cR (cR (cR (cR (cR (cR (cR (cR (cR (cR (cR (bd Tryd.f7)))))))))))))))))))))))) (.cut 1 (.seq (.leaf (cL (cR (cR (cR (cR (cR (cR (cR (cR (cR (cR (cR (cR (bd Tryd.f7))))))))))))))) (.leaf (cR (cR (cR (cR (cR (cR (cR (cR (cR (cR (cR (cR (cR (bd Tryd.f7))))))))))))))))))))))))))))))))) (J := trystlaw24_MixDrops.J0 R) LfYtoclhecldmahiaaDoor.mixed Tryd.func7 (by kernel_rfl) (by kernel_rfl) (mkSeq (mkSeq (mkSeq (mkSeq (mkSeq (mkSeq (mkSeq (mkCut (cutDef [(0, .slice), (3, .ptr), (4, (.int .i64)), (6, (.int .i64))] (fun x w => trystlaw24_MixDrops.c11 R x.1 x.2.1 x.2.2.1 x.2.2.2 w) (fun _ _ => by kernel_rfl) (fun _ _ => by kernel_rfl)) (mkSeq (mkSeq (mkCut (cutDef [(0, .slice), (3, .ptr), (6, (.int .i64)), (8, .slice), (9, .slice)] (fun x w => trystlaw24_MixDrops.c8 R x.1 x.2.1 x.2.2.1 x.2.2.2.1 x.2.2.2.2 w) (fun _ _ => by kernel_rfl) (fun _ _ => by kernel_rfl)) (mkSeq (mkSeq (mkCut (cutDef [(0, .slice), (6, (.int .i64)), (8, .slice), (9, .slice), (18, .slice)] (fun x w => trystlaw24_MixDrops.c7 R x.1 x.2.1 x.2.2.1 x.2.2.2.1 x.2.2.2.2 w) (fun _ _ => by kernel_rfl) (fun _ _ => by kernel_rfl)) (mkSeq (mkCut (cutDef [] (fun x w => trystlaw24_MixDrops.c1 R w) (fun _ _ => by kernel_rfl) (fun _ _ => by kernel_rfl)) (mkSeq mkLeaf mkLeaf)) (mkSeq (mkBlock (mkLoop (loopDef LfYtoclhecldmahiaaDoor.mixed [(0, .slice), (6, (.int .i64)), (8, .slice), (9, .slice), (18, .slice), (19, (.int .i64))] (by kernel_rfl) (fun M2 x w => trystlaw24_MixDrops.b2 R (fun y0 y1 y2 y3 y4 y5 w => M2 (y0, y1, y2, y3, y4, y5) w) x.1 x.2.1 x.2.2.1 x.2.2.2.1 x.2.2.2.2.1 x.2.2.2.2.2 w) (fun M2 => trystlaw24_MixDrops.J2 R (fun y0 y1 y2 y3 y4 y5 w => M2 (y0, y1, y2, y3, y4, y5) w)) (fun _ _ _ => by kernel_rfl) (fun M2 => (mkSeq (mkSeq mkLeaf (mkBlock (mkSeq (mkSeq (mkCut (cutDef [(0, .slice), (6, (.int .i64)), (8, .slice), (9, .slice), (18, .slice), (19, (.int .i64)), (20, (.int .i64)), (21, (.int .i64))] (fun x w => trystlaw24_MixDrops.c4 R (fun y0 y1 y2 y3 y4 y5 w => M2 (y0, y1, y2, y3, y4, y5) w) x.1 x.2.1 x.2.2.1 x.2.2.2.1 x.2.2.2.2.1 x.2.2.2.2.2.1 x.2.2.2.2.2.2.1 x.2.2.2.2.2.2.2 w) (fun _ _ => by kernel_rfl) (fun _ _ => by kernel_rfl)) (mkSeq (mkCut (cutDef [(0, .slice), (6, (.int .i64)), (8, .slice), (9, .slice), (18, .slice), (19, (.int .i64)), (21, (.int .i64))] (fun x w => trystlaw24_MixDrops.c3 R (fun y0 y1 y2 y3 y4 y5 w => M2 (y0, y1, y2, y3, y4, y5) w) x.1 x.2.1 x.2.2.1 x.2.2.2.1 x.2.2.2.2.1 x.2.2.2.2.2.1 x.2.2.2.2.2.2 w) (fun _ _ => by kernel_rfl) (fun _ _ => by kernel_rfl)) (mkSeq (mkCnd (mkSeq mkLeaf mkLeaf) mkLeaf) mkLeaf)) (mkSeq (mkCnd mkLeaf mkLeaf) mkLeaf))) (mkSeq (mkBlock (mkLoop (loopDef LfYtoclhecldmahiaaDoor.mixed [(0, .slice), (6, (.int .i64)), (8, .slice), (9, .slice), (18, .slice), (19, (.int .i64)), (20, (.int .i64)), (21, (.int .i64)), (22, (.int .i64))] (by kernel_rfl) (fun M5 x w => trystlaw24_MixDrops.b5 R (fun y0 y1 y2 y3 y4 y5 w => M2 (y0, y1, y2, y3, y4, y5) w) (fun y0 y1 y2 y3 y4 y5 y6 y7 y8 w => M5 (y0, y1, y2, y3, y4, y5, y6, y7, y8) w) x.1 x.2.1 x.2.2.1 x.2.2.2.1 x.2.2.2.2.1 x.2.2.2.2.2.1 x.2.2.2.2.2.2.1 x.2.2.2.2.2.2.2.1 x.2.2.2.2.2.2.2.2 w) (fun M5 => trystlaw24_MixDrops.J5 R (fun y0 y1 y2 y3 y4 y5 w => M2 (y0, y1, y2, y3, y4, y5) w) (fun y0 y1 y2 y3 y4 y5 y6 y7 y8 w => M5 (y0, y1, y2, y3, y4, y5, y6, y7, y8) w)) (fun _ _ _ => by kernel_rfl) (fun M5 => (mkSeq (mkSeq mkLeaf (mkBlock (mkSeq (mkCnd (mkCut (cutDef [(0, .slice), (6, (.int .i64)), (8, .slice), (9, .slice), (18, .slice), (19, (.int .i64)), (20, (.int .i64)), (22, (.int .i64))] (fun x w => trystlaw24_MixDrops.c6 R (fun y0 y1 y2 y3 y4 y5 w => M2 (y0, y1, y2, y3, y4, y5) w) (fun y0 y1 y2 y3 y4 y5 y6 y7 y8 w => M5 (y0, y1, y2, y3, y4, y5, y6, y7, y8) w) x.1 x.2.1 x.2.2.1 x.2.2.2.1 x.2.2.2.2.1 x.2.2.2.2.2.1 x.2.2.2.2.2.2.1 x.2.2.2.2.2.2.2 w) (fun _ _ => by kernel_rfl) (fun _ _ => by kernel_rfl)) mkLeaf) mkLeaf) mkLeaf))) (mkSeq (mkCnd mkLeaf mkLeaf) mkLeaf))) (fun x w => trystlaw24_MixDrops.l5 R (fun y0 y1 y2 y3 y4 y5 w => M2 (y0, y1, y2, y3, y4, y5) w) x.1 x.2.1 x.2.2.1 x.2.2.2.1 x.2.2.2.2.1 x.2.2.2.2.2.1 x.2.2.2.2.2.2.1 x.2.2.2.2.2.2.2.1 x.2.2.2.2.2.2.2.2 w) (by rintro ⟨c0, c1, c2, c3, c4, c5, s0⟩ w ⟨I, μ, h0, h1⟩; refine ⟨fun y w => y.1 = c0 ∧ y.2.1 = c1 ∧ y.2.2.1 = c2 ∧ y.2.2.2.1 = c3 ∧ y.2.2.2.2.1 = c4 ∧ y.2.2.2.2.2.1 = c5 ∧ I y.2.2.2.2.2.2 w, fun y w => μ y.2.2.2.2.2.2 w, ⟨rfl, rfl, rfl, rfl, rfl, rfl, h0⟩, ?_⟩; rintro ⟨d0, d1, d2, d3, d4, d5, t0⟩ w ⟨e0, e1, e2, e3, e4, e5, hI⟩; dsimp only at e0 e1 e2 e3 e4 e5 hI; subst e0; subst e1; subst e2; subst e3; subst e4; subst e5; exact h1 _ _ hI) (fun _ _ => by kernel_rfl)))) mkLeaf)) mkLeaf))) (mkSeq (mkCnd mkLeaf mkLeaf) mkLeaf))) (fun x w => trystlaw24_MixDrops.l2 R x.1 x.2.1 x.2.2.1 x.2.2.2.1 x.2.2.2.2.1 x.2.2.2.2.2 w) (by rintro ⟨c0, c1, c2, c3, c4, s0⟩ w ⟨I, μ, h0, h1⟩; refine ⟨fun y w => y.1 = c0 ∧ y.2.1 = c1 ∧ y.2.2.1 = c2 ∧ y.2.2.2.1 = c3 ∧ y.2.2.2.2.1 = c4 ∧ I y.2.2.2.2.2 w, fun y w => μ y.2.2.2.2.2 w, ⟨rfl, rfl, rfl, rfl, rfl, h0⟩, ?_⟩; rintro ⟨d0, d1, d2, d3, d4, t0⟩ w ⟨e0, e1, e2, e3, e4, hI⟩; dsimp only at e0 e1 e2 e3 e4 hI; subst e0; subst e1; subst e2; subst e3; subst e4; exact h1 _ _ hI) (fun _ _ => by kernel_rfl)))) mkLeaf))) (mkSeq (mkCnd (mkSeq mkLeaf mkLeaf) mkLeaf) mkLeaf)) mkLeaf)) (mkSeq (mkBlock (mkLoop (loopDef LfYtoclhecldmahiaaDoor.mixed [(0, .slice), (3, .ptr), (4, (.int .i64)), (6, (.int .i64)), (8, .slice), (9, .slice), (10, (.int .i64))] (by kernel_rfl) (fun M9 x w => trystlaw24_MixDrops.b9 R (fun y0 y1 y2 y3 y4 y5 y6 w => M9 (y0, y1, y2, y3, y4, y5, y6) w) x.1 x.2.1 x.2.2.1 x.2.2.2.1 x.2.2.2.2.1 x.2.2.2.2.2.1 x.2.2.2.2.2.2 w) (fun M9 => trystlaw24_MixDrops.J9 R (fun y0 y1 y2 y3 y4 y5 y6 w => M9 (y0, y1, y2, y3, y4, y5, y6) w)) (fun _ _ _ => by kernel_rfl) (fun M9 => (mkSeq (mkSeq mkLeaf (mkBlock (mkSeq (mkSeq (mkSeq (mkSeq (mkCut (cutDef [(0, .slice), (3, .ptr), (4, (.int .i64)), (6, (.int .i64)), (8, .slice), (9, .slice), (10, (.int .i64)), (13, (.int .i64)), (15, (.int .i64))] (fun x w => trystlaw24_MixDrops.c10 R (fun y0 y1 y2 y3 y4 y5 y6 w => M9 (y0, y1, y2, y3, y4, y5, y6) w) x.1 x.2.1 x.2.2.1 x.2.2.2.1 x.2.2.2.2.1 x.2.2.2.2.2.1 x.2.2.2.2.2.2.1 x.2.2.2.2.2.2.2.1 x.2.2.2.2.2.2.2.2 w) (fun _ _ => by kernel_rfl) (fun _ _ => by kernel_rfl)) mkLeaf) (mkSeq (mkCnd (mkSeq mkLeaf mkLeaf) mkLeaf) mkLeaf)) mkLeaf) mkLeaf) mkLeaf))) (mkSeq (mkCnd mkLeaf mkLeaf) mkLeaf))) (fun x w => trystlaw24_MixDrops.l9 R x.1 x.2.1 x.2.2.1 x.2.2.2.1 x.2.2.2.2.1 x.2.2.2.2.2.1 x.2.2.2.2.2.2 w) (by rintro ⟨c0, c1, c2, c3, s0⟩ w ⟨I, μ, h0, h1⟩; refine ⟨fun y w => y.1 = c0 ∧ y.2.1 = c1 ∧ y.2.2.1 = c2 ∧ y.2.2.2.1 = c3 ∧ I y.2.2.2.2 w, fun y w => μ y.2.2.2.2 w, ⟨rfl, rfl, rfl, rfl, h0⟩, ?_⟩; rintro ⟨d0, d1, d2, d3, t0⟩ w ⟨e0, e1, e2, e3, hI⟩; dsimp only at e0 e1 e2 e3 hI; subst e0; subst e1; subst e2; subst e3; exact h1 _ _ hI) (fun _ _ => by kernel_rfl)))) mkLeaf)) mkLeaf)) (mkSeq (mkCnd (mkSeq mkLeaf mkLeaf) mkLeaf) mkLeaf)) mkLeaf) mkLeaf) (mkSeq (mkCnd (mkSeq mkLeaf mkLeaf) mkLeaf) mkLeaf)) mkLeaf) (mkSeq (mkCnd (mkSeq mkLeaf mkLeaf) mkLeaf) mkLeaf)) mkLeaf) (kcast (by kernel_rfl) h)

/-! trystkeep_Regs -/
def trystkeep_Regs.b1 (R : Value → World → Prop) (N1 : Sl → Sl → Int → World → Prop) (a0 : Sl) (b1 : Sl) (i5 : Int) (w : World) : Prop :=
  cond (decide ((i5 : Int) < ((a0.len : Nat) : Int)))
  (0 ≤ (i5 : Int) ∧ i5 < ((a0.len : Nat) : Int) ∧ ∃ q_1 : Addr, a0.a = some q_1 ∧
  ∃ x_2 : Int, w.cell? (q_1.add ((i5 : Int).toNat * 2)) = some (.int .i64 x_2) ∧
  0 ≤ (i5 : Int) ∧ i5 < ((b1.len : Nat) : Int) ∧ ∃ q_3 : Addr, b1.a = some q_3 ∧
  ∃ x_4 : Int, w.cell? (q_3.add ((i5 : Int).toNat * 2)) = some (.int .i64 x_4) ∧
  cond ((x_2 : Int) != x_4)
  (R (.bool false) w.drew)
  (0 ≤ (i5 : Int) ∧ i5 < ((a0.len : Nat) : Int) ∧ ∃ q_5 : Addr, a0.a = some q_5 ∧
  ∃ x_6 : Int, w.cell? ((q_5.add ((i5 : Int).toNat * 2)).add 1) = some (.int .i64 x_6) ∧
  0 ≤ (i5 : Int) ∧ i5 < ((b1.len : Nat) : Int) ∧ ∃ q_7 : Addr, b1.a = some q_7 ∧
  ∃ x_8 : Int, w.cell? ((q_7.add ((i5 : Int).toNat * 2)).add 1) = some (.int .i64 x_8) ∧
  cond ((x_6 : Int) != x_8)
  (R (.bool false) w.drew)
  ((let i5_8 : Int := (IntKind.i64.wrap (i5 + 1));
  N1 a0 b1 i5_8 w.drew))))
  (R (.bool true) w)

def trystkeep_Regs.l1 (R : Value → World → Prop) (a0 : Sl) (b1 : Sl) (i5 : Int) (w : World) : Prop :=
  ∃ (I : Int → World → Prop) (μ : Int → World → Nat), I i5 w ∧ ∀ s w, I s w → trystkeep_Regs.b1 R (fun a0' b1' i5' w' => (a0' = a0 ∧ b1' = b1 ∧ I i5' w') ∧ μ i5' w' < μ s w) a0 b1 s w

def trystkeep_Regs.main (R : Value → World → Prop) (a0 : Sl) (b1 : Sl) (w : World) : Prop :=
  cond ((((a0.len : Nat) : Int) : Int) != ((b1.len : Nat) : Int))
  (R (.bool false) w)
  (trystkeep_Regs.l1 R a0 b1 0 w)

def trystkeep_Regs.J0 (R : Value → World → Prop) (k : Nat) (fr : Fr) (w : World) : Prop :=
  cond (Nat.beq k 1) (dec [(0, .slice), (1, .slice), (5, (.int .i64))] fr fun x => trystkeep_Regs.l1 R x.1 x.2.1 x.2.2 w) (False)

set_option maxRecDepth 100000 in
theorem trystkeep_Regs.lift {R : Value → World → Prop} {a0 : Sl} {b1 : Sl} {w : World} (h : trystkeep_Regs.main R a0 b1 w) : CallsV Tryd.prog n_trystkeep_Regs #[.slice a0.a a0.len a0.cap, .slice b1.a b1.len b1.cap] w R :=
  liftCalls (c := (.seq (.leaf (cL (bd Tryd.f52))) (.seq (.seq (.leaf (cL (cL (cR (bd Tryd.f52))))) (.cnd (.tmp 10) (.seq (.leaf (cL (cT (cR (cL (cR (bd Tryd.f52))))))) (.leaf (cR (cT (cR (cL (cR (bd Tryd.f52)))))))) (.leaf (cE (cR (cL (cR (bd Tryd.f52)))))))) (.seq (.seq (.leaf (cL (cL (cR (cR (bd Tryd.f52)))))) (.block 0 (.loop 1 (.seq (.seq (.leaf (cL (cL (cB (cB (cR (cL (cR (cR (bd Tryd.f52)))))))))) (.cnd (.tmp 14) (.leaf (cT (cR (cL (cB (cB (cR (cL (cR (cR (bd Tryd.f52))))))))))) (.leaf (cE (cR (cL (cB (cB (cR (cL (cR (cR (bd Tryd.f52))))))))))))) (.seq (.block 1 (.seq (.leaf (cL (cB (cL (cR (cB (cB (cR (cL (cR (cR (bd Tryd.f52)))))))))))) (.cnd (.tmp 40) (.seq (.leaf (cL (cT (cR (cB (cL (cR (cB (cB (cR (cL (cR (cR (bd Tryd.f52)))))))))))))) (.leaf (cR (cT (cR (cB (cL (cR (cB (cB (cR (cL (cR (cR (bd Tryd.f52))))))))))))))) (.leaf (cE (cR (cB (cL (cR (cB (cB (cR (cL (cR (cR (bd Tryd.f52)))))))))))))))) (.leaf (cR (cR (cB (cB (cR (cL (cR (cR (bd Tryd.f52))))))))))))))) (.seq (.leaf (cL (cR (cR (cR (bd Tryd.f52)))))) (.leaf (cR (cR (cR (cR (bd Tryd.f52))))))))))) (J := trystkeep_Regs.J0 R) LfYtoclhecldmahiaaDoor.mixed Tryd.func52 (by kernel_rfl) (by kernel_rfl) (mkSeq (mkSeq (mkSeq (mkSeq mkLeaf mkLeaf) (mkSeq (mkBlock (mkLoop (loopDef LfYtoclhecldmahiaaDoor.mixed [(0, .slice), (1, .slice), (5, (.int .i64))] (by kernel_rfl) (fun M1 x w => trystkeep_Regs.b1 R (fun y0 y1 y2 w => M1 (y0, y1, y2) w) x.1 x.2.1 x.2.2 w) (fun M1 => fun _ _ _ => False) (fun _ _ _ => by kernel_rfl) (fun M1 => (mkSeq (mkSeq mkLeaf (mkBlock (mkSeq (mkCnd (mkSeq mkLeaf mkLeaf) mkLeaf) mkLeaf))) (mkSeq (mkCnd mkLeaf mkLeaf) mkLeaf))) (fun x w => trystkeep_Regs.l1 R x.1 x.2.1 x.2.2 w) (by rintro ⟨c0, c1, s0⟩ w ⟨I, μ, h0, h1⟩; refine ⟨fun y w => y.1 = c0 ∧ y.2.1 = c1 ∧ I y.2.2 w, fun y w => μ y.2.2 w, ⟨rfl, rfl, h0⟩, ?_⟩; rintro ⟨d0, d1, t0⟩ w ⟨e0, e1, hI⟩; dsimp only at e0 e1 hI; subst e0; subst e1; exact h1 _ _ hI) (fun _ _ => by kernel_rfl)))) mkLeaf)) (mkSeq (mkCnd (mkSeq mkLeaf mkLeaf) mkLeaf) mkLeaf)) mkLeaf) (kcast (by kernel_rfl) h)

end Go.Proofs.YtoclhecldmahiaaDoor
