/-
  What the code of these functions comes to, and that it suffices for the call. Written by a program of ours, for this claim.
-/
import Derived.Test.YtledhokhcoeeeaaDoorStFns
set_option linter.unusedVariables false
set_option linter.unusedVariables false
namespace Go.Proofs.YtledhokhcoeeeaaDoor
open Go.Lf
abbrev n_trystlaw14_StoreTwice : Nat := 3
/-! trystlaw14_StoreTwice -/
def trystlaw14_StoreTwice.c1 (R : Value → World → Prop) (w : World) : Prop :=
  CallsV Tryd.prog n_trystlaw14_wakes #[] w (fun v_1 w1 =>
  ∃ b_2 : Bool, v_1 = .bool b_2 ∧
  R (.bool b_2) w1)

def trystlaw14_StoreTwice.c3 (R : Value → World → Prop) (N2 : Sl → Sl → Option Addr → Option Addr → Sl → Sl → Int → World → Prop) (a0 : Sl) (b1 : Sl) (s9 : Option Addr) (t10 : Option Addr) (x11 : Sl) (y12 : Sl) (i13 : Int) (w : World) : Prop :=
  CallsV Tryd.prog n_store_Store_State #[.pointer s9] w (fun v_3 w2 =>
  ∃ (a_4 : Option Addr) (l_5 c_6 : Nat), v_3 = .slice a_4 l_5 c_6 ∧
  CallsV Tryd.prog n_trystkeep_SpoilBytes #[.slice a_4 l_5 c_6] w2 (fun v_7 w3 =>
  v_7 = .tuple #[] ∧
  CallsV Tryd.prog n_store_Store_State #[.pointer s9] w3 (fun v_8 w4 =>
  ∃ (a_9 : Option Addr) (l_10 c_11 : Nat), v_8 = .slice a_9 l_10 c_11 ∧
  CallsV Tryd.prog n_trystkeep_Bytes #[.slice a_9 l_10 c_11, .slice x11.a x11.len x11.cap] w4 (fun v_12 w5 =>
  ∃ b_13 : Bool, v_12 = .bool b_13 ∧
  cond (!b_13)
  (R (.bool false) w5)
  (CallsV Tryd.prog n_store_Store_State #[.pointer t10] w5 (fun v_14 w6 =>
  ∃ (a_15 : Option Addr) (l_16 c_17 : Nat), v_14 = .slice a_15 l_16 c_17 ∧
  CallsV Tryd.prog n_trystkeep_Bytes #[.slice a_15 l_16 c_17, .slice y12.a y12.len y12.cap] w6 (fun v_18 w7 =>
  ∃ b_19 : Bool, v_18 = .bool b_19 ∧
  cond (!b_19)
  (R (.bool false) w7)
  ((let i13_19 : Int := (IntKind.i64.wrap (i13 + 1));
  N2 a0 b1 s9 t10 x11 y12 i13_19 w7)))))))))

def trystlaw14_StoreTwice.c4 (R : Value → World → Prop) (N2 : Sl → Sl → Option Addr → Option Addr → Sl → Sl → Int → World → Prop) (a0 : Sl) (b1 : Sl) (s9 : Option Addr) (t10 : Option Addr) (x11 : Sl) (y12 : Sl) (i13 : Int) (w : World) : Prop :=
  cond (decide ((i13 : Int) < ((b1.len : Nat) : Int)))
  (0 ≤ (i13 : Int) ∧ i13 < ((b1.len : Nat) : Int) ∧ ∃ q_21 : Addr, b1.a = some q_21 ∧
  ∃ (a_22 : Option Addr) (l_23 c_24 : Nat), w.cell? (q_21.add (i13 : Int).toNat) = some (.slice a_22 l_23 c_24) ∧
  cond (decide ((((l_23 : Nat) : Int) : Int) > 500))
  (R (.bool true) w)
  (0 ≤ (i13 : Int) ∧ i13 < ((b1.len : Nat) : Int) ∧ ∃ q_25 : Addr, b1.a = some q_25 ∧
  ∃ (a_26 : Option Addr) (l_27 c_28 : Nat), w.cell? (q_25.add (i13 : Int).toNat) = some (.slice a_26 l_27 c_28) ∧
  CallsV Tryd.prog n_trystkeep_Twin #[.slice a_26 l_27 c_28] w (fun v_29 w8 =>
  ∃ (a_30 : Option Addr) (l_31 c_32 : Nat), v_29 = .slice a_30 l_31 c_32 ∧
  0 ≤ (i13 : Int) ∧ i13 < ((b1.len : Nat) : Int) ∧ ∃ q_33 : Addr, b1.a = some q_33 ∧
  ∃ (a_34 : Option Addr) (l_35 c_36 : Nat), w8.cell? (q_33.add (i13 : Int).toNat) = some (.slice a_34 l_35 c_36) ∧
  CallsV Tryd.prog n_store_Store_Save #[.pointer t10, .slice a_34 l_35 c_36] w8 (fun v_37 w9 =>
  ∃ x_38 : Int, v_37 = .int .i64 x_38 ∧
  cond ((x_38 : Int) != 0)
  (R (.bool false) w9)
  (trystlaw14_StoreTwice.c3 R N2 a0 b1 s9 t10 x11 ⟨a_30, l_31, c_32⟩ i13 w9)))))
  (trystlaw14_StoreTwice.c3 R N2 a0 b1 s9 t10 x11 y12 i13 w)

def trystlaw14_StoreTwice.c5 (R : Value → World → Prop) (N2 : Sl → Sl → Option Addr → Option Addr → Sl → Sl → Int → World → Prop) (a0 : Sl) (b1 : Sl) (s9 : Option Addr) (t10 : Option Addr) (x11 : Sl) (y12 : Sl) (i13 : Int) (w : World) : Prop :=
  cond (decide ((i13 : Int) < ((a0.len : Nat) : Int)))
  (0 ≤ (i13 : Int) ∧ i13 < ((a0.len : Nat) : Int) ∧ ∃ q_39 : Addr, a0.a = some q_39 ∧
  ∃ (a_40 : Option Addr) (l_41 c_42 : Nat), w.cell? (q_39.add (i13 : Int).toNat) = some (.slice a_40 l_41 c_42) ∧
  cond (decide ((((l_41 : Nat) : Int) : Int) > 500))
  (R (.bool true) w)
  (0 ≤ (i13 : Int) ∧ i13 < ((a0.len : Nat) : Int) ∧ ∃ q_43 : Addr, a0.a = some q_43 ∧
  ∃ (a_44 : Option Addr) (l_45 c_46 : Nat), w.cell? (q_43.add (i13 : Int).toNat) = some (.slice a_44 l_45 c_46) ∧
  CallsV Tryd.prog n_trystkeep_Twin #[.slice a_44 l_45 c_46] w (fun v_47 w10 =>
  ∃ (a_48 : Option Addr) (l_49 c_50 : Nat), v_47 = .slice a_48 l_49 c_50 ∧
  0 ≤ (i13 : Int) ∧ i13 < ((a0.len : Nat) : Int) ∧ ∃ q_51 : Addr, a0.a = some q_51 ∧
  ∃ (a_52 : Option Addr) (l_53 c_54 : Nat), w10.cell? (q_51.add (i13 : Int).toNat) = some (.slice a_52 l_53 c_54) ∧
  CallsV Tryd.prog n_store_Store_Save #[.pointer s9, .slice a_52 l_53 c_54] w10 (fun v_55 w11 =>
  ∃ x_56 : Int, v_55 = .int .i64 x_56 ∧
  cond ((x_56 : Int) != 0)
  (R (.bool false) w11)
  (trystlaw14_StoreTwice.c4 R N2 a0 b1 s9 t10 ⟨a_48, l_49, c_50⟩ y12 i13 w11)))))
  (trystlaw14_StoreTwice.c4 R N2 a0 b1 s9 t10 x11 y12 i13 w)

def trystlaw14_StoreTwice.b2 (R : Value → World → Prop) (N2 : Sl → Sl → Option Addr → Option Addr → Sl → Sl → Int → World → Prop) (a0 : Sl) (b1 : Sl) (s9 : Option Addr) (t10 : Option Addr) (x11 : Sl) (y12 : Sl) (i13 : Int) (w : World) : Prop :=
  cond (decide ((i13 : Int) < ((a0.len : Nat) : Int)))
  (trystlaw14_StoreTwice.c5 R N2 a0 b1 s9 t10 x11 y12 i13 w)
  (cond (decide ((i13 : Int) < ((b1.len : Nat) : Int)))
  (trystlaw14_StoreTwice.c5 R N2 a0 b1 s9 t10 x11 y12 i13 w)
  (trystlaw14_StoreTwice.c1 R w))

def trystlaw14_StoreTwice.l2 (R : Value → World → Prop) (a0 : Sl) (b1 : Sl) (s9 : Option Addr) (t10 : Option Addr) (x11 : Sl) (y12 : Sl) (i13 : Int) (w : World) : Prop :=
  ∃ (I : (Sl × Sl × Int) → World → Prop) (μ : (Sl × Sl × Int) → World → Nat), I (x11, y12, i13) w ∧ ∀ s w, I s w → trystlaw14_StoreTwice.b2 R (fun a0' b1' s9' t10' x11' y12' i13' w' => (a0' = a0 ∧ b1' = b1 ∧ s9' = s9 ∧ t10' = t10 ∧ I (x11', y12', i13') w') ∧ μ (x11', y12', i13') w' < μ s w) a0 b1 s9 t10 s.1 s.2.1 s.2.2 w

def trystlaw14_StoreTwice.c6 (R : Value → World → Prop) (a0 : Sl) (b1 : Sl) (s9 : Option Addr) (t10 : Option Addr) (w : World) : Prop :=
  trystlaw14_StoreTwice.l2 R a0 b1 s9 t10 ⟨none, 0, 0⟩ ⟨none, 0, 0⟩ 0 w

def trystlaw14_StoreTwice.c7 (R : Value → World → Prop) (a0 : Sl) (b1 : Sl) (c5 : Option Addr) (d7 : Option Addr) (w : World) : Prop :=
  CallsV Tryd.prog n_store_Open #[.pointer c5] w (fun v_57 w12 =>
  ∃ p_58 : Option Addr, ∃ x_59 : Int, v_57 = .tuple #[.pointer p_58, .int .i64 x_59] ∧
  CallsV Tryd.prog n_store_Open #[.pointer d7] w12 (fun v_60 w13 =>
  ∃ p_61 : Option Addr, ∃ x_62 : Int, v_60 = .tuple #[.pointer p_61, .int .i64 x_62] ∧
  cond ((x_59 : Int) != 0)
  (R (.bool false) w13)
  (cond ((x_62 : Int) != 0)
  (R (.bool false) w13)
  (cond ((p_58).isNone)
  (R (.bool false) w13)
  (cond ((p_61).isNone)
  (R (.bool false) w13)
  (trystlaw14_StoreTwice.c6 R a0 b1 p_58 p_61 w13))))))

def trystlaw14_StoreTwice.c8 (R : Value → World → Prop) (a0 : Sl) (b1 : Sl) (w : World) : Prop :=
  CallsV Tryd.prog n_disk_New #[.int .i64 512] w (fun v_63 w14 =>
  ∃ p_64 : Option Addr, ∃ x_65 : Int, v_63 = .tuple #[.pointer p_64, .int .i64 x_65] ∧
  CallsV Tryd.prog n_disk_New #[.int .i64 512] w14 (fun v_66 w15 =>
  ∃ p_67 : Option Addr, ∃ x_68 : Int, v_66 = .tuple #[.pointer p_67, .int .i64 x_68] ∧
  cond ((x_65 : Int) != 0)
  (R (.bool false) w15)
  (cond ((x_68 : Int) != 0)
  (R (.bool false) w15)
  (trystlaw14_StoreTwice.c7 R a0 b1 p_64 p_67 w15))))

def trystlaw14_StoreTwice.main (R : Value → World → Prop) (a0 : Sl) (b1 : Sl) (w : World) : Prop :=
  cond (decide ((((a0.len : Nat) : Int) : Int) > 10))
  (R (.bool true) w)
  (cond (decide ((((b1.len : Nat) : Int) : Int) > 10))
  (R (.bool true) w)
  (trystlaw14_StoreTwice.c8 R a0 b1 w))

def trystlaw14_StoreTwice.J2 (R : Value → World → Prop) (N2 : Sl → Sl → Option Addr → Option Addr → Sl → Sl → Int → World → Prop) (k : Nat) (fr : Fr) (w : World) : Prop :=
  cond (Nat.beq k 5) (dec [(0, .slice), (1, .slice), (9, .ptr), (10, .ptr), (11, .slice), (12, .slice), (13, (.int .i64))] fr fun x => trystlaw14_StoreTwice.c5 R N2 x.1 x.2.1 x.2.2.1 x.2.2.2.1 x.2.2.2.2.1 x.2.2.2.2.2.1 x.2.2.2.2.2.2 w) (cond (Nat.beq k 4) (dec [(0, .slice), (1, .slice), (9, .ptr), (10, .ptr), (11, .slice), (12, .slice), (13, (.int .i64))] fr fun x => trystlaw14_StoreTwice.c4 R N2 x.1 x.2.1 x.2.2.1 x.2.2.2.1 x.2.2.2.2.1 x.2.2.2.2.2.1 x.2.2.2.2.2.2 w) (cond (Nat.beq k 3) (dec [(0, .slice), (1, .slice), (9, .ptr), (10, .ptr), (11, .slice), (12, .slice), (13, (.int .i64))] fr fun x => trystlaw14_StoreTwice.c3 R N2 x.1 x.2.1 x.2.2.1 x.2.2.2.1 x.2.2.2.2.1 x.2.2.2.2.2.1 x.2.2.2.2.2.2 w) (False)))

def trystlaw14_StoreTwice.J0 (R : Value → World → Prop) (k : Nat) (fr : Fr) (w : World) : Prop :=
  cond (Nat.beq k 8) (dec [(0, .slice), (1, .slice)] fr fun x => trystlaw14_StoreTwice.c8 R x.1 x.2 w) (cond (Nat.beq k 7) (dec [(0, .slice), (1, .slice), (5, .ptr), (7, .ptr)] fr fun x => trystlaw14_StoreTwice.c7 R x.1 x.2.1 x.2.2.1 x.2.2.2 w) (cond (Nat.beq k 6) (dec [(0, .slice), (1, .slice), (9, .ptr), (10, .ptr)] fr fun x => trystlaw14_StoreTwice.c6 R x.1 x.2.1 x.2.2.1 x.2.2.2 w) (cond (Nat.beq k 2) (dec [(0, .slice), (1, .slice), (9, .ptr), (10, .ptr), (11, .slice), (12, .slice), (13, (.int .i64))] fr fun x => trystlaw14_StoreTwice.l2 R x.1 x.2.1 x.2.2.1 x.2.2.2.1 x.2.2.2.2.1 x.2.2.2.2.2.1 x.2.2.2.2.2.2 w) (cond (Nat.beq k 1) (dec [] fr fun x => trystlaw14_StoreTwice.c1 R w) (False)))))

set_option maxRecDepth 100000 in
theorem trystlaw14_StoreTwice.lift {R : Value → World → Prop} {a0 : Sl} {b1 : Sl} {w : World} (h : trystlaw14_StoreTwice.main R a0 b1 w) : CallsV Tryd.prog n_trystlaw14_StoreTwice #[.slice a0.a a0.len a0.cap, .slice b1.a b1.len b1.cap] w R :=
  liftCalls (c := (.seq (.leaf (cL (bd Tryd.f3))) (.seq (.seq (.leaf (cL (cL (cR (bd Tryd.f3))))) (.cnd (.tmp 21) (.seq (.leaf (cL (cT (cR (cL (cR (bd Tryd.f3))))))) (.leaf (cR (cT (cR (cL (cR (bd Tryd.f3)))))))) (.leaf (cE (cR (cL (cR (bd Tryd.f3)))))))) (.cut 8 (.seq (.leaf (cL (cR (cR (bd Tryd.f3))))) (.seq (.leaf (cL (cR (cR (cR (bd Tryd.f3)))))) (.seq (.seq (.leaf (cL (cL (cR (cR (cR (cR (bd Tryd.f3)))))))) (.cnd (.tmp 35) (.seq (.leaf (cL (cT (cR (cL (cR (cR (cR (cR (bd Tryd.f3)))))))))) (.leaf (cR (cT (cR (cL (cR (cR (cR (cR (bd Tryd.f3))))))))))) (.leaf (cE (cR (cL (cR (cR (cR (cR (bd Tryd.f3))))))))))) (.cut 7 (.seq (.leaf (cL (cR (cR (cR (cR (cR (bd Tryd.f3)))))))) (.seq (.leaf (cL (cR (cR (cR (cR (cR (cR (bd Tryd.f3))))))))) (.seq (.seq (.leaf (cL (cL (cR (cR (cR (cR (cR (cR (cR (bd Tryd.f3))))))))))) (.cnd (.tmp 59) (.seq (.leaf (cL (cT (cR (cL (cR (cR (cR (cR (cR (cR (cR (bd Tryd.f3))))))))))))) (.leaf (cR (cT (cR (cL (cR (cR (cR (cR (cR (cR (cR (bd Tryd.f3)))))))))))))) (.leaf (cE (cR (cL (cR (cR (cR (cR (cR (cR (cR (bd Tryd.f3)))))))))))))) (.cut 6 (.seq (.leaf (cL (cR (cR (cR (cR (cR (cR (cR (cR (bd Tryd.f3))))))))))) (.seq (.seq (.leaf (cL (cL (cR (cR (cR (cR (cR (cR (cR (cR (cR (bd Tryd.f3))))))))))))) (.block 0 (.loop 2 (.seq (.seq (.leaf (cL (cL (cB (cB (cR (cL (cR (cR (cR (cR (cR (cR (cR (cR (cR (bd Tryd.f3))))))))))))))))) (.cnd (.tmp 69) (.leaf (cT (cR (cL (cB (cB (cR (cL (cR (cR (cR (cR (cR (cR (cR (cR (cR (bd Tryd.f3)))))))))))))))))) (.leaf (cE (cR (cL (cB (cB (cR (cL (cR (cR (cR (cR (cR (cR (cR (cR (cR (bd Tryd.f3)))))))))))))))))))) (.cut 5 (.seq (.block 1 (.seq (.seq (.leaf (cL (cL (cB (cL (cR (cB (cB (cR (cL (cR (cR (cR (cR (cR (cR (cR (cR (cR (bd Tryd.f3)))))))))))))))))))) (.cnd (.tmp 75) (.seq (.seq (.leaf (cL (cL (cT (cR (cL (cB (cL (cR (cB (cB (cR (cL (cR (cR (cR (cR (cR (cR (cR (cR (cR (bd Tryd.f3))))))))))))))))))))))) (.cnd (.tmp 81) (.seq (.leaf (cL (cT (cR (cL (cT (cR (cL (cB (cL (cR (cB (cB (cR (cL (cR (cR (cR (cR (cR (cR (cR (cR (cR (bd Tryd.f3))))))))))))))))))))))))) (.leaf (cR (cT (cR (cL (cT (cR (cL (cB (cL (cR (cB (cB (cR (cL (cR (cR (cR (cR (cR (cR (cR (cR (cR (bd Tryd.f3)))))))))))))))))))))))))) (.leaf (cE (cR (cL (cT (cR (cL (cB (cL (cR (cB (cB (cR (cL (cR (cR (cR (cR (cR (cR (cR (cR (cR (bd Tryd.f3)))))))))))))))))))))))))) (.seq (.leaf (cL (cR (cT (cR (cL (cB (cL (cR (cB (cB (cR (cL (cR (cR (cR (cR (cR (cR (cR (cR (cR (bd Tryd.f3))))))))))))))))))))))) (.seq (.leaf (cL (cR (cR (cT (cR (cL (cB (cL (cR (cB (cB (cR (cL (cR (cR (cR (cR (cR (cR (cR (cR (cR (bd Tryd.f3)))))))))))))))))))))))) (.cnd (.tmp 93) (.seq (.leaf (cL (cT (cR (cR (cR (cT (cR (cL (cB (cL (cR (cB (cB (cR (cL (cR (cR (cR (cR (cR (cR (cR (cR (cR (bd Tryd.f3)))))))))))))))))))))))))) (.leaf (cR (cT (cR (cR (cR (cT (cR (cL (cB (cL (cR (cB (cB (cR (cL (cR (cR (cR (cR (cR (cR (cR (cR (cR (bd Tryd.f3))))))))))))))))))))))))))) (.leaf (cE (cR (cR (cR (cT (cR (cL (cB (cL (cR (cB (cB (cR (cL (cR (cR (cR (cR (cR (cR (cR (cR (cR (bd Tryd.f3))))))))))))))))))))))))))))) (.leaf (cE (cR (cL (cB (cL (cR (cB (cB (cR (cL (cR (cR (cR (cR (cR (cR (cR (cR (cR (bd Tryd.f3))))))))))))))))))))))) (.cut 4 (.seq (.seq (.leaf (cL (cL (cR (cB (cL (cR (cB (cB (cR (cL (cR (cR (cR (cR (cR (cR (cR (cR (cR (bd Tryd.f3))))))))))))))))))))) (.cnd (.tmp 97) (.seq (.seq (.leaf (cL (cL (cT (cR (cL (cR (cB (cL (cR (cB (cB (cR (cL (cR (cR (cR (cR (cR (cR (cR (cR (cR (bd Tryd.f3)))))))))))))))))))))))) (.cnd (.tmp 103) (.seq (.leaf (cL (cT (cR (cL (cT (cR (cL (cR (cB (cL (cR (cB (cB (cR (cL (cR (cR (cR (cR (cR (cR (cR (cR (cR (bd Tryd.f3)))))))))))))))))))))))))) (.leaf (cR (cT (cR (cL (cT (cR (cL (cR (cB (cL (cR (cB (cB (cR (cL (cR (cR (cR (cR (cR (cR (cR (cR (cR (bd Tryd.f3))))))))))))))))))))))))))) (.leaf (cE (cR (cL (cT (cR (cL (cR (cB (cL (cR (cB (cB (cR (cL (cR (cR (cR (cR (cR (cR (cR (cR (cR (bd Tryd.f3))))))))))))))))))))))))))) (.seq (.leaf (cL (cR (cT (cR (cL (cR (cB (cL (cR (cB (cB (cR (cL (cR (cR (cR (cR (cR (cR (cR (cR (cR (bd Tryd.f3)))))))))))))))))))))))) (.seq (.leaf (cL (cR (cR (cT (cR (cL (cR (cB (cL (cR (cB (cB (cR (cL (cR (cR (cR (cR (cR (cR (cR (cR (cR (bd Tryd.f3))))))))))))))))))))))))) (.cnd (.tmp 115) (.seq (.leaf (cL (cT (cR (cR (cR (cT (cR (cL (cR (cB (cL (cR (cB (cB (cR (cL (cR (cR (cR (cR (cR (cR (cR (cR (cR (bd Tryd.f3))))))))))))))))))))))))))) (.leaf (cR (cT (cR (cR (cR (cT (cR (cL (cR (cB (cL (cR (cB (cB (cR (cL (cR (cR (cR (cR (cR (cR (cR (cR (cR (bd Tryd.f3)))))))))))))))))))))))))))) (.leaf (cE (cR (cR (cR (cT (cR (cL (cR (cB (cL (cR (cB (cB (cR (cL (cR (cR (cR (cR (cR (cR (cR (cR (cR (bd Tryd.f3)))))))))))))))))))))))))))))) (.leaf (cE (cR (cL (cR (cB (cL (cR (cB (cB (cR (cL (cR (cR (cR (cR (cR (cR (cR (cR (cR (bd Tryd.f3)))))))))))))))))))))))) (.cut 3 (.seq (.leaf (cL (cR (cR (cB (cL (cR (cB (cB (cR (cL (cR (cR (cR (cR (cR (cR (cR (cR (cR (bd Tryd.f3))))))))))))))))))))) (.seq (.leaf (cL (cR (cR (cR (cB (cL (cR (cB (cB (cR (cL (cR (cR (cR (cR (cR (cR (cR (cR (cR (bd Tryd.f3)))))))))))))))))))))) (.cnd (.tmp 130) (.seq (.leaf (cL (cT (cR (cR (cR (cR (cB (cL (cR (cB (cB (cR (cL (cR (cR (cR (cR (cR (cR (cR (cR (cR (bd Tryd.f3)))))))))))))))))))))))) (.leaf (cR (cT (cR (cR (cR (cR (cB (cL (cR (cB (cB (cR (cL (cR (cR (cR (cR (cR (cR (cR (cR (cR (bd Tryd.f3))))))))))))))))))))))))) (.leaf (cE (cR (cR (cR (cR (cB (cL (cR (cB (cB (cR (cL (cR (cR (cR (cR (cR (cR (cR (cR (cR (bd Tryd.f3))))))))))))))))))))))))))))))) (.leaf (cR (cR (cB (cB (cR (cL (cR (cR (cR (cR (cR (cR (cR (cR (cR (bd Tryd.f3))))))))))))))))))))))) (.cut 1 (.seq (.leaf (cL (cR (cR (cR (cR (cR (cR (cR (cR (cR (cR (bd Tryd.f3))))))))))))) (.leaf (cR (cR (cR (cR (cR (cR (cR (cR (cR (cR (cR (bd Tryd.f3))))))))))))))))))))))))))))) (J := trystlaw14_StoreTwice.J0 R) LfYtledhokhcoeeeaaDoor.mixed Tryd.func3 (by kernel_rfl) (by kernel_rfl) (mkSeq (mkSeq (mkCut (cutDef [(0, .slice), (1, .slice)] (fun x w => trystlaw14_StoreTwice.c8 R x.1 x.2 w) (fun _ _ => by kernel_rfl) (fun _ _ => by kernel_rfl)) (mkSeq (mkSeq (mkSeq (mkCut (cutDef [(0, .slice), (1, .slice), (5, .ptr), (7, .ptr)] (fun x w => trystlaw14_StoreTwice.c7 R x.1 x.2.1 x.2.2.1 x.2.2.2 w) (fun _ _ => by kernel_rfl) (fun _ _ => by kernel_rfl)) (mkSeq (mkSeq (mkSeq (mkCut (cutDef [(0, .slice), (1, .slice), (9, .ptr), (10, .ptr)] (fun x w => trystlaw14_StoreTwice.c6 R x.1 x.2.1 x.2.2.1 x.2.2.2 w) (fun _ _ => by kernel_rfl) (fun _ _ => by kernel_rfl)) (mkSeq (mkSeq (mkCut (cutDef [] (fun x w => trystlaw14_StoreTwice.c1 R w) (fun _ _ => by kernel_rfl) (fun _ _ => by kernel_rfl)) (mkSeq mkLeaf mkLeaf)) (mkSeq (mkBlock (mkLoop (loopDef LfYtledhokhcoeeeaaDoor.mixed [(0, .slice), (1, .slice), (9, .ptr), (10, .ptr), (11, .slice), (12, .slice), (13, (.int .i64))] (by kernel_rfl) (fun M2 x w => trystlaw14_StoreTwice.b2 R (fun y0 y1 y2 y3 y4 y5 y6 w => M2 (y0, y1, y2, y3, y4, y5, y6) w) x.1 x.2.1 x.2.2.1 x.2.2.2.1 x.2.2.2.2.1 x.2.2.2.2.2.1 x.2.2.2.2.2.2 w) (fun M2 => trystlaw14_StoreTwice.J2 R (fun y0 y1 y2 y3 y4 y5 y6 w => M2 (y0, y1, y2, y3, y4, y5, y6) w)) (fun _ _ _ => by kernel_rfl) (fun M2 => (mkSeq (mkCut (cutDef [(0, .slice), (1, .slice), (9, .ptr), (10, .ptr), (11, .slice), (12, .slice), (13, (.int .i64))] (fun x w => trystlaw14_StoreTwice.c5 R (fun y0 y1 y2 y3 y4 y5 y6 w => M2 (y0, y1, y2, y3, y4, y5, y6) w) x.1 x.2.1 x.2.2.1 x.2.2.2.1 x.2.2.2.2.1 x.2.2.2.2.2.1 x.2.2.2.2.2.2 w) (fun _ _ => by kernel_rfl) (fun _ _ => by kernel_rfl)) (mkSeq mkLeaf (mkBlock (mkSeq (mkCut (cutDef [(0, .slice), (1, .slice), (9, .ptr), (10, .ptr), (11, .slice), (12, .slice), (13, (.int .i64))] (fun x w => trystlaw14_StoreTwice.c4 R (fun y0 y1 y2 y3 y4 y5 y6 w => M2 (y0, y1, y2, y3, y4, y5, y6) w) x.1 x.2.1 x.2.2.1 x.2.2.2.1 x.2.2.2.2.1 x.2.2.2.2.2.1 x.2.2.2.2.2.2 w) (fun _ _ => by kernel_rfl) (fun _ _ => by kernel_rfl)) (mkSeq (mkCut (cutDef [(0, .slice), (1, .slice), (9, .ptr), (10, .ptr), (11, .slice), (12, .slice), (13, (.int .i64))] (fun x w => trystlaw14_StoreTwice.c3 R (fun y0 y1 y2 y3 y4 y5 y6 w => M2 (y0, y1, y2, y3, y4, y5, y6) w) x.1 x.2.1 x.2.2.1 x.2.2.2.1 x.2.2.2.2.1 x.2.2.2.2.2.1 x.2.2.2.2.2.2 w) (fun _ _ => by kernel_rfl) (fun _ _ => by kernel_rfl)) (mkSeq (mkSeq (mkCnd (mkSeq mkLeaf mkLeaf) mkLeaf) mkLeaf) mkLeaf)) (mkSeq (mkCnd (mkSeq (mkSeq (mkSeq (mkCnd (mkSeq mkLeaf mkLeaf) mkLeaf) mkLeaf) mkLeaf) (mkSeq (mkCnd (mkSeq mkLeaf mkLeaf) mkLeaf) mkLeaf)) mkLeaf) mkLeaf))) (mkSeq (mkCnd (mkSeq (mkSeq (mkSeq (mkCnd (mkSeq mkLeaf mkLeaf) mkLeaf) mkLeaf) mkLeaf) (mkSeq (mkCnd (mkSeq mkLeaf mkLeaf) mkLeaf) mkLeaf)) mkLeaf) mkLeaf))))) (mkSeq (mkCnd mkLeaf mkLeaf) mkLeaf))) (fun x w => trystlaw14_StoreTwice.l2 R x.1 x.2.1 x.2.2.1 x.2.2.2.1 x.2.2.2.2.1 x.2.2.2.2.2.1 x.2.2.2.2.2.2 w) (by rintro ⟨c0, c1, c2, c3, s0⟩ w ⟨I, μ, h0, h1⟩; refine ⟨fun y w => y.1 = c0 ∧ y.2.1 = c1 ∧ y.2.2.1 = c2 ∧ y.2.2.2.1 = c3 ∧ I y.2.2.2.2 w, fun y w => μ y.2.2.2.2 w, ⟨rfl, rfl, rfl, rfl, h0⟩, ?_⟩; rintro ⟨d0, d1, d2, d3, t0⟩ w ⟨e0, e1, e2, e3, hI⟩; dsimp only at e0 e1 e2 e3 hI; subst e0; subst e1; subst e2; subst e3; exact h1 _ _ hI) (fun _ _ => by kernel_rfl)))) mkLeaf)) mkLeaf)) (mkSeq (mkCnd (mkSeq mkLeaf mkLeaf) mkLeaf) mkLeaf)) mkLeaf) mkLeaf)) (mkSeq (mkCnd (mkSeq mkLeaf mkLeaf) mkLeaf) mkLeaf)) mkLeaf) mkLeaf)) (mkSeq (mkCnd (mkSeq mkLeaf mkLeaf) mkLeaf) mkLeaf)) mkLeaf) (kcast (by kernel_rfl) h)

end Go.Proofs.YtledhokhcoeeeaaDoor
