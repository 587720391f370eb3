/-
  What the code of these functions comes to, and that it suffices for the call. Written by a program of ours, for this claim.
-/
import Derived.Test.YtledhokhcoeeeaaDoorStFns
set_option linter.unusedVariables false
set_option linter.unusedVariables false
namespace Go.Proofs.YtledhokhcoeeeaaDoor
open Go.Lf
abbrev n_trystlaw14_StoreAgain : Nat := 5
/-! trystlaw14_StoreAgain -/
def trystlaw14_StoreAgain.c1 (R : Value → World → Prop) (w : World) : Prop :=
  CallsV Tryd.prog n_trystlaw14_wakes #[] w (fun v_1 w1 =>
  ∃ b_2 : Bool, v_1 = .bool b_2 ∧
  R (.bool b_2) w1)

def trystlaw14_StoreAgain.c3 (R : Value → World → Prop) (N2 : Sl → Int → Option Addr → Sl → Int → World → Prop) (l0 : Sl) (opens1 : Int) (d5 : Option Addr) (i8 : Int) (w : World) : Prop :=
  0 ≤ (i8 : Int) ∧ i8 < ((l0.len : Nat) : Int) ∧ ∃ q_3 : Addr, l0.a = some q_3 ∧
  ∃ (a_4 : Option Addr) (l_5 c_6 : Nat), w.cell? (q_3.add (i8 : Int).toNat) = some (.slice a_4 l_5 c_6) ∧
  CallsV Tryd.prog n_trystkeep_Twin #[.slice a_4 l_5 c_6] w (fun v_7 w2 =>
  ∃ (a_8 : Option Addr) (l_9 c_10 : Nat), v_7 = .slice a_8 l_9 c_10 ∧
  (2 : Int) ≠ 0 ∧
  cond (((Int.tmod i8 2) : Int) == 1)
  (CallsV Tryd.prog n_disk_Disk_Crash #[.pointer d5, .slice none 0 0, .int .i64 (-1)] w2 (fun v_11 w3 =>
  v_11 = .tuple #[] ∧
  CallsV Tryd.prog n_disk_Disk_Start #[.pointer d5] w3 (fun v_12 w4 =>
  v_12 = .tuple #[] ∧
  (let i8_12 : Int := (IntKind.i64.wrap (i8 + 1));
  N2 l0 opens1 d5 ⟨a_8, l_9, c_10⟩ i8_12 w4))))
  ((let i8_13 : Int := (IntKind.i64.wrap (i8 + 1));
  N2 l0 opens1 d5 ⟨a_8, l_9, c_10⟩ i8_13 w2)))

def trystlaw14_StoreAgain.c4 (R : Value → World → Prop) (N2 : Sl → Int → Option Addr → Sl → Int → World → Prop) (l0 : Sl) (opens1 : Int) (d5 : Option Addr) (i8 : Int) (s9 : Option Addr) (w : World) : Prop :=
  cond ((i8 : Int) == ((l0.len : Nat) : Int))
  (trystlaw14_StoreAgain.c1 R w)
  (0 ≤ (i8 : Int) ∧ i8 < ((l0.len : Nat) : Int) ∧ ∃ q_15 : Addr, l0.a = some q_15 ∧
  ∃ (a_16 : Option Addr) (l_17 c_18 : Nat), w.cell? (q_15.add (i8 : Int).toNat) = some (.slice a_16 l_17 c_18) ∧
  cond (decide ((((l_17 : Nat) : Int) : Int) > 500))
  (R (.bool true) w)
  (∃ S_19 : World → Prop, S_19 w.drew ∧
  0 ≤ (i8 : Int) ∧ i8 < ((l0.len : Nat) : Int) ∧ ∃ q_20 : Addr, l0.a = some q_20 ∧
  ∃ (a_21 : Option Addr) (l_22 c_23 : Nat), (∀ x, S_19 x → x.cell? (q_20.add (i8 : Int).toNat) = some (.slice a_21 l_22 c_23)) ∧
  CallsV Tryd.prog n_store_Store_Save #[.pointer s9, .slice a_21 l_22 c_23] w.drew (fun v_24 w5 =>
  ∃ x_25 : Int, v_24 = .int .i64 x_25 ∧
  ∃ S_26 : World → Prop, (∀ x, S_26 x → S_19 x) ∧ S_26 w5 ∧
  cond ((x_25 : Int) != 0)
  (R (.bool false) w5)
  (0 ≤ (i8 : Int) ∧ i8 < ((l0.len : Nat) : Int) ∧ ∃ q_27 : Addr, l0.a = some q_27 ∧
  ∃ (a_28 : Option Addr) (l_29 c_30 : Nat), (∀ x, S_26 x → x.cell? (q_27.add (i8 : Int).toNat) = some (.slice a_28 l_29 c_30)) ∧
  CallsV Tryd.prog n_store_Store_State #[.pointer s9] w5 (fun v_31 w6 =>
  ∃ (a_32 : Option Addr) (l_33 c_34 : Nat), v_31 = .slice a_32 l_33 c_34 ∧
  S_26 w6 ∧
  CallsV Tryd.prog n_trystkeep_Bytes #[.slice a_32 l_33 c_34, .slice a_28 l_29 c_30] w6 (fun v_35 w7 =>
  ∃ b_36 : Bool, v_35 = .bool b_36 ∧
  cond (!b_36)
  (R (.bool false) w7)
  (trystlaw14_StoreAgain.c3 R N2 l0 opens1 d5 i8 w7)))))))

def trystlaw14_StoreAgain.b5 (R : Value → World → Prop) (N2 : Sl → Int → Option Addr → Sl → Int → World → Prop) (N5 : Sl → Int → Option Addr → Sl → Int → Option Addr → Int → World → Prop) (l0 : Sl) (opens1 : Int) (d5 : Option Addr) (was7 : Sl) (i8 : Int) (s9 : Option Addr) (k10 : Int) (w : World) : Prop :=
  cond (decide ((k10 : Int) ≤ opens1))
  (CallsV Tryd.prog n_store_Open #[.pointer d5] w (fun v_37 w8 =>
  ∃ p_38 : Option Addr, ∃ x_39 : Int, v_37 = .tuple #[.pointer p_38, .int .i64 x_39] ∧
  cond ((x_39 : Int) != 0)
  (R (.bool false) w8)
  (cond ((p_38).isNone)
  (R (.bool false) w8)
  (CallsV Tryd.prog n_store_Store_State #[.pointer p_38] w8 (fun v_40 w9 =>
  ∃ (a_41 : Option Addr) (l_42 c_43 : Nat), v_40 = .slice a_41 l_42 c_43 ∧
  CallsV Tryd.prog n_trystkeep_Bytes #[.slice a_41 l_42 c_43, .slice was7.a was7.len was7.cap] w9 (fun v_44 w10 =>
  ∃ b_45 : Bool, v_44 = .bool b_45 ∧
  cond (!b_45)
  (R (.bool false) w10)
  ((let k10_45 : Int := (IntKind.i64.wrap (k10 + 1));
  N5 l0 opens1 d5 was7 i8 p_38 k10_45 w10))))))))
  (trystlaw14_StoreAgain.c4 R N2 l0 opens1 d5 i8 s9 w)

def trystlaw14_StoreAgain.l5 (R : Value → World → Prop) (N2 : Sl → Int → Option Addr → Sl → Int → World → Prop) (l0 : Sl) (opens1 : Int) (d5 : Option Addr) (was7 : Sl) (i8 : Int) (s9 : Option Addr) (k10 : Int) (w : World) : Prop :=
  ∃ (I : ((Option Addr) × Int) → World → Prop) (μ : ((Option Addr) × Int) → World → Nat), I (s9, k10) w ∧ ∀ s w, I s w → trystlaw14_StoreAgain.b5 R N2 (fun l0' opens1' d5' was7' i8' s9' k10' w' => (l0' = l0 ∧ opens1' = opens1 ∧ d5' = d5 ∧ was7' = was7 ∧ i8' = i8 ∧ I (s9', k10') w') ∧ μ (s9', k10') w' < μ s w) l0 opens1 d5 was7 i8 s.1 s.2 w

def trystlaw14_StoreAgain.b2 (R : Value → World → Prop) (N2 : Sl → Int → Option Addr → Sl → Int → World → Prop) (l0 : Sl) (opens1 : Int) (d5 : Option Addr) (was7 : Sl) (i8 : Int) (w : World) : Prop :=
  cond (decide ((i8 : Int) ≤ ((l0.len : Nat) : Int)))
  (trystlaw14_StoreAgain.l5 R N2 l0 opens1 d5 was7 i8 none 0 w)
  (trystlaw14_StoreAgain.c1 R w)

def trystlaw14_StoreAgain.l2 (R : Value → World → Prop) (l0 : Sl) (opens1 : Int) (d5 : Option Addr) (was7 : Sl) (i8 : Int) (w : World) : Prop :=
  ∃ (I : (Sl × Int) → World → Prop) (μ : (Sl × Int) → World → Nat), I (was7, i8) w ∧ ∀ s w, I s w → trystlaw14_StoreAgain.b2 R (fun l0' opens1' d5' was7' i8' w' => (l0' = l0 ∧ opens1' = opens1 ∧ d5' = d5 ∧ I (was7', i8') w') ∧ μ (was7', i8') w' < μ s w) l0 opens1 d5 s.1 s.2 w

def trystlaw14_StoreAgain.c6 (R : Value → World → Prop) (l0 : Sl) (opens1 : Int) (d5 : Option Addr) (w : World) : Prop :=
  trystlaw14_StoreAgain.l2 R l0 opens1 d5 ⟨none, 0, 0⟩ 0 w

def trystlaw14_StoreAgain.c7 (R : Value → World → Prop) (l0 : Sl) (opens1 : Int) (w : World) : Prop :=
  CallsV Tryd.prog n_disk_New #[.int .i64 512] w (fun v_47 w11 =>
  ∃ p_48 : Option Addr, ∃ x_49 : Int, v_47 = .tuple #[.pointer p_48, .int .i64 x_49] ∧
  cond ((x_49 : Int) != 0)
  (R (.bool false) w11)
  (cond ((p_48).isNone)
  (R (.bool false) w11)
  (trystlaw14_StoreAgain.c6 R l0 opens1 p_48 w11)))

def trystlaw14_StoreAgain.main (R : Value → World → Prop) (l0 : Sl) (opens1 : Int) (w : World) : Prop :=
  cond (decide ((((l0.len : Nat) : Int) : Int) > 12))
  (R (.bool true) w)
  (cond (decide ((opens1 : Int) < 0))
  (R (.bool true) w)
  (cond (decide ((opens1 : Int) > 10))
  (R (.bool true) w)
  (trystlaw14_StoreAgain.c7 R l0 opens1 w)))

def trystlaw14_StoreAgain.J2 (R : Value → World → Prop) (N2 : Sl → Int → Option Addr → Sl → Int → World → Prop) (k : Nat) (fr : Fr) (w : World) : Prop :=
  cond (Nat.beq k 5) (dec [(0, .slice), (1, (.int .i64)), (5, .ptr), (7, .slice), (8, (.int .i64)), (9, .ptr), (10, (.int .i64))] fr fun x => trystlaw14_StoreAgain.l5 R N2 x.1 x.2.1 x.2.2.1 x.2.2.2.1 x.2.2.2.2.1 x.2.2.2.2.2.1 x.2.2.2.2.2.2 w) (cond (Nat.beq k 4) (dec [(0, .slice), (1, (.int .i64)), (5, .ptr), (8, (.int .i64)), (9, .ptr)] fr fun x => trystlaw14_StoreAgain.c4 R N2 x.1 x.2.1 x.2.2.1 x.2.2.2.1 x.2.2.2.2 w) (cond (Nat.beq k 3) (dec [(0, .slice), (1, (.int .i64)), (5, .ptr), (8, (.int .i64))] fr fun x => trystlaw14_StoreAgain.c3 R N2 x.1 x.2.1 x.2.2.1 x.2.2.2 w) (False)))

def trystlaw14_StoreAgain.J0 (R : Value → World → Prop) (k : Nat) (fr : Fr) (w : World) : Prop :=
  cond (Nat.beq k 7) (dec [(0, .slice), (1, (.int .i64))] fr fun x => trystlaw14_StoreAgain.c7 R x.1 x.2 w) (cond (Nat.beq k 6) (dec [(0, .slice), (1, (.int .i64)), (5, .ptr)] fr fun x => trystlaw14_StoreAgain.c6 R x.1 x.2.1 x.2.2 w) (cond (Nat.beq k 2) (dec [(0, .slice), (1, (.int .i64)), (5, .ptr), (7, .slice), (8, (.int .i64))] fr fun x => trystlaw14_StoreAgain.l2 R x.1 x.2.1 x.2.2.1 x.2.2.2.1 x.2.2.2.2 w) (cond (Nat.beq k 1) (dec [] fr fun x => trystlaw14_StoreAgain.c1 R w) (False))))

set_option maxRecDepth 100000 in
theorem trystlaw14_StoreAgain.lift {R : Value → World → Prop} {l0 : Sl} {opens1 : Int} {w : World} (h : trystlaw14_StoreAgain.main R l0 opens1 w) : CallsV Tryd.prog n_trystlaw14_StoreAgain #[.slice l0.a l0.len l0.cap, .int .i64 opens1] w R :=
  liftCalls (c := (.seq (.leaf (cL (bd Tryd.f5))) (.seq (.seq (.leaf (cL (cL (cR (bd Tryd.f5))))) (.cnd (.tmp 21) (.seq (.leaf (cL (cT (cR (cL (cR (bd Tryd.f5))))))) (.leaf (cR (cT (cR (cL (cR (bd Tryd.f5)))))))) (.leaf (cE (cR (cL (cR (bd Tryd.f5)))))))) (.cut 7 (.seq (.leaf (cL (cR (cR (bd Tryd.f5))))) (.seq (.seq (.leaf (cL (cL (cR (cR (cR (bd Tryd.f5))))))) (.cnd (.tmp 31) (.seq (.leaf (cL (cT (cR (cL (cR (cR (cR (bd Tryd.f5))))))))) (.leaf (cR (cT (cR (cL (cR (cR (cR (bd Tryd.f5)))))))))) (.leaf (cE (cR (cL (cR (cR (cR (bd Tryd.f5)))))))))) (.cut 6 (.seq (.leaf (cL (cR (cR (cR (cR (bd Tryd.f5))))))) (.seq (.seq (.leaf (cL (cL (cR (cR (cR (cR (cR (bd Tryd.f5))))))))) (.block 0 (.loop 2 (.seq (.seq (.leaf (cL (cL (cB (cB (cR (cL (cR (cR (cR (cR (cR (bd Tryd.f5))))))))))))) (.cnd (.tmp 35) (.leaf (cT (cR (cL (cB (cB (cR (cL (cR (cR (cR (cR (cR (bd Tryd.f5)))))))))))))) (.leaf (cE (cR (cL (cB (cB (cR (cL (cR (cR (cR (cR (cR (bd Tryd.f5)))))))))))))))) (.seq (.block 1 (.seq (.leaf (cL (cB (cL (cR (cB (cB (cR (cL (cR (cR (cR (cR (cR (bd Tryd.f5))))))))))))))) (.seq (.seq (.leaf (cL (cL (cR (cB (cL (cR (cB (cB (cR (cL (cR (cR (cR (cR (cR (bd Tryd.f5))))))))))))))))) (.block 2 (.loop 5 (.seq (.seq (.leaf (cL (cL (cB (cB (cR (cL (cR (cB (cL (cR (cB (cB (cR (cL (cR (cR (cR (cR (cR (bd Tryd.f5))))))))))))))))))))) (.cnd (.tmp 40) (.leaf (cT (cR (cL (cB (cB (cR (cL (cR (cB (cL (cR (cB (cB (cR (cL (cR (cR (cR (cR (cR (bd Tryd.f5)))))))))))))))))))))) (.leaf (cE (cR (cL (cB (cB (cR (cL (cR (cB (cL (cR (cB (cB (cR (cL (cR (cR (cR (cR (cR (bd Tryd.f5)))))))))))))))))))))))) (.seq (.block 3 (.seq (.leaf (cL (cB (cL (cR (cB (cB (cR (cL (cR (cB (cL (cR (cB (cB (cR (cL (cR (cR (cR (cR (cR (bd Tryd.f5))))))))))))))))))))))) (.seq (.leaf (cL (cR (cB (cL (cR (cB (cB (cR (cL (cR (cB (cL (cR (cB (cB (cR (cL (cR (cR (cR (cR (cR (bd Tryd.f5)))))))))))))))))))))))) (.cnd (.tmp 60) (.seq (.leaf (cL (cT (cR (cR (cB (cL (cR (cB (cB (cR (cL (cR (cB (cL (cR (cB (cB (cR (cL (cR (cR (cR (cR (cR (bd Tryd.f5)))))))))))))))))))))))))) (.leaf (cR (cT (cR (cR (cB (cL (cR (cB (cB (cR (cL (cR (cB (cL (cR (cB (cB (cR (cL (cR (cR (cR (cR (cR (bd Tryd.f5))))))))))))))))))))))))))) (.leaf (cE (cR (cR (cB (cL (cR (cB (cB (cR (cL (cR (cB (cL (cR (cB (cB (cR (cL (cR (cR (cR (cR (cR (bd Tryd.f5))))))))))))))))))))))))))))) (.leaf (cR (cR (cB (cB (cR (cL (cR (cB (cL (cR (cB (cB (cR (cL (cR (cR (cR (cR (cR (bd Tryd.f5)))))))))))))))))))))))))) (.cut 4 (.seq (.seq (.leaf (cL (cL (cR (cR (cB (cL (cR (cB (cB (cR (cL (cR (cR (cR (cR (cR (bd Tryd.f5)))))))))))))))))) (.cnd (.tmp 64) (.leaf (cT (cR (cL (cR (cR (cB (cL (cR (cB (cB (cR (cL (cR (cR (cR (cR (cR (bd Tryd.f5))))))))))))))))))) (.leaf (cE (cR (cL (cR (cR (cB (cL (cR (cB (cB (cR (cL (cR (cR (cR (cR (cR (bd Tryd.f5))))))))))))))))))))) (.seq (.seq (.leaf (cL (cL (cR (cR (cR (cB (cL (cR (cB (cB (cR (cL (cR (cR (cR (cR (cR (bd Tryd.f5))))))))))))))))))) (.cnd (.tmp 70) (.seq (.leaf (cL (cT (cR (cL (cR (cR (cR (cB (cL (cR (cB (cB (cR (cL (cR (cR (cR (cR (cR (bd Tryd.f5))))))))))))))))))))) (.leaf (cR (cT (cR (cL (cR (cR (cR (cB (cL (cR (cB (cB (cR (cL (cR (cR (cR (cR (cR (bd Tryd.f5)))))))))))))))))))))) (.leaf (cE (cR (cL (cR (cR (cR (cB (cL (cR (cB (cB (cR (cL (cR (cR (cR (cR (cR (bd Tryd.f5)))))))))))))))))))))) (.seq (.seq (.leaf (cL (cL (cR (cR (cR (cR (cB (cL (cR (cB (cB (cR (cL (cR (cR (cR (cR (cR (bd Tryd.f5)))))))))))))))))))) (.cnd (.tmp 87) (.seq (.leaf (cL (cT (cR (cL (cR (cR (cR (cR (cB (cL (cR (cB (cB (cR (cL (cR (cR (cR (cR (cR (bd Tryd.f5)))))))))))))))))))))) (.leaf (cR (cT (cR (cL (cR (cR (cR (cR (cB (cL (cR (cB (cB (cR (cL (cR (cR (cR (cR (cR (bd Tryd.f5))))))))))))))))))))))) (.leaf (cE (cR (cL (cR (cR (cR (cR (cB (cL (cR (cB (cB (cR (cL (cR (cR (cR (cR (cR (bd Tryd.f5))))))))))))))))))))))) (.cut 3 (.seq (.leaf (cL (cR (cR (cR (cR (cR (cB (cL (cR (cB (cB (cR (cL (cR (cR (cR (cR (cR (bd Tryd.f5)))))))))))))))))))) (.seq (.leaf (cL (cR (cR (cR (cR (cR (cR (cB (cL (cR (cB (cB (cR (cL (cR (cR (cR (cR (cR (bd Tryd.f5))))))))))))))))))))) (.cnd (.tmp 95) (.seq (.leaf (cL (cT (cR (cR (cR (cR (cR (cR (cR (cB (cL (cR (cB (cB (cR (cL (cR (cR (cR (cR (cR (bd Tryd.f5))))))))))))))))))))))) (.leaf (cR (cT (cR (cR (cR (cR (cR (cR (cR (cB (cL (cR (cB (cB (cR (cL (cR (cR (cR (cR (cR (bd Tryd.f5)))))))))))))))))))))))) (.leaf (cE (cR (cR (cR (cR (cR (cR (cR (cB (cL (cR (cB (cB (cR (cL (cR (cR (cR (cR (cR (bd Tryd.f5))))))))))))))))))))))))))))))))) (.leaf (cR (cR (cB (cB (cR (cL (cR (cR (cR (cR (cR (bd Tryd.f5)))))))))))))))))) (.cut 1 (.seq (.leaf (cL (cR (cR (cR (cR (cR (cR (bd Tryd.f5))))))))) (.leaf (cR (cR (cR (cR (cR (cR (cR (bd Tryd.f5)))))))))))))))))))) (J := trystlaw14_StoreAgain.J0 R) LfYtledhokhcoeeeaaDoor.mixed Tryd.func5 (by kernel_rfl) (by kernel_rfl) (mkSeq (mkSeq (mkCut (cutDef [(0, .slice), (1, (.int .i64))] (fun x w => trystlaw14_StoreAgain.c7 R x.1 x.2 w) (fun _ _ => by kernel_rfl) (fun _ _ => by kernel_rfl)) (mkSeq (mkSeq (mkCut (cutDef [(0, .slice), (1, (.int .i64)), (5, .ptr)] (fun x w => trystlaw14_StoreAgain.c6 R x.1 x.2.1 x.2.2 w) (fun _ _ => by kernel_rfl) (fun _ _ => by kernel_rfl)) (mkSeq (mkSeq (mkCut (cutDef [] (fun x w => trystlaw14_StoreAgain.c1 R w) (fun _ _ => by kernel_rfl) (fun _ _ => by kernel_rfl)) (mkSeq mkLeaf mkLeaf)) (mkSeq (mkBlock (mkLoop (loopDef LfYtledhokhcoeeeaaDoor.mixed [(0, .slice), (1, (.int .i64)), (5, .ptr), (7, .slice), (8, (.int .i64))] (by kernel_rfl) (fun M2 x w => trystlaw14_StoreAgain.b2 R (fun y0 y1 y2 y3 y4 w => M2 (y0, y1, y2, y3, y4) w) x.1 x.2.1 x.2.2.1 x.2.2.2.1 x.2.2.2.2 w) (fun M2 => trystlaw14_StoreAgain.J2 R (fun y0 y1 y2 y3 y4 w => M2 (y0, y1, y2, y3, y4) w)) (fun _ _ _ => by kernel_rfl) (fun M2 => (mkSeq (mkSeq mkLeaf (mkBlock (mkSeq (mkSeq (mkCut (cutDef [(0, .slice), (1, (.int .i64)), (5, .ptr), (8, (.int .i64)), (9, .ptr)] (fun x w => trystlaw14_StoreAgain.c4 R (fun y0 y1 y2 y3 y4 w => M2 (y0, y1, y2, y3, y4) w) x.1 x.2.1 x.2.2.1 x.2.2.2.1 x.2.2.2.2 w) (fun _ _ => by kernel_rfl) (fun _ _ => by kernel_rfl)) (mkSeq (mkSeq (mkSeq (mkCut (cutDef [(0, .slice), (1, (.int .i64)), (5, .ptr), (8, (.int .i64))] (fun x w => trystlaw14_StoreAgain.c3 R (fun y0 y1 y2 y3 y4 w => M2 (y0, y1, y2, y3, y4) w) x.1 x.2.1 x.2.2.1 x.2.2.2 w) (fun _ _ => by kernel_rfl) (fun _ _ => by kernel_rfl)) (mkSeq (mkSeq (mkCnd (mkSeq mkLeaf mkLeaf) mkLeaf) mkLeaf) mkLeaf)) (mkSeq (mkCnd (mkSeq mkLeaf mkLeaf) mkLeaf) mkLeaf)) (mkSeq (mkCnd (mkSeq mkLeaf mkLeaf) mkLeaf) mkLeaf)) (mkSeq (mkCnd mkLeaf mkLeaf) mkLeaf))) (mkSeq (mkBlock (mkLoop (loopDef LfYtledhokhcoeeeaaDoor.mixed [(0, .slice), (1, (.int .i64)), (5, .ptr), (7, .slice), (8, (.int .i64)), (9, .ptr), (10, (.int .i64))] (by kernel_rfl) (fun M5 x w => trystlaw14_StoreAgain.b5 R (fun y0 y1 y2 y3 y4 w => M2 (y0, y1, y2, y3, y4) w) (fun y0 y1 y2 y3 y4 y5 y6 w => M5 (y0, y1, y2, y3, y4, y5, y6) w) x.1 x.2.1 x.2.2.1 x.2.2.2.1 x.2.2.2.2.1 x.2.2.2.2.2.1 x.2.2.2.2.2.2 w) (fun M5 => fun _ _ _ => False) (fun _ _ _ => by kernel_rfl) (fun M5 => (mkSeq (mkSeq mkLeaf (mkBlock (mkSeq (mkSeq (mkCnd (mkSeq mkLeaf mkLeaf) mkLeaf) mkLeaf) mkLeaf))) (mkSeq (mkCnd mkLeaf mkLeaf) mkLeaf))) (fun x w => trystlaw14_StoreAgain.l5 R (fun y0 y1 y2 y3 y4 w => M2 (y0, y1, y2, y3, y4) w) x.1 x.2.1 x.2.2.1 x.2.2.2.1 x.2.2.2.2.1 x.2.2.2.2.2.1 x.2.2.2.2.2.2 w) (by rintro ⟨c0, c1, c2, c3, c4, s0⟩ w ⟨I, μ, h0, h1⟩; refine ⟨fun y w => y.1 = c0 ∧ y.2.1 = c1 ∧ y.2.2.1 = c2 ∧ y.2.2.2.1 = c3 ∧ y.2.2.2.2.1 = c4 ∧ I y.2.2.2.2.2 w, fun y w => μ y.2.2.2.2.2 w, ⟨rfl, rfl, rfl, rfl, rfl, h0⟩, ?_⟩; rintro ⟨d0, d1, d2, d3, d4, t0⟩ w ⟨e0, e1, e2, e3, e4, hI⟩; dsimp only at e0 e1 e2 e3 e4 hI; subst e0; subst e1; subst e2; subst e3; subst e4; exact h1 _ _ hI) (fun _ _ => by kernel_rfl)))) mkLeaf)) mkLeaf))) (mkSeq (mkCnd mkLeaf mkLeaf) mkLeaf))) (fun x w => trystlaw14_StoreAgain.l2 R x.1 x.2.1 x.2.2.1 x.2.2.2.1 x.2.2.2.2 w) (by rintro ⟨c0, c1, c2, s0⟩ w ⟨I, μ, h0, h1⟩; refine ⟨fun y w => y.1 = c0 ∧ y.2.1 = c1 ∧ y.2.2.1 = c2 ∧ I y.2.2.2 w, fun y w => μ y.2.2.2 w, ⟨rfl, rfl, rfl, h0⟩, ?_⟩; rintro ⟨d0, d1, d2, t0⟩ w ⟨e0, e1, e2, hI⟩; dsimp only at e0 e1 e2 hI; subst e0; subst e1; subst e2; exact h1 _ _ hI) (fun _ _ => by kernel_rfl)))) mkLeaf)) mkLeaf)) (mkSeq (mkCnd (mkSeq mkLeaf mkLeaf) mkLeaf) mkLeaf)) mkLeaf)) (mkSeq (mkCnd (mkSeq mkLeaf mkLeaf) mkLeaf) mkLeaf)) mkLeaf) (kcast (by kernel_rfl) h)

end Go.Proofs.YtledhokhcoeeeaaDoor
