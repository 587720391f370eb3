/-
  What the code of these functions comes to, and that it suffices for the call. Written by a program of ours, for this claim.
-/
import Derived.Test.YtledhokhcoeeeaaDoorStFns
set_option linter.unusedVariables false
set_option linter.unusedVariables false
namespace Go.Proofs.YtledhokhcoeeeaaDoor
open Go.Lf
abbrev n_trystlaw14_StoreEach : Nat := 7
/-! trystlaw14_StoreEach -/
def trystlaw14_StoreEach.c1 (R : Value → World → Prop) (w : World) : Prop :=
  CallsV Tryd.prog n_trystlaw14_wakes #[] w (fun v_1 w1 =>
  ∃ b_2 : Bool, v_1 = .bool b_2 ∧
  R (.bool b_2) w1)

def trystlaw14_StoreEach.c3 (R : Value → World → Prop) (N2 : Sl → Sl → Int → Int → World → Prop) (old0 : Sl) (next1 : Sl) (which2 : Int) (k7 : Int) (d8 : Option Addr) (s10 : Option Addr) (w : World) : Prop :=
  let w2 := w.alloc (.cells #[.int .u8 7] 5);
  CallsV Tryd.prog n_store_Store_Save #[.pointer s10, .slice (some (newA w)) 1 1] w2 (fun v_3 w3 =>
  ∃ x_4 : Int, v_3 = .int .i64 x_4 ∧
  cond ((x_4 : Int) != 0)
  (R (.bool false) w3)
  (CallsV Tryd.prog n_disk_Disk_Crash #[.pointer d8, .slice none 0 0, .int .i64 (-1)] w3 (fun v_5 w4 =>
  v_5 = .tuple #[] ∧
  CallsV Tryd.prog n_disk_Disk_Start #[.pointer d8] w4 (fun v_6 w5 =>
  v_6 = .tuple #[] ∧
  CallsV Tryd.prog n_store_Open #[.pointer d8] w5 (fun v_7 w6 =>
  ∃ p_8 : Option Addr, ∃ x_9 : Int, v_7 = .tuple #[.pointer p_8, .int .i64 x_9] ∧
  cond ((x_9 : Int) != 0)
  (R (.bool false) w6)
  (cond ((p_8).isNone)
  (R (.bool false) w6)
  (CallsV Tryd.prog n_store_Store_State #[.pointer p_8] w6 (fun v_10 w7 =>
  ∃ (a_11 : Option Addr) (l_12 c_13 : Nat), v_10 = .slice a_11 l_12 c_13 ∧
  let w8 := w7.alloc (.cells #[.int .u8 7] 5);
  CallsV Tryd.prog n_trystkeep_Bytes #[.slice a_11 l_12 c_13, .slice (some (newA w7)) 1 1] w8 (fun v_14 w9 =>
  ∃ b_15 : Bool, v_14 = .bool b_15 ∧
  cond (!b_15)
  (R (.bool false) w9)
  ((let k7_15 : Int := (IntKind.i64.wrap (k7 + 1));
  N2 old0 next1 which2 k7_15 w9)))))))))))

def trystlaw14_StoreEach.c4 (R : Value → World → Prop) (N2 : Sl → Sl → Int → Int → World → Prop) (old0 : Sl) (next1 : Sl) (which2 : Int) (k7 : Int) (d8 : Option Addr) (s10 : Option Addr) (keep11 : Sl) (torn12 : Int) (w : World) : Prop :=
  CallsV Tryd.prog n_disk_Disk_Trip #[.pointer d8, .int .i64 k7, .slice keep11.a keep11.len keep11.cap, .int .i64 torn12] w (fun v_17 w10 =>
  v_17 = .tuple #[] ∧
  CallsV Tryd.prog n_store_Store_Save #[.pointer s10, .slice next1.a next1.len next1.cap] w10 (fun v_18 w11 =>
  ∃ x_19 : Int, v_18 = .int .i64 x_19 ∧
  cond ((x_19 : Int) == 0)
  (CallsV Tryd.prog n_store_Store_State #[.pointer s10] w11 (fun v_20 w12 =>
  ∃ (a_21 : Option Addr) (l_22 c_23 : Nat), v_20 = .slice a_21 l_22 c_23 ∧
  CallsV Tryd.prog n_trystkeep_Bytes #[.slice a_21 l_22 c_23, .slice next1.a next1.len next1.cap] w12 (fun v_24 w13 =>
  ∃ b_25 : Bool, v_24 = .bool b_25 ∧
  cond b_25
  (CallsV Tryd.prog n_trystlaw14_wakes #[] w13 (fun v_26 w14 =>
  ∃ b_27 : Bool, v_26 = .bool b_27 ∧
  R (.bool b_27) w14))
  (R (.bool false) w13))))
  (CallsV Tryd.prog n_disk_Disk_Start #[.pointer d8] w11 (fun v_28 w15 =>
  v_28 = .tuple #[] ∧
  CallsV Tryd.prog n_store_Open #[.pointer d8] w15 (fun v_29 w16 =>
  ∃ p_30 : Option Addr, ∃ x_31 : Int, v_29 = .tuple #[.pointer p_30, .int .i64 x_31] ∧
  cond ((x_19 : Int) != 9)
  (R (.bool false) w16)
  (cond ((x_31 : Int) != 0)
  (R (.bool false) w16)
  (cond ((p_30).isNone)
  (R (.bool false) w16)
  (CallsV Tryd.prog n_store_Store_State #[.pointer p_30] w16 (fun v_32 w17 =>
  ∃ (a_33 : Option Addr) (l_34 c_35 : Nat), v_32 = .slice a_33 l_34 c_35 ∧
  CallsV Tryd.prog n_trystkeep_Bytes #[.slice a_33 l_34 c_35, .slice old0.a old0.len old0.cap] w17 (fun v_36 w18 =>
  ∃ b_37 : Bool, v_36 = .bool b_37 ∧
  cond (!b_37)
  (CallsV Tryd.prog n_store_Store_State #[.pointer p_30] w18 (fun v_38 w19 =>
  ∃ (a_39 : Option Addr) (l_40 c_41 : Nat), v_38 = .slice a_39 l_40 c_41 ∧
  CallsV Tryd.prog n_trystkeep_Bytes #[.slice a_39 l_40 c_41, .slice next1.a next1.len next1.cap] w19 (fun v_42 w20 =>
  ∃ b_43 : Bool, v_42 = .bool b_43 ∧
  cond (!b_43)
  (R (.bool false) w20)
  (trystlaw14_StoreEach.c3 R N2 old0 next1 which2 k7 d8 p_30 w20))))
  (trystlaw14_StoreEach.c3 R N2 old0 next1 which2 k7 d8 p_30 w18)))))))))))

def trystlaw14_StoreEach.b5 (R : Value → World → Prop) (N2 : Sl → Sl → Int → Int → World → Prop) (N5 : Sl → Sl → Int → Int → Option Addr → Option Addr → Int → Sl → Int → World → Prop) (old0 : Sl) (next1 : Sl) (which2 : Int) (k7 : Int) (d8 : Option Addr) (s10 : Option Addr) (torn12 : Int) (keep11 : Sl) (i13 : Int) (w : World) : Prop :=
  cond (decide ((i13 : Int) < 60))
  (let w21 := w.alloc (.cells #[.bool true] 4);
  ∃ (a_44 : Option Addr) (l_45 c_46 : Nat), ∃ w22 : World, (builtin .append #[44, 44] 44 #[] #[.slice keep11.a keep11.len keep11.cap, .slice (some (newA w)) 1 1]).run Tryd.prog w21 = .ok (.value (.slice a_44 l_45 c_46)) w22 ∧
  (let i13_46 : Int := (IntKind.i64.wrap (i13 + 1));
  N5 old0 next1 which2 k7 d8 s10 torn12 ⟨a_44, l_45, c_46⟩ i13_46 w22))
  (trystlaw14_StoreEach.c4 R N2 old0 next1 which2 k7 d8 s10 keep11 torn12 w)

def trystlaw14_StoreEach.l5 (R : Value → World → Prop) (N2 : Sl → Sl → Int → Int → World → Prop) (old0 : Sl) (next1 : Sl) (which2 : Int) (k7 : Int) (d8 : Option Addr) (s10 : Option Addr) (torn12 : Int) (keep11 : Sl) (i13 : Int) (w : World) : Prop :=
  ∃ (I : (Sl × Int) → World → Prop) (μ : (Sl × Int) → World → Nat), I (keep11, i13) w ∧ ∀ s w, I s w → trystlaw14_StoreEach.b5 R N2 (fun old0' next1' which2' k7' d8' s10' torn12' keep11' i13' w' => (old0' = old0 ∧ next1' = next1 ∧ which2' = which2 ∧ k7' = k7 ∧ d8' = d8 ∧ s10' = s10 ∧ torn12' = torn12 ∧ I (keep11', i13') w') ∧ μ (keep11', i13') w' < μ s w) old0 next1 which2 k7 d8 s10 torn12 s.1 s.2 w

def trystlaw14_StoreEach.c6 (R : Value → World → Prop) (N2 : Sl → Sl → Int → Int → World → Prop) (old0 : Sl) (next1 : Sl) (which2 : Int) (k7 : Int) (d8 : Option Addr) (s10 : Option Addr) (w : World) : Prop :=
  (3 : Int) ≠ 0 ∧
  (let t57_47 : Bool := (((Int.tmod (IntKind.u64.wrap which2) 3) : Int) == 0);
  cond t57_47
  (trystlaw14_StoreEach.l5 R N2 old0 next1 which2 k7 d8 s10 (-1) ⟨none, 0, 0⟩ 0 w)
  ((let t66_48 : Bool := (((Int.tmod (IntKind.u64.wrap which2) 3) : Int) == 1);
  cond t66_48
  ((let torn12_49 : Int := (IntKind.i64.wrap (k7 - 1));
  trystlaw14_StoreEach.c4 R N2 old0 next1 which2 k7 d8 s10 ⟨none, 0, 0⟩ torn12_49 w))
  (trystlaw14_StoreEach.c4 R N2 old0 next1 which2 k7 d8 s10 ⟨none, 0, 0⟩ (-1) w))))

def trystlaw14_StoreEach.c7 (R : Value → World → Prop) (N2 : Sl → Sl → Int → Int → World → Prop) (old0 : Sl) (next1 : Sl) (which2 : Int) (k7 : Int) (d8 : Option Addr) (w : World) : Prop :=
  CallsV Tryd.prog n_store_Open #[.pointer d8] w (fun v_51 w23 =>
  ∃ p_52 : Option Addr, ∃ x_53 : Int, v_51 = .tuple #[.pointer p_52, .int .i64 x_53] ∧
  cond ((x_53 : Int) != 0)
  (R (.bool false) w23)
  (cond ((p_52).isNone)
  (R (.bool false) w23)
  (CallsV Tryd.prog n_store_Store_Save #[.pointer p_52, .slice old0.a old0.len old0.cap] w23 (fun v_54 w24 =>
  ∃ x_55 : Int, v_54 = .int .i64 x_55 ∧
  cond ((x_55 : Int) != 0)
  (R (.bool false) w24)
  (trystlaw14_StoreEach.c6 R N2 old0 next1 which2 k7 d8 p_52 w24)))))

def trystlaw14_StoreEach.b2 (R : Value → World → Prop) (N2 : Sl → Sl → Int → Int → World → Prop) (old0 : Sl) (next1 : Sl) (which2 : Int) (k7 : Int) (w : World) : Prop :=
  cond (decide ((k7 : Int) < 40))
  (CallsV Tryd.prog n_disk_New #[.int .i64 300] w (fun v_56 w25 =>
  ∃ p_57 : Option Addr, ∃ x_58 : Int, v_56 = .tuple #[.pointer p_57, .int .i64 x_58] ∧
  cond ((x_58 : Int) != 0)
  (R (.bool false) w25)
  (cond ((p_57).isNone)
  (R (.bool false) w25)
  (trystlaw14_StoreEach.c7 R N2 old0 next1 which2 k7 p_57 w25))))
  (trystlaw14_StoreEach.c1 R w)

def trystlaw14_StoreEach.l2 (R : Value → World → Prop) (old0 : Sl) (next1 : Sl) (which2 : Int) (k7 : Int) (w : World) : Prop :=
  ∃ (I : Int → World → Prop) (μ : Int → World → Nat), I k7 w ∧ ∀ s w, I s w → trystlaw14_StoreEach.b2 R (fun old0' next1' which2' k7' w' => (old0' = old0 ∧ next1' = next1 ∧ which2' = which2 ∧ I k7' w') ∧ μ k7' w' < μ s w) old0 next1 which2 s w

def trystlaw14_StoreEach.c8 (R : Value → World → Prop) (old0 : Sl) (next1 : Sl) (which2 : Int) (w : World) : Prop :=
  trystlaw14_StoreEach.l2 R old0 next1 which2 1 w

def trystlaw14_StoreEach.main (R : Value → World → Prop) (old0 : Sl) (next1 : Sl) (which2 : Int) (w : World) : Prop :=
  cond (decide ((((old0.len : Nat) : Int) : Int) > 400))
  (R (.bool true) w)
  (cond (decide ((((next1.len : Nat) : Int) : Int) > 400))
  (R (.bool true) w)
  (trystlaw14_StoreEach.c8 R old0 next1 which2 w))

def trystlaw14_StoreEach.J2 (R : Value → World → Prop) (N2 : Sl → Sl → Int → Int → World → Prop) (k : Nat) (fr : Fr) (w : World) : Prop :=
  cond (Nat.beq k 7) (dec [(0, .slice), (1, .slice), (2, (.int .i64)), (7, (.int .i64)), (8, .ptr)] fr fun x => trystlaw14_StoreEach.c7 R N2 x.1 x.2.1 x.2.2.1 x.2.2.2.1 x.2.2.2.2 w) (cond (Nat.beq k 6) (dec [(0, .slice), (1, .slice), (2, (.int .i64)), (7, (.int .i64)), (8, .ptr), (10, .ptr)] fr fun x => trystlaw14_StoreEach.c6 R N2 x.1 x.2.1 x.2.2.1 x.2.2.2.1 x.2.2.2.2.1 x.2.2.2.2.2 w) (cond (Nat.beq k 5) (dec [(0, .slice), (1, .slice), (2, (.int .i64)), (7, (.int .i64)), (8, .ptr), (10, .ptr), (12, (.int .i64)), (11, .slice), (13, (.int .i64))] fr fun x => trystlaw14_StoreEach.l5 R N2 x.1 x.2.1 x.2.2.1 x.2.2.2.1 x.2.2.2.2.1 x.2.2.2.2.2.1 x.2.2.2.2.2.2.1 x.2.2.2.2.2.2.2.1 x.2.2.2.2.2.2.2.2 w) (cond (Nat.beq k 4) (dec [(0, .slice), (1, .slice), (2, (.int .i64)), (7, (.int .i64)), (8, .ptr), (10, .ptr), (11, .slice), (12, (.int .i64))] fr fun x => trystlaw14_StoreEach.c4 R N2 x.1 x.2.1 x.2.2.1 x.2.2.2.1 x.2.2.2.2.1 x.2.2.2.2.2.1 x.2.2.2.2.2.2.1 x.2.2.2.2.2.2.2 w) (cond (Nat.beq k 3) (dec [(0, .slice), (1, .slice), (2, (.int .i64)), (7, (.int .i64)), (8, .ptr), (10, .ptr)] fr fun x => trystlaw14_StoreEach.c3 R N2 x.1 x.2.1 x.2.2.1 x.2.2.2.1 x.2.2.2.2.1 x.2.2.2.2.2 w) (False)))))

def trystlaw14_StoreEach.J0 (R : Value → World → Prop) (k : Nat) (fr : Fr) (w : World) : Prop :=
  cond (Nat.beq k 8) (dec [(0, .slice), (1, .slice), (2, (.int .i64))] fr fun x => trystlaw14_StoreEach.c8 R x.1 x.2.1 x.2.2 w) (cond (Nat.beq k 2) (dec [(0, .slice), (1, .slice), (2, (.int .i64)), (7, (.int .i64))] fr fun x => trystlaw14_StoreEach.l2 R x.1 x.2.1 x.2.2.1 x.2.2.2 w) (cond (Nat.beq k 1) (dec [] fr fun x => trystlaw14_StoreEach.c1 R w) (False)))

set_option maxRecDepth 100000 in
theorem trystlaw14_StoreEach.lift {R : Value → World → Prop} {old0 : Sl} {next1 : Sl} {which2 : Int} {w : World} (h : trystlaw14_StoreEach.main R old0 next1 which2 w) : CallsV Tryd.prog n_trystlaw14_StoreEach #[.slice old0.a old0.len old0.cap, .slice next1.a next1.len next1.cap, .int .i64 which2] w R :=
  liftCalls (c := (.seq (.leaf (cL (bd Tryd.f7))) (.seq (.seq (.leaf (cL (cL (cR (bd Tryd.f7))))) (.cnd (.tmp 22) (.seq (.leaf (cL (cT (cR (cL (cR (bd Tryd.f7))))))) (.leaf (cR (cT (cR (cL (cR (bd Tryd.f7)))))))) (.leaf (cE (cR (cL (cR (bd Tryd.f7)))))))) (.cut 8 (.seq (.seq (.leaf (cL (cL (cR (cR (bd Tryd.f7)))))) (.block 0 (.loop 2 (.seq (.seq (.leaf (cL (cL (cB (cB (cR (cL (cR (cR (bd Tryd.f7)))))))))) (.cnd (.tmp 24) (.leaf (cT (cR (cL (cB (cB (cR (cL (cR (cR (bd Tryd.f7))))))))))) (.leaf (cE (cR (cL (cB (cB (cR (cL (cR (cR (bd Tryd.f7))))))))))))) (.seq (.block 1 (.seq (.leaf (cL (cB (cL (cR (cB (cB (cR (cL (cR (cR (bd Tryd.f7)))))))))))) (.seq (.seq (.leaf (cL (cL (cR (cB (cL (cR (cB (cB (cR (cL (cR (cR (bd Tryd.f7)))))))))))))) (.cnd (.tmp 36) (.seq (.leaf (cL (cT (cR (cL (cR (cB (cL (cR (cB (cB (cR (cL (cR (cR (bd Tryd.f7)))))))))))))))) (.leaf (cR (cT (cR (cL (cR (cB (cL (cR (cB (cB (cR (cL (cR (cR (bd Tryd.f7))))))))))))))))) (.leaf (cE (cR (cL (cR (cB (cL (cR (cB (cB (cR (cL (cR (cR (bd Tryd.f7))))))))))))))))) (.cut 7 (.seq (.leaf (cL (cR (cR (cB (cL (cR (cB (cB (cR (cL (cR (cR (bd Tryd.f7)))))))))))))) (.seq (.seq (.leaf (cL (cL (cR (cR (cR (cB (cL (cR (cB (cB (cR (cL (cR (cR (bd Tryd.f7)))))))))))))))) (.cnd (.tmp 53) (.seq (.leaf (cL (cT (cR (cL (cR (cR (cR (cB (cL (cR (cB (cB (cR (cL (cR (cR (bd Tryd.f7)))))))))))))))))) (.leaf (cR (cT (cR (cL (cR (cR (cR (cB (cL (cR (cB (cB (cR (cL (cR (cR (bd Tryd.f7))))))))))))))))))) (.leaf (cE (cR (cL (cR (cR (cR (cB (cL (cR (cB (cB (cR (cL (cR (cR (bd Tryd.f7))))))))))))))))))) (.cut 6 (.seq (.leaf (cL (cR (cR (cR (cR (cB (cL (cR (cB (cB (cR (cL (cR (cR (bd Tryd.f7)))))))))))))))) (.seq (.leaf (cL (cR (cR (cR (cR (cR (cB (cL (cR (cB (cB (cR (cL (cR (cR (bd Tryd.f7))))))))))))))))) (.seq (.seq (.leaf (cL (cL (cR (cR (cR (cR (cR (cR (cB (cL (cR (cB (cB (cR (cL (cR (cR (bd Tryd.f7))))))))))))))))))) (.block 2 (.seq (.leaf (cL (cB (cR (cL (cR (cR (cR (cR (cR (cR (cB (cL (cR (cB (cB (cR (cL (cR (cR (bd Tryd.f7))))))))))))))))))))) (.cnd (.tmp 57) (.seq (.leaf (cL (cT (cR (cB (cR (cL (cR (cR (cR (cR (cR (cR (cB (cL (cR (cB (cB (cR (cL (cR (cR (bd Tryd.f7))))))))))))))))))))))) (.block 3 (.loop 5 (.seq (.seq (.leaf (cL (cL (cB (cB (cR (cT (cR (cB (cR (cL (cR (cR (cR (cR (cR (cR (cB (cL (cR (cB (cB (cR (cL (cR (cR (bd Tryd.f7))))))))))))))))))))))))))) (.cnd (.tmp 60) (.leaf (cT (cR (cL (cB (cB (cR (cT (cR (cB (cR (cL (cR (cR (cR (cR (cR (cR (cB (cL (cR (cB (cB (cR (cL (cR (cR (bd Tryd.f7)))))))))))))))))))))))))))) (.leaf (cE (cR (cL (cB (cB (cR (cT (cR (cB (cR (cL (cR (cR (cR (cR (cR (cR (cB (cL (cR (cB (cB (cR (cL (cR (cR (bd Tryd.f7)))))))))))))))))))))))))))))) (.seq (.block 4 (.leaf (cB (cL (cR (cB (cB (cR (cT (cR (cB (cR (cL (cR (cR (cR (cR (cR (cR (cB (cL (cR (cB (cB (cR (cL (cR (cR (bd Tryd.f7))))))))))))))))))))))))))))) (.leaf (cR (cR (cB (cB (cR (cT (cR (cB (cR (cL (cR (cR (cR (cR (cR (cR (cB (cL (cR (cB (cB (cR (cL (cR (cR (bd Tryd.f7)))))))))))))))))))))))))))))))) (.seq (.leaf (cL (cE (cR (cB (cR (cL (cR (cR (cR (cR (cR (cR (cB (cL (cR (cB (cB (cR (cL (cR (cR (bd Tryd.f7))))))))))))))))))))))) (.cnd (.tmp 66) (.leaf (cT (cR (cE (cR (cB (cR (cL (cR (cR (cR (cR (cR (cR (cB (cL (cR (cB (cB (cR (cL (cR (cR (bd Tryd.f7)))))))))))))))))))))))) (.leaf (cE (cR (cE (cR (cB (cR (cL (cR (cR (cR (cR (cR (cR (cB (cL (cR (cB (cB (cR (cL (cR (cR (bd Tryd.f7)))))))))))))))))))))))))))))) (.cut 4 (.seq (.leaf (cL (cR (cR (cR (cR (cR (cR (cR (cB (cL (cR (cB (cB (cR (cL (cR (cR (bd Tryd.f7))))))))))))))))))) (.seq (.leaf (cL (cR (cR (cR (cR (cR (cR (cR (cR (cB (cL (cR (cB (cB (cR (cL (cR (cR (bd Tryd.f7)))))))))))))))))))) (.seq (.seq (.leaf (cL (cL (cR (cR (cR (cR (cR (cR (cR (cR (cR (cB (cL (cR (cB (cB (cR (cL (cR (cR (bd Tryd.f7)))))))))))))))))))))) (.cnd (.tmp 79) (.seq (.leaf (cL (cT (cR (cL (cR (cR (cR (cR (cR (cR (cR (cR (cR (cB (cL (cR (cB (cB (cR (cL (cR (cR (bd Tryd.f7)))))))))))))))))))))))) (.leaf (cR (cT (cR (cL (cR (cR (cR (cR (cR (cR (cR (cR (cR (cB (cL (cR (cB (cB (cR (cL (cR (cR (bd Tryd.f7))))))))))))))))))))))))) (.leaf (cE (cR (cL (cR (cR (cR (cR (cR (cR (cR (cR (cR (cB (cL (cR (cB (cB (cR (cL (cR (cR (bd Tryd.f7))))))))))))))))))))))))) (.seq (.leaf (cL (cR (cR (cR (cR (cR (cR (cR (cR (cR (cR (cB (cL (cR (cB (cB (cR (cL (cR (cR (bd Tryd.f7)))))))))))))))))))))) (.seq (.leaf (cL (cR (cR (cR (cR (cR (cR (cR (cR (cR (cR (cR (cB (cL (cR (cB (cB (cR (cL (cR (cR (bd Tryd.f7))))))))))))))))))))))) (.seq (.seq (.leaf (cL (cL (cR (cR (cR (cR (cR (cR (cR (cR (cR (cR (cR (cR (cB (cL (cR (cB (cB (cR (cL (cR (cR (bd Tryd.f7))))))))))))))))))))))))) (.cnd (.tmp 117) (.seq (.leaf (cL (cT (cR (cL (cR (cR (cR (cR (cR (cR (cR (cR (cR (cR (cR (cR (cB (cL (cR (cB (cB (cR (cL (cR (cR (bd Tryd.f7))))))))))))))))))))))))))) (.leaf (cR (cT (cR (cL (cR (cR (cR (cR (cR (cR (cR (cR (cR (cR (cR (cR (cB (cL (cR (cB (cB (cR (cL (cR (cR (bd Tryd.f7)))))))))))))))))))))))))))) (.leaf (cE (cR (cL (cR (cR (cR (cR (cR (cR (cR (cR (cR (cR (cR (cR (cB (cL (cR (cB (cB (cR (cL (cR (cR (bd Tryd.f7)))))))))))))))))))))))))))) (.cut 3 (.seq (.seq (.leaf (cL (cL (cR (cR (cR (cR (cR (cR (cR (cR (cR (cR (cR (cR (cR (cB (cL (cR (cB (cB (cR (cL (cR (cR (bd Tryd.f7)))))))))))))))))))))))))) (.cnd (.tmp 121) (.seq (.leaf (cL (cT (cR (cL (cR (cR (cR (cR (cR (cR (cR (cR (cR (cR (cR (cR (cR (cB (cL (cR (cB (cB (cR (cL (cR (cR (bd Tryd.f7)))))))))))))))))))))))))))) (.leaf (cR (cT (cR (cL (cR (cR (cR (cR (cR (cR (cR (cR (cR (cR (cR (cR (cR (cB (cL (cR (cB (cB (cR (cL (cR (cR (bd Tryd.f7))))))))))))))))))))))))))))) (.leaf (cE (cR (cL (cR (cR (cR (cR (cR (cR (cR (cR (cR (cR (cR (cR (cR (cB (cL (cR (cB (cB (cR (cL (cR (cR (bd Tryd.f7))))))))))))))))))))))))))))) (.seq (.leaf (cL (cR (cR (cR (cR (cR (cR (cR (cR (cR (cR (cR (cR (cR (cR (cB (cL (cR (cB (cB (cR (cL (cR (cR (bd Tryd.f7)))))))))))))))))))))))))) (.seq (.leaf (cL (cR (cR (cR (cR (cR (cR (cR (cR (cR (cR (cR (cR (cR (cR (cR (cB (cL (cR (cB (cB (cR (cL (cR (cR (bd Tryd.f7))))))))))))))))))))))))))) (.seq (.leaf (cL (cR (cR (cR (cR (cR (cR (cR (cR (cR (cR (cR (cR (cR (cR (cR (cR (cB (cL (cR (cB (cB (cR (cL (cR (cR (bd Tryd.f7)))))))))))))))))))))))))))) (.seq (.leaf (cL (cR (cR (cR (cR (cR (cR (cR (cR (cR (cR (cR (cR (cR (cR (cR (cR (cR (cB (cL (cR (cB (cB (cR (cL (cR (cR (bd Tryd.f7))))))))))))))))))))))))))))) (.cnd (.tmp 143) (.seq (.leaf (cL (cT (cR (cR (cR (cR (cR (cR (cR (cR (cR (cR (cR (cR (cR (cR (cR (cR (cR (cR (cB (cL (cR (cB (cB (cR (cL (cR (cR (bd Tryd.f7))))))))))))))))))))))))))))))) (.leaf (cR (cT (cR (cR (cR (cR (cR (cR (cR (cR (cR (cR (cR (cR (cR (cR (cR (cR (cR (cR (cB (cL (cR (cB (cB (cR (cL (cR (cR (bd Tryd.f7)))))))))))))))))))))))))))))))) (.leaf (cE (cR (cR (cR (cR (cR (cR (cR (cR (cR (cR (cR (cR (cR (cR (cR (cR (cR (cR (cB (cL (cR (cB (cB (cR (cL (cR (cR (bd Tryd.f7)))))))))))))))))))))))))))))))))))))))))))))))))))))) (.leaf (cR (cR (cB (cB (cR (cL (cR (cR (bd Tryd.f7))))))))))))))) (.cut 1 (.seq (.leaf (cL (cR (cR (cR (bd Tryd.f7)))))) (.leaf (cR (cR (cR (cR (bd Tryd.f7))))))))))))) (J := trystlaw14_StoreEach.J0 R) LfYtledhokhcoeeeaaDoor.mixed Tryd.func7 (by kernel_rfl) (by kernel_rfl) (mkSeq (mkSeq (mkCut (cutDef [(0, .slice), (1, .slice), (2, (.int .i64))] (fun x w => trystlaw14_StoreEach.c8 R x.1 x.2.1 x.2.2 w) (fun _ _ => by kernel_rfl) (fun _ _ => by kernel_rfl)) (mkSeq (mkCut (cutDef [] (fun x w => trystlaw14_StoreEach.c1 R w) (fun _ _ => by kernel_rfl) (fun _ _ => by kernel_rfl)) (mkSeq mkLeaf mkLeaf)) (mkSeq (mkBlock (mkLoop (loopDef LfYtledhokhcoeeeaaDoor.mixed [(0, .slice), (1, .slice), (2, (.int .i64)), (7, (.int .i64))] (by kernel_rfl) (fun M2 x w => trystlaw14_StoreEach.b2 R (fun y0 y1 y2 y3 w => M2 (y0, y1, y2, y3) w) x.1 x.2.1 x.2.2.1 x.2.2.2 w) (fun M2 => trystlaw14_StoreEach.J2 R (fun y0 y1 y2 y3 w => M2 (y0, y1, y2, y3) w)) (fun _ _ _ => by kernel_rfl) (fun M2 => (mkSeq (mkSeq mkLeaf (mkBlock (mkSeq (mkSeq (mkCut (cutDef [(0, .slice), (1, .slice), (2, (.int .i64)), (7, (.int .i64)), (8, .ptr)] (fun x w => trystlaw14_StoreEach.c7 R (fun y0 y1 y2 y3 w => M2 (y0, y1, y2, y3) w) x.1 x.2.1 x.2.2.1 x.2.2.2.1 x.2.2.2.2 w) (fun _ _ => by kernel_rfl) (fun _ _ => by kernel_rfl)) (mkSeq (mkSeq (mkCut (cutDef [(0, .slice), (1, .slice), (2, (.int .i64)), (7, (.int .i64)), (8, .ptr), (10, .ptr)] (fun x w => trystlaw14_StoreEach.c6 R (fun y0 y1 y2 y3 w => M2 (y0, y1, y2, y3) w) x.1 x.2.1 x.2.2.1 x.2.2.2.1 x.2.2.2.2.1 x.2.2.2.2.2 w) (fun _ _ => by kernel_rfl) (fun _ _ => by kernel_rfl)) (mkSeq (mkSeq (mkSeq (mkCut (cutDef [(0, .slice), (1, .slice), (2, (.int .i64)), (7, (.int .i64)), (8, .ptr), (10, .ptr), (11, .slice), (12, (.int .i64))] (fun x w => trystlaw14_StoreEach.c4 R (fun y0 y1 y2 y3 w => M2 (y0, y1, y2, y3) w) x.1 x.2.1 x.2.2.1 x.2.2.2.1 x.2.2.2.2.1 x.2.2.2.2.2.1 x.2.2.2.2.2.2.1 x.2.2.2.2.2.2.2 w) (fun _ _ => by kernel_rfl) (fun _ _ => by kernel_rfl)) (mkSeq (mkSeq (mkSeq (mkSeq (mkSeq (mkSeq (mkCut (cutDef [(0, .slice), (1, .slice), (2, (.int .i64)), (7, (.int .i64)), (8, .ptr), (10, .ptr)] (fun x w => trystlaw14_StoreEach.c3 R (fun y0 y1 y2 y3 w => M2 (y0, y1, y2, y3) w) x.1 x.2.1 x.2.2.1 x.2.2.2.1 x.2.2.2.2.1 x.2.2.2.2.2 w) (fun _ _ => by kernel_rfl) (fun _ _ => by kernel_rfl)) (mkSeq (mkSeq (mkSeq (mkSeq (mkSeq (mkCnd (mkSeq mkLeaf mkLeaf) mkLeaf) mkLeaf) mkLeaf) mkLeaf) mkLeaf) (mkSeq (mkCnd (mkSeq mkLeaf mkLeaf) mkLeaf) mkLeaf))) (mkSeq (mkCnd (mkSeq mkLeaf mkLeaf) mkLeaf) mkLeaf)) mkLeaf) mkLeaf) (mkSeq (mkCnd (mkSeq mkLeaf mkLeaf) mkLeaf) mkLeaf)) mkLeaf) mkLeaf)) (mkSeq (mkBlock (mkSeq (mkCnd (mkSeq (mkBlock (mkLoop (loopDef LfYtledhokhcoeeeaaDoor.mixed [(0, .slice), (1, .slice), (2, (.int .i64)), (7, (.int .i64)), (8, .ptr), (10, .ptr), (12, (.int .i64)), (11, .slice), (13, (.int .i64))] (by kernel_rfl) (fun M5 x w => trystlaw14_StoreEach.b5 R (fun y0 y1 y2 y3 w => M2 (y0, y1, y2, y3) w) (fun y0 y1 y2 y3 y4 y5 y6 y7 y8 w => M5 (y0, y1, y2, y3, y4, y5, y6, y7, y8) w) x.1 x.2.1 x.2.2.1 x.2.2.2.1 x.2.2.2.2.1 x.2.2.2.2.2.1 x.2.2.2.2.2.2.1 x.2.2.2.2.2.2.2.1 x.2.2.2.2.2.2.2.2 w) (fun M5 => fun _ _ _ => False) (fun _ _ _ => by kernel_rfl) (fun M5 => (mkSeq (mkSeq mkLeaf (mkBlock mkLeaf)) (mkSeq (mkCnd mkLeaf mkLeaf) mkLeaf))) (fun x w => trystlaw14_StoreEach.l5 R (fun y0 y1 y2 y3 w => M2 (y0, y1, y2, y3) w) x.1 x.2.1 x.2.2.1 x.2.2.2.1 x.2.2.2.2.1 x.2.2.2.2.2.1 x.2.2.2.2.2.2.1 x.2.2.2.2.2.2.2.1 x.2.2.2.2.2.2.2.2 w) (by rintro ⟨c0, c1, c2, c3, c4, c5, c6, s0⟩ w ⟨I, μ, h0, h1⟩; refine ⟨fun y w => y.1 = c0 ∧ y.2.1 = c1 ∧ y.2.2.1 = c2 ∧ y.2.2.2.1 = c3 ∧ y.2.2.2.2.1 = c4 ∧ y.2.2.2.2.2.1 = c5 ∧ y.2.2.2.2.2.2.1 = c6 ∧ I y.2.2.2.2.2.2.2 w, fun y w => μ y.2.2.2.2.2.2.2 w, ⟨rfl, rfl, rfl, rfl, rfl, rfl, rfl, h0⟩, ?_⟩; rintro ⟨d0, d1, d2, d3, d4, d5, d6, t0⟩ w ⟨e0, e1, e2, e3, e4, e5, e6, hI⟩; dsimp only at e0 e1 e2 e3 e4 e5 e6 hI; subst e0; subst e1; subst e2; subst e3; subst e4; subst e5; subst e6; exact h1 _ _ hI) (fun _ _ => by kernel_rfl)))) mkLeaf) (mkSeq (mkCnd mkLeaf mkLeaf) mkLeaf)) mkLeaf)) mkLeaf)) mkLeaf) mkLeaf)) (mkSeq (mkCnd (mkSeq mkLeaf mkLeaf) mkLeaf) mkLeaf)) mkLeaf)) (mkSeq (mkCnd (mkSeq mkLeaf mkLeaf) mkLeaf) mkLeaf)) mkLeaf))) (mkSeq (mkCnd mkLeaf mkLeaf) mkLeaf))) (fun x w => trystlaw14_StoreEach.l2 R x.1 x.2.1 x.2.2.1 x.2.2.2 w) (by rintro ⟨c0, c1, c2, s0⟩ w ⟨I, μ, h0, h1⟩; refine ⟨fun y w => y.1 = c0 ∧ y.2.1 = c1 ∧ y.2.2.1 = c2 ∧ I y.2.2.2 w, fun y w => μ y.2.2.2 w, ⟨rfl, rfl, rfl, h0⟩, ?_⟩; rintro ⟨d0, d1, d2, t0⟩ w ⟨e0, e1, e2, hI⟩; dsimp only at e0 e1 e2 hI; subst e0; subst e1; subst e2; exact h1 _ _ hI) (fun _ _ => by kernel_rfl)))) mkLeaf))) (mkSeq (mkCnd (mkSeq mkLeaf mkLeaf) mkLeaf) mkLeaf)) mkLeaf) (kcast (by kernel_rfl) h)

end Go.Proofs.YtledhokhcoeeeaaDoor
