/-
  What the code of these functions comes to, and that it suffices for the call. Written by a program of ours, for this claim.
-/
import Derived.Test.YtledhokhcoeeeaaDoorStFns
set_option linter.unusedVariables false
set_option linter.unusedVariables false
namespace Go.Proofs.YtledhokhcoeeeaaDoor
open Go.Lf
abbrev n_trystlaw14_StoreBounds : Nat := 4
/-! trystlaw14_StoreBounds -/
def trystlaw14_StoreBounds.c1 (R : Value → World → Prop) (d7 : Option Addr) (want12 : Sl) (w : World) : Prop :=
  CallsV Tryd.prog n_disk_Disk_Start #[.pointer d7] w (fun v_1 w1 =>
  v_1 = .tuple #[] ∧
  CallsV Tryd.prog n_store_Open #[.pointer d7] w1 (fun v_2 w2 =>
  ∃ p_3 : Option Addr, ∃ x_4 : Int, v_2 = .tuple #[.pointer p_3, .int .i64 x_4] ∧
  cond ((x_4 : Int) == 0)
  (cond (!(p_3).isNone)
  (CallsV Tryd.prog n_store_Store_State #[.pointer p_3] w2 (fun v_5 w3 =>
  ∃ (a_6 : Option Addr) (l_7 c_8 : Nat), v_5 = .slice a_6 l_7 c_8 ∧
  CallsV Tryd.prog n_trystkeep_Bytes #[.slice a_6 l_7 c_8, .slice want12.a want12.len want12.cap] w3 (fun v_9 w4 =>
  ∃ b_10 : Bool, v_9 = .bool b_10 ∧
  cond b_10
  (CallsV Tryd.prog n_trystlaw14_wakes #[] w4 (fun v_11 w5 =>
  ∃ b_12 : Bool, v_11 = .bool b_12 ∧
  R (.bool b_12) w5))
  (R (.bool false) w4))))
  (R (.bool false) w2))
  (R (.bool false) w2)))

def trystlaw14_StoreBounds.c2 (R : Value → World → Prop) (d7 : Option Addr) (s9 : Option Addr) (want12 : Sl) (w : World) : Prop :=
  CallsV Tryd.prog n_store_Store_State #[.pointer s9] w (fun v_13 w6 =>
  ∃ (a_14 : Option Addr) (l_15 c_16 : Nat), v_13 = .slice a_14 l_15 c_16 ∧
  CallsV Tryd.prog n_trystkeep_Bytes #[.slice a_14 l_15 c_16, .slice want12.a want12.len want12.cap] w6 (fun v_17 w7 =>
  ∃ b_18 : Bool, v_17 = .bool b_18 ∧
  cond (!b_18)
  (R (.bool false) w7)
  (CallsV Tryd.prog n_disk_Disk_Crash #[.pointer d7, .slice none 0 0, .int .i64 (-1)] w7 (fun v_19 w8 =>
  v_19 = .tuple #[] ∧
  CallsV Tryd.prog n_store_Open #[.pointer d7] w8 (fun v_20 w9 =>
  ∃ p_21 : Option Addr, ∃ x_22 : Int, v_20 = .tuple #[.pointer p_21, .int .i64 x_22] ∧
  cond ((x_22 : Int) != 9)
  (R (.bool false) w9)
  (cond (!(p_21).isNone)
  (R (.bool false) w9)
  (CallsV Tryd.prog n_store_Store_Save #[.pointer s9, .slice none 0 0] w9 (fun v_23 w10 =>
  ∃ x_24 : Int, v_23 = .int .i64 x_24 ∧
  cond ((x_24 : Int) != 9)
  (R (.bool false) w10)
  (trystlaw14_StoreBounds.c1 R d7 want12 w10)))))))))

def trystlaw14_StoreBounds.c3 (R : Value → World → Prop) (over1 : Int) (d7 : Option Addr) (s9 : Option Addr) (long10 : Sl) (w : World) : Prop :=
  CallsV Tryd.prog n_store_Store_Save #[.pointer s9, .slice long10.a long10.len long10.cap] w (fun v_25 w11 =>
  ∃ x_26 : Int, v_25 = .int .i64 x_26 ∧
  cond (decide ((over1 : Int) > 0))
  (let w12 := w11.alloc (.cells #[.int .u8 1, .int .u8 2, .int .u8 3] 5);
  cond ((x_26 : Int) != 2)
  (R (.bool false) w12)
  (trystlaw14_StoreBounds.c2 R d7 s9 ⟨(some (newA w11)), 3, 3⟩ w12))
  (cond ((x_26 : Int) != 0)
  (R (.bool false) w11)
  (trystlaw14_StoreBounds.c2 R d7 s9 long10 w11)))

def trystlaw14_StoreBounds.b4 (R : Value → World → Prop) (N4 : Int → Int → Option Addr → Option Addr → Sl → Int → World → Prop) (over1 : Int) (c2 : Int) (d7 : Option Addr) (s9 : Option Addr) (long10 : Sl) (i11 : Int) (w : World) : Prop :=
  cond (decide ((i11 : Int) < ((long10.len : Nat) : Int)))
  (0 ≤ (i11 : Int) ∧ i11 < ((long10.len : Nat) : Int) ∧ ∃ q_27 : Addr, long10.a = some q_27 ∧
  Wr w (q_27.add (i11 : Int).toNat) ∧
  (let w13 := w.setCell (q_27.add (i11 : Int).toNat) (.int .u8 c2);
  (let i11_27 : Int := (IntKind.i64.wrap (i11 + 1));
  N4 over1 c2 d7 s9 long10 i11_27 w13)))
  (trystlaw14_StoreBounds.c3 R over1 d7 s9 long10 w)

def trystlaw14_StoreBounds.l4 (R : Value → World → Prop) (over1 : Int) (c2 : Int) (d7 : Option Addr) (s9 : Option Addr) (long10 : Sl) (i11 : Int) (w : World) : Prop :=
  ∃ (I : Int → World → Prop) (μ : Int → World → Nat), I i11 w ∧ ∀ s w, I s w → trystlaw14_StoreBounds.b4 R (fun over1' c2' d7' s9' long10' i11' w' => (over1' = over1 ∧ c2' = c2 ∧ d7' = d7 ∧ s9' = s9 ∧ long10' = long10 ∧ I i11' w') ∧ μ i11' w' < μ s w) over1 c2 d7 s9 long10 s w

def trystlaw14_StoreBounds.c5 (R : Value → World → Prop) (over1 : Int) (c2 : Int) (d7 : Option Addr) (s9 : Option Addr) (w : World) : Prop :=
  0 ≤ ((IntKind.i64.wrap (8000 + over1)) : Int) ∧ ((IntKind.i64.wrap (8000 + over1)) : Int) ≤ (IntKind.i64.wrap (8000 + over1)) ∧ (1 : Int) * (IntKind.i64.wrap (8000 + over1)) ≤ 281474976710656 ∧ ((IntKind.i64.wrap (8000 + over1)) : Int) ≤ 9223372036854775807 ∧
  (let w14 := w.alloc (.cells ((Array.range (((IntKind.i64.wrap (8000 + over1)) : Int).toNat * 1)).map ((#[.int .u8 0] : Array Value)[· % (#[.int .u8 0] : Array Value).size]!)) 5);
  trystlaw14_StoreBounds.l4 R over1 c2 d7 s9 ⟨(some (newA w)), ((IntKind.i64.wrap (8000 + over1)) : Int).toNat, ((IntKind.i64.wrap (8000 + over1)) : Int).toNat⟩ 0 w14)

def trystlaw14_StoreBounds.c6 (R : Value → World → Prop) (sectors0 : Int) (over1 : Int) (c2 : Int) (d7 : Option Addr) (w : World) : Prop :=
  CallsV Tryd.prog n_store_Open #[.pointer d7] w (fun v_29 w15 =>
  ∃ p_30 : Option Addr, ∃ x_31 : Int, v_29 = .tuple #[.pointer p_30, .int .i64 x_31] ∧
  cond (decide ((sectors0 : Int) < 300))
  (cond ((x_31 : Int) == 7)
  (cond ((p_30).isNone)
  (CallsV Tryd.prog n_trystlaw14_wakes #[] w15 (fun v_32 w16 =>
  ∃ b_33 : Bool, v_32 = .bool b_33 ∧
  R (.bool b_33) w16))
  (R (.bool false) w15))
  (R (.bool false) w15))
  (cond ((x_31 : Int) != 0)
  (R (.bool false) w15)
  (cond ((p_30).isNone)
  (R (.bool false) w15)
  (let w17 := w15.alloc (.cells #[.int .u8 1, .int .u8 2, .int .u8 3] 5);
  CallsV Tryd.prog n_store_Store_Save #[.pointer p_30, .slice (some (newA w15)) 3 3] w17 (fun v_34 w18 =>
  ∃ x_35 : Int, v_34 = .int .i64 x_35 ∧
  cond ((x_35 : Int) != 0)
  (R (.bool false) w18)
  (trystlaw14_StoreBounds.c5 R over1 c2 d7 p_30 w18))))))

def trystlaw14_StoreBounds.c7 (R : Value → World → Prop) (sectors0 : Int) (over1 : Int) (c2 : Int) (w : World) : Prop :=
  CallsV Tryd.prog n_disk_New #[.int .i64 sectors0] w (fun v_36 w19 =>
  ∃ p_37 : Option Addr, ∃ x_38 : Int, v_36 = .tuple #[.pointer p_37, .int .i64 x_38] ∧
  cond ((x_38 : Int) != 0)
  (CallsV Tryd.prog n_trystlaw14_wakes #[] w19 (fun v_39 w20 =>
  ∃ b_40 : Bool, v_39 = .bool b_40 ∧
  R (.bool b_40) w20))
  (cond ((p_37).isNone)
  (CallsV Tryd.prog n_trystlaw14_wakes #[] w19 (fun v_41 w21 =>
  ∃ b_42 : Bool, v_41 = .bool b_42 ∧
  R (.bool b_42) w21))
  (trystlaw14_StoreBounds.c6 R sectors0 over1 c2 p_37 w19)))

def trystlaw14_StoreBounds.main (R : Value → World → Prop) (sectors0 : Int) (over1 : Int) (c2 : Int) (w : World) : Prop :=
  cond (decide ((over1 : Int) < (-3)))
  (R (.bool true) w)
  (cond (decide ((over1 : Int) > 2))
  (R (.bool true) w)
  (trystlaw14_StoreBounds.c7 R sectors0 over1 c2 w))

def trystlaw14_StoreBounds.J0 (R : Value → World → Prop) (k : Nat) (fr : Fr) (w : World) : Prop :=
  cond (Nat.beq k 7) (dec [(0, (.int .i64)), (1, (.int .i64)), (2, (.int .u8))] fr fun x => trystlaw14_StoreBounds.c7 R x.1 x.2.1 x.2.2 w) (cond (Nat.beq k 6) (dec [(0, (.int .i64)), (1, (.int .i64)), (2, (.int .u8)), (7, .ptr)] fr fun x => trystlaw14_StoreBounds.c6 R x.1 x.2.1 x.2.2.1 x.2.2.2 w) (cond (Nat.beq k 5) (dec [(1, (.int .i64)), (2, (.int .u8)), (7, .ptr), (9, .ptr)] fr fun x => trystlaw14_StoreBounds.c5 R x.1 x.2.1 x.2.2.1 x.2.2.2 w) (cond (Nat.beq k 4) (dec [(1, (.int .i64)), (2, (.int .u8)), (7, .ptr), (9, .ptr), (10, .slice), (11, (.int .i64))] fr fun x => trystlaw14_StoreBounds.l4 R x.1 x.2.1 x.2.2.1 x.2.2.2.1 x.2.2.2.2.1 x.2.2.2.2.2 w) (cond (Nat.beq k 3) (dec [(1, (.int .i64)), (7, .ptr), (9, .ptr), (10, .slice)] fr fun x => trystlaw14_StoreBounds.c3 R x.1 x.2.1 x.2.2.1 x.2.2.2 w) (cond (Nat.beq k 2) (dec [(7, .ptr), (9, .ptr), (12, .slice)] fr fun x => trystlaw14_StoreBounds.c2 R x.1 x.2.1 x.2.2 w) (cond (Nat.beq k 1) (dec [(7, .ptr), (12, .slice)] fr fun x => trystlaw14_StoreBounds.c1 R x.1 x.2 w) (False)))))))

set_option maxRecDepth 100000 in
theorem trystlaw14_StoreBounds.lift {R : Value → World → Prop} {sectors0 : Int} {over1 : Int} {c2 : Int} {w : World} (h : trystlaw14_StoreBounds.main R sectors0 over1 c2 w) : CallsV Tryd.prog n_trystlaw14_StoreBounds #[.int .i64 sectors0, .int .i64 over1, .int .u8 c2] w R :=
  liftCalls (c := (.seq (.leaf (cL (bd Tryd.f4))) (.seq (.seq (.leaf (cL (cL (cR (bd Tryd.f4))))) (.cnd (.tmp 19) (.seq (.leaf (cL (cT (cR (cL (cR (bd Tryd.f4))))))) (.leaf (cR (cT (cR (cL (cR (bd Tryd.f4)))))))) (.leaf (cE (cR (cL (cR (bd Tryd.f4)))))))) (.cut 7 (.seq (.leaf (cL (cR (cR (bd Tryd.f4))))) (.seq (.seq (.leaf (cL (cL (cR (cR (cR (bd Tryd.f4))))))) (.cnd (.tmp 30) (.seq (.leaf (cL (cT (cR (cL (cR (cR (cR (bd Tryd.f4))))))))) (.leaf (cR (cT (cR (cL (cR (cR (cR (bd Tryd.f4)))))))))) (.leaf (cE (cR (cL (cR (cR (cR (bd Tryd.f4)))))))))) (.cut 6 (.seq (.leaf (cL (cR (cR (cR (cR (bd Tryd.f4))))))) (.seq (.seq (.leaf (cL (cL (cR (cR (cR (cR (cR (bd Tryd.f4))))))))) (.cnd (.tmp 38) (.seq (.leaf (cL (cT (cR (cL (cR (cR (cR (cR (cR (bd Tryd.f4))))))))))) (.leaf (cR (cT (cR (cL (cR (cR (cR (cR (cR (bd Tryd.f4)))))))))))) (.leaf (cE (cR (cL (cR (cR (cR (cR (cR (bd Tryd.f4)))))))))))) (.seq (.seq (.leaf (cL (cL (cR (cR (cR (cR (cR (cR (bd Tryd.f4)))))))))) (.cnd (.tmp 59) (.seq (.leaf (cL (cT (cR (cL (cR (cR (cR (cR (cR (cR (bd Tryd.f4)))))))))))) (.leaf (cR (cT (cR (cL (cR (cR (cR (cR (cR (cR (bd Tryd.f4))))))))))))) (.leaf (cE (cR (cL (cR (cR (cR (cR (cR (cR (bd Tryd.f4))))))))))))) (.cut 5 (.seq (.leaf (cL (cR (cR (cR (cR (cR (cR (cR (bd Tryd.f4)))))))))) (.seq (.seq (.leaf (cL (cL (cR (cR (cR (cR (cR (cR (cR (cR (bd Tryd.f4)))))))))))) (.block 0 (.loop 4 (.seq (.seq (.leaf (cL (cL (cB (cB (cR (cL (cR (cR (cR (cR (cR (cR (cR (cR (bd Tryd.f4)))))))))))))))) (.cnd (.tmp 66) (.leaf (cT (cR (cL (cB (cB (cR (cL (cR (cR (cR (cR (cR (cR (cR (cR (bd Tryd.f4))))))))))))))))) (.leaf (cE (cR (cL (cB (cB (cR (cL (cR (cR (cR (cR (cR (cR (cR (cR (bd Tryd.f4))))))))))))))))))) (.seq (.block 1 (.leaf (cB (cL (cR (cB (cB (cR (cL (cR (cR (cR (cR (cR (cR (cR (cR (bd Tryd.f4)))))))))))))))))) (.leaf (cR (cR (cB (cB (cR (cL (cR (cR (cR (cR (cR (cR (cR (cR (bd Tryd.f4))))))))))))))))))))) (.cut 3 (.seq (.leaf (cL (cR (cR (cR (cR (cR (cR (cR (cR (cR (bd Tryd.f4)))))))))))) (.seq (.leaf (cL (cR (cR (cR (cR (cR (cR (cR (cR (cR (cR (bd Tryd.f4))))))))))))) (.seq (.seq (.leaf (cL (cL (cR (cR (cR (cR (cR (cR (cR (cR (cR (cR (cR (bd Tryd.f4))))))))))))))) (.cnd (.tmp 78) (.seq (.leaf (cL (cT (cR (cL (cR (cR (cR (cR (cR (cR (cR (cR (cR (cR (cR (bd Tryd.f4))))))))))))))))) (.seq (.leaf (cL (cR (cT (cR (cL (cR (cR (cR (cR (cR (cR (cR (cR (cR (cR (cR (bd Tryd.f4)))))))))))))))))) (.cnd (.tmp 81) (.seq (.leaf (cL (cT (cR (cR (cT (cR (cL (cR (cR (cR (cR (cR (cR (cR (cR (cR (cR (cR (bd Tryd.f4)))))))))))))))))))) (.leaf (cR (cT (cR (cR (cT (cR (cL (cR (cR (cR (cR (cR (cR (cR (cR (cR (cR (cR (bd Tryd.f4))))))))))))))))))))) (.leaf (cE (cR (cR (cT (cR (cL (cR (cR (cR (cR (cR (cR (cR (cR (cR (cR (cR (bd Tryd.f4)))))))))))))))))))))) (.seq (.leaf (cL (cE (cR (cL (cR (cR (cR (cR (cR (cR (cR (cR (cR (cR (cR (bd Tryd.f4))))))))))))))))) (.cnd (.tmp 83) (.seq (.leaf (cL (cT (cR (cE (cR (cL (cR (cR (cR (cR (cR (cR (cR (cR (cR (cR (cR (bd Tryd.f4))))))))))))))))))) (.leaf (cR (cT (cR (cE (cR (cL (cR (cR (cR (cR (cR (cR (cR (cR (cR (cR (cR (bd Tryd.f4)))))))))))))))))))) (.leaf (cE (cR (cE (cR (cL (cR (cR (cR (cR (cR (cR (cR (cR (cR (cR (cR (bd Tryd.f4)))))))))))))))))))))) (.cut 2 (.seq (.seq (.leaf (cL (cL (cR (cR (cR (cR (cR (cR (cR (cR (cR (cR (cR (cR (bd Tryd.f4)))))))))))))))) (.cnd (.tmp 88) (.seq (.leaf (cL (cT (cR (cL (cR (cR (cR (cR (cR (cR (cR (cR (cR (cR (cR (cR (bd Tryd.f4)))))))))))))))))) (.leaf (cR (cT (cR (cL (cR (cR (cR (cR (cR (cR (cR (cR (cR (cR (cR (cR (bd Tryd.f4))))))))))))))))))) (.leaf (cE (cR (cL (cR (cR (cR (cR (cR (cR (cR (cR (cR (cR (cR (cR (bd Tryd.f4))))))))))))))))))) (.seq (.leaf (cL (cR (cR (cR (cR (cR (cR (cR (cR (cR (cR (cR (cR (cR (bd Tryd.f4)))))))))))))))) (.seq (.leaf (cL (cR (cR (cR (cR (cR (cR (cR (cR (cR (cR (cR (cR (cR (cR (bd Tryd.f4))))))))))))))))) (.seq (.seq (.leaf (cL (cL (cR (cR (cR (cR (cR (cR (cR (cR (cR (cR (cR (cR (cR (cR (cR (bd Tryd.f4))))))))))))))))))) (.cnd (.tmp 106) (.seq (.leaf (cL (cT (cR (cL (cR (cR (cR (cR (cR (cR (cR (cR (cR (cR (cR (cR (cR (cR (cR (bd Tryd.f4))))))))))))))))))))) (.leaf (cR (cT (cR (cL (cR (cR (cR (cR (cR (cR (cR (cR (cR (cR (cR (cR (cR (cR (cR (bd Tryd.f4)))))))))))))))))))))) (.leaf (cE (cR (cL (cR (cR (cR (cR (cR (cR (cR (cR (cR (cR (cR (cR (cR (cR (cR (bd Tryd.f4)))))))))))))))))))))) (.cut 1 (.seq (.leaf (cL (cR (cR (cR (cR (cR (cR (cR (cR (cR (cR (cR (cR (cR (cR (cR (cR (bd Tryd.f4))))))))))))))))))) (.seq (.leaf (cL (cR (cR (cR (cR (cR (cR (cR (cR (cR (cR (cR (cR (cR (cR (cR (cR (cR (bd Tryd.f4)))))))))))))))))))) (.seq (.leaf (cL (cR (cR (cR (cR (cR (cR (cR (cR (cR (cR (cR (cR (cR (cR (cR (cR (cR (cR (bd Tryd.f4))))))))))))))))))))) (.leaf (cR (cR (cR (cR (cR (cR (cR (cR (cR (cR (cR (cR (cR (cR (cR (cR (cR (cR (cR (bd Tryd.f4))))))))))))))))))))))))))))))))))))))))))))))) (J := trystlaw14_StoreBounds.J0 R) LfYtledhokhcoeeeaaDoor.mixed Tryd.func4 (by kernel_rfl) (by kernel_rfl) (mkSeq (mkSeq (mkCut (cutDef [(0, (.int .i64)), (1, (.int .i64)), (2, (.int .u8))] (fun x w => trystlaw14_StoreBounds.c7 R x.1 x.2.1 x.2.2 w) (fun _ _ => by kernel_rfl) (fun _ _ => by kernel_rfl)) (mkSeq (mkSeq (mkCut (cutDef [(0, (.int .i64)), (1, (.int .i64)), (2, (.int .u8)), (7, .ptr)] (fun x w => trystlaw14_StoreBounds.c6 R x.1 x.2.1 x.2.2.1 x.2.2.2 w) (fun _ _ => by kernel_rfl) (fun _ _ => by kernel_rfl)) (mkSeq (mkSeq (mkSeq (mkCut (cutDef [(1, (.int .i64)), (2, (.int .u8)), (7, .ptr), (9, .ptr)] (fun x w => trystlaw14_StoreBounds.c5 R x.1 x.2.1 x.2.2.1 x.2.2.2 w) (fun _ _ => by kernel_rfl) (fun _ _ => by kernel_rfl)) (mkSeq (mkSeq (mkCut (cutDef [(1, (.int .i64)), (7, .ptr), (9, .ptr), (10, .slice)] (fun x w => trystlaw14_StoreBounds.c3 R x.1 x.2.1 x.2.2.1 x.2.2.2 w) (fun _ _ => by kernel_rfl) (fun _ _ => by kernel_rfl)) (mkSeq (mkSeq (mkSeq (mkCut (cutDef [(7, .ptr), (9, .ptr), (12, .slice)] (fun x w => trystlaw14_StoreBounds.c2 R x.1 x.2.1 x.2.2 w) (fun _ _ => by kernel_rfl) (fun _ _ => by kernel_rfl)) (mkSeq (mkSeq (mkSeq (mkSeq (mkCut (cutDef [(7, .ptr), (12, .slice)] (fun x w => trystlaw14_StoreBounds.c1 R x.1 x.2 w) (fun _ _ => by kernel_rfl) (fun _ _ => by kernel_rfl)) (mkSeq (mkSeq (mkSeq mkLeaf mkLeaf) mkLeaf) mkLeaf)) (mkSeq (mkCnd (mkSeq mkLeaf mkLeaf) mkLeaf) mkLeaf)) mkLeaf) mkLeaf) (mkSeq (mkCnd (mkSeq mkLeaf mkLeaf) mkLeaf) mkLeaf))) (mkSeq (mkCnd (mkSeq (mkSeq (mkCnd (mkSeq mkLeaf mkLeaf) mkLeaf) mkLeaf) mkLeaf) (mkSeq (mkCnd (mkSeq mkLeaf mkLeaf) mkLeaf) mkLeaf)) mkLeaf)) mkLeaf) mkLeaf)) (mkSeq (mkBlock (mkLoop (loopDef LfYtledhokhcoeeeaaDoor.mixed [(1, (.int .i64)), (2, (.int .u8)), (7, .ptr), (9, .ptr), (10, .slice), (11, (.int .i64))] (by kernel_rfl) (fun M4 x w => trystlaw14_StoreBounds.b4 R (fun y0 y1 y2 y3 y4 y5 w => M4 (y0, y1, y2, y3, y4, y5) w) x.1 x.2.1 x.2.2.1 x.2.2.2.1 x.2.2.2.2.1 x.2.2.2.2.2 w) (fun M4 => fun _ _ _ => False) (fun _ _ _ => by kernel_rfl) (fun M4 => (mkSeq (mkSeq mkLeaf (mkBlock mkLeaf)) (mkSeq (mkCnd mkLeaf mkLeaf) mkLeaf))) (fun x w => trystlaw14_StoreBounds.l4 R x.1 x.2.1 x.2.2.1 x.2.2.2.1 x.2.2.2.2.1 x.2.2.2.2.2 w) (by rintro ⟨c0, c1, c2, c3, c4, s0⟩ w ⟨I, μ, h0, h1⟩; refine ⟨fun y w => y.1 = c0 ∧ y.2.1 = c1 ∧ y.2.2.1 = c2 ∧ y.2.2.2.1 = c3 ∧ y.2.2.2.2.1 = c4 ∧ I y.2.2.2.2.2 w, fun y w => μ y.2.2.2.2.2 w, ⟨rfl, rfl, rfl, rfl, rfl, h0⟩, ?_⟩; rintro ⟨d0, d1, d2, d3, d4, t0⟩ w ⟨e0, e1, e2, e3, e4, hI⟩; dsimp only at e0 e1 e2 e3 e4 hI; subst e0; subst e1; subst e2; subst e3; subst e4; exact h1 _ _ hI) (fun _ _ => by kernel_rfl)))) mkLeaf)) mkLeaf)) (mkSeq (mkCnd (mkSeq mkLeaf mkLeaf) mkLeaf) mkLeaf)) (mkSeq (mkCnd (mkSeq mkLeaf mkLeaf) mkLeaf) mkLeaf)) mkLeaf)) (mkSeq (mkCnd (mkSeq mkLeaf mkLeaf) mkLeaf) mkLeaf)) mkLeaf)) (mkSeq (mkCnd (mkSeq mkLeaf mkLeaf) mkLeaf) mkLeaf)) mkLeaf) (kcast (by kernel_rfl) h)

end Go.Proofs.YtledhokhcoeeeaaDoor
