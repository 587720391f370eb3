/-
  What the code of these functions comes to, and that it suffices for the call. Written by a program of ours, for this claim.
-/
import Derived.Test.YtoclhecldmahiaaDoorKwFns
set_option linter.unusedVariables false
namespace Go.Proofs.YtoclhecldmahiaaDoor
open Go.Lf
abbrev n_trystlaw18_SchedLeaves : Nat := 3
abbrev n_trystlaw18_SchedExact : Nat := 4
abbrev n_trystlaw18_SchedApart : Nat := 17
abbrev n_sched_Chain : Nat := 26
abbrev n_trystlaw18_nodes : Nat := 27
abbrev n_trystlaw18_leaf : Nat := 28
abbrev n_trystref15_Chain : Nat := 29
abbrev n_trystlaw18_like : Nat := 30
abbrev n_sched_Meet : Nat := 31
abbrev n_trystref15_Meet : Nat := 32
abbrev n_trystlaw18_wakes : Nat := 33
abbrev n_sched_Joiner : Nat := 34
abbrev n_trystref15_Joiner : Nat := 35
abbrev n_sched_Secret : Nat := 36
abbrev n_trystref15_Secret : Nat := 37
abbrev n_sched_Tag : Nat := 38
abbrev n_trystref15_Tag : Nat := 39
abbrev n_sched_History : Nat := 40
abbrev n_sched_Start : Nat := 42
abbrev n_sched_Register : Nat := 44
abbrev n_sched_First : Nat := 45
abbrev n_sched_leaf : Nat := 98
abbrev n_sched_maker_done : Nat := 99
abbrev n_sched_maker_make : Nat := 100
abbrev n_sched_hash : Nat := 101
abbrev n_sched_kdf : Nat := 104
/-! trystlaw18_SchedLeaves -/
def trystlaw18_SchedLeaves.c1 (R : Value → World → Prop) (p11 : Option Addr) (wv14 : Int) (k15 : Int) (e16 : Int) (f17 : Int) (w : World) : Prop :=
  CallsV Tryd.prog n_trystlaw18_like #[.pointer p11, .int .i64 k15, .int .i64 e16, .int .i64 f17, .int .i64 wv14] w (fun v_1 w1 =>
  ∃ b_2 : Bool, v_1 = .bool b_2 ∧
  cond b_2
  (CallsV Tryd.prog n_trystlaw18_wakes #[] w1 (fun v_3 w2 =>
  ∃ b_4 : Bool, v_3 = .bool b_4 ∧
  R (.bool b_4) w2))
  (R (.bool false) w1))

def trystlaw18_SchedLeaves.c2 (R : Value → World → Prop) (x1 : Int) (i2 : Int) (j3 : Int) (round4 : Int) (p11 : Option Addr) (b13 : Option Addr) (wv14 : Int) (k15 : Int) (e16 : Int) (f17 : Int) (w : World) : Prop :=
  cond ((f17 : Int) == 0)
  (CallsV Tryd.prog n_trystref15_Meet #[.pointer b13, .int .i64 x1, .int .i64 i2, .int .i64 j3, .int .i64 round4] w (fun v_5 w3 =>
  ∃ x_6 : Int, v_5 = .int .i64 x_6 ∧
  trystlaw18_SchedLeaves.c1 R p11 x_6 k15 e16 f17 w3))
  (trystlaw18_SchedLeaves.c1 R p11 wv14 k15 e16 f17 w)

def trystlaw18_SchedLeaves.c3 (R : Value → World → Prop) (x1 : Int) (i2 : Int) (j3 : Int) (round4 : Int) (p11 : Option Addr) (b13 : Option Addr) (wv14 : Int) (k15 : Int) (e16 : Int) (f17 : Int) (w : World) : Prop :=
  CallsV Tryd.prog n_trystlaw18_like #[.pointer p11, .int .i64 k15, .int .i64 e16, .int .i64 f17, .int .i64 wv14] w (fun v_7 w4 =>
  ∃ b_8 : Bool, v_7 = .bool b_8 ∧
  cond (!b_8)
  (R (.bool false) w4)
  (∃ q_9 : Addr, p11 = some q_9 ∧
  ∃ p_10 : Option Addr, w4.cell? q_9 = some (.pointer p_10) ∧
  CallsV Tryd.prog n_sched_Meet #[.pointer p_10, .int .i64 x1, .int .i64 i2, .int .i64 j3, .int .i64 round4] w4 (fun v_11 w5 =>
  ∃ x_12 : Int, ∃ x_13 : Int, v_11 = .tuple #[.int .i64 x_12, .int .i64 x_13] ∧
  let w6 := w5.alloc (.cells #[.int .i64 x1] 3);
  CallsV Tryd.prog n_trystlaw18_nodes #[.pointer b13, .slice (some (newA w5)) 1 1] w6 (fun v_14 w7 =>
  ∃ x_15 : Int, v_14 = .int .i64 x_15 ∧
  CallsV Tryd.prog n_trystlaw18_leaf #[.int .i64 i2] w7 (fun v_16 w8 =>
  ∃ b_17 : Bool, v_16 = .bool b_17 ∧
  cond (!b_17)
  (trystlaw18_SchedLeaves.c2 R x1 i2 j3 round4 p11 b13 wv14 x_12 x_13 1 w8)
  (CallsV Tryd.prog n_trystlaw18_leaf #[.int .i64 j3] w8 (fun v_18 w9 =>
  ∃ b_19 : Bool, v_18 = .bool b_19 ∧
  cond (!b_19)
  (trystlaw18_SchedLeaves.c2 R x1 i2 j3 round4 p11 b13 wv14 x_12 x_13 1 w9)
  (cond (decide ((round4 : Int) < 0))
  (trystlaw18_SchedLeaves.c2 R x1 i2 j3 round4 p11 b13 wv14 x_12 x_13 1 w9)
  (trystlaw18_SchedLeaves.c2 R x1 i2 j3 round4 p11 b13 wv14 x_12 x_13 x_15 w9)))))))))

def trystlaw18_SchedLeaves.c4 (R : Value → World → Prop) (x1 : Int) (i2 : Int) (j3 : Int) (round4 : Int) (p11 : Option Addr) (b13 : Option Addr) (wv14 : Int) (k15 : Int) (e16 : Int) (f17 : Int) (w : World) : Prop :=
  cond ((f17 : Int) == 0)
  (CallsV Tryd.prog n_trystref15_Chain #[.pointer b13, .int .i64 x1, .int .i64 i2] w (fun v_20 w10 =>
  ∃ x_21 : Int, v_20 = .int .i64 x_21 ∧
  trystlaw18_SchedLeaves.c3 R x1 i2 j3 round4 p11 b13 x_21 k15 e16 f17 w10))
  (trystlaw18_SchedLeaves.c3 R x1 i2 j3 round4 p11 b13 wv14 k15 e16 f17 w)

def trystlaw18_SchedLeaves.main (R : Value → World → Prop) (l0 : Sl) (x1 : Int) (i2 : Int) (j3 : Int) (round4 : Int) (w : World) : Prop :=
  CallsV Tryd.prog n_trystlaw10_Heavy #[.slice l0.a l0.len l0.cap] w (fun v_22 w11 =>
  ∃ b_23 : Bool, v_22 = .bool b_23 ∧
  cond b_23
  (R (.bool true) w11)
  (CallsV Tryd.prog n_trystlaw10_Pairs #[.slice l0.a l0.len l0.cap] w11 (fun v_24 w12 =>
  ∃ p_25 : Option Addr, ∃ b_26 : Bool, v_24 = .tuple #[.pointer p_25, .bool b_26] ∧
  cond (!b_26)
  (R (.bool false) w12)
  (∃ q_27 : Addr, p_25 = some q_27 ∧
  ∃ p_28 : Option Addr, w12.cell? (q_27.add 1) = some (.pointer p_28) ∧
  ∃ q_29 : Addr, p_25 = some q_29 ∧
  ∃ p_30 : Option Addr, w12.cell? q_29 = some (.pointer p_30) ∧
  CallsV Tryd.prog n_sched_Chain #[.pointer p_30, .int .i64 x1, .int .i64 i2] w12 (fun v_31 w13 =>
  ∃ x_32 : Int, ∃ x_33 : Int, v_31 = .tuple #[.int .i64 x_32, .int .i64 x_33] ∧
  let w14 := w13.alloc (.cells #[.int .i64 x1] 3);
  CallsV Tryd.prog n_trystlaw18_nodes #[.pointer p_28, .slice (some (newA w13)) 1 1] w14 (fun v_34 w15 =>
  ∃ x_35 : Int, v_34 = .int .i64 x_35 ∧
  CallsV Tryd.prog n_trystlaw18_leaf #[.int .i64 i2] w15 (fun v_36 w16 =>
  ∃ b_37 : Bool, v_36 = .bool b_37 ∧
  cond (!b_37)
  (trystlaw18_SchedLeaves.c4 R x1 i2 j3 round4 p_25 p_28 0 x_32 x_33 1 w16)
  (trystlaw18_SchedLeaves.c4 R x1 i2 j3 round4 p_25 p_28 0 x_32 x_33 x_35 w16))))))))

def trystlaw18_SchedLeaves.J0 (R : Value → World → Prop) (k : Nat) (fr : Fr) (w : World) : Prop :=
  cond (Nat.beq k 4) (dec [(1, (.int .i64)), (2, (.int .i64)), (3, (.int .i64)), (4, (.int .i64)), (11, .ptr), (13, .ptr), (14, (.int .i64)), (15, (.int .i64)), (16, (.int .i64)), (17, (.int .i64))] fr fun x => trystlaw18_SchedLeaves.c4 R x.1 x.2.1 x.2.2.1 x.2.2.2.1 x.2.2.2.2.1 x.2.2.2.2.2.1 x.2.2.2.2.2.2.1 x.2.2.2.2.2.2.2.1 x.2.2.2.2.2.2.2.2.1 x.2.2.2.2.2.2.2.2.2 w) (cond (Nat.beq k 3) (dec [(1, (.int .i64)), (2, (.int .i64)), (3, (.int .i64)), (4, (.int .i64)), (11, .ptr), (13, .ptr), (14, (.int .i64)), (15, (.int .i64)), (16, (.int .i64)), (17, (.int .i64))] fr fun x => trystlaw18_SchedLeaves.c3 R x.1 x.2.1 x.2.2.1 x.2.2.2.1 x.2.2.2.2.1 x.2.2.2.2.2.1 x.2.2.2.2.2.2.1 x.2.2.2.2.2.2.2.1 x.2.2.2.2.2.2.2.2.1 x.2.2.2.2.2.2.2.2.2 w) (cond (Nat.beq k 2) (dec [(1, (.int .i64)), (2, (.int .i64)), (3, (.int .i64)), (4, (.int .i64)), (11, .ptr), (13, .ptr), (14, (.int .i64)), (15, (.int .i64)), (16, (.int .i64)), (17, (.int .i64))] fr fun x => trystlaw18_SchedLeaves.c2 R x.1 x.2.1 x.2.2.1 x.2.2.2.1 x.2.2.2.2.1 x.2.2.2.2.2.1 x.2.2.2.2.2.2.1 x.2.2.2.2.2.2.2.1 x.2.2.2.2.2.2.2.2.1 x.2.2.2.2.2.2.2.2.2 w) (cond (Nat.beq k 1) (dec [(11, .ptr), (14, (.int .i64)), (15, (.int .i64)), (16, (.int .i64)), (17, (.int .i64))] fr fun x => trystlaw18_SchedLeaves.c1 R x.1 x.2.1 x.2.2.1 x.2.2.2.1 x.2.2.2.2 w) (False))))

set_option maxRecDepth 100000 in
theorem trystlaw18_SchedLeaves.lift {R : Value → World → Prop} {l0 : Sl} {x1 : Int} {i2 : Int} {j3 : Int} {round4 : Int} {w : World} (h : trystlaw18_SchedLeaves.main R l0 x1 i2 j3 round4 w) : CallsV Tryd.prog n_trystlaw18_SchedLeaves #[.slice l0.a l0.len l0.cap, .int .i64 x1, .int .i64 i2, .int .i64 j3, .int .i64 round4] w R :=
  liftCalls (c := (.seq (.leaf (cL (bd Tryd.f3))) (.seq (.seq (.leaf (cL (cL (cR (bd Tryd.f3))))) (.cnd (.tmp 19) (.seq (.leaf (cL (cT (cR (cL (cR (bd Tryd.f3))))))) (.leaf (cR (cT (cR (cL (cR (bd Tryd.f3)))))))) (.leaf (cE (cR (cL (cR (bd Tryd.f3)))))))) (.seq (.leaf (cL (cR (cR (bd Tryd.f3))))) (.seq (.seq (.leaf (cL (cL (cR (cR (cR (bd Tryd.f3))))))) (.cnd (.tmp 26) (.seq (.leaf (cL (cT (cR (cL (cR (cR (cR (bd Tryd.f3))))))))) (.leaf (cR (cT (cR (cL (cR (cR (cR (bd Tryd.f3)))))))))) (.leaf (cE (cR (cL (cR (cR (cR (bd Tryd.f3)))))))))) (.seq (.leaf (cL (cR (cR (cR (cR (bd Tryd.f3))))))) (.seq (.leaf (cL (cR (cR (cR (cR (cR (bd Tryd.f3)))))))) (.seq (.leaf (cL (cR (cR (cR (cR (cR (cR (bd Tryd.f3))))))))) (.seq (.leaf (cL (cR (cR (cR (cR (cR (cR (cR (bd Tryd.f3)))))))))) (.seq (.seq (.leaf (cL (cL (cR (cR (cR (cR (cR (cR (cR (cR (bd Tryd.f3)))))))))))) (.cnd (.tmp 47) (.leaf (cT (cR (cL (cR (cR (cR (cR (cR (cR (cR (cR (bd Tryd.f3))))))))))))) (.leaf (cE (cR (cL (cR (cR (cR (cR (cR (cR (cR (cR (bd Tryd.f3))))))))))))))) (.cut 4 (.seq (.seq (.leaf (cL (cL (cR (cR (cR (cR (cR (cR (cR (cR (cR (bd Tryd.f3))))))))))))) (.cnd (.tmp 49) (.leaf (cT (cR (cL (cR (cR (cR (cR (cR (cR (cR (cR (cR (bd Tryd.f3)))))))))))))) (.leaf (cE (cR (cL (cR (cR (cR (cR (cR (cR (cR (cR (cR (bd Tryd.f3)))))))))))))))) (.cut 3 (.seq (.seq (.leaf (cL (cL (cR (cR (cR (cR (cR (cR (cR (cR (cR (cR (bd Tryd.f3)))))))))))))) (.cnd (.tmp 60) (.seq (.leaf (cL (cT (cR (cL (cR (cR (cR (cR (cR (cR (cR (cR (cR (cR (bd Tryd.f3)))))))))))))))) (.leaf (cR (cT (cR (cL (cR (cR (cR (cR (cR (cR (cR (cR (cR (cR (bd Tryd.f3))))))))))))))))) (.leaf (cE (cR (cL (cR (cR (cR (cR (cR (cR (cR (cR (cR (cR (bd Tryd.f3))))))))))))))))) (.seq (.leaf (cL (cR (cR (cR (cR (cR (cR (cR (cR (cR (cR (cR (bd Tryd.f3)))))))))))))) (.seq (.leaf (cL (cR (cR (cR (cR (cR (cR (cR (cR (cR (cR (cR (cR (bd Tryd.f3))))))))))))))) (.seq (.seq (.leaf (cL (cL (cR (cR (cR (cR (cR (cR (cR (cR (cR (cR (cR (cR (cR (bd Tryd.f3))))))))))))))))) (.cnd (.tmp 88) (.leaf (cT (cR (cL (cR (cR (cR (cR (cR (cR (cR (cR (cR (cR (cR (cR (cR (bd Tryd.f3)))))))))))))))))) (.leaf (cE (cR (cL (cR (cR (cR (cR (cR (cR (cR (cR (cR (cR (cR (cR (cR (bd Tryd.f3)))))))))))))))))))) (.cut 2 (.seq (.seq (.leaf (cL (cL (cR (cR (cR (cR (cR (cR (cR (cR (cR (cR (cR (cR (cR (cR (bd Tryd.f3)))))))))))))))))) (.cnd (.tmp 90) (.leaf (cT (cR (cL (cR (cR (cR (cR (cR (cR (cR (cR (cR (cR (cR (cR (cR (cR (bd Tryd.f3))))))))))))))))))) (.leaf (cE (cR (cL (cR (cR (cR (cR (cR (cR (cR (cR (cR (cR (cR (cR (cR (cR (bd Tryd.f3))))))))))))))))))))) (.cut 1 (.seq (.leaf (cL (cR (cR (cR (cR (cR (cR (cR (cR (cR (cR (cR (cR (cR (cR (cR (bd Tryd.f3)))))))))))))))))) (.leaf (cR (cR (cR (cR (cR (cR (cR (cR (cR (cR (cR (cR (cR (cR (cR (cR (bd Tryd.f3))))))))))))))))))))))))))))))))))))))) (J := trystlaw18_SchedLeaves.J0 R) LfYtoclhecldmahiaaDoor.mixed Tryd.func3 (by kernel_rfl) (by kernel_rfl) (mkSeq (mkSeq (mkSeq (mkSeq (mkSeq (mkSeq (mkSeq (mkSeq (mkSeq (mkCut (cutDef [(1, (.int .i64)), (2, (.int .i64)), (3, (.int .i64)), (4, (.int .i64)), (11, .ptr), (13, .ptr), (14, (.int .i64)), (15, (.int .i64)), (16, (.int .i64)), (17, (.int .i64))] (fun x w => trystlaw18_SchedLeaves.c4 R x.1 x.2.1 x.2.2.1 x.2.2.2.1 x.2.2.2.2.1 x.2.2.2.2.2.1 x.2.2.2.2.2.2.1 x.2.2.2.2.2.2.2.1 x.2.2.2.2.2.2.2.2.1 x.2.2.2.2.2.2.2.2.2 w) (fun _ _ => by kernel_rfl) (fun _ _ => by kernel_rfl)) (mkSeq (mkCut (cutDef [(1, (.int .i64)), (2, (.int .i64)), (3, (.int .i64)), (4, (.int .i64)), (11, .ptr), (13, .ptr), (14, (.int .i64)), (15, (.int .i64)), (16, (.int .i64)), (17, (.int .i64))] (fun x w => trystlaw18_SchedLeaves.c3 R x.1 x.2.1 x.2.2.1 x.2.2.2.1 x.2.2.2.2.1 x.2.2.2.2.2.1 x.2.2.2.2.2.2.1 x.2.2.2.2.2.2.2.1 x.2.2.2.2.2.2.2.2.1 x.2.2.2.2.2.2.2.2.2 w) (fun _ _ => by kernel_rfl) (fun _ _ => by kernel_rfl)) (mkSeq (mkSeq (mkSeq (mkSeq (mkCut (cutDef [(1, (.int .i64)), (2, (.int .i64)), (3, (.int .i64)), (4, (.int .i64)), (11, .ptr), (13, .ptr), (14, (.int .i64)), (15, (.int .i64)), (16, (.int .i64)), (17, (.int .i64))] (fun x w => trystlaw18_SchedLeaves.c2 R x.1 x.2.1 x.2.2.1 x.2.2.2.1 x.2.2.2.2.1 x.2.2.2.2.2.1 x.2.2.2.2.2.2.1 x.2.2.2.2.2.2.2.1 x.2.2.2.2.2.2.2.2.1 x.2.2.2.2.2.2.2.2.2 w) (fun _ _ => by kernel_rfl) (fun _ _ => by kernel_rfl)) (mkSeq (mkCut (cutDef [(11, .ptr), (14, (.int .i64)), (15, (.int .i64)), (16, (.int .i64)), (17, (.int .i64))] (fun x w => trystlaw18_SchedLeaves.c1 R x.1 x.2.1 x.2.2.1 x.2.2.2.1 x.2.2.2.2 w) (fun _ _ => by kernel_rfl) (fun _ _ => by kernel_rfl)) (mkSeq mkLeaf mkLeaf)) (mkSeq (mkCnd mkLeaf mkLeaf) mkLeaf))) (mkSeq (mkCnd mkLeaf mkLeaf) mkLeaf)) mkLeaf) mkLeaf) (mkSeq (mkCnd (mkSeq mkLeaf mkLeaf) mkLeaf) mkLeaf))) (mkSeq (mkCnd mkLeaf mkLeaf) mkLeaf))) (mkSeq (mkCnd mkLeaf mkLeaf) mkLeaf)) mkLeaf) mkLeaf) mkLeaf) mkLeaf) (mkSeq (mkCnd (mkSeq mkLeaf mkLeaf) mkLeaf) mkLeaf)) mkLeaf) (mkSeq (mkCnd (mkSeq mkLeaf mkLeaf) mkLeaf) mkLeaf)) mkLeaf) (kcast (by kernel_rfl) h)

/-! trystlaw18_SchedExact -/
def trystlaw18_SchedExact.c1 (R : Value → World → Prop) (p9 : Option Addr) (wv12 : Int) (k13 : Int) (e14 : Int) (f15 : Int) (w : World) : Prop :=
  CallsV Tryd.prog n_trystlaw18_like #[.pointer p9, .int .i64 k13, .int .i64 e14, .int .i64 f15, .int .i64 wv12] w (fun v_1 w1 =>
  ∃ b_2 : Bool, v_1 = .bool b_2 ∧
  cond b_2
  (CallsV Tryd.prog n_trystlaw18_wakes #[] w1 (fun v_3 w2 =>
  ∃ b_4 : Bool, v_3 = .bool b_4 ∧
  R (.bool b_4) w2))
  (R (.bool false) w1))

def trystlaw18_SchedExact.c2 (R : Value → World → Prop) (x1 : Int) (p9 : Option Addr) (b11 : Option Addr) (wv12 : Int) (k13 : Int) (e14 : Int) (f15 : Int) (w : World) : Prop :=
  CallsV Tryd.prog n_trystlaw18_like #[.pointer p9, .int .i64 k13, .int .i64 e14, .int .i64 f15, .int .i64 wv12] w (fun v_5 w3 =>
  ∃ b_6 : Bool, v_5 = .bool b_6 ∧
  cond (!b_6)
  (R (.bool false) w3)
  (∃ q_7 : Addr, p9 = some q_7 ∧
  ∃ p_8 : Option Addr, w3.cell? q_7 = some (.pointer p_8) ∧
  CallsV Tryd.prog n_sched_First #[.pointer p_8, .int .i64 x1] w3 (fun v_9 w4 =>
  ∃ x_10 : Int, ∃ x_11 : Int, v_9 = .tuple #[.int .i64 x_10, .int .i64 x_11] ∧
  cond ((f15 : Int) == 0)
  (let w5 := w4.alloc (.cells #[.int .i64 x1] 3);
  CallsV Tryd.prog n_trystref10_Arena_Make #[.pointer b11, .int .i64 3, .int .i64 0, .slice (some (newA w4)) 1 1] w5 (fun v_12 w6 =>
  ∃ x_13 : Int, v_12 = .int .i64 x_13 ∧
  trystlaw18_SchedExact.c1 R p9 x_13 x_10 x_11 f15 w6))
  (trystlaw18_SchedExact.c1 R p9 wv12 x_10 x_11 f15 w4))))

def trystlaw18_SchedExact.c3 (R : Value → World → Prop) (x1 : Int) (p9 : Option Addr) (b11 : Option Addr) (wv12 : Int) (k13 : Int) (e14 : Int) (f15 : Int) (w : World) : Prop :=
  CallsV Tryd.prog n_trystlaw18_like #[.pointer p9, .int .i64 k13, .int .i64 e14, .int .i64 f15, .int .i64 wv12] w (fun v_14 w7 =>
  ∃ b_15 : Bool, v_14 = .bool b_15 ∧
  cond (!b_15)
  (R (.bool false) w7)
  (∃ q_16 : Addr, p9 = some q_16 ∧
  ∃ p_17 : Option Addr, w7.cell? q_16 = some (.pointer p_17) ∧
  CallsV Tryd.prog n_sched_Register #[.pointer p_17, .int .i64 x1] w7 (fun v_18 w8 =>
  ∃ x_19 : Int, ∃ x_20 : Int, v_18 = .tuple #[.int .i64 x_19, .int .i64 x_20] ∧
  cond ((f15 : Int) == 0)
  (CallsV Tryd.prog n_trystref10_Arena_Kdf #[.pointer b11, .int .i64 x1, .int .i64 25] w8 (fun v_21 w9 =>
  ∃ x_22 : Int, v_21 = .int .i64 x_22 ∧
  trystlaw18_SchedExact.c2 R x1 p9 b11 x_22 x_19 x_20 f15 w9))
  (trystlaw18_SchedExact.c2 R x1 p9 b11 wv12 x_19 x_20 f15 w8))))

def trystlaw18_SchedExact.c4 (R : Value → World → Prop) (x1 : Int) (p9 : Option Addr) (b11 : Option Addr) (wv12 : Int) (k13 : Int) (e14 : Int) (f15 : Int) (w : World) : Prop :=
  CallsV Tryd.prog n_trystlaw18_like #[.pointer p9, .int .i64 k13, .int .i64 e14, .int .i64 f15, .int .i64 wv12] w (fun v_23 w10 =>
  ∃ b_24 : Bool, v_23 = .bool b_24 ∧
  cond (!b_24)
  (R (.bool false) w10)
  (∃ q_25 : Addr, p9 = some q_25 ∧
  ∃ p_26 : Option Addr, w10.cell? q_25 = some (.pointer p_26) ∧
  CallsV Tryd.prog n_sched_Start #[.pointer p_26, .int .i64 x1] w10 (fun v_27 w11 =>
  ∃ x_28 : Int, ∃ x_29 : Int, v_27 = .tuple #[.int .i64 x_28, .int .i64 x_29] ∧
  let w12 := w11.alloc (.cells #[.int .i64 x1] 3);
  CallsV Tryd.prog n_trystlaw18_nodes #[.pointer b11, .slice (some (newA w11)) 1 1] w12 (fun v_30 w13 =>
  ∃ x_31 : Int, v_30 = .int .i64 x_31 ∧
  cond ((x_31 : Int) == 0)
  (CallsV Tryd.prog n_trystref10_Arena_Kdf #[.pointer b11, .int .i64 x1, .int .i64 21] w13 (fun v_32 w14 =>
  ∃ x_33 : Int, v_32 = .int .i64 x_33 ∧
  trystlaw18_SchedExact.c3 R x1 p9 b11 x_33 x_28 x_29 x_31 w14))
  (trystlaw18_SchedExact.c3 R x1 p9 b11 wv12 x_28 x_29 x_31 w13)))))

def trystlaw18_SchedExact.c5 (R : Value → World → Prop) (x1 : Int) (y2 : Int) (p9 : Option Addr) (b11 : Option Addr) (wv12 : Int) (k13 : Int) (e14 : Int) (f15 : Int) (w : World) : Prop :=
  CallsV Tryd.prog n_trystlaw18_like #[.pointer p9, .int .i64 k13, .int .i64 e14, .int .i64 f15, .int .i64 wv12] w (fun v_34 w15 =>
  ∃ b_35 : Bool, v_34 = .bool b_35 ∧
  cond (!b_35)
  (R (.bool false) w15)
  (∃ q_36 : Addr, p9 = some q_36 ∧
  ∃ p_37 : Option Addr, w15.cell? q_36 = some (.pointer p_37) ∧
  CallsV Tryd.prog n_sched_History #[.pointer p_37, .int .i64 x1, .int .i64 y2] w15 (fun v_38 w16 =>
  ∃ x_39 : Int, ∃ x_40 : Int, v_38 = .tuple #[.int .i64 x_39, .int .i64 x_40] ∧
  cond ((f15 : Int) == 0)
  (let w17 := w16.alloc (.cells #[.int .i64 x1, .int .i64 y2] 3);
  CallsV Tryd.prog n_trystref10_Arena_Make #[.pointer b11, .int .i64 3, .int .i64 0, .slice (some (newA w16)) 2 2] w17 (fun v_41 w18 =>
  ∃ x_42 : Int, v_41 = .int .i64 x_42 ∧
  trystlaw18_SchedExact.c4 R x1 p9 b11 x_42 x_39 x_40 f15 w18))
  (trystlaw18_SchedExact.c4 R x1 p9 b11 wv12 x_39 x_40 f15 w16))))

def trystlaw18_SchedExact.c6 (R : Value → World → Prop) (x1 : Int) (y2 : Int) (p9 : Option Addr) (b11 : Option Addr) (wv12 : Int) (k13 : Int) (e14 : Int) (f15 : Int) (w : World) : Prop :=
  CallsV Tryd.prog n_trystlaw18_like #[.pointer p9, .int .i64 k13, .int .i64 e14, .int .i64 f15, .int .i64 wv12] w (fun v_43 w19 =>
  ∃ b_44 : Bool, v_43 = .bool b_44 ∧
  cond (!b_44)
  (R (.bool false) w19)
  (∃ q_45 : Addr, p9 = some q_45 ∧
  ∃ p_46 : Option Addr, w19.cell? q_45 = some (.pointer p_46) ∧
  CallsV Tryd.prog n_sched_Tag #[.pointer p_46, .int .i64 x1, .int .i64 y2] w19 (fun v_47 w20 =>
  ∃ x_48 : Int, ∃ x_49 : Int, v_47 = .tuple #[.int .i64 x_48, .int .i64 x_49] ∧
  let w21 := w20.alloc (.cells #[.int .i64 x1, .int .i64 y2] 3);
  CallsV Tryd.prog n_trystlaw18_nodes #[.pointer b11, .slice (some (newA w20)) 2 2] w21 (fun v_50 w22 =>
  ∃ x_51 : Int, v_50 = .int .i64 x_51 ∧
  cond ((x_51 : Int) == 0)
  (CallsV Tryd.prog n_trystref15_Tag #[.pointer b11, .int .i64 x1, .int .i64 y2] w22 (fun v_52 w23 =>
  ∃ x_53 : Int, v_52 = .int .i64 x_53 ∧
  trystlaw18_SchedExact.c5 R x1 y2 p9 b11 x_53 x_48 x_49 x_51 w23))
  (trystlaw18_SchedExact.c5 R x1 y2 p9 b11 wv12 x_48 x_49 x_51 w22)))))

def trystlaw18_SchedExact.c7 (R : Value → World → Prop) (x1 : Int) (y2 : Int) (z3 : Int) (p9 : Option Addr) (b11 : Option Addr) (wv12 : Int) (k13 : Int) (e14 : Int) (f15 : Int) (w : World) : Prop :=
  CallsV Tryd.prog n_trystlaw18_like #[.pointer p9, .int .i64 k13, .int .i64 e14, .int .i64 f15, .int .i64 wv12] w (fun v_54 w24 =>
  ∃ b_55 : Bool, v_54 = .bool b_55 ∧
  cond (!b_55)
  (R (.bool false) w24)
  (∃ q_56 : Addr, p9 = some q_56 ∧
  ∃ p_57 : Option Addr, w24.cell? q_56 = some (.pointer p_57) ∧
  CallsV Tryd.prog n_sched_Secret #[.pointer p_57, .int .i64 x1, .int .i64 y2, .int .i64 z3] w24 (fun v_58 w25 =>
  ∃ x_59 : Int, ∃ x_60 : Int, v_58 = .tuple #[.int .i64 x_59, .int .i64 x_60] ∧
  let w26 := w25.alloc (.cells #[.int .i64 x1, .int .i64 y2, .int .i64 z3] 3);
  CallsV Tryd.prog n_trystlaw18_nodes #[.pointer b11, .slice (some (newA w25)) 3 3] w26 (fun v_61 w27 =>
  ∃ x_62 : Int, v_61 = .int .i64 x_62 ∧
  cond ((x_62 : Int) == 0)
  (CallsV Tryd.prog n_trystref15_Secret #[.pointer b11, .int .i64 x1, .int .i64 y2, .int .i64 z3] w27 (fun v_63 w28 =>
  ∃ x_64 : Int, v_63 = .int .i64 x_64 ∧
  trystlaw18_SchedExact.c6 R x1 y2 p9 b11 x_64 x_59 x_60 x_62 w28))
  (trystlaw18_SchedExact.c6 R x1 y2 p9 b11 wv12 x_59 x_60 x_62 w27)))))

def trystlaw18_SchedExact.main (R : Value → World → Prop) (l0 : Sl) (x1 : Int) (y2 : Int) (z3 : Int) (w : World) : Prop :=
  CallsV Tryd.prog n_trystlaw10_Heavy #[.slice l0.a l0.len l0.cap] w (fun v_65 w29 =>
  ∃ b_66 : Bool, v_65 = .bool b_66 ∧
  cond b_66
  (R (.bool true) w29)
  (CallsV Tryd.prog n_trystlaw10_Pairs #[.slice l0.a l0.len l0.cap] w29 (fun v_67 w30 =>
  ∃ p_68 : Option Addr, ∃ b_69 : Bool, v_67 = .tuple #[.pointer p_68, .bool b_69] ∧
  cond (!b_69)
  (R (.bool false) w30)
  (∃ q_70 : Addr, p_68 = some q_70 ∧
  ∃ p_71 : Option Addr, w30.cell? (q_70.add 1) = some (.pointer p_71) ∧
  ∃ q_72 : Addr, p_68 = some q_72 ∧
  ∃ p_73 : Option Addr, w30.cell? q_72 = some (.pointer p_73) ∧
  CallsV Tryd.prog n_sched_Joiner #[.pointer p_73, .int .i64 x1, .int .i64 y2] w30 (fun v_74 w31 =>
  ∃ x_75 : Int, ∃ x_76 : Int, v_74 = .tuple #[.int .i64 x_75, .int .i64 x_76] ∧
  let w32 := w31.alloc (.cells #[.int .i64 x1, .int .i64 y2] 3);
  CallsV Tryd.prog n_trystlaw18_nodes #[.pointer p_71, .slice (some (newA w31)) 2 2] w32 (fun v_77 w33 =>
  ∃ x_78 : Int, v_77 = .int .i64 x_78 ∧
  cond ((x_78 : Int) == 0)
  (CallsV Tryd.prog n_trystref15_Joiner #[.pointer p_71, .int .i64 x1, .int .i64 y2] w33 (fun v_79 w34 =>
  ∃ x_80 : Int, v_79 = .int .i64 x_80 ∧
  trystlaw18_SchedExact.c7 R x1 y2 z3 p_68 p_71 x_80 x_75 x_76 x_78 w34))
  (trystlaw18_SchedExact.c7 R x1 y2 z3 p_68 p_71 0 x_75 x_76 x_78 w33)))))))

def trystlaw18_SchedExact.J0 (R : Value → World → Prop) (k : Nat) (fr : Fr) (w : World) : Prop :=
  cond (Nat.beq k 7) (dec [(1, (.int .i64)), (2, (.int .i64)), (3, (.int .i64)), (9, .ptr), (11, .ptr), (12, (.int .i64)), (13, (.int .i64)), (14, (.int .i64)), (15, (.int .i64))] fr fun x => trystlaw18_SchedExact.c7 R x.1 x.2.1 x.2.2.1 x.2.2.2.1 x.2.2.2.2.1 x.2.2.2.2.2.1 x.2.2.2.2.2.2.1 x.2.2.2.2.2.2.2.1 x.2.2.2.2.2.2.2.2 w) (cond (Nat.beq k 6) (dec [(1, (.int .i64)), (2, (.int .i64)), (9, .ptr), (11, .ptr), (12, (.int .i64)), (13, (.int .i64)), (14, (.int .i64)), (15, (.int .i64))] fr fun x => trystlaw18_SchedExact.c6 R x.1 x.2.1 x.2.2.1 x.2.2.2.1 x.2.2.2.2.1 x.2.2.2.2.2.1 x.2.2.2.2.2.2.1 x.2.2.2.2.2.2.2 w) (cond (Nat.beq k 5) (dec [(1, (.int .i64)), (2, (.int .i64)), (9, .ptr), (11, .ptr), (12, (.int .i64)), (13, (.int .i64)), (14, (.int .i64)), (15, (.int .i64))] fr fun x => trystlaw18_SchedExact.c5 R x.1 x.2.1 x.2.2.1 x.2.2.2.1 x.2.2.2.2.1 x.2.2.2.2.2.1 x.2.2.2.2.2.2.1 x.2.2.2.2.2.2.2 w) (cond (Nat.beq k 4) (dec [(1, (.int .i64)), (9, .ptr), (11, .ptr), (12, (.int .i64)), (13, (.int .i64)), (14, (.int .i64)), (15, (.int .i64))] fr fun x => trystlaw18_SchedExact.c4 R x.1 x.2.1 x.2.2.1 x.2.2.2.1 x.2.2.2.2.1 x.2.2.2.2.2.1 x.2.2.2.2.2.2 w) (cond (Nat.beq k 3) (dec [(1, (.int .i64)), (9, .ptr), (11, .ptr), (12, (.int .i64)), (13, (.int .i64)), (14, (.int .i64)), (15, (.int .i64))] fr fun x => trystlaw18_SchedExact.c3 R x.1 x.2.1 x.2.2.1 x.2.2.2.1 x.2.2.2.2.1 x.2.2.2.2.2.1 x.2.2.2.2.2.2 w) (cond (Nat.beq k 2) (dec [(1, (.int .i64)), (9, .ptr), (11, .ptr), (12, (.int .i64)), (13, (.int .i64)), (14, (.int .i64)), (15, (.int .i64))] fr fun x => trystlaw18_SchedExact.c2 R x.1 x.2.1 x.2.2.1 x.2.2.2.1 x.2.2.2.2.1 x.2.2.2.2.2.1 x.2.2.2.2.2.2 w) (cond (Nat.beq k 1) (dec [(9, .ptr), (12, (.int .i64)), (13, (.int .i64)), (14, (.int .i64)), (15, (.int .i64))] fr fun x => trystlaw18_SchedExact.c1 R x.1 x.2.1 x.2.2.1 x.2.2.2.1 x.2.2.2.2 w) (False)))))))

set_option maxRecDepth 100000 in
theorem trystlaw18_SchedExact.lift {R : Value → World → Prop} {l0 : Sl} {x1 : Int} {y2 : Int} {z3 : Int} {w : World} (h : trystlaw18_SchedExact.main R l0 x1 y2 z3 w) : CallsV Tryd.prog n_trystlaw18_SchedExact #[.slice l0.a l0.len l0.cap, .int .i64 x1, .int .i64 y2, .int .i64 z3] w R :=
  liftCalls (c := (.seq (.leaf (cL (bd Tryd.f4))) (.seq (.seq (.leaf (cL (cL (cR (bd Tryd.f4))))) (.cnd (.tmp 17) (.seq (.leaf (cL (cT (cR (cL (cR (bd Tryd.f4))))))) (.leaf (cR (cT (cR (cL (cR (bd Tryd.f4)))))))) (.leaf (cE (cR (cL (cR (bd Tryd.f4)))))))) (.seq (.leaf (cL (cR (cR (bd Tryd.f4))))) (.seq (.seq (.leaf (cL (cL (cR (cR (cR (bd Tryd.f4))))))) (.cnd (.tmp 24) (.seq (.leaf (cL (cT (cR (cL (cR (cR (cR (bd Tryd.f4))))))))) (.leaf (cR (cT (cR (cL (cR (cR (cR (bd Tryd.f4)))))))))) (.leaf (cE (cR (cL (cR (cR (cR (bd Tryd.f4)))))))))) (.seq (.leaf (cL (cR (cR (cR (cR (bd Tryd.f4))))))) (.seq (.leaf (cL (cR (cR (cR (cR (cR (bd Tryd.f4)))))))) (.seq (.leaf (cL (cR (cR (cR (cR (cR (cR (bd Tryd.f4))))))))) (.seq (.leaf (cL (cR (cR (cR (cR (cR (cR (cR (bd Tryd.f4)))))))))) (.seq (.seq (.leaf (cL (cL (cR (cR (cR (cR (cR (cR (cR (cR (bd Tryd.f4)))))))))))) (.cnd (.tmp 45) (.leaf (cT (cR (cL (cR (cR (cR (cR (cR (cR (cR (cR (bd Tryd.f4))))))))))))) (.leaf (cE (cR (cL (cR (cR (cR (cR (cR (cR (cR (cR (bd Tryd.f4))))))))))))))) (.cut 7 (.seq (.seq (.leaf (cL (cL (cR (cR (cR (cR (cR (cR (cR (cR (cR (bd Tryd.f4))))))))))))) (.cnd (.tmp 56) (.seq (.leaf (cL (cT (cR (cL (cR (cR (cR (cR (cR (cR (cR (cR (cR (bd Tryd.f4))))))))))))))) (.leaf (cR (cT (cR (cL (cR (cR (cR (cR (cR (cR (cR (cR (cR (bd Tryd.f4)))))))))))))))) (.leaf (cE (cR (cL (cR (cR (cR (cR (cR (cR (cR (cR (cR (bd Tryd.f4)))))))))))))))) (.seq (.leaf (cL (cR (cR (cR (cR (cR (cR (cR (cR (cR (cR (bd Tryd.f4))))))))))))) (.seq (.leaf (cL (cR (cR (cR (cR (cR (cR (cR (cR (cR (cR (cR (bd Tryd.f4)))))))))))))) (.seq (.seq (.leaf (cL (cL (cR (cR (cR (cR (cR (cR (cR (cR (cR (cR (cR (cR (bd Tryd.f4)))))))))))))))) (.cnd (.tmp 75) (.leaf (cT (cR (cL (cR (cR (cR (cR (cR (cR (cR (cR (cR (cR (cR (cR (bd Tryd.f4))))))))))))))))) (.leaf (cE (cR (cL (cR (cR (cR (cR (cR (cR (cR (cR (cR (cR (cR (cR (bd Tryd.f4))))))))))))))))))) (.cut 6 (.seq (.seq (.leaf (cL (cL (cR (cR (cR (cR (cR (cR (cR (cR (cR (cR (cR (cR (cR (bd Tryd.f4))))))))))))))))) (.cnd (.tmp 87) (.seq (.leaf (cL (cT (cR (cL (cR (cR (cR (cR (cR (cR (cR (cR (cR (cR (cR (cR (cR (bd Tryd.f4))))))))))))))))))) (.leaf (cR (cT (cR (cL (cR (cR (cR (cR (cR (cR (cR (cR (cR (cR (cR (cR (cR (bd Tryd.f4)))))))))))))))))))) (.leaf (cE (cR (cL (cR (cR (cR (cR (cR (cR (cR (cR (cR (cR (cR (cR (cR (bd Tryd.f4)))))))))))))))))))) (.seq (.leaf (cL (cR (cR (cR (cR (cR (cR (cR (cR (cR (cR (cR (cR (cR (cR (bd Tryd.f4))))))))))))))))) (.seq (.leaf (cL (cR (cR (cR (cR (cR (cR (cR (cR (cR (cR (cR (cR (cR (cR (cR (bd Tryd.f4)))))))))))))))))) (.seq (.seq (.leaf (cL (cL (cR (cR (cR (cR (cR (cR (cR (cR (cR (cR (cR (cR (cR (cR (cR (cR (bd Tryd.f4)))))))))))))))))))) (.cnd (.tmp 104) (.leaf (cT (cR (cL (cR (cR (cR (cR (cR (cR (cR (cR (cR (cR (cR (cR (cR (cR (cR (cR (bd Tryd.f4))))))))))))))))))))) (.leaf (cE (cR (cL (cR (cR (cR (cR (cR (cR (cR (cR (cR (cR (cR (cR (cR (cR (cR (cR (bd Tryd.f4))))))))))))))))))))))) (.cut 5 (.seq (.seq (.leaf (cL (cL (cR (cR (cR (cR (cR (cR (cR (cR (cR (cR (cR (cR (cR (cR (cR (cR (cR (bd Tryd.f4))))))))))))))))))))) (.cnd (.tmp 115) (.seq (.leaf (cL (cT (cR (cL (cR (cR (cR (cR (cR (cR (cR (cR (cR (cR (cR (cR (cR (cR (cR (cR (cR (bd Tryd.f4))))))))))))))))))))))) (.leaf (cR (cT (cR (cL (cR (cR (cR (cR (cR (cR (cR (cR (cR (cR (cR (cR (cR (cR (cR (cR (cR (bd Tryd.f4)))))))))))))))))))))))) (.leaf (cE (cR (cL (cR (cR (cR (cR (cR (cR (cR (cR (cR (cR (cR (cR (cR (cR (cR (cR (cR (bd Tryd.f4)))))))))))))))))))))))) (.seq (.leaf (cL (cR (cR (cR (cR (cR (cR (cR (cR (cR (cR (cR (cR (cR (cR (cR (cR (cR (cR (bd Tryd.f4))))))))))))))))))))) (.seq (.seq (.leaf (cL (cL (cR (cR (cR (cR (cR (cR (cR (cR (cR (cR (cR (cR (cR (cR (cR (cR (cR (cR (cR (bd Tryd.f4))))))))))))))))))))))) (.cnd (.tmp 127) (.leaf (cT (cR (cL (cR (cR (cR (cR (cR (cR (cR (cR (cR (cR (cR (cR (cR (cR (cR (cR (cR (cR (cR (bd Tryd.f4)))))))))))))))))))))))) (.leaf (cE (cR (cL (cR (cR (cR (cR (cR (cR (cR (cR (cR (cR (cR (cR (cR (cR (cR (cR (cR (cR (cR (bd Tryd.f4)))))))))))))))))))))))))) (.cut 4 (.seq (.seq (.leaf (cL (cL (cR (cR (cR (cR (cR (cR (cR (cR (cR (cR (cR (cR (cR (cR (cR (cR (cR (cR (cR (cR (bd Tryd.f4)))))))))))))))))))))))) (.cnd (.tmp 139) (.seq (.leaf (cL (cT (cR (cL (cR (cR (cR (cR (cR (cR (cR (cR (cR (cR (cR (cR (cR (cR (cR (cR (cR (cR (cR (cR (bd Tryd.f4)))))))))))))))))))))))))) (.leaf (cR (cT (cR (cL (cR (cR (cR (cR (cR (cR (cR (cR (cR (cR (cR (cR (cR (cR (cR (cR (cR (cR (cR (cR (bd Tryd.f4))))))))))))))))))))))))))) (.leaf (cE (cR (cL (cR (cR (cR (cR (cR (cR (cR (cR (cR (cR (cR (cR (cR (cR (cR (cR (cR (cR (cR (cR (bd Tryd.f4))))))))))))))))))))))))))) (.seq (.leaf (cL (cR (cR (cR (cR (cR (cR (cR (cR (cR (cR (cR (cR (cR (cR (cR (cR (cR (cR (cR (cR (cR (bd Tryd.f4)))))))))))))))))))))))) (.seq (.leaf (cL (cR (cR (cR (cR (cR (cR (cR (cR (cR (cR (cR (cR (cR (cR (cR (cR (cR (cR (cR (cR (cR (cR (bd Tryd.f4))))))))))))))))))))))))) (.seq (.seq (.leaf (cL (cL (cR (cR (cR (cR (cR (cR (cR (cR (cR (cR (cR (cR (cR (cR (cR (cR (cR (cR (cR (cR (cR (cR (cR (bd Tryd.f4))))))))))))))))))))))))))) (.cnd (.tmp 154) (.leaf (cT (cR (cL (cR (cR (cR (cR (cR (cR (cR (cR (cR (cR (cR (cR (cR (cR (cR (cR (cR (cR (cR (cR (cR (cR (cR (bd Tryd.f4)))))))))))))))))))))))))))) (.leaf (cE (cR (cL (cR (cR (cR (cR (cR (cR (cR (cR (cR (cR (cR (cR (cR (cR (cR (cR (cR (cR (cR (cR (cR (cR (cR (bd Tryd.f4)))))))))))))))))))))))))))))) (.cut 3 (.seq (.seq (.leaf (cL (cL (cR (cR (cR (cR (cR (cR (cR (cR (cR (cR (cR (cR (cR (cR (cR (cR (cR (cR (cR (cR (cR (cR (cR (cR (bd Tryd.f4)))))))))))))))))))))))))))) (.cnd (.tmp 164) (.seq (.leaf (cL (cT (cR (cL (cR (cR (cR (cR (cR (cR (cR (cR (cR (cR (cR (cR (cR (cR (cR (cR (cR (cR (cR (cR (cR (cR (cR (cR (bd Tryd.f4)))))))))))))))))))))))))))))) (.leaf (cR (cT (cR (cL (cR (cR (cR (cR (cR (cR (cR (cR (cR (cR (cR (cR (cR (cR (cR (cR (cR (cR (cR (cR (cR (cR (cR (cR (bd Tryd.f4))))))))))))))))))))))))))))))) (.leaf (cE (cR (cL (cR (cR (cR (cR (cR (cR (cR (cR (cR (cR (cR (cR (cR (cR (cR (cR (cR (cR (cR (cR (cR (cR (cR (cR (bd Tryd.f4))))))))))))))))))))))))))))))) (.seq (.leaf (cL (cR (cR (cR (cR (cR (cR (cR (cR (cR (cR (cR (cR (cR (cR (cR (cR (cR (cR (cR (cR (cR (cR (cR (cR (cR (bd Tryd.f4)))))))))))))))))))))))))))) (.seq (.seq (.leaf (cL (cL (cR (cR (cR (cR (cR (cR (cR (cR (cR (cR (cR (cR (cR (cR (cR (cR (cR (cR (cR (cR (cR (cR (cR (cR (cR (cR (bd Tryd.f4)))))))))))))))))))))))))))))) (.cnd (.tmp 175) (.leaf (cT (cR (cL (cR (cR (cR (cR (cR (cR (cR (cR (cR (cR (cR (cR (cR (cR (cR (cR (cR (cR (cR (cR (cR (cR (cR (cR (cR (cR (bd Tryd.f4))))))))))))))))))))))))))))))) (.leaf (cE (cR (cL (cR (cR (cR (cR (cR (cR (cR (cR (cR (cR (cR (cR (cR (cR (cR (cR (cR (cR (cR (cR (cR (cR (cR (cR (cR (cR (bd Tryd.f4))))))))))))))))))))))))))))))))) (.cut 2 (.seq (.seq (.leaf (cL (cL (cR (cR (cR (cR (cR (cR (cR (cR (cR (cR (cR (cR (cR (cR (cR (cR (cR (cR (cR (cR (cR (cR (cR (cR (cR (cR (cR (bd Tryd.f4))))))))))))))))))))))))))))))) (.cnd (.tmp 185) (.seq (.leaf (cL (cT (cR (cL (cR (cR (cR (cR (cR (cR (cR (cR (cR (cR (cR (cR (cR (cR (cR (cR (cR (cR (cR (cR (cR (cR (cR (cR (cR (cR (cR (bd Tryd.f4))))))))))))))))))))))))))))))))) (.leaf (cR (cT (cR (cL (cR (cR (cR (cR (cR (cR (cR (cR (cR (cR (cR (cR (cR (cR (cR (cR (cR (cR (cR (cR (cR (cR (cR (cR (cR (cR (cR (bd Tryd.f4)))))))))))))))))))))))))))))))))) (.leaf (cE (cR (cL (cR (cR (cR (cR (cR (cR (cR (cR (cR (cR (cR (cR (cR (cR (cR (cR (cR (cR (cR (cR (cR (cR (cR (cR (cR (cR (cR (bd Tryd.f4)))))))))))))))))))))))))))))))))) (.seq (.leaf (cL (cR (cR (cR (cR (cR (cR (cR (cR (cR (cR (cR (cR (cR (cR (cR (cR (cR (cR (cR (cR (cR (cR (cR (cR (cR (cR (cR (cR (bd Tryd.f4))))))))))))))))))))))))))))))) (.seq (.seq (.leaf (cL (cL (cR (cR (cR (cR (cR (cR (cR (cR (cR (cR (cR (cR (cR (cR (cR (cR (cR (cR (cR (cR (cR (cR (cR (cR (cR (cR (cR (cR (cR (bd Tryd.f4))))))))))))))))))))))))))))))))) (.cnd (.tmp 196) (.leaf (cT (cR (cL (cR (cR (cR (cR (cR (cR (cR (cR (cR (cR (cR (cR (cR (cR (cR (cR (cR (cR (cR (cR (cR (cR (cR (cR (cR (cR (cR (cR (cR (bd Tryd.f4)))))))))))))))))))))))))))))))))) (.leaf (cE (cR (cL (cR (cR (cR (cR (cR (cR (cR (cR (cR (cR (cR (cR (cR (cR (cR (cR (cR (cR (cR (cR (cR (cR (cR (cR (cR (cR (cR (cR (cR (bd Tryd.f4)))))))))))))))))))))))))))))))))))) (.cut 1 (.seq (.leaf (cL (cR (cR (cR (cR (cR (cR (cR (cR (cR (cR (cR (cR (cR (cR (cR (cR (cR (cR (cR (cR (cR (cR (cR (cR (cR (cR (cR (cR (cR (cR (bd Tryd.f4))))))))))))))))))))))))))))))))) (.leaf (cR (cR (cR (cR (cR (cR (cR (cR (cR (cR (cR (cR (cR (cR (cR (cR (cR (cR (cR (cR (cR (cR (cR (cR (cR (cR (cR (cR (cR (cR (cR (bd Tryd.f4)))))))))))))))))))))))))))))))))))))))))))))))))))))))))))))))))))))))) (J := trystlaw18_SchedExact.J0 R) LfYtoclhecldmahiaaDoor.mixed Tryd.func4 (by kernel_rfl) (by kernel_rfl) (mkSeq (mkSeq (mkSeq (mkSeq (mkSeq (mkSeq (mkSeq (mkSeq (mkSeq (mkCut (cutDef [(1, (.int .i64)), (2, (.int .i64)), (3, (.int .i64)), (9, .ptr), (11, .ptr), (12, (.int .i64)), (13, (.int .i64)), (14, (.int .i64)), (15, (.int .i64))] (fun x w => trystlaw18_SchedExact.c7 R x.1 x.2.1 x.2.2.1 x.2.2.2.1 x.2.2.2.2.1 x.2.2.2.2.2.1 x.2.2.2.2.2.2.1 x.2.2.2.2.2.2.2.1 x.2.2.2.2.2.2.2.2 w) (fun _ _ => by kernel_rfl) (fun _ _ => by kernel_rfl)) (mkSeq (mkSeq (mkSeq (mkSeq (mkCut (cutDef [(1, (.int .i64)), (2, (.int .i64)), (9, .ptr), (11, .ptr), (12, (.int .i64)), (13, (.int .i64)), (14, (.int .i64)), (15, (.int .i64))] (fun x w => trystlaw18_SchedExact.c6 R x.1 x.2.1 x.2.2.1 x.2.2.2.1 x.2.2.2.2.1 x.2.2.2.2.2.1 x.2.2.2.2.2.2.1 x.2.2.2.2.2.2.2 w) (fun _ _ => by kernel_rfl) (fun _ _ => by kernel_rfl)) (mkSeq (mkSeq (mkSeq (mkSeq (mkCut (cutDef [(1, (.int .i64)), (2, (.int .i64)), (9, .ptr), (11, .ptr), (12, (.int .i64)), (13, (.int .i64)), (14, (.int .i64)), (15, (.int .i64))] (fun x w => trystlaw18_SchedExact.c5 R x.1 x.2.1 x.2.2.1 x.2.2.2.1 x.2.2.2.2.1 x.2.2.2.2.2.1 x.2.2.2.2.2.2.1 x.2.2.2.2.2.2.2 w) (fun _ _ => by kernel_rfl) (fun _ _ => by kernel_rfl)) (mkSeq (mkSeq (mkSeq (mkCut (cutDef [(1, (.int .i64)), (9, .ptr), (11, .ptr), (12, (.int .i64)), (13, (.int .i64)), (14, (.int .i64)), (15, (.int .i64))] (fun x w => trystlaw18_SchedExact.c4 R x.1 x.2.1 x.2.2.1 x.2.2.2.1 x.2.2.2.2.1 x.2.2.2.2.2.1 x.2.2.2.2.2.2 w) (fun _ _ => by kernel_rfl) (fun _ _ => by kernel_rfl)) (mkSeq (mkSeq (mkSeq (mkSeq (mkCut (cutDef [(1, (.int .i64)), (9, .ptr), (11, .ptr), (12, (.int .i64)), (13, (.int .i64)), (14, (.int .i64)), (15, (.int .i64))] (fun x w => trystlaw18_SchedExact.c3 R x.1 x.2.1 x.2.2.1 x.2.2.2.1 x.2.2.2.2.1 x.2.2.2.2.2.1 x.2.2.2.2.2.2 w) (fun _ _ => by kernel_rfl) (fun _ _ => by kernel_rfl)) (mkSeq (mkSeq (mkSeq (mkCut (cutDef [(1, (.int .i64)), (9, .ptr), (11, .ptr), (12, (.int .i64)), (13, (.int .i64)), (14, (.int .i64)), (15, (.int .i64))] (fun x w => trystlaw18_SchedExact.c2 R x.1 x.2.1 x.2.2.1 x.2.2.2.1 x.2.2.2.2.1 x.2.2.2.2.2.1 x.2.2.2.2.2.2 w) (fun _ _ => by kernel_rfl) (fun _ _ => by kernel_rfl)) (mkSeq (mkSeq (mkSeq (mkCut (cutDef [(9, .ptr), (12, (.int .i64)), (13, (.int .i64)), (14, (.int .i64)), (15, (.int .i64))] (fun x w => trystlaw18_SchedExact.c1 R x.1 x.2.1 x.2.2.1 x.2.2.2.1 x.2.2.2.2 w) (fun _ _ => by kernel_rfl) (fun _ _ => by kernel_rfl)) (mkSeq mkLeaf mkLeaf)) (mkSeq (mkCnd mkLeaf mkLeaf) mkLeaf)) mkLeaf) (mkSeq (mkCnd (mkSeq mkLeaf mkLeaf) mkLeaf) mkLeaf))) (mkSeq (mkCnd mkLeaf mkLeaf) mkLeaf)) mkLeaf) (mkSeq (mkCnd (mkSeq mkLeaf mkLeaf) mkLeaf) mkLeaf))) (mkSeq (mkCnd mkLeaf mkLeaf) mkLeaf)) mkLeaf) mkLeaf) (mkSeq (mkCnd (mkSeq mkLeaf mkLeaf) mkLeaf) mkLeaf))) (mkSeq (mkCnd mkLeaf mkLeaf) mkLeaf)) mkLeaf) (mkSeq (mkCnd (mkSeq mkLeaf mkLeaf) mkLeaf) mkLeaf))) (mkSeq (mkCnd mkLeaf mkLeaf) mkLeaf)) mkLeaf) mkLeaf) (mkSeq (mkCnd (mkSeq mkLeaf mkLeaf) mkLeaf) mkLeaf))) (mkSeq (mkCnd mkLeaf mkLeaf) mkLeaf)) mkLeaf) mkLeaf) (mkSeq (mkCnd (mkSeq mkLeaf mkLeaf) mkLeaf) mkLeaf))) (mkSeq (mkCnd mkLeaf mkLeaf) mkLeaf)) mkLeaf) mkLeaf) mkLeaf) mkLeaf) (mkSeq (mkCnd (mkSeq mkLeaf mkLeaf) mkLeaf) mkLeaf)) mkLeaf) (mkSeq (mkCnd (mkSeq mkLeaf mkLeaf) mkLeaf) mkLeaf)) mkLeaf) (kcast (by kernel_rfl) h)

/-! trystlaw18_SchedApart -/
def trystlaw18_SchedApart.c1 (R : Value → World → Prop) (e9 : Int) (w : World) : Prop :=
  cond ((e9 : Int) == 0)
  (CallsV Tryd.prog n_trystlaw18_wakes #[] w (fun v_1 w1 =>
  ∃ b_2 : Bool, v_1 = .bool b_2 ∧
  R (.bool b_2) w1))
  (R (.bool false) w)

def trystlaw18_SchedApart.b2 (R : Value → World → Prop) (N2 : Int → Sl → Sl → Int → World → Prop) (e9 : Int) (keys12 : Sl) (all21 : Sl) (i23 : Int) (w : World) : Prop :=
  cond (decide ((i23 : Int) < ((keys12.len : Nat) : Int)))
  (0 ≤ (i23 : Int) ∧ i23 < ((keys12.len : Nat) : Int) ∧ ∃ q_3 : Addr, keys12.a = some q_3 ∧
  ∃ x_4 : Int, w.cell? (q_3.add (i23 : Int).toNat) = some (.int .i64 x_4) ∧
  0 ≤ (x_4 : Int) ∧ x_4 < ((all21.len : Nat) : Int) ∧ ∃ q_5 : Addr, all21.a = some q_5 ∧
  ∃ b_6 : Bool, w.cell? (q_5.add (x_4 : Int).toNat) = some (.bool b_6) ∧
  cond (!b_6)
  (R (.bool false) w)
  ((let i23_6 : Int := (IntKind.i64.wrap (i23 + 1));
  N2 e9 keys12 all21 i23_6 w)))
  (trystlaw18_SchedApart.c1 R e9 w)

def trystlaw18_SchedApart.l2 (R : Value → World → Prop) (e9 : Int) (keys12 : Sl) (all21 : Sl) (i23 : Int) (w : World) : Prop :=
  ∃ (I : Int → World → Prop) (μ : Int → World → Nat), I i23 w ∧ ∀ s w, I s w → trystlaw18_SchedApart.b2 R (fun e9' keys12' all21' i23' w' => (e9' = e9 ∧ keys12' = keys12 ∧ all21' = all21 ∧ I i23' w') ∧ μ i23' w' < μ s w) e9 keys12 all21 s w

def trystlaw18_SchedApart.c3 (R : Value → World → Prop) (a7 : Option Addr) (s8 : Int) (h10 : Int) (keys12 : Sl) (w : World) : Prop :=
  let w2 := w.alloc (.cells #[.int .i64 s8, .int .i64 h10] 3);
  CallsV Tryd.prog n_know_All #[.pointer a7, .slice (some (newA w)) 2 2] w2 (fun v_8 w3 =>
  ∃ (a_9 : Option Addr) (l_10 c_11 : Nat), ∃ x_12 : Int, v_8 = .tuple #[.slice a_9 l_10 c_11, .int .i64 x_12] ∧
  trystlaw18_SchedApart.l2 R x_12 keys12 ⟨a_9, l_10, c_11⟩ 0 w3)

def trystlaw18_SchedApart.b4 (R : Value → World → Prop) (N4 : Sl → Option Addr → Int → Int → Sl → Sl → Int → World → Prop) (some2 : Sl) (a7 : Option Addr) (s8 : Int) (h10 : Int) (keys12 : Sl) (all21 : Sl) (i22 : Int) (w : World) : Prop :=
  cond (decide ((i22 : Int) < ((keys12.len : Nat) : Int)))
  (0 ≤ (i22 : Int) ∧ i22 < ((keys12.len : Nat) : Int) ∧ ∃ q_13 : Addr, keys12.a = some q_13 ∧
  ∃ x_14 : Int, w.cell? (q_13.add (i22 : Int).toNat) = some (.int .i64 x_14) ∧
  0 ≤ (x_14 : Int) ∧ x_14 < ((all21.len : Nat) : Int) ∧ ∃ q_15 : Addr, all21.a = some q_15 ∧
  ∃ b_16 : Bool, w.cell? (q_15.add (x_14 : Int).toNat) = some (.bool b_16) ∧
  cond (decide ((i22 : Int) < ((some2.len : Nat) : Int)))
  (0 ≤ (i22 : Int) ∧ i22 < ((some2.len : Nat) : Int) ∧ ∃ q_17 : Addr, some2.a = some q_17 ∧
  ∃ b_18 : Bool, w.cell? (q_17.add (i22 : Int).toNat) = some (.bool b_18) ∧
  cond (!(b_16 == b_18))
  (R (.bool false) w.drew)
  ((let i22_18 : Int := (IntKind.i64.wrap (i22 + 1));
  N4 some2 a7 s8 h10 keys12 all21 i22_18 w.drew)))
  (cond (!(b_16 == false))
  (R (.bool false) w.drew)
  ((let i22_19 : Int := (IntKind.i64.wrap (i22 + 1));
  N4 some2 a7 s8 h10 keys12 all21 i22_19 w.drew))))
  (trystlaw18_SchedApart.c3 R a7 s8 h10 keys12 w)

def trystlaw18_SchedApart.l4 (R : Value → World → Prop) (some2 : Sl) (a7 : Option Addr) (s8 : Int) (h10 : Int) (keys12 : Sl) (all21 : Sl) (i22 : Int) (w : World) : Prop :=
  ∃ (I : Int → World → Prop) (μ : Int → World → Nat), I i22 w ∧ ∀ s w, I s w → trystlaw18_SchedApart.b4 R (fun some2' a7' s8' h10' keys12' all21' i22' w' => (some2' = some2 ∧ a7' = a7 ∧ s8' = s8 ∧ h10' = h10 ∧ keys12' = keys12 ∧ all21' = all21 ∧ I i22' w') ∧ μ i22' w' < μ s w) some2 a7 s8 h10 keys12 all21 s w

def trystlaw18_SchedApart.c5 (R : Value → World → Prop) (some2 : Sl) (a7 : Option Addr) (s8 : Int) (h10 : Int) (keys12 : Sl) (all21 : Sl) (w : World) : Prop :=
  trystlaw18_SchedApart.l4 R some2 a7 s8 h10 keys12 all21 0 w

def trystlaw18_SchedApart.c6 (R : Value → World → Prop) (some2 : Sl) (a7 : Option Addr) (s8 : Int) (h10 : Int) (keys12 : Sl) (told18 : Sl) (w : World) : Prop :=
  CallsV Tryd.prog n_know_All #[.pointer a7, .slice told18.a told18.len told18.cap] w (fun v_21 w4 =>
  ∃ (a_22 : Option Addr) (l_23 c_24 : Nat), ∃ x_25 : Int, v_21 = .tuple #[.slice a_22 l_23 c_24, .int .i64 x_25] ∧
  cond ((x_25 : Int) != 0)
  (R (.bool false) w4)
  (CallsV Tryd.prog n_term_Arena_Len #[.pointer a7] w4 (fun v_26 w5 =>
  ∃ x_27 : Int, v_26 = .int .i64 x_27 ∧
  cond ((((l_23 : Nat) : Int) : Int) != x_27)
  (R (.bool false) w5)
  (0 ≤ (s8 : Int) ∧ s8 < ((l_23 : Nat) : Int) ∧ ∃ q_28 : Addr, a_22 = some q_28 ∧
  ∃ b_29 : Bool, w5.cell? (q_28.add (s8 : Int).toNat) = some (.bool b_29) ∧
  cond b_29
  (R (.bool false) w5)
  (trystlaw18_SchedApart.c5 R some2 a7 s8 h10 keys12 ⟨a_22, l_23, c_24⟩ w5)))))

def trystlaw18_SchedApart.c8 (R : Value → World → Prop) (N7 : Sl → Option Addr → Int → Int → Sl → Sl → Int → World → Prop) (some2 : Sl) (a7 : Option Addr) (s8 : Int) (h10 : Int) (keys12 : Sl) (told18 : Sl) (i19 : Int) (w : World) : Prop :=
  0 ≤ (i19 : Int) ∧ i19 < ((keys12.len : Nat) : Int) ∧ ∃ q_30 : Addr, keys12.a = some q_30 ∧
  ∃ x_31 : Int, w.cell? (q_30.add (i19 : Int).toNat) = some (.int .i64 x_31) ∧
  let w6 := w.alloc (.cells #[.int .i64 x_31] 3);
  ∃ (a_32 : Option Addr) (l_33 c_34 : Nat), ∃ w7 : World, (builtin .append #[29, 29] 29 #[] #[.slice told18.a told18.len told18.cap, .slice (some (newA w)) 1 1]).run Tryd.prog w6 = .ok (.value (.slice a_32 l_33 c_34)) w7 ∧
  (let i19_34 : Int := (IntKind.i64.wrap (i19 + 1));
  N7 some2 a7 s8 h10 keys12 ⟨a_32, l_33, c_34⟩ i19_34 w7)

def trystlaw18_SchedApart.c9 (R : Value → World → Prop) (N7 : Sl → Option Addr → Int → Int → Sl → Sl → Int → World → Prop) (some2 : Sl) (a7 : Option Addr) (s8 : Int) (h10 : Int) (keys12 : Sl) (told18 : Sl) (i19 : Int) (w : World) : Prop :=
  cond (decide ((i19 : Int) < ((some2.len : Nat) : Int)))
  (0 ≤ (i19 : Int) ∧ i19 < ((some2.len : Nat) : Int) ∧ ∃ q_36 : Addr, some2.a = some q_36 ∧
  ∃ b_37 : Bool, w.cell? (q_36.add (i19 : Int).toNat) = some (.bool b_37) ∧
  cond b_37
  (trystlaw18_SchedApart.c8 R N7 some2 a7 s8 h10 keys12 told18 i19 w)
  ((let i19_37 : Int := (IntKind.i64.wrap (i19 + 1));
  N7 some2 a7 s8 h10 keys12 told18 i19_37 w)))
  ((let i19_38 : Int := (IntKind.i64.wrap (i19 + 1));
  N7 some2 a7 s8 h10 keys12 told18 i19_38 w))

def trystlaw18_SchedApart.b10 (R : Value → World → Prop) (N7 : Sl → Option Addr → Int → Int → Sl → Sl → Int → World → Prop) (N10 : Sl → Option Addr → Int → Int → Sl → Sl → Int → Int → World → Prop) (some2 : Sl) (a7 : Option Addr) (s8 : Int) (h10 : Int) (keys12 : Sl) (told18 : Sl) (i19 : Int) (k20 : Int) (w : World) : Prop :=
  cond (decide ((k20 : Int) < i19))
  (0 ≤ (i19 : Int) ∧ i19 < ((keys12.len : Nat) : Int) ∧ ∃ q_40 : Addr, keys12.a = some q_40 ∧
  ∃ x_41 : Int, w.cell? (q_40.add (i19 : Int).toNat) = some (.int .i64 x_41) ∧
  0 ≤ (k20 : Int) ∧ k20 < ((keys12.len : Nat) : Int) ∧ ∃ q_42 : Addr, keys12.a = some q_42 ∧
  ∃ x_43 : Int, w.cell? (q_42.add (k20 : Int).toNat) = some (.int .i64 x_43) ∧
  cond ((x_41 : Int) == x_43)
  (R (.bool false) w.drew)
  ((let k20_43 : Int := (IntKind.i64.wrap (k20 + 1));
  N10 some2 a7 s8 h10 keys12 told18 i19 k20_43 w.drew)))
  (trystlaw18_SchedApart.c9 R N7 some2 a7 s8 h10 keys12 told18 i19 w)

def trystlaw18_SchedApart.l10 (R : Value → World → Prop) (N7 : Sl → Option Addr → Int → Int → Sl → Sl → Int → World → Prop) (some2 : Sl) (a7 : Option Addr) (s8 : Int) (h10 : Int) (keys12 : Sl) (told18 : Sl) (i19 : Int) (k20 : Int) (w : World) : Prop :=
  ∃ (I : Int → World → Prop) (μ : Int → World → Nat), I k20 w ∧ ∀ s w, I s w → trystlaw18_SchedApart.b10 R N7 (fun some2' a7' s8' h10' keys12' told18' i19' k20' w' => (some2' = some2 ∧ a7' = a7 ∧ s8' = s8 ∧ h10' = h10 ∧ keys12' = keys12 ∧ told18' = told18 ∧ i19' = i19 ∧ I k20' w') ∧ μ k20' w' < μ s w) some2 a7 s8 h10 keys12 told18 i19 s w

def trystlaw18_SchedApart.b7 (R : Value → World → Prop) (N7 : Sl → Option Addr → Int → Int → Sl → Sl → Int → World → Prop) (some2 : Sl) (a7 : Option Addr) (s8 : Int) (h10 : Int) (keys12 : Sl) (told18 : Sl) (i19 : Int) (w : World) : Prop :=
  cond (decide ((i19 : Int) < ((keys12.len : Nat) : Int)))
  (trystlaw18_SchedApart.l10 R N7 some2 a7 s8 h10 keys12 told18 i19 0 w)
  (trystlaw18_SchedApart.c6 R some2 a7 s8 h10 keys12 told18 w)

def trystlaw18_SchedApart.l7 (R : Value → World → Prop) (some2 : Sl) (a7 : Option Addr) (s8 : Int) (h10 : Int) (keys12 : Sl) (told18 : Sl) (i19 : Int) (w : World) : Prop :=
  ∃ (I : (Sl × Int) → World → Prop) (μ : (Sl × Int) → World → Nat), I (told18, i19) w ∧ ∀ s w, I s w → trystlaw18_SchedApart.b7 R (fun some2' a7' s8' h10' keys12' told18' i19' w' => (some2' = some2 ∧ a7' = a7 ∧ s8' = s8 ∧ h10' = h10 ∧ keys12' = keys12 ∧ I (told18', i19') w') ∧ μ (told18', i19') w' < μ s w) some2 a7 s8 h10 keys12 s.1 s.2 w

def trystlaw18_SchedApart.c11 (R : Value → World → Prop) (some2 : Sl) (a7 : Option Addr) (s8 : Int) (h10 : Int) (keys12 : Sl) (w : World) : Prop :=
  trystlaw18_SchedApart.l7 R some2 a7 s8 h10 keys12 ⟨none, 0, 0⟩ 0 w

def trystlaw18_SchedApart.c13 (R : Value → World → Prop) (N12 : Int → Sl → Option Addr → Int → Int → Sl → Int → World → Prop) (round1 : Int) (some2 : Sl) (a7 : Option Addr) (s8 : Int) (h10 : Int) (keys12 : Sl) (x13 : Int) (y14 : Int) (i17 : Int) (w : World) : Prop :=
  let w8 := w.alloc (.cells #[.int .i64 x13, .int .i64 y14] 3);
  ∃ (a_45 : Option Addr) (l_46 c_47 : Nat), ∃ w9 : World, (builtin .append #[29, 29] 29 #[] #[.slice keys12.a keys12.len keys12.cap, .slice (some (newA w)) 2 2]).run Tryd.prog w8 = .ok (.value (.slice a_45 l_46 c_47)) w9 ∧
  (let i17_47 : Int := (IntKind.i64.wrap (i17 + 1));
  N12 round1 some2 a7 s8 h10 ⟨a_45, l_46, c_47⟩ i17_47 w9)

def trystlaw18_SchedApart.b12 (R : Value → World → Prop) (N12 : Int → Sl → Option Addr → Int → Int → Sl → Int → World → Prop) (round1 : Int) (some2 : Sl) (a7 : Option Addr) (s8 : Int) (h10 : Int) (keys12 : Sl) (i17 : Int) (w : World) : Prop :=
  cond (decide ((i17 : Int) < 8))
  (CallsV Tryd.prog n_sched_Chain #[.pointer a7, .int .i64 s8, .int .i64 i17] w (fun v_49 w10 =>
  ∃ x_50 : Int, ∃ x_51 : Int, v_49 = .tuple #[.int .i64 x_50, .int .i64 x_51] ∧
  (8 : Int) ≠ 0 ∧
  CallsV Tryd.prog n_sched_Meet #[.pointer a7, .int .i64 s8, .int .i64 i17, .int .i64 (Int.tmod (IntKind.i64.wrap (i17 + 1)) 8), .int .i64 round1] w10 (fun v_52 w11 =>
  ∃ x_53 : Int, ∃ x_54 : Int, v_52 = .tuple #[.int .i64 x_53, .int .i64 x_54] ∧
  cond ((x_51 : Int) != 0)
  (R (.bool false) w11)
  (cond ((x_54 : Int) != 0)
  (R (.bool false) w11)
  (trystlaw18_SchedApart.c13 R N12 round1 some2 a7 s8 h10 keys12 x_50 x_53 i17 w11)))))
  (trystlaw18_SchedApart.c11 R some2 a7 s8 h10 keys12 w)

def trystlaw18_SchedApart.l12 (R : Value → World → Prop) (round1 : Int) (some2 : Sl) (a7 : Option Addr) (s8 : Int) (h10 : Int) (keys12 : Sl) (i17 : Int) (w : World) : Prop :=
  ∃ (I : (Sl × Int) → World → Prop) (μ : (Sl × Int) → World → Nat), I (keys12, i17) w ∧ ∀ s w, I s w → trystlaw18_SchedApart.b12 R (fun round1' some2' a7' s8' h10' keys12' i17' w' => (round1' = round1 ∧ some2' = some2 ∧ a7' = a7 ∧ s8' = s8 ∧ h10' = h10 ∧ I (keys12', i17') w') ∧ μ (keys12', i17') w' < μ s w) round1 some2 a7 s8 h10 s.1 s.2 w

def trystlaw18_SchedApart.c14 (R : Value → World → Prop) (round1 : Int) (some2 : Sl) (a7 : Option Addr) (s8 : Int) (h10 : Int) (keys12 : Sl) (x13 : Int) (y14 : Int) (z15 : Int) (w : World) : Prop :=
  let w12 := w.alloc (.cells #[.int .i64 x13, .int .i64 y14, .int .i64 z15] 3);
  ∃ (a_55 : Option Addr) (l_56 c_57 : Nat), ∃ w13 : World, (builtin .append #[29, 29] 29 #[] #[.slice keys12.a keys12.len keys12.cap, .slice (some (newA w)) 3 3]).run Tryd.prog w12 = .ok (.value (.slice a_55 l_56 c_57)) w13 ∧
  trystlaw18_SchedApart.l12 R round1 some2 a7 s8 h10 ⟨a_55, l_56, c_57⟩ 0 w13

def trystlaw18_SchedApart.c15 (R : Value → World → Prop) (round1 : Int) (some2 : Sl) (a7 : Option Addr) (s8 : Int) (h10 : Int) (w : World) : Prop :=
  CallsV Tryd.prog n_sched_Start #[.pointer a7, .int .i64 s8] w (fun v_58 w14 =>
  ∃ x_59 : Int, ∃ x_60 : Int, v_58 = .tuple #[.int .i64 x_59, .int .i64 x_60] ∧
  CallsV Tryd.prog n_sched_Tag #[.pointer a7, .int .i64 s8, .int .i64 h10] w14 (fun v_61 w15 =>
  ∃ x_62 : Int, ∃ x_63 : Int, v_61 = .tuple #[.int .i64 x_62, .int .i64 x_63] ∧
  CallsV Tryd.prog n_sched_Register #[.pointer a7, .int .i64 s8] w15 (fun v_64 w16 =>
  ∃ x_65 : Int, ∃ x_66 : Int, v_64 = .tuple #[.int .i64 x_65, .int .i64 x_66] ∧
  cond ((x_60 : Int) != 0)
  (R (.bool false) w16)
  (cond ((x_63 : Int) != 0)
  (R (.bool false) w16)
  (cond ((x_66 : Int) != 0)
  (R (.bool false) w16)
  (trystlaw18_SchedApart.c14 R round1 some2 a7 s8 h10 ⟨none, 0, 0⟩ x_59 x_62 x_65 w16))))))

def trystlaw18_SchedApart.c16 (R : Value → World → Prop) (n0 : Int) (round1 : Int) (some2 : Sl) (w : World) : Prop :=
  CallsV Tryd.prog n_term_New #[] w (fun v_67 w17 =>
  ∃ p_68 : Option Addr, v_67 = .pointer p_68 ∧
  cond ((p_68).isNone)
  (R (.bool false) w17)
  (CallsV Tryd.prog n_term_Arena_Make #[.pointer p_68, .int .i64 1, .int .i64 n0, .slice none 0 0] w17 (fun v_69 w18 =>
  ∃ x_70 : Int, ∃ x_71 : Int, v_69 = .tuple #[.int .i64 x_70, .int .i64 x_71] ∧
  (2 : Int) ≠ 0 ∧
  CallsV Tryd.prog n_term_Arena_Make #[.pointer p_68, .int .i64 1, .int .i64 (IntKind.i64.wrap ((IntKind.i64.wrap (Int.tdiv n0 2)) + 1099511627776)), .slice none 0 0] w18 (fun v_72 w19 =>
  ∃ x_73 : Int, ∃ x_74 : Int, v_72 = .tuple #[.int .i64 x_73, .int .i64 x_74] ∧
  cond ((x_71 : Int) != 0)
  (R (.bool false) w19)
  (cond ((x_74 : Int) != 0)
  (R (.bool false) w19)
  (trystlaw18_SchedApart.c15 R round1 some2 p_68 x_70 x_73 w19))))))

def trystlaw18_SchedApart.main (R : Value → World → Prop) (n0 : Int) (round1 : Int) (some2 : Sl) (w : World) : Prop :=
  cond (decide ((n0 : Int) < 0))
  (R (.bool true) w)
  (cond (decide ((round1 : Int) < 0))
  (R (.bool true) w)
  (cond (decide ((round1 : Int) > 1073741824))
  (R (.bool true) w)
  (cond (decide ((((some2.len : Nat) : Int) : Int) > 50))
  (R (.bool true) w)
  (trystlaw18_SchedApart.c16 R n0 round1 some2 w))))

def trystlaw18_SchedApart.J7 (R : Value → World → Prop) (N7 : Sl → Option Addr → Int → Int → Sl → Sl → Int → World → Prop) (k : Nat) (fr : Fr) (w : World) : Prop :=
  cond (Nat.beq k 10) (dec [(2, .slice), (7, .ptr), (8, (.int .i64)), (10, (.int .i64)), (12, .slice), (18, .slice), (19, (.int .i64)), (20, (.int .i64))] fr fun x => trystlaw18_SchedApart.l10 R N7 x.1 x.2.1 x.2.2.1 x.2.2.2.1 x.2.2.2.2.1 x.2.2.2.2.2.1 x.2.2.2.2.2.2.1 x.2.2.2.2.2.2.2 w) (cond (Nat.beq k 9) (dec [(2, .slice), (7, .ptr), (8, (.int .i64)), (10, (.int .i64)), (12, .slice), (18, .slice), (19, (.int .i64))] fr fun x => trystlaw18_SchedApart.c9 R N7 x.1 x.2.1 x.2.2.1 x.2.2.2.1 x.2.2.2.2.1 x.2.2.2.2.2.1 x.2.2.2.2.2.2 w) (cond (Nat.beq k 8) (dec [(2, .slice), (7, .ptr), (8, (.int .i64)), (10, (.int .i64)), (12, .slice), (18, .slice), (19, (.int .i64))] fr fun x => trystlaw18_SchedApart.c8 R N7 x.1 x.2.1 x.2.2.1 x.2.2.2.1 x.2.2.2.2.1 x.2.2.2.2.2.1 x.2.2.2.2.2.2 w) (False)))

def trystlaw18_SchedApart.J12 (R : Value → World → Prop) (N12 : Int → Sl → Option Addr → Int → Int → Sl → Int → World → Prop) (k : Nat) (fr : Fr) (w : World) : Prop :=
  cond (Nat.beq k 13) (dec [(1, (.int .i64)), (2, .slice), (7, .ptr), (8, (.int .i64)), (10, (.int .i64)), (12, .slice), (13, (.int .i64)), (14, (.int .i64)), (17, (.int .i64))] fr fun x => trystlaw18_SchedApart.c13 R N12 x.1 x.2.1 x.2.2.1 x.2.2.2.1 x.2.2.2.2.1 x.2.2.2.2.2.1 x.2.2.2.2.2.2.1 x.2.2.2.2.2.2.2.1 x.2.2.2.2.2.2.2.2 w) (False)

def trystlaw18_SchedApart.J0 (R : Value → World → Prop) (k : Nat) (fr : Fr) (w : World) : Prop :=
  cond (Nat.beq k 16) (dec [(0, (.int .i64)), (1, (.int .i64)), (2, .slice)] fr fun x => trystlaw18_SchedApart.c16 R x.1 x.2.1 x.2.2 w) (cond (Nat.beq k 15) (dec [(1, (.int .i64)), (2, .slice), (7, .ptr), (8, (.int .i64)), (10, (.int .i64))] fr fun x => trystlaw18_SchedApart.c15 R x.1 x.2.1 x.2.2.1 x.2.2.2.1 x.2.2.2.2 w) (cond (Nat.beq k 14) (dec [(1, (.int .i64)), (2, .slice), (7, .ptr), (8, (.int .i64)), (10, (.int .i64)), (12, .slice), (13, (.int .i64)), (14, (.int .i64)), (15, (.int .i64))] fr fun x => trystlaw18_SchedApart.c14 R x.1 x.2.1 x.2.2.1 x.2.2.2.1 x.2.2.2.2.1 x.2.2.2.2.2.1 x.2.2.2.2.2.2.1 x.2.2.2.2.2.2.2.1 x.2.2.2.2.2.2.2.2 w) (cond (Nat.beq k 12) (dec [(1, (.int .i64)), (2, .slice), (7, .ptr), (8, (.int .i64)), (10, (.int .i64)), (12, .slice), (17, (.int .i64))] fr fun x => trystlaw18_SchedApart.l12 R x.1 x.2.1 x.2.2.1 x.2.2.2.1 x.2.2.2.2.1 x.2.2.2.2.2.1 x.2.2.2.2.2.2 w) (cond (Nat.beq k 11) (dec [(2, .slice), (7, .ptr), (8, (.int .i64)), (10, (.int .i64)), (12, .slice)] fr fun x => trystlaw18_SchedApart.c11 R x.1 x.2.1 x.2.2.1 x.2.2.2.1 x.2.2.2.2 w) (cond (Nat.beq k 7) (dec [(2, .slice), (7, .ptr), (8, (.int .i64)), (10, (.int .i64)), (12, .slice), (18, .slice), (19, (.int .i64))] fr fun x => trystlaw18_SchedApart.l7 R x.1 x.2.1 x.2.2.1 x.2.2.2.1 x.2.2.2.2.1 x.2.2.2.2.2.1 x.2.2.2.2.2.2 w) (cond (Nat.beq k 6) (dec [(2, .slice), (7, .ptr), (8, (.int .i64)), (10, (.int .i64)), (12, .slice), (18, .slice)] fr fun x => trystlaw18_SchedApart.c6 R x.1 x.2.1 x.2.2.1 x.2.2.2.1 x.2.2.2.2.1 x.2.2.2.2.2 w) (cond (Nat.beq k 5) (dec [(2, .slice), (7, .ptr), (8, (.int .i64)), (10, (.int .i64)), (12, .slice), (21, .slice)] fr fun x => trystlaw18_SchedApart.c5 R x.1 x.2.1 x.2.2.1 x.2.2.2.1 x.2.2.2.2.1 x.2.2.2.2.2 w) (cond (Nat.beq k 4) (dec [(2, .slice), (7, .ptr), (8, (.int .i64)), (10, (.int .i64)), (12, .slice), (21, .slice), (22, (.int .i64))] fr fun x => trystlaw18_SchedApart.l4 R x.1 x.2.1 x.2.2.1 x.2.2.2.1 x.2.2.2.2.1 x.2.2.2.2.2.1 x.2.2.2.2.2.2 w) (cond (Nat.beq k 3) (dec [(7, .ptr), (8, (.int .i64)), (10, (.int .i64)), (12, .slice)] fr fun x => trystlaw18_SchedApart.c3 R x.1 x.2.1 x.2.2.1 x.2.2.2 w) (cond (Nat.beq k 2) (dec [(9, (.int .i64)), (12, .slice), (21, .slice), (23, (.int .i64))] fr fun x => trystlaw18_SchedApart.l2 R x.1 x.2.1 x.2.2.1 x.2.2.2 w) (cond (Nat.beq k 1) (dec [(9, (.int .i64))] fr fun x => trystlaw18_SchedApart.c1 R x w) (False))))))))))))

set_option maxRecDepth 100000 in
theorem trystlaw18_SchedApart.lift {R : Value → World → Prop} {n0 : Int} {round1 : Int} {some2 : Sl} {w : World} (h : trystlaw18_SchedApart.main R n0 round1 some2 w) : CallsV Tryd.prog n_trystlaw18_SchedApart #[.int .i64 n0, .int .i64 round1, .slice some2.a some2.len some2.cap] w R :=
  liftCalls (c := (.seq (.leaf (cL (bd Tryd.f17))) (.seq (.seq (.leaf (cL (cL (cR (bd Tryd.f17))))) (.cnd (.tmp 38) (.seq (.leaf (cL (cT (cR (cL (cR (bd Tryd.f17))))))) (.leaf (cR (cT (cR (cL (cR (bd Tryd.f17)))))))) (.leaf (cE (cR (cL (cR (bd Tryd.f17)))))))) (.cut 16 (.seq (.leaf (cL (cR (cR (bd Tryd.f17))))) (.seq (.seq (.leaf (cL (cL (cR (cR (cR (bd Tryd.f17))))))) (.cnd (.tmp 41) (.seq (.leaf (cL (cT (cR (cL (cR (cR (cR (bd Tryd.f17))))))))) (.leaf (cR (cT (cR (cL (cR (cR (cR (bd Tryd.f17)))))))))) (.leaf (cE (cR (cL (cR (cR (cR (bd Tryd.f17)))))))))) (.seq (.leaf (cL (cR (cR (cR (cR (bd Tryd.f17))))))) (.seq (.leaf (cL (cR (cR (cR (cR (cR (bd Tryd.f17)))))))) (.seq (.seq (.leaf (cL (cL (cR (cR (cR (cR (cR (cR (bd Tryd.f17)))))))))) (.cnd (.tmp 61) (.seq (.leaf (cL (cT (cR (cL (cR (cR (cR (cR (cR (cR (bd Tryd.f17)))))))))))) (.leaf (cR (cT (cR (cL (cR (cR (cR (cR (cR (cR (bd Tryd.f17))))))))))))) (.leaf (cE (cR (cL (cR (cR (cR (cR (cR (cR (bd Tryd.f17))))))))))))) (.cut 15 (.seq (.leaf (cL (cR (cR (cR (cR (cR (cR (cR (bd Tryd.f17)))))))))) (.seq (.leaf (cL (cR (cR (cR (cR (cR (cR (cR (cR (bd Tryd.f17))))))))))) (.seq (.leaf (cL (cR (cR (cR (cR (cR (cR (cR (cR (cR (bd Tryd.f17)))))))))))) (.seq (.leaf (cL (cR (cR (cR (cR (cR (cR (cR (cR (cR (cR (bd Tryd.f17))))))))))))) (.seq (.seq (.leaf (cL (cL (cR (cR (cR (cR (cR (cR (cR (cR (cR (cR (cR (bd Tryd.f17))))))))))))))) (.cnd (.tmp 90) (.seq (.leaf (cL (cT (cR (cL (cR (cR (cR (cR (cR (cR (cR (cR (cR (cR (cR (bd Tryd.f17))))))))))))))))) (.leaf (cR (cT (cR (cL (cR (cR (cR (cR (cR (cR (cR (cR (cR (cR (cR (bd Tryd.f17)))))))))))))))))) (.leaf (cE (cR (cL (cR (cR (cR (cR (cR (cR (cR (cR (cR (cR (cR (bd Tryd.f17)))))))))))))))))) (.cut 14 (.seq (.leaf (cL (cR (cR (cR (cR (cR (cR (cR (cR (cR (cR (cR (cR (bd Tryd.f17))))))))))))))) (.seq (.seq (.leaf (cL (cL (cR (cR (cR (cR (cR (cR (cR (cR (cR (cR (cR (cR (cR (bd Tryd.f17))))))))))))))))) (.block 0 (.loop 12 (.seq (.seq (.leaf (cL (cL (cB (cB (cR (cL (cR (cR (cR (cR (cR (cR (cR (cR (cR (cR (cR (cR (cR (bd Tryd.f17))))))))))))))))))))) (.cnd (.tmp 98) (.leaf (cT (cR (cL (cB (cB (cR (cL (cR (cR (cR (cR (cR (cR (cR (cR (cR (cR (cR (cR (cR (bd Tryd.f17)))))))))))))))))))))) (.leaf (cE (cR (cL (cB (cB (cR (cL (cR (cR (cR (cR (cR (cR (cR (cR (cR (cR (cR (cR (cR (bd Tryd.f17)))))))))))))))))))))))) (.seq (.block 1 (.seq (.leaf (cL (cB (cL (cR (cB (cB (cR (cL (cR (cR (cR (cR (cR (cR (cR (cR (cR (cR (cR (cR (cR (bd Tryd.f17))))))))))))))))))))))) (.seq (.leaf (cL (cR (cB (cL (cR (cB (cB (cR (cL (cR (cR (cR (cR (cR (cR (cR (cR (cR (cR (cR (cR (cR (bd Tryd.f17)))))))))))))))))))))))) (.seq (.seq (.leaf (cL (cL (cR (cR (cB (cL (cR (cB (cB (cR (cL (cR (cR (cR (cR (cR (cR (cR (cR (cR (cR (cR (cR (cR (bd Tryd.f17)))))))))))))))))))))))))) (.cnd (.tmp 124) (.seq (.leaf (cL (cT (cR (cL (cR (cR (cB (cL (cR (cB (cB (cR (cL (cR (cR (cR (cR (cR (cR (cR (cR (cR (cR (cR (cR (cR (bd Tryd.f17)))))))))))))))))))))))))))) (.leaf (cR (cT (cR (cL (cR (cR (cB (cL (cR (cB (cB (cR (cL (cR (cR (cR (cR (cR (cR (cR (cR (cR (cR (cR (cR (cR (bd Tryd.f17))))))))))))))))))))))))))))) (.leaf (cE (cR (cL (cR (cR (cB (cL (cR (cB (cB (cR (cL (cR (cR (cR (cR (cR (cR (cR (cR (cR (cR (cR (cR (cR (bd Tryd.f17))))))))))))))))))))))))))))) (.cut 13 (.leaf (cR (cR (cR (cB (cL (cR (cB (cB (cR (cL (cR (cR (cR (cR (cR (cR (cR (cR (cR (cR (cR (cR (cR (bd Tryd.f17)))))))))))))))))))))))))))))) (.leaf (cR (cR (cB (cB (cR (cL (cR (cR (cR (cR (cR (cR (cR (cR (cR (cR (cR (cR (cR (bd Tryd.f17)))))))))))))))))))))))))) (.cut 11 (.seq (.leaf (cL (cR (cR (cR (cR (cR (cR (cR (cR (cR (cR (cR (cR (cR (cR (bd Tryd.f17))))))))))))))))) (.seq (.seq (.leaf (cL (cL (cR (cR (cR (cR (cR (cR (cR (cR (cR (cR (cR (cR (cR (cR (cR (bd Tryd.f17))))))))))))))))))) (.block 2 (.loop 7 (.seq (.seq (.leaf (cL (cL (cB (cB (cR (cL (cR (cR (cR (cR (cR (cR (cR (cR (cR (cR (cR (cR (cR (cR (cR (bd Tryd.f17))))))))))))))))))))))) (.cnd (.tmp 133) (.leaf (cT (cR (cL (cB (cB (cR (cL (cR (cR (cR (cR (cR (cR (cR (cR (cR (cR (cR (cR (cR (cR (cR (bd Tryd.f17)))))))))))))))))))))))) (.leaf (cE (cR (cL (cB (cB (cR (cL (cR (cR (cR (cR (cR (cR (cR (cR (cR (cR (cR (cR (cR (cR (cR (bd Tryd.f17)))))))))))))))))))))))))) (.seq (.block 3 (.seq (.seq (.leaf (cL (cL (cB (cL (cR (cB (cB (cR (cL (cR (cR (cR (cR (cR (cR (cR (cR (cR (cR (cR (cR (cR (cR (cR (bd Tryd.f17)))))))))))))))))))))))))) (.block 4 (.loop 10 (.seq (.seq (.leaf (cL (cL (cB (cB (cR (cL (cB (cL (cR (cB (cB (cR (cL (cR (cR (cR (cR (cR (cR (cR (cR (cR (cR (cR (cR (cR (cR (cR (bd Tryd.f17)))))))))))))))))))))))))))))) (.cnd (.tmp 138) (.leaf (cT (cR (cL (cB (cB (cR (cL (cB (cL (cR (cB (cB (cR (cL (cR (cR (cR (cR (cR (cR (cR (cR (cR (cR (cR (cR (cR (cR (cR (bd Tryd.f17))))))))))))))))))))))))))))))) (.leaf (cE (cR (cL (cB (cB (cR (cL (cB (cL (cR (cB (cB (cR (cL (cR (cR (cR (cR (cR (cR (cR (cR (cR (cR (cR (cR (cR (cR (cR (bd Tryd.f17))))))))))))))))))))))))))))))))) (.seq (.block 5 (.seq (.leaf (cL (cB (cL (cR (cB (cB (cR (cL (cB (cL (cR (cB (cB (cR (cL (cR (cR (cR (cR (cR (cR (cR (cR (cR (cR (cR (cR (cR (cR (cR (bd Tryd.f17)))))))))))))))))))))))))))))))) (.cnd (.tmp 149) (.seq (.leaf (cL (cT (cR (cB (cL (cR (cB (cB (cR (cL (cB (cL (cR (cB (cB (cR (cL (cR (cR (cR (cR (cR (cR (cR (cR (cR (cR (cR (cR (cR (cR (cR (bd Tryd.f17)))))))))))))))))))))))))))))))))) (.leaf (cR (cT (cR (cB (cL (cR (cB (cB (cR (cL (cB (cL (cR (cB (cB (cR (cL (cR (cR (cR (cR (cR (cR (cR (cR (cR (cR (cR (cR (cR (cR (cR (bd Tryd.f17))))))))))))))))))))))))))))))))))) (.leaf (cE (cR (cB (cL (cR (cB (cB (cR (cL (cB (cL (cR (cB (cB (cR (cL (cR (cR (cR (cR (cR (cR (cR (cR (cR (cR (cR (cR (cR (cR (cR (bd Tryd.f17)))))))))))))))))))))))))))))))))))) (.leaf (cR (cR (cB (cB (cR (cL (cB (cL (cR (cB (cB (cR (cL (cR (cR (cR (cR (cR (cR (cR (cR (cR (cR (cR (cR (cR (cR (cR (bd Tryd.f17))))))))))))))))))))))))))))))))))) (.cut 9 (.seq (.leaf (cL (cR (cB (cL (cR (cB (cB (cR (cL (cR (cR (cR (cR (cR (cR (cR (cR (cR (cR (cR (cR (cR (cR (cR (bd Tryd.f17)))))))))))))))))))))))))) (.cnd (.tmp 159) (.cut 8 (.leaf (cT (cR (cR (cB (cL (cR (cB (cB (cR (cL (cR (cR (cR (cR (cR (cR (cR (cR (cR (cR (cR (cR (cR (cR (cR (bd Tryd.f17)))))))))))))))))))))))))))) (.leaf (cE (cR (cR (cB (cL (cR (cB (cB (cR (cL (cR (cR (cR (cR (cR (cR (cR (cR (cR (cR (cR (cR (cR (cR (cR (bd Tryd.f17)))))))))))))))))))))))))))))))) (.leaf (cR (cR (cB (cB (cR (cL (cR (cR (cR (cR (cR (cR (cR (cR (cR (cR (cR (cR (cR (cR (cR (bd Tryd.f17)))))))))))))))))))))))))))) (.cut 6 (.seq (.leaf (cL (cR (cR (cR (cR (cR (cR (cR (cR (cR (cR (cR (cR (cR (cR (cR (cR (bd Tryd.f17))))))))))))))))))) (.seq (.seq (.leaf (cL (cL (cR (cR (cR (cR (cR (cR (cR (cR (cR (cR (cR (cR (cR (cR (cR (cR (cR (bd Tryd.f17))))))))))))))))))))) (.cnd (.tmp 187) (.seq (.leaf (cL (cT (cR (cL (cR (cR (cR (cR (cR (cR (cR (cR (cR (cR (cR (cR (cR (cR (cR (cR (cR (bd Tryd.f17))))))))))))))))))))))) (.leaf (cR (cT (cR (cL (cR (cR (cR (cR (cR (cR (cR (cR (cR (cR (cR (cR (cR (cR (cR (cR (cR (bd Tryd.f17)))))))))))))))))))))))) (.leaf (cE (cR (cL (cR (cR (cR (cR (cR (cR (cR (cR (cR (cR (cR (cR (cR (cR (cR (cR (cR (bd Tryd.f17)))))))))))))))))))))))) (.cut 5 (.seq (.seq (.leaf (cL (cL (cR (cR (cR (cR (cR (cR (cR (cR (cR (cR (cR (cR (cR (cR (cR (cR (cR (cR (bd Tryd.f17)))))))))))))))))))))) (.block 6 (.loop 4 (.seq (.seq (.leaf (cL (cL (cB (cB (cR (cL (cR (cR (cR (cR (cR (cR (cR (cR (cR (cR (cR (cR (cR (cR (cR (cR (cR (cR (bd Tryd.f17)))))))))))))))))))))))))) (.cnd (.tmp 191) (.leaf (cT (cR (cL (cB (cB (cR (cL (cR (cR (cR (cR (cR (cR (cR (cR (cR (cR (cR (cR (cR (cR (cR (cR (cR (cR (bd Tryd.f17))))))))))))))))))))))))))) (.leaf (cE (cR (cL (cB (cB (cR (cL (cR (cR (cR (cR (cR (cR (cR (cR (cR (cR (cR (cR (cR (cR (cR (cR (cR (cR (bd Tryd.f17))))))))))))))))))))))))))))) (.seq (.block 7 (.seq (.leaf (cL (cB (cL (cR (cB (cB (cR (cL (cR (cR (cR (cR (cR (cR (cR (cR (cR (cR (cR (cR (cR (cR (cR (cR (cR (cR (bd Tryd.f17)))))))))))))))))))))))))))) (.cnd (.tmp 211) (.seq (.leaf (cL (cT (cR (cB (cL (cR (cB (cB (cR (cL (cR (cR (cR (cR (cR (cR (cR (cR (cR (cR (cR (cR (cR (cR (cR (cR (cR (cR (bd Tryd.f17)))))))))))))))))))))))))))))) (.leaf (cR (cT (cR (cB (cL (cR (cB (cB (cR (cL (cR (cR (cR (cR (cR (cR (cR (cR (cR (cR (cR (cR (cR (cR (cR (cR (cR (cR (bd Tryd.f17))))))))))))))))))))))))))))))) (.leaf (cE (cR (cB (cL (cR (cB (cB (cR (cL (cR (cR (cR (cR (cR (cR (cR (cR (cR (cR (cR (cR (cR (cR (cR (cR (cR (cR (bd Tryd.f17)))))))))))))))))))))))))))))))) (.leaf (cR (cR (cB (cB (cR (cL (cR (cR (cR (cR (cR (cR (cR (cR (cR (cR (cR (cR (cR (cR (cR (cR (cR (cR (bd Tryd.f17))))))))))))))))))))))))))))))) (.cut 3 (.seq (.leaf (cL (cR (cR (cR (cR (cR (cR (cR (cR (cR (cR (cR (cR (cR (cR (cR (cR (cR (cR (cR (bd Tryd.f17)))))))))))))))))))))) (.seq (.seq (.leaf (cL (cL (cR (cR (cR (cR (cR (cR (cR (cR (cR (cR (cR (cR (cR (cR (cR (cR (cR (cR (cR (cR (bd Tryd.f17)))))))))))))))))))))))) (.block 8 (.loop 2 (.seq (.seq (.leaf (cL (cL (cB (cB (cR (cL (cR (cR (cR (cR (cR (cR (cR (cR (cR (cR (cR (cR (cR (cR (cR (cR (cR (cR (cR (cR (bd Tryd.f17)))))))))))))))))))))))))))) (.cnd (.tmp 223) (.leaf (cT (cR (cL (cB (cB (cR (cL (cR (cR (cR (cR (cR (cR (cR (cR (cR (cR (cR (cR (cR (cR (cR (cR (cR (cR (cR (cR (bd Tryd.f17))))))))))))))))))))))))))))) (.leaf (cE (cR (cL (cB (cB (cR (cL (cR (cR (cR (cR (cR (cR (cR (cR (cR (cR (cR (cR (cR (cR (cR (cR (cR (cR (cR (cR (bd Tryd.f17))))))))))))))))))))))))))))))) (.seq (.block 9 (.seq (.leaf (cL (cB (cL (cR (cB (cB (cR (cL (cR (cR (cR (cR (cR (cR (cR (cR (cR (cR (cR (cR (cR (cR (cR (cR (cR (cR (cR (cR (bd Tryd.f17)))))))))))))))))))))))))))))) (.cnd (.tmp 233) (.seq (.leaf (cL (cT (cR (cB (cL (cR (cB (cB (cR (cL (cR (cR (cR (cR (cR (cR (cR (cR (cR (cR (cR (cR (cR (cR (cR (cR (cR (cR (cR (cR (bd Tryd.f17)))))))))))))))))))))))))))))))) (.leaf (cR (cT (cR (cB (cL (cR (cB (cB (cR (cL (cR (cR (cR (cR (cR (cR (cR (cR (cR (cR (cR (cR (cR (cR (cR (cR (cR (cR (cR (cR (bd Tryd.f17))))))))))))))))))))))))))))))))) (.leaf (cE (cR (cB (cL (cR (cB (cB (cR (cL (cR (cR (cR (cR (cR (cR (cR (cR (cR (cR (cR (cR (cR (cR (cR (cR (cR (cR (cR (cR (bd Tryd.f17)))))))))))))))))))))))))))))))))) (.leaf (cR (cR (cB (cB (cR (cL (cR (cR (cR (cR (cR (cR (cR (cR (cR (cR (cR (cR (cR (cR (cR (cR (cR (cR (cR (cR (bd Tryd.f17))))))))))))))))))))))))))))))))) (.cut 1 (.seq (.leaf (cL (cR (cR (cR (cR (cR (cR (cR (cR (cR (cR (cR (cR (cR (cR (cR (cR (cR (cR (cR (cR (cR (bd Tryd.f17)))))))))))))))))))))))) (.leaf (cR (cR (cR (cR (cR (cR (cR (cR (cR (cR (cR (cR (cR (cR (cR (cR (cR (cR (cR (cR (cR (cR (bd Tryd.f17))))))))))))))))))))))))))))))))))))))))))))))))))))))) (J := trystlaw18_SchedApart.J0 R) LfYtoclhecldmahiaaDoor.mixed Tryd.func17 (by kernel_rfl) (by kernel_rfl) (mkSeq (mkSeq (mkCut (cutDef [(0, (.int .i64)), (1, (.int .i64)), (2, .slice)] (fun x w => trystlaw18_SchedApart.c16 R x.1 x.2.1 x.2.2 w) (fun _ _ => by kernel_rfl) (fun _ _ => by kernel_rfl)) (mkSeq (mkSeq (mkSeq (mkSeq (mkSeq (mkCut (cutDef [(1, (.int .i64)), (2, .slice), (7, .ptr), (8, (.int .i64)), (10, (.int .i64))] (fun x w => trystlaw18_SchedApart.c15 R x.1 x.2.1 x.2.2.1 x.2.2.2.1 x.2.2.2.2 w) (fun _ _ => by kernel_rfl) (fun _ _ => by kernel_rfl)) (mkSeq (mkSeq (mkSeq (mkSeq (mkSeq (mkCut (cutDef [(1, (.int .i64)), (2, .slice), (7, .ptr), (8, (.int .i64)), (10, (.int .i64)), (12, .slice), (13, (.int .i64)), (14, (.int .i64)), (15, (.int .i64))] (fun x w => trystlaw18_SchedApart.c14 R x.1 x.2.1 x.2.2.1 x.2.2.2.1 x.2.2.2.2.1 x.2.2.2.2.2.1 x.2.2.2.2.2.2.1 x.2.2.2.2.2.2.2.1 x.2.2.2.2.2.2.2.2 w) (fun _ _ => by kernel_rfl) (fun _ _ => by kernel_rfl)) (mkSeq (mkSeq (mkCut (cutDef [(2, .slice), (7, .ptr), (8, (.int .i64)), (10, (.int .i64)), (12, .slice)] (fun x w => trystlaw18_SchedApart.c11 R x.1 x.2.1 x.2.2.1 x.2.2.2.1 x.2.2.2.2 w) (fun _ _ => by kernel_rfl) (fun _ _ => by kernel_rfl)) (mkSeq (mkSeq (mkCut (cutDef [(2, .slice), (7, .ptr), (8, (.int .i64)), (10, (.int .i64)), (12, .slice), (18, .slice)] (fun x w => trystlaw18_SchedApart.c6 R x.1 x.2.1 x.2.2.1 x.2.2.2.1 x.2.2.2.2.1 x.2.2.2.2.2 w) (fun _ _ => by kernel_rfl) (fun _ _ => by kernel_rfl)) (mkSeq (mkSeq (mkCut (cutDef [(2, .slice), (7, .ptr), (8, (.int .i64)), (10, (.int .i64)), (12, .slice), (21, .slice)] (fun x w => trystlaw18_SchedApart.c5 R x.1 x.2.1 x.2.2.1 x.2.2.2.1 x.2.2.2.2.1 x.2.2.2.2.2 w) (fun _ _ => by kernel_rfl) (fun _ _ => by kernel_rfl)) (mkSeq (mkCut (cutDef [(7, .ptr), (8, (.int .i64)), (10, (.int .i64)), (12, .slice)] (fun x w => trystlaw18_SchedApart.c3 R x.1 x.2.1 x.2.2.1 x.2.2.2 w) (fun _ _ => by kernel_rfl) (fun _ _ => by kernel_rfl)) (mkSeq (mkSeq (mkCut (cutDef [(9, (.int .i64))] (fun x w => trystlaw18_SchedApart.c1 R x w) (fun _ _ => by kernel_rfl) (fun _ _ => by kernel_rfl)) (mkSeq mkLeaf mkLeaf)) (mkSeq (mkBlock (mkLoop (loopDef LfYtoclhecldmahiaaDoor.mixed [(9, (.int .i64)), (12, .slice), (21, .slice), (23, (.int .i64))] (by kernel_rfl) (fun M2 x w => trystlaw18_SchedApart.b2 R (fun y0 y1 y2 y3 w => M2 (y0, y1, y2, y3) w) x.1 x.2.1 x.2.2.1 x.2.2.2 w) (fun M2 => fun _ _ _ => False) (fun _ _ _ => by kernel_rfl) (fun M2 => (mkSeq (mkSeq mkLeaf (mkBlock (mkSeq (mkCnd (mkSeq mkLeaf mkLeaf) mkLeaf) mkLeaf))) (mkSeq (mkCnd mkLeaf mkLeaf) mkLeaf))) (fun x w => trystlaw18_SchedApart.l2 R x.1 x.2.1 x.2.2.1 x.2.2.2 w) (by rintro ⟨c0, c1, c2, s0⟩ w ⟨I, μ, h0, h1⟩; refine ⟨fun y w => y.1 = c0 ∧ y.2.1 = c1 ∧ y.2.2.1 = c2 ∧ I y.2.2.2 w, fun y w => μ y.2.2.2 w, ⟨rfl, rfl, rfl, h0⟩, ?_⟩; rintro ⟨d0, d1, d2, t0⟩ w ⟨e0, e1, e2, hI⟩; dsimp only at e0 e1 e2 hI; subst e0; subst e1; subst e2; exact h1 _ _ hI) (fun _ _ => by kernel_rfl)))) mkLeaf)) mkLeaf)) (mkSeq (mkBlock (mkLoop (loopDef LfYtoclhecldmahiaaDoor.mixed [(2, .slice), (7, .ptr), (8, (.int .i64)), (10, (.int .i64)), (12, .slice), (21, .slice), (22, (.int .i64))] (by kernel_rfl) (fun M4 x w => trystlaw18_SchedApart.b4 R (fun y0 y1 y2 y3 y4 y5 y6 w => M4 (y0, y1, y2, y3, y4, y5, y6) w) x.1 x.2.1 x.2.2.1 x.2.2.2.1 x.2.2.2.2.1 x.2.2.2.2.2.1 x.2.2.2.2.2.2 w) (fun M4 => fun _ _ _ => False) (fun _ _ _ => by kernel_rfl) (fun M4 => (mkSeq (mkSeq mkLeaf (mkBlock (mkSeq (mkCnd (mkSeq mkLeaf mkLeaf) mkLeaf) mkLeaf))) (mkSeq (mkCnd mkLeaf mkLeaf) mkLeaf))) (fun x w => trystlaw18_SchedApart.l4 R x.1 x.2.1 x.2.2.1 x.2.2.2.1 x.2.2.2.2.1 x.2.2.2.2.2.1 x.2.2.2.2.2.2 w) (by rintro ⟨c0, c1, c2, c3, c4, c5, s0⟩ w ⟨I, μ, h0, h1⟩; refine ⟨fun y w => y.1 = c0 ∧ y.2.1 = c1 ∧ y.2.2.1 = c2 ∧ y.2.2.2.1 = c3 ∧ y.2.2.2.2.1 = c4 ∧ y.2.2.2.2.2.1 = c5 ∧ I y.2.2.2.2.2.2 w, fun y w => μ y.2.2.2.2.2.2 w, ⟨rfl, rfl, rfl, rfl, rfl, rfl, h0⟩, ?_⟩; rintro ⟨d0, d1, d2, d3, d4, d5, t0⟩ w ⟨e0, e1, e2, e3, e4, e5, hI⟩; dsimp only at e0 e1 e2 e3 e4 e5 hI; subst e0; subst e1; subst e2; subst e3; subst e4; subst e5; exact h1 _ _ hI) (fun _ _ => by kernel_rfl)))) mkLeaf))) (mkSeq (mkCnd (mkSeq mkLeaf mkLeaf) mkLeaf) mkLeaf)) mkLeaf)) (mkSeq (mkBlock (mkLoop (loopDef LfYtoclhecldmahiaaDoor.mixed [(2, .slice), (7, .ptr), (8, (.int .i64)), (10, (.int .i64)), (12, .slice), (18, .slice), (19, (.int .i64))] (by kernel_rfl) (fun M7 x w => trystlaw18_SchedApart.b7 R (fun y0 y1 y2 y3 y4 y5 y6 w => M7 (y0, y1, y2, y3, y4, y5, y6) w) x.1 x.2.1 x.2.2.1 x.2.2.2.1 x.2.2.2.2.1 x.2.2.2.2.2.1 x.2.2.2.2.2.2 w) (fun M7 => trystlaw18_SchedApart.J7 R (fun y0 y1 y2 y3 y4 y5 y6 w => M7 (y0, y1, y2, y3, y4, y5, y6) w)) (fun _ _ _ => by kernel_rfl) (fun M7 => (mkSeq (mkSeq mkLeaf (mkBlock (mkSeq (mkCut (cutDef [(2, .slice), (7, .ptr), (8, (.int .i64)), (10, (.int .i64)), (12, .slice), (18, .slice), (19, (.int .i64))] (fun x w => trystlaw18_SchedApart.c9 R (fun y0 y1 y2 y3 y4 y5 y6 w => M7 (y0, y1, y2, y3, y4, y5, y6) w) x.1 x.2.1 x.2.2.1 x.2.2.2.1 x.2.2.2.2.1 x.2.2.2.2.2.1 x.2.2.2.2.2.2 w) (fun _ _ => by kernel_rfl) (fun _ _ => by kernel_rfl)) (mkSeq (mkCnd (mkCut (cutDef [(2, .slice), (7, .ptr), (8, (.int .i64)), (10, (.int .i64)), (12, .slice), (18, .slice), (19, (.int .i64))] (fun x w => trystlaw18_SchedApart.c8 R (fun y0 y1 y2 y3 y4 y5 y6 w => M7 (y0, y1, y2, y3, y4, y5, y6) w) x.1 x.2.1 x.2.2.1 x.2.2.2.1 x.2.2.2.2.1 x.2.2.2.2.2.1 x.2.2.2.2.2.2 w) (fun _ _ => by kernel_rfl) (fun _ _ => by kernel_rfl)) mkLeaf) mkLeaf) mkLeaf)) (mkSeq (mkBlock (mkLoop (loopDef LfYtoclhecldmahiaaDoor.mixed [(2, .slice), (7, .ptr), (8, (.int .i64)), (10, (.int .i64)), (12, .slice), (18, .slice), (19, (.int .i64)), (20, (.int .i64))] (by kernel_rfl) (fun M10 x w => trystlaw18_SchedApart.b10 R (fun y0 y1 y2 y3 y4 y5 y6 w => M7 (y0, y1, y2, y3, y4, y5, y6) w) (fun y0 y1 y2 y3 y4 y5 y6 y7 w => M10 (y0, y1, y2, y3, y4, y5, y6, y7) w) x.1 x.2.1 x.2.2.1 x.2.2.2.1 x.2.2.2.2.1 x.2.2.2.2.2.1 x.2.2.2.2.2.2.1 x.2.2.2.2.2.2.2 w) (fun M10 => fun _ _ _ => False) (fun _ _ _ => by kernel_rfl) (fun M10 => (mkSeq (mkSeq mkLeaf (mkBlock (mkSeq (mkCnd (mkSeq mkLeaf mkLeaf) mkLeaf) mkLeaf))) (mkSeq (mkCnd mkLeaf mkLeaf) mkLeaf))) (fun x w => trystlaw18_SchedApart.l10 R (fun y0 y1 y2 y3 y4 y5 y6 w => M7 (y0, y1, y2, y3, y4, y5, y6) w) x.1 x.2.1 x.2.2.1 x.2.2.2.1 x.2.2.2.2.1 x.2.2.2.2.2.1 x.2.2.2.2.2.2.1 x.2.2.2.2.2.2.2 w) (by rintro ⟨c0, c1, c2, c3, c4, c5, c6, s0⟩ w ⟨I, μ, h0, h1⟩; refine ⟨fun y w => y.1 = c0 ∧ y.2.1 = c1 ∧ y.2.2.1 = c2 ∧ y.2.2.2.1 = c3 ∧ y.2.2.2.2.1 = c4 ∧ y.2.2.2.2.2.1 = c5 ∧ y.2.2.2.2.2.2.1 = c6 ∧ I y.2.2.2.2.2.2.2 w, fun y w => μ y.2.2.2.2.2.2.2 w, ⟨rfl, rfl, rfl, rfl, rfl, rfl, rfl, h0⟩, ?_⟩; rintro ⟨d0, d1, d2, d3, d4, d5, d6, t0⟩ w ⟨e0, e1, e2, e3, e4, e5, e6, hI⟩; dsimp only at e0 e1 e2 e3 e4 e5 e6 hI; subst e0; subst e1; subst e2; subst e3; subst e4; subst e5; subst e6; exact h1 _ _ hI) (fun _ _ => by kernel_rfl)))) mkLeaf)))) (mkSeq (mkCnd mkLeaf mkLeaf) mkLeaf))) (fun x w => trystlaw18_SchedApart.l7 R x.1 x.2.1 x.2.2.1 x.2.2.2.1 x.2.2.2.2.1 x.2.2.2.2.2.1 x.2.2.2.2.2.2 w) (by rintro ⟨c0, c1, c2, c3, c4, s0⟩ w ⟨I, μ, h0, h1⟩; refine ⟨fun y w => y.1 = c0 ∧ y.2.1 = c1 ∧ y.2.2.1 = c2 ∧ y.2.2.2.1 = c3 ∧ y.2.2.2.2.1 = c4 ∧ I y.2.2.2.2.2 w, fun y w => μ y.2.2.2.2.2 w, ⟨rfl, rfl, rfl, rfl, rfl, h0⟩, ?_⟩; rintro ⟨d0, d1, d2, d3, d4, t0⟩ w ⟨e0, e1, e2, e3, e4, hI⟩; dsimp only at e0 e1 e2 e3 e4 hI; subst e0; subst e1; subst e2; subst e3; subst e4; exact h1 _ _ hI) (fun _ _ => by kernel_rfl)))) mkLeaf)) mkLeaf)) (mkSeq (mkBlock (mkLoop (loopDef LfYtoclhecldmahiaaDoor.mixed [(1, (.int .i64)), (2, .slice), (7, .ptr), (8, (.int .i64)), (10, (.int .i64)), (12, .slice), (17, (.int .i64))] (by kernel_rfl) (fun M12 x w => trystlaw18_SchedApart.b12 R (fun y0 y1 y2 y3 y4 y5 y6 w => M12 (y0, y1, y2, y3, y4, y5, y6) w) x.1 x.2.1 x.2.2.1 x.2.2.2.1 x.2.2.2.2.1 x.2.2.2.2.2.1 x.2.2.2.2.2.2 w) (fun M12 => trystlaw18_SchedApart.J12 R (fun y0 y1 y2 y3 y4 y5 y6 w => M12 (y0, y1, y2, y3, y4, y5, y6) w)) (fun _ _ _ => by kernel_rfl) (fun M12 => (mkSeq (mkSeq mkLeaf (mkBlock (mkSeq (mkSeq (mkSeq (mkCut (cutDef [(1, (.int .i64)), (2, .slice), (7, .ptr), (8, (.int .i64)), (10, (.int .i64)), (12, .slice), (13, (.int .i64)), (14, (.int .i64)), (17, (.int .i64))] (fun x w => trystlaw18_SchedApart.c13 R (fun y0 y1 y2 y3 y4 y5 y6 w => M12 (y0, y1, y2, y3, y4, y5, y6) w) x.1 x.2.1 x.2.2.1 x.2.2.2.1 x.2.2.2.2.1 x.2.2.2.2.2.1 x.2.2.2.2.2.2.1 x.2.2.2.2.2.2.2.1 x.2.2.2.2.2.2.2.2 w) (fun _ _ => by kernel_rfl) (fun _ _ => by kernel_rfl)) mkLeaf) (mkSeq (mkCnd (mkSeq mkLeaf mkLeaf) mkLeaf) mkLeaf)) mkLeaf) mkLeaf))) (mkSeq (mkCnd mkLeaf mkLeaf) mkLeaf))) (fun x w => trystlaw18_SchedApart.l12 R x.1 x.2.1 x.2.2.1 x.2.2.2.1 x.2.2.2.2.1 x.2.2.2.2.2.1 x.2.2.2.2.2.2 w) (by rintro ⟨c0, c1, c2, c3, c4, s0⟩ w ⟨I, μ, h0, h1⟩; refine ⟨fun y w => y.1 = c0 ∧ y.2.1 = c1 ∧ y.2.2.1 = c2 ∧ y.2.2.2.1 = c3 ∧ y.2.2.2.2.1 = c4 ∧ I y.2.2.2.2.2 w, fun y w => μ y.2.2.2.2.2 w, ⟨rfl, rfl, rfl, rfl, rfl, h0⟩, ?_⟩; rintro ⟨d0, d1, d2, d3, d4, t0⟩ w ⟨e0, e1, e2, e3, e4, hI⟩; dsimp only at e0 e1 e2 e3 e4 hI; subst e0; subst e1; subst e2; subst e3; subst e4; exact h1 _ _ hI) (fun _ _ => by kernel_rfl)))) mkLeaf)) mkLeaf)) (mkSeq (mkCnd (mkSeq mkLeaf mkLeaf) mkLeaf) mkLeaf)) mkLeaf) mkLeaf) mkLeaf) mkLeaf)) (mkSeq (mkCnd (mkSeq mkLeaf mkLeaf) mkLeaf) mkLeaf)) mkLeaf) mkLeaf) (mkSeq (mkCnd (mkSeq mkLeaf mkLeaf) mkLeaf) mkLeaf)) mkLeaf)) (mkSeq (mkCnd (mkSeq mkLeaf mkLeaf) mkLeaf) mkLeaf)) mkLeaf) (kcast (by kernel_rfl) h)

/-! sched_Chain -/
def sched_Chain.main (R : Value → World → Prop) (a0 : Option Addr) (secret1 : Int) (i2 : Int) (w : World) : Prop :=
  let w1 := w.alloc (.cells #[.int .i64 i2] 3);
  CallsV Tryd.prog n_sched_leaf #[.slice (some (newA w)) 1 1] w1 (fun v_1 w2 =>
  ∃ b_2 : Bool, v_1 = .bool b_2 ∧
  cond (!b_2)
  (R (.tuple #[.int .i64 0, .int .i64 1]) w2)
  (let w3 := w2.alloc (.cells #[.pointer a0, .int .i64 0] 151);
  let w4 := w3.alloc (.cells #[.int .i64 secret1] 3);
  CallsV Tryd.prog n_sched_maker_make #[.pointer (some (newA w2)), .int .i64 4, .int .i64 23, .slice (some (newA w3)) 1 1] w4 (fun v_3 w5 =>
  ∃ x_4 : Int, v_3 = .int .i64 x_4 ∧
  CallsV Tryd.prog n_sched_maker_make #[.pointer (some (newA w2)), .int .i64 2, .int .i64 i2, .slice none 0 0] w5 (fun v_5 w6 =>
  ∃ x_6 : Int, v_5 = .int .i64 x_6 ∧
  let w7 := w6.alloc (.cells #[.int .i64 x_4, .int .i64 x_6] 3);
  CallsV Tryd.prog n_sched_maker_make #[.pointer (some (newA w2)), .int .i64 3, .int .i64 0, .slice (some (newA w6)) 2 2] w7 (fun v_7 w8 =>
  ∃ x_8 : Int, v_7 = .int .i64 x_8 ∧
  CallsV Tryd.prog n_sched_maker_done #[.pointer (some (newA w2)), .int .i64 x_8] w8 (fun v_9 w9 =>
  ∃ x_10 : Int, ∃ x_11 : Int, v_9 = .tuple #[.int .i64 x_10, .int .i64 x_11] ∧
  R (.tuple #[.int .i64 x_10, .int .i64 x_11]) w9))))))

def sched_Chain.J0 (_ : Value → World → Prop) (_ : Nat) (_ : Fr) (_ : World) : Prop := False

set_option maxRecDepth 100000 in
theorem sched_Chain.lift {R : Value → World → Prop} {a0 : Option Addr} {secret1 : Int} {i2 : Int} {w : World} (h : sched_Chain.main R a0 secret1 i2 w) : CallsV Tryd.prog n_sched_Chain #[.pointer a0, .int .i64 secret1, .int .i64 i2] w R :=
  liftCalls (c := (.seq (.leaf (cL (bd Tryd.f26))) (.seq (.seq (.leaf (cL (cL (cR (bd Tryd.f26))))) (.cnd (.tmp 12) (.seq (.leaf (cL (cT (cR (cL (cR (bd Tryd.f26))))))) (.leaf (cR (cT (cR (cL (cR (bd Tryd.f26)))))))) (.leaf (cE (cR (cL (cR (bd Tryd.f26)))))))) (.seq (.leaf (cL (cR (cR (bd Tryd.f26))))) (.seq (.leaf (cL (cR (cR (cR (bd Tryd.f26)))))) (.leaf (cR (cR (cR (cR (bd Tryd.f26))))))))))) (J := sched_Chain.J0 R) LfYtoclhecldmahiaaDoor.mixed Tryd.func26 (by kernel_rfl) (by kernel_rfl) (mkSeq (mkSeq (mkSeq (mkSeq mkLeaf mkLeaf) mkLeaf) (mkSeq (mkCnd (mkSeq mkLeaf mkLeaf) mkLeaf) mkLeaf)) mkLeaf) (kcast (by kernel_rfl) h)

/-! trystlaw18_nodes -/
def trystlaw18_nodes.main (R : Value → World → Prop) (b0 : Option Addr) (l1 : Sl) (w : World) : Prop :=
  CallsV Tryd.prog n_trystref10_Arena_Has #[.pointer b0, .slice l1.a l1.len l1.cap] w (fun v_1 w1 =>
  ∃ b_2 : Bool, v_1 = .bool b_2 ∧
  cond (!b_2)
  (R (.int .i64 8) w1)
  (R (.int .i64 0) w1))

def trystlaw18_nodes.J0 (_ : Value → World → Prop) (_ : Nat) (_ : Fr) (_ : World) : Prop := False

set_option maxRecDepth 100000 in
theorem trystlaw18_nodes.lift {R : Value → World → Prop} {b0 : Option Addr} {l1 : Sl} {w : World} (h : trystlaw18_nodes.main R b0 l1 w) : CallsV Tryd.prog n_trystlaw18_nodes #[.pointer b0, .slice l1.a l1.len l1.cap] w R :=
  liftCalls (c := (.seq (.leaf (cL (bd Tryd.f27))) (.seq (.seq (.leaf (cL (cL (cR (bd Tryd.f27))))) (.cnd (.tmp 8) (.seq (.leaf (cL (cT (cR (cL (cR (bd Tryd.f27))))))) (.leaf (cR (cT (cR (cL (cR (bd Tryd.f27)))))))) (.leaf (cE (cR (cL (cR (bd Tryd.f27)))))))) (.seq (.leaf (cL (cR (cR (bd Tryd.f27))))) (.leaf (cR (cR (cR (bd Tryd.f27))))))))) (J := trystlaw18_nodes.J0 R) LfYtoclhecldmahiaaDoor.mixed Tryd.func27 (by kernel_rfl) (by kernel_rfl) (mkSeq (mkSeq (mkSeq mkLeaf mkLeaf) (mkSeq (mkCnd (mkSeq mkLeaf mkLeaf) mkLeaf) mkLeaf)) mkLeaf) (kcast (by kernel_rfl) h)

/-! trystlaw18_leaf -/
def trystlaw18_leaf.main (R : Value → World → Prop) (i0 : Int) (w : World) : Prop :=
  cond (decide ((i0 : Int) ≥ 0))
  ((let t2_0 : Bool := (decide ((i0 : Int) < 8));
  R (.bool t2_0) w))
  (R (.bool false) w)

def trystlaw18_leaf.J0 (_ : Value → World → Prop) (_ : Nat) (_ : Fr) (_ : World) : Prop := False

set_option maxRecDepth 100000 in
theorem trystlaw18_leaf.lift {R : Value → World → Prop} {i0 : Int} {w : World} (h : trystlaw18_leaf.main R i0 w) : CallsV Tryd.prog n_trystlaw18_leaf #[.int .i64 i0] w R :=
  liftCalls (c := (.seq (.leaf (cL (bd Tryd.f28))) (.seq (.leaf (cL (cR (bd Tryd.f28)))) (.leaf (cR (cR (bd Tryd.f28))))))) (J := trystlaw18_leaf.J0 R) LfYtoclhecldmahiaaDoor.mixed Tryd.func28 (by kernel_rfl) (by kernel_rfl) (mkSeq (mkSeq mkLeaf mkLeaf) mkLeaf) (kcast (by kernel_rfl) h)

/-! trystref15_Chain -/
def trystref15_Chain.main (R : Value → World → Prop) (a0 : Option Addr) (secret1 : Int) (leaf2 : Int) (w : World) : Prop :=
  CallsV Tryd.prog n_trystref10_Arena_Kdf #[.pointer a0, .int .i64 secret1, .int .i64 23] w (fun v_1 w1 =>
  ∃ x_2 : Int, v_1 = .int .i64 x_2 ∧
  CallsV Tryd.prog n_trystref10_Arena_Word #[.pointer a0, .int .i64 leaf2] w1 (fun v_3 w2 =>
  ∃ x_4 : Int, v_3 = .int .i64 x_4 ∧
  let w3 := w2.alloc (.cells #[.int .i64 x_2, .int .i64 x_4] 3);
  CallsV Tryd.prog n_trystref10_Arena_Make #[.pointer a0, .int .i64 3, .int .i64 0, .slice (some (newA w2)) 2 2] w3 (fun v_5 w4 =>
  ∃ x_6 : Int, v_5 = .int .i64 x_6 ∧
  R (.int .i64 x_6) w4)))

def trystref15_Chain.J0 (_ : Value → World → Prop) (_ : Nat) (_ : Fr) (_ : World) : Prop := False

set_option maxRecDepth 100000 in
theorem trystref15_Chain.lift {R : Value → World → Prop} {a0 : Option Addr} {secret1 : Int} {leaf2 : Int} {w : World} (h : trystref15_Chain.main R a0 secret1 leaf2 w) : CallsV Tryd.prog n_trystref15_Chain #[.pointer a0, .int .i64 secret1, .int .i64 leaf2] w R :=
  liftCalls (c := (.seq (.leaf (cL (bd Tryd.f29))) (.seq (.leaf (cL (cR (bd Tryd.f29)))) (.leaf (cR (cR (bd Tryd.f29))))))) (J := trystref15_Chain.J0 R) LfYtoclhecldmahiaaDoor.mixed Tryd.func29 (by kernel_rfl) (by kernel_rfl) (mkSeq (mkSeq mkLeaf mkLeaf) mkLeaf) (kcast (by kernel_rfl) h)

/-! trystlaw18_like -/
def trystlaw18_like.main (R : Value → World → Prop) (p0 : Option Addr) (got1 : Int) (e2 : Int) (want3 : Int) (x4 : Int) (w : World) : Prop :=
  cond ((want3 : Int) != 0)
  (cond ((e2 : Int) == want3)
  (R (.bool ((got1 : Int) == 0)) w)
  (R (.bool false) w))
  (cond ((e2 : Int) == 0)
  (CallsV Tryd.prog n_trystlaw10_Pair_T #[.pointer p0, .int .i64 x4] w (fun v_1 w1 =>
  ∃ x_2 : Int, v_1 = .int .i64 x_2 ∧
  R (.bool ((got1 : Int) == x_2)) w1))
  (R (.bool false) w))

def trystlaw18_like.J0 (_ : Value → World → Prop) (_ : Nat) (_ : Fr) (_ : World) : Prop := False

set_option maxRecDepth 100000 in
theorem trystlaw18_like.lift {R : Value → World → Prop} {p0 : Option Addr} {got1 : Int} {e2 : Int} {want3 : Int} {x4 : Int} {w : World} (h : trystlaw18_like.main R p0 got1 e2 want3 x4 w) : CallsV Tryd.prog n_trystlaw18_like #[.pointer p0, .int .i64 got1, .int .i64 e2, .int .i64 want3, .int .i64 x4] w R :=
  liftCalls (c := (.seq (.leaf (cL (bd Tryd.f30))) (.seq (.seq (.leaf (cL (cL (cR (bd Tryd.f30))))) (.cnd (.tmp 12) (.seq (.leaf (cL (cT (cR (cL (cR (bd Tryd.f30))))))) (.leaf (cR (cT (cR (cL (cR (bd Tryd.f30)))))))) (.leaf (cE (cR (cL (cR (bd Tryd.f30)))))))) (.seq (.leaf (cL (cR (cR (bd Tryd.f30))))) (.leaf (cR (cR (cR (bd Tryd.f30))))))))) (J := trystlaw18_like.J0 R) LfYtoclhecldmahiaaDoor.mixed Tryd.func30 (by kernel_rfl) (by kernel_rfl) (mkSeq (mkSeq (mkSeq mkLeaf mkLeaf) (mkSeq (mkCnd (mkSeq mkLeaf mkLeaf) mkLeaf) mkLeaf)) mkLeaf) (kcast (by kernel_rfl) h)

/-! sched_Meet -/
def sched_Meet.c1 (R : Value → World → Prop) (a0 : Option Addr) (secret1 : Int) (i2 : Int) (j3 : Int) (round4 : Int) (w : World) : Prop :=
  let w1 := w.alloc (.cells #[.pointer a0, .int .i64 0] 151);
  let w2 := w1.alloc (.cells #[.int .i64 secret1] 3);
  CallsV Tryd.prog n_sched_maker_make #[.pointer (some (newA w)), .int .i64 4, .int .i64 24, .slice (some (newA w1)) 1 1] w2 (fun v_1 w3 =>
  ∃ x_2 : Int, v_1 = .int .i64 x_2 ∧
  CallsV Tryd.prog n_sched_maker_make #[.pointer (some (newA w)), .int .i64 2, .int .i64 (if j3 < i2 then j3 else i2), .slice none 0 0] w3 (fun v_3 w4 =>
  ∃ x_4 : Int, v_3 = .int .i64 x_4 ∧
  CallsV Tryd.prog n_sched_maker_make #[.pointer (some (newA w)), .int .i64 2, .int .i64 (if j3 > i2 then j3 else i2), .slice none 0 0] w4 (fun v_5 w5 =>
  ∃ x_6 : Int, v_5 = .int .i64 x_6 ∧
  CallsV Tryd.prog n_sched_maker_make #[.pointer (some (newA w)), .int .i64 2, .int .i64 round4, .slice none 0 0] w5 (fun v_7 w6 =>
  ∃ x_8 : Int, v_7 = .int .i64 x_8 ∧
  let w7 := w6.alloc (.cells #[.int .i64 x_2, .int .i64 x_4, .int .i64 x_6, .int .i64 x_8] 3);
  CallsV Tryd.prog n_sched_maker_make #[.pointer (some (newA w)), .int .i64 3, .int .i64 0, .slice (some (newA w6)) 4 4] w7 (fun v_9 w8 =>
  ∃ x_10 : Int, v_9 = .int .i64 x_10 ∧
  CallsV Tryd.prog n_sched_maker_done #[.pointer (some (newA w)), .int .i64 x_10] w8 (fun v_11 w9 =>
  ∃ x_12 : Int, ∃ x_13 : Int, v_11 = .tuple #[.int .i64 x_12, .int .i64 x_13] ∧
  R (.tuple #[.int .i64 x_12, .int .i64 x_13]) w9))))))

def sched_Meet.main (R : Value → World → Prop) (a0 : Option Addr) (secret1 : Int) (i2 : Int) (j3 : Int) (round4 : Int) (w : World) : Prop :=
  let w10 := w.alloc (.cells #[.int .i64 i2, .int .i64 j3] 3);
  CallsV Tryd.prog n_sched_leaf #[.slice (some (newA w)) 2 2] w10 (fun v_14 w11 =>
  ∃ b_15 : Bool, v_14 = .bool b_15 ∧
  cond (!b_15)
  (R (.tuple #[.int .i64 0, .int .i64 1]) w11)
  (cond (decide ((round4 : Int) < 0))
  (R (.tuple #[.int .i64 0, .int .i64 1]) w11)
  (sched_Meet.c1 R a0 secret1 i2 j3 round4 w11)))

def sched_Meet.J0 (R : Value → World → Prop) (k : Nat) (fr : Fr) (w : World) : Prop :=
  cond (Nat.beq k 1) (dec [(0, .ptr), (1, (.int .i64)), (2, (.int .i64)), (3, (.int .i64)), (4, (.int .i64))] fr fun x => sched_Meet.c1 R x.1 x.2.1 x.2.2.1 x.2.2.2.1 x.2.2.2.2 w) (False)

set_option maxRecDepth 100000 in
theorem sched_Meet.lift {R : Value → World → Prop} {a0 : Option Addr} {secret1 : Int} {i2 : Int} {j3 : Int} {round4 : Int} {w : World} (h : sched_Meet.main R a0 secret1 i2 j3 round4 w) : CallsV Tryd.prog n_sched_Meet #[.pointer a0, .int .i64 secret1, .int .i64 i2, .int .i64 j3, .int .i64 round4] w R :=
  liftCalls (c := (.seq (.leaf (cL (bd Tryd.f31))) (.seq (.seq (.leaf (cL (cL (cR (bd Tryd.f31))))) (.cnd (.tmp 21) (.seq (.leaf (cL (cT (cR (cL (cR (bd Tryd.f31))))))) (.leaf (cR (cT (cR (cL (cR (bd Tryd.f31)))))))) (.leaf (cE (cR (cL (cR (bd Tryd.f31)))))))) (.cut 1 (.seq (.leaf (cL (cR (cR (bd Tryd.f31))))) (.seq (.leaf (cL (cR (cR (cR (bd Tryd.f31)))))) (.leaf (cR (cR (cR (cR (bd Tryd.f31)))))))))))) (J := sched_Meet.J0 R) LfYtoclhecldmahiaaDoor.mixed Tryd.func31 (by kernel_rfl) (by kernel_rfl) (mkSeq (mkSeq (mkCut (cutDef [(0, .ptr), (1, (.int .i64)), (2, (.int .i64)), (3, (.int .i64)), (4, (.int .i64))] (fun x w => sched_Meet.c1 R x.1 x.2.1 x.2.2.1 x.2.2.2.1 x.2.2.2.2 w) (fun _ _ => by kernel_rfl) (fun _ _ => by kernel_rfl)) (mkSeq (mkSeq mkLeaf mkLeaf) mkLeaf)) (mkSeq (mkCnd (mkSeq mkLeaf mkLeaf) mkLeaf) mkLeaf)) mkLeaf) (kcast (by kernel_rfl) h)

/-! trystref15_Meet -/
def trystref15_Meet.main (R : Value → World → Prop) (a0 : Option Addr) (secret1 : Int) (i2 : Int) (j3 : Int) (round4 : Int) (w : World) : Prop :=
  CallsV Tryd.prog n_trystref10_Arena_Kdf #[.pointer a0, .int .i64 secret1, .int .i64 24] w (fun v_1 w1 =>
  ∃ x_2 : Int, v_1 = .int .i64 x_2 ∧
  CallsV Tryd.prog n_trystref10_Arena_Word #[.pointer a0, .int .i64 (if j3 < i2 then j3 else i2)] w1 (fun v_3 w2 =>
  ∃ x_4 : Int, v_3 = .int .i64 x_4 ∧
  CallsV Tryd.prog n_trystref10_Arena_Word #[.pointer a0, .int .i64 (if j3 > i2 then j3 else i2)] w2 (fun v_5 w3 =>
  ∃ x_6 : Int, v_5 = .int .i64 x_6 ∧
  CallsV Tryd.prog n_trystref10_Arena_Word #[.pointer a0, .int .i64 round4] w3 (fun v_7 w4 =>
  ∃ x_8 : Int, v_7 = .int .i64 x_8 ∧
  let w5 := w4.alloc (.cells #[.int .i64 x_2, .int .i64 x_4, .int .i64 x_6, .int .i64 x_8] 3);
  CallsV Tryd.prog n_trystref10_Arena_Make #[.pointer a0, .int .i64 3, .int .i64 0, .slice (some (newA w4)) 4 4] w5 (fun v_9 w6 =>
  ∃ x_10 : Int, v_9 = .int .i64 x_10 ∧
  R (.int .i64 x_10) w6)))))

def trystref15_Meet.J0 (_ : Value → World → Prop) (_ : Nat) (_ : Fr) (_ : World) : Prop := False

set_option maxRecDepth 100000 in
theorem trystref15_Meet.lift {R : Value → World → Prop} {a0 : Option Addr} {secret1 : Int} {i2 : Int} {j3 : Int} {round4 : Int} {w : World} (h : trystref15_Meet.main R a0 secret1 i2 j3 round4 w) : CallsV Tryd.prog n_trystref15_Meet #[.pointer a0, .int .i64 secret1, .int .i64 i2, .int .i64 j3, .int .i64 round4] w R :=
  liftCalls (c := (.seq (.leaf (cL (bd Tryd.f32))) (.seq (.leaf (cL (cR (bd Tryd.f32)))) (.leaf (cR (cR (bd Tryd.f32))))))) (J := trystref15_Meet.J0 R) LfYtoclhecldmahiaaDoor.mixed Tryd.func32 (by kernel_rfl) (by kernel_rfl) (mkSeq (mkSeq mkLeaf mkLeaf) mkLeaf) (kcast (by kernel_rfl) h)

/-! trystlaw18_wakes -/
def trystlaw18_wakes.main (R : Value → World → Prop)  (w : World) : Prop :=
  CallsV Tryd.prog n_term_New #[] w (fun v_1 w1 =>
  ∃ p_2 : Option Addr, v_1 = .pointer p_2 ∧
  cond ((p_2).isNone)
  (R (.bool false) w1)
  (CallsV Tryd.prog n_term_Arena_Make #[.pointer p_2, .int .i64 1, .int .i64 1, .slice none 0 0] w1 (fun v_3 w2 =>
  ∃ x_4 : Int, ∃ x_5 : Int, v_3 = .tuple #[.int .i64 x_4, .int .i64 x_5] ∧
  CallsV Tryd.prog n_sched_Meet #[.pointer p_2, .int .i64 x_4, .int .i64 3, .int .i64 1, .int .i64 5] w2 (fun v_6 w3 =>
  ∃ x_7 : Int, ∃ x_8 : Int, v_6 = .tuple #[.int .i64 x_7, .int .i64 x_8] ∧
  CallsV Tryd.prog n_sched_Meet #[.pointer p_2, .int .i64 x_4, .int .i64 1, .int .i64 3, .int .i64 5] w3 (fun v_9 w4 =>
  ∃ x_10 : Int, ∃ x_11 : Int, v_9 = .tuple #[.int .i64 x_10, .int .i64 x_11] ∧
  CallsV Tryd.prog n_sched_Meet #[.pointer p_2, .int .i64 x_4, .int .i64 1, .int .i64 3, .int .i64 6] w4 (fun v_12 w5 =>
  ∃ x_13 : Int, ∃ x_14 : Int, v_12 = .tuple #[.int .i64 x_13, .int .i64 x_14] ∧
  cond ((x_8 : Int) == 0)
  (cond ((x_11 : Int) == 0)
  (cond ((x_14 : Int) == 0)
  (cond ((x_7 : Int) == x_10)
  (R (.bool ((x_7 : Int) != x_13)) w5)
  (R (.bool false) w5))
  (R (.bool false) w5))
  (R (.bool false) w5))
  (R (.bool false) w5)))))))

def trystlaw18_wakes.J0 (_ : Value → World → Prop) (_ : Nat) (_ : Fr) (_ : World) : Prop := False

set_option maxRecDepth 100000 in
theorem trystlaw18_wakes.lift {R : Value → World → Prop}  {w : World} (h : trystlaw18_wakes.main R  w) : CallsV Tryd.prog n_trystlaw18_wakes #[] w R :=
  liftCalls (c := (.seq (.leaf (cL (bd Tryd.f33))) (.seq (.leaf (cL (cR (bd Tryd.f33)))) (.seq (.seq (.leaf (cL (cL (cR (cR (bd Tryd.f33)))))) (.cnd (.tmp 12) (.seq (.leaf (cL (cT (cR (cL (cR (cR (bd Tryd.f33)))))))) (.leaf (cR (cT (cR (cL (cR (cR (bd Tryd.f33))))))))) (.leaf (cE (cR (cL (cR (cR (bd Tryd.f33))))))))) (.seq (.leaf (cL (cR (cR (cR (bd Tryd.f33)))))) (.seq (.leaf (cL (cR (cR (cR (cR (bd Tryd.f33))))))) (.seq (.leaf (cL (cR (cR (cR (cR (cR (bd Tryd.f33)))))))) (.seq (.leaf (cL (cR (cR (cR (cR (cR (cR (bd Tryd.f33))))))))) (.seq (.leaf (cL (cR (cR (cR (cR (cR (cR (cR (bd Tryd.f33)))))))))) (.leaf (cR (cR (cR (cR (cR (cR (cR (cR (bd Tryd.f33))))))))))))))))))) (J := trystlaw18_wakes.J0 R) LfYtoclhecldmahiaaDoor.mixed Tryd.func33 (by kernel_rfl) (by kernel_rfl) (mkSeq (mkSeq (mkSeq (mkSeq (mkSeq (mkSeq (mkSeq (mkSeq mkLeaf mkLeaf) mkLeaf) mkLeaf) mkLeaf) mkLeaf) (mkSeq (mkCnd (mkSeq mkLeaf mkLeaf) mkLeaf) mkLeaf)) mkLeaf) mkLeaf) (kcast (by kernel_rfl) h)

/-! sched_Joiner -/
def sched_Joiner.main (R : Value → World → Prop) (a0 : Option Addr) (start1 : Int) (commit2 : Int) (w : World) : Prop :=
  let w1 := w.alloc (.cells #[.int .i64 start1, .int .i64 commit2] 3);
  CallsV Tryd.prog n_sched_hash #[.pointer a0, .slice (some (newA w)) 2 2] w1 (fun v_1 w2 =>
  ∃ x_2 : Int, ∃ x_3 : Int, v_1 = .tuple #[.int .i64 x_2, .int .i64 x_3] ∧
  R (.tuple #[.int .i64 x_2, .int .i64 x_3]) w2)

def sched_Joiner.J0 (_ : Value → World → Prop) (_ : Nat) (_ : Fr) (_ : World) : Prop := False

set_option maxRecDepth 100000 in
theorem sched_Joiner.lift {R : Value → World → Prop} {a0 : Option Addr} {start1 : Int} {commit2 : Int} {w : World} (h : sched_Joiner.main R a0 start1 commit2 w) : CallsV Tryd.prog n_sched_Joiner #[.pointer a0, .int .i64 start1, .int .i64 commit2] w R :=
  liftCalls (c := (.seq (.leaf (cL (bd Tryd.f34))) (.seq (.leaf (cL (cR (bd Tryd.f34)))) (.leaf (cR (cR (bd Tryd.f34))))))) (J := sched_Joiner.J0 R) LfYtoclhecldmahiaaDoor.mixed Tryd.func34 (by kernel_rfl) (by kernel_rfl) (mkSeq (mkSeq mkLeaf mkLeaf) mkLeaf) (kcast (by kernel_rfl) h)

/-! trystref15_Joiner -/
def trystref15_Joiner.main (R : Value → World → Prop) (a0 : Option Addr) (start1 : Int) (commit2 : Int) (w : World) : Prop :=
  let w1 := w.alloc (.cells #[.int .i64 start1, .int .i64 commit2] 3);
  CallsV Tryd.prog n_trystref10_Arena_Make #[.pointer a0, .int .i64 3, .int .i64 0, .slice (some (newA w)) 2 2] w1 (fun v_1 w2 =>
  ∃ x_2 : Int, v_1 = .int .i64 x_2 ∧
  R (.int .i64 x_2) w2)

def trystref15_Joiner.J0 (_ : Value → World → Prop) (_ : Nat) (_ : Fr) (_ : World) : Prop := False

set_option maxRecDepth 100000 in
theorem trystref15_Joiner.lift {R : Value → World → Prop} {a0 : Option Addr} {start1 : Int} {commit2 : Int} {w : World} (h : trystref15_Joiner.main R a0 start1 commit2 w) : CallsV Tryd.prog n_trystref15_Joiner #[.pointer a0, .int .i64 start1, .int .i64 commit2] w R :=
  liftCalls (c := (.seq (.leaf (cL (bd Tryd.f35))) (.seq (.leaf (cL (cR (bd Tryd.f35)))) (.leaf (cR (cR (bd Tryd.f35))))))) (J := trystref15_Joiner.J0 R) LfYtoclhecldmahiaaDoor.mixed Tryd.func35 (by kernel_rfl) (by kernel_rfl) (mkSeq (mkSeq mkLeaf mkLeaf) mkLeaf) (kcast (by kernel_rfl) h)

/-! sched_Secret -/
def sched_Secret.main (R : Value → World → Prop) (a0 : Option Addr) (joiner1 : Int) (tree2 : Int) (history3 : Int) (w : World) : Prop :=
  let w1 := w.alloc (.cells #[.int .i64 joiner1, .int .i64 tree2, .int .i64 history3] 3);
  CallsV Tryd.prog n_sched_hash #[.pointer a0, .slice (some (newA w)) 3 3] w1 (fun v_1 w2 =>
  ∃ x_2 : Int, ∃ x_3 : Int, v_1 = .tuple #[.int .i64 x_2, .int .i64 x_3] ∧
  R (.tuple #[.int .i64 x_2, .int .i64 x_3]) w2)

def sched_Secret.J0 (_ : Value → World → Prop) (_ : Nat) (_ : Fr) (_ : World) : Prop := False

set_option maxRecDepth 100000 in
theorem sched_Secret.lift {R : Value → World → Prop} {a0 : Option Addr} {joiner1 : Int} {tree2 : Int} {history3 : Int} {w : World} (h : sched_Secret.main R a0 joiner1 tree2 history3 w) : CallsV Tryd.prog n_sched_Secret #[.pointer a0, .int .i64 joiner1, .int .i64 tree2, .int .i64 history3] w R :=
  liftCalls (c := (.seq (.leaf (cL (bd Tryd.f36))) (.seq (.leaf (cL (cR (bd Tryd.f36)))) (.leaf (cR (cR (bd Tryd.f36))))))) (J := sched_Secret.J0 R) LfYtoclhecldmahiaaDoor.mixed Tryd.func36 (by kernel_rfl) (by kernel_rfl) (mkSeq (mkSeq mkLeaf mkLeaf) mkLeaf) (kcast (by kernel_rfl) h)

/-! trystref15_Secret -/
def trystref15_Secret.main (R : Value → World → Prop) (a0 : Option Addr) (joiner1 : Int) (tree2 : Int) (history3 : Int) (w : World) : Prop :=
  let w1 := w.alloc (.cells #[.int .i64 joiner1, .int .i64 tree2, .int .i64 history3] 3);
  CallsV Tryd.prog n_trystref10_Arena_Make #[.pointer a0, .int .i64 3, .int .i64 0, .slice (some (newA w)) 3 3] w1 (fun v_1 w2 =>
  ∃ x_2 : Int, v_1 = .int .i64 x_2 ∧
  R (.int .i64 x_2) w2)

def trystref15_Secret.J0 (_ : Value → World → Prop) (_ : Nat) (_ : Fr) (_ : World) : Prop := False

set_option maxRecDepth 100000 in
theorem trystref15_Secret.lift {R : Value → World → Prop} {a0 : Option Addr} {joiner1 : Int} {tree2 : Int} {history3 : Int} {w : World} (h : trystref15_Secret.main R a0 joiner1 tree2 history3 w) : CallsV Tryd.prog n_trystref15_Secret #[.pointer a0, .int .i64 joiner1, .int .i64 tree2, .int .i64 history3] w R :=
  liftCalls (c := (.seq (.leaf (cL (bd Tryd.f37))) (.seq (.leaf (cL (cR (bd Tryd.f37)))) (.leaf (cR (cR (bd Tryd.f37))))))) (J := trystref15_Secret.J0 R) LfYtoclhecldmahiaaDoor.mixed Tryd.func37 (by kernel_rfl) (by kernel_rfl) (mkSeq (mkSeq mkLeaf mkLeaf) mkLeaf) (kcast (by kernel_rfl) h)

/-! sched_Tag -/
def sched_Tag.main (R : Value → World → Prop) (a0 : Option Addr) (secret1 : Int) (history2 : Int) (w : World) : Prop :=
  let w1 := w.alloc (.cells #[.int .i64 secret1, .int .i64 history2] 3);
  CallsV Tryd.prog n_term_Arena_Has #[.pointer a0, .slice (some (newA w)) 2 2] w1 (fun v_1 w2 =>
  ∃ b_2 : Bool, v_1 = .bool b_2 ∧
  cond (!b_2)
  (R (.tuple #[.int .i64 0, .int .i64 8]) w2)
  (let w3 := w2.alloc (.cells #[.pointer a0, .int .i64 0] 151);
  let w4 := w3.alloc (.cells #[.int .i64 secret1] 3);
  CallsV Tryd.prog n_sched_maker_make #[.pointer (some (newA w2)), .int .i64 4, .int .i64 22, .slice (some (newA w3)) 1 1] w4 (fun v_3 w5 =>
  ∃ x_4 : Int, v_3 = .int .i64 x_4 ∧
  let w6 := w5.alloc (.cells #[.int .i64 x_4, .int .i64 history2] 3);
  CallsV Tryd.prog n_sched_maker_make #[.pointer (some (newA w2)), .int .i64 3, .int .i64 0, .slice (some (newA w5)) 2 2] w6 (fun v_5 w7 =>
  ∃ x_6 : Int, v_5 = .int .i64 x_6 ∧
  CallsV Tryd.prog n_sched_maker_done #[.pointer (some (newA w2)), .int .i64 x_6] w7 (fun v_7 w8 =>
  ∃ x_8 : Int, ∃ x_9 : Int, v_7 = .tuple #[.int .i64 x_8, .int .i64 x_9] ∧
  R (.tuple #[.int .i64 x_8, .int .i64 x_9]) w8)))))

def sched_Tag.J0 (_ : Value → World → Prop) (_ : Nat) (_ : Fr) (_ : World) : Prop := False

set_option maxRecDepth 100000 in
theorem sched_Tag.lift {R : Value → World → Prop} {a0 : Option Addr} {secret1 : Int} {history2 : Int} {w : World} (h : sched_Tag.main R a0 secret1 history2 w) : CallsV Tryd.prog n_sched_Tag #[.pointer a0, .int .i64 secret1, .int .i64 history2] w R :=
  liftCalls (c := (.seq (.leaf (cL (bd Tryd.f38))) (.seq (.seq (.leaf (cL (cL (cR (bd Tryd.f38))))) (.cnd (.tmp 14) (.seq (.leaf (cL (cT (cR (cL (cR (bd Tryd.f38))))))) (.leaf (cR (cT (cR (cL (cR (bd Tryd.f38)))))))) (.leaf (cE (cR (cL (cR (bd Tryd.f38)))))))) (.seq (.leaf (cL (cR (cR (bd Tryd.f38))))) (.seq (.leaf (cL (cR (cR (cR (bd Tryd.f38)))))) (.leaf (cR (cR (cR (cR (bd Tryd.f38))))))))))) (J := sched_Tag.J0 R) LfYtoclhecldmahiaaDoor.mixed Tryd.func38 (by kernel_rfl) (by kernel_rfl) (mkSeq (mkSeq (mkSeq (mkSeq mkLeaf mkLeaf) mkLeaf) (mkSeq (mkCnd (mkSeq mkLeaf mkLeaf) mkLeaf) mkLeaf)) mkLeaf) (kcast (by kernel_rfl) h)

/-! trystref15_Tag -/
def trystref15_Tag.main (R : Value → World → Prop) (a0 : Option Addr) (secret1 : Int) (history2 : Int) (w : World) : Prop :=
  CallsV Tryd.prog n_trystref10_Arena_Kdf #[.pointer a0, .int .i64 secret1, .int .i64 22] w (fun v_1 w1 =>
  ∃ x_2 : Int, v_1 = .int .i64 x_2 ∧
  let w2 := w1.alloc (.cells #[.int .i64 x_2, .int .i64 history2] 3);
  CallsV Tryd.prog n_trystref10_Arena_Make #[.pointer a0, .int .i64 3, .int .i64 0, .slice (some (newA w1)) 2 2] w2 (fun v_3 w3 =>
  ∃ x_4 : Int, v_3 = .int .i64 x_4 ∧
  R (.int .i64 x_4) w3))

def trystref15_Tag.J0 (_ : Value → World → Prop) (_ : Nat) (_ : Fr) (_ : World) : Prop := False

set_option maxRecDepth 100000 in
theorem trystref15_Tag.lift {R : Value → World → Prop} {a0 : Option Addr} {secret1 : Int} {history2 : Int} {w : World} (h : trystref15_Tag.main R a0 secret1 history2 w) : CallsV Tryd.prog n_trystref15_Tag #[.pointer a0, .int .i64 secret1, .int .i64 history2] w R :=
  liftCalls (c := (.seq (.leaf (cL (bd Tryd.f39))) (.seq (.leaf (cL (cR (bd Tryd.f39)))) (.leaf (cR (cR (bd Tryd.f39))))))) (J := trystref15_Tag.J0 R) LfYtoclhecldmahiaaDoor.mixed Tryd.func39 (by kernel_rfl) (by kernel_rfl) (mkSeq (mkSeq mkLeaf mkLeaf) mkLeaf) (kcast (by kernel_rfl) h)

/-! sched_History -/
def sched_History.main (R : Value → World → Prop) (a0 : Option Addr) (history1 : Int) (body2 : Int) (w : World) : Prop :=
  let w1 := w.alloc (.cells #[.int .i64 history1, .int .i64 body2] 3);
  CallsV Tryd.prog n_sched_hash #[.pointer a0, .slice (some (newA w)) 2 2] w1 (fun v_1 w2 =>
  ∃ x_2 : Int, ∃ x_3 : Int, v_1 = .tuple #[.int .i64 x_2, .int .i64 x_3] ∧
  R (.tuple #[.int .i64 x_2, .int .i64 x_3]) w2)

def sched_History.J0 (_ : Value → World → Prop) (_ : Nat) (_ : Fr) (_ : World) : Prop := False

set_option maxRecDepth 100000 in
theorem sched_History.lift {R : Value → World → Prop} {a0 : Option Addr} {history1 : Int} {body2 : Int} {w : World} (h : sched_History.main R a0 history1 body2 w) : CallsV Tryd.prog n_sched_History #[.pointer a0, .int .i64 history1, .int .i64 body2] w R :=
  liftCalls (c := (.seq (.leaf (cL (bd Tryd.f40))) (.seq (.leaf (cL (cR (bd Tryd.f40)))) (.leaf (cR (cR (bd Tryd.f40))))))) (J := sched_History.J0 R) LfYtoclhecldmahiaaDoor.mixed Tryd.func40 (by kernel_rfl) (by kernel_rfl) (mkSeq (mkSeq mkLeaf mkLeaf) mkLeaf) (kcast (by kernel_rfl) h)

/-! sched_Start -/
def sched_Start.main (R : Value → World → Prop) (a0 : Option Addr) (secret1 : Int) (w : World) : Prop :=
  CallsV Tryd.prog n_sched_kdf #[.pointer a0, .int .i64 secret1, .int .i64 21] w (fun v_1 w1 =>
  ∃ x_2 : Int, ∃ x_3 : Int, v_1 = .tuple #[.int .i64 x_2, .int .i64 x_3] ∧
  R (.tuple #[.int .i64 x_2, .int .i64 x_3]) w1)

def sched_Start.J0 (_ : Value → World → Prop) (_ : Nat) (_ : Fr) (_ : World) : Prop := False

set_option maxRecDepth 100000 in
theorem sched_Start.lift {R : Value → World → Prop} {a0 : Option Addr} {secret1 : Int} {w : World} (h : sched_Start.main R a0 secret1 w) : CallsV Tryd.prog n_sched_Start #[.pointer a0, .int .i64 secret1] w R :=
  liftCalls (c := (.seq (.leaf (cL (bd Tryd.f42))) (.seq (.leaf (cL (cR (bd Tryd.f42)))) (.leaf (cR (cR (bd Tryd.f42))))))) (J := sched_Start.J0 R) LfYtoclhecldmahiaaDoor.mixed Tryd.func42 (by kernel_rfl) (by kernel_rfl) (mkSeq (mkSeq mkLeaf mkLeaf) mkLeaf) (kcast (by kernel_rfl) h)

/-! sched_Register -/
def sched_Register.main (R : Value → World → Prop) (a0 : Option Addr) (secret1 : Int) (w : World) : Prop :=
  CallsV Tryd.prog n_sched_kdf #[.pointer a0, .int .i64 secret1, .int .i64 25] w (fun v_1 w1 =>
  ∃ x_2 : Int, ∃ x_3 : Int, v_1 = .tuple #[.int .i64 x_2, .int .i64 x_3] ∧
  R (.tuple #[.int .i64 x_2, .int .i64 x_3]) w1)

def sched_Register.J0 (_ : Value → World → Prop) (_ : Nat) (_ : Fr) (_ : World) : Prop := False

set_option maxRecDepth 100000 in
theorem sched_Register.lift {R : Value → World → Prop} {a0 : Option Addr} {secret1 : Int} {w : World} (h : sched_Register.main R a0 secret1 w) : CallsV Tryd.prog n_sched_Register #[.pointer a0, .int .i64 secret1] w R :=
  liftCalls (c := (.seq (.leaf (cL (bd Tryd.f44))) (.seq (.leaf (cL (cR (bd Tryd.f44)))) (.leaf (cR (cR (bd Tryd.f44))))))) (J := sched_Register.J0 R) LfYtoclhecldmahiaaDoor.mixed Tryd.func44 (by kernel_rfl) (by kernel_rfl) (mkSeq (mkSeq mkLeaf mkLeaf) mkLeaf) (kcast (by kernel_rfl) h)

/-! sched_First -/
def sched_First.main (R : Value → World → Prop) (a0 : Option Addr) (tree1 : Int) (w : World) : Prop :=
  let w1 := w.alloc (.cells #[.int .i64 tree1] 3);
  CallsV Tryd.prog n_sched_hash #[.pointer a0, .slice (some (newA w)) 1 1] w1 (fun v_1 w2 =>
  ∃ x_2 : Int, ∃ x_3 : Int, v_1 = .tuple #[.int .i64 x_2, .int .i64 x_3] ∧
  R (.tuple #[.int .i64 x_2, .int .i64 x_3]) w2)

def sched_First.J0 (_ : Value → World → Prop) (_ : Nat) (_ : Fr) (_ : World) : Prop := False

set_option maxRecDepth 100000 in
theorem sched_First.lift {R : Value → World → Prop} {a0 : Option Addr} {tree1 : Int} {w : World} (h : sched_First.main R a0 tree1 w) : CallsV Tryd.prog n_sched_First #[.pointer a0, .int .i64 tree1] w R :=
  liftCalls (c := (.seq (.leaf (cL (bd Tryd.f45))) (.seq (.leaf (cL (cR (bd Tryd.f45)))) (.leaf (cR (cR (bd Tryd.f45))))))) (J := sched_First.J0 R) LfYtoclhecldmahiaaDoor.mixed Tryd.func45 (by kernel_rfl) (by kernel_rfl) (mkSeq (mkSeq mkLeaf mkLeaf) mkLeaf) (kcast (by kernel_rfl) h)

/-! sched_leaf -/
def sched_leaf.b1 (R : Value → World → Prop) (N1 : Sl → Int → Int → World → Prop) (t5 : Sl) (t6 : Int) (t7 : Int) (w : World) : Prop :=
  cond (decide ((t7 : Int) < t6))
  (0 ≤ (t7 : Int) ∧ t7 < ((t5.len : Nat) : Int) ∧ ∃ q_1 : Addr, t5.a = some q_1 ∧
  ∃ x_2 : Int, w.cell? (q_1.add (t7 : Int).toNat) = some (.int .i64 x_2) ∧
  cond (decide ((x_2 : Int) < 0))
  (R (.bool false) w)
  (cond (decide ((x_2 : Int) ≥ 8))
  (R (.bool false) w)
  (N1 t5 t6 (IntKind.i64.wrap (t7 + 1)) w)))
  (R (.bool true) w)

def sched_leaf.l1 (R : Value → World → Prop) (t5 : Sl) (t6 : Int) (t7 : Int) (w : World) : Prop :=
  ∃ (I : Int → World → Prop) (μ : Int → World → Nat), I t7 w ∧ ∀ s w, I s w → sched_leaf.b1 R (fun t5' t6' t7' w' => (t5' = t5 ∧ t6' = t6 ∧ I t7' w') ∧ μ t7' w' < μ s w) t5 t6 s w

def sched_leaf.main (R : Value → World → Prop) (l0 : Sl) (w : World) : Prop :=
  sched_leaf.l1 R l0 ((l0.len : Nat) : Int) 0 w

def sched_leaf.J0 (R : Value → World → Prop) (k : Nat) (fr : Fr) (w : World) : Prop :=
  cond (Nat.beq k 1) (dec [(5, .slice), (6, (.int .i64)), (7, (.int .i64))] fr fun x => sched_leaf.l1 R x.1 x.2.1 x.2.2 w) (False)

set_option maxRecDepth 100000 in
theorem sched_leaf.lift {R : Value → World → Prop} {l0 : Sl} {w : World} (h : sched_leaf.main R l0 w) : CallsV Tryd.prog n_sched_leaf #[.slice l0.a l0.len l0.cap] w R :=
  liftCalls (c := (.seq (.leaf (cL (bd Tryd.f98))) (.seq (.seq (.leaf (cL (cL (cR (bd Tryd.f98))))) (.block 0 (.loop 1 (.seq (.leaf (cL (cB (cB (cR (cL (cR (bd Tryd.f98)))))))) (.seq (.cnd (.tmp 8) (.leaf (cT (cL (cR (cB (cB (cR (cL (cR (bd Tryd.f98)))))))))) (.leaf (cE (cL (cR (cB (cB (cR (cL (cR (bd Tryd.f98))))))))))) (.seq (.block 1 (.seq (.leaf (cL (cB (cL (cR (cR (cB (cB (cR (cL (cR (bd Tryd.f98)))))))))))) (.seq (.leaf (cL (cR (cB (cL (cR (cR (cB (cB (cR (cL (cR (bd Tryd.f98))))))))))))) (.cnd (.tmp 16) (.seq (.leaf (cL (cT (cR (cR (cB (cL (cR (cR (cB (cB (cR (cL (cR (bd Tryd.f98))))))))))))))) (.leaf (cR (cT (cR (cR (cB (cL (cR (cR (cB (cB (cR (cL (cR (bd Tryd.f98)))))))))))))))) (.leaf (cE (cR (cR (cB (cL (cR (cR (cB (cB (cR (cL (cR (bd Tryd.f98)))))))))))))))))) (.leaf (cR (cR (cR (cB (cB (cR (cL (cR (bd Tryd.f98)))))))))))))))) (.seq (.leaf (cL (cR (cR (bd Tryd.f98))))) (.leaf (cR (cR (cR (bd Tryd.f98))))))))) (J := sched_leaf.J0 R) LfYtoclhecldmahiaaDoor.mixed Tryd.func98 (by kernel_rfl) (by kernel_rfl) (mkSeq (mkSeq (mkSeq mkLeaf mkLeaf) (mkSeq (mkBlock (mkLoop (loopDef LfYtoclhecldmahiaaDoor.mixed [(5, .slice), (6, (.int .i64)), (7, (.int .i64))] (by kernel_rfl) (fun M1 x w => sched_leaf.b1 R (fun y0 y1 y2 w => M1 (y0, y1, y2) w) x.1 x.2.1 x.2.2 w) (fun M1 => fun _ _ _ => False) (fun _ _ _ => by kernel_rfl) (fun M1 => (mkSeq (mkSeq (mkSeq mkLeaf (mkBlock (mkSeq (mkSeq (mkCnd (mkSeq mkLeaf mkLeaf) mkLeaf) mkLeaf) mkLeaf))) (mkCnd mkLeaf mkLeaf)) mkLeaf)) (fun x w => sched_leaf.l1 R x.1 x.2.1 x.2.2 w) (by rintro ⟨c0, c1, s0⟩ w ⟨I, μ, h0, h1⟩; refine ⟨fun y w => y.1 = c0 ∧ y.2.1 = c1 ∧ I y.2.2 w, fun y w => μ y.2.2 w, ⟨rfl, rfl, h0⟩, ?_⟩; rintro ⟨d0, d1, t0⟩ w ⟨e0, e1, hI⟩; dsimp only at e0 e1 hI; subst e0; subst e1; exact h1 _ _ hI) (fun _ _ => by kernel_rfl)))) mkLeaf)) mkLeaf) (kcast (by kernel_rfl) h)

/-! sched_maker_done -/
def sched_maker_done.main (R : Value → World → Prop) (m0 : Option Addr) (i1 : Int) (w : World) : Prop :=
  ∃ q_1 : Addr, m0 = some q_1 ∧
  ∃ x_2 : Int, w.cell? (q_1.add 1) = some (.int .i64 x_2) ∧
  cond ((x_2 : Int) != 0)
  (∃ q_3 : Addr, m0 = some q_3 ∧
  ∃ x_4 : Int, w.cell? (q_3.add 1) = some (.int .i64 x_4) ∧
  R (.tuple #[.int .i64 0, .int .i64 x_4]) w.drew)
  (R (.tuple #[.int .i64 i1, .int .i64 0]) w)

def sched_maker_done.J0 (_ : Value → World → Prop) (_ : Nat) (_ : Fr) (_ : World) : Prop := False

set_option maxRecDepth 100000 in
theorem sched_maker_done.lift {R : Value → World → Prop} {m0 : Option Addr} {i1 : Int} {w : World} (h : sched_maker_done.main R m0 i1 w) : CallsV Tryd.prog n_sched_maker_done #[.pointer m0, .int .i64 i1] w R :=
  liftCalls (c := (.seq (.leaf (cL (bd Tryd.f99))) (.seq (.seq (.leaf (cL (cL (cR (bd Tryd.f99))))) (.cnd (.tmp 10) (.seq (.leaf (cL (cT (cR (cL (cR (bd Tryd.f99))))))) (.leaf (cR (cT (cR (cL (cR (bd Tryd.f99)))))))) (.leaf (cE (cR (cL (cR (bd Tryd.f99)))))))) (.seq (.leaf (cL (cR (cR (bd Tryd.f99))))) (.leaf (cR (cR (cR (bd Tryd.f99))))))))) (J := sched_maker_done.J0 R) LfYtoclhecldmahiaaDoor.mixed Tryd.func99 (by kernel_rfl) (by kernel_rfl) (mkSeq (mkSeq (mkSeq mkLeaf mkLeaf) (mkSeq (mkCnd (mkSeq mkLeaf mkLeaf) mkLeaf) mkLeaf)) mkLeaf) (kcast (by kernel_rfl) h)

/-! sched_maker_make -/
def sched_maker_make.main (R : Value → World → Prop) (m0 : Option Addr) (kind1 : Int) (n2 : Int) (args3 : Sl) (w : World) : Prop :=
  ∃ q_1 : Addr, m0 = some q_1 ∧
  ∃ x_2 : Int, w.cell? (q_1.add 1) = some (.int .i64 x_2) ∧
  cond ((x_2 : Int) != 0)
  (R (.int .i64 0) w)
  (∃ q_3 : Addr, m0 = some q_3 ∧
  ∃ p_4 : Option Addr, w.cell? q_3 = some (.pointer p_4) ∧
  CallsV Tryd.prog n_term_Arena_Make #[.pointer p_4, .int .i64 kind1, .int .i64 n2, .slice args3.a args3.len args3.cap] w (fun v_5 w1 =>
  ∃ x_6 : Int, ∃ x_7 : Int, v_5 = .tuple #[.int .i64 x_6, .int .i64 x_7] ∧
  ∃ q_8 : Addr, m0 = some q_8 ∧
  Wr w1 (q_8.add 1) ∧
  (let w2 := w1.setCell (q_8.add 1) (.int .i64 x_7);
  R (.int .i64 x_6) w2)))

def sched_maker_make.J0 (_ : Value → World → Prop) (_ : Nat) (_ : Fr) (_ : World) : Prop := False

set_option maxRecDepth 100000 in
theorem sched_maker_make.lift {R : Value → World → Prop} {m0 : Option Addr} {kind1 : Int} {n2 : Int} {args3 : Sl} {w : World} (h : sched_maker_make.main R m0 kind1 n2 args3 w) : CallsV Tryd.prog n_sched_maker_make #[.pointer m0, .int .i64 kind1, .int .i64 n2, .slice args3.a args3.len args3.cap] w R :=
  liftCalls (c := (.seq (.leaf (cL (bd Tryd.f100))) (.seq (.seq (.leaf (cL (cL (cR (bd Tryd.f100))))) (.cnd (.tmp 15) (.seq (.leaf (cL (cT (cR (cL (cR (bd Tryd.f100))))))) (.leaf (cR (cT (cR (cL (cR (bd Tryd.f100)))))))) (.leaf (cE (cR (cL (cR (bd Tryd.f100)))))))) (.seq (.leaf (cL (cR (cR (bd Tryd.f100))))) (.seq (.leaf (cL (cR (cR (cR (bd Tryd.f100)))))) (.seq (.leaf (cL (cR (cR (cR (cR (bd Tryd.f100))))))) (.leaf (cR (cR (cR (cR (cR (bd Tryd.f100))))))))))))) (J := sched_maker_make.J0 R) LfYtoclhecldmahiaaDoor.mixed Tryd.func100 (by kernel_rfl) (by kernel_rfl) (mkSeq (mkSeq (mkSeq (mkSeq (mkSeq mkLeaf mkLeaf) mkLeaf) mkLeaf) (mkSeq (mkCnd (mkSeq mkLeaf mkLeaf) mkLeaf) mkLeaf)) mkLeaf) (kcast (by kernel_rfl) h)

/-! sched_hash -/
def sched_hash.main (R : Value → World → Prop) (a0 : Option Addr) (args1 : Sl) (w : World) : Prop :=
  let w1 := w.alloc (.cells #[.pointer a0, .int .i64 0] 151);
  CallsV Tryd.prog n_sched_maker_make #[.pointer (some (newA w)), .int .i64 3, .int .i64 0, .slice args1.a args1.len args1.cap] w1 (fun v_1 w2 =>
  ∃ x_2 : Int, v_1 = .int .i64 x_2 ∧
  CallsV Tryd.prog n_sched_maker_done #[.pointer (some (newA w)), .int .i64 x_2] w2 (fun v_3 w3 =>
  ∃ x_4 : Int, ∃ x_5 : Int, v_3 = .tuple #[.int .i64 x_4, .int .i64 x_5] ∧
  R (.tuple #[.int .i64 x_4, .int .i64 x_5]) w3))

def sched_hash.J0 (_ : Value → World → Prop) (_ : Nat) (_ : Fr) (_ : World) : Prop := False

set_option maxRecDepth 100000 in
theorem sched_hash.lift {R : Value → World → Prop} {a0 : Option Addr} {args1 : Sl} {w : World} (h : sched_hash.main R a0 args1 w) : CallsV Tryd.prog n_sched_hash #[.pointer a0, .slice args1.a args1.len args1.cap] w R :=
  liftCalls (c := (.seq (.leaf (cL (bd Tryd.f101))) (.seq (.leaf (cL (cR (bd Tryd.f101)))) (.seq (.leaf (cL (cR (cR (bd Tryd.f101))))) (.leaf (cR (cR (cR (bd Tryd.f101))))))))) (J := sched_hash.J0 R) LfYtoclhecldmahiaaDoor.mixed Tryd.func101 (by kernel_rfl) (by kernel_rfl) (mkSeq (mkSeq (mkSeq mkLeaf mkLeaf) mkLeaf) mkLeaf) (kcast (by kernel_rfl) h)

/-! sched_kdf -/
def sched_kdf.main (R : Value → World → Prop) (a0 : Option Addr) (secret1 : Int) (n2 : Int) (w : World) : Prop :=
  let w1 := w.alloc (.cells #[.pointer a0, .int .i64 0] 151);
  let w2 := w1.alloc (.cells #[.int .i64 secret1] 3);
  CallsV Tryd.prog n_sched_maker_make #[.pointer (some (newA w)), .int .i64 4, .int .i64 n2, .slice (some (newA w1)) 1 1] w2 (fun v_1 w3 =>
  ∃ x_2 : Int, v_1 = .int .i64 x_2 ∧
  CallsV Tryd.prog n_sched_maker_done #[.pointer (some (newA w)), .int .i64 x_2] w3 (fun v_3 w4 =>
  ∃ x_4 : Int, ∃ x_5 : Int, v_3 = .tuple #[.int .i64 x_4, .int .i64 x_5] ∧
  R (.tuple #[.int .i64 x_4, .int .i64 x_5]) w4))

def sched_kdf.J0 (_ : Value → World → Prop) (_ : Nat) (_ : Fr) (_ : World) : Prop := False

set_option maxRecDepth 100000 in
theorem sched_kdf.lift {R : Value → World → Prop} {a0 : Option Addr} {secret1 : Int} {n2 : Int} {w : World} (h : sched_kdf.main R a0 secret1 n2 w) : CallsV Tryd.prog n_sched_kdf #[.pointer a0, .int .i64 secret1, .int .i64 n2] w R :=
  liftCalls (c := (.seq (.leaf (cL (bd Tryd.f104))) (.seq (.leaf (cL (cR (bd Tryd.f104)))) (.seq (.leaf (cL (cR (cR (bd Tryd.f104))))) (.leaf (cR (cR (cR (bd Tryd.f104))))))))) (J := sched_kdf.J0 R) LfYtoclhecldmahiaaDoor.mixed Tryd.func104 (by kernel_rfl) (by kernel_rfl) (mkSeq (mkSeq (mkSeq mkLeaf mkLeaf) mkLeaf) mkLeaf) (kcast (by kernel_rfl) h)

end Go.Proofs.YtoclhecldmahiaaDoor
