/-
  What the code of these functions comes to, and that it suffices for the call. Written by a program of ours, for this claim.
-/
import Derived.Test.YtcegohgmagppbaaProg
import Derived.Test.YtcegohgmagppbaaLift
import Derived.Test.YtcegohgmagppbaaLiftA
set_option linter.unusedVariables false
set_option linter.unusedVariables false
namespace Go.Proofs.Ytcegohgmagppbaa
open Go.Lf
theorem LfYtcegohgmagppbaa.mixed : Try.prog.follows .mixedOrders = true := by kernel_rfl
abbrev n_logs_Say : Nat := 8
abbrev n_logs_Put : Nat := 9
abbrev n_logs_Want : Nat := 10
abbrev n_logs_Have : Nat := 11
abbrev n_trystkeep_Logs : Nat := 12
abbrev n_trystkeep_Ints : Nat := 13
abbrev n_trystlaw25_wakes : Nat := 14
abbrev n_trystlaw25_Heavy : Nat := 15
abbrev n_logs_Check : Nat := 16
abbrev n_logs_From : Nat := 17
abbrev n_trystkeep_TwinLogs : Nat := 18
abbrev n_trystkeep_TwinInts : Nat := 19
abbrev n_trystref22_Logs : Nat := 20
abbrev n_trystref22_Have : Nat := 21
abbrev n_trystref22_Say : Nat := 22
abbrev n_trystkeep_SpoilLogs : Nat := 23
abbrev n_trystref22_Put : Nat := 24
abbrev n_trystref22_Want : Nat := 25
abbrev n_trystkeep_Msg : Nat := 26
abbrev n_trystref22_From : Nat := 27
abbrev n_logs_client : Nat := 28
abbrev n_logs_body : Nat := 29
abbrev n_logs_of : Nat := 30
abbrev n_slices_Clone_Log : Nat := 31
abbrev n_logs_has : Nat := 32
abbrev n_logs_twin : Nat := 33
abbrev n_slices_ContainsFunc_int : Nat := 34
abbrev n_logs_Check_1 : Nat := 35
abbrev n_trystref22_may : Nat := 36
abbrev n_trystref22_with : Nat := 37
abbrev n_trystkeep_SpoilInts : Nat := 38
abbrev n_slices_Insert_Log : Nat := 39
abbrev n_slices_Clone_int : Nat := 40
abbrev n_slices_IndexFunc_int : Nat := 41
abbrev n_slices_rotateRight_Log : Nat := 43
abbrev n_slices_rotateLeft_Log : Nat := 44
abbrev n_slices_Reverse_Log : Nat := 45
abbrev n_slices_overlaps_Log : Nat := 42
/-! logs_Say -/
def logs_Say.c1 (R : Value → World → Prop) (l0 : Sl) (c1 : Int) (b2 : Int) (w : World) : Prop :=
  CallsV Try.prog n_logs_of #[.slice l0.a l0.len l0.cap, .int .i64 c1] w (fun v_1 w1 =>
  ∃ (a_2 : Option Addr) (l_3 c_4 : Nat), ∃ x_5 : Int, v_1 = .tuple #[.slice a_2 l_3 c_4, .int .i64 x_5] ∧
  0 ≤ (x_5 : Int) ∧ x_5 < ((l_3 : Nat) : Int) ∧ ∃ q_6 : Addr, a_2 = some q_6 ∧
  ∃ (a_7 : Option Addr) (l_8 c_9 : Nat), w1.cell? ((q_6.add ((x_5 : Int).toNat * 3)).add 2) = some (.slice a_7 l_8 c_9) ∧
  cond (decide ((((l_8 : Nat) : Int) : Int) ≥ 32))
  (R (.tuple #[.slice none 0 0, .int .i64 0, .int .i64 20]) w1)
  (0 ≤ (x_5 : Int) ∧ x_5 < ((l_3 : Nat) : Int) ∧ ∃ q_10 : Addr, a_2 = some q_10 ∧
  ∃ (a_11 : Option Addr) (l_12 c_13 : Nat), w1.cell? ((q_10.add ((x_5 : Int).toNat * 3)).add 2) = some (.slice a_11 l_12 c_13) ∧
  let w2 := w1.alloc (.cells #[.int .i64 b2] 3);
  ∃ (a_14 : Option Addr) (l_15 c_16 : Nat), ∃ w3 : World, (builtin .append #[23, 23] 23 #[] #[.slice a_11 l_12 c_13, .slice (some (newA w1)) 1 1]).run Try.prog w2 = .ok (.value (.slice a_14 l_15 c_16)) w3 ∧
  0 ≤ (x_5 : Int) ∧ x_5 < ((l_3 : Nat) : Int) ∧ ∃ q_17 : Addr, a_2 = some q_17 ∧
  Wr w3 ((q_17.add ((x_5 : Int).toNat * 3)).add 2) ∧
  (let w4 := w3.setCell ((q_17.add ((x_5 : Int).toNat * 3)).add 2) (.slice a_14 l_15 c_16);
  ∃ S_18 : World → Prop, S_18 w4.drew ∧
  0 ≤ (x_5 : Int) ∧ x_5 < ((l_3 : Nat) : Int) ∧ ∃ q_19 : Addr, a_2 = some q_19 ∧
  ∃ x_20 : Int, (∀ x, S_18 x → x.cell? (q_19.add ((x_5 : Int).toNat * 3)) = some (.int .i64 x_20)) ∧
  ∃ x_21 : Int, (∀ x, S_18 x → x.cell? ((q_19.add ((x_5 : Int).toNat * 3)).add 1) = some (.int .i64 x_21)) ∧
  ∃ (a_22 : Option Addr) (l_23 c_24 : Nat), (∀ x, S_18 x → x.cell? ((q_19.add ((x_5 : Int).toNat * 3)).add 2) = some (.slice a_22 l_23 c_24)) ∧
  CallsV Try.prog n_slices_Clone_Log #[.slice a_2 l_3 c_4] w4.drew (fun v_25 w5 =>
  ∃ (a_26 : Option Addr) (l_27 c_28 : Nat), v_25 = .slice a_26 l_27 c_28 ∧
  S_18 w5 ∧
  CallsV Try.prog n_logs_has #[.agg #[.int .i64 x_20, .int .i64 x_21, .slice a_22 l_23 c_24]] w5 (fun v_29 w6 =>
  ∃ x_30 : Int, v_29 = .int .i64 x_30 ∧
  R (.tuple #[.slice a_26 l_27 c_28, .int .i64 x_30, .int .i64 0]) w6)))))

def logs_Say.main (R : Value → World → Prop) (l0 : Sl) (c1 : Int) (b2 : Int) (w : World) : Prop :=
  CallsV Try.prog n_logs_Check #[.slice l0.a l0.len l0.cap] w (fun v_31 w7 =>
  ∃ x_32 : Int, v_31 = .int .i64 x_32 ∧
  cond ((x_32 : Int) != 0)
  (R (.tuple #[.slice none 0 0, .int .i64 0, .int .i64 1]) w7)
  (CallsV Try.prog n_logs_client #[.int .i64 c1] w7 (fun v_33 w8 =>
  ∃ b_34 : Bool, v_33 = .bool b_34 ∧
  cond (!b_34)
  (R (.tuple #[.slice none 0 0, .int .i64 0, .int .i64 1]) w8)
  (CallsV Try.prog n_logs_body #[.int .i64 b2] w8 (fun v_35 w9 =>
  ∃ b_36 : Bool, v_35 = .bool b_36 ∧
  cond (!b_36)
  (R (.tuple #[.slice none 0 0, .int .i64 0, .int .i64 1]) w9)
  (logs_Say.c1 R l0 c1 b2 w9))))))

def logs_Say.J0 (R : Value → World → Prop) (k : Nat) (fr : Fr) (w : World) : Prop :=
  cond (Nat.beq k 1) (dec [(0, .slice), (1, (.int .i64)), (2, (.int .i64))] fr fun x => logs_Say.c1 R x.1 x.2.1 x.2.2 w) (False)

set_option maxRecDepth 100000 in
theorem logs_Say.lift {R : Value → World → Prop} {l0 : Sl} {c1 : Int} {b2 : Int} {w : World} (h : logs_Say.main R l0 c1 b2 w) : CallsV Try.prog n_logs_Say #[.slice l0.a l0.len l0.cap, .int .i64 c1, .int .i64 b2] w R :=
  liftCalls (c := (.seq (.leaf (cL (bd Try.f8))) (.seq (.seq (.leaf (cL (cL (cR (bd Try.f8))))) (.cnd (.tmp 22) (.seq (.leaf (cL (cT (cR (cL (cR (bd Try.f8))))))) (.leaf (cR (cT (cR (cL (cR (bd Try.f8)))))))) (.leaf (cE (cR (cL (cR (bd Try.f8)))))))) (.cut 1 (.seq (.leaf (cL (cR (cR (bd Try.f8))))) (.seq (.seq (.leaf (cL (cL (cR (cR (cR (bd Try.f8))))))) (.cnd (.tmp 35) (.seq (.leaf (cL (cT (cR (cL (cR (cR (cR (bd Try.f8))))))))) (.leaf (cR (cT (cR (cL (cR (cR (cR (bd Try.f8)))))))))) (.leaf (cE (cR (cL (cR (cR (cR (bd Try.f8)))))))))) (.seq (.leaf (cL (cR (cR (cR (cR (bd Try.f8))))))) (.seq (.leaf (cL (cR (cR (cR (cR (cR (bd Try.f8)))))))) (.leaf (cR (cR (cR (cR (cR (cR (bd Try.f8)))))))))))))))) (J := logs_Say.J0 R) LfYtcegohgmagppbaa.mixed Try.func8 (by kernel_rfl) (by kernel_rfl) (mkSeq (mkSeq (mkCut (cutDef [(0, .slice), (1, (.int .i64)), (2, (.int .i64))] (fun x w => logs_Say.c1 R x.1 x.2.1 x.2.2 w) (fun _ _ => by kernel_rfl) (fun _ _ => by kernel_rfl)) (mkSeq (mkSeq (mkSeq (mkSeq mkLeaf mkLeaf) mkLeaf) (mkSeq (mkCnd (mkSeq mkLeaf mkLeaf) mkLeaf) mkLeaf)) mkLeaf)) (mkSeq (mkCnd (mkSeq mkLeaf mkLeaf) mkLeaf) mkLeaf)) mkLeaf) (kcast (by kernel_rfl) h)

/-! logs_Put -/
def logs_Put.c1 (R : Value → World → Prop) (l0 : Sl) (m3 : Addr) (w : World) : Prop :=
  ∃ x_1 : Int, w.cell? m3 = some (.int .i64 x_1) ∧
  CallsV Try.prog n_logs_of #[.slice l0.a l0.len l0.cap, .int .i64 x_1] w (fun v_2 w1 =>
  ∃ (a_3 : Option Addr) (l_4 c_5 : Nat), ∃ x_6 : Int, v_2 = .tuple #[.slice a_3 l_4 c_5, .int .i64 x_6] ∧
  0 ≤ (x_6 : Int) ∧ x_6 < ((l_4 : Nat) : Int) ∧ ∃ q_7 : Addr, a_3 = some q_7 ∧
  ∃ x_8 : Int, w1.cell? (q_7.add ((x_6 : Int).toNat * 3)) = some (.int .i64 x_8) ∧
  ∃ x_9 : Int, w1.cell? ((q_7.add ((x_6 : Int).toNat * 3)).add 1) = some (.int .i64 x_9) ∧
  ∃ (a_10 : Option Addr) (l_11 c_12 : Nat), w1.cell? ((q_7.add ((x_6 : Int).toNat * 3)).add 2) = some (.slice a_10 l_11 c_12) ∧
  CallsV Try.prog n_logs_has #[.agg #[.int .i64 x_8, .int .i64 x_9, .slice a_10 l_11 c_12]] w1 (fun v_13 w2 =>
  ∃ x_14 : Int, v_13 = .int .i64 x_14 ∧
  ∃ x_15 : Int, w2.cell? (m3.add 1) = some (.int .i64 x_15) ∧
  (let t41_15 : Bool := (decide ((x_15 : Int) ≤ x_14));
  cond t41_15
  (CallsV Try.prog n_logs_twin #[.slice l0.a l0.len l0.cap] w2 (fun v_17 w3 =>
  ∃ (a_18 : Option Addr) (l_19 c_20 : Nat), v_17 = .slice a_18 l_19 c_20 ∧
  R (.tuple #[.slice a_18 l_19 c_20, .bool false, .int .i64 0]) w3))
  (∃ x_21 : Int, w2.cell? (m3.add 1) = some (.int .i64 x_21) ∧
  (let t48_21 : Bool := (decide ((x_21 : Int) > (IntKind.i64.wrap (x_14 + 1))));
  cond t48_21
  (R (.tuple #[.slice none 0 0, .bool false, .int .i64 14]) w2)
  (0 ≤ (x_6 : Int) ∧ x_6 < ((l_4 : Nat) : Int) ∧ ∃ q_23 : Addr, a_3 = some q_23 ∧
  ∃ (a_24 : Option Addr) (l_25 c_26 : Nat), w2.cell? ((q_23.add ((x_6 : Int).toNat * 3)).add 2) = some (.slice a_24 l_25 c_26) ∧
  (let t54_26 : Bool := (decide ((((l_25 : Nat) : Int) : Int) ≥ 32));
  cond t54_26
  (R (.tuple #[.slice none 0 0, .bool false, .int .i64 20]) w2)
  (∃ S_28 : World → Prop, S_28 w2.drew ∧
  0 ≤ (x_6 : Int) ∧ x_6 < ((l_4 : Nat) : Int) ∧ ∃ q_29 : Addr, a_3 = some q_29 ∧
  ∃ (a_30 : Option Addr) (l_31 c_32 : Nat), (∀ x, S_28 x → x.cell? ((q_29.add ((x_6 : Int).toNat * 3)).add 2) = some (.slice a_30 l_31 c_32)) ∧
  ∃ x_33 : Int, (∀ x, S_28 x → x.cell? (m3.add 2) = some (.int .i64 x_33)) ∧
  let w4 := w2.drew.alloc (.cells #[.int .i64 x_33] 3);
  S_28 w4 ∧
  ∃ (a_34 : Option Addr) (l_35 c_36 : Nat), ∃ w5 : World, (builtin .append #[23, 23] 23 #[] #[.slice a_30 l_31 c_32, .slice (some (newA w2.drew)) 1 1]).run Try.prog w4 = .ok (.value (.slice a_34 l_35 c_36)) w5 ∧
  0 ≤ (x_6 : Int) ∧ x_6 < ((l_4 : Nat) : Int) ∧ ∃ q_37 : Addr, a_3 = some q_37 ∧
  Wr w5 ((q_37.add ((x_6 : Int).toNat * 3)).add 2) ∧
  (let w6 := w5.setCell ((q_37.add ((x_6 : Int).toNat * 3)).add 2) (.slice a_34 l_35 c_36);
  CallsV Try.prog n_slices_Clone_Log #[.slice a_3 l_4 c_5] w6 (fun v_38 w7 =>
  ∃ (a_39 : Option Addr) (l_40 c_41 : Nat), v_38 = .slice a_39 l_40 c_41 ∧
  R (.tuple #[.slice a_39 l_40 c_41, .bool true, .int .i64 0]) w7))))))))))

def logs_Put.main (R : Value → World → Prop) (l0 : Sl) (m1_0 : Int) (m1_1 : Int) (m1_2 : Int) (w : World) : Prop :=
  let w8 := w.alloc (.cells #[.int .i64 m1_0, .int .i64 m1_1, .int .i64 m1_2] 32);
  CallsV Try.prog n_logs_Check #[.slice l0.a l0.len l0.cap] w8 (fun v_42 w9 =>
  ∃ x_43 : Int, v_42 = .int .i64 x_43 ∧
  cond ((x_43 : Int) != 0)
  (R (.tuple #[.slice none 0 0, .bool false, .int .i64 1]) w9)
  (∃ x_44 : Int, w9.cell? (newA w) = some (.int .i64 x_44) ∧
  CallsV Try.prog n_logs_client #[.int .i64 x_44] w9 (fun v_45 w10 =>
  ∃ b_46 : Bool, v_45 = .bool b_46 ∧
  cond (!b_46)
  (R (.tuple #[.slice none 0 0, .bool false, .int .i64 1]) w10)
  (∃ x_47 : Int, w10.cell? ((newA w).add 2) = some (.int .i64 x_47) ∧
  CallsV Try.prog n_logs_body #[.int .i64 x_47] w10 (fun v_48 w11 =>
  ∃ b_49 : Bool, v_48 = .bool b_49 ∧
  cond (!b_49)
  (R (.tuple #[.slice none 0 0, .bool false, .int .i64 1]) w11)
  (∃ x_50 : Int, w11.cell? ((newA w).add 1) = some (.int .i64 x_50) ∧
  cond (decide ((x_50 : Int) < 1))
  (R (.tuple #[.slice none 0 0, .bool false, .int .i64 1]) w11)
  (logs_Put.c1 R l0 (newA w) w11)))))))

def logs_Put.J0 (R : Value → World → Prop) (k : Nat) (fr : Fr) (w : World) : Prop :=
  cond (Nat.beq k 1) (dec [(0, .slice), (3, .addr)] fr fun x => logs_Put.c1 R x.1 x.2 w) (False)

set_option maxRecDepth 100000 in
theorem logs_Put.lift {R : Value → World → Prop} {l0 : Sl} {m1_0 : Int} {m1_1 : Int} {m1_2 : Int} {w : World} (h : logs_Put.main R l0 m1_0 m1_1 m1_2 w) : CallsV Try.prog n_logs_Put #[.slice l0.a l0.len l0.cap, .agg #[.int .i64 m1_0, .int .i64 m1_1, .int .i64 m1_2]] w R :=
  liftCalls (c := (.seq (.leaf (cL (bd Try.f9))) (.seq (.seq (.leaf (cL (cL (cR (bd Try.f9))))) (.cnd (.tmp 28) (.seq (.leaf (cL (cT (cR (cL (cR (bd Try.f9))))))) (.leaf (cR (cT (cR (cL (cR (bd Try.f9)))))))) (.leaf (cE (cR (cL (cR (bd Try.f9)))))))) (.cut 1 (.seq (.leaf (cL (cR (cR (bd Try.f9))))) (.seq (.leaf (cL (cR (cR (cR (bd Try.f9)))))) (.seq (.block 0 (.seq (.leaf (cL (cB (cL (cR (cR (cR (cR (bd Try.f9))))))))) (.cnd (.tmp 41) (.seq (.leaf (cL (cT (cR (cB (cL (cR (cR (cR (cR (bd Try.f9))))))))))) (.leaf (cR (cT (cR (cB (cL (cR (cR (cR (cR (bd Try.f9)))))))))))) (.seq (.leaf (cL (cE (cR (cB (cL (cR (cR (cR (cR (bd Try.f9))))))))))) (.cnd (.tmp 48) (.seq (.leaf (cL (cT (cR (cE (cR (cB (cL (cR (cR (cR (cR (bd Try.f9))))))))))))) (.leaf (cR (cT (cR (cE (cR (cB (cL (cR (cR (cR (cR (bd Try.f9)))))))))))))) (.seq (.leaf (cL (cE (cR (cE (cR (cB (cL (cR (cR (cR (cR (bd Try.f9))))))))))))) (.cnd (.tmp 54) (.seq (.leaf (cL (cT (cR (cE (cR (cE (cR (cB (cL (cR (cR (cR (cR (bd Try.f9))))))))))))))) (.leaf (cR (cT (cR (cE (cR (cE (cR (cB (cL (cR (cR (cR (cR (bd Try.f9)))))))))))))))) (.leaf (cE (cR (cE (cR (cE (cR (cB (cL (cR (cR (cR (cR (bd Try.f9))))))))))))))))))))) (.seq (.leaf (cL (cR (cR (cR (cR (cR (bd Try.f9)))))))) (.seq (.leaf (cL (cR (cR (cR (cR (cR (cR (bd Try.f9))))))))) (.leaf (cR (cR (cR (cR (cR (cR (cR (bd Try.f9)))))))))))))))))) (J := logs_Put.J0 R) LfYtcegohgmagppbaa.mixed Try.func9 (by kernel_rfl) (by kernel_rfl) (mkSeq (mkSeq (mkCut (cutDef [(0, .slice), (3, .addr)] (fun x w => logs_Put.c1 R x.1 x.2 w) (fun _ _ => by kernel_rfl) (fun _ _ => by kernel_rfl)) (mkSeq (mkSeq (mkSeq (mkSeq (mkSeq mkLeaf mkLeaf) mkLeaf) (mkBlock (mkSeq (mkCnd (mkSeq mkLeaf mkLeaf) (mkSeq (mkCnd (mkSeq mkLeaf mkLeaf) (mkSeq (mkCnd (mkSeq mkLeaf mkLeaf) mkLeaf) mkLeaf)) mkLeaf)) mkLeaf))) mkLeaf) mkLeaf)) (mkSeq (mkCnd (mkSeq mkLeaf mkLeaf) mkLeaf) mkLeaf)) mkLeaf) (kcast (by kernel_rfl) h)

/-! logs_Want -/
def logs_Want.c1 (R : Value → World → Prop) (t4 : Addr) (w : World) : Prop :=
  (∀ j, j < 3 → Wr w (t4.add j)) ∧
  (let w1 := setCells t4 [.int .i64 0, .int .i64 0, .int .i64 0] 0 w;
  ∃ x_1 : Int, w1.cell? t4 = some (.int .i64 x_1) ∧
  ∃ x_2 : Int, w1.cell? (t4.add 1) = some (.int .i64 x_2) ∧
  ∃ x_3 : Int, w1.cell? (t4.add 2) = some (.int .i64 x_3) ∧
  R (.tuple #[.agg #[.int .i64 x_1, .int .i64 x_2, .int .i64 x_3], .bool false]) w1)

def logs_Want.c3 (R : Value → World → Prop) (N2 : Sl → Addr → Sl → Int → Int → World → Prop) (t4 : Addr) (g7 : Addr) (h8 : Int) (w : World) : Prop :=
  ∃ S_4 : World → Prop, S_4 w.drew ∧
  ∃ x_5 : Int, (∀ x, S_4 x → x.cell? g7 = some (.int .i64 x_5)) ∧
  ∃ (a_6 : Option Addr) (l_7 c_8 : Nat), (∀ x, S_4 x → x.cell? (g7.add 2) = some (.slice a_6 l_7 c_8)) ∧
  ∃ x_9 : Int, (∀ x, S_4 x → x.cell? (g7.add 1) = some (.int .i64 x_9)) ∧
  0 ≤ ((IntKind.i64.wrap (h8 - x_9)) : Int) ∧ (IntKind.i64.wrap (h8 - x_9)) < ((l_7 : Nat) : Int) ∧ ∃ q_10 : Addr, a_6 = some q_10 ∧
  ∃ x_11 : Int, (∀ x, S_4 x → x.cell? (q_10.add (ixOff ((IntKind.i64.wrap (h8 - x_9)) : Int).toNat 1)) = some (.int .i64 x_11)) ∧
  (∀ j, j < 3 → Wr w.drew (t4.add j)) ∧
  (let w2 := setCells t4 [.int .i64 x_5, .int .i64 (IntKind.i64.wrap (h8 + 1)), .int .i64 x_11] 0 w.drew;
  ∃ x_12 : Int, w2.cell? t4 = some (.int .i64 x_12) ∧
  ∃ x_13 : Int, w2.cell? (t4.add 1) = some (.int .i64 x_13) ∧
  ∃ x_14 : Int, w2.cell? (t4.add 2) = some (.int .i64 x_14) ∧
  R (.tuple #[.agg #[.int .i64 x_12, .int .i64 x_13, .int .i64 x_14], .bool true]) w2)

def logs_Want.b2 (R : Value → World → Prop) (N2 : Sl → Addr → Sl → Int → Int → World → Prop) (have1 : Sl) (t4 : Addr) (t18 : Sl) (t19 : Int) (t20 : Int) (w : World) : Prop :=
  cond (decide ((t20 : Int) < t19))
  (0 ≤ (t20 : Int) ∧ t20 < ((t18.len : Nat) : Int) ∧ ∃ q_15 : Addr, t18.a = some q_15 ∧
  ∃ x_16 : Int, w.cell? (q_15.add ((t20 : Int).toNat * 3)) = some (.int .i64 x_16) ∧
  ∃ x_17 : Int, w.cell? ((q_15.add ((t20 : Int).toNat * 3)).add 1) = some (.int .i64 x_17) ∧
  ∃ (a_18 : Option Addr) (l_19 c_20 : Nat), w.cell? ((q_15.add ((t20 : Int).toNat * 3)).add 2) = some (.slice a_18 l_19 c_20) ∧
  let w3 := w.alloc (.cells #[.int .i64 0, .int .i64 0, .slice none 0 0] 45);
  (∀ j, j < 3 → Wr w3 ((newA w).add j)) ∧
  (let w4 := setCells (newA w) [.int .i64 x_16, .int .i64 x_17, .slice a_18 l_19 c_20] 0 w3;
  ∃ x_21 : Int, w4.cell? (newA w) = some (.int .i64 x_21) ∧
  0 ≤ (x_21 : Int) ∧ x_21 < ((have1.len : Nat) : Int) ∧ ∃ q_22 : Addr, have1.a = some q_22 ∧
  ∃ x_23 : Int, w4.cell? (q_22.add (x_21 : Int).toNat) = some (.int .i64 x_23) ∧
  cond (decide ((x_23 : Int) ≥ 0))
  (∃ x_24 : Int, w4.cell? (newA w) = some (.int .i64 x_24) ∧
  ∃ x_25 : Int, w4.cell? ((newA w).add 1) = some (.int .i64 x_25) ∧
  ∃ (a_26 : Option Addr) (l_27 c_28 : Nat), w4.cell? ((newA w).add 2) = some (.slice a_26 l_27 c_28) ∧
  CallsV Try.prog n_logs_has #[.agg #[.int .i64 x_24, .int .i64 x_25, .slice a_26 l_27 c_28]] w4 (fun v_29 w5 =>
  ∃ x_30 : Int, v_29 = .int .i64 x_30 ∧
  cond (decide ((x_23 : Int) < x_30))
  (∃ x_31 : Int, w5.cell? ((newA w).add 1) = some (.int .i64 x_31) ∧
  cond (decide ((x_31 : Int) ≤ x_23))
  (logs_Want.c3 R N2 t4 (newA w) x_23 w5)
  (N2 have1 t4 t18 t19 (IntKind.i64.wrap (t20 + 1)) w5))
  (N2 have1 t4 t18 t19 (IntKind.i64.wrap (t20 + 1)) w5)))
  (N2 have1 t4 t18 t19 (IntKind.i64.wrap (t20 + 1)) w4)))
  (logs_Want.c1 R t4 w)

def logs_Want.l2 (R : Value → World → Prop) (have1 : Sl) (t4 : Addr) (t18 : Sl) (t19 : Int) (t20 : Int) (w : World) : Prop :=
  ∃ (I : Int → World → Prop) (μ : Int → World → Nat), I t20 w ∧ ∀ s w, I s w → logs_Want.b2 R (fun have1' t4' t18' t19' t20' w' => (have1' = have1 ∧ t4' = t4 ∧ t18' = t18 ∧ t19' = t19 ∧ I t20' w') ∧ μ t20' w' < μ s w) have1 t4 t18 t19 s w

def logs_Want.c4 (R : Value → World → Prop) (l0 : Sl) (have1 : Sl) (t4 : Addr) (w : World) : Prop :=
  logs_Want.l2 R have1 t4 l0 ((l0.len : Nat) : Int) 0 w

def logs_Want.c5 (R : Value → World → Prop) (t4 : Addr) (w : World) : Prop :=
  (∀ j, j < 3 → Wr w (t4.add j)) ∧
  (let w6 := setCells t4 [.int .i64 0, .int .i64 0, .int .i64 0] 0 w;
  ∃ x_32 : Int, w6.cell? t4 = some (.int .i64 x_32) ∧
  ∃ x_33 : Int, w6.cell? (t4.add 1) = some (.int .i64 x_33) ∧
  ∃ x_34 : Int, w6.cell? (t4.add 2) = some (.int .i64 x_34) ∧
  R (.tuple #[.agg #[.int .i64 x_32, .int .i64 x_33, .int .i64 x_34], .bool false]) w6)

def logs_Want.main (R : Value → World → Prop) (l0 : Sl) (have1 : Sl) (w : World) : Prop :=
  let w7 := w.alloc (.cells #[.int .i64 0, .int .i64 0, .int .i64 0] 32);
  CallsV Try.prog n_logs_Check #[.slice l0.a l0.len l0.cap] w7 (fun v_35 w8 =>
  ∃ x_36 : Int, v_35 = .int .i64 x_36 ∧
  cond ((x_36 : Int) != 0)
  (logs_Want.c5 R (newA w) w8)
  (cond ((((have1.len : Nat) : Int) : Int) != 8)
  (logs_Want.c5 R (newA w) w8)
  (logs_Want.c4 R l0 have1 (newA w) w8)))

def logs_Want.J2 (R : Value → World → Prop) (N2 : Sl → Addr → Sl → Int → Int → World → Prop) (k : Nat) (fr : Fr) (w : World) : Prop :=
  cond (Nat.beq k 3) (dec [(4, .addr), (7, .addr), (8, (.int .i64))] fr fun x => logs_Want.c3 R N2 x.1 x.2.1 x.2.2 w) (False)

def logs_Want.J0 (R : Value → World → Prop) (k : Nat) (fr : Fr) (w : World) : Prop :=
  cond (Nat.beq k 5) (dec [(4, .addr)] fr fun x => logs_Want.c5 R x w) (cond (Nat.beq k 4) (dec [(0, .slice), (1, .slice), (4, .addr)] fr fun x => logs_Want.c4 R x.1 x.2.1 x.2.2 w) (cond (Nat.beq k 2) (dec [(1, .slice), (4, .addr), (18, .slice), (19, (.int .i64)), (20, (.int .i64))] fr fun x => logs_Want.l2 R x.1 x.2.1 x.2.2.1 x.2.2.2.1 x.2.2.2.2 w) (cond (Nat.beq k 1) (dec [(4, .addr)] fr fun x => logs_Want.c1 R x w) (False))))

set_option maxRecDepth 100000 in
theorem logs_Want.lift {R : Value → World → Prop} {l0 : Sl} {have1 : Sl} {w : World} (h : logs_Want.main R l0 have1 w) : CallsV Try.prog n_logs_Want #[.slice l0.a l0.len l0.cap, .slice have1.a have1.len have1.cap] w R :=
  liftCalls (c := (.seq (.leaf (cL (bd Try.f10))) (.seq (.seq (.leaf (cL (cL (cR (bd Try.f10))))) (.cnd (.tmp 16) (.cut 5 (.seq (.leaf (cL (cT (cR (cL (cR (bd Try.f10))))))) (.leaf (cR (cT (cR (cL (cR (bd Try.f10))))))))) (.leaf (cE (cR (cL (cR (bd Try.f10)))))))) (.cut 4 (.seq (.seq (.leaf (cL (cL (cR (cR (bd Try.f10)))))) (.block 0 (.loop 2 (.seq (.leaf (cL (cB (cB (cR (cL (cR (cR (bd Try.f10))))))))) (.seq (.cnd (.tmp 21) (.leaf (cT (cL (cR (cB (cB (cR (cL (cR (cR (bd Try.f10))))))))))) (.leaf (cE (cL (cR (cB (cB (cR (cL (cR (cR (bd Try.f10)))))))))))) (.seq (.block 1 (.seq (.leaf (cL (cB (cL (cR (cR (cB (cB (cR (cL (cR (cR (bd Try.f10))))))))))))) (.seq (.leaf (cL (cR (cB (cL (cR (cR (cB (cB (cR (cL (cR (cR (bd Try.f10)))))))))))))) (.seq (.leaf (cL (cR (cR (cB (cL (cR (cR (cB (cB (cR (cL (cR (cR (bd Try.f10))))))))))))))) (.cnd (.tmp 42) (.cut 3 (.seq (.leaf (cL (cT (cR (cR (cR (cB (cL (cR (cR (cB (cB (cR (cL (cR (cR (bd Try.f10))))))))))))))))) (.leaf (cR (cT (cR (cR (cR (cB (cL (cR (cR (cB (cB (cR (cL (cR (cR (bd Try.f10))))))))))))))))))) (.leaf (cE (cR (cR (cR (cB (cL (cR (cR (cB (cB (cR (cL (cR (cR (bd Try.f10))))))))))))))))))))) (.leaf (cR (cR (cR (cB (cB (cR (cL (cR (cR (bd Try.f10))))))))))))))))) (.cut 1 (.seq (.leaf (cL (cR (cR (cR (bd Try.f10)))))) (.leaf (cR (cR (cR (cR (bd Try.f10))))))))))))) (J := logs_Want.J0 R) LfYtcegohgmagppbaa.mixed Try.func10 (by kernel_rfl) (by kernel_rfl) (mkSeq (mkSeq (mkCut (cutDef [(0, .slice), (1, .slice), (4, .addr)] (fun x w => logs_Want.c4 R x.1 x.2.1 x.2.2 w) (fun _ _ => by kernel_rfl) (fun _ _ => by kernel_rfl)) (mkSeq (mkCut (cutDef [(4, .addr)] (fun x w => logs_Want.c1 R x w) (fun _ _ => by kernel_rfl) (fun _ _ => by kernel_rfl)) (mkSeq mkLeaf mkLeaf)) (mkSeq (mkBlock (mkLoop (loopDef LfYtcegohgmagppbaa.mixed [(1, .slice), (4, .addr), (18, .slice), (19, (.int .i64)), (20, (.int .i64))] (by kernel_rfl) (fun M2 x w => logs_Want.b2 R (fun y0 y1 y2 y3 y4 w => M2 (y0, y1, y2, y3, y4) w) x.1 x.2.1 x.2.2.1 x.2.2.2.1 x.2.2.2.2 w) (fun M2 => logs_Want.J2 R (fun y0 y1 y2 y3 y4 w => M2 (y0, y1, y2, y3, y4) w)) (fun _ _ _ => by kernel_rfl) (fun M2 => (mkSeq (mkSeq (mkSeq mkLeaf (mkBlock (mkSeq (mkSeq (mkSeq (mkCnd (mkCut (cutDef [(4, .addr), (7, .addr), (8, (.int .i64))] (fun x w => logs_Want.c3 R (fun y0 y1 y2 y3 y4 w => M2 (y0, y1, y2, y3, y4) w) x.1 x.2.1 x.2.2 w) (fun _ _ => by kernel_rfl) (fun _ _ => by kernel_rfl)) (mkSeq mkLeaf mkLeaf)) mkLeaf) mkLeaf) mkLeaf) mkLeaf))) (mkCnd mkLeaf mkLeaf)) mkLeaf)) (fun x w => logs_Want.l2 R x.1 x.2.1 x.2.2.1 x.2.2.2.1 x.2.2.2.2 w) (by rintro ⟨c0, c1, c2, c3, s0⟩ w ⟨I, μ, h0, h1⟩; refine ⟨fun y w => y.1 = c0 ∧ y.2.1 = c1 ∧ y.2.2.1 = c2 ∧ y.2.2.2.1 = c3 ∧ I y.2.2.2.2 w, fun y w => μ y.2.2.2.2 w, ⟨rfl, rfl, rfl, rfl, h0⟩, ?_⟩; rintro ⟨d0, d1, d2, d3, t0⟩ w ⟨e0, e1, e2, e3, hI⟩; dsimp only at e0 e1 e2 e3 hI; subst e0; subst e1; subst e2; subst e3; exact h1 _ _ hI) (fun _ _ => by kernel_rfl)))) mkLeaf))) (mkSeq (mkCnd (mkCut (cutDef [(4, .addr)] (fun x w => logs_Want.c5 R x w) (fun _ _ => by kernel_rfl) (fun _ _ => by kernel_rfl)) (mkSeq mkLeaf mkLeaf)) mkLeaf) mkLeaf)) mkLeaf) (kcast (by kernel_rfl) h)

/-! logs_Have -/
def logs_Have.b1 (R : Value → World → Prop) (N1 : Sl → Sl → Int → Int → World → Prop) (out3 : Sl) (t11 : Sl) (t12 : Int) (t13 : Int) (w : World) : Prop :=
  cond (decide ((t13 : Int) < t12))
  (0 ≤ (t13 : Int) ∧ t13 < ((t11.len : Nat) : Int) ∧ ∃ q_1 : Addr, t11.a = some q_1 ∧
  ∃ x_2 : Int, w.cell? (q_1.add ((t13 : Int).toNat * 3)) = some (.int .i64 x_2) ∧
  ∃ x_3 : Int, w.cell? ((q_1.add ((t13 : Int).toNat * 3)).add 1) = some (.int .i64 x_3) ∧
  ∃ (a_4 : Option Addr) (l_5 c_6 : Nat), w.cell? ((q_1.add ((t13 : Int).toNat * 3)).add 2) = some (.slice a_4 l_5 c_6) ∧
  let w1 := w.alloc (.cells #[.int .i64 0, .int .i64 0, .slice none 0 0] 45);
  (∀ j, j < 3 → Wr w1 ((newA w).add j)) ∧
  (let w2 := setCells (newA w) [.int .i64 x_2, .int .i64 x_3, .slice a_4 l_5 c_6] 0 w1;
  ∃ S_7 : World → Prop, S_7 w2.drew ∧
  ∃ x_8 : Int, (∀ x, S_7 x → x.cell? (newA w) = some (.int .i64 x_8)) ∧
  ∃ x_9 : Int, (∀ x, S_7 x → x.cell? (newA w) = some (.int .i64 x_9)) ∧
  ∃ x_10 : Int, (∀ x, S_7 x → x.cell? ((newA w).add 1) = some (.int .i64 x_10)) ∧
  ∃ (a_11 : Option Addr) (l_12 c_13 : Nat), (∀ x, S_7 x → x.cell? ((newA w).add 2) = some (.slice a_11 l_12 c_13)) ∧
  CallsV Try.prog n_logs_has #[.agg #[.int .i64 x_9, .int .i64 x_10, .slice a_11 l_12 c_13]] w2.drew (fun v_14 w3 =>
  ∃ x_15 : Int, v_14 = .int .i64 x_15 ∧
  S_7 w3 ∧
  0 ≤ (x_8 : Int) ∧ x_8 < ((out3.len : Nat) : Int) ∧ ∃ q_16 : Addr, out3.a = some q_16 ∧
  Wr w3 (q_16.add (x_8 : Int).toNat) ∧
  (let w4 := w3.setCell (q_16.add (x_8 : Int).toNat) (.int .i64 x_15);
  N1 out3 t11 t12 (IntKind.i64.wrap (t13 + 1)) w4))))
  (R (.slice out3.a out3.len out3.cap) w)

def logs_Have.l1 (R : Value → World → Prop) (out3 : Sl) (t11 : Sl) (t12 : Int) (t13 : Int) (w : World) : Prop :=
  ∃ (I : Int → World → Prop) (μ : Int → World → Nat), I t13 w ∧ ∀ s w, I s w → logs_Have.b1 R (fun out3' t11' t12' t13' w' => (out3' = out3 ∧ t11' = t11 ∧ t12' = t12 ∧ I t13' w') ∧ μ t13' w' < μ s w) out3 t11 t12 s w

def logs_Have.main (R : Value → World → Prop) (l0 : Sl) (w : World) : Prop :=
  0 ≤ (8 : Int) ∧ (8 : Int) ≤ 8 ∧ (8 : Int) * 8 ≤ 281474976710656 ∧ (8 : Int) ≤ 9223372036854775807 ∧
  (let w5 := w.alloc (.cells ((Array.range ((8 : Int).toNat * 1)).map ((#[.int .i64 0] : Array Value)[· % (#[.int .i64 0] : Array Value).size]!)) 3);
  CallsV Try.prog n_logs_Check #[.slice l0.a l0.len l0.cap] w5 (fun v_17 w6 =>
  ∃ x_18 : Int, v_17 = .int .i64 x_18 ∧
  cond ((x_18 : Int) != 0)
  (R (.slice (some (newA w)) ((8 : Int).toNat) ((8 : Int).toNat)) w6)
  (logs_Have.l1 R ⟨(some (newA w)), (8 : Int).toNat, (8 : Int).toNat⟩ l0 ((l0.len : Nat) : Int) 0 w6)))

def logs_Have.J0 (R : Value → World → Prop) (k : Nat) (fr : Fr) (w : World) : Prop :=
  cond (Nat.beq k 1) (dec [(3, .slice), (11, .slice), (12, (.int .i64)), (13, (.int .i64))] fr fun x => logs_Have.l1 R x.1 x.2.1 x.2.2.1 x.2.2.2 w) (False)

set_option maxRecDepth 100000 in
theorem logs_Have.lift {R : Value → World → Prop} {l0 : Sl} {w : World} (h : logs_Have.main R l0 w) : CallsV Try.prog n_logs_Have #[.slice l0.a l0.len l0.cap] w R :=
  liftCalls (c := (.seq (.leaf (cL (bd Try.f11))) (.seq (.leaf (cL (cR (bd Try.f11)))) (.seq (.seq (.leaf (cL (cL (cR (cR (bd Try.f11)))))) (.cnd (.tmp 9) (.seq (.leaf (cL (cT (cR (cL (cR (cR (bd Try.f11)))))))) (.leaf (cR (cT (cR (cL (cR (cR (bd Try.f11))))))))) (.leaf (cE (cR (cL (cR (cR (bd Try.f11))))))))) (.seq (.seq (.leaf (cL (cL (cR (cR (cR (bd Try.f11))))))) (.block 0 (.loop 1 (.seq (.leaf (cL (cB (cB (cR (cL (cR (cR (cR (bd Try.f11)))))))))) (.seq (.cnd (.tmp 14) (.leaf (cT (cL (cR (cB (cB (cR (cL (cR (cR (cR (bd Try.f11)))))))))))) (.leaf (cE (cL (cR (cB (cB (cR (cL (cR (cR (cR (bd Try.f11))))))))))))) (.seq (.block 1 (.seq (.leaf (cL (cB (cL (cR (cR (cB (cB (cR (cL (cR (cR (cR (bd Try.f11)))))))))))))) (.leaf (cR (cB (cL (cR (cR (cB (cB (cR (cL (cR (cR (cR (bd Try.f11)))))))))))))))) (.leaf (cR (cR (cR (cB (cB (cR (cL (cR (cR (cR (bd Try.f11)))))))))))))))))) (.seq (.leaf (cL (cR (cR (cR (cR (bd Try.f11))))))) (.leaf (cR (cR (cR (cR (cR (bd Try.f11))))))))))))) (J := logs_Have.J0 R) LfYtcegohgmagppbaa.mixed Try.func11 (by kernel_rfl) (by kernel_rfl) (mkSeq (mkSeq (mkSeq (mkSeq (mkSeq mkLeaf mkLeaf) (mkSeq (mkBlock (mkLoop (loopDef LfYtcegohgmagppbaa.mixed [(3, .slice), (11, .slice), (12, (.int .i64)), (13, (.int .i64))] (by kernel_rfl) (fun M1 x w => logs_Have.b1 R (fun y0 y1 y2 y3 w => M1 (y0, y1, y2, y3) w) x.1 x.2.1 x.2.2.1 x.2.2.2 w) (fun M1 => fun _ _ _ => False) (fun _ _ _ => by kernel_rfl) (fun M1 => (mkSeq (mkSeq (mkSeq mkLeaf (mkBlock (mkSeq mkLeaf mkLeaf))) (mkCnd mkLeaf mkLeaf)) mkLeaf)) (fun x w => logs_Have.l1 R x.1 x.2.1 x.2.2.1 x.2.2.2 w) (by rintro ⟨c0, c1, c2, s0⟩ w ⟨I, μ, h0, h1⟩; refine ⟨fun y w => y.1 = c0 ∧ y.2.1 = c1 ∧ y.2.2.1 = c2 ∧ I y.2.2.2 w, fun y w => μ y.2.2.2 w, ⟨rfl, rfl, rfl, h0⟩, ?_⟩; rintro ⟨d0, d1, d2, t0⟩ w ⟨e0, e1, e2, hI⟩; dsimp only at e0 e1 e2 hI; subst e0; subst e1; subst e2; exact h1 _ _ hI) (fun _ _ => by kernel_rfl)))) mkLeaf)) (mkSeq (mkCnd (mkSeq mkLeaf mkLeaf) mkLeaf) mkLeaf)) mkLeaf) mkLeaf) (kcast (by kernel_rfl) h)

/-! trystkeep_Logs -/
def trystkeep_Logs.b1 (R : Value → World → Prop) (N1 : Sl → Sl → Int → World → Prop) (a0 : Sl) (b1 : Sl) (i5 : Int) (w : World) : Prop :=
  cond (decide ((i5 : Int) < ((a0.len : Nat) : Int)))
  (∃ S_1 : World → Prop, S_1 w.drew ∧
  0 ≤ (i5 : Int) ∧ i5 < ((a0.len : Nat) : Int) ∧ ∃ q_2 : Addr, a0.a = some q_2 ∧
  ∃ x_3 : Int, (∀ x, S_1 x → x.cell? (q_2.add ((i5 : Int).toNat * 3)) = some (.int .i64 x_3)) ∧
  0 ≤ (i5 : Int) ∧ i5 < ((b1.len : Nat) : Int) ∧ ∃ q_4 : Addr, b1.a = some q_4 ∧
  ∃ x_5 : Int, (∀ x, S_1 x → x.cell? (q_4.add ((i5 : Int).toNat * 3)) = some (.int .i64 x_5)) ∧
  cond ((x_3 : Int) != x_5)
  (R (.bool false) w.drew)
  (0 ≤ (i5 : Int) ∧ i5 < ((a0.len : Nat) : Int) ∧ ∃ q_6 : Addr, a0.a = some q_6 ∧
  ∃ x_7 : Int, (∀ x, S_1 x → x.cell? ((q_6.add ((i5 : Int).toNat * 3)).add 1) = some (.int .i64 x_7)) ∧
  0 ≤ (i5 : Int) ∧ i5 < ((b1.len : Nat) : Int) ∧ ∃ q_8 : Addr, b1.a = some q_8 ∧
  ∃ x_9 : Int, (∀ x, S_1 x → x.cell? ((q_8.add ((i5 : Int).toNat * 3)).add 1) = some (.int .i64 x_9)) ∧
  cond ((x_7 : Int) != x_9)
  (R (.bool false) w.drew)
  (0 ≤ (i5 : Int) ∧ i5 < ((a0.len : Nat) : Int) ∧ ∃ q_10 : Addr, a0.a = some q_10 ∧
  ∃ (a_11 : Option Addr) (l_12 c_13 : Nat), (∀ x, S_1 x → x.cell? ((q_10.add ((i5 : Int).toNat * 3)).add 2) = some (.slice a_11 l_12 c_13)) ∧
  0 ≤ (i5 : Int) ∧ i5 < ((b1.len : Nat) : Int) ∧ ∃ q_14 : Addr, b1.a = some q_14 ∧
  ∃ (a_15 : Option Addr) (l_16 c_17 : Nat), (∀ x, S_1 x → x.cell? ((q_14.add ((i5 : Int).toNat * 3)).add 2) = some (.slice a_15 l_16 c_17)) ∧
  CallsV Try.prog n_trystkeep_Ints #[.slice a_11 l_12 c_13, .slice a_15 l_16 c_17] w.drew (fun v_18 w1 =>
  ∃ b_19 : Bool, v_18 = .bool b_19 ∧
  cond (!b_19)
  (R (.bool false) w1)
  ((let i5_19 : Int := (IntKind.i64.wrap (i5 + 1));
  N1 a0 b1 i5_19 w1))))))
  (R (.bool true) w)

def trystkeep_Logs.l1 (R : Value → World → Prop) (a0 : Sl) (b1 : Sl) (i5 : Int) (w : World) : Prop :=
  ∃ (I : Int → World → Prop) (μ : Int → World → Nat), I i5 w ∧ ∀ s w, I s w → trystkeep_Logs.b1 R (fun a0' b1' i5' w' => (a0' = a0 ∧ b1' = b1 ∧ I i5' w') ∧ μ i5' w' < μ s w) a0 b1 s w

def trystkeep_Logs.main (R : Value → World → Prop) (a0 : Sl) (b1 : Sl) (w : World) : Prop :=
  cond ((((a0.len : Nat) : Int) : Int) != ((b1.len : Nat) : Int))
  (R (.bool false) w)
  (trystkeep_Logs.l1 R a0 b1 0 w)

def trystkeep_Logs.J0 (R : Value → World → Prop) (k : Nat) (fr : Fr) (w : World) : Prop :=
  cond (Nat.beq k 1) (dec [(0, .slice), (1, .slice), (5, (.int .i64))] fr fun x => trystkeep_Logs.l1 R x.1 x.2.1 x.2.2 w) (False)

set_option maxRecDepth 100000 in
theorem trystkeep_Logs.lift {R : Value → World → Prop} {a0 : Sl} {b1 : Sl} {w : World} (h : trystkeep_Logs.main R a0 b1 w) : CallsV Try.prog n_trystkeep_Logs #[.slice a0.a a0.len a0.cap, .slice b1.a b1.len b1.cap] w R :=
  liftCalls (c := (.seq (.leaf (cL (bd Try.f12))) (.seq (.seq (.leaf (cL (cL (cR (bd Try.f12))))) (.cnd (.tmp 10) (.seq (.leaf (cL (cT (cR (cL (cR (bd Try.f12))))))) (.leaf (cR (cT (cR (cL (cR (bd Try.f12)))))))) (.leaf (cE (cR (cL (cR (bd Try.f12)))))))) (.seq (.seq (.leaf (cL (cL (cR (cR (bd Try.f12)))))) (.block 0 (.loop 1 (.seq (.seq (.leaf (cL (cL (cB (cB (cR (cL (cR (cR (bd Try.f12)))))))))) (.cnd (.tmp 14) (.leaf (cT (cR (cL (cB (cB (cR (cL (cR (cR (bd Try.f12))))))))))) (.leaf (cE (cR (cL (cB (cB (cR (cL (cR (cR (bd Try.f12))))))))))))) (.seq (.block 1 (.seq (.leaf (cL (cB (cL (cR (cB (cB (cR (cL (cR (cR (bd Try.f12)))))))))))) (.cnd (.tmp 54) (.seq (.leaf (cL (cT (cR (cB (cL (cR (cB (cB (cR (cL (cR (cR (bd Try.f12)))))))))))))) (.leaf (cR (cT (cR (cB (cL (cR (cB (cB (cR (cL (cR (cR (bd Try.f12))))))))))))))) (.leaf (cE (cR (cB (cL (cR (cB (cB (cR (cL (cR (cR (bd Try.f12)))))))))))))))) (.leaf (cR (cR (cB (cB (cR (cL (cR (cR (bd Try.f12))))))))))))))) (.seq (.leaf (cL (cR (cR (cR (bd Try.f12)))))) (.leaf (cR (cR (cR (cR (bd Try.f12))))))))))) (J := trystkeep_Logs.J0 R) LfYtcegohgmagppbaa.mixed Try.func12 (by kernel_rfl) (by kernel_rfl) (mkSeq (mkSeq (mkSeq (mkSeq mkLeaf mkLeaf) (mkSeq (mkBlock (mkLoop (loopDef LfYtcegohgmagppbaa.mixed [(0, .slice), (1, .slice), (5, (.int .i64))] (by kernel_rfl) (fun M1 x w => trystkeep_Logs.b1 R (fun y0 y1 y2 w => M1 (y0, y1, y2) w) x.1 x.2.1 x.2.2 w) (fun M1 => fun _ _ _ => False) (fun _ _ _ => by kernel_rfl) (fun M1 => (mkSeq (mkSeq mkLeaf (mkBlock (mkSeq (mkCnd (mkSeq mkLeaf mkLeaf) mkLeaf) mkLeaf))) (mkSeq (mkCnd mkLeaf mkLeaf) mkLeaf))) (fun x w => trystkeep_Logs.l1 R x.1 x.2.1 x.2.2 w) (by rintro ⟨c0, c1, s0⟩ w ⟨I, μ, h0, h1⟩; refine ⟨fun y w => y.1 = c0 ∧ y.2.1 = c1 ∧ I y.2.2 w, fun y w => μ y.2.2 w, ⟨rfl, rfl, h0⟩, ?_⟩; rintro ⟨d0, d1, t0⟩ w ⟨e0, e1, hI⟩; dsimp only at e0 e1 hI; subst e0; subst e1; exact h1 _ _ hI) (fun _ _ => by kernel_rfl)))) mkLeaf)) (mkSeq (mkCnd (mkSeq mkLeaf mkLeaf) mkLeaf) mkLeaf)) mkLeaf) (kcast (by kernel_rfl) h)

/-! trystkeep_Ints -/
def trystkeep_Ints.b1 (R : Value → World → Prop) (N1 : Sl → Sl → Int → World → Prop) (a0 : Sl) (b1 : Sl) (i5 : Int) (w : World) : Prop :=
  cond (decide ((i5 : Int) < ((a0.len : Nat) : Int)))
  (0 ≤ (i5 : Int) ∧ i5 < ((a0.len : Nat) : Int) ∧ ∃ q_1 : Addr, a0.a = some q_1 ∧
  ∃ x_2 : Int, w.cell? (q_1.add (i5 : Int).toNat) = some (.int .i64 x_2) ∧
  0 ≤ (i5 : Int) ∧ i5 < ((b1.len : Nat) : Int) ∧ ∃ q_3 : Addr, b1.a = some q_3 ∧
  ∃ x_4 : Int, w.cell? (q_3.add (i5 : Int).toNat) = some (.int .i64 x_4) ∧
  cond ((x_2 : Int) != x_4)
  (R (.bool false) w.drew)
  ((let i5_4 : Int := (IntKind.i64.wrap (i5 + 1));
  N1 a0 b1 i5_4 w.drew)))
  (R (.bool true) w)

def trystkeep_Ints.l1 (R : Value → World → Prop) (a0 : Sl) (b1 : Sl) (i5 : Int) (w : World) : Prop :=
  ∃ (I : Int → World → Prop) (μ : Int → World → Nat), I i5 w ∧ ∀ s w, I s w → trystkeep_Ints.b1 R (fun a0' b1' i5' w' => (a0' = a0 ∧ b1' = b1 ∧ I i5' w') ∧ μ i5' w' < μ s w) a0 b1 s w

def trystkeep_Ints.main (R : Value → World → Prop) (a0 : Sl) (b1 : Sl) (w : World) : Prop :=
  cond ((((a0.len : Nat) : Int) : Int) != ((b1.len : Nat) : Int))
  (R (.bool false) w)
  (trystkeep_Ints.l1 R a0 b1 0 w)

def trystkeep_Ints.J0 (R : Value → World → Prop) (k : Nat) (fr : Fr) (w : World) : Prop :=
  cond (Nat.beq k 1) (dec [(0, .slice), (1, .slice), (5, (.int .i64))] fr fun x => trystkeep_Ints.l1 R x.1 x.2.1 x.2.2 w) (False)

set_option maxRecDepth 100000 in
theorem trystkeep_Ints.lift {R : Value → World → Prop} {a0 : Sl} {b1 : Sl} {w : World} (h : trystkeep_Ints.main R a0 b1 w) : CallsV Try.prog n_trystkeep_Ints #[.slice a0.a a0.len a0.cap, .slice b1.a b1.len b1.cap] w R :=
  liftCalls (c := (.seq (.leaf (cL (bd Try.f13))) (.seq (.seq (.leaf (cL (cL (cR (bd Try.f13))))) (.cnd (.tmp 10) (.seq (.leaf (cL (cT (cR (cL (cR (bd Try.f13))))))) (.leaf (cR (cT (cR (cL (cR (bd Try.f13)))))))) (.leaf (cE (cR (cL (cR (bd Try.f13)))))))) (.seq (.seq (.leaf (cL (cL (cR (cR (bd Try.f13)))))) (.block 0 (.loop 1 (.seq (.seq (.leaf (cL (cL (cB (cB (cR (cL (cR (cR (bd Try.f13)))))))))) (.cnd (.tmp 14) (.leaf (cT (cR (cL (cB (cB (cR (cL (cR (cR (bd Try.f13))))))))))) (.leaf (cE (cR (cL (cB (cB (cR (cL (cR (cR (bd Try.f13))))))))))))) (.seq (.block 1 (.seq (.leaf (cL (cB (cL (cR (cB (cB (cR (cL (cR (cR (bd Try.f13)))))))))))) (.cnd (.tmp 25) (.seq (.leaf (cL (cT (cR (cB (cL (cR (cB (cB (cR (cL (cR (cR (bd Try.f13)))))))))))))) (.leaf (cR (cT (cR (cB (cL (cR (cB (cB (cR (cL (cR (cR (bd Try.f13))))))))))))))) (.leaf (cE (cR (cB (cL (cR (cB (cB (cR (cL (cR (cR (bd Try.f13)))))))))))))))) (.leaf (cR (cR (cB (cB (cR (cL (cR (cR (bd Try.f13))))))))))))))) (.seq (.leaf (cL (cR (cR (cR (bd Try.f13)))))) (.leaf (cR (cR (cR (cR (bd Try.f13))))))))))) (J := trystkeep_Ints.J0 R) LfYtcegohgmagppbaa.mixed Try.func13 (by kernel_rfl) (by kernel_rfl) (mkSeq (mkSeq (mkSeq (mkSeq mkLeaf mkLeaf) (mkSeq (mkBlock (mkLoop (loopDef LfYtcegohgmagppbaa.mixed [(0, .slice), (1, .slice), (5, (.int .i64))] (by kernel_rfl) (fun M1 x w => trystkeep_Ints.b1 R (fun y0 y1 y2 w => M1 (y0, y1, y2) w) x.1 x.2.1 x.2.2 w) (fun M1 => fun _ _ _ => False) (fun _ _ _ => by kernel_rfl) (fun M1 => (mkSeq (mkSeq mkLeaf (mkBlock (mkSeq (mkCnd (mkSeq mkLeaf mkLeaf) mkLeaf) mkLeaf))) (mkSeq (mkCnd mkLeaf mkLeaf) mkLeaf))) (fun x w => trystkeep_Ints.l1 R x.1 x.2.1 x.2.2 w) (by rintro ⟨c0, c1, s0⟩ w ⟨I, μ, h0, h1⟩; refine ⟨fun y w => y.1 = c0 ∧ y.2.1 = c1 ∧ I y.2.2 w, fun y w => μ y.2.2 w, ⟨rfl, rfl, h0⟩, ?_⟩; rintro ⟨d0, d1, t0⟩ w ⟨e0, e1, hI⟩; dsimp only at e0 e1 hI; subst e0; subst e1; exact h1 _ _ hI) (fun _ _ => by kernel_rfl)))) mkLeaf)) (mkSeq (mkCnd (mkSeq mkLeaf mkLeaf) mkLeaf) mkLeaf)) mkLeaf) (kcast (by kernel_rfl) h)

/-! trystlaw25_wakes -/
def trystlaw25_wakes.main (R : Value → World → Prop)  (w : World) : Prop :=
  let w1 := w.alloc (.cells #[.int .i64 5, .int .i64 6, .int .i64 7] 3);
  let w2 := w1.alloc (.cells #[.int .i64 1, .int .i64 0, .slice (some (newA w)) 3 3] 45);
  let w3 := w2.alloc (.cells #[.int .i64 0, .int .i64 1, .int .i64 0, .int .i64 0, .int .i64 0, .int .i64 0, .int .i64 0, .int .i64 0] 3);
  CallsV Try.prog n_logs_Want #[.slice (some (newA w1)) 1 1, .slice (some (newA w2)) 8 8] w3 (fun v_1 w4 =>
  ∃ x_2 : Int, ∃ x_3 : Int, ∃ x_4 : Int, ∃ b_5 : Bool, v_1 = .tuple #[.agg #[.int .i64 x_2, .int .i64 x_3, .int .i64 x_4], .bool b_5] ∧
  let w5 := w4.alloc (.cells #[.int .i64 0, .int .i64 0, .int .i64 0] 32);
  (∀ j, j < 3 → Wr w5 ((newA w4).add j)) ∧
  (let w6 := setCells (newA w4) [.int .i64 x_2, .int .i64 x_3, .int .i64 x_4] 0 w5;
  cond b_5
  (∃ x_6 : Int, w6.cell? (newA w4) = some (.int .i64 x_6) ∧
  cond ((x_6 : Int) == 1)
  (∃ x_7 : Int, w6.cell? ((newA w4).add 1) = some (.int .i64 x_7) ∧
  cond ((x_7 : Int) == 2)
  (∃ x_8 : Int, w6.cell? ((newA w4).add 2) = some (.int .i64 x_8) ∧
  R (.bool ((x_8 : Int) == 6)) w6)
  (R (.bool false) w6))
  (R (.bool false) w6))
  (R (.bool false) w6)))

def trystlaw25_wakes.J0 (_ : Value → World → Prop) (_ : Nat) (_ : Fr) (_ : World) : Prop := False

set_option maxRecDepth 100000 in
theorem trystlaw25_wakes.lift {R : Value → World → Prop}  {w : World} (h : trystlaw25_wakes.main R  w) : CallsV Try.prog n_trystlaw25_wakes #[] w R :=
  liftCalls (c := (.seq (.leaf (cL (bd Try.f14))) (.seq (.leaf (cL (cR (bd Try.f14)))) (.seq (.leaf (cL (cR (cR (bd Try.f14))))) (.leaf (cR (cR (cR (bd Try.f14))))))))) (J := trystlaw25_wakes.J0 R) LfYtcegohgmagppbaa.mixed Try.func14 (by kernel_rfl) (by kernel_rfl) (mkSeq (mkSeq (mkSeq mkLeaf mkLeaf) mkLeaf) mkLeaf) (kcast (by kernel_rfl) h)

/-! trystlaw25_Heavy -/
def trystlaw25_Heavy.b1 (R : Value → World → Prop) (N1 : Sl → Int → World → Prop) (l0 : Sl) (i3 : Int) (w : World) : Prop :=
  cond (decide ((i3 : Int) < ((l0.len : Nat) : Int)))
  (0 ≤ (i3 : Int) ∧ i3 < ((l0.len : Nat) : Int) ∧ ∃ q_1 : Addr, l0.a = some q_1 ∧
  ∃ (a_2 : Option Addr) (l_3 c_4 : Nat), w.cell? ((q_1.add ((i3 : Int).toNat * 3)).add 2) = some (.slice a_2 l_3 c_4) ∧
  cond (decide ((((l_3 : Nat) : Int) : Int) > 100))
  (R (.bool true) w)
  ((let i3_4 : Int := (IntKind.i64.wrap (i3 + 1));
  N1 l0 i3_4 w)))
  (R (.bool false) w)

def trystlaw25_Heavy.l1 (R : Value → World → Prop) (l0 : Sl) (i3 : Int) (w : World) : Prop :=
  ∃ (I : Int → World → Prop) (μ : Int → World → Nat), I i3 w ∧ ∀ s w, I s w → trystlaw25_Heavy.b1 R (fun l0' i3' w' => (l0' = l0 ∧ I i3' w') ∧ μ i3' w' < μ s w) l0 s w

def trystlaw25_Heavy.main (R : Value → World → Prop) (l0 : Sl) (w : World) : Prop :=
  cond (decide ((((l0.len : Nat) : Int) : Int) > 50))
  (R (.bool true) w)
  (trystlaw25_Heavy.l1 R l0 0 w)

def trystlaw25_Heavy.J0 (R : Value → World → Prop) (k : Nat) (fr : Fr) (w : World) : Prop :=
  cond (Nat.beq k 1) (dec [(0, .slice), (3, (.int .i64))] fr fun x => trystlaw25_Heavy.l1 R x.1 x.2 w) (False)

set_option maxRecDepth 100000 in
theorem trystlaw25_Heavy.lift {R : Value → World → Prop} {l0 : Sl} {w : World} (h : trystlaw25_Heavy.main R l0 w) : CallsV Try.prog n_trystlaw25_Heavy #[.slice l0.a l0.len l0.cap] w R :=
  liftCalls (c := (.seq (.leaf (cL (bd Try.f15))) (.seq (.seq (.leaf (cL (cL (cR (bd Try.f15))))) (.cnd (.tmp 6) (.seq (.leaf (cL (cT (cR (cL (cR (bd Try.f15))))))) (.leaf (cR (cT (cR (cL (cR (bd Try.f15)))))))) (.leaf (cE (cR (cL (cR (bd Try.f15)))))))) (.seq (.seq (.leaf (cL (cL (cR (cR (bd Try.f15)))))) (.block 0 (.loop 1 (.seq (.seq (.leaf (cL (cL (cB (cB (cR (cL (cR (cR (bd Try.f15)))))))))) (.cnd (.tmp 10) (.leaf (cT (cR (cL (cB (cB (cR (cL (cR (cR (bd Try.f15))))))))))) (.leaf (cE (cR (cL (cB (cB (cR (cL (cR (cR (bd Try.f15))))))))))))) (.seq (.block 1 (.seq (.leaf (cL (cB (cL (cR (cB (cB (cR (cL (cR (cR (bd Try.f15)))))))))))) (.cnd (.tmp 19) (.seq (.leaf (cL (cT (cR (cB (cL (cR (cB (cB (cR (cL (cR (cR (bd Try.f15)))))))))))))) (.leaf (cR (cT (cR (cB (cL (cR (cB (cB (cR (cL (cR (cR (bd Try.f15))))))))))))))) (.leaf (cE (cR (cB (cL (cR (cB (cB (cR (cL (cR (cR (bd Try.f15)))))))))))))))) (.leaf (cR (cR (cB (cB (cR (cL (cR (cR (bd Try.f15))))))))))))))) (.seq (.leaf (cL (cR (cR (cR (bd Try.f15)))))) (.leaf (cR (cR (cR (cR (bd Try.f15))))))))))) (J := trystlaw25_Heavy.J0 R) LfYtcegohgmagppbaa.mixed Try.func15 (by kernel_rfl) (by kernel_rfl) (mkSeq (mkSeq (mkSeq (mkSeq mkLeaf mkLeaf) (mkSeq (mkBlock (mkLoop (loopDef LfYtcegohgmagppbaa.mixed [(0, .slice), (3, (.int .i64))] (by kernel_rfl) (fun M1 x w => trystlaw25_Heavy.b1 R (fun y0 y1 w => M1 (y0, y1) w) x.1 x.2 w) (fun M1 => fun _ _ _ => False) (fun _ _ _ => by kernel_rfl) (fun M1 => (mkSeq (mkSeq mkLeaf (mkBlock (mkSeq (mkCnd (mkSeq mkLeaf mkLeaf) mkLeaf) mkLeaf))) (mkSeq (mkCnd mkLeaf mkLeaf) mkLeaf))) (fun x w => trystlaw25_Heavy.l1 R x.1 x.2 w) (by rintro ⟨c0, s0⟩ w ⟨I, μ, h0, h1⟩; refine ⟨fun y w => y.1 = c0 ∧ I y.2 w, fun y w => μ y.2 w, ⟨rfl, h0⟩, ?_⟩; rintro ⟨d0, t0⟩ w ⟨e0, hI⟩; dsimp only at e0 hI; subst e0; exact h1 _ _ hI) (fun _ _ => by kernel_rfl)))) mkLeaf)) (mkSeq (mkCnd (mkSeq mkLeaf mkLeaf) mkLeaf) mkLeaf)) mkLeaf) (kcast (by kernel_rfl) h)

/-! logs_Check -/
def logs_Check.c2 (R : Value → World → Prop) (N1 : Sl → Int → Int → Int → World → Prop) (g5 : Addr) (t6 : Sl) (t7 : Int) (t8 : Int) (w : World) : Prop :=
  ∃ x_1 : Int, w.cell? g5 = some (.int .i64 x_1) ∧
  N1 t6 t7 x_1 (IntKind.i64.wrap (t8 + 1)) w

def logs_Check.b1 (R : Value → World → Prop) (N1 : Sl → Int → Int → Int → World → Prop) (t6 : Sl) (t7 : Int) (last3 : Int) (t8 : Int) (w : World) : Prop :=
  cond (decide ((t8 : Int) < t7))
  (0 ≤ (t8 : Int) ∧ t8 < ((t6.len : Nat) : Int) ∧ ∃ q_2 : Addr, t6.a = some q_2 ∧
  ∃ x_3 : Int, w.cell? (q_2.add ((t8 : Int).toNat * 3)) = some (.int .i64 x_3) ∧
  ∃ x_4 : Int, w.cell? ((q_2.add ((t8 : Int).toNat * 3)).add 1) = some (.int .i64 x_4) ∧
  ∃ (a_5 : Option Addr) (l_6 c_7 : Nat), w.cell? ((q_2.add ((t8 : Int).toNat * 3)).add 2) = some (.slice a_5 l_6 c_7) ∧
  let w1 := w.alloc (.cells #[.int .i64 0, .int .i64 0, .slice none 0 0] 45);
  (∀ j, j < 3 → Wr w1 ((newA w).add j)) ∧
  (let w2 := setCells (newA w) [.int .i64 x_3, .int .i64 x_4, .slice a_5 l_6 c_7] 0 w1;
  ∃ x_8 : Int, w2.cell? (newA w) = some (.int .i64 x_8) ∧
  cond (decide ((x_8 : Int) ≤ last3))
  (R (.int .i64 1) w2)
  (∃ x_9 : Int, w2.cell? (newA w) = some (.int .i64 x_9) ∧
  CallsV Try.prog n_logs_client #[.int .i64 x_9] w2 (fun v_10 w3 =>
  ∃ b_11 : Bool, v_10 = .bool b_11 ∧
  cond (!b_11)
  (R (.int .i64 1) w3)
  (∃ x_12 : Int, w3.cell? ((newA w).add 1) = some (.int .i64 x_12) ∧
  cond (decide ((x_12 : Int) < 0))
  (R (.int .i64 1) w3)
  (∃ x_13 : Int, w3.cell? ((newA w).add 1) = some (.int .i64 x_13) ∧
  cond (decide ((x_13 : Int) > 1073741824))
  (R (.int .i64 1) w3)
  (∃ (a_14 : Option Addr) (l_15 c_16 : Nat), w3.cell? ((newA w).add 2) = some (.slice a_14 l_15 c_16) ∧
  cond (decide ((((l_15 : Nat) : Int) : Int) > 32))
  (R (.int .i64 1) w3)
  (∃ (a_17 : Option Addr) (l_18 c_19 : Nat), w3.cell? ((newA w).add 2) = some (.slice a_17 l_18 c_19) ∧
  CallsV Try.prog n_slices_ContainsFunc_int #[.slice a_17 l_18 c_19, .func (.func n_logs_Check_1) #[] #[]] w3 (fun v_20 w4 =>
  ∃ b_21 : Bool, v_20 = .bool b_21 ∧
  cond b_21
  (R (.int .i64 1) w4)
  (logs_Check.c2 R N1 (newA w) t6 t7 t8 w4))))))))))
  (R (.int .i64 0) w)

def logs_Check.l1 (R : Value → World → Prop) (t6 : Sl) (t7 : Int) (last3 : Int) (t8 : Int) (w : World) : Prop :=
  ∃ (I : (Int × Int) → World → Prop) (μ : (Int × Int) → World → Nat), I (last3, t8) w ∧ ∀ s w, I s w → logs_Check.b1 R (fun t6' t7' last3' t8' w' => (t6' = t6 ∧ t7' = t7 ∧ I (last3', t8') w') ∧ μ (last3', t8') w' < μ s w) t6 t7 s.1 s.2 w

def logs_Check.main (R : Value → World → Prop) (l0 : Sl) (w : World) : Prop :=
  logs_Check.l1 R l0 ((l0.len : Nat) : Int) (-1) 0 w

def logs_Check.J1 (R : Value → World → Prop) (N1 : Sl → Int → Int → Int → World → Prop) (k : Nat) (fr : Fr) (w : World) : Prop :=
  cond (Nat.beq k 2) (dec [(5, .addr), (6, .slice), (7, (.int .i64)), (8, (.int .i64))] fr fun x => logs_Check.c2 R N1 x.1 x.2.1 x.2.2.1 x.2.2.2 w) (False)

def logs_Check.J0 (R : Value → World → Prop) (k : Nat) (fr : Fr) (w : World) : Prop :=
  cond (Nat.beq k 1) (dec [(6, .slice), (7, (.int .i64)), (3, (.int .i64)), (8, (.int .i64))] fr fun x => logs_Check.l1 R x.1 x.2.1 x.2.2.1 x.2.2.2 w) (False)

set_option maxRecDepth 100000 in
theorem logs_Check.lift {R : Value → World → Prop} {l0 : Sl} {w : World} (h : logs_Check.main R l0 w) : CallsV Try.prog n_logs_Check #[.slice l0.a l0.len l0.cap] w R :=
  liftCalls (c := (.seq (.leaf (cL (bd Try.f16))) (.seq (.leaf (cL (cR (bd Try.f16)))) (.seq (.seq (.leaf (cL (cL (cR (cR (bd Try.f16)))))) (.block 0 (.loop 1 (.seq (.leaf (cL (cB (cB (cR (cL (cR (cR (bd Try.f16))))))))) (.seq (.cnd (.tmp 9) (.leaf (cT (cL (cR (cB (cB (cR (cL (cR (cR (bd Try.f16))))))))))) (.leaf (cE (cL (cR (cB (cB (cR (cL (cR (cR (bd Try.f16)))))))))))) (.seq (.block 1 (.seq (.leaf (cL (cB (cL (cR (cR (cB (cB (cR (cL (cR (cR (bd Try.f16))))))))))))) (.seq (.seq (.leaf (cL (cL (cR (cB (cL (cR (cR (cB (cB (cR (cL (cR (cR (bd Try.f16))))))))))))))) (.cnd (.tmp 42) (.seq (.leaf (cL (cT (cR (cL (cR (cB (cL (cR (cR (cB (cB (cR (cL (cR (cR (bd Try.f16))))))))))))))))) (.leaf (cR (cT (cR (cL (cR (cB (cL (cR (cR (cB (cB (cR (cL (cR (cR (bd Try.f16)))))))))))))))))) (.leaf (cE (cR (cL (cR (cB (cL (cR (cR (cB (cB (cR (cL (cR (cR (bd Try.f16)))))))))))))))))) (.cut 2 (.leaf (cR (cR (cB (cL (cR (cR (cB (cB (cR (cL (cR (cR (bd Try.f16)))))))))))))))))) (.leaf (cR (cR (cR (cB (cB (cR (cL (cR (cR (bd Try.f16))))))))))))))))) (.seq (.leaf (cL (cR (cR (cR (bd Try.f16)))))) (.leaf (cR (cR (cR (cR (bd Try.f16))))))))))) (J := logs_Check.J0 R) LfYtcegohgmagppbaa.mixed Try.func16 (by kernel_rfl) (by kernel_rfl) (mkSeq (mkSeq (mkSeq (mkSeq mkLeaf mkLeaf) (mkSeq (mkBlock (mkLoop (loopDef LfYtcegohgmagppbaa.mixed [(6, .slice), (7, (.int .i64)), (3, (.int .i64)), (8, (.int .i64))] (by kernel_rfl) (fun M1 x w => logs_Check.b1 R (fun y0 y1 y2 y3 w => M1 (y0, y1, y2, y3) w) x.1 x.2.1 x.2.2.1 x.2.2.2 w) (fun M1 => logs_Check.J1 R (fun y0 y1 y2 y3 w => M1 (y0, y1, y2, y3) w)) (fun _ _ _ => by kernel_rfl) (fun M1 => (mkSeq (mkSeq (mkSeq mkLeaf (mkBlock (mkSeq (mkSeq (mkCut (cutDef [(5, .addr), (6, .slice), (7, (.int .i64)), (8, (.int .i64))] (fun x w => logs_Check.c2 R (fun y0 y1 y2 y3 w => M1 (y0, y1, y2, y3) w) x.1 x.2.1 x.2.2.1 x.2.2.2 w) (fun _ _ => by kernel_rfl) (fun _ _ => by kernel_rfl)) mkLeaf) (mkSeq (mkCnd (mkSeq mkLeaf mkLeaf) mkLeaf) mkLeaf)) mkLeaf))) (mkCnd mkLeaf mkLeaf)) mkLeaf)) (fun x w => logs_Check.l1 R x.1 x.2.1 x.2.2.1 x.2.2.2 w) (by rintro ⟨c0, c1, s0⟩ w ⟨I, μ, h0, h1⟩; refine ⟨fun y w => y.1 = c0 ∧ y.2.1 = c1 ∧ I y.2.2 w, fun y w => μ y.2.2 w, ⟨rfl, rfl, h0⟩, ?_⟩; rintro ⟨d0, d1, t0⟩ w ⟨e0, e1, hI⟩; dsimp only at e0 e1 hI; subst e0; subst e1; exact h1 _ _ hI) (fun _ _ => by kernel_rfl)))) mkLeaf)) mkLeaf) mkLeaf) (kcast (by kernel_rfl) h)

/-! logs_From -/
def logs_From.c2 (R : Value → World → Prop) (N1 : Sl → Int → Sl → Int → World → Prop) (out4 : Sl) (c5 : Int) (h6 : Int) (t10 : Sl) (t11 : Int) (t12 : Int) (w : World) : Prop :=
  let w1 := w.alloc (.cells #[.int .i64 c5, .int .i64 h6, .slice none 0 0] 45);
  ∃ (a_1 : Option Addr) (l_2 c_3 : Nat), ∃ w2 : World, (builtin .append #[24, 24] 24 #[] #[.slice out4.a out4.len out4.cap, .slice (some (newA w)) 1 1]).run Try.prog w1 = .ok (.value (.slice a_1 l_2 c_3)) w2 ∧
  N1 t10 t11 ⟨a_1, l_2, c_3⟩ (IntKind.i64.wrap (t12 + 1)) w2

def logs_From.b1 (R : Value → World → Prop) (N1 : Sl → Int → Sl → Int → World → Prop) (t10 : Sl) (t11 : Int) (out4 : Sl) (t12 : Int) (w : World) : Prop :=
  cond (decide ((t12 : Int) < t11))
  (0 ≤ (t12 : Int) ∧ t12 < ((t10.len : Nat) : Int) ∧ ∃ q_4 : Addr, t10.a = some q_4 ∧
  ∃ x_5 : Int, w.cell? (q_4.add (t12 : Int).toNat) = some (.int .i64 x_5) ∧
  cond (decide ((x_5 : Int) < 0))
  (R (.tuple #[.slice none 0 0, .int .i64 1]) w)
  (cond (decide ((x_5 : Int) > 1073741824))
  (R (.tuple #[.slice none 0 0, .int .i64 1]) w)
  (logs_From.c2 R N1 out4 t12 x_5 t10 t11 t12 w)))
  (R (.tuple #[.slice out4.a out4.len out4.cap, .int .i64 0]) w)

def logs_From.l1 (R : Value → World → Prop) (t10 : Sl) (t11 : Int) (out4 : Sl) (t12 : Int) (w : World) : Prop :=
  ∃ (I : (Sl × Int) → World → Prop) (μ : (Sl × Int) → World → Nat), I (out4, t12) w ∧ ∀ s w, I s w → logs_From.b1 R (fun t10' t11' out4' t12' w' => (t10' = t10 ∧ t11' = t11 ∧ I (out4', t12') w') ∧ μ (out4', t12') w' < μ s w) t10 t11 s.1 s.2 w

def logs_From.main (R : Value → World → Prop) (have0 : Sl) (w : World) : Prop :=
  cond ((((have0.len : Nat) : Int) : Int) != 8)
  (R (.tuple #[.slice none 0 0, .int .i64 1]) w)
  (logs_From.l1 R have0 ((have0.len : Nat) : Int) ⟨none, 0, 0⟩ 0 w)

def logs_From.J1 (R : Value → World → Prop) (N1 : Sl → Int → Sl → Int → World → Prop) (k : Nat) (fr : Fr) (w : World) : Prop :=
  cond (Nat.beq k 2) (dec [(4, .slice), (5, (.int .i64)), (6, (.int .i64)), (10, .slice), (11, (.int .i64)), (12, (.int .i64))] fr fun x => logs_From.c2 R N1 x.1 x.2.1 x.2.2.1 x.2.2.2.1 x.2.2.2.2.1 x.2.2.2.2.2 w) (False)

def logs_From.J0 (R : Value → World → Prop) (k : Nat) (fr : Fr) (w : World) : Prop :=
  cond (Nat.beq k 1) (dec [(10, .slice), (11, (.int .i64)), (4, .slice), (12, (.int .i64))] fr fun x => logs_From.l1 R x.1 x.2.1 x.2.2.1 x.2.2.2 w) (False)

set_option maxRecDepth 100000 in
theorem logs_From.lift {R : Value → World → Prop} {have0 : Sl} {w : World} (h : logs_From.main R have0 w) : CallsV Try.prog n_logs_From #[.slice have0.a have0.len have0.cap] w R :=
  liftCalls (c := (.seq (.leaf (cL (bd Try.f17))) (.seq (.seq (.leaf (cL (cL (cR (bd Try.f17))))) (.cnd (.tmp 9) (.seq (.leaf (cL (cT (cR (cL (cR (bd Try.f17))))))) (.leaf (cR (cT (cR (cL (cR (bd Try.f17)))))))) (.leaf (cE (cR (cL (cR (bd Try.f17)))))))) (.seq (.leaf (cL (cR (cR (bd Try.f17))))) (.seq (.seq (.leaf (cL (cL (cR (cR (cR (bd Try.f17))))))) (.block 0 (.loop 1 (.seq (.leaf (cL (cB (cB (cR (cL (cR (cR (cR (bd Try.f17)))))))))) (.seq (.cnd (.tmp 13) (.leaf (cT (cL (cR (cB (cB (cR (cL (cR (cR (cR (bd Try.f17)))))))))))) (.leaf (cE (cL (cR (cB (cB (cR (cL (cR (cR (cR (bd Try.f17))))))))))))) (.seq (.block 1 (.seq (.leaf (cL (cB (cL (cR (cR (cB (cB (cR (cL (cR (cR (cR (bd Try.f17)))))))))))))) (.seq (.seq (.leaf (cL (cL (cR (cB (cL (cR (cR (cB (cB (cR (cL (cR (cR (cR (bd Try.f17)))))))))))))))) (.cnd (.tmp 22) (.seq (.leaf (cL (cT (cR (cL (cR (cB (cL (cR (cR (cB (cB (cR (cL (cR (cR (cR (bd Try.f17)))))))))))))))))) (.leaf (cR (cT (cR (cL (cR (cB (cL (cR (cR (cB (cB (cR (cL (cR (cR (cR (bd Try.f17))))))))))))))))))) (.leaf (cE (cR (cL (cR (cB (cL (cR (cR (cB (cB (cR (cL (cR (cR (cR (bd Try.f17))))))))))))))))))) (.cut 2 (.leaf (cR (cR (cB (cL (cR (cR (cB (cB (cR (cL (cR (cR (cR (bd Try.f17))))))))))))))))))) (.leaf (cR (cR (cR (cB (cB (cR (cL (cR (cR (cR (bd Try.f17)))))))))))))))))) (.seq (.leaf (cL (cR (cR (cR (cR (bd Try.f17))))))) (.leaf (cR (cR (cR (cR (cR (bd Try.f17))))))))))))) (J := logs_From.J0 R) LfYtcegohgmagppbaa.mixed Try.func17 (by kernel_rfl) (by kernel_rfl) (mkSeq (mkSeq (mkSeq (mkSeq (mkSeq mkLeaf mkLeaf) (mkSeq (mkBlock (mkLoop (loopDef LfYtcegohgmagppbaa.mixed [(10, .slice), (11, (.int .i64)), (4, .slice), (12, (.int .i64))] (by kernel_rfl) (fun M1 x w => logs_From.b1 R (fun y0 y1 y2 y3 w => M1 (y0, y1, y2, y3) w) x.1 x.2.1 x.2.2.1 x.2.2.2 w) (fun M1 => logs_From.J1 R (fun y0 y1 y2 y3 w => M1 (y0, y1, y2, y3) w)) (fun _ _ _ => by kernel_rfl) (fun M1 => (mkSeq (mkSeq (mkSeq mkLeaf (mkBlock (mkSeq (mkSeq (mkCut (cutDef [(4, .slice), (5, (.int .i64)), (6, (.int .i64)), (10, .slice), (11, (.int .i64)), (12, (.int .i64))] (fun x w => logs_From.c2 R (fun y0 y1 y2 y3 w => M1 (y0, y1, y2, y3) w) x.1 x.2.1 x.2.2.1 x.2.2.2.1 x.2.2.2.2.1 x.2.2.2.2.2 w) (fun _ _ => by kernel_rfl) (fun _ _ => by kernel_rfl)) mkLeaf) (mkSeq (mkCnd (mkSeq mkLeaf mkLeaf) mkLeaf) mkLeaf)) mkLeaf))) (mkCnd mkLeaf mkLeaf)) mkLeaf)) (fun x w => logs_From.l1 R x.1 x.2.1 x.2.2.1 x.2.2.2 w) (by rintro ⟨c0, c1, s0⟩ w ⟨I, μ, h0, h1⟩; refine ⟨fun y w => y.1 = c0 ∧ y.2.1 = c1 ∧ I y.2.2 w, fun y w => μ y.2.2 w, ⟨rfl, rfl, h0⟩, ?_⟩; rintro ⟨d0, d1, t0⟩ w ⟨e0, e1, hI⟩; dsimp only at e0 e1 hI; subst e0; subst e1; exact h1 _ _ hI) (fun _ _ => by kernel_rfl)))) mkLeaf)) mkLeaf) (mkSeq (mkCnd (mkSeq mkLeaf mkLeaf) mkLeaf) mkLeaf)) mkLeaf) (kcast (by kernel_rfl) h)

/-! trystkeep_TwinLogs -/
def trystkeep_TwinLogs.b1 (R : Value → World → Prop) (N1 : Sl → Sl → Int → World → Prop) (l0 : Sl) (out3 : Sl) (i4 : Int) (w : World) : Prop :=
  cond (decide ((i4 : Int) < ((l0.len : Nat) : Int)))
  (∃ S_1 : World → Prop, S_1 w.drew ∧
  0 ≤ (i4 : Int) ∧ i4 < ((l0.len : Nat) : Int) ∧ ∃ q_2 : Addr, l0.a = some q_2 ∧
  ∃ x_3 : Int, (∀ x, S_1 x → x.cell? (q_2.add ((i4 : Int).toNat * 3)) = some (.int .i64 x_3)) ∧
  0 ≤ (i4 : Int) ∧ i4 < ((l0.len : Nat) : Int) ∧ ∃ q_4 : Addr, l0.a = some q_4 ∧
  ∃ x_5 : Int, (∀ x, S_1 x → x.cell? ((q_4.add ((i4 : Int).toNat * 3)).add 1) = some (.int .i64 x_5)) ∧
  0 ≤ (i4 : Int) ∧ i4 < ((l0.len : Nat) : Int) ∧ ∃ q_6 : Addr, l0.a = some q_6 ∧
  ∃ (a_7 : Option Addr) (l_8 c_9 : Nat), (∀ x, S_1 x → x.cell? ((q_6.add ((i4 : Int).toNat * 3)).add 2) = some (.slice a_7 l_8 c_9)) ∧
  CallsV Try.prog n_trystkeep_TwinInts #[.slice a_7 l_8 c_9] w.drew (fun v_10 w1 =>
  ∃ (a_11 : Option Addr) (l_12 c_13 : Nat), v_10 = .slice a_11 l_12 c_13 ∧
  S_1 w1 ∧
  let w2 := w1.alloc (.cells #[.int .i64 x_3, .int .i64 x_5, .slice a_11 l_12 c_13] 45);
  ∃ (a_14 : Option Addr) (l_15 c_16 : Nat), ∃ w3 : World, (builtin .append #[24, 24] 24 #[] #[.slice out3.a out3.len out3.cap, .slice (some (newA w1)) 1 1]).run Try.prog w2 = .ok (.value (.slice a_14 l_15 c_16)) w3 ∧
  (let i4_16 : Int := (IntKind.i64.wrap (i4 + 1));
  N1 l0 ⟨a_14, l_15, c_16⟩ i4_16 w3)))
  (R (.slice out3.a out3.len out3.cap) w)

def trystkeep_TwinLogs.l1 (R : Value → World → Prop) (l0 : Sl) (out3 : Sl) (i4 : Int) (w : World) : Prop :=
  ∃ (I : (Sl × Int) → World → Prop) (μ : (Sl × Int) → World → Nat), I (out3, i4) w ∧ ∀ s w, I s w → trystkeep_TwinLogs.b1 R (fun l0' out3' i4' w' => (l0' = l0 ∧ I (out3', i4') w') ∧ μ (out3', i4') w' < μ s w) l0 s.1 s.2 w

def trystkeep_TwinLogs.main (R : Value → World → Prop) (l0 : Sl) (w : World) : Prop :=
  trystkeep_TwinLogs.l1 R l0 ⟨none, 0, 0⟩ 0 w

def trystkeep_TwinLogs.J0 (R : Value → World → Prop) (k : Nat) (fr : Fr) (w : World) : Prop :=
  cond (Nat.beq k 1) (dec [(0, .slice), (3, .slice), (4, (.int .i64))] fr fun x => trystkeep_TwinLogs.l1 R x.1 x.2.1 x.2.2 w) (False)

set_option maxRecDepth 100000 in
theorem trystkeep_TwinLogs.lift {R : Value → World → Prop} {l0 : Sl} {w : World} (h : trystkeep_TwinLogs.main R l0 w) : CallsV Try.prog n_trystkeep_TwinLogs #[.slice l0.a l0.len l0.cap] w R :=
  liftCalls (c := (.seq (.leaf (cL (bd Try.f18))) (.seq (.leaf (cL (cR (bd Try.f18)))) (.seq (.seq (.leaf (cL (cL (cR (cR (bd Try.f18)))))) (.block 0 (.loop 1 (.seq (.seq (.leaf (cL (cL (cB (cB (cR (cL (cR (cR (bd Try.f18)))))))))) (.cnd (.tmp 8) (.leaf (cT (cR (cL (cB (cB (cR (cL (cR (cR (bd Try.f18))))))))))) (.leaf (cE (cR (cL (cB (cB (cR (cL (cR (cR (bd Try.f18))))))))))))) (.seq (.block 1 (.leaf (cB (cL (cR (cB (cB (cR (cL (cR (cR (bd Try.f18)))))))))))) (.leaf (cR (cR (cB (cB (cR (cL (cR (cR (bd Try.f18))))))))))))))) (.seq (.leaf (cL (cR (cR (cR (bd Try.f18)))))) (.leaf (cR (cR (cR (cR (bd Try.f18))))))))))) (J := trystkeep_TwinLogs.J0 R) LfYtcegohgmagppbaa.mixed Try.func18 (by kernel_rfl) (by kernel_rfl) (mkSeq (mkSeq (mkSeq (mkSeq mkLeaf mkLeaf) (mkSeq (mkBlock (mkLoop (loopDef LfYtcegohgmagppbaa.mixed [(0, .slice), (3, .slice), (4, (.int .i64))] (by kernel_rfl) (fun M1 x w => trystkeep_TwinLogs.b1 R (fun y0 y1 y2 w => M1 (y0, y1, y2) w) x.1 x.2.1 x.2.2 w) (fun M1 => fun _ _ _ => False) (fun _ _ _ => by kernel_rfl) (fun M1 => (mkSeq (mkSeq mkLeaf (mkBlock mkLeaf)) (mkSeq (mkCnd mkLeaf mkLeaf) mkLeaf))) (fun x w => trystkeep_TwinLogs.l1 R x.1 x.2.1 x.2.2 w) (by rintro ⟨c0, s0⟩ w ⟨I, μ, h0, h1⟩; refine ⟨fun y w => y.1 = c0 ∧ I y.2 w, fun y w => μ y.2 w, ⟨rfl, h0⟩, ?_⟩; rintro ⟨d0, t0⟩ w ⟨e0, hI⟩; dsimp only at e0 hI; subst e0; exact h1 _ _ hI) (fun _ _ => by kernel_rfl)))) mkLeaf)) mkLeaf) mkLeaf) (kcast (by kernel_rfl) h)

/-! trystkeep_TwinInts -/
def trystkeep_TwinInts.main (R : Value → World → Prop) (l0 : Sl) (w : World) : Prop :=
  ∃ (a_1 : Option Addr) (l_2 c_3 : Nat), ∃ w1 : World, (builtin .append #[23, 23] 23 #[] #[.slice none 0 0, .slice l0.a l0.len l0.cap]).run Try.prog w = .ok (.value (.slice a_1 l_2 c_3)) w1 ∧
  R (.slice a_1 l_2 c_3) w1

def trystkeep_TwinInts.J0 (_ : Value → World → Prop) (_ : Nat) (_ : Fr) (_ : World) : Prop := False

set_option maxRecDepth 100000 in
theorem trystkeep_TwinInts.lift {R : Value → World → Prop} {l0 : Sl} {w : World} (h : trystkeep_TwinInts.main R l0 w) : CallsV Try.prog n_trystkeep_TwinInts #[.slice l0.a l0.len l0.cap] w R :=
  liftCalls (c := (.seq (.leaf (cL (bd Try.f19))) (.seq (.leaf (cL (cR (bd Try.f19)))) (.seq (.leaf (cL (cR (cR (bd Try.f19))))) (.leaf (cR (cR (cR (bd Try.f19))))))))) (J := trystkeep_TwinInts.J0 R) LfYtcegohgmagppbaa.mixed Try.func19 (by kernel_rfl) (by kernel_rfl) (mkSeq (mkSeq (mkSeq mkLeaf mkLeaf) mkLeaf) mkLeaf) (kcast (by kernel_rfl) h)

/-! trystref22_Logs -/
def trystref22_Logs.b2 (R : Value → World → Prop) (N1 : Sl → Int → World → Prop) (N2 : Sl → Int → Int → World → Prop) (l0 : Sl) (i3 : Int) (k4 : Int) (w : World) : Prop :=
  0 ≤ (i3 : Int) ∧ i3 < ((l0.len : Nat) : Int) ∧ ∃ q_1 : Addr, l0.a = some q_1 ∧
  ∃ (a_2 : Option Addr) (l_3 c_4 : Nat), w.cell? ((q_1.add ((i3 : Int).toNat * 3)).add 2) = some (.slice a_2 l_3 c_4) ∧
  cond (decide ((k4 : Int) < ((l_3 : Nat) : Int)))
  (0 ≤ (i3 : Int) ∧ i3 < ((l0.len : Nat) : Int) ∧ ∃ q_5 : Addr, l0.a = some q_5 ∧
  ∃ (a_6 : Option Addr) (l_7 c_8 : Nat), w.cell? ((q_5.add ((i3 : Int).toNat * 3)).add 2) = some (.slice a_6 l_7 c_8) ∧
  0 ≤ (k4 : Int) ∧ k4 < ((l_7 : Nat) : Int) ∧ ∃ q_9 : Addr, a_6 = some q_9 ∧
  ∃ x_10 : Int, w.cell? (q_9.add (k4 : Int).toNat) = some (.int .i64 x_10) ∧
  cond (decide ((x_10 : Int) < 0))
  (R (.bool false) w)
  (0 ≤ (i3 : Int) ∧ i3 < ((l0.len : Nat) : Int) ∧ ∃ q_11 : Addr, l0.a = some q_11 ∧
  ∃ (a_12 : Option Addr) (l_13 c_14 : Nat), w.cell? ((q_11.add ((i3 : Int).toNat * 3)).add 2) = some (.slice a_12 l_13 c_14) ∧
  0 ≤ (k4 : Int) ∧ k4 < ((l_13 : Nat) : Int) ∧ ∃ q_15 : Addr, a_12 = some q_15 ∧
  ∃ x_16 : Int, w.cell? (q_15.add (k4 : Int).toNat) = some (.int .i64 x_16) ∧
  cond (decide ((x_16 : Int) > 1048576))
  (R (.bool false) w)
  ((let k4_16 : Int := (IntKind.i64.wrap (k4 + 1));
  N2 l0 i3 k4_16 w))))
  ((let i3_17 : Int := (IntKind.i64.wrap (i3 + 1));
  N1 l0 i3_17 w))

def trystref22_Logs.l2 (R : Value → World → Prop) (N1 : Sl → Int → World → Prop) (l0 : Sl) (i3 : Int) (k4 : Int) (w : World) : Prop :=
  ∃ (I : Int → World → Prop) (μ : Int → World → Nat), I k4 w ∧ ∀ s w, I s w → trystref22_Logs.b2 R N1 (fun l0' i3' k4' w' => (l0' = l0 ∧ i3' = i3 ∧ I k4' w') ∧ μ k4' w' < μ s w) l0 i3 s w

def trystref22_Logs.c3 (R : Value → World → Prop) (N1 : Sl → Int → World → Prop) (l0 : Sl) (i3 : Int) (w : World) : Prop :=
  trystref22_Logs.l2 R N1 l0 i3 0 w

def trystref22_Logs.b1 (R : Value → World → Prop) (N1 : Sl → Int → World → Prop) (l0 : Sl) (i3 : Int) (w : World) : Prop :=
  cond (decide ((i3 : Int) < ((l0.len : Nat) : Int)))
  (0 ≤ (i3 : Int) ∧ i3 < ((l0.len : Nat) : Int) ∧ ∃ q_19 : Addr, l0.a = some q_19 ∧
  ∃ x_20 : Int, w.cell? (q_19.add ((i3 : Int).toNat * 3)) = some (.int .i64 x_20) ∧
  cond (decide ((x_20 : Int) < 0))
  (R (.bool false) w.drew)
  (0 ≤ (i3 : Int) ∧ i3 < ((l0.len : Nat) : Int) ∧ ∃ q_21 : Addr, l0.a = some q_21 ∧
  ∃ x_22 : Int, w.cell? (q_21.add ((i3 : Int).toNat * 3)) = some (.int .i64 x_22) ∧
  cond (decide ((x_22 : Int) ≥ 8))
  (R (.bool false) w.drew)
  (cond (decide ((i3 : Int) > 0))
  (0 ≤ (i3 : Int) ∧ i3 < ((l0.len : Nat) : Int) ∧ ∃ q_23 : Addr, l0.a = some q_23 ∧
  ∃ x_24 : Int, w.cell? (q_23.add ((i3 : Int).toNat * 3)) = some (.int .i64 x_24) ∧
  0 ≤ ((IntKind.i64.wrap (i3 - 1)) : Int) ∧ (IntKind.i64.wrap (i3 - 1)) < ((l0.len : Nat) : Int) ∧ ∃ q_25 : Addr, l0.a = some q_25 ∧
  ∃ x_26 : Int, w.cell? (q_25.add (ixOff ((IntKind.i64.wrap (i3 - 1)) : Int).toNat 3)) = some (.int .i64 x_26) ∧
  cond (decide ((x_24 : Int) ≤ x_26))
  (R (.bool false) w.drew)
  (0 ≤ (i3 : Int) ∧ i3 < ((l0.len : Nat) : Int) ∧ ∃ q_27 : Addr, l0.a = some q_27 ∧
  ∃ x_28 : Int, w.cell? ((q_27.add ((i3 : Int).toNat * 3)).add 1) = some (.int .i64 x_28) ∧
  cond (decide ((x_28 : Int) < 0))
  (R (.bool false) w.drew)
  (0 ≤ (i3 : Int) ∧ i3 < ((l0.len : Nat) : Int) ∧ ∃ q_29 : Addr, l0.a = some q_29 ∧
  ∃ x_30 : Int, w.cell? ((q_29.add ((i3 : Int).toNat * 3)).add 1) = some (.int .i64 x_30) ∧
  cond (decide ((x_30 : Int) > 1073741824))
  (R (.bool false) w.drew)
  (0 ≤ (i3 : Int) ∧ i3 < ((l0.len : Nat) : Int) ∧ ∃ q_31 : Addr, l0.a = some q_31 ∧
  ∃ (a_32 : Option Addr) (l_33 c_34 : Nat), w.cell? ((q_31.add ((i3 : Int).toNat * 3)).add 2) = some (.slice a_32 l_33 c_34) ∧
  cond (decide ((((l_33 : Nat) : Int) : Int) > 32))
  (R (.bool false) w.drew)
  (trystref22_Logs.c3 R N1 l0 i3 w.drew)))))
  (0 ≤ (i3 : Int) ∧ i3 < ((l0.len : Nat) : Int) ∧ ∃ q_35 : Addr, l0.a = some q_35 ∧
  ∃ x_36 : Int, w.cell? ((q_35.add ((i3 : Int).toNat * 3)).add 1) = some (.int .i64 x_36) ∧
  cond (decide ((x_36 : Int) < 0))
  (R (.bool false) w.drew)
  (0 ≤ (i3 : Int) ∧ i3 < ((l0.len : Nat) : Int) ∧ ∃ q_37 : Addr, l0.a = some q_37 ∧
  ∃ x_38 : Int, w.cell? ((q_37.add ((i3 : Int).toNat * 3)).add 1) = some (.int .i64 x_38) ∧
  cond (decide ((x_38 : Int) > 1073741824))
  (R (.bool false) w.drew)
  (0 ≤ (i3 : Int) ∧ i3 < ((l0.len : Nat) : Int) ∧ ∃ q_39 : Addr, l0.a = some q_39 ∧
  ∃ (a_40 : Option Addr) (l_41 c_42 : Nat), w.cell? ((q_39.add ((i3 : Int).toNat * 3)).add 2) = some (.slice a_40 l_41 c_42) ∧
  cond (decide ((((l_41 : Nat) : Int) : Int) > 32))
  (R (.bool false) w.drew)
  (trystref22_Logs.c3 R N1 l0 i3 w.drew)))))))
  (R (.bool true) w)

def trystref22_Logs.l1 (R : Value → World → Prop) (l0 : Sl) (i3 : Int) (w : World) : Prop :=
  ∃ (I : Int → World → Prop) (μ : Int → World → Nat), I i3 w ∧ ∀ s w, I s w → trystref22_Logs.b1 R (fun l0' i3' w' => (l0' = l0 ∧ I i3' w') ∧ μ i3' w' < μ s w) l0 s w

def trystref22_Logs.main (R : Value → World → Prop) (l0 : Sl) (w : World) : Prop :=
  trystref22_Logs.l1 R l0 0 w

def trystref22_Logs.J1 (R : Value → World → Prop) (N1 : Sl → Int → World → Prop) (k : Nat) (fr : Fr) (w : World) : Prop :=
  cond (Nat.beq k 3) (dec [(0, .slice), (3, (.int .i64))] fr fun x => trystref22_Logs.c3 R N1 x.1 x.2 w) (cond (Nat.beq k 2) (dec [(0, .slice), (3, (.int .i64)), (4, (.int .i64))] fr fun x => trystref22_Logs.l2 R N1 x.1 x.2.1 x.2.2 w) (False))

def trystref22_Logs.J0 (R : Value → World → Prop) (k : Nat) (fr : Fr) (w : World) : Prop :=
  cond (Nat.beq k 1) (dec [(0, .slice), (3, (.int .i64))] fr fun x => trystref22_Logs.l1 R x.1 x.2 w) (False)

set_option maxRecDepth 100000 in
theorem trystref22_Logs.lift {R : Value → World → Prop} {l0 : Sl} {w : World} (h : trystref22_Logs.main R l0 w) : CallsV Try.prog n_trystref22_Logs #[.slice l0.a l0.len l0.cap] w R :=
  liftCalls (c := (.seq (.leaf (cL (bd Try.f20))) (.seq (.seq (.leaf (cL (cL (cR (bd Try.f20))))) (.block 0 (.loop 1 (.seq (.seq (.leaf (cL (cL (cB (cB (cR (cL (cR (bd Try.f20))))))))) (.cnd (.tmp 8) (.leaf (cT (cR (cL (cB (cB (cR (cL (cR (bd Try.f20)))))))))) (.leaf (cE (cR (cL (cB (cB (cR (cL (cR (bd Try.f20)))))))))))) (.seq (.block 1 (.seq (.seq (.leaf (cL (cL (cB (cL (cR (cB (cB (cR (cL (cR (bd Try.f20)))))))))))) (.cnd (.tmp 67) (.seq (.leaf (cL (cT (cR (cL (cB (cL (cR (cB (cB (cR (cL (cR (bd Try.f20)))))))))))))) (.leaf (cR (cT (cR (cL (cB (cL (cR (cB (cB (cR (cL (cR (bd Try.f20))))))))))))))) (.leaf (cE (cR (cL (cB (cL (cR (cB (cB (cR (cL (cR (bd Try.f20))))))))))))))) (.cut 3 (.seq (.leaf (cL (cR (cB (cL (cR (cB (cB (cR (cL (cR (bd Try.f20)))))))))))) (.block 2 (.loop 2 (.seq (.seq (.leaf (cL (cL (cB (cB (cR (cR (cB (cL (cR (cB (cB (cR (cL (cR (bd Try.f20)))))))))))))))) (.cnd (.tmp 75) (.leaf (cT (cR (cL (cB (cB (cR (cR (cB (cL (cR (cB (cB (cR (cL (cR (bd Try.f20))))))))))))))))) (.leaf (cE (cR (cL (cB (cB (cR (cR (cB (cL (cR (cB (cB (cR (cL (cR (bd Try.f20))))))))))))))))))) (.seq (.block 3 (.seq (.leaf (cL (cB (cL (cR (cB (cB (cR (cR (cB (cL (cR (cB (cB (cR (cL (cR (bd Try.f20)))))))))))))))))) (.cnd (.tmp 97) (.seq (.leaf (cL (cT (cR (cB (cL (cR (cB (cB (cR (cR (cB (cL (cR (cB (cB (cR (cL (cR (bd Try.f20)))))))))))))))))))) (.leaf (cR (cT (cR (cB (cL (cR (cB (cB (cR (cR (cB (cL (cR (cB (cB (cR (cL (cR (bd Try.f20))))))))))))))))))))) (.leaf (cE (cR (cB (cL (cR (cB (cB (cR (cR (cB (cL (cR (cB (cB (cR (cL (cR (bd Try.f20)))))))))))))))))))))) (.leaf (cR (cR (cB (cB (cR (cR (cB (cL (cR (cB (cB (cR (cL (cR (bd Try.f20)))))))))))))))))))))))) (.leaf (cR (cR (cB (cB (cR (cL (cR (bd Try.f20)))))))))))))) (.seq (.leaf (cL (cR (cR (bd Try.f20))))) (.leaf (cR (cR (cR (bd Try.f20))))))))) (J := trystref22_Logs.J0 R) LfYtcegohgmagppbaa.mixed Try.func20 (by kernel_rfl) (by kernel_rfl) (mkSeq (mkSeq (mkSeq mkLeaf mkLeaf) (mkSeq (mkBlock (mkLoop (loopDef LfYtcegohgmagppbaa.mixed [(0, .slice), (3, (.int .i64))] (by kernel_rfl) (fun M1 x w => trystref22_Logs.b1 R (fun y0 y1 w => M1 (y0, y1) w) x.1 x.2 w) (fun M1 => trystref22_Logs.J1 R (fun y0 y1 w => M1 (y0, y1) w)) (fun _ _ _ => by kernel_rfl) (fun M1 => (mkSeq (mkSeq mkLeaf (mkBlock (mkSeq (mkCut (cutDef [(0, .slice), (3, (.int .i64))] (fun x w => trystref22_Logs.c3 R (fun y0 y1 w => M1 (y0, y1) w) x.1 x.2 w) (fun _ _ => by kernel_rfl) (fun _ _ => by kernel_rfl)) (mkSeq (mkBlock (mkLoop (loopDef LfYtcegohgmagppbaa.mixed [(0, .slice), (3, (.int .i64)), (4, (.int .i64))] (by kernel_rfl) (fun M2 x w => trystref22_Logs.b2 R (fun y0 y1 w => M1 (y0, y1) w) (fun y0 y1 y2 w => M2 (y0, y1, y2) w) x.1 x.2.1 x.2.2 w) (fun M2 => fun _ _ _ => False) (fun _ _ _ => by kernel_rfl) (fun M2 => (mkSeq (mkSeq mkLeaf (mkBlock (mkSeq (mkCnd (mkSeq mkLeaf mkLeaf) mkLeaf) mkLeaf))) (mkSeq (mkCnd mkLeaf mkLeaf) mkLeaf))) (fun x w => trystref22_Logs.l2 R (fun y0 y1 w => M1 (y0, y1) w) x.1 x.2.1 x.2.2 w) (by rintro ⟨c0, c1, s0⟩ w ⟨I, μ, h0, h1⟩; refine ⟨fun y w => y.1 = c0 ∧ y.2.1 = c1 ∧ I y.2.2 w, fun y w => μ y.2.2 w, ⟨rfl, rfl, h0⟩, ?_⟩; rintro ⟨d0, d1, t0⟩ w ⟨e0, e1, hI⟩; dsimp only at e0 e1 hI; subst e0; subst e1; exact h1 _ _ hI) (fun _ _ => by kernel_rfl)))) mkLeaf)) (mkSeq (mkCnd (mkSeq mkLeaf mkLeaf) mkLeaf) mkLeaf)))) (mkSeq (mkCnd mkLeaf mkLeaf) mkLeaf))) (fun x w => trystref22_Logs.l1 R x.1 x.2 w) (by rintro ⟨c0, s0⟩ w ⟨I, μ, h0, h1⟩; refine ⟨fun y w => y.1 = c0 ∧ I y.2 w, fun y w => μ y.2 w, ⟨rfl, h0⟩, ?_⟩; rintro ⟨d0, t0⟩ w ⟨e0, hI⟩; dsimp only at e0 hI; subst e0; exact h1 _ _ hI) (fun _ _ => by kernel_rfl)))) mkLeaf)) mkLeaf) (kcast (by kernel_rfl) h)

/-! trystref22_Have -/
def trystref22_Have.b1 (R : Value → World → Prop) (N1 : Sl → Sl → Int → World → Prop) (l0 : Sl) (out3 : Sl) (i4 : Int) (w : World) : Prop :=
  cond (decide ((i4 : Int) < ((l0.len : Nat) : Int)))
  (∃ S_1 : World → Prop, S_1 w.drew ∧
  0 ≤ (i4 : Int) ∧ i4 < ((l0.len : Nat) : Int) ∧ ∃ q_2 : Addr, l0.a = some q_2 ∧
  ∃ x_3 : Int, (∀ x, S_1 x → x.cell? (q_2.add ((i4 : Int).toNat * 3)) = some (.int .i64 x_3)) ∧
  0 ≤ (i4 : Int) ∧ i4 < ((l0.len : Nat) : Int) ∧ ∃ q_4 : Addr, l0.a = some q_4 ∧
  ∃ x_5 : Int, (∀ x, S_1 x → x.cell? ((q_4.add ((i4 : Int).toNat * 3)).add 1) = some (.int .i64 x_5)) ∧
  0 ≤ (i4 : Int) ∧ i4 < ((l0.len : Nat) : Int) ∧ ∃ q_6 : Addr, l0.a = some q_6 ∧
  ∃ (a_7 : Option Addr) (l_8 c_9 : Nat), (∀ x, S_1 x → x.cell? ((q_6.add ((i4 : Int).toNat * 3)).add 2) = some (.slice a_7 l_8 c_9)) ∧
  0 ≤ (x_3 : Int) ∧ x_3 < ((out3.len : Nat) : Int) ∧ ∃ q_10 : Addr, out3.a = some q_10 ∧
  Wr w.drew (q_10.add (x_3 : Int).toNat) ∧
  (let w1 := w.drew.setCell (q_10.add (x_3 : Int).toNat) (.int .i64 (IntKind.i64.wrap (x_5 + ((l_8 : Nat) : Int))));
  (let i4_10 : Int := (IntKind.i64.wrap (i4 + 1));
  N1 l0 out3 i4_10 w1)))
  (R (.slice out3.a out3.len out3.cap) w)

def trystref22_Have.l1 (R : Value → World → Prop) (l0 : Sl) (out3 : Sl) (i4 : Int) (w : World) : Prop :=
  ∃ (I : Int → World → Prop) (μ : Int → World → Nat), I i4 w ∧ ∀ s w, I s w → trystref22_Have.b1 R (fun l0' out3' i4' w' => (l0' = l0 ∧ out3' = out3 ∧ I i4' w') ∧ μ i4' w' < μ s w) l0 out3 s w

def trystref22_Have.main (R : Value → World → Prop) (l0 : Sl) (w : World) : Prop :=
  0 ≤ (8 : Int) ∧ (8 : Int) ≤ 8 ∧ (8 : Int) * 8 ≤ 281474976710656 ∧ (8 : Int) ≤ 9223372036854775807 ∧
  (let w2 := w.alloc (.cells ((Array.range ((8 : Int).toNat * 1)).map ((#[.int .i64 0] : Array Value)[· % (#[.int .i64 0] : Array Value).size]!)) 3);
  CallsV Try.prog n_trystref22_Logs #[.slice l0.a l0.len l0.cap] w2 (fun v_12 w3 =>
  ∃ b_13 : Bool, v_12 = .bool b_13 ∧
  cond b_13
  (trystref22_Have.l1 R l0 ⟨(some (newA w)), (8 : Int).toNat, (8 : Int).toNat⟩ 0 w3)
  (R (.slice (some (newA w)) ((8 : Int).toNat) ((8 : Int).toNat)) w3)))

def trystref22_Have.J0 (R : Value → World → Prop) (k : Nat) (fr : Fr) (w : World) : Prop :=
  cond (Nat.beq k 1) (dec [(0, .slice), (3, .slice), (4, (.int .i64))] fr fun x => trystref22_Have.l1 R x.1 x.2.1 x.2.2 w) (False)

set_option maxRecDepth 100000 in
theorem trystref22_Have.lift {R : Value → World → Prop} {l0 : Sl} {w : World} (h : trystref22_Have.main R l0 w) : CallsV Try.prog n_trystref22_Have #[.slice l0.a l0.len l0.cap] w R :=
  liftCalls (c := (.seq (.leaf (cL (bd Try.f21))) (.seq (.leaf (cL (cR (bd Try.f21)))) (.seq (.seq (.leaf (cL (cL (cR (cR (bd Try.f21)))))) (.cnd (.tmp 7) (.seq (.leaf (cL (cT (cR (cL (cR (cR (bd Try.f21)))))))) (.block 0 (.loop 1 (.seq (.seq (.leaf (cL (cL (cB (cB (cR (cT (cR (cL (cR (cR (bd Try.f21)))))))))))) (.cnd (.tmp 11) (.leaf (cT (cR (cL (cB (cB (cR (cT (cR (cL (cR (cR (bd Try.f21))))))))))))) (.leaf (cE (cR (cL (cB (cB (cR (cT (cR (cL (cR (cR (bd Try.f21))))))))))))))) (.seq (.block 1 (.leaf (cB (cL (cR (cB (cB (cR (cT (cR (cL (cR (cR (bd Try.f21)))))))))))))) (.leaf (cR (cR (cB (cB (cR (cT (cR (cL (cR (cR (bd Try.f21))))))))))))))))) (.leaf (cE (cR (cL (cR (cR (bd Try.f21))))))))) (.seq (.leaf (cL (cR (cR (cR (bd Try.f21)))))) (.leaf (cR (cR (cR (cR (bd Try.f21))))))))))) (J := trystref22_Have.J0 R) LfYtcegohgmagppbaa.mixed Try.func21 (by kernel_rfl) (by kernel_rfl) (mkSeq (mkSeq (mkSeq (mkSeq mkLeaf mkLeaf) (mkSeq (mkCnd (mkSeq (mkBlock (mkLoop (loopDef LfYtcegohgmagppbaa.mixed [(0, .slice), (3, .slice), (4, (.int .i64))] (by kernel_rfl) (fun M1 x w => trystref22_Have.b1 R (fun y0 y1 y2 w => M1 (y0, y1, y2) w) x.1 x.2.1 x.2.2 w) (fun M1 => fun _ _ _ => False) (fun _ _ _ => by kernel_rfl) (fun M1 => (mkSeq (mkSeq mkLeaf (mkBlock mkLeaf)) (mkSeq (mkCnd mkLeaf mkLeaf) mkLeaf))) (fun x w => trystref22_Have.l1 R x.1 x.2.1 x.2.2 w) (by rintro ⟨c0, c1, s0⟩ w ⟨I, μ, h0, h1⟩; refine ⟨fun y w => y.1 = c0 ∧ y.2.1 = c1 ∧ I y.2.2 w, fun y w => μ y.2.2 w, ⟨rfl, rfl, h0⟩, ?_⟩; rintro ⟨d0, d1, t0⟩ w ⟨e0, e1, hI⟩; dsimp only at e0 e1 hI; subst e0; subst e1; exact h1 _ _ hI) (fun _ _ => by kernel_rfl)))) mkLeaf) mkLeaf) mkLeaf)) mkLeaf) mkLeaf) (kcast (by kernel_rfl) h)

/-! trystref22_Say -/
def trystref22_Say.c1 (R : Value → World → Prop) (l0 : Sl) (client1 : Int) (body2 : Int) (w : World) : Prop :=
  CallsV Try.prog n_trystref22_with #[.slice l0.a l0.len l0.cap, .int .i64 client1, .int .i64 body2] w (fun v_1 w1 =>
  ∃ (a_2 : Option Addr) (l_3 c_4 : Nat), ∃ x_5 : Int, v_1 = .tuple #[.slice a_2 l_3 c_4, .int .i64 x_5] ∧
  cond ((x_5 : Int) != 0)
  (R (.tuple #[.slice none 0 0, .int .i64 0, .int .i64 x_5]) w1)
  (∃ S_6 : World → Prop, S_6 w1.drew ∧
  CallsV Try.prog n_trystref22_Have #[.slice a_2 l_3 c_4] w1.drew (fun v_7 w2 =>
  ∃ (a_8 : Option Addr) (l_9 c_10 : Nat), v_7 = .slice a_8 l_9 c_10 ∧
  ∃ S_11 : World → Prop, (∀ x, S_11 x → S_6 x) ∧ S_11 w2 ∧
  0 ≤ (client1 : Int) ∧ client1 < ((l_9 : Nat) : Int) ∧ ∃ q_12 : Addr, a_8 = some q_12 ∧
  ∃ x_13 : Int, (∀ x, S_11 x → x.cell? (q_12.add (client1 : Int).toNat) = some (.int .i64 x_13)) ∧
  R (.tuple #[.slice a_2 l_3 c_4, .int .i64 x_13, .int .i64 0]) w2)))

def trystref22_Say.main (R : Value → World → Prop) (l0 : Sl) (client1 : Int) (body2 : Int) (w : World) : Prop :=
  CallsV Try.prog n_trystref22_Logs #[.slice l0.a l0.len l0.cap] w (fun v_14 w3 =>
  ∃ b_15 : Bool, v_14 = .bool b_15 ∧
  cond (!b_15)
  (R (.tuple #[.slice none 0 0, .int .i64 0, .int .i64 1]) w3)
  (CallsV Try.prog n_trystref22_may #[.int .i64 client1, .int .i64 body2] w3 (fun v_16 w4 =>
  ∃ b_17 : Bool, v_16 = .bool b_17 ∧
  cond (!b_17)
  (R (.tuple #[.slice none 0 0, .int .i64 0, .int .i64 1]) w4)
  (trystref22_Say.c1 R l0 client1 body2 w4))))

def trystref22_Say.J0 (R : Value → World → Prop) (k : Nat) (fr : Fr) (w : World) : Prop :=
  cond (Nat.beq k 1) (dec [(0, .slice), (1, (.int .i64)), (2, (.int .i64))] fr fun x => trystref22_Say.c1 R x.1 x.2.1 x.2.2 w) (False)

set_option maxRecDepth 100000 in
theorem trystref22_Say.lift {R : Value → World → Prop} {l0 : Sl} {client1 : Int} {body2 : Int} {w : World} (h : trystref22_Say.main R l0 client1 body2 w) : CallsV Try.prog n_trystref22_Say #[.slice l0.a l0.len l0.cap, .int .i64 client1, .int .i64 body2] w R :=
  liftCalls (c := (.seq (.leaf (cL (bd Try.f22))) (.seq (.seq (.leaf (cL (cL (cR (bd Try.f22))))) (.cnd (.tmp 19) (.seq (.leaf (cL (cT (cR (cL (cR (bd Try.f22))))))) (.leaf (cR (cT (cR (cL (cR (bd Try.f22)))))))) (.leaf (cE (cR (cL (cR (bd Try.f22)))))))) (.cut 1 (.seq (.leaf (cL (cR (cR (bd Try.f22))))) (.seq (.seq (.leaf (cL (cL (cR (cR (cR (bd Try.f22))))))) (.cnd (.tmp 28) (.seq (.leaf (cL (cT (cR (cL (cR (cR (cR (bd Try.f22))))))))) (.leaf (cR (cT (cR (cL (cR (cR (cR (bd Try.f22)))))))))) (.leaf (cE (cR (cL (cR (cR (cR (bd Try.f22)))))))))) (.seq (.leaf (cL (cR (cR (cR (cR (bd Try.f22))))))) (.leaf (cR (cR (cR (cR (cR (bd Try.f22)))))))))))))) (J := trystref22_Say.J0 R) LfYtcegohgmagppbaa.mixed Try.func22 (by kernel_rfl) (by kernel_rfl) (mkSeq (mkSeq (mkCut (cutDef [(0, .slice), (1, (.int .i64)), (2, (.int .i64))] (fun x w => trystref22_Say.c1 R x.1 x.2.1 x.2.2 w) (fun _ _ => by kernel_rfl) (fun _ _ => by kernel_rfl)) (mkSeq (mkSeq (mkSeq mkLeaf mkLeaf) (mkSeq (mkCnd (mkSeq mkLeaf mkLeaf) mkLeaf) mkLeaf)) mkLeaf)) (mkSeq (mkCnd (mkSeq mkLeaf mkLeaf) mkLeaf) mkLeaf)) mkLeaf) (kcast (by kernel_rfl) h)

/-! trystkeep_SpoilLogs -/
def trystkeep_SpoilLogs.b1 (R : Value → World → Prop) (N1 : Sl → Int → World → Prop) (l0 : Sl) (i2 : Int) (w : World) : Prop :=
  cond (decide ((i2 : Int) < ((l0.len : Nat) : Int)))
  (0 ≤ (i2 : Int) ∧ i2 < ((l0.len : Nat) : Int) ∧ ∃ q_1 : Addr, l0.a = some q_1 ∧
  ∃ (a_2 : Option Addr) (l_3 c_4 : Nat), w.cell? ((q_1.add ((i2 : Int).toNat * 3)).add 2) = some (.slice a_2 l_3 c_4) ∧
  CallsV Try.prog n_trystkeep_SpoilInts #[.slice a_2 l_3 c_4] w (fun v_5 w1 =>
  v_5 = .tuple #[] ∧
  0 ≤ (i2 : Int) ∧ i2 < ((l0.len : Nat) : Int) ∧ ∃ q_6 : Addr, l0.a = some q_6 ∧
  Wr w1 ((q_6.add ((i2 : Int).toNat * 3)).add 1) ∧
  (let w2 := w1.setCell ((q_6.add ((i2 : Int).toNat * 3)).add 1) (.int .i64 (-55));
  (let i2_6 : Int := (IntKind.i64.wrap (i2 + 1));
  N1 l0 i2_6 w2))))
  (R (.tuple #[]) w)

def trystkeep_SpoilLogs.l1 (R : Value → World → Prop) (l0 : Sl) (i2 : Int) (w : World) : Prop :=
  ∃ (I : Int → World → Prop) (μ : Int → World → Nat), I i2 w ∧ ∀ s w, I s w → trystkeep_SpoilLogs.b1 R (fun l0' i2' w' => (l0' = l0 ∧ I i2' w') ∧ μ i2' w' < μ s w) l0 s w

def trystkeep_SpoilLogs.main (R : Value → World → Prop) (l0 : Sl) (w : World) : Prop :=
  trystkeep_SpoilLogs.l1 R l0 0 w

def trystkeep_SpoilLogs.J0 (R : Value → World → Prop) (k : Nat) (fr : Fr) (w : World) : Prop :=
  cond (Nat.beq k 1) (dec [(0, .slice), (2, (.int .i64))] fr fun x => trystkeep_SpoilLogs.l1 R x.1 x.2 w) (False)

set_option maxRecDepth 100000 in
theorem trystkeep_SpoilLogs.lift {R : Value → World → Prop} {l0 : Sl} {w : World} (h : trystkeep_SpoilLogs.main R l0 w) : CallsV Try.prog n_trystkeep_SpoilLogs #[.slice l0.a l0.len l0.cap] w R :=
  liftCalls (c := (.seq (.leaf (cL (bd Try.f23))) (.block 0 (.loop 1 (.seq (.seq (.leaf (cL (cL (cB (cB (cR (bd Try.f23))))))) (.cnd (.tmp 6) (.leaf (cT (cR (cL (cB (cB (cR (bd Try.f23)))))))) (.leaf (cE (cR (cL (cB (cB (cR (bd Try.f23)))))))))) (.seq (.block 1 (.seq (.leaf (cL (cB (cL (cR (cB (cB (cR (bd Try.f23))))))))) (.leaf (cR (cB (cL (cR (cB (cB (cR (bd Try.f23))))))))))) (.leaf (cR (cR (cB (cB (cR (bd Try.f23))))))))))))) (J := trystkeep_SpoilLogs.J0 R) LfYtcegohgmagppbaa.mixed Try.func23 (by kernel_rfl) (by kernel_rfl) (mkSeq (mkBlock (mkLoop (loopDef LfYtcegohgmagppbaa.mixed [(0, .slice), (2, (.int .i64))] (by kernel_rfl) (fun M1 x w => trystkeep_SpoilLogs.b1 R (fun y0 y1 w => M1 (y0, y1) w) x.1 x.2 w) (fun M1 => fun _ _ _ => False) (fun _ _ _ => by kernel_rfl) (fun M1 => (mkSeq (mkSeq mkLeaf (mkBlock (mkSeq mkLeaf mkLeaf))) (mkSeq (mkCnd mkLeaf mkLeaf) mkLeaf))) (fun x w => trystkeep_SpoilLogs.l1 R x.1 x.2 w) (by rintro ⟨c0, s0⟩ w ⟨I, μ, h0, h1⟩; refine ⟨fun y w => y.1 = c0 ∧ I y.2 w, fun y w => μ y.2 w, ⟨rfl, h0⟩, ?_⟩; rintro ⟨d0, t0⟩ w ⟨e0, hI⟩; dsimp only at e0 hI; subst e0; exact h1 _ _ hI) (fun _ _ => by kernel_rfl)))) mkLeaf) (kcast (by kernel_rfl) h)

/-! trystref22_Put -/
def trystref22_Put.c1 (R : Value → World → Prop) (l0 : Sl) (m3 : Addr) (w : World) : Prop :=
  ∃ S_1 : World → Prop, S_1 w.drew ∧
  ∃ x_2 : Int, (∀ x, S_1 x → x.cell? m3 = some (.int .i64 x_2)) ∧
  CallsV Try.prog n_trystref22_Have #[.slice l0.a l0.len l0.cap] w.drew (fun v_3 w1 =>
  ∃ (a_4 : Option Addr) (l_5 c_6 : Nat), v_3 = .slice a_4 l_5 c_6 ∧
  ∃ S_7 : World → Prop, (∀ x, S_7 x → S_1 x) ∧ S_7 w1 ∧
  0 ≤ (x_2 : Int) ∧ x_2 < ((l_5 : Nat) : Int) ∧ ∃ q_8 : Addr, a_4 = some q_8 ∧
  ∃ x_9 : Int, (∀ x, S_7 x → x.cell? (q_8.add (x_2 : Int).toNat) = some (.int .i64 x_9)) ∧
  ∃ x_10 : Int, w1.cell? (m3.add 1) = some (.int .i64 x_10) ∧
  cond (decide ((x_10 : Int) ≤ x_9))
  (CallsV Try.prog n_trystkeep_TwinLogs #[.slice l0.a l0.len l0.cap] w1 (fun v_11 w2 =>
  ∃ (a_12 : Option Addr) (l_13 c_14 : Nat), v_11 = .slice a_12 l_13 c_14 ∧
  R (.tuple #[.slice a_12 l_13 c_14, .bool false, .int .i64 0]) w2))
  (∃ x_15 : Int, w1.cell? (m3.add 1) = some (.int .i64 x_15) ∧
  cond (decide (((IntKind.i64.wrap (x_15 - 1)) : Int) > x_9))
  (R (.tuple #[.slice none 0 0, .bool false, .int .i64 14]) w1)
  (∃ x_16 : Int, w1.cell? m3 = some (.int .i64 x_16) ∧
  ∃ x_17 : Int, w1.cell? (m3.add 2) = some (.int .i64 x_17) ∧
  CallsV Try.prog n_trystref22_with #[.slice l0.a l0.len l0.cap, .int .i64 x_16, .int .i64 x_17] w1 (fun v_18 w3 =>
  ∃ (a_19 : Option Addr) (l_20 c_21 : Nat), ∃ x_22 : Int, v_18 = .tuple #[.slice a_19 l_20 c_21, .int .i64 x_22] ∧
  R (.tuple #[.slice a_19 l_20 c_21, .bool ((x_22 : Int) == 0), .int .i64 x_22]) w3))))

def trystref22_Put.main (R : Value → World → Prop) (l0 : Sl) (m1_0 : Int) (m1_1 : Int) (m1_2 : Int) (w : World) : Prop :=
  let w4 := w.alloc (.cells #[.int .i64 m1_0, .int .i64 m1_1, .int .i64 m1_2] 32);
  CallsV Try.prog n_trystref22_Logs #[.slice l0.a l0.len l0.cap] w4 (fun v_23 w5 =>
  ∃ b_24 : Bool, v_23 = .bool b_24 ∧
  cond (!b_24)
  (R (.tuple #[.slice none 0 0, .bool false, .int .i64 1]) w5)
  (∃ x_25 : Int, w5.cell? (newA w) = some (.int .i64 x_25) ∧
  ∃ x_26 : Int, w5.cell? ((newA w).add 2) = some (.int .i64 x_26) ∧
  CallsV Try.prog n_trystref22_may #[.int .i64 x_25, .int .i64 x_26] w5 (fun v_27 w6 =>
  ∃ b_28 : Bool, v_27 = .bool b_28 ∧
  cond (!b_28)
  (R (.tuple #[.slice none 0 0, .bool false, .int .i64 1]) w6)
  (∃ x_29 : Int, w6.cell? ((newA w).add 1) = some (.int .i64 x_29) ∧
  cond (decide ((x_29 : Int) < 1))
  (R (.tuple #[.slice none 0 0, .bool false, .int .i64 1]) w6)
  (trystref22_Put.c1 R l0 (newA w) w6)))))

def trystref22_Put.J0 (R : Value → World → Prop) (k : Nat) (fr : Fr) (w : World) : Prop :=
  cond (Nat.beq k 1) (dec [(0, .slice), (3, .addr)] fr fun x => trystref22_Put.c1 R x.1 x.2 w) (False)

set_option maxRecDepth 100000 in
theorem trystref22_Put.lift {R : Value → World → Prop} {l0 : Sl} {m1_0 : Int} {m1_1 : Int} {m1_2 : Int} {w : World} (h : trystref22_Put.main R l0 m1_0 m1_1 m1_2 w) : CallsV Try.prog n_trystref22_Put #[.slice l0.a l0.len l0.cap, .agg #[.int .i64 m1_0, .int .i64 m1_1, .int .i64 m1_2]] w R :=
  liftCalls (c := (.seq (.leaf (cL (bd Try.f24))) (.seq (.seq (.leaf (cL (cL (cR (bd Try.f24))))) (.cnd (.tmp 25) (.seq (.leaf (cL (cT (cR (cL (cR (bd Try.f24))))))) (.leaf (cR (cT (cR (cL (cR (bd Try.f24)))))))) (.leaf (cE (cR (cL (cR (bd Try.f24)))))))) (.cut 1 (.seq (.leaf (cL (cR (cR (bd Try.f24))))) (.seq (.seq (.leaf (cL (cL (cR (cR (cR (bd Try.f24))))))) (.cnd (.tmp 35) (.seq (.leaf (cL (cT (cR (cL (cR (cR (cR (bd Try.f24))))))))) (.leaf (cR (cT (cR (cL (cR (cR (cR (bd Try.f24)))))))))) (.leaf (cE (cR (cL (cR (cR (cR (bd Try.f24)))))))))) (.seq (.seq (.leaf (cL (cL (cR (cR (cR (cR (bd Try.f24)))))))) (.cnd (.tmp 42) (.seq (.leaf (cL (cT (cR (cL (cR (cR (cR (cR (bd Try.f24)))))))))) (.leaf (cR (cT (cR (cL (cR (cR (cR (cR (bd Try.f24))))))))))) (.leaf (cE (cR (cL (cR (cR (cR (cR (bd Try.f24))))))))))) (.seq (.leaf (cL (cR (cR (cR (cR (cR (bd Try.f24)))))))) (.seq (.leaf (cL (cR (cR (cR (cR (cR (cR (bd Try.f24))))))))) (.leaf (cR (cR (cR (cR (cR (cR (cR (bd Try.f24)))))))))))))))))) (J := trystref22_Put.J0 R) LfYtcegohgmagppbaa.mixed Try.func24 (by kernel_rfl) (by kernel_rfl) (mkSeq (mkSeq (mkCut (cutDef [(0, .slice), (3, .addr)] (fun x w => trystref22_Put.c1 R x.1 x.2 w) (fun _ _ => by kernel_rfl) (fun _ _ => by kernel_rfl)) (mkSeq (mkSeq (mkSeq (mkSeq (mkSeq mkLeaf mkLeaf) mkLeaf) (mkSeq (mkCnd (mkSeq mkLeaf mkLeaf) mkLeaf) mkLeaf)) (mkSeq (mkCnd (mkSeq mkLeaf mkLeaf) mkLeaf) mkLeaf)) mkLeaf)) (mkSeq (mkCnd (mkSeq mkLeaf mkLeaf) mkLeaf) mkLeaf)) mkLeaf) (kcast (by kernel_rfl) h)

/-! trystref22_Want -/
def trystref22_Want.c1 (R : Value → World → Prop) (t4 : Addr) (w : World) : Prop :=
  (∀ j, j < 3 → Wr w (t4.add j)) ∧
  (let w1 := setCells t4 [.int .i64 0, .int .i64 0, .int .i64 0] 0 w;
  ∃ x_1 : Int, w1.cell? t4 = some (.int .i64 x_1) ∧
  ∃ x_2 : Int, w1.cell? (t4.add 1) = some (.int .i64 x_2) ∧
  ∃ x_3 : Int, w1.cell? (t4.add 2) = some (.int .i64 x_3) ∧
  R (.tuple #[.agg #[.int .i64 x_1, .int .i64 x_2, .int .i64 x_3], .bool false]) w1)

def trystref22_Want.c3 (R : Value → World → Prop) (N2 : Sl → Sl → Addr → Int → World → Prop) (l0 : Sl) (t4 : Addr) (i6 : Int) (h7 : Int) (w : World) : Prop :=
  ∃ S_4 : World → Prop, S_4 w.drew ∧
  0 ≤ (i6 : Int) ∧ i6 < ((l0.len : Nat) : Int) ∧ ∃ q_5 : Addr, l0.a = some q_5 ∧
  ∃ x_6 : Int, (∀ x, S_4 x → x.cell? (q_5.add ((i6 : Int).toNat * 3)) = some (.int .i64 x_6)) ∧
  0 ≤ (i6 : Int) ∧ i6 < ((l0.len : Nat) : Int) ∧ ∃ q_7 : Addr, l0.a = some q_7 ∧
  ∃ (a_8 : Option Addr) (l_9 c_10 : Nat), (∀ x, S_4 x → x.cell? ((q_7.add ((i6 : Int).toNat * 3)).add 2) = some (.slice a_8 l_9 c_10)) ∧
  0 ≤ (i6 : Int) ∧ i6 < ((l0.len : Nat) : Int) ∧ ∃ q_11 : Addr, l0.a = some q_11 ∧
  ∃ x_12 : Int, (∀ x, S_4 x → x.cell? ((q_11.add ((i6 : Int).toNat * 3)).add 1) = some (.int .i64 x_12)) ∧
  0 ≤ ((IntKind.i64.wrap (h7 - x_12)) : Int) ∧ (IntKind.i64.wrap (h7 - x_12)) < ((l_9 : Nat) : Int) ∧ ∃ q_13 : Addr, a_8 = some q_13 ∧
  ∃ x_14 : Int, (∀ x, S_4 x → x.cell? (q_13.add (ixOff ((IntKind.i64.wrap (h7 - x_12)) : Int).toNat 1)) = some (.int .i64 x_14)) ∧
  (∀ j, j < 3 → Wr w.drew (t4.add j)) ∧
  (let w2 := setCells t4 [.int .i64 x_6, .int .i64 (IntKind.i64.wrap (h7 + 1)), .int .i64 x_14] 0 w.drew;
  ∃ x_15 : Int, w2.cell? t4 = some (.int .i64 x_15) ∧
  ∃ x_16 : Int, w2.cell? (t4.add 1) = some (.int .i64 x_16) ∧
  ∃ x_17 : Int, w2.cell? (t4.add 2) = some (.int .i64 x_17) ∧
  R (.tuple #[.agg #[.int .i64 x_15, .int .i64 x_16, .int .i64 x_17], .bool true]) w2)

def trystref22_Want.b2 (R : Value → World → Prop) (N2 : Sl → Sl → Addr → Int → World → Prop) (l0 : Sl) (have1 : Sl) (t4 : Addr) (i6 : Int) (w : World) : Prop :=
  cond (decide ((i6 : Int) < ((l0.len : Nat) : Int)))
  (0 ≤ (i6 : Int) ∧ i6 < ((l0.len : Nat) : Int) ∧ ∃ q_18 : Addr, l0.a = some q_18 ∧
  ∃ x_19 : Int, w.cell? (q_18.add ((i6 : Int).toNat * 3)) = some (.int .i64 x_19) ∧
  0 ≤ (x_19 : Int) ∧ x_19 < ((have1.len : Nat) : Int) ∧ ∃ q_20 : Addr, have1.a = some q_20 ∧
  ∃ x_21 : Int, w.cell? (q_20.add (x_19 : Int).toNat) = some (.int .i64 x_21) ∧
  cond (decide ((x_21 : Int) ≥ 0))
  (0 ≤ (i6 : Int) ∧ i6 < ((l0.len : Nat) : Int) ∧ ∃ q_22 : Addr, l0.a = some q_22 ∧
  ∃ x_23 : Int, w.cell? ((q_22.add ((i6 : Int).toNat * 3)).add 1) = some (.int .i64 x_23) ∧
  cond (decide ((x_21 : Int) ≥ x_23))
  (0 ≤ (i6 : Int) ∧ i6 < ((l0.len : Nat) : Int) ∧ ∃ q_24 : Addr, l0.a = some q_24 ∧
  ∃ x_25 : Int, w.cell? ((q_24.add ((i6 : Int).toNat * 3)).add 1) = some (.int .i64 x_25) ∧
  0 ≤ (i6 : Int) ∧ i6 < ((l0.len : Nat) : Int) ∧ ∃ q_26 : Addr, l0.a = some q_26 ∧
  ∃ (a_27 : Option Addr) (l_28 c_29 : Nat), w.cell? ((q_26.add ((i6 : Int).toNat * 3)).add 2) = some (.slice a_27 l_28 c_29) ∧
  cond (decide ((x_21 : Int) < (IntKind.i64.wrap (x_25 + ((l_28 : Nat) : Int)))))
  (trystref22_Want.c3 R N2 l0 t4 i6 x_21 w.drew)
  ((let i6_29 : Int := (IntKind.i64.wrap (i6 + 1));
  N2 l0 have1 t4 i6_29 w.drew)))
  ((let i6_30 : Int := (IntKind.i64.wrap (i6 + 1));
  N2 l0 have1 t4 i6_30 w.drew)))
  ((let i6_31 : Int := (IntKind.i64.wrap (i6 + 1));
  N2 l0 have1 t4 i6_31 w.drew)))
  (trystref22_Want.c1 R t4 w)

def trystref22_Want.l2 (R : Value → World → Prop) (l0 : Sl) (have1 : Sl) (t4 : Addr) (i6 : Int) (w : World) : Prop :=
  ∃ (I : Int → World → Prop) (μ : Int → World → Nat), I i6 w ∧ ∀ s w, I s w → trystref22_Want.b2 R (fun l0' have1' t4' i6' w' => (l0' = l0 ∧ have1' = have1 ∧ t4' = t4 ∧ I i6' w') ∧ μ i6' w' < μ s w) l0 have1 t4 s w

def trystref22_Want.c4 (R : Value → World → Prop) (l0 : Sl) (have1 : Sl) (t4 : Addr) (w : World) : Prop :=
  trystref22_Want.l2 R l0 have1 t4 0 w

def trystref22_Want.c5 (R : Value → World → Prop) (t4 : Addr) (w : World) : Prop :=
  (∀ j, j < 3 → Wr w (t4.add j)) ∧
  (let w3 := setCells t4 [.int .i64 0, .int .i64 0, .int .i64 0] 0 w;
  ∃ x_33 : Int, w3.cell? t4 = some (.int .i64 x_33) ∧
  ∃ x_34 : Int, w3.cell? (t4.add 1) = some (.int .i64 x_34) ∧
  ∃ x_35 : Int, w3.cell? (t4.add 2) = some (.int .i64 x_35) ∧
  R (.tuple #[.agg #[.int .i64 x_33, .int .i64 x_34, .int .i64 x_35], .bool false]) w3)

def trystref22_Want.main (R : Value → World → Prop) (l0 : Sl) (have1 : Sl) (w : World) : Prop :=
  let w4 := w.alloc (.cells #[.int .i64 0, .int .i64 0, .int .i64 0] 32);
  CallsV Try.prog n_trystref22_Logs #[.slice l0.a l0.len l0.cap] w4 (fun v_36 w5 =>
  ∃ b_37 : Bool, v_36 = .bool b_37 ∧
  cond (!b_37)
  (trystref22_Want.c5 R (newA w) w5)
  (cond ((((have1.len : Nat) : Int) : Int) != 8)
  (trystref22_Want.c5 R (newA w) w5)
  (trystref22_Want.c4 R l0 have1 (newA w) w5)))

def trystref22_Want.J2 (R : Value → World → Prop) (N2 : Sl → Sl → Addr → Int → World → Prop) (k : Nat) (fr : Fr) (w : World) : Prop :=
  cond (Nat.beq k 3) (dec [(0, .slice), (4, .addr), (6, (.int .i64)), (7, (.int .i64))] fr fun x => trystref22_Want.c3 R N2 x.1 x.2.1 x.2.2.1 x.2.2.2 w) (False)

def trystref22_Want.J0 (R : Value → World → Prop) (k : Nat) (fr : Fr) (w : World) : Prop :=
  cond (Nat.beq k 5) (dec [(4, .addr)] fr fun x => trystref22_Want.c5 R x w) (cond (Nat.beq k 4) (dec [(0, .slice), (1, .slice), (4, .addr)] fr fun x => trystref22_Want.c4 R x.1 x.2.1 x.2.2 w) (cond (Nat.beq k 2) (dec [(0, .slice), (1, .slice), (4, .addr), (6, (.int .i64))] fr fun x => trystref22_Want.l2 R x.1 x.2.1 x.2.2.1 x.2.2.2 w) (cond (Nat.beq k 1) (dec [(4, .addr)] fr fun x => trystref22_Want.c1 R x w) (False))))

set_option maxRecDepth 100000 in
theorem trystref22_Want.lift {R : Value → World → Prop} {l0 : Sl} {have1 : Sl} {w : World} (h : trystref22_Want.main R l0 have1 w) : CallsV Try.prog n_trystref22_Want #[.slice l0.a l0.len l0.cap, .slice have1.a have1.len have1.cap] w R :=
  liftCalls (c := (.seq (.leaf (cL (bd Try.f25))) (.seq (.seq (.leaf (cL (cL (cR (bd Try.f25))))) (.cnd (.tmp 15) (.cut 5 (.seq (.leaf (cL (cT (cR (cL (cR (bd Try.f25))))))) (.leaf (cR (cT (cR (cL (cR (bd Try.f25))))))))) (.leaf (cE (cR (cL (cR (bd Try.f25)))))))) (.cut 4 (.seq (.seq (.leaf (cL (cL (cR (cR (bd Try.f25)))))) (.block 0 (.loop 2 (.seq (.seq (.leaf (cL (cL (cB (cB (cR (cL (cR (cR (bd Try.f25)))))))))) (.cnd (.tmp 20) (.leaf (cT (cR (cL (cB (cB (cR (cL (cR (cR (bd Try.f25))))))))))) (.leaf (cE (cR (cL (cB (cB (cR (cL (cR (cR (bd Try.f25))))))))))))) (.seq (.block 1 (.seq (.leaf (cL (cB (cL (cR (cB (cB (cR (cL (cR (cR (bd Try.f25)))))))))))) (.seq (.leaf (cL (cR (cB (cL (cR (cB (cB (cR (cL (cR (cR (bd Try.f25))))))))))))) (.cnd (.tmp 57) (.cut 3 (.seq (.leaf (cL (cT (cR (cR (cB (cL (cR (cB (cB (cR (cL (cR (cR (bd Try.f25))))))))))))))) (.leaf (cR (cT (cR (cR (cB (cL (cR (cB (cB (cR (cL (cR (cR (bd Try.f25))))))))))))))))) (.leaf (cE (cR (cR (cB (cL (cR (cB (cB (cR (cL (cR (cR (bd Try.f25)))))))))))))))))) (.leaf (cR (cR (cB (cB (cR (cL (cR (cR (bd Try.f25))))))))))))))) (.cut 1 (.seq (.leaf (cL (cR (cR (cR (bd Try.f25)))))) (.leaf (cR (cR (cR (cR (bd Try.f25))))))))))))) (J := trystref22_Want.J0 R) LfYtcegohgmagppbaa.mixed Try.func25 (by kernel_rfl) (by kernel_rfl) (mkSeq (mkSeq (mkCut (cutDef [(0, .slice), (1, .slice), (4, .addr)] (fun x w => trystref22_Want.c4 R x.1 x.2.1 x.2.2 w) (fun _ _ => by kernel_rfl) (fun _ _ => by kernel_rfl)) (mkSeq (mkCut (cutDef [(4, .addr)] (fun x w => trystref22_Want.c1 R x w) (fun _ _ => by kernel_rfl) (fun _ _ => by kernel_rfl)) (mkSeq mkLeaf mkLeaf)) (mkSeq (mkBlock (mkLoop (loopDef LfYtcegohgmagppbaa.mixed [(0, .slice), (1, .slice), (4, .addr), (6, (.int .i64))] (by kernel_rfl) (fun M2 x w => trystref22_Want.b2 R (fun y0 y1 y2 y3 w => M2 (y0, y1, y2, y3) w) x.1 x.2.1 x.2.2.1 x.2.2.2 w) (fun M2 => trystref22_Want.J2 R (fun y0 y1 y2 y3 w => M2 (y0, y1, y2, y3) w)) (fun _ _ _ => by kernel_rfl) (fun M2 => (mkSeq (mkSeq mkLeaf (mkBlock (mkSeq (mkSeq (mkCnd (mkCut (cutDef [(0, .slice), (4, .addr), (6, (.int .i64)), (7, (.int .i64))] (fun x w => trystref22_Want.c3 R (fun y0 y1 y2 y3 w => M2 (y0, y1, y2, y3) w) x.1 x.2.1 x.2.2.1 x.2.2.2 w) (fun _ _ => by kernel_rfl) (fun _ _ => by kernel_rfl)) (mkSeq mkLeaf mkLeaf)) mkLeaf) mkLeaf) mkLeaf))) (mkSeq (mkCnd mkLeaf mkLeaf) mkLeaf))) (fun x w => trystref22_Want.l2 R x.1 x.2.1 x.2.2.1 x.2.2.2 w) (by rintro ⟨c0, c1, c2, s0⟩ w ⟨I, μ, h0, h1⟩; refine ⟨fun y w => y.1 = c0 ∧ y.2.1 = c1 ∧ y.2.2.1 = c2 ∧ I y.2.2.2 w, fun y w => μ y.2.2.2 w, ⟨rfl, rfl, rfl, h0⟩, ?_⟩; rintro ⟨d0, d1, d2, t0⟩ w ⟨e0, e1, e2, hI⟩; dsimp only at e0 e1 e2 hI; subst e0; subst e1; subst e2; exact h1 _ _ hI) (fun _ _ => by kernel_rfl)))) mkLeaf))) (mkSeq (mkCnd (mkCut (cutDef [(4, .addr)] (fun x w => trystref22_Want.c5 R x w) (fun _ _ => by kernel_rfl) (fun _ _ => by kernel_rfl)) (mkSeq mkLeaf mkLeaf)) mkLeaf) mkLeaf)) mkLeaf) (kcast (by kernel_rfl) h)

/-! trystkeep_Msg -/
def trystkeep_Msg.main (R : Value → World → Prop) (a0_0 : Int) (a0_1 : Int) (a0_2 : Int) (b1_0 : Int) (b1_1 : Int) (b1_2 : Int) (w : World) : Prop :=
  let w1 := w.alloc (.cells #[.int .i64 a0_0, .int .i64 a0_1, .int .i64 a0_2] 32);
  let w2 := w1.alloc (.cells #[.int .i64 b1_0, .int .i64 b1_1, .int .i64 b1_2] 32);
  ∃ x_1 : Int, w2.cell? (newA w) = some (.int .i64 x_1) ∧
  ∃ x_2 : Int, w2.cell? (newA w1) = some (.int .i64 x_2) ∧
  cond ((x_1 : Int) == x_2)
  (∃ x_3 : Int, w2.cell? ((newA w).add 1) = some (.int .i64 x_3) ∧
  ∃ x_4 : Int, w2.cell? ((newA w1).add 1) = some (.int .i64 x_4) ∧
  cond ((x_3 : Int) == x_4)
  (∃ x_5 : Int, w2.cell? ((newA w).add 2) = some (.int .i64 x_5) ∧
  ∃ x_6 : Int, w2.cell? ((newA w1).add 2) = some (.int .i64 x_6) ∧
  R (.bool ((x_5 : Int) == x_6)) w2)
  (R (.bool false) w2))
  (R (.bool false) w2)

def trystkeep_Msg.J0 (_ : Value → World → Prop) (_ : Nat) (_ : Fr) (_ : World) : Prop := False

set_option maxRecDepth 100000 in
theorem trystkeep_Msg.lift {R : Value → World → Prop} {a0_0 : Int} {a0_1 : Int} {a0_2 : Int} {b1_0 : Int} {b1_1 : Int} {b1_2 : Int} {w : World} (h : trystkeep_Msg.main R a0_0 a0_1 a0_2 b1_0 b1_1 b1_2 w) : CallsV Try.prog n_trystkeep_Msg #[.agg #[.int .i64 a0_0, .int .i64 a0_1, .int .i64 a0_2], .agg #[.int .i64 b1_0, .int .i64 b1_1, .int .i64 b1_2]] w R :=
  liftCalls (c := (.seq (.leaf (cL (bd Try.f26))) (.seq (.leaf (cL (cR (bd Try.f26)))) (.leaf (cR (cR (bd Try.f26))))))) (J := trystkeep_Msg.J0 R) LfYtcegohgmagppbaa.mixed Try.func26 (by kernel_rfl) (by kernel_rfl) (mkSeq (mkSeq mkLeaf mkLeaf) mkLeaf) (kcast (by kernel_rfl) h)

/-! trystref22_From -/
def trystref22_From.c2 (R : Value → World → Prop) (N1 : Sl → Sl → Int → World → Prop) (have0 : Sl) (out4 : Sl) (i5 : Int) (w : World) : Prop :=
  0 ≤ (i5 : Int) ∧ i5 < ((have0.len : Nat) : Int) ∧ ∃ q_1 : Addr, have0.a = some q_1 ∧
  ∃ x_2 : Int, w.cell? (q_1.add (i5 : Int).toNat) = some (.int .i64 x_2) ∧
  let w1 := w.alloc (.cells #[.int .i64 i5, .int .i64 x_2, .slice none 0 0] 45);
  ∃ (a_3 : Option Addr) (l_4 c_5 : Nat), ∃ w2 : World, (builtin .append #[24, 24] 24 #[] #[.slice out4.a out4.len out4.cap, .slice (some (newA w)) 1 1]).run Try.prog w1 = .ok (.value (.slice a_3 l_4 c_5)) w2 ∧
  (let i5_5 : Int := (IntKind.i64.wrap (i5 + 1));
  N1 have0 ⟨a_3, l_4, c_5⟩ i5_5 w2)

def trystref22_From.b1 (R : Value → World → Prop) (N1 : Sl → Sl → Int → World → Prop) (have0 : Sl) (out4 : Sl) (i5 : Int) (w : World) : Prop :=
  cond (decide ((i5 : Int) < ((have0.len : Nat) : Int)))
  (0 ≤ (i5 : Int) ∧ i5 < ((have0.len : Nat) : Int) ∧ ∃ q_7 : Addr, have0.a = some q_7 ∧
  ∃ x_8 : Int, w.cell? (q_7.add (i5 : Int).toNat) = some (.int .i64 x_8) ∧
  cond (decide ((x_8 : Int) < 0))
  (R (.tuple #[.slice none 0 0, .int .i64 1]) w)
  (0 ≤ (i5 : Int) ∧ i5 < ((have0.len : Nat) : Int) ∧ ∃ q_9 : Addr, have0.a = some q_9 ∧
  ∃ x_10 : Int, w.cell? (q_9.add (i5 : Int).toNat) = some (.int .i64 x_10) ∧
  cond (decide ((x_10 : Int) > 1073741824))
  (R (.tuple #[.slice none 0 0, .int .i64 1]) w)
  (trystref22_From.c2 R N1 have0 out4 i5 w)))
  (R (.tuple #[.slice out4.a out4.len out4.cap, .int .i64 0]) w)

def trystref22_From.l1 (R : Value → World → Prop) (have0 : Sl) (out4 : Sl) (i5 : Int) (w : World) : Prop :=
  ∃ (I : (Sl × Int) → World → Prop) (μ : (Sl × Int) → World → Nat), I (out4, i5) w ∧ ∀ s w, I s w → trystref22_From.b1 R (fun have0' out4' i5' w' => (have0' = have0 ∧ I (out4', i5') w') ∧ μ (out4', i5') w' < μ s w) have0 s.1 s.2 w

def trystref22_From.main (R : Value → World → Prop) (have0 : Sl) (w : World) : Prop :=
  cond ((((have0.len : Nat) : Int) : Int) != 8)
  (R (.tuple #[.slice none 0 0, .int .i64 1]) w)
  (trystref22_From.l1 R have0 ⟨none, 0, 0⟩ 0 w)

def trystref22_From.J1 (R : Value → World → Prop) (N1 : Sl → Sl → Int → World → Prop) (k : Nat) (fr : Fr) (w : World) : Prop :=
  cond (Nat.beq k 2) (dec [(0, .slice), (4, .slice), (5, (.int .i64))] fr fun x => trystref22_From.c2 R N1 x.1 x.2.1 x.2.2 w) (False)

def trystref22_From.J0 (R : Value → World → Prop) (k : Nat) (fr : Fr) (w : World) : Prop :=
  cond (Nat.beq k 1) (dec [(0, .slice), (4, .slice), (5, (.int .i64))] fr fun x => trystref22_From.l1 R x.1 x.2.1 x.2.2 w) (False)

set_option maxRecDepth 100000 in
theorem trystref22_From.lift {R : Value → World → Prop} {have0 : Sl} {w : World} (h : trystref22_From.main R have0 w) : CallsV Try.prog n_trystref22_From #[.slice have0.a have0.len have0.cap] w R :=
  liftCalls (c := (.seq (.leaf (cL (bd Try.f27))) (.seq (.seq (.leaf (cL (cL (cR (bd Try.f27))))) (.cnd (.tmp 8) (.seq (.leaf (cL (cT (cR (cL (cR (bd Try.f27))))))) (.leaf (cR (cT (cR (cL (cR (bd Try.f27)))))))) (.leaf (cE (cR (cL (cR (bd Try.f27)))))))) (.seq (.leaf (cL (cR (cR (bd Try.f27))))) (.seq (.seq (.leaf (cL (cL (cR (cR (cR (bd Try.f27))))))) (.block 0 (.loop 1 (.seq (.seq (.leaf (cL (cL (cB (cB (cR (cL (cR (cR (cR (bd Try.f27))))))))))) (.cnd (.tmp 12) (.leaf (cT (cR (cL (cB (cB (cR (cL (cR (cR (cR (bd Try.f27)))))))))))) (.leaf (cE (cR (cL (cB (cB (cR (cL (cR (cR (cR (bd Try.f27)))))))))))))) (.seq (.block 1 (.seq (.seq (.leaf (cL (cL (cB (cL (cR (cB (cB (cR (cL (cR (cR (cR (bd Try.f27)))))))))))))) (.cnd (.tmp 26) (.seq (.leaf (cL (cT (cR (cL (cB (cL (cR (cB (cB (cR (cL (cR (cR (cR (bd Try.f27)))))))))))))))) (.leaf (cR (cT (cR (cL (cB (cL (cR (cB (cB (cR (cL (cR (cR (cR (bd Try.f27))))))))))))))))) (.leaf (cE (cR (cL (cB (cL (cR (cB (cB (cR (cL (cR (cR (cR (bd Try.f27))))))))))))))))) (.cut 2 (.leaf (cR (cB (cL (cR (cB (cB (cR (cL (cR (cR (cR (bd Try.f27)))))))))))))))) (.leaf (cR (cR (cB (cB (cR (cL (cR (cR (cR (bd Try.f27)))))))))))))))) (.seq (.leaf (cL (cR (cR (cR (cR (bd Try.f27))))))) (.leaf (cR (cR (cR (cR (cR (bd Try.f27))))))))))))) (J := trystref22_From.J0 R) LfYtcegohgmagppbaa.mixed Try.func27 (by kernel_rfl) (by kernel_rfl) (mkSeq (mkSeq (mkSeq (mkSeq (mkSeq mkLeaf mkLeaf) (mkSeq (mkBlock (mkLoop (loopDef LfYtcegohgmagppbaa.mixed [(0, .slice), (4, .slice), (5, (.int .i64))] (by kernel_rfl) (fun M1 x w => trystref22_From.b1 R (fun y0 y1 y2 w => M1 (y0, y1, y2) w) x.1 x.2.1 x.2.2 w) (fun M1 => trystref22_From.J1 R (fun y0 y1 y2 w => M1 (y0, y1, y2) w)) (fun _ _ _ => by kernel_rfl) (fun M1 => (mkSeq (mkSeq mkLeaf (mkBlock (mkSeq (mkCut (cutDef [(0, .slice), (4, .slice), (5, (.int .i64))] (fun x w => trystref22_From.c2 R (fun y0 y1 y2 w => M1 (y0, y1, y2) w) x.1 x.2.1 x.2.2 w) (fun _ _ => by kernel_rfl) (fun _ _ => by kernel_rfl)) mkLeaf) (mkSeq (mkCnd (mkSeq mkLeaf mkLeaf) mkLeaf) mkLeaf)))) (mkSeq (mkCnd mkLeaf mkLeaf) mkLeaf))) (fun x w => trystref22_From.l1 R x.1 x.2.1 x.2.2 w) (by rintro ⟨c0, s0⟩ w ⟨I, μ, h0, h1⟩; refine ⟨fun y w => y.1 = c0 ∧ I y.2 w, fun y w => μ y.2 w, ⟨rfl, h0⟩, ?_⟩; rintro ⟨d0, t0⟩ w ⟨e0, hI⟩; dsimp only at e0 hI; subst e0; exact h1 _ _ hI) (fun _ _ => by kernel_rfl)))) mkLeaf)) mkLeaf) (mkSeq (mkCnd (mkSeq mkLeaf mkLeaf) mkLeaf) mkLeaf)) mkLeaf) (kcast (by kernel_rfl) h)

/-! logs_client -/
def logs_client.main (R : Value → World → Prop) (c0 : Int) (w : World) : Prop :=
  cond (decide ((c0 : Int) ≥ 0))
  ((let t2_0 : Bool := (decide ((c0 : Int) < 8));
  R (.bool t2_0) w))
  (R (.bool false) w)

def logs_client.J0 (_ : Value → World → Prop) (_ : Nat) (_ : Fr) (_ : World) : Prop := False

set_option maxRecDepth 100000 in
theorem logs_client.lift {R : Value → World → Prop} {c0 : Int} {w : World} (h : logs_client.main R c0 w) : CallsV Try.prog n_logs_client #[.int .i64 c0] w R :=
  liftCalls (c := (.seq (.leaf (cL (bd Try.f28))) (.seq (.leaf (cL (cR (bd Try.f28)))) (.leaf (cR (cR (bd Try.f28))))))) (J := logs_client.J0 R) LfYtcegohgmagppbaa.mixed Try.func28 (by kernel_rfl) (by kernel_rfl) (mkSeq (mkSeq mkLeaf mkLeaf) mkLeaf) (kcast (by kernel_rfl) h)

/-! logs_body -/
def logs_body.main (R : Value → World → Prop) (b0 : Int) (w : World) : Prop :=
  cond (decide ((b0 : Int) ≥ 0))
  ((let t2_0 : Bool := (decide ((b0 : Int) ≤ 1048576));
  R (.bool t2_0) w))
  (R (.bool false) w)

def logs_body.J0 (_ : Value → World → Prop) (_ : Nat) (_ : Fr) (_ : World) : Prop := False

set_option maxRecDepth 100000 in
theorem logs_body.lift {R : Value → World → Prop} {b0 : Int} {w : World} (h : logs_body.main R b0 w) : CallsV Try.prog n_logs_body #[.int .i64 b0] w R :=
  liftCalls (c := (.seq (.leaf (cL (bd Try.f29))) (.seq (.leaf (cL (cR (bd Try.f29)))) (.leaf (cR (cR (bd Try.f29))))))) (J := logs_body.J0 R) LfYtcegohgmagppbaa.mixed Try.func29 (by kernel_rfl) (by kernel_rfl) (mkSeq (mkSeq mkLeaf mkLeaf) mkLeaf) (kcast (by kernel_rfl) h)

/-! logs_of -/
def logs_of.c1 (R : Value → World → Prop) (out6 : Sl) (at7 : Int) (w : World) : Prop :=
  R (.tuple #[.slice out6.a out6.len out6.cap, .int .i64 at7]) w

def logs_of.c2 (R : Value → World → Prop) (c1 : Int) (out6 : Sl) (at7 : Int) (w : World) : Prop :=
  let w1 := w.alloc (.cells #[.int .i64 c1, .int .i64 0, .slice none 0 0] 45);
  CallsV Try.prog n_slices_Insert_Log #[.slice out6.a out6.len out6.cap, .int .i64 at7, .slice (some (newA w)) 1 1] w1 (fun v_1 w2 =>
  ∃ (a_2 : Option Addr) (l_3 c_4 : Nat), v_1 = .slice a_2 l_3 c_4 ∧
  logs_of.c1 R ⟨a_2, l_3, c_4⟩ at7 w2)

def logs_of.c3 (R : Value → World → Prop) (c1 : Int) (out6 : Sl) (at7 : Int) (w : World) : Prop :=
  cond ((at7 : Int) == ((out6.len : Nat) : Int))
  (logs_of.c2 R c1 out6 at7 w)
  (0 ≤ (at7 : Int) ∧ at7 < ((out6.len : Nat) : Int) ∧ ∃ q_5 : Addr, out6.a = some q_5 ∧
  ∃ x_6 : Int, w.cell? (q_5.add ((at7 : Int).toNat * 3)) = some (.int .i64 x_6) ∧
  cond ((x_6 : Int) != c1)
  (logs_of.c2 R c1 out6 at7 w)
  (logs_of.c1 R out6 at7 w))

def logs_of.c5 (R : Value → World → Prop) (N4 : Int → Sl → Int → World → Prop) (c1 : Int) (out6 : Sl) (at7 : Int) (w : World) : Prop :=
  (let at7_6 : Int := (IntKind.i64.wrap (at7 + 1));
  N4 c1 out6 at7_6 w)

def logs_of.b4 (R : Value → World → Prop) (N4 : Int → Sl → Int → World → Prop) (c1 : Int) (out6 : Sl) (at7 : Int) (w : World) : Prop :=
  cond (decide ((at7 : Int) < ((out6.len : Nat) : Int)))
  (0 ≤ (at7 : Int) ∧ at7 < ((out6.len : Nat) : Int) ∧ ∃ q_8 : Addr, out6.a = some q_8 ∧
  ∃ x_9 : Int, w.cell? (q_8.add ((at7 : Int).toNat * 3)) = some (.int .i64 x_9) ∧
  cond (decide ((x_9 : Int) < c1))
  (logs_of.c5 R N4 c1 out6 at7 w)
  (logs_of.c3 R c1 out6 at7 w))
  (logs_of.c3 R c1 out6 at7 w)

def logs_of.l4 (R : Value → World → Prop) (c1 : Int) (out6 : Sl) (at7 : Int) (w : World) : Prop :=
  ∃ (I : Int → World → Prop) (μ : Int → World → Nat), I at7 w ∧ ∀ s w, I s w → logs_of.b4 R (fun c1' out6' at7' w' => (c1' = c1 ∧ out6' = out6 ∧ I at7' w') ∧ μ at7' w' < μ s w) c1 out6 s w

def logs_of.main (R : Value → World → Prop) (l0 : Sl) (c1 : Int) (w : World) : Prop :=
  CallsV Try.prog n_logs_twin #[.slice l0.a l0.len l0.cap] w (fun v_10 w3 =>
  ∃ (a_11 : Option Addr) (l_12 c_13 : Nat), v_10 = .slice a_11 l_12 c_13 ∧
  logs_of.l4 R c1 ⟨a_11, l_12, c_13⟩ 0 w3)

def logs_of.J4 (R : Value → World → Prop) (N4 : Int → Sl → Int → World → Prop) (k : Nat) (fr : Fr) (w : World) : Prop :=
  cond (Nat.beq k 5) (dec [(1, (.int .i64)), (6, .slice), (7, (.int .i64))] fr fun x => logs_of.c5 R N4 x.1 x.2.1 x.2.2 w) (False)

def logs_of.J0 (R : Value → World → Prop) (k : Nat) (fr : Fr) (w : World) : Prop :=
  cond (Nat.beq k 4) (dec [(1, (.int .i64)), (6, .slice), (7, (.int .i64))] fr fun x => logs_of.l4 R x.1 x.2.1 x.2.2 w) (cond (Nat.beq k 3) (dec [(1, (.int .i64)), (6, .slice), (7, (.int .i64))] fr fun x => logs_of.c3 R x.1 x.2.1 x.2.2 w) (cond (Nat.beq k 2) (dec [(1, (.int .i64)), (6, .slice), (7, (.int .i64))] fr fun x => logs_of.c2 R x.1 x.2.1 x.2.2 w) (cond (Nat.beq k 1) (dec [(6, .slice), (7, (.int .i64))] fr fun x => logs_of.c1 R x.1 x.2 w) (False))))

set_option maxRecDepth 100000 in
theorem logs_of.lift {R : Value → World → Prop} {l0 : Sl} {c1 : Int} {w : World} (h : logs_of.main R l0 c1 w) : CallsV Try.prog n_logs_of #[.slice l0.a l0.len l0.cap, .int .i64 c1] w R :=
  liftCalls (c := (.seq (.leaf (cL (bd Try.f30))) (.seq (.leaf (cL (cR (bd Try.f30)))) (.seq (.leaf (cL (cR (cR (bd Try.f30))))) (.seq (.block 0 (.loop 4 (.seq (.seq (.leaf (cL (cL (cB (cB (cL (cR (cR (cR (bd Try.f30)))))))))) (.cnd (.tmp 22) (.leaf (cT (cR (cL (cB (cB (cL (cR (cR (cR (bd Try.f30))))))))))) (.leaf (cE (cR (cL (cB (cB (cL (cR (cR (cR (bd Try.f30))))))))))))) (.cut 5 (.block 1 (.leaf (cB (cR (cB (cB (cL (cR (cR (cR (bd Try.f30))))))))))))))) (.cut 3 (.seq (.seq (.leaf (cL (cL (cR (cR (cR (cR (bd Try.f30)))))))) (.cnd (.tmp 37) (.cut 2 (.leaf (cT (cR (cL (cR (cR (cR (cR (bd Try.f30)))))))))) (.leaf (cE (cR (cL (cR (cR (cR (cR (bd Try.f30))))))))))) (.cut 1 (.seq (.leaf (cL (cR (cR (cR (cR (cR (bd Try.f30)))))))) (.leaf (cR (cR (cR (cR (cR (cR (bd Try.f30))))))))))))))))) (J := logs_of.J0 R) LfYtcegohgmagppbaa.mixed Try.func30 (by kernel_rfl) (by kernel_rfl) (mkSeq (mkSeq (mkSeq (mkSeq (mkCut (cutDef [(1, (.int .i64)), (6, .slice), (7, (.int .i64))] (fun x w => logs_of.c3 R x.1 x.2.1 x.2.2 w) (fun _ _ => by kernel_rfl) (fun _ _ => by kernel_rfl)) (mkSeq (mkCut (cutDef [(6, .slice), (7, (.int .i64))] (fun x w => logs_of.c1 R x.1 x.2 w) (fun _ _ => by kernel_rfl) (fun _ _ => by kernel_rfl)) (mkSeq mkLeaf mkLeaf)) (mkSeq (mkCnd (mkCut (cutDef [(1, (.int .i64)), (6, .slice), (7, (.int .i64))] (fun x w => logs_of.c2 R x.1 x.2.1 x.2.2 w) (fun _ _ => by kernel_rfl) (fun _ _ => by kernel_rfl)) mkLeaf) mkLeaf) mkLeaf))) (mkBlock (mkLoop (loopDef LfYtcegohgmagppbaa.mixed [(1, (.int .i64)), (6, .slice), (7, (.int .i64))] (by kernel_rfl) (fun M4 x w => logs_of.b4 R (fun y0 y1 y2 w => M4 (y0, y1, y2) w) x.1 x.2.1 x.2.2 w) (fun M4 => logs_of.J4 R (fun y0 y1 y2 w => M4 (y0, y1, y2) w)) (fun _ _ _ => by kernel_rfl) (fun M4 => (mkSeq (mkCut (cutDef [(1, (.int .i64)), (6, .slice), (7, (.int .i64))] (fun x w => logs_of.c5 R (fun y0 y1 y2 w => M4 (y0, y1, y2) w) x.1 x.2.1 x.2.2 w) (fun _ _ => by kernel_rfl) (fun _ _ => by kernel_rfl)) (mkBlock mkLeaf)) (mkSeq (mkCnd mkLeaf mkLeaf) mkLeaf))) (fun x w => logs_of.l4 R x.1 x.2.1 x.2.2 w) (by rintro ⟨c0, c1, s0⟩ w ⟨I, μ, h0, h1⟩; refine ⟨fun y w => y.1 = c0 ∧ y.2.1 = c1 ∧ I y.2.2 w, fun y w => μ y.2.2 w, ⟨rfl, rfl, h0⟩, ?_⟩; rintro ⟨d0, d1, t0⟩ w ⟨e0, e1, hI⟩; dsimp only at e0 e1 hI; subst e0; subst e1; exact h1 _ _ hI) (fun _ _ => by kernel_rfl))))) mkLeaf) mkLeaf) mkLeaf) (kcast (by kernel_rfl) h)

/-! slices_Clone_Log -/
def slices_Clone_Log.main (R : Value → World → Prop) (s0 : Sl) (w : World) : Prop :=
  cond ((s0.a).isNone)
  (R (.slice none 0 0) w)
  (let w1 := w.alloc (.cells #[] 45);
  ∃ (a_1 : Option Addr) (l_2 c_3 : Nat), ∃ w2 : World, (builtin .append #[24, 24] 24 #[] #[.slice (some (newA w)) 0 0, .slice s0.a s0.len s0.cap]).run Try.prog w1 = .ok (.value (.slice a_1 l_2 c_3)) w2 ∧
  R (.slice a_1 l_2 c_3) w2)

def slices_Clone_Log.J0 (_ : Value → World → Prop) (_ : Nat) (_ : Fr) (_ : World) : Prop := False

set_option maxRecDepth 100000 in
theorem slices_Clone_Log.lift {R : Value → World → Prop} {s0 : Sl} {w : World} (h : slices_Clone_Log.main R s0 w) : CallsV Try.prog n_slices_Clone_Log #[.slice s0.a s0.len s0.cap] w R :=
  liftCalls (c := (.seq (.leaf (cL (bd Try.f31))) (.seq (.seq (.leaf (cL (cL (cR (bd Try.f31))))) (.cnd (.tmp 4) (.seq (.leaf (cL (cT (cR (cL (cR (bd Try.f31))))))) (.leaf (cR (cT (cR (cL (cR (bd Try.f31)))))))) (.leaf (cE (cR (cL (cR (bd Try.f31)))))))) (.seq (.leaf (cL (cR (cR (bd Try.f31))))) (.leaf (cR (cR (cR (bd Try.f31))))))))) (J := slices_Clone_Log.J0 R) LfYtcegohgmagppbaa.mixed Try.func31 (by kernel_rfl) (by kernel_rfl) (mkSeq (mkSeq (mkSeq mkLeaf mkLeaf) (mkSeq (mkCnd (mkSeq mkLeaf mkLeaf) mkLeaf) mkLeaf)) mkLeaf) (kcast (by kernel_rfl) h)

/-! logs_has -/
def logs_has.main (R : Value → World → Prop) (g0_0 : Int) (g0_1 : Int) (g0_2 : Sl) (w : World) : Prop :=
  let w1 := w.alloc (.cells #[.int .i64 g0_0, .int .i64 g0_1, .slice g0_2.a g0_2.len g0_2.cap] 45);
  ∃ x_1 : Int, w1.cell? ((newA w).add 1) = some (.int .i64 x_1) ∧
  ∃ (a_2 : Option Addr) (l_3 c_4 : Nat), w1.cell? ((newA w).add 2) = some (.slice a_2 l_3 c_4) ∧
  (let t2_4 : Int := (IntKind.i64.wrap (x_1 + ((l_3 : Nat) : Int)));
  R (.int .i64 t2_4) w1)

def logs_has.J0 (_ : Value → World → Prop) (_ : Nat) (_ : Fr) (_ : World) : Prop := False

set_option maxRecDepth 100000 in
theorem logs_has.lift {R : Value → World → Prop} {g0_0 : Int} {g0_1 : Int} {g0_2 : Sl} {w : World} (h : logs_has.main R g0_0 g0_1 g0_2 w) : CallsV Try.prog n_logs_has #[.agg #[.int .i64 g0_0, .int .i64 g0_1, .slice g0_2.a g0_2.len g0_2.cap]] w R :=
  liftCalls (c := (.seq (.leaf (cL (bd Try.f32))) (.seq (.leaf (cL (cR (bd Try.f32)))) (.leaf (cR (cR (bd Try.f32))))))) (J := logs_has.J0 R) LfYtcegohgmagppbaa.mixed Try.func32 (by kernel_rfl) (by kernel_rfl) (mkSeq (mkSeq mkLeaf mkLeaf) mkLeaf) (kcast (by kernel_rfl) h)

/-! logs_twin -/
def logs_twin.b1 (R : Value → World → Prop) (N1 : Sl → Int → Int → World → Prop) (out3 : Sl) (t8 : Int) (t9 : Int) (w : World) : Prop :=
  cond (decide ((t9 : Int) < t8))
  (0 ≤ (t9 : Int) ∧ t9 < ((out3.len : Nat) : Int) ∧ ∃ q_1 : Addr, out3.a = some q_1 ∧
  ∃ (a_2 : Option Addr) (l_3 c_4 : Nat), w.cell? ((q_1.add ((t9 : Int).toNat * 3)).add 2) = some (.slice a_2 l_3 c_4) ∧
  CallsV Try.prog n_slices_Clone_int #[.slice a_2 l_3 c_4] w (fun v_5 w1 =>
  ∃ (a_6 : Option Addr) (l_7 c_8 : Nat), v_5 = .slice a_6 l_7 c_8 ∧
  0 ≤ (t9 : Int) ∧ t9 < ((out3.len : Nat) : Int) ∧ ∃ q_9 : Addr, out3.a = some q_9 ∧
  Wr w1 ((q_9.add ((t9 : Int).toNat * 3)).add 2) ∧
  (let w2 := w1.setCell ((q_9.add ((t9 : Int).toNat * 3)).add 2) (.slice a_6 l_7 c_8);
  N1 out3 t8 (IntKind.i64.wrap (t9 + 1)) w2)))
  (R (.slice out3.a out3.len out3.cap) w)

def logs_twin.l1 (R : Value → World → Prop) (out3 : Sl) (t8 : Int) (t9 : Int) (w : World) : Prop :=
  ∃ (I : Int → World → Prop) (μ : Int → World → Nat), I t9 w ∧ ∀ s w, I s w → logs_twin.b1 R (fun out3' t8' t9' w' => (out3' = out3 ∧ t8' = t8 ∧ I t9' w') ∧ μ t9' w' < μ s w) out3 t8 s w

def logs_twin.main (R : Value → World → Prop) (l0 : Sl) (w : World) : Prop :=
  CallsV Try.prog n_slices_Clone_Log #[.slice l0.a l0.len l0.cap] w (fun v_10 w3 =>
  ∃ (a_11 : Option Addr) (l_12 c_13 : Nat), v_10 = .slice a_11 l_12 c_13 ∧
  logs_twin.l1 R ⟨a_11, l_12, c_13⟩ ((l_12 : Nat) : Int) 0 w3)

def logs_twin.J0 (R : Value → World → Prop) (k : Nat) (fr : Fr) (w : World) : Prop :=
  cond (Nat.beq k 1) (dec [(3, .slice), (8, (.int .i64)), (9, (.int .i64))] fr fun x => logs_twin.l1 R x.1 x.2.1 x.2.2 w) (False)

set_option maxRecDepth 100000 in
theorem logs_twin.lift {R : Value → World → Prop} {l0 : Sl} {w : World} (h : logs_twin.main R l0 w) : CallsV Try.prog n_logs_twin #[.slice l0.a l0.len l0.cap] w R :=
  liftCalls (c := (.seq (.leaf (cL (bd Try.f33))) (.seq (.leaf (cL (cR (bd Try.f33)))) (.seq (.seq (.leaf (cL (cL (cR (cR (bd Try.f33)))))) (.block 0 (.loop 1 (.seq (.leaf (cL (cB (cB (cR (cL (cR (cR (bd Try.f33))))))))) (.seq (.cnd (.tmp 10) (.leaf (cT (cL (cR (cB (cB (cR (cL (cR (cR (bd Try.f33))))))))))) (.leaf (cE (cL (cR (cB (cB (cR (cL (cR (cR (bd Try.f33)))))))))))) (.seq (.block 1 (.seq (.leaf (cL (cB (cL (cR (cR (cB (cB (cR (cL (cR (cR (bd Try.f33))))))))))))) (.leaf (cR (cB (cL (cR (cR (cB (cB (cR (cL (cR (cR (bd Try.f33))))))))))))))) (.leaf (cR (cR (cR (cB (cB (cR (cL (cR (cR (bd Try.f33))))))))))))))))) (.seq (.leaf (cL (cR (cR (cR (bd Try.f33)))))) (.leaf (cR (cR (cR (cR (bd Try.f33))))))))))) (J := logs_twin.J0 R) LfYtcegohgmagppbaa.mixed Try.func33 (by kernel_rfl) (by kernel_rfl) (mkSeq (mkSeq (mkSeq (mkSeq mkLeaf mkLeaf) (mkSeq (mkBlock (mkLoop (loopDef LfYtcegohgmagppbaa.mixed [(3, .slice), (8, (.int .i64)), (9, (.int .i64))] (by kernel_rfl) (fun M1 x w => logs_twin.b1 R (fun y0 y1 y2 w => M1 (y0, y1, y2) w) x.1 x.2.1 x.2.2 w) (fun M1 => fun _ _ _ => False) (fun _ _ _ => by kernel_rfl) (fun M1 => (mkSeq (mkSeq (mkSeq mkLeaf (mkBlock (mkSeq mkLeaf mkLeaf))) (mkCnd mkLeaf mkLeaf)) mkLeaf)) (fun x w => logs_twin.l1 R x.1 x.2.1 x.2.2 w) (by rintro ⟨c0, c1, s0⟩ w ⟨I, μ, h0, h1⟩; refine ⟨fun y w => y.1 = c0 ∧ y.2.1 = c1 ∧ I y.2.2 w, fun y w => μ y.2.2 w, ⟨rfl, rfl, h0⟩, ?_⟩; rintro ⟨d0, d1, t0⟩ w ⟨e0, e1, hI⟩; dsimp only at e0 e1 hI; subst e0; subst e1; exact h1 _ _ hI) (fun _ _ => by kernel_rfl)))) mkLeaf)) mkLeaf) mkLeaf) (kcast (by kernel_rfl) h)

/-! slices_ContainsFunc_int -/
def slices_ContainsFunc_int__logs_Check_1.main (R : Value → World → Prop) (s0 : Sl) (w : World) : Prop :=
  CallsV Try.prog n_slices_IndexFunc_int #[.slice s0.a s0.len s0.cap, .func (.func n_logs_Check_1) #[] #[]] w (fun v_1 w1 =>
  ∃ x_2 : Int, v_1 = .int .i64 x_2 ∧
  (let t4_2 : Bool := (decide ((x_2 : Int) ≥ 0));
  R (.bool t4_2) w1))

def slices_ContainsFunc_int__logs_Check_1.J0 (_ : Value → World → Prop) (_ : Nat) (_ : Fr) (_ : World) : Prop := False

set_option maxRecDepth 100000 in
theorem slices_ContainsFunc_int__logs_Check_1.lift {R : Value → World → Prop} {s0 : Sl} {w : World} (h : slices_ContainsFunc_int__logs_Check_1.main R s0 w) : CallsV Try.prog n_slices_ContainsFunc_int #[.slice s0.a s0.len s0.cap, .func (.func n_logs_Check_1) #[] #[]] w R :=
  liftCalls (c := (.seq (.leaf (cL (bd Try.f34))) (.seq (.leaf (cL (cR (bd Try.f34)))) (.leaf (cR (cR (bd Try.f34))))))) (J := slices_ContainsFunc_int__logs_Check_1.J0 R) LfYtcegohgmagppbaa.mixed Try.func34 (by kernel_rfl) (by kernel_rfl) (mkSeq (mkSeq mkLeaf mkLeaf) mkLeaf) (kcast (by kernel_rfl) h)

/-! logs_Check_1 -/
def logs_Check_1.main (R : Value → World → Prop) (b0 : Int) (w : World) : Prop :=
  CallsV Try.prog n_logs_body #[.int .i64 b0] w (fun v_1 w1 =>
  ∃ b_2 : Bool, v_1 = .bool b_2 ∧
  R (.bool (!b_2)) w1)

def logs_Check_1.J0 (_ : Value → World → Prop) (_ : Nat) (_ : Fr) (_ : World) : Prop := False

set_option maxRecDepth 100000 in
theorem logs_Check_1.lift {R : Value → World → Prop} {b0 : Int} {w : World} (h : logs_Check_1.main R b0 w) : CallsV Try.prog n_logs_Check_1 #[.int .i64 b0] w R :=
  liftCalls (c := (.seq (.leaf (cL (bd Try.f35))) (.seq (.leaf (cL (cR (bd Try.f35)))) (.leaf (cR (cR (bd Try.f35))))))) (J := logs_Check_1.J0 R) LfYtcegohgmagppbaa.mixed Try.func35 (by kernel_rfl) (by kernel_rfl) (mkSeq (mkSeq mkLeaf mkLeaf) mkLeaf) (kcast (by kernel_rfl) h)

/-! trystref22_may -/
def trystref22_may.main (R : Value → World → Prop) (client0 : Int) (body1 : Int) (w : World) : Prop :=
  cond (decide ((client0 : Int) ≥ 0))
  (cond (decide ((client0 : Int) < 8))
  (cond (decide ((body1 : Int) ≥ 0))
  ((let t4_0 : Bool := (decide ((body1 : Int) ≤ 1048576));
  R (.bool t4_0) w))
  (R (.bool false) w))
  (R (.bool false) w))
  (R (.bool false) w)

def trystref22_may.J0 (_ : Value → World → Prop) (_ : Nat) (_ : Fr) (_ : World) : Prop := False

set_option maxRecDepth 100000 in
theorem trystref22_may.lift {R : Value → World → Prop} {client0 : Int} {body1 : Int} {w : World} (h : trystref22_may.main R client0 body1 w) : CallsV Try.prog n_trystref22_may #[.int .i64 client0, .int .i64 body1] w R :=
  liftCalls (c := (.seq (.leaf (cL (bd Try.f36))) (.seq (.leaf (cL (cR (bd Try.f36)))) (.leaf (cR (cR (bd Try.f36))))))) (J := trystref22_may.J0 R) LfYtcegohgmagppbaa.mixed Try.func36 (by kernel_rfl) (by kernel_rfl) (mkSeq (mkSeq mkLeaf mkLeaf) mkLeaf) (kcast (by kernel_rfl) h)

/-! trystref22_with -/
def trystref22_with.c1 (R : Value → World → Prop) (body2 : Int) (out8 : Sl) (at9 : Int) (w : World) : Prop :=
  0 ≤ (at9 : Int) ∧ at9 < ((out8.len : Nat) : Int) ∧ ∃ q_1 : Addr, out8.a = some q_1 ∧
  ∃ (a_2 : Option Addr) (l_3 c_4 : Nat), w.cell? ((q_1.add ((at9 : Int).toNat * 3)).add 2) = some (.slice a_2 l_3 c_4) ∧
  cond (decide ((((l_3 : Nat) : Int) : Int) ≥ 32))
  (R (.tuple #[.slice none 0 0, .int .i64 20]) w)
  (0 ≤ (at9 : Int) ∧ at9 < ((out8.len : Nat) : Int) ∧ ∃ q_5 : Addr, out8.a = some q_5 ∧
  ∃ (a_6 : Option Addr) (l_7 c_8 : Nat), w.cell? ((q_5.add ((at9 : Int).toNat * 3)).add 2) = some (.slice a_6 l_7 c_8) ∧
  let w1 := w.alloc (.cells #[.int .i64 body2] 3);
  ∃ (a_9 : Option Addr) (l_10 c_11 : Nat), ∃ w2 : World, (builtin .append #[23, 23] 23 #[] #[.slice a_6 l_7 c_8, .slice (some (newA w)) 1 1]).run Try.prog w1 = .ok (.value (.slice a_9 l_10 c_11)) w2 ∧
  0 ≤ (at9 : Int) ∧ at9 < ((out8.len : Nat) : Int) ∧ ∃ q_12 : Addr, out8.a = some q_12 ∧
  Wr w2 ((q_12.add ((at9 : Int).toNat * 3)).add 2) ∧
  (let w3 := w2.setCell ((q_12.add ((at9 : Int).toNat * 3)).add 2) (.slice a_9 l_10 c_11);
  R (.tuple #[.slice out8.a out8.len out8.cap, .int .i64 0]) w3))

def trystref22_with.c2 (R : Value → World → Prop) (client1 : Int) (body2 : Int) (out8 : Sl) (at9 : Int) (w : World) : Prop :=
  ∃ S_13 : World → Prop, S_13 w.drew ∧
  0 ≤ ((0 : Int) : Int) ∧ ((0 : Int) : Int) ≤ at9 ∧ (at9 : Int) ≤ ((out8.cap : Nat) : Int) ∧ (((out8.cap : Nat) : Int) : Int) ≤ ((out8.cap : Nat) : Int) ∧
  0 ≤ (at9 : Int) ∧ (at9 : Int) ≤ ((out8.len : Nat) : Int) ∧ (((out8.len : Nat) : Int) : Int) ≤ ((out8.cap : Nat) : Int) ∧ (((out8.cap : Nat) : Int) : Int) ≤ ((out8.cap : Nat) : Int) ∧
  (∃ (a_14 : Option Addr) (l_15 c_16 : Nat), ∃ w4 : World, (builtin .append #[24, 24] 24 #[] #[.slice none 0 0, .slice (if ((((out8.cap : Nat) : Int) : Int)).toNat = (((0 : Int) : Int)).toNat then out8.a else (out8.a).map (·.add ((((0 : Int) : Int)).toNat * 3))) (((at9 : Int)).toNat - (((0 : Int) : Int)).toNat) (((((out8.cap : Nat) : Int) : Int)).toNat - (((0 : Int) : Int)).toNat)]).run Try.prog w.drew = .ok (.value (.slice a_14 l_15 c_16)) w4 ∧
  let w5 := w4.alloc (.cells #[.int .i64 client1, .int .i64 0, .slice none 0 0] 45);
  ∃ (a_17 : Option Addr) (l_18 c_19 : Nat), ∃ w6 : World, (builtin .append #[24, 24] 24 #[] #[.slice a_14 l_15 c_16, .slice (some (newA w4)) 1 1]).run Try.prog w5 = .ok (.value (.slice a_17 l_18 c_19)) w6 ∧
  ∃ (a_20 : Option Addr) (l_21 c_22 : Nat), ∃ w7 : World, (builtin .append #[24, 24] 24 #[] #[.slice a_17 l_18 c_19, .slice (if ((((out8.cap : Nat) : Int) : Int)).toNat = ((at9 : Int)).toNat then out8.a else (out8.a).map (·.add (((at9 : Int)).toNat * 3))) (((((out8.len : Nat) : Int) : Int)).toNat - ((at9 : Int)).toNat) (((((out8.cap : Nat) : Int) : Int)).toNat - ((at9 : Int)).toNat)]).run Try.prog w6 = .ok (.value (.slice a_20 l_21 c_22)) w7 ∧
  trystref22_with.c1 R body2 ⟨a_20, l_21, c_22⟩ at9 w7) ∧
  (let w8 := w.drew.alloc (.cells #[.int .i64 client1, .int .i64 0, .slice none 0 0] 45);
  ∃ (a_23 : Option Addr) (l_24 c_25 : Nat), ∃ w9 : World, (builtin .append #[24, 24] 24 #[] #[.slice none 0 0, .slice (if ((((out8.cap : Nat) : Int) : Int)).toNat = (((0 : Int) : Int)).toNat then out8.a else (out8.a).map (·.add ((((0 : Int) : Int)).toNat * 3))) (((at9 : Int)).toNat - (((0 : Int) : Int)).toNat) (((((out8.cap : Nat) : Int) : Int)).toNat - (((0 : Int) : Int)).toNat)]).run Try.prog w8 = .ok (.value (.slice a_23 l_24 c_25)) w9 ∧
  ∃ (a_26 : Option Addr) (l_27 c_28 : Nat), ∃ w10 : World, (builtin .append #[24, 24] 24 #[] #[.slice a_23 l_24 c_25, .slice (some (newA w.drew)) 1 1]).run Try.prog w9 = .ok (.value (.slice a_26 l_27 c_28)) w10 ∧
  ∃ (a_29 : Option Addr) (l_30 c_31 : Nat), ∃ w11 : World, (builtin .append #[24, 24] 24 #[] #[.slice a_26 l_27 c_28, .slice (if ((((out8.cap : Nat) : Int) : Int)).toNat = ((at9 : Int)).toNat then out8.a else (out8.a).map (·.add (((at9 : Int)).toNat * 3))) (((((out8.len : Nat) : Int) : Int)).toNat - ((at9 : Int)).toNat) (((((out8.cap : Nat) : Int) : Int)).toNat - ((at9 : Int)).toNat)]).run Try.prog w10 = .ok (.value (.slice a_29 l_30 c_31)) w11 ∧
  trystref22_with.c1 R body2 ⟨a_29, l_30, c_31⟩ at9 w11)

def trystref22_with.c3 (R : Value → World → Prop) (client1 : Int) (body2 : Int) (out8 : Sl) (at9 : Int) (w : World) : Prop :=
  cond ((at9 : Int) == ((out8.len : Nat) : Int))
  (trystref22_with.c2 R client1 body2 out8 at9 w)
  (0 ≤ (at9 : Int) ∧ at9 < ((out8.len : Nat) : Int) ∧ ∃ q_32 : Addr, out8.a = some q_32 ∧
  ∃ x_33 : Int, w.cell? (q_32.add ((at9 : Int).toNat * 3)) = some (.int .i64 x_33) ∧
  cond ((x_33 : Int) != client1)
  (trystref22_with.c2 R client1 body2 out8 at9 w)
  (trystref22_with.c1 R body2 out8 at9 w))

def trystref22_with.c5 (R : Value → World → Prop) (N4 : Int → Int → Sl → Int → World → Prop) (client1 : Int) (body2 : Int) (out8 : Sl) (at9 : Int) (w : World) : Prop :=
  (let at9_33 : Int := (IntKind.i64.wrap (at9 + 1));
  N4 client1 body2 out8 at9_33 w)

def trystref22_with.b4 (R : Value → World → Prop) (N4 : Int → Int → Sl → Int → World → Prop) (client1 : Int) (body2 : Int) (out8 : Sl) (at9 : Int) (w : World) : Prop :=
  cond (decide ((at9 : Int) < ((out8.len : Nat) : Int)))
  (0 ≤ (at9 : Int) ∧ at9 < ((out8.len : Nat) : Int) ∧ ∃ q_35 : Addr, out8.a = some q_35 ∧
  ∃ x_36 : Int, w.cell? (q_35.add ((at9 : Int).toNat * 3)) = some (.int .i64 x_36) ∧
  cond (decide ((x_36 : Int) < client1))
  (trystref22_with.c5 R N4 client1 body2 out8 at9 w)
  (trystref22_with.c3 R client1 body2 out8 at9 w))
  (trystref22_with.c3 R client1 body2 out8 at9 w)

def trystref22_with.l4 (R : Value → World → Prop) (client1 : Int) (body2 : Int) (out8 : Sl) (at9 : Int) (w : World) : Prop :=
  ∃ (I : Int → World → Prop) (μ : Int → World → Nat), I at9 w ∧ ∀ s w, I s w → trystref22_with.b4 R (fun client1' body2' out8' at9' w' => (client1' = client1 ∧ body2' = body2 ∧ out8' = out8 ∧ I at9' w') ∧ μ at9' w' < μ s w) client1 body2 out8 s w

def trystref22_with.main (R : Value → World → Prop) (l0 : Sl) (client1 : Int) (body2 : Int) (w : World) : Prop :=
  CallsV Try.prog n_trystkeep_TwinLogs #[.slice l0.a l0.len l0.cap] w (fun v_37 w12 =>
  ∃ (a_38 : Option Addr) (l_39 c_40 : Nat), v_37 = .slice a_38 l_39 c_40 ∧
  trystref22_with.l4 R client1 body2 ⟨a_38, l_39, c_40⟩ 0 w12)

def trystref22_with.J4 (R : Value → World → Prop) (N4 : Int → Int → Sl → Int → World → Prop) (k : Nat) (fr : Fr) (w : World) : Prop :=
  cond (Nat.beq k 5) (dec [(1, (.int .i64)), (2, (.int .i64)), (8, .slice), (9, (.int .i64))] fr fun x => trystref22_with.c5 R N4 x.1 x.2.1 x.2.2.1 x.2.2.2 w) (False)

def trystref22_with.J0 (R : Value → World → Prop) (k : Nat) (fr : Fr) (w : World) : Prop :=
  cond (Nat.beq k 4) (dec [(1, (.int .i64)), (2, (.int .i64)), (8, .slice), (9, (.int .i64))] fr fun x => trystref22_with.l4 R x.1 x.2.1 x.2.2.1 x.2.2.2 w) (cond (Nat.beq k 3) (dec [(1, (.int .i64)), (2, (.int .i64)), (8, .slice), (9, (.int .i64))] fr fun x => trystref22_with.c3 R x.1 x.2.1 x.2.2.1 x.2.2.2 w) (cond (Nat.beq k 2) (dec [(1, (.int .i64)), (2, (.int .i64)), (8, .slice), (9, (.int .i64))] fr fun x => trystref22_with.c2 R x.1 x.2.1 x.2.2.1 x.2.2.2 w) (cond (Nat.beq k 1) (dec [(2, (.int .i64)), (8, .slice), (9, (.int .i64))] fr fun x => trystref22_with.c1 R x.1 x.2.1 x.2.2 w) (False))))

set_option maxRecDepth 100000 in
theorem trystref22_with.lift {R : Value → World → Prop} {l0 : Sl} {client1 : Int} {body2 : Int} {w : World} (h : trystref22_with.main R l0 client1 body2 w) : CallsV Try.prog n_trystref22_with #[.slice l0.a l0.len l0.cap, .int .i64 client1, .int .i64 body2] w R :=
  liftCalls (c := (.seq (.leaf (cL (bd Try.f37))) (.seq (.leaf (cL (cR (bd Try.f37)))) (.seq (.leaf (cL (cR (cR (bd Try.f37))))) (.seq (.block 0 (.loop 4 (.seq (.seq (.leaf (cL (cL (cB (cB (cL (cR (cR (cR (bd Try.f37)))))))))) (.cnd (.tmp 25) (.leaf (cT (cR (cL (cB (cB (cL (cR (cR (cR (bd Try.f37))))))))))) (.leaf (cE (cR (cL (cB (cB (cL (cR (cR (cR (bd Try.f37))))))))))))) (.cut 5 (.block 1 (.leaf (cB (cR (cB (cB (cL (cR (cR (cR (bd Try.f37))))))))))))))) (.cut 3 (.seq (.seq (.leaf (cL (cL (cR (cR (cR (cR (bd Try.f37)))))))) (.cnd (.tmp 40) (.cut 2 (.seq (.leaf (cL (cT (cR (cL (cR (cR (cR (cR (bd Try.f37)))))))))) (.seq (.leaf (cL (cR (cT (cR (cL (cR (cR (cR (cR (bd Try.f37))))))))))) (.leaf (cR (cR (cT (cR (cL (cR (cR (cR (cR (bd Try.f37)))))))))))))) (.leaf (cE (cR (cL (cR (cR (cR (cR (bd Try.f37))))))))))) (.cut 1 (.seq (.seq (.leaf (cL (cL (cR (cR (cR (cR (cR (bd Try.f37))))))))) (.cnd (.tmp 61) (.seq (.leaf (cL (cT (cR (cL (cR (cR (cR (cR (cR (bd Try.f37))))))))))) (.leaf (cR (cT (cR (cL (cR (cR (cR (cR (cR (bd Try.f37)))))))))))) (.leaf (cE (cR (cL (cR (cR (cR (cR (cR (bd Try.f37)))))))))))) (.seq (.leaf (cL (cR (cR (cR (cR (cR (cR (bd Try.f37))))))))) (.seq (.leaf (cL (cR (cR (cR (cR (cR (cR (cR (bd Try.f37)))))))))) (.leaf (cR (cR (cR (cR (cR (cR (cR (cR (bd Try.f37))))))))))))))))))))) (J := trystref22_with.J0 R) LfYtcegohgmagppbaa.mixed Try.func37 (by kernel_rfl) (by kernel_rfl) (mkSeq (mkSeq (mkSeq (mkSeq (mkCut (cutDef [(1, (.int .i64)), (2, (.int .i64)), (8, .slice), (9, (.int .i64))] (fun x w => trystref22_with.c3 R x.1 x.2.1 x.2.2.1 x.2.2.2 w) (fun _ _ => by kernel_rfl) (fun _ _ => by kernel_rfl)) (mkSeq (mkCut (cutDef [(2, (.int .i64)), (8, .slice), (9, (.int .i64))] (fun x w => trystref22_with.c1 R x.1 x.2.1 x.2.2 w) (fun _ _ => by kernel_rfl) (fun _ _ => by kernel_rfl)) (mkSeq (mkSeq (mkSeq mkLeaf mkLeaf) mkLeaf) (mkSeq (mkCnd (mkSeq mkLeaf mkLeaf) mkLeaf) mkLeaf))) (mkSeq (mkCnd (mkCut (cutDef [(1, (.int .i64)), (2, (.int .i64)), (8, .slice), (9, (.int .i64))] (fun x w => trystref22_with.c2 R x.1 x.2.1 x.2.2.1 x.2.2.2 w) (fun _ _ => by kernel_rfl) (fun _ _ => by kernel_rfl)) (mkSeq (mkSeq mkLeaf mkLeaf) mkLeaf)) mkLeaf) mkLeaf))) (mkBlock (mkLoop (loopDef LfYtcegohgmagppbaa.mixed [(1, (.int .i64)), (2, (.int .i64)), (8, .slice), (9, (.int .i64))] (by kernel_rfl) (fun M4 x w => trystref22_with.b4 R (fun y0 y1 y2 y3 w => M4 (y0, y1, y2, y3) w) x.1 x.2.1 x.2.2.1 x.2.2.2 w) (fun M4 => trystref22_with.J4 R (fun y0 y1 y2 y3 w => M4 (y0, y1, y2, y3) w)) (fun _ _ _ => by kernel_rfl) (fun M4 => (mkSeq (mkCut (cutDef [(1, (.int .i64)), (2, (.int .i64)), (8, .slice), (9, (.int .i64))] (fun x w => trystref22_with.c5 R (fun y0 y1 y2 y3 w => M4 (y0, y1, y2, y3) w) x.1 x.2.1 x.2.2.1 x.2.2.2 w) (fun _ _ => by kernel_rfl) (fun _ _ => by kernel_rfl)) (mkBlock mkLeaf)) (mkSeq (mkCnd mkLeaf mkLeaf) mkLeaf))) (fun x w => trystref22_with.l4 R x.1 x.2.1 x.2.2.1 x.2.2.2 w) (by rintro ⟨c0, c1, c2, s0⟩ w ⟨I, μ, h0, h1⟩; refine ⟨fun y w => y.1 = c0 ∧ y.2.1 = c1 ∧ y.2.2.1 = c2 ∧ I y.2.2.2 w, fun y w => μ y.2.2.2 w, ⟨rfl, rfl, rfl, h0⟩, ?_⟩; rintro ⟨d0, d1, d2, t0⟩ w ⟨e0, e1, e2, hI⟩; dsimp only at e0 e1 e2 hI; subst e0; subst e1; subst e2; exact h1 _ _ hI) (fun _ _ => by kernel_rfl))))) mkLeaf) mkLeaf) mkLeaf) (kcast (by kernel_rfl) h)

/-! trystkeep_SpoilInts -/
def trystkeep_SpoilInts.b1 (R : Value → World → Prop) (N1 : Sl → Int → World → Prop) (l0 : Sl) (i2 : Int) (w : World) : Prop :=
  cond (decide ((i2 : Int) < ((l0.len : Nat) : Int)))
  (0 ≤ (i2 : Int) ∧ i2 < ((l0.len : Nat) : Int) ∧ ∃ q_1 : Addr, l0.a = some q_1 ∧
  Wr w (q_1.add (i2 : Int).toNat) ∧
  (let w1 := w.setCell (q_1.add (i2 : Int).toNat) (.int .i64 (-7777));
  (let i2_1 : Int := (IntKind.i64.wrap (i2 + 1));
  N1 l0 i2_1 w1)))
  (R (.tuple #[]) w)

def trystkeep_SpoilInts.l1 (R : Value → World → Prop) (l0 : Sl) (i2 : Int) (w : World) : Prop :=
  ∃ (I : Int → World → Prop) (μ : Int → World → Nat), I i2 w ∧ ∀ s w, I s w → trystkeep_SpoilInts.b1 R (fun l0' i2' w' => (l0' = l0 ∧ I i2' w') ∧ μ i2' w' < μ s w) l0 s w

def trystkeep_SpoilInts.main (R : Value → World → Prop) (l0 : Sl) (w : World) : Prop :=
  trystkeep_SpoilInts.l1 R l0 0 w

def trystkeep_SpoilInts.J0 (R : Value → World → Prop) (k : Nat) (fr : Fr) (w : World) : Prop :=
  cond (Nat.beq k 1) (dec [(0, .slice), (2, (.int .i64))] fr fun x => trystkeep_SpoilInts.l1 R x.1 x.2 w) (False)

set_option maxRecDepth 100000 in
theorem trystkeep_SpoilInts.lift {R : Value → World → Prop} {l0 : Sl} {w : World} (h : trystkeep_SpoilInts.main R l0 w) : CallsV Try.prog n_trystkeep_SpoilInts #[.slice l0.a l0.len l0.cap] w R :=
  liftCalls (c := (.seq (.leaf (cL (bd Try.f38))) (.block 0 (.loop 1 (.seq (.seq (.leaf (cL (cL (cB (cB (cR (bd Try.f38))))))) (.cnd (.tmp 6) (.leaf (cT (cR (cL (cB (cB (cR (bd Try.f38)))))))) (.leaf (cE (cR (cL (cB (cB (cR (bd Try.f38)))))))))) (.seq (.block 1 (.leaf (cB (cL (cR (cB (cB (cR (bd Try.f38))))))))) (.leaf (cR (cR (cB (cB (cR (bd Try.f38))))))))))))) (J := trystkeep_SpoilInts.J0 R) LfYtcegohgmagppbaa.mixed Try.func38 (by kernel_rfl) (by kernel_rfl) (mkSeq (mkBlock (mkLoop (loopDef LfYtcegohgmagppbaa.mixed [(0, .slice), (2, (.int .i64))] (by kernel_rfl) (fun M1 x w => trystkeep_SpoilInts.b1 R (fun y0 y1 w => M1 (y0, y1) w) x.1 x.2 w) (fun M1 => fun _ _ _ => False) (fun _ _ _ => by kernel_rfl) (fun M1 => (mkSeq (mkSeq mkLeaf (mkBlock mkLeaf)) (mkSeq (mkCnd mkLeaf mkLeaf) mkLeaf))) (fun x w => trystkeep_SpoilInts.l1 R x.1 x.2 w) (by rintro ⟨c0, s0⟩ w ⟨I, μ, h0, h1⟩; refine ⟨fun y w => y.1 = c0 ∧ I y.2 w, fun y w => μ y.2 w, ⟨rfl, h0⟩, ?_⟩; rintro ⟨d0, t0⟩ w ⟨e0, hI⟩; dsimp only at e0 hI; subst e0; exact h1 _ _ hI) (fun _ _ => by kernel_rfl)))) mkLeaf) (kcast (by kernel_rfl) h)

/-! slices_Insert_Log -/
def slices_Insert_Log.main (R : Value → World → Prop) (s0 : Sl) (i1 : Int) (v2 : Sl) (w : World) : Prop :=
  0 ≤ (i1 : Int) ∧ (i1 : Int) ≤ ((s0.len : Nat) : Int) ∧ (((s0.len : Nat) : Int) : Int) ≤ ((s0.cap : Nat) : Int) ∧ (((s0.cap : Nat) : Int) : Int) ≤ ((s0.cap : Nat) : Int) ∧
  cond ((((v2.len : Nat) : Int) : Int) == 0)
  (R (.slice s0.a s0.len s0.cap) w)
  (cond ((i1 : Int) == ((s0.len : Nat) : Int))
  (∃ (a_1 : Option Addr) (l_2 c_3 : Nat), ∃ w1 : World, (builtin .append #[24, 24] 24 #[] #[.slice s0.a s0.len s0.cap, .slice v2.a v2.len v2.cap]).run Try.prog w = .ok (.value (.slice a_1 l_2 c_3)) w1 ∧
  R (.slice a_1 l_2 c_3) w1)
  (cond (decide (((IntKind.i64.wrap (((s0.len : Nat) : Int) + ((v2.len : Nat) : Int))) : Int) > ((s0.cap : Nat) : Int)))
  (0 ≤ ((0 : Int) : Int) ∧ ((0 : Int) : Int) ≤ i1 ∧ (i1 : Int) ≤ ((s0.cap : Nat) : Int) ∧ (((s0.cap : Nat) : Int) : Int) ≤ ((s0.cap : Nat) : Int) ∧
  ∃ (a_4 : Option Addr) (l_5 c_6 : Nat), ∃ w2 : World, (builtin .append #[24, 3] 24 #[] #[.slice (if ((((s0.cap : Nat) : Int) : Int)).toNat = (((0 : Int) : Int)).toNat then s0.a else (s0.a).map (·.add ((((0 : Int) : Int)).toNat * 3))) (((i1 : Int)).toNat - (((0 : Int) : Int)).toNat) (((((s0.cap : Nat) : Int) : Int)).toNat - (((0 : Int) : Int)).toNat), .int .i64 (IntKind.i64.wrap ((IntKind.i64.wrap (((s0.len : Nat) : Int) + ((v2.len : Nat) : Int))) - i1))]).run Try.prog w = .ok (.value (.slice a_4 l_5 c_6)) w2 ∧
  0 ≤ (i1 : Int) ∧ (i1 : Int) ≤ ((l_5 : Nat) : Int) ∧ (((l_5 : Nat) : Int) : Int) ≤ ((c_6 : Nat) : Int) ∧ (((c_6 : Nat) : Int) : Int) ≤ ((c_6 : Nat) : Int) ∧
  ∃ x_7 : Int, ∃ w3 : World, (builtin .copy #[24, 24] 3 #[] #[.slice (if ((((c_6 : Nat) : Int) : Int)).toNat = ((i1 : Int)).toNat then a_4 else (a_4).map (·.add (((i1 : Int)).toNat * 3))) (((((l_5 : Nat) : Int) : Int)).toNat - ((i1 : Int)).toNat) (((((c_6 : Nat) : Int) : Int)).toNat - ((i1 : Int)).toNat), .slice v2.a v2.len v2.cap]).run Try.prog w2 = .ok (.value (.int .i64 x_7)) w3 ∧
  ∃ S_8 : World → Prop, S_8 w3.drew ∧
  0 ≤ ((IntKind.i64.wrap (i1 + ((v2.len : Nat) : Int))) : Int) ∧ ((IntKind.i64.wrap (i1 + ((v2.len : Nat) : Int))) : Int) ≤ ((l_5 : Nat) : Int) ∧ (((l_5 : Nat) : Int) : Int) ≤ ((c_6 : Nat) : Int) ∧ (((c_6 : Nat) : Int) : Int) ≤ ((c_6 : Nat) : Int) ∧
  0 ≤ (i1 : Int) ∧ (i1 : Int) ≤ ((s0.len : Nat) : Int) ∧ (((s0.len : Nat) : Int) : Int) ≤ ((s0.cap : Nat) : Int) ∧ (((s0.cap : Nat) : Int) : Int) ≤ ((s0.cap : Nat) : Int) ∧
  ∃ x_9 : Int, ∃ w4 : World, (builtin .copy #[24, 24] 3 #[] #[.slice (if ((((c_6 : Nat) : Int) : Int)).toNat = (((IntKind.i64.wrap (i1 + ((v2.len : Nat) : Int))) : Int)).toNat then a_4 else (a_4).map (·.add ((((IntKind.i64.wrap (i1 + ((v2.len : Nat) : Int))) : Int)).toNat * 3))) (((((l_5 : Nat) : Int) : Int)).toNat - (((IntKind.i64.wrap (i1 + ((v2.len : Nat) : Int))) : Int)).toNat) (((((c_6 : Nat) : Int) : Int)).toNat - (((IntKind.i64.wrap (i1 + ((v2.len : Nat) : Int))) : Int)).toNat), .slice (if ((((s0.cap : Nat) : Int) : Int)).toNat = ((i1 : Int)).toNat then s0.a else (s0.a).map (·.add (((i1 : Int)).toNat * 3))) (((((s0.len : Nat) : Int) : Int)).toNat - ((i1 : Int)).toNat) (((((s0.cap : Nat) : Int) : Int)).toNat - ((i1 : Int)).toNat)]).run Try.prog w3.drew = .ok (.value (.int .i64 x_9)) w4 ∧
  R (.slice a_4 l_5 c_6) w4)
  (0 ≤ ((0 : Int) : Int) ∧ ((0 : Int) : Int) ≤ (IntKind.i64.wrap (((s0.len : Nat) : Int) + ((v2.len : Nat) : Int))) ∧ ((IntKind.i64.wrap (((s0.len : Nat) : Int) + ((v2.len : Nat) : Int))) : Int) ≤ ((s0.cap : Nat) : Int) ∧ (((s0.cap : Nat) : Int) : Int) ≤ ((s0.cap : Nat) : Int) ∧
  0 ≤ ((IntKind.i64.wrap (i1 + ((v2.len : Nat) : Int))) : Int) ∧ ((IntKind.i64.wrap (i1 + ((v2.len : Nat) : Int))) : Int) ≤ ((((((IntKind.i64.wrap (((s0.len : Nat) : Int) + ((v2.len : Nat) : Int))) : Int)).toNat - (((0 : Int) : Int)).toNat) : Nat) : Int) ∧ (((((((IntKind.i64.wrap (((s0.len : Nat) : Int) + ((v2.len : Nat) : Int))) : Int)).toNat - (((0 : Int) : Int)).toNat) : Nat) : Int) : Int) ≤ (((((((s0.cap : Nat) : Int) : Int)).toNat - (((0 : Int) : Int)).toNat) : Nat) : Int) ∧ ((((((((s0.cap : Nat) : Int) : Int)).toNat - (((0 : Int) : Int)).toNat) : Nat) : Int) : Int) ≤ (((((((s0.cap : Nat) : Int) : Int)).toNat - (((0 : Int) : Int)).toNat) : Nat) : Int) ∧
  ∃ b_11 : Bool, ∃ w5 : World, (callFunc n_slices_overlaps_Log #[.slice v2.a v2.len v2.cap, .slice (if (((((((((s0.cap : Nat) : Int) : Int)).toNat - (((0 : Int) : Int)).toNat) : Nat) : Int) : Int)).toNat = (((IntKind.i64.wrap (i1 + ((v2.len : Nat) : Int))) : Int)).toNat then (if ((((s0.cap : Nat) : Int) : Int)).toNat = (((0 : Int) : Int)).toNat then s0.a else (s0.a).map (·.add ((((0 : Int) : Int)).toNat * 3))) else ((if ((((s0.cap : Nat) : Int) : Int)).toNat = (((0 : Int) : Int)).toNat then s0.a else (s0.a).map (·.add ((((0 : Int) : Int)).toNat * 3)))).map (·.add ((((IntKind.i64.wrap (i1 + ((v2.len : Nat) : Int))) : Int)).toNat * 3))) (((((((((IntKind.i64.wrap (((s0.len : Nat) : Int) + ((v2.len : Nat) : Int))) : Int)).toNat - (((0 : Int) : Int)).toNat) : Nat) : Int) : Int)).toNat - (((IntKind.i64.wrap (i1 + ((v2.len : Nat) : Int))) : Int)).toNat) ((((((((((s0.cap : Nat) : Int) : Int)).toNat - (((0 : Int) : Int)).toNat) : Nat) : Int) : Int)).toNat - (((IntKind.i64.wrap (i1 + ((v2.len : Nat) : Int))) : Int)).toNat)]).run Try.prog w = .ok (.value (.bool b_11)) w5 ∧
  cond (!b_11)
  (∃ S_12 : World → Prop, S_12 w5.drew ∧
  0 ≤ ((IntKind.i64.wrap (i1 + ((v2.len : Nat) : Int))) : Int) ∧ ((IntKind.i64.wrap (i1 + ((v2.len : Nat) : Int))) : Int) ≤ ((((((IntKind.i64.wrap (((s0.len : Nat) : Int) + ((v2.len : Nat) : Int))) : Int)).toNat - (((0 : Int) : Int)).toNat) : Nat) : Int) ∧ (((((((IntKind.i64.wrap (((s0.len : Nat) : Int) + ((v2.len : Nat) : Int))) : Int)).toNat - (((0 : Int) : Int)).toNat) : Nat) : Int) : Int) ≤ (((((((s0.cap : Nat) : Int) : Int)).toNat - (((0 : Int) : Int)).toNat) : Nat) : Int) ∧ ((((((((s0.cap : Nat) : Int) : Int)).toNat - (((0 : Int) : Int)).toNat) : Nat) : Int) : Int) ≤ (((((((s0.cap : Nat) : Int) : Int)).toNat - (((0 : Int) : Int)).toNat) : Nat) : Int) ∧
  0 ≤ (i1 : Int) ∧ (i1 : Int) ≤ ((((((IntKind.i64.wrap (((s0.len : Nat) : Int) + ((v2.len : Nat) : Int))) : Int)).toNat - (((0 : Int) : Int)).toNat) : Nat) : Int) ∧ (((((((IntKind.i64.wrap (((s0.len : Nat) : Int) + ((v2.len : Nat) : Int))) : Int)).toNat - (((0 : Int) : Int)).toNat) : Nat) : Int) : Int) ≤ (((((((s0.cap : Nat) : Int) : Int)).toNat - (((0 : Int) : Int)).toNat) : Nat) : Int) ∧ ((((((((s0.cap : Nat) : Int) : Int)).toNat - (((0 : Int) : Int)).toNat) : Nat) : Int) : Int) ≤ (((((((s0.cap : Nat) : Int) : Int)).toNat - (((0 : Int) : Int)).toNat) : Nat) : Int) ∧
  ∃ x_13 : Int, ∃ w6 : World, (builtin .copy #[24, 24] 3 #[] #[.slice (if (((((((((s0.cap : Nat) : Int) : Int)).toNat - (((0 : Int) : Int)).toNat) : Nat) : Int) : Int)).toNat = (((IntKind.i64.wrap (i1 + ((v2.len : Nat) : Int))) : Int)).toNat then (if ((((s0.cap : Nat) : Int) : Int)).toNat = (((0 : Int) : Int)).toNat then s0.a else (s0.a).map (·.add ((((0 : Int) : Int)).toNat * 3))) else ((if ((((s0.cap : Nat) : Int) : Int)).toNat = (((0 : Int) : Int)).toNat then s0.a else (s0.a).map (·.add ((((0 : Int) : Int)).toNat * 3)))).map (·.add ((((IntKind.i64.wrap (i1 + ((v2.len : Nat) : Int))) : Int)).toNat * 3))) (((((((((IntKind.i64.wrap (((s0.len : Nat) : Int) + ((v2.len : Nat) : Int))) : Int)).toNat - (((0 : Int) : Int)).toNat) : Nat) : Int) : Int)).toNat - (((IntKind.i64.wrap (i1 + ((v2.len : Nat) : Int))) : Int)).toNat) ((((((((((s0.cap : Nat) : Int) : Int)).toNat - (((0 : Int) : Int)).toNat) : Nat) : Int) : Int)).toNat - (((IntKind.i64.wrap (i1 + ((v2.len : Nat) : Int))) : Int)).toNat), .slice (if (((((((((s0.cap : Nat) : Int) : Int)).toNat - (((0 : Int) : Int)).toNat) : Nat) : Int) : Int)).toNat = ((i1 : Int)).toNat then (if ((((s0.cap : Nat) : Int) : Int)).toNat = (((0 : Int) : Int)).toNat then s0.a else (s0.a).map (·.add ((((0 : Int) : Int)).toNat * 3))) else ((if ((((s0.cap : Nat) : Int) : Int)).toNat = (((0 : Int) : Int)).toNat then s0.a else (s0.a).map (·.add ((((0 : Int) : Int)).toNat * 3)))).map (·.add (((i1 : Int)).toNat * 3))) (((((((((IntKind.i64.wrap (((s0.len : Nat) : Int) + ((v2.len : Nat) : Int))) : Int)).toNat - (((0 : Int) : Int)).toNat) : Nat) : Int) : Int)).toNat - ((i1 : Int)).toNat) ((((((((((s0.cap : Nat) : Int) : Int)).toNat - (((0 : Int) : Int)).toNat) : Nat) : Int) : Int)).toNat - ((i1 : Int)).toNat)]).run Try.prog w5.drew = .ok (.value (.int .i64 x_13)) w6 ∧
  0 ≤ (i1 : Int) ∧ (i1 : Int) ≤ ((((((IntKind.i64.wrap (((s0.len : Nat) : Int) + ((v2.len : Nat) : Int))) : Int)).toNat - (((0 : Int) : Int)).toNat) : Nat) : Int) ∧ (((((((IntKind.i64.wrap (((s0.len : Nat) : Int) + ((v2.len : Nat) : Int))) : Int)).toNat - (((0 : Int) : Int)).toNat) : Nat) : Int) : Int) ≤ (((((((s0.cap : Nat) : Int) : Int)).toNat - (((0 : Int) : Int)).toNat) : Nat) : Int) ∧ ((((((((s0.cap : Nat) : Int) : Int)).toNat - (((0 : Int) : Int)).toNat) : Nat) : Int) : Int) ≤ (((((((s0.cap : Nat) : Int) : Int)).toNat - (((0 : Int) : Int)).toNat) : Nat) : Int) ∧
  ∃ x_14 : Int, ∃ w7 : World, (builtin .copy #[24, 24] 3 #[] #[.slice (if (((((((((s0.cap : Nat) : Int) : Int)).toNat - (((0 : Int) : Int)).toNat) : Nat) : Int) : Int)).toNat = ((i1 : Int)).toNat then (if ((((s0.cap : Nat) : Int) : Int)).toNat = (((0 : Int) : Int)).toNat then s0.a else (s0.a).map (·.add ((((0 : Int) : Int)).toNat * 3))) else ((if ((((s0.cap : Nat) : Int) : Int)).toNat = (((0 : Int) : Int)).toNat then s0.a else (s0.a).map (·.add ((((0 : Int) : Int)).toNat * 3)))).map (·.add (((i1 : Int)).toNat * 3))) (((((((((IntKind.i64.wrap (((s0.len : Nat) : Int) + ((v2.len : Nat) : Int))) : Int)).toNat - (((0 : Int) : Int)).toNat) : Nat) : Int) : Int)).toNat - ((i1 : Int)).toNat) ((((((((((s0.cap : Nat) : Int) : Int)).toNat - (((0 : Int) : Int)).toNat) : Nat) : Int) : Int)).toNat - ((i1 : Int)).toNat), .slice v2.a v2.len v2.cap]).run Try.prog w6 = .ok (.value (.int .i64 x_14)) w7 ∧
  R (.slice (if ((((s0.cap : Nat) : Int) : Int)).toNat = (((0 : Int) : Int)).toNat then s0.a else (s0.a).map (·.add ((((0 : Int) : Int)).toNat * 3))) ((((IntKind.i64.wrap (((s0.len : Nat) : Int) + ((v2.len : Nat) : Int))) : Int)).toNat - (((0 : Int) : Int)).toNat) (((((s0.cap : Nat) : Int) : Int)).toNat - (((0 : Int) : Int)).toNat)) w7)
  (0 ≤ (((s0.len : Nat) : Int) : Int) ∧ (((s0.len : Nat) : Int) : Int) ≤ ((((((IntKind.i64.wrap (((s0.len : Nat) : Int) + ((v2.len : Nat) : Int))) : Int)).toNat - (((0 : Int) : Int)).toNat) : Nat) : Int) ∧ (((((((IntKind.i64.wrap (((s0.len : Nat) : Int) + ((v2.len : Nat) : Int))) : Int)).toNat - (((0 : Int) : Int)).toNat) : Nat) : Int) : Int) ≤ (((((((s0.cap : Nat) : Int) : Int)).toNat - (((0 : Int) : Int)).toNat) : Nat) : Int) ∧ ((((((((s0.cap : Nat) : Int) : Int)).toNat - (((0 : Int) : Int)).toNat) : Nat) : Int) : Int) ≤ (((((((s0.cap : Nat) : Int) : Int)).toNat - (((0 : Int) : Int)).toNat) : Nat) : Int) ∧
  ∃ x_15 : Int, ∃ w8 : World, (builtin .copy #[24, 24] 3 #[] #[.slice (if (((((((((s0.cap : Nat) : Int) : Int)).toNat - (((0 : Int) : Int)).toNat) : Nat) : Int) : Int)).toNat = ((((s0.len : Nat) : Int) : Int)).toNat then (if ((((s0.cap : Nat) : Int) : Int)).toNat = (((0 : Int) : Int)).toNat then s0.a else (s0.a).map (·.add ((((0 : Int) : Int)).toNat * 3))) else ((if ((((s0.cap : Nat) : Int) : Int)).toNat = (((0 : Int) : Int)).toNat then s0.a else (s0.a).map (·.add ((((0 : Int) : Int)).toNat * 3)))).map (·.add (((((s0.len : Nat) : Int) : Int)).toNat * 3))) (((((((((IntKind.i64.wrap (((s0.len : Nat) : Int) + ((v2.len : Nat) : Int))) : Int)).toNat - (((0 : Int) : Int)).toNat) : Nat) : Int) : Int)).toNat - ((((s0.len : Nat) : Int) : Int)).toNat) ((((((((((s0.cap : Nat) : Int) : Int)).toNat - (((0 : Int) : Int)).toNat) : Nat) : Int) : Int)).toNat - ((((s0.len : Nat) : Int) : Int)).toNat), .slice v2.a v2.len v2.cap]).run Try.prog w5 = .ok (.value (.int .i64 x_15)) w8 ∧
  0 ≤ (i1 : Int) ∧ (i1 : Int) ≤ ((((((IntKind.i64.wrap (((s0.len : Nat) : Int) + ((v2.len : Nat) : Int))) : Int)).toNat - (((0 : Int) : Int)).toNat) : Nat) : Int) ∧ (((((((IntKind.i64.wrap (((s0.len : Nat) : Int) + ((v2.len : Nat) : Int))) : Int)).toNat - (((0 : Int) : Int)).toNat) : Nat) : Int) : Int) ≤ (((((((s0.cap : Nat) : Int) : Int)).toNat - (((0 : Int) : Int)).toNat) : Nat) : Int) ∧ ((((((((s0.cap : Nat) : Int) : Int)).toNat - (((0 : Int) : Int)).toNat) : Nat) : Int) : Int) ≤ (((((((s0.cap : Nat) : Int) : Int)).toNat - (((0 : Int) : Int)).toNat) : Nat) : Int) ∧
  CallsV Try.prog n_slices_rotateRight_Log #[.slice (if (((((((((s0.cap : Nat) : Int) : Int)).toNat - (((0 : Int) : Int)).toNat) : Nat) : Int) : Int)).toNat = ((i1 : Int)).toNat then (if ((((s0.cap : Nat) : Int) : Int)).toNat = (((0 : Int) : Int)).toNat then s0.a else (s0.a).map (·.add ((((0 : Int) : Int)).toNat * 3))) else ((if ((((s0.cap : Nat) : Int) : Int)).toNat = (((0 : Int) : Int)).toNat then s0.a else (s0.a).map (·.add ((((0 : Int) : Int)).toNat * 3)))).map (·.add (((i1 : Int)).toNat * 3))) (((((((((IntKind.i64.wrap (((s0.len : Nat) : Int) + ((v2.len : Nat) : Int))) : Int)).toNat - (((0 : Int) : Int)).toNat) : Nat) : Int) : Int)).toNat - ((i1 : Int)).toNat) ((((((((((s0.cap : Nat) : Int) : Int)).toNat - (((0 : Int) : Int)).toNat) : Nat) : Int) : Int)).toNat - ((i1 : Int)).toNat), .int .i64 ((v2.len : Nat) : Int)] w8 (fun v_16 w9 =>
  v_16 = .tuple #[] ∧
  R (.slice (if ((((s0.cap : Nat) : Int) : Int)).toNat = (((0 : Int) : Int)).toNat then s0.a else (s0.a).map (·.add ((((0 : Int) : Int)).toNat * 3))) ((((IntKind.i64.wrap (((s0.len : Nat) : Int) + ((v2.len : Nat) : Int))) : Int)).toNat - (((0 : Int) : Int)).toNat) (((((s0.cap : Nat) : Int) : Int)).toNat - (((0 : Int) : Int)).toNat)) w9)))))

def slices_Insert_Log.J0 (_ : Value → World → Prop) (_ : Nat) (_ : Fr) (_ : World) : Prop := False

set_option maxRecDepth 100000 in
theorem slices_Insert_Log.lift {R : Value → World → Prop} {s0 : Sl} {i1 : Int} {v2 : Sl} {w : World} (h : slices_Insert_Log.main R s0 i1 v2 w) : CallsV Try.prog n_slices_Insert_Log #[.slice s0.a s0.len s0.cap, .int .i64 i1, .slice v2.a v2.len v2.cap] w R :=
  liftCalls (c := (.seq (.leaf (cL (bd Try.f39))) (.seq (.leaf (cL (cR (bd Try.f39)))) (.seq (.leaf (cL (cR (cR (bd Try.f39))))) (.seq (.seq (.leaf (cL (cL (cR (cR (cR (bd Try.f39))))))) (.cnd (.tmp 16) (.seq (.leaf (cL (cT (cR (cL (cR (cR (cR (bd Try.f39))))))))) (.leaf (cR (cT (cR (cL (cR (cR (cR (bd Try.f39)))))))))) (.leaf (cE (cR (cL (cR (cR (cR (bd Try.f39)))))))))) (.seq (.leaf (cL (cR (cR (cR (cR (bd Try.f39))))))) (.seq (.seq (.leaf (cL (cL (cR (cR (cR (cR (cR (bd Try.f39))))))))) (.cnd (.tmp 22) (.seq (.leaf (cL (cT (cR (cL (cR (cR (cR (cR (cR (bd Try.f39))))))))))) (.leaf (cR (cT (cR (cL (cR (cR (cR (cR (cR (bd Try.f39)))))))))))) (.leaf (cE (cR (cL (cR (cR (cR (cR (cR (bd Try.f39)))))))))))) (.seq (.seq (.leaf (cL (cL (cR (cR (cR (cR (cR (cR (bd Try.f39)))))))))) (.cnd (.tmp 31) (.seq (.leaf (cL (cT (cR (cL (cR (cR (cR (cR (cR (cR (bd Try.f39)))))))))))) (.seq (.leaf (cL (cR (cT (cR (cL (cR (cR (cR (cR (cR (cR (bd Try.f39))))))))))))) (.seq (.leaf (cL (cR (cR (cT (cR (cL (cR (cR (cR (cR (cR (cR (bd Try.f39)))))))))))))) (.seq (.leaf (cL (cR (cR (cR (cT (cR (cL (cR (cR (cR (cR (cR (cR (bd Try.f39))))))))))))))) (.leaf (cR (cR (cR (cR (cT (cR (cL (cR (cR (cR (cR (cR (cR (bd Try.f39))))))))))))))))))) (.leaf (cE (cR (cL (cR (cR (cR (cR (cR (cR (bd Try.f39))))))))))))) (.seq (.leaf (cL (cR (cR (cR (cR (cR (cR (cR (bd Try.f39)))))))))) (.seq (.seq (.leaf (cL (cL (cR (cR (cR (cR (cR (cR (cR (cR (bd Try.f39)))))))))))) (.cnd (.tmp 68) (.seq (.leaf (cL (cT (cR (cL (cR (cR (cR (cR (cR (cR (cR (cR (bd Try.f39)))))))))))))) (.seq (.leaf (cL (cR (cT (cR (cL (cR (cR (cR (cR (cR (cR (cR (cR (bd Try.f39))))))))))))))) (.seq (.leaf (cL (cR (cR (cT (cR (cL (cR (cR (cR (cR (cR (cR (cR (cR (bd Try.f39)))))))))))))))) (.leaf (cR (cR (cR (cT (cR (cL (cR (cR (cR (cR (cR (cR (cR (cR (bd Try.f39))))))))))))))))))) (.leaf (cE (cR (cL (cR (cR (cR (cR (cR (cR (cR (cR (bd Try.f39))))))))))))))) (.seq (.leaf (cL (cR (cR (cR (cR (cR (cR (cR (cR (cR (bd Try.f39)))))))))))) (.seq (.leaf (cL (cR (cR (cR (cR (cR (cR (cR (cR (cR (cR (bd Try.f39))))))))))))) (.seq (.leaf (cL (cR (cR (cR (cR (cR (cR (cR (cR (cR (cR (cR (bd Try.f39)))))))))))))) (.leaf (cR (cR (cR (cR (cR (cR (cR (cR (cR (cR (cR (cR (bd Try.f39))))))))))))))))))))))))))) (J := slices_Insert_Log.J0 R) LfYtcegohgmagppbaa.mixed Try.func39 (by kernel_rfl) (by kernel_rfl) (mkSeq (mkSeq (mkSeq (mkSeq (mkSeq (mkSeq (mkSeq (mkSeq (mkSeq (mkSeq (mkSeq (mkSeq mkLeaf mkLeaf) mkLeaf) mkLeaf) (mkSeq (mkCnd (mkSeq (mkSeq (mkSeq mkLeaf mkLeaf) mkLeaf) mkLeaf) mkLeaf) mkLeaf)) mkLeaf) (mkSeq (mkCnd (mkSeq (mkSeq (mkSeq (mkSeq mkLeaf mkLeaf) mkLeaf) mkLeaf) mkLeaf) mkLeaf) mkLeaf)) (mkSeq (mkCnd (mkSeq mkLeaf mkLeaf) mkLeaf) mkLeaf)) mkLeaf) (mkSeq (mkCnd (mkSeq mkLeaf mkLeaf) mkLeaf) mkLeaf)) mkLeaf) mkLeaf) mkLeaf) (kcast (by kernel_rfl) h)

/-! slices_Clone_int -/
def slices_Clone_int.main (R : Value → World → Prop) (s0 : Sl) (w : World) : Prop :=
  cond ((s0.a).isNone)
  (R (.slice none 0 0) w)
  (let w1 := w.alloc (.cells #[] 3);
  ∃ (a_1 : Option Addr) (l_2 c_3 : Nat), ∃ w2 : World, (builtin .append #[23, 23] 23 #[] #[.slice (some (newA w)) 0 0, .slice s0.a s0.len s0.cap]).run Try.prog w1 = .ok (.value (.slice a_1 l_2 c_3)) w2 ∧
  R (.slice a_1 l_2 c_3) w2)

def slices_Clone_int.J0 (_ : Value → World → Prop) (_ : Nat) (_ : Fr) (_ : World) : Prop := False

set_option maxRecDepth 100000 in
theorem slices_Clone_int.lift {R : Value → World → Prop} {s0 : Sl} {w : World} (h : slices_Clone_int.main R s0 w) : CallsV Try.prog n_slices_Clone_int #[.slice s0.a s0.len s0.cap] w R :=
  liftCalls (c := (.seq (.leaf (cL (bd Try.f40))) (.seq (.seq (.leaf (cL (cL (cR (bd Try.f40))))) (.cnd (.tmp 4) (.seq (.leaf (cL (cT (cR (cL (cR (bd Try.f40))))))) (.leaf (cR (cT (cR (cL (cR (bd Try.f40)))))))) (.leaf (cE (cR (cL (cR (bd Try.f40)))))))) (.seq (.leaf (cL (cR (cR (bd Try.f40))))) (.leaf (cR (cR (cR (bd Try.f40))))))))) (J := slices_Clone_int.J0 R) LfYtcegohgmagppbaa.mixed Try.func40 (by kernel_rfl) (by kernel_rfl) (mkSeq (mkSeq (mkSeq mkLeaf mkLeaf) (mkSeq (mkCnd (mkSeq mkLeaf mkLeaf) mkLeaf) mkLeaf)) mkLeaf) (kcast (by kernel_rfl) h)

/-! slices_IndexFunc_int -/
def slices_IndexFunc_int__logs_Check_1.b1 (R : Value → World → Prop) (N1 : Sl → Unit → Int → Int → World → Prop) (s0 : Sl) (f1 : Unit) (t7 : Int) (t8 : Int) (w : World) : Prop :=
  cond (decide ((t8 : Int) < t7))
  (0 ≤ (t8 : Int) ∧ t8 < ((s0.len : Nat) : Int) ∧ ∃ q_1 : Addr, s0.a = some q_1 ∧
  ∃ x_2 : Int, w.cell? (q_1.add (t8 : Int).toNat) = some (.int .i64 x_2) ∧
  CallsV Try.prog n_logs_Check_1 #[.int .i64 x_2] w (fun v_3 w1 =>
  ∃ b_4 : Bool, v_3 = .bool b_4 ∧
  cond b_4
  (R (.int .i64 t8) w1)
  (N1 s0 () t7 (IntKind.i64.wrap (t8 + 1)) w1)))
  (R (.int .i64 (-1)) w)

def slices_IndexFunc_int__logs_Check_1.l1 (R : Value → World → Prop) (s0 : Sl) (f1 : Unit) (t7 : Int) (t8 : Int) (w : World) : Prop :=
  ∃ (I : Int → World → Prop) (μ : Int → World → Nat), I t8 w ∧ ∀ s w, I s w → slices_IndexFunc_int__logs_Check_1.b1 R (fun s0' f1' t7' t8' w' => (s0' = s0 ∧ f1' = f1 ∧ t7' = t7 ∧ I t8' w') ∧ μ t8' w' < μ s w) s0 f1 t7 s w

def slices_IndexFunc_int__logs_Check_1.main (R : Value → World → Prop) (s0 : Sl) (w : World) : Prop :=
  slices_IndexFunc_int__logs_Check_1.l1 R s0 () ((s0.len : Nat) : Int) 0 w

def slices_IndexFunc_int__logs_Check_1.J0 (R : Value → World → Prop) (k : Nat) (fr : Fr) (w : World) : Prop :=
  cond (Nat.beq k 1) (dec [(0, .slice), (1, (.fn n_logs_Check_1 0)), (7, (.int .i64)), (8, (.int .i64))] fr fun x => slices_IndexFunc_int__logs_Check_1.l1 R x.1 x.2.1 x.2.2.1 x.2.2.2 w) (False)

set_option maxRecDepth 100000 in
theorem slices_IndexFunc_int__logs_Check_1.lift {R : Value → World → Prop} {s0 : Sl} {w : World} (h : slices_IndexFunc_int__logs_Check_1.main R s0 w) : CallsV Try.prog n_slices_IndexFunc_int #[.slice s0.a s0.len s0.cap, .func (.func n_logs_Check_1) #[] #[]] w R :=
  liftCalls (c := (.seq (.leaf (cL (bd Try.f41))) (.seq (.seq (.leaf (cL (cL (cR (bd Try.f41))))) (.block 0 (.loop 1 (.seq (.leaf (cL (cB (cB (cR (cL (cR (bd Try.f41)))))))) (.seq (.cnd (.tmp 9) (.leaf (cT (cL (cR (cB (cB (cR (cL (cR (bd Try.f41)))))))))) (.leaf (cE (cL (cR (cB (cB (cR (cL (cR (bd Try.f41))))))))))) (.seq (.block 1 (.seq (.leaf (cL (cB (cL (cR (cR (cB (cB (cR (cL (cR (bd Try.f41)))))))))))) (.seq (.leaf (cL (cR (cB (cL (cR (cR (cB (cB (cR (cL (cR (bd Try.f41))))))))))))) (.cnd (.tmp 16) (.seq (.leaf (cL (cT (cR (cR (cB (cL (cR (cR (cB (cB (cR (cL (cR (bd Try.f41))))))))))))))) (.leaf (cR (cT (cR (cR (cB (cL (cR (cR (cB (cB (cR (cL (cR (bd Try.f41)))))))))))))))) (.leaf (cE (cR (cR (cB (cL (cR (cR (cB (cB (cR (cL (cR (bd Try.f41)))))))))))))))))) (.leaf (cR (cR (cR (cB (cB (cR (cL (cR (bd Try.f41)))))))))))))))) (.seq (.leaf (cL (cR (cR (bd Try.f41))))) (.leaf (cR (cR (cR (bd Try.f41))))))))) (J := slices_IndexFunc_int__logs_Check_1.J0 R) LfYtcegohgmagppbaa.mixed Try.func41 (by kernel_rfl) (by kernel_rfl) (mkSeq (mkSeq (mkSeq mkLeaf mkLeaf) (mkSeq (mkBlock (mkLoop (loopDef LfYtcegohgmagppbaa.mixed [(0, .slice), (1, (.fn n_logs_Check_1 0)), (7, (.int .i64)), (8, (.int .i64))] (by kernel_rfl) (fun M1 x w => slices_IndexFunc_int__logs_Check_1.b1 R (fun y0 y1 y2 y3 w => M1 (y0, y1, y2, y3) w) x.1 x.2.1 x.2.2.1 x.2.2.2 w) (fun M1 => fun _ _ _ => False) (fun _ _ _ => by kernel_rfl) (fun M1 => (mkSeq (mkSeq (mkSeq mkLeaf (mkBlock (mkSeq (mkSeq (mkCnd (mkSeq mkLeaf mkLeaf) mkLeaf) mkLeaf) mkLeaf))) (mkCnd mkLeaf mkLeaf)) mkLeaf)) (fun x w => slices_IndexFunc_int__logs_Check_1.l1 R x.1 x.2.1 x.2.2.1 x.2.2.2 w) (by rintro ⟨c0, c1, c2, s0⟩ w ⟨I, μ, h0, h1⟩; refine ⟨fun y w => y.1 = c0 ∧ y.2.1 = c1 ∧ y.2.2.1 = c2 ∧ I y.2.2.2 w, fun y w => μ y.2.2.2 w, ⟨rfl, rfl, rfl, h0⟩, ?_⟩; rintro ⟨d0, d1, d2, t0⟩ w ⟨e0, e1, e2, hI⟩; dsimp only at e0 e1 e2 hI; subst e0; subst e1; subst e2; exact h1 _ _ hI) (fun _ _ => by kernel_rfl)))) mkLeaf)) mkLeaf) (kcast (by kernel_rfl) h)

/-! slices_rotateRight_Log -/
def slices_rotateRight_Log.main (R : Value → World → Prop) (s0 : Sl) (r1 : Int) (w : World) : Prop :=
  CallsV Try.prog n_slices_rotateLeft_Log #[.slice s0.a s0.len s0.cap, .int .i64 (IntKind.i64.wrap (((s0.len : Nat) : Int) - r1))] w (fun v_1 w1 =>
  v_1 = .tuple #[] ∧
  R (.tuple #[]) w1)

def slices_rotateRight_Log.J0 (_ : Value → World → Prop) (_ : Nat) (_ : Fr) (_ : World) : Prop := False

set_option maxRecDepth 100000 in
theorem slices_rotateRight_Log.lift {R : Value → World → Prop} {s0 : Sl} {r1 : Int} {w : World} (h : slices_rotateRight_Log.main R s0 r1 w) : CallsV Try.prog n_slices_rotateRight_Log #[.slice s0.a s0.len s0.cap, .int .i64 r1] w R :=
  liftCalls (c := (.leaf (bd Try.f43))) (J := slices_rotateRight_Log.J0 R) LfYtcegohgmagppbaa.mixed Try.func43 (by kernel_rfl) (by kernel_rfl) mkLeaf (kcast (by kernel_rfl) h)

/-! slices_rotateLeft_Log -/
def slices_rotateLeft_Log.main (R : Value → World → Prop) (s0 : Sl) (r1 : Int) (w : World) : Prop :=
  0 ≤ ((0 : Int) : Int) ∧ ((0 : Int) : Int) ≤ r1 ∧ (r1 : Int) ≤ ((s0.cap : Nat) : Int) ∧ (((s0.cap : Nat) : Int) : Int) ≤ ((s0.cap : Nat) : Int) ∧
  CallsV Try.prog n_slices_Reverse_Log #[.slice (if ((((s0.cap : Nat) : Int) : Int)).toNat = (((0 : Int) : Int)).toNat then s0.a else (s0.a).map (·.add ((((0 : Int) : Int)).toNat * 3))) (((r1 : Int)).toNat - (((0 : Int) : Int)).toNat) (((((s0.cap : Nat) : Int) : Int)).toNat - (((0 : Int) : Int)).toNat)] w (fun v_1 w1 =>
  v_1 = .tuple #[] ∧
  0 ≤ (r1 : Int) ∧ (r1 : Int) ≤ ((s0.len : Nat) : Int) ∧ (((s0.len : Nat) : Int) : Int) ≤ ((s0.cap : Nat) : Int) ∧ (((s0.cap : Nat) : Int) : Int) ≤ ((s0.cap : Nat) : Int) ∧
  CallsV Try.prog n_slices_Reverse_Log #[.slice (if ((((s0.cap : Nat) : Int) : Int)).toNat = ((r1 : Int)).toNat then s0.a else (s0.a).map (·.add (((r1 : Int)).toNat * 3))) (((((s0.len : Nat) : Int) : Int)).toNat - ((r1 : Int)).toNat) (((((s0.cap : Nat) : Int) : Int)).toNat - ((r1 : Int)).toNat)] w1 (fun v_2 w2 =>
  v_2 = .tuple #[] ∧
  CallsV Try.prog n_slices_Reverse_Log #[.slice s0.a s0.len s0.cap] w2 (fun v_3 w3 =>
  v_3 = .tuple #[] ∧
  R (.tuple #[]) w3)))

def slices_rotateLeft_Log.J0 (_ : Value → World → Prop) (_ : Nat) (_ : Fr) (_ : World) : Prop := False

set_option maxRecDepth 100000 in
theorem slices_rotateLeft_Log.lift {R : Value → World → Prop} {s0 : Sl} {r1 : Int} {w : World} (h : slices_rotateLeft_Log.main R s0 r1 w) : CallsV Try.prog n_slices_rotateLeft_Log #[.slice s0.a s0.len s0.cap, .int .i64 r1] w R :=
  liftCalls (c := (.seq (.leaf (cL (bd Try.f44))) (.seq (.leaf (cL (cR (bd Try.f44)))) (.leaf (cR (cR (bd Try.f44))))))) (J := slices_rotateLeft_Log.J0 R) LfYtcegohgmagppbaa.mixed Try.func44 (by kernel_rfl) (by kernel_rfl) (mkSeq (mkSeq mkLeaf mkLeaf) mkLeaf) (kcast (by kernel_rfl) h)

/-! slices_Reverse_Log -/
def slices_Reverse_Log.b1 (R : Value → World → Prop) (N1 : Sl → Int → Int → World → Prop) (s0 : Sl) (i2 : Int) (j3 : Int) (w : World) : Prop :=
  cond (decide ((i2 : Int) < j3))
  (∃ S_1 : World → Prop, S_1 w.drew ∧
  0 ≤ (j3 : Int) ∧ j3 < ((s0.len : Nat) : Int) ∧ ∃ q_2 : Addr, s0.a = some q_2 ∧
  ∃ x_3 : Int, (∀ x, S_1 x → x.cell? (q_2.add ((j3 : Int).toNat * 3)) = some (.int .i64 x_3)) ∧
  ∃ x_4 : Int, (∀ x, S_1 x → x.cell? ((q_2.add ((j3 : Int).toNat * 3)).add 1) = some (.int .i64 x_4)) ∧
  ∃ (a_5 : Option Addr) (l_6 c_7 : Nat), (∀ x, S_1 x → x.cell? ((q_2.add ((j3 : Int).toNat * 3)).add 2) = some (.slice a_5 l_6 c_7)) ∧
  0 ≤ (i2 : Int) ∧ i2 < ((s0.len : Nat) : Int) ∧ ∃ q_8 : Addr, s0.a = some q_8 ∧
  ∃ x_9 : Int, (∀ x, S_1 x → x.cell? (q_8.add ((i2 : Int).toNat * 3)) = some (.int .i64 x_9)) ∧
  ∃ x_10 : Int, (∀ x, S_1 x → x.cell? ((q_8.add ((i2 : Int).toNat * 3)).add 1) = some (.int .i64 x_10)) ∧
  ∃ (a_11 : Option Addr) (l_12 c_13 : Nat), (∀ x, S_1 x → x.cell? ((q_8.add ((i2 : Int).toNat * 3)).add 2) = some (.slice a_11 l_12 c_13)) ∧
  0 ≤ (i2 : Int) ∧ i2 < ((s0.len : Nat) : Int) ∧ ∃ q_14 : Addr, s0.a = some q_14 ∧
  (∀ j, j < 3 → Wr w.drew ((q_14.add ((i2 : Int).toNat * 3)).add j)) ∧
  (let w1 := setCells (q_14.add ((i2 : Int).toNat * 3)) [.int .i64 x_3, .int .i64 x_4, .slice a_5 l_6 c_7] 0 w.drew;
  0 ≤ (j3 : Int) ∧ j3 < ((s0.len : Nat) : Int) ∧ ∃ q_15 : Addr, s0.a = some q_15 ∧
  (∀ j, j < 3 → Wr w1 ((q_15.add ((j3 : Int).toNat * 3)).add j)) ∧
  (let w2 := setCells (q_15.add ((j3 : Int).toNat * 3)) [.int .i64 x_9, .int .i64 x_10, .slice a_11 l_12 c_13] 0 w1;
  (let i2_15 : Int := (IntKind.i64.wrap (i2 + 1));
  (let j3_16 : Int := (IntKind.i64.wrap (j3 - 1));
  N1 s0 i2_15 j3_16 w2)))))
  (R (.tuple #[]) w)

def slices_Reverse_Log.l1 (R : Value → World → Prop) (s0 : Sl) (i2 : Int) (j3 : Int) (w : World) : Prop :=
  ∃ (I : (Int × Int) → World → Prop) (μ : (Int × Int) → World → Nat), I (i2, j3) w ∧ ∀ s w, I s w → slices_Reverse_Log.b1 R (fun s0' i2' j3' w' => (s0' = s0 ∧ I (i2', j3') w') ∧ μ (i2', j3') w' < μ s w) s0 s.1 s.2 w

def slices_Reverse_Log.main (R : Value → World → Prop) (s0 : Sl) (w : World) : Prop :=
  (let j3_17 : Int := (IntKind.i64.wrap (((s0.len : Nat) : Int) - 1));
  slices_Reverse_Log.l1 R s0 0 j3_17 w)

def slices_Reverse_Log.J0 (R : Value → World → Prop) (k : Nat) (fr : Fr) (w : World) : Prop :=
  cond (Nat.beq k 1) (dec [(0, .slice), (2, (.int .i64)), (3, (.int .i64))] fr fun x => slices_Reverse_Log.l1 R x.1 x.2.1 x.2.2 w) (False)

set_option maxRecDepth 100000 in
theorem slices_Reverse_Log.lift {R : Value → World → Prop} {s0 : Sl} {w : World} (h : slices_Reverse_Log.main R s0 w) : CallsV Try.prog n_slices_Reverse_Log #[.slice s0.a s0.len s0.cap] w R :=
  liftCalls (c := (.seq (.leaf (cL (bd Try.f45))) (.block 0 (.loop 1 (.seq (.seq (.leaf (cL (cL (cB (cB (cR (bd Try.f45))))))) (.cnd (.tmp 9) (.leaf (cT (cR (cL (cB (cB (cR (bd Try.f45)))))))) (.leaf (cE (cR (cL (cB (cB (cR (bd Try.f45)))))))))) (.seq (.block 1 (.leaf (cB (cL (cR (cB (cB (cR (bd Try.f45))))))))) (.leaf (cR (cR (cB (cB (cR (bd Try.f45))))))))))))) (J := slices_Reverse_Log.J0 R) LfYtcegohgmagppbaa.mixed Try.func45 (by kernel_rfl) (by kernel_rfl) (mkSeq (mkBlock (mkLoop (loopDef LfYtcegohgmagppbaa.mixed [(0, .slice), (2, (.int .i64)), (3, (.int .i64))] (by kernel_rfl) (fun M1 x w => slices_Reverse_Log.b1 R (fun y0 y1 y2 w => M1 (y0, y1, y2) w) x.1 x.2.1 x.2.2 w) (fun M1 => fun _ _ _ => False) (fun _ _ _ => by kernel_rfl) (fun M1 => (mkSeq (mkSeq mkLeaf (mkBlock mkLeaf)) (mkSeq (mkCnd mkLeaf mkLeaf) mkLeaf))) (fun x w => slices_Reverse_Log.l1 R x.1 x.2.1 x.2.2 w) (by rintro ⟨c0, s0⟩ w ⟨I, μ, h0, h1⟩; refine ⟨fun y w => y.1 = c0 ∧ I y.2 w, fun y w => μ y.2 w, ⟨rfl, h0⟩, ?_⟩; rintro ⟨d0, t0⟩ w ⟨e0, hI⟩; dsimp only at e0 hI; subst e0; exact h1 _ _ hI) (fun _ _ => by kernel_rfl)))) mkLeaf) (kcast (by kernel_rfl) h)

end Go.Proofs.Ytcegohgmagppbaa
