/-
  What the code of these functions comes to, and that it suffices for the call. Written by a program of ours, for this claim.
-/
import Derived.Test.YtpihglmgkfecbaaDoorProg
import Derived.Test.YtpihglmgkfecbaaDoorLift
set_option linter.unusedVariables false
namespace Go.Proofs.YtpihglmgkfecbaaDoor
open Go.Lf
theorem LfYtpihglmgkfecbaaDoor.mixed : Tryd.prog.follows .mixedOrders = true := by kernel_rfl
abbrev n_trystlaw10_TermTwo : Nat := 3
abbrev n_trystlaw10_TermExact : Nat := 4
abbrev n_trystlaw10_TermOnce : Nat := 5
abbrev n_trystlaw10_TermCounts : Nat := 6
abbrev n_trystlaw10_TermKeys : Nat := 7
abbrev n_trystlaw10_TermBeneath : Nat := 8
abbrev n_trystlaw10_TermMemory : Nat := 9
abbrev n_trystlaw10_TermOpens : Nat := 10
abbrev n_trystlaw10_Heavy : Nat := 14
abbrev n_term_New : Nat := 15
abbrev n_term_Arena_Make : Nat := 16
abbrev n_trystlaw10_Some : Nat := 17
abbrev n_term_Arena_Len : Nat := 18
abbrev n_trystlaw10_wakes : Nat := 19
abbrev n_trystlaw10_Build : Nat := 20
abbrev n_term_Arena_Node : Nat := 21
abbrev n_trystkeep_Term : Nat := 22
abbrev n_trystkeep_SpoilInts : Nat := 23
abbrev n_trystref10_Arena_Has : Nat := 24
abbrev n_term_Arena_Open : Nat := 25
abbrev n_term_Arena_Unbox : Nat := 26
abbrev n_term_Arena_Signed : Nat := 27
abbrev n_trystkeep_Ints : Nat := 28
abbrev n_term_Arena_Beneath : Nat := 29
abbrev n_trystref10_Arena_Open : Nat := 30
abbrev n_trystref10_Arena_Unbox : Nat := 31
abbrev n_trystref10_Arena_Signed : Nat := 32
abbrev n_trystref10_Arena_Beneath : Nat := 33
abbrev n_term_many : Nat := 37
abbrev n_term_Arena_Has : Nat := 38
abbrev n_term_key : Nat := 39
abbrev n_slices_Clone_int : Nat := 40
abbrev n_trystkeep_TwinInts : Nat := 41
abbrev n_trystref10_Arena_Put : Nat := 42
abbrev n_slices_Reverse_int : Nat := 43
abbrev n_strconv_AppendInt : Nat := 47
abbrev n_trystref10_count : Nat := 48
/-! trystlaw10_TermTwo -/
def trystlaw10_TermTwo.c1 (R : Value → World → Prop) (a5 : Option Addr) (b6 : Option Addr) (w : World) : Prop :=
  CallsV Tryd.prog n_term_Arena_Len #[.pointer a5] w (fun v_1 w1 =>
  ∃ x_2 : Int, v_1 = .int .i64 x_2 ∧
  CallsV Tryd.prog n_term_Arena_Len #[.pointer b6] w1 (fun v_3 w2 =>
  ∃ x_4 : Int, v_3 = .int .i64 x_4 ∧
  cond ((x_2 : Int) == x_4)
  (CallsV Tryd.prog n_trystlaw10_wakes #[] w2 (fun v_5 w3 =>
  ∃ b_6 : Bool, v_5 = .bool b_6 ∧
  R (.bool b_6) w3))
  (R (.bool false) w2)))

def trystlaw10_TermTwo.c3 (R : Value → World → Prop) (N2 : Sl → Sl → Option Addr → Option Addr → Option Addr → Int → World → Prop) (l0 : Sl) (other1 : Sl) (a5 : Option Addr) (b6 : Option Addr) (c7 : Option Addr) (i8 : Int) (x9 : Int) (e10 : Int) (w : World) : Prop :=
  ∃ S_7 : World → Prop, S_7 w.drew ∧
  0 ≤ (i8 : Int) ∧ i8 < ((l0.len : Nat) : Int) ∧ ∃ q_8 : Addr, l0.a = some q_8 ∧
  ∃ x_9 : Int, (∀ x, S_7 x → x.cell? (q_8.add ((i8 : Int).toNat * 4)) = some (.int .i64 x_9)) ∧
  0 ≤ (i8 : Int) ∧ i8 < ((l0.len : Nat) : Int) ∧ ∃ q_10 : Addr, l0.a = some q_10 ∧
  ∃ x_11 : Int, (∀ x, S_7 x → x.cell? ((q_10.add ((i8 : Int).toNat * 4)).add 1) = some (.int .i64 x_11)) ∧
  0 ≤ (i8 : Int) ∧ i8 < ((l0.len : Nat) : Int) ∧ ∃ q_12 : Addr, l0.a = some q_12 ∧
  ∃ (a_13 : Option Addr) (l_14 c_15 : Nat), (∀ x, S_7 x → x.cell? ((q_12.add ((i8 : Int).toNat * 4)).add 2) = some (.slice a_13 l_14 c_15)) ∧
  CallsV Tryd.prog n_term_Arena_Len #[.pointer b6] w.drew (fun v_16 w4 =>
  ∃ x_17 : Int, v_16 = .int .i64 x_17 ∧
  S_7 w4 ∧
  CallsV Tryd.prog n_trystlaw10_Some #[.slice a_13 l_14 c_15, .int .i64 x_17] w4 (fun v_18 w5 =>
  ∃ (a_19 : Option Addr) (l_20 c_21 : Nat), v_18 = .slice a_19 l_20 c_21 ∧
  S_7 w5 ∧
  CallsV Tryd.prog n_term_Arena_Make #[.pointer b6, .int .i64 x_9, .int .i64 x_11, .slice a_19 l_20 c_21] w5 (fun v_22 w6 =>
  ∃ x_23 : Int, ∃ x_24 : Int, v_22 = .tuple #[.int .i64 x_23, .int .i64 x_24] ∧
  cond ((x9 : Int) != x_23)
  (R (.bool false) w6)
  (cond ((e10 : Int) != x_24)
  (R (.bool false) w6)
  ((let i8_24 : Int := (IntKind.i64.wrap (i8 + 1));
  N2 l0 other1 a5 b6 c7 i8_24 w6))))))

def trystlaw10_TermTwo.c4 (R : Value → World → Prop) (N2 : Sl → Sl → Option Addr → Option Addr → Option Addr → Int → World → Prop) (l0 : Sl) (other1 : Sl) (a5 : Option Addr) (b6 : Option Addr) (c7 : Option Addr) (i8 : Int) (w : World) : Prop :=
  ∃ S_26 : World → Prop, S_26 w.drew ∧
  0 ≤ (i8 : Int) ∧ i8 < ((l0.len : Nat) : Int) ∧ ∃ q_27 : Addr, l0.a = some q_27 ∧
  ∃ x_28 : Int, (∀ x, S_26 x → x.cell? (q_27.add ((i8 : Int).toNat * 4)) = some (.int .i64 x_28)) ∧
  0 ≤ (i8 : Int) ∧ i8 < ((l0.len : Nat) : Int) ∧ ∃ q_29 : Addr, l0.a = some q_29 ∧
  ∃ x_30 : Int, (∀ x, S_26 x → x.cell? ((q_29.add ((i8 : Int).toNat * 4)).add 1) = some (.int .i64 x_30)) ∧
  0 ≤ (i8 : Int) ∧ i8 < ((l0.len : Nat) : Int) ∧ ∃ q_31 : Addr, l0.a = some q_31 ∧
  ∃ (a_32 : Option Addr) (l_33 c_34 : Nat), (∀ x, S_26 x → x.cell? ((q_31.add ((i8 : Int).toNat * 4)).add 2) = some (.slice a_32 l_33 c_34)) ∧
  CallsV Tryd.prog n_term_Arena_Len #[.pointer a5] w.drew (fun v_35 w7 =>
  ∃ x_36 : Int, v_35 = .int .i64 x_36 ∧
  S_26 w7 ∧
  CallsV Tryd.prog n_trystlaw10_Some #[.slice a_32 l_33 c_34, .int .i64 x_36] w7 (fun v_37 w8 =>
  ∃ (a_38 : Option Addr) (l_39 c_40 : Nat), v_37 = .slice a_38 l_39 c_40 ∧
  S_26 w8 ∧
  CallsV Tryd.prog n_term_Arena_Make #[.pointer a5, .int .i64 x_28, .int .i64 x_30, .slice a_38 l_39 c_40] w8 (fun v_41 w9 =>
  ∃ x_42 : Int, ∃ x_43 : Int, v_41 = .tuple #[.int .i64 x_42, .int .i64 x_43] ∧
  cond (decide ((i8 : Int) < ((other1.len : Nat) : Int)))
  (∃ S_44 : World → Prop, S_44 w9.drew ∧
  0 ≤ (i8 : Int) ∧ i8 < ((other1.len : Nat) : Int) ∧ ∃ q_45 : Addr, other1.a = some q_45 ∧
  ∃ x_46 : Int, (∀ x, S_44 x → x.cell? (q_45.add ((i8 : Int).toNat * 4)) = some (.int .i64 x_46)) ∧
  0 ≤ (i8 : Int) ∧ i8 < ((other1.len : Nat) : Int) ∧ ∃ q_47 : Addr, other1.a = some q_47 ∧
  ∃ x_48 : Int, (∀ x, S_44 x → x.cell? ((q_47.add ((i8 : Int).toNat * 4)).add 1) = some (.int .i64 x_48)) ∧
  0 ≤ (i8 : Int) ∧ i8 < ((other1.len : Nat) : Int) ∧ ∃ q_49 : Addr, other1.a = some q_49 ∧
  ∃ (a_50 : Option Addr) (l_51 c_52 : Nat), (∀ x, S_44 x → x.cell? ((q_49.add ((i8 : Int).toNat * 4)).add 2) = some (.slice a_50 l_51 c_52)) ∧
  CallsV Tryd.prog n_term_Arena_Len #[.pointer c7] w9.drew (fun v_53 w10 =>
  ∃ x_54 : Int, v_53 = .int .i64 x_54 ∧
  S_44 w10 ∧
  CallsV Tryd.prog n_trystlaw10_Some #[.slice a_50 l_51 c_52, .int .i64 x_54] w10 (fun v_55 w11 =>
  ∃ (a_56 : Option Addr) (l_57 c_58 : Nat), v_55 = .slice a_56 l_57 c_58 ∧
  S_44 w11 ∧
  CallsV Tryd.prog n_term_Arena_Make #[.pointer c7, .int .i64 x_46, .int .i64 x_48, .slice a_56 l_57 c_58] w11 (fun v_59 w12 =>
  ∃ x_60 : Int, ∃ x_61 : Int, v_59 = .tuple #[.int .i64 x_60, .int .i64 x_61] ∧
  trystlaw10_TermTwo.c3 R N2 l0 other1 a5 b6 c7 i8 x_42 x_43 w12))))
  (trystlaw10_TermTwo.c3 R N2 l0 other1 a5 b6 c7 i8 x_42 x_43 w9))))

def trystlaw10_TermTwo.b2 (R : Value → World → Prop) (N2 : Sl → Sl → Option Addr → Option Addr → Option Addr → Int → World → Prop) (l0 : Sl) (other1 : Sl) (a5 : Option Addr) (b6 : Option Addr) (c7 : Option Addr) (i8 : Int) (w : World) : Prop :=
  cond (decide ((i8 : Int) < ((l0.len : Nat) : Int)))
  (cond (decide ((i8 : Int) < 150))
  (trystlaw10_TermTwo.c4 R N2 l0 other1 a5 b6 c7 i8 w)
  (trystlaw10_TermTwo.c1 R a5 b6 w))
  (trystlaw10_TermTwo.c1 R a5 b6 w)

def trystlaw10_TermTwo.l2 (R : Value → World → Prop) (l0 : Sl) (other1 : Sl) (a5 : Option Addr) (b6 : Option Addr) (c7 : Option Addr) (i8 : Int) (w : World) : Prop :=
  ∃ (I : Int → World → Prop) (μ : Int → World → Nat), I i8 w ∧ ∀ s w, I s w → trystlaw10_TermTwo.b2 R (fun l0' other1' a5' b6' c7' i8' w' => (l0' = l0 ∧ other1' = other1 ∧ a5' = a5 ∧ b6' = b6 ∧ c7' = c7 ∧ I i8' w') ∧ μ i8' w' < μ s w) l0 other1 a5 b6 c7 s w

def trystlaw10_TermTwo.c5 (R : Value → World → Prop) (l0 : Sl) (other1 : Sl) (a5 : Option Addr) (b6 : Option Addr) (c7 : Option Addr) (w : World) : Prop :=
  trystlaw10_TermTwo.l2 R l0 other1 a5 b6 c7 0 w

def trystlaw10_TermTwo.c6 (R : Value → World → Prop) (l0 : Sl) (other1 : Sl) (w : World) : Prop :=
  CallsV Tryd.prog n_term_New #[] w (fun v_62 w13 =>
  ∃ p_63 : Option Addr, v_62 = .pointer p_63 ∧
  CallsV Tryd.prog n_term_New #[] w13 (fun v_64 w14 =>
  ∃ p_65 : Option Addr, v_64 = .pointer p_65 ∧
  CallsV Tryd.prog n_term_New #[] w14 (fun v_66 w15 =>
  ∃ p_67 : Option Addr, v_66 = .pointer p_67 ∧
  cond ((p_63).isNone)
  (R (.bool false) w15)
  (cond ((p_65).isNone)
  (R (.bool false) w15)
  (cond ((p_67).isNone)
  (R (.bool false) w15)
  (trystlaw10_TermTwo.c5 R l0 other1 p_63 p_65 p_67 w15))))))

def trystlaw10_TermTwo.main (R : Value → World → Prop) (l0 : Sl) (other1 : Sl) (w : World) : Prop :=
  CallsV Tryd.prog n_trystlaw10_Heavy #[.slice l0.a l0.len l0.cap] w (fun v_68 w16 =>
  ∃ b_69 : Bool, v_68 = .bool b_69 ∧
  cond b_69
  (R (.bool true) w16)
  (CallsV Tryd.prog n_trystlaw10_Heavy #[.slice other1.a other1.len other1.cap] w16 (fun v_70 w17 =>
  ∃ b_71 : Bool, v_70 = .bool b_71 ∧
  cond b_71
  (R (.bool true) w17)
  (trystlaw10_TermTwo.c6 R l0 other1 w17))))

def trystlaw10_TermTwo.J2 (R : Value → World → Prop) (N2 : Sl → Sl → Option Addr → Option Addr → Option Addr → Int → World → Prop) (k : Nat) (fr : Fr) (w : World) : Prop :=
  cond (Nat.beq k 4) (dec [(0, .slice), (1, .slice), (5, .ptr), (6, .ptr), (7, .ptr), (8, (.int .i64))] fr fun x => trystlaw10_TermTwo.c4 R N2 x.1 x.2.1 x.2.2.1 x.2.2.2.1 x.2.2.2.2.1 x.2.2.2.2.2 w) (cond (Nat.beq k 3) (dec [(0, .slice), (1, .slice), (5, .ptr), (6, .ptr), (7, .ptr), (8, (.int .i64)), (9, (.int .i64)), (10, (.int .i64))] fr fun x => trystlaw10_TermTwo.c3 R N2 x.1 x.2.1 x.2.2.1 x.2.2.2.1 x.2.2.2.2.1 x.2.2.2.2.2.1 x.2.2.2.2.2.2.1 x.2.2.2.2.2.2.2 w) (False))

def trystlaw10_TermTwo.J0 (R : Value → World → Prop) (k : Nat) (fr : Fr) (w : World) : Prop :=
  cond (Nat.beq k 6) (dec [(0, .slice), (1, .slice)] fr fun x => trystlaw10_TermTwo.c6 R x.1 x.2 w) (cond (Nat.beq k 5) (dec [(0, .slice), (1, .slice), (5, .ptr), (6, .ptr), (7, .ptr)] fr fun x => trystlaw10_TermTwo.c5 R x.1 x.2.1 x.2.2.1 x.2.2.2.1 x.2.2.2.2 w) (cond (Nat.beq k 2) (dec [(0, .slice), (1, .slice), (5, .ptr), (6, .ptr), (7, .ptr), (8, (.int .i64))] fr fun x => trystlaw10_TermTwo.l2 R x.1 x.2.1 x.2.2.1 x.2.2.2.1 x.2.2.2.2.1 x.2.2.2.2.2 w) (cond (Nat.beq k 1) (dec [(5, .ptr), (6, .ptr)] fr fun x => trystlaw10_TermTwo.c1 R x.1 x.2 w) (False))))

set_option maxRecDepth 100000 in
theorem trystlaw10_TermTwo.lift {R : Value → World → Prop} {l0 : Sl} {other1 : Sl} {w : World} (h : trystlaw10_TermTwo.main R l0 other1 w) : CallsV Tryd.prog n_trystlaw10_TermTwo #[.slice l0.a l0.len l0.cap, .slice other1.a other1.len other1.cap] w R :=
  liftCalls (c := (.seq (.leaf (cL (bd Tryd.f3))) (.seq (.seq (.leaf (cL (cL (cR (bd Tryd.f3))))) (.cnd (.tmp 18) (.seq (.leaf (cL (cT (cR (cL (cR (bd Tryd.f3))))))) (.leaf (cR (cT (cR (cL (cR (bd Tryd.f3)))))))) (.leaf (cE (cR (cL (cR (bd Tryd.f3)))))))) (.cut 6 (.seq (.leaf (cL (cR (cR (bd Tryd.f3))))) (.seq (.seq (.leaf (cL (cL (cR (cR (cR (bd Tryd.f3))))))) (.cnd (.tmp 31) (.seq (.leaf (cL (cT (cR (cL (cR (cR (cR (bd Tryd.f3))))))))) (.leaf (cR (cT (cR (cL (cR (cR (cR (bd Tryd.f3)))))))))) (.leaf (cE (cR (cL (cR (cR (cR (bd Tryd.f3)))))))))) (.cut 5 (.seq (.seq (.leaf (cL (cL (cR (cR (cR (cR (bd Tryd.f3)))))))) (.block 0 (.loop 2 (.seq (.seq (.leaf (cL (cL (cB (cB (cR (cL (cR (cR (cR (cR (bd Tryd.f3)))))))))))) (.cnd (.tmp 39) (.leaf (cT (cR (cL (cB (cB (cR (cL (cR (cR (cR (cR (bd Tryd.f3))))))))))))) (.leaf (cE (cR (cL (cB (cB (cR (cL (cR (cR (cR (cR (bd Tryd.f3))))))))))))))) (.cut 4 (.seq (.block 1 (.seq (.leaf (cL (cB (cL (cR (cB (cB (cR (cL (cR (cR (cR (cR (bd Tryd.f3)))))))))))))) (.seq (.seq (.leaf (cL (cL (cR (cB (cL (cR (cB (cB (cR (cL (cR (cR (cR (cR (bd Tryd.f3)))))))))))))))) (.cnd (.tmp 68) (.leaf (cT (cR (cL (cR (cB (cL (cR (cB (cB (cR (cL (cR (cR (cR (cR (bd Tryd.f3))))))))))))))))) (.leaf (cE (cR (cL (cR (cB (cL (cR (cB (cB (cR (cL (cR (cR (cR (cR (bd Tryd.f3))))))))))))))))))) (.cut 3 (.seq (.leaf (cL (cR (cR (cB (cL (cR (cB (cB (cR (cL (cR (cR (cR (cR (bd Tryd.f3)))))))))))))))) (.seq (.leaf (cL (cR (cR (cR (cB (cL (cR (cB (cB (cR (cL (cR (cR (cR (cR (bd Tryd.f3))))))))))))))))) (.cnd (.tmp 119) (.seq (.leaf (cL (cT (cR (cR (cR (cR (cB (cL (cR (cB (cB (cR (cL (cR (cR (cR (cR (bd Tryd.f3))))))))))))))))))) (.leaf (cR (cT (cR (cR (cR (cR (cB (cL (cR (cB (cB (cR (cL (cR (cR (cR (cR (bd Tryd.f3)))))))))))))))))))) (.leaf (cE (cR (cR (cR (cR (cB (cL (cR (cB (cB (cR (cL (cR (cR (cR (cR (bd Tryd.f3))))))))))))))))))))))))) (.leaf (cR (cR (cB (cB (cR (cL (cR (cR (cR (cR (bd Tryd.f3)))))))))))))))))) (.cut 1 (.seq (.leaf (cL (cR (cR (cR (cR (cR (bd Tryd.f3)))))))) (.leaf (cR (cR (cR (cR (cR (cR (bd Tryd.f3)))))))))))))))))) (J := trystlaw10_TermTwo.J0 R) LfYtpihglmgkfecbaaDoor.mixed Tryd.func3 (by kernel_rfl) (by kernel_rfl) (mkSeq (mkSeq (mkCut (cutDef [(0, .slice), (1, .slice)] (fun x w => trystlaw10_TermTwo.c6 R x.1 x.2 w) (fun _ _ => by kernel_rfl) (fun _ _ => by kernel_rfl)) (mkSeq (mkSeq (mkCut (cutDef [(0, .slice), (1, .slice), (5, .ptr), (6, .ptr), (7, .ptr)] (fun x w => trystlaw10_TermTwo.c5 R x.1 x.2.1 x.2.2.1 x.2.2.2.1 x.2.2.2.2 w) (fun _ _ => by kernel_rfl) (fun _ _ => by kernel_rfl)) (mkSeq (mkCut (cutDef [(5, .ptr), (6, .ptr)] (fun x w => trystlaw10_TermTwo.c1 R x.1 x.2 w) (fun _ _ => by kernel_rfl) (fun _ _ => by kernel_rfl)) (mkSeq mkLeaf mkLeaf)) (mkSeq (mkBlock (mkLoop (loopDef LfYtpihglmgkfecbaaDoor.mixed [(0, .slice), (1, .slice), (5, .ptr), (6, .ptr), (7, .ptr), (8, (.int .i64))] (by kernel_rfl) (fun M2 x w => trystlaw10_TermTwo.b2 R (fun y0 y1 y2 y3 y4 y5 w => M2 (y0, y1, y2, y3, y4, y5) w) x.1 x.2.1 x.2.2.1 x.2.2.2.1 x.2.2.2.2.1 x.2.2.2.2.2 w) (fun M2 => trystlaw10_TermTwo.J2 R (fun y0 y1 y2 y3 y4 y5 w => M2 (y0, y1, y2, y3, y4, y5) w)) (fun _ _ _ => by kernel_rfl) (fun M2 => (mkSeq (mkCut (cutDef [(0, .slice), (1, .slice), (5, .ptr), (6, .ptr), (7, .ptr), (8, (.int .i64))] (fun x w => trystlaw10_TermTwo.c4 R (fun y0 y1 y2 y3 y4 y5 w => M2 (y0, y1, y2, y3, y4, y5) w) x.1 x.2.1 x.2.2.1 x.2.2.2.1 x.2.2.2.2.1 x.2.2.2.2.2 w) (fun _ _ => by kernel_rfl) (fun _ _ => by kernel_rfl)) (mkSeq mkLeaf (mkBlock (mkSeq (mkSeq (mkCut (cutDef [(0, .slice), (1, .slice), (5, .ptr), (6, .ptr), (7, .ptr), (8, (.int .i64)), (9, (.int .i64)), (10, (.int .i64))] (fun x w => trystlaw10_TermTwo.c3 R (fun y0 y1 y2 y3 y4 y5 w => M2 (y0, y1, y2, y3, y4, y5) w) x.1 x.2.1 x.2.2.1 x.2.2.2.1 x.2.2.2.2.1 x.2.2.2.2.2.1 x.2.2.2.2.2.2.1 x.2.2.2.2.2.2.2 w) (fun _ _ => by kernel_rfl) (fun _ _ => by kernel_rfl)) (mkSeq (mkSeq (mkCnd (mkSeq mkLeaf mkLeaf) mkLeaf) mkLeaf) mkLeaf)) (mkSeq (mkCnd mkLeaf mkLeaf) mkLeaf)) mkLeaf)))) (mkSeq (mkCnd mkLeaf mkLeaf) mkLeaf))) (fun x w => trystlaw10_TermTwo.l2 R x.1 x.2.1 x.2.2.1 x.2.2.2.1 x.2.2.2.2.1 x.2.2.2.2.2 w) (by rintro ⟨c0, c1, c2, c3, c4, s0⟩ w ⟨I, μ, h0, h1⟩; refine ⟨fun y w => y.1 = c0 ∧ y.2.1 = c1 ∧ y.2.2.1 = c2 ∧ y.2.2.2.1 = c3 ∧ y.2.2.2.2.1 = c4 ∧ I y.2.2.2.2.2 w, fun y w => μ y.2.2.2.2.2 w, ⟨rfl, rfl, rfl, rfl, rfl, h0⟩, ?_⟩; rintro ⟨d0, d1, d2, d3, d4, t0⟩ w ⟨e0, e1, e2, e3, e4, hI⟩; dsimp only at e0 e1 e2 e3 e4 hI; subst e0; subst e1; subst e2; subst e3; subst e4; exact h1 _ _ hI) (fun _ _ => by kernel_rfl)))) mkLeaf))) (mkSeq (mkCnd (mkSeq mkLeaf mkLeaf) mkLeaf) mkLeaf)) mkLeaf)) (mkSeq (mkCnd (mkSeq mkLeaf mkLeaf) mkLeaf) mkLeaf)) mkLeaf) (kcast (by kernel_rfl) h)

/-! trystlaw10_TermExact -/
def trystlaw10_TermExact.c1 (R : Value → World → Prop) (at1 : Int) (a5 : Option Addr) (b6 : Option Addr) (w : World) : Prop :=
  CallsV Tryd.prog n_term_Arena_Node #[.pointer a5, .int .i64 at1] w (fun v_1 w1 =>
  ∃ x_2 : Int, ∃ x_3 : Int, ∃ (a_4 : Option Addr) (l_5 c_6 : Nat), ∃ x_7 : Int, v_1 = .tuple #[.agg #[.int .i64 x_2, .int .i64 x_3, .slice a_4 l_5 c_6], .int .i64 x_7] ∧
  let w2 := w1.alloc (.cells #[.int .i64 0, .int .i64 0, .slice none 0 0] 43);
  (∀ j, j < 3 → Wr w2 ((newA w1).add j)) ∧
  (let w3 := setCells (newA w1) [.int .i64 x_2, .int .i64 x_3, .slice a_4 l_5 c_6] 0 w2;
  let w4 := w3.alloc (.cells #[.int .i64 at1] 3);
  CallsV Tryd.prog n_trystref10_Arena_Has #[.pointer b6, .slice (some (newA w3)) 1 1] w4 (fun v_8 w5 =>
  ∃ b_9 : Bool, v_8 = .bool b_9 ∧
  cond b_9
  (cond ((x_7 : Int) == 0)
  (CallsV Tryd.prog n_trystlaw10_wakes #[] w5 (fun v_10 w6 =>
  ∃ b_11 : Bool, v_10 = .bool b_11 ∧
  R (.bool b_11) w6))
  (R (.bool false) w5))
  (cond ((x_7 : Int) == 8)
  (∃ x_12 : Int, w5.cell? (newA w1) = some (.int .i64 x_12) ∧
  ∃ x_13 : Int, w5.cell? ((newA w1).add 1) = some (.int .i64 x_13) ∧
  ∃ (a_14 : Option Addr) (l_15 c_16 : Nat), w5.cell? ((newA w1).add 2) = some (.slice a_14 l_15 c_16) ∧
  CallsV Tryd.prog n_trystkeep_Term #[.agg #[.int .i64 x_12, .int .i64 x_13, .slice a_14 l_15 c_16], .agg #[.int .i64 0, .int .i64 0, .slice none 0 0]] w5 (fun v_17 w7 =>
  ∃ b_18 : Bool, v_17 = .bool b_18 ∧
  cond b_18
  (CallsV Tryd.prog n_trystlaw10_wakes #[] w7 (fun v_19 w8 =>
  ∃ b_20 : Bool, v_19 = .bool b_20 ∧
  R (.bool b_20) w8))
  (R (.bool false) w7)))
  (R (.bool false) w5)))))

def trystlaw10_TermExact.c4 (R : Value → World → Prop) (N2 : Int → Option Addr → Option Addr → Int → World → Prop) (N3 : Int → Option Addr → Option Addr → Int → Int → World → Prop) (at1 : Int) (a5 : Option Addr) (b6 : Option Addr) (i8 : Int) (k9 : Int) (t10 : Addr) (w : World) : Prop :=
  ∃ (a_21 : Option Addr) (l_22 c_23 : Nat), w.cell? (t10.add 2) = some (.slice a_21 l_22 c_23) ∧
  CallsV Tryd.prog n_trystkeep_SpoilInts #[.slice a_21 l_22 c_23] w (fun v_24 w9 =>
  v_24 = .tuple #[] ∧
  (let k9_24 : Int := (IntKind.i64.wrap (k9 + 1));
  N3 at1 a5 b6 i8 k9_24 w9))

def trystlaw10_TermExact.b3 (R : Value → World → Prop) (N2 : Int → Option Addr → Option Addr → Int → World → Prop) (N3 : Int → Option Addr → Option Addr → Int → Int → World → Prop) (at1 : Int) (a5 : Option Addr) (b6 : Option Addr) (i8 : Int) (k9 : Int) (w : World) : Prop :=
  cond (decide ((k9 : Int) < 2))
  (CallsV Tryd.prog n_term_Arena_Node #[.pointer a5, .int .i64 i8] w (fun v_26 w10 =>
  ∃ x_27 : Int, ∃ x_28 : Int, ∃ (a_29 : Option Addr) (l_30 c_31 : Nat), ∃ x_32 : Int, v_26 = .tuple #[.agg #[.int .i64 x_27, .int .i64 x_28, .slice a_29 l_30 c_31], .int .i64 x_32] ∧
  let w11 := w10.alloc (.cells #[.int .i64 0, .int .i64 0, .slice none 0 0] 43);
  (∀ j, j < 3 → Wr w11 ((newA w10).add j)) ∧
  (let w12 := setCells (newA w10) [.int .i64 x_27, .int .i64 x_28, .slice a_29 l_30 c_31] 0 w11;
  ∃ S_33 : World → Prop, S_33 w12.drew ∧
  cond ((x_32 : Int) != 0)
  (R (.bool false) w12.drew)
  (∃ x_34 : Int, (∀ x, S_33 x → x.cell? (newA w10) = some (.int .i64 x_34)) ∧
  ∃ x_35 : Int, (∀ x, S_33 x → x.cell? ((newA w10).add 1) = some (.int .i64 x_35)) ∧
  ∃ (a_36 : Option Addr) (l_37 c_38 : Nat), (∀ x, S_33 x → x.cell? ((newA w10).add 2) = some (.slice a_36 l_37 c_38)) ∧
  ∃ q_39 : Addr, b6 = some q_39 ∧
  ∃ (a_40 : Option Addr) (l_41 c_42 : Nat), (∀ x, S_33 x → x.cell? q_39 = some (.slice a_40 l_41 c_42)) ∧
  0 ≤ (i8 : Int) ∧ i8 < ((l_41 : Nat) : Int) ∧ ∃ q_43 : Addr, a_40 = some q_43 ∧
  ∃ x_44 : Int, (∀ x, S_33 x → x.cell? (q_43.add ((i8 : Int).toNat * 3)) = some (.int .i64 x_44)) ∧
  ∃ x_45 : Int, (∀ x, S_33 x → x.cell? ((q_43.add ((i8 : Int).toNat * 3)).add 1) = some (.int .i64 x_45)) ∧
  ∃ (a_46 : Option Addr) (l_47 c_48 : Nat), (∀ x, S_33 x → x.cell? ((q_43.add ((i8 : Int).toNat * 3)).add 2) = some (.slice a_46 l_47 c_48)) ∧
  CallsV Tryd.prog n_trystkeep_Term #[.agg #[.int .i64 x_34, .int .i64 x_35, .slice a_36 l_37 c_38], .agg #[.int .i64 x_44, .int .i64 x_45, .slice a_46 l_47 c_48]] w12.drew (fun v_49 w13 =>
  ∃ b_50 : Bool, v_49 = .bool b_50 ∧
  cond (!b_50)
  (R (.bool false) w13)
  (trystlaw10_TermExact.c4 R N2 N3 at1 a5 b6 i8 k9 (newA w10) w13))))))
  ((let i8_50 : Int := (IntKind.i64.wrap (i8 + 1));
  N2 at1 a5 b6 i8_50 w))

def trystlaw10_TermExact.l3 (R : Value → World → Prop) (N2 : Int → Option Addr → Option Addr → Int → World → Prop) (at1 : Int) (a5 : Option Addr) (b6 : Option Addr) (i8 : Int) (k9 : Int) (w : World) : Prop :=
  ∃ (I : Int → World → Prop) (μ : Int → World → Nat), I k9 w ∧ ∀ s w, I s w → trystlaw10_TermExact.b3 R N2 (fun at1' a5' b6' i8' k9' w' => (at1' = at1 ∧ a5' = a5 ∧ b6' = b6 ∧ i8' = i8 ∧ I k9' w') ∧ μ k9' w' < μ s w) at1 a5 b6 i8 s w

def trystlaw10_TermExact.b2 (R : Value → World → Prop) (N2 : Int → Option Addr → Option Addr → Int → World → Prop) (at1 : Int) (a5 : Option Addr) (b6 : Option Addr) (i8 : Int) (w : World) : Prop :=
  ∃ q_52 : Addr, b6 = some q_52 ∧
  ∃ (a_53 : Option Addr) (l_54 c_55 : Nat), w.cell? q_52 = some (.slice a_53 l_54 c_55) ∧
  cond (decide ((i8 : Int) < ((l_54 : Nat) : Int)))
  (trystlaw10_TermExact.l3 R N2 at1 a5 b6 i8 0 w)
  (trystlaw10_TermExact.c1 R at1 a5 b6 w)

def trystlaw10_TermExact.l2 (R : Value → World → Prop) (at1 : Int) (a5 : Option Addr) (b6 : Option Addr) (i8 : Int) (w : World) : Prop :=
  ∃ (I : Int → World → Prop) (μ : Int → World → Nat), I i8 w ∧ ∀ s w, I s w → trystlaw10_TermExact.b2 R (fun at1' a5' b6' i8' w' => (at1' = at1 ∧ a5' = a5 ∧ b6' = b6 ∧ I i8' w') ∧ μ i8' w' < μ s w) at1 a5 b6 s w

def trystlaw10_TermExact.main (R : Value → World → Prop) (l0 : Sl) (at1 : Int) (w : World) : Prop :=
  CallsV Tryd.prog n_trystlaw10_Heavy #[.slice l0.a l0.len l0.cap] w (fun v_56 w14 =>
  ∃ b_57 : Bool, v_56 = .bool b_57 ∧
  cond b_57
  (R (.bool true) w14)
  (CallsV Tryd.prog n_trystlaw10_Build #[.slice l0.a l0.len l0.cap] w14 (fun v_58 w15 =>
  ∃ p_59 : Option Addr, ∃ p_60 : Option Addr, ∃ b_61 : Bool, v_58 = .tuple #[.pointer p_59, .pointer p_60, .bool b_61] ∧
  cond (!b_61)
  (R (.bool false) w15)
  (trystlaw10_TermExact.l2 R at1 p_59 p_60 0 w15))))

def trystlaw10_TermExact.J2 (R : Value → World → Prop) (N2 : Int → Option Addr → Option Addr → Int → World → Prop) (k : Nat) (fr : Fr) (w : World) : Prop :=
  cond (Nat.beq k 3) (dec [(1, (.int .i64)), (5, .ptr), (6, .ptr), (8, (.int .i64)), (9, (.int .i64))] fr fun x => trystlaw10_TermExact.l3 R N2 x.1 x.2.1 x.2.2.1 x.2.2.2.1 x.2.2.2.2 w) (False)

def trystlaw10_TermExact.J3 (R : Value → World → Prop) (N2 : Int → Option Addr → Option Addr → Int → World → Prop) (N3 : Int → Option Addr → Option Addr → Int → Int → World → Prop) (k : Nat) (fr : Fr) (w : World) : Prop :=
  cond (Nat.beq k 4) (dec [(1, (.int .i64)), (5, .ptr), (6, .ptr), (8, (.int .i64)), (9, (.int .i64)), (10, .addr)] fr fun x => trystlaw10_TermExact.c4 R N2 N3 x.1 x.2.1 x.2.2.1 x.2.2.2.1 x.2.2.2.2.1 x.2.2.2.2.2 w) (False)

def trystlaw10_TermExact.J0 (R : Value → World → Prop) (k : Nat) (fr : Fr) (w : World) : Prop :=
  cond (Nat.beq k 2) (dec [(1, (.int .i64)), (5, .ptr), (6, .ptr), (8, (.int .i64))] fr fun x => trystlaw10_TermExact.l2 R x.1 x.2.1 x.2.2.1 x.2.2.2 w) (cond (Nat.beq k 1) (dec [(1, (.int .i64)), (5, .ptr), (6, .ptr)] fr fun x => trystlaw10_TermExact.c1 R x.1 x.2.1 x.2.2 w) (False))

set_option maxRecDepth 100000 in
theorem trystlaw10_TermExact.lift {R : Value → World → Prop} {l0 : Sl} {at1 : Int} {w : World} (h : trystlaw10_TermExact.main R l0 at1 w) : CallsV Tryd.prog n_trystlaw10_TermExact #[.slice l0.a l0.len l0.cap, .int .i64 at1] w R :=
  liftCalls (c := (.seq (.leaf (cL (bd Tryd.f4))) (.seq (.seq (.leaf (cL (cL (cR (bd Tryd.f4))))) (.cnd (.tmp 15) (.seq (.leaf (cL (cT (cR (cL (cR (bd Tryd.f4))))))) (.leaf (cR (cT (cR (cL (cR (bd Tryd.f4)))))))) (.leaf (cE (cR (cL (cR (bd Tryd.f4)))))))) (.seq (.leaf (cL (cR (cR (bd Tryd.f4))))) (.seq (.seq (.leaf (cL (cL (cR (cR (cR (bd Tryd.f4))))))) (.cnd (.tmp 23) (.seq (.leaf (cL (cT (cR (cL (cR (cR (cR (bd Tryd.f4))))))))) (.leaf (cR (cT (cR (cL (cR (cR (cR (bd Tryd.f4)))))))))) (.leaf (cE (cR (cL (cR (cR (cR (bd Tryd.f4)))))))))) (.seq (.seq (.leaf (cL (cL (cR (cR (cR (cR (bd Tryd.f4)))))))) (.block 0 (.loop 2 (.seq (.seq (.leaf (cL (cL (cB (cB (cR (cL (cR (cR (cR (cR (bd Tryd.f4)))))))))))) (.cnd (.tmp 30) (.leaf (cT (cR (cL (cB (cB (cR (cL (cR (cR (cR (cR (bd Tryd.f4))))))))))))) (.leaf (cE (cR (cL (cB (cB (cR (cL (cR (cR (cR (cR (bd Tryd.f4))))))))))))))) (.seq (.block 1 (.seq (.leaf (cL (cB (cL (cR (cB (cB (cR (cL (cR (cR (cR (cR (bd Tryd.f4)))))))))))))) (.block 2 (.loop 3 (.seq (.seq (.leaf (cL (cL (cB (cB (cR (cB (cL (cR (cB (cB (cR (cL (cR (cR (cR (cR (bd Tryd.f4)))))))))))))))))) (.cnd (.tmp 34) (.leaf (cT (cR (cL (cB (cB (cR (cB (cL (cR (cB (cB (cR (cL (cR (cR (cR (cR (bd Tryd.f4))))))))))))))))))) (.leaf (cE (cR (cL (cB (cB (cR (cB (cL (cR (cB (cB (cR (cL (cR (cR (cR (cR (bd Tryd.f4))))))))))))))))))))) (.seq (.block 3 (.seq (.leaf (cL (cB (cL (cR (cB (cB (cR (cB (cL (cR (cB (cB (cR (cL (cR (cR (cR (cR (bd Tryd.f4)))))))))))))))))))) (.seq (.seq (.leaf (cL (cL (cR (cB (cL (cR (cB (cB (cR (cB (cL (cR (cB (cB (cR (cL (cR (cR (cR (cR (bd Tryd.f4)))))))))))))))))))))) (.cnd (.tmp 56) (.seq (.leaf (cL (cT (cR (cL (cR (cB (cL (cR (cB (cB (cR (cB (cL (cR (cB (cB (cR (cL (cR (cR (cR (cR (bd Tryd.f4)))))))))))))))))))))))) (.leaf (cR (cT (cR (cL (cR (cB (cL (cR (cB (cB (cR (cB (cL (cR (cB (cB (cR (cL (cR (cR (cR (cR (bd Tryd.f4))))))))))))))))))))))))) (.leaf (cE (cR (cL (cR (cB (cL (cR (cB (cB (cR (cB (cL (cR (cB (cB (cR (cL (cR (cR (cR (cR (bd Tryd.f4))))))))))))))))))))))))) (.cut 4 (.leaf (cR (cR (cB (cL (cR (cB (cB (cR (cB (cL (cR (cB (cB (cR (cL (cR (cR (cR (cR (bd Tryd.f4))))))))))))))))))))))))) (.leaf (cR (cR (cB (cB (cR (cB (cL (cR (cB (cB (cR (cL (cR (cR (cR (cR (bd Tryd.f4)))))))))))))))))))))))) (.leaf (cR (cR (cB (cB (cR (cL (cR (cR (cR (cR (bd Tryd.f4))))))))))))))))) (.cut 1 (.seq (.leaf (cL (cR (cR (cR (cR (cR (bd Tryd.f4)))))))) (.seq (.seq (.leaf (cL (cL (cR (cR (cR (cR (cR (cR (bd Tryd.f4)))))))))) (.cnd (.tmp 69) (.seq (.leaf (cL (cT (cR (cL (cR (cR (cR (cR (cR (cR (bd Tryd.f4)))))))))))) (.leaf (cR (cT (cR (cL (cR (cR (cR (cR (cR (cR (bd Tryd.f4))))))))))))) (.leaf (cE (cR (cL (cR (cR (cR (cR (cR (cR (bd Tryd.f4))))))))))))) (.seq (.leaf (cL (cR (cR (cR (cR (cR (cR (cR (bd Tryd.f4)))))))))) (.leaf (cR (cR (cR (cR (cR (cR (cR (cR (bd Tryd.f4)))))))))))))))))))) (J := trystlaw10_TermExact.J0 R) LfYtpihglmgkfecbaaDoor.mixed Tryd.func4 (by kernel_rfl) (by kernel_rfl) (mkSeq (mkSeq (mkSeq (mkSeq (mkSeq (mkCut (cutDef [(1, (.int .i64)), (5, .ptr), (6, .ptr)] (fun x w => trystlaw10_TermExact.c1 R x.1 x.2.1 x.2.2 w) (fun _ _ => by kernel_rfl) (fun _ _ => by kernel_rfl)) (mkSeq (mkSeq (mkSeq mkLeaf mkLeaf) (mkSeq (mkCnd (mkSeq mkLeaf mkLeaf) mkLeaf) mkLeaf)) mkLeaf)) (mkSeq (mkBlock (mkLoop (loopDef LfYtpihglmgkfecbaaDoor.mixed [(1, (.int .i64)), (5, .ptr), (6, .ptr), (8, (.int .i64))] (by kernel_rfl) (fun M2 x w => trystlaw10_TermExact.b2 R (fun y0 y1 y2 y3 w => M2 (y0, y1, y2, y3) w) x.1 x.2.1 x.2.2.1 x.2.2.2 w) (fun M2 => trystlaw10_TermExact.J2 R (fun y0 y1 y2 y3 w => M2 (y0, y1, y2, y3) w)) (fun _ _ _ => by kernel_rfl) (fun M2 => (mkSeq (mkSeq mkLeaf (mkBlock (mkSeq (mkBlock (mkLoop (loopDef LfYtpihglmgkfecbaaDoor.mixed [(1, (.int .i64)), (5, .ptr), (6, .ptr), (8, (.int .i64)), (9, (.int .i64))] (by kernel_rfl) (fun M3 x w => trystlaw10_TermExact.b3 R (fun y0 y1 y2 y3 w => M2 (y0, y1, y2, y3) w) (fun y0 y1 y2 y3 y4 w => M3 (y0, y1, y2, y3, y4) w) x.1 x.2.1 x.2.2.1 x.2.2.2.1 x.2.2.2.2 w) (fun M3 => trystlaw10_TermExact.J3 R (fun y0 y1 y2 y3 w => M2 (y0, y1, y2, y3) w) (fun y0 y1 y2 y3 y4 w => M3 (y0, y1, y2, y3, y4) w)) (fun _ _ _ => by kernel_rfl) (fun M3 => (mkSeq (mkSeq mkLeaf (mkBlock (mkSeq (mkSeq (mkCut (cutDef [(1, (.int .i64)), (5, .ptr), (6, .ptr), (8, (.int .i64)), (9, (.int .i64)), (10, .addr)] (fun x w => trystlaw10_TermExact.c4 R (fun y0 y1 y2 y3 w => M2 (y0, y1, y2, y3) w) (fun y0 y1 y2 y3 y4 w => M3 (y0, y1, y2, y3, y4) w) x.1 x.2.1 x.2.2.1 x.2.2.2.1 x.2.2.2.2.1 x.2.2.2.2.2 w) (fun _ _ => by kernel_rfl) (fun _ _ => by kernel_rfl)) mkLeaf) (mkSeq (mkCnd (mkSeq mkLeaf mkLeaf) mkLeaf) mkLeaf)) mkLeaf))) (mkSeq (mkCnd mkLeaf mkLeaf) mkLeaf))) (fun x w => trystlaw10_TermExact.l3 R (fun y0 y1 y2 y3 w => M2 (y0, y1, y2, y3) w) x.1 x.2.1 x.2.2.1 x.2.2.2.1 x.2.2.2.2 w) (by rintro ⟨c0, c1, c2, c3, s0⟩ w ⟨I, μ, h0, h1⟩; refine ⟨fun y w => y.1 = c0 ∧ y.2.1 = c1 ∧ y.2.2.1 = c2 ∧ y.2.2.2.1 = c3 ∧ I y.2.2.2.2 w, fun y w => μ y.2.2.2.2 w, ⟨rfl, rfl, rfl, rfl, h0⟩, ?_⟩; rintro ⟨d0, d1, d2, d3, t0⟩ w ⟨e0, e1, e2, e3, hI⟩; dsimp only at e0 e1 e2 e3 hI; subst e0; subst e1; subst e2; subst e3; exact h1 _ _ hI) (fun _ _ => by kernel_rfl)))) mkLeaf))) (mkSeq (mkCnd mkLeaf mkLeaf) mkLeaf))) (fun x w => trystlaw10_TermExact.l2 R x.1 x.2.1 x.2.2.1 x.2.2.2 w) (by rintro ⟨c0, c1, c2, s0⟩ w ⟨I, μ, h0, h1⟩; refine ⟨fun y w => y.1 = c0 ∧ y.2.1 = c1 ∧ y.2.2.1 = c2 ∧ I y.2.2.2 w, fun y w => μ y.2.2.2 w, ⟨rfl, rfl, rfl, h0⟩, ?_⟩; rintro ⟨d0, d1, d2, t0⟩ w ⟨e0, e1, e2, hI⟩; dsimp only at e0 e1 e2 hI; subst e0; subst e1; subst e2; exact h1 _ _ hI) (fun _ _ => by kernel_rfl)))) mkLeaf)) (mkSeq (mkCnd (mkSeq mkLeaf mkLeaf) mkLeaf) mkLeaf)) mkLeaf) (mkSeq (mkCnd (mkSeq mkLeaf mkLeaf) mkLeaf) mkLeaf)) mkLeaf) (kcast (by kernel_rfl) h)

/-! trystlaw10_TermOnce -/
def trystlaw10_TermOnce.c1 (R : Value → World → Prop) (w : World) : Prop :=
  CallsV Tryd.prog n_trystlaw10_wakes #[] w (fun v_1 w1 =>
  ∃ b_2 : Bool, v_1 = .bool b_2 ∧
  R (.bool b_2) w1)

def trystlaw10_TermOnce.c3 (R : Value → World → Prop) (N2 : Option Addr → Int → Int → World → Prop) (a3 : Option Addr) (n6 : Int) (i7 : Int) (t8 : Addr) (w : World) : Prop :=
  ∃ x_3 : Int, w.cell? t8 = some (.int .i64 x_3) ∧
  ∃ x_4 : Int, w.cell? (t8.add 1) = some (.int .i64 x_4) ∧
  ∃ (a_5 : Option Addr) (l_6 c_7 : Nat), w.cell? (t8.add 2) = some (.slice a_5 l_6 c_7) ∧
  CallsV Tryd.prog n_term_Arena_Make #[.pointer a3, .int .i64 x_3, .int .i64 x_4, .slice a_5 l_6 c_7] w (fun v_8 w2 =>
  ∃ x_9 : Int, ∃ x_10 : Int, v_8 = .tuple #[.int .i64 x_9, .int .i64 x_10] ∧
  cond ((x_10 : Int) != 0)
  (R (.bool false) w2)
  (cond ((x_9 : Int) != i7)
  (R (.bool false) w2)
  (CallsV Tryd.prog n_term_Arena_Len #[.pointer a3] w2 (fun v_11 w3 =>
  ∃ x_12 : Int, v_11 = .int .i64 x_12 ∧
  cond ((x_12 : Int) != n6)
  (R (.bool false) w3)
  ((let i7_12 : Int := (IntKind.i64.wrap (i7 + 1));
  N2 a3 n6 i7_12 w3))))))

def trystlaw10_TermOnce.b4 (R : Value → World → Prop) (N2 : Option Addr → Int → Int → World → Prop) (N4 : Option Addr → Int → Int → Addr → Int → World → Prop) (a3 : Option Addr) (n6 : Int) (i7 : Int) (t8 : Addr) (k10 : Int) (w : World) : Prop :=
  ∃ (a_14 : Option Addr) (l_15 c_16 : Nat), w.cell? (t8.add 2) = some (.slice a_14 l_15 c_16) ∧
  cond (decide ((k10 : Int) < ((l_15 : Nat) : Int)))
  (∃ (a_17 : Option Addr) (l_18 c_19 : Nat), w.cell? (t8.add 2) = some (.slice a_17 l_18 c_19) ∧
  0 ≤ (k10 : Int) ∧ k10 < ((l_18 : Nat) : Int) ∧ ∃ q_20 : Addr, a_17 = some q_20 ∧
  ∃ x_21 : Int, w.cell? (q_20.add (k10 : Int).toNat) = some (.int .i64 x_21) ∧
  cond (decide ((x_21 : Int) < 0))
  (R (.bool false) w)
  (∃ (a_22 : Option Addr) (l_23 c_24 : Nat), w.cell? (t8.add 2) = some (.slice a_22 l_23 c_24) ∧
  0 ≤ (k10 : Int) ∧ k10 < ((l_23 : Nat) : Int) ∧ ∃ q_25 : Addr, a_22 = some q_25 ∧
  ∃ x_26 : Int, w.cell? (q_25.add (k10 : Int).toNat) = some (.int .i64 x_26) ∧
  cond (decide ((x_26 : Int) ≥ i7))
  (R (.bool false) w)
  ((let k10_26 : Int := (IntKind.i64.wrap (k10 + 1));
  N4 a3 n6 i7 t8 k10_26 w))))
  (trystlaw10_TermOnce.c3 R N2 a3 n6 i7 t8 w)

def trystlaw10_TermOnce.l4 (R : Value → World → Prop) (N2 : Option Addr → Int → Int → World → Prop) (a3 : Option Addr) (n6 : Int) (i7 : Int) (t8 : Addr) (k10 : Int) (w : World) : Prop :=
  ∃ (I : Int → World → Prop) (μ : Int → World → Nat), I k10 w ∧ ∀ s w, I s w → trystlaw10_TermOnce.b4 R N2 (fun a3' n6' i7' t8' k10' w' => (a3' = a3 ∧ n6' = n6 ∧ i7' = i7 ∧ t8' = t8 ∧ I k10' w') ∧ μ k10' w' < μ s w) a3 n6 i7 t8 s w

def trystlaw10_TermOnce.b2 (R : Value → World → Prop) (N2 : Option Addr → Int → Int → World → Prop) (a3 : Option Addr) (n6 : Int) (i7 : Int) (w : World) : Prop :=
  cond (decide ((i7 : Int) < n6))
  (CallsV Tryd.prog n_term_Arena_Node #[.pointer a3, .int .i64 i7] w (fun v_28 w4 =>
  ∃ x_29 : Int, ∃ x_30 : Int, ∃ (a_31 : Option Addr) (l_32 c_33 : Nat), ∃ x_34 : Int, v_28 = .tuple #[.agg #[.int .i64 x_29, .int .i64 x_30, .slice a_31 l_32 c_33], .int .i64 x_34] ∧
  let w5 := w4.alloc (.cells #[.int .i64 0, .int .i64 0, .slice none 0 0] 43);
  (∀ j, j < 3 → Wr w5 ((newA w4).add j)) ∧
  (let w6 := setCells (newA w4) [.int .i64 x_29, .int .i64 x_30, .slice a_31 l_32 c_33] 0 w5;
  cond ((x_34 : Int) != 0)
  (R (.bool false) w6)
  (trystlaw10_TermOnce.l4 R N2 a3 n6 i7 (newA w4) 0 w6))))
  (trystlaw10_TermOnce.c1 R w)

def trystlaw10_TermOnce.l2 (R : Value → World → Prop) (a3 : Option Addr) (n6 : Int) (i7 : Int) (w : World) : Prop :=
  ∃ (I : Int → World → Prop) (μ : Int → World → Nat), I i7 w ∧ ∀ s w, I s w → trystlaw10_TermOnce.b2 R (fun a3' n6' i7' w' => (a3' = a3 ∧ n6' = n6 ∧ I i7' w') ∧ μ i7' w' < μ s w) a3 n6 s w

def trystlaw10_TermOnce.main (R : Value → World → Prop) (l0 : Sl) (w : World) : Prop :=
  CallsV Tryd.prog n_trystlaw10_Heavy #[.slice l0.a l0.len l0.cap] w (fun v_35 w7 =>
  ∃ b_36 : Bool, v_35 = .bool b_36 ∧
  cond b_36
  (R (.bool true) w7)
  (CallsV Tryd.prog n_trystlaw10_Build #[.slice l0.a l0.len l0.cap] w7 (fun v_37 w8 =>
  ∃ p_38 : Option Addr, ∃ p_39 : Option Addr, ∃ b_40 : Bool, v_37 = .tuple #[.pointer p_38, .pointer p_39, .bool b_40] ∧
  cond (!b_40)
  (R (.bool false) w8)
  (CallsV Tryd.prog n_term_Arena_Len #[.pointer p_38] w8 (fun v_41 w9 =>
  ∃ x_42 : Int, v_41 = .int .i64 x_42 ∧
  trystlaw10_TermOnce.l2 R p_38 x_42 0 w9)))))

def trystlaw10_TermOnce.J2 (R : Value → World → Prop) (N2 : Option Addr → Int → Int → World → Prop) (k : Nat) (fr : Fr) (w : World) : Prop :=
  cond (Nat.beq k 4) (dec [(3, .ptr), (6, (.int .i64)), (7, (.int .i64)), (8, .addr), (10, (.int .i64))] fr fun x => trystlaw10_TermOnce.l4 R N2 x.1 x.2.1 x.2.2.1 x.2.2.2.1 x.2.2.2.2 w) (cond (Nat.beq k 3) (dec [(3, .ptr), (6, (.int .i64)), (7, (.int .i64)), (8, .addr)] fr fun x => trystlaw10_TermOnce.c3 R N2 x.1 x.2.1 x.2.2.1 x.2.2.2 w) (False))

def trystlaw10_TermOnce.J0 (R : Value → World → Prop) (k : Nat) (fr : Fr) (w : World) : Prop :=
  cond (Nat.beq k 2) (dec [(3, .ptr), (6, (.int .i64)), (7, (.int .i64))] fr fun x => trystlaw10_TermOnce.l2 R x.1 x.2.1 x.2.2 w) (cond (Nat.beq k 1) (dec [] fr fun x => trystlaw10_TermOnce.c1 R w) (False))

set_option maxRecDepth 100000 in
theorem trystlaw10_TermOnce.lift {R : Value → World → Prop} {l0 : Sl} {w : World} (h : trystlaw10_TermOnce.main R l0 w) : CallsV Tryd.prog n_trystlaw10_TermOnce #[.slice l0.a l0.len l0.cap] w R :=
  liftCalls (c := (.seq (.leaf (cL (bd Tryd.f5))) (.seq (.seq (.leaf (cL (cL (cR (bd Tryd.f5))))) (.cnd (.tmp 13) (.seq (.leaf (cL (cT (cR (cL (cR (bd Tryd.f5))))))) (.leaf (cR (cT (cR (cL (cR (bd Tryd.f5)))))))) (.leaf (cE (cR (cL (cR (bd Tryd.f5)))))))) (.seq (.leaf (cL (cR (cR (bd Tryd.f5))))) (.seq (.seq (.leaf (cL (cL (cR (cR (cR (bd Tryd.f5))))))) (.cnd (.tmp 21) (.seq (.leaf (cL (cT (cR (cL (cR (cR (cR (bd Tryd.f5))))))))) (.leaf (cR (cT (cR (cL (cR (cR (cR (bd Tryd.f5)))))))))) (.leaf (cE (cR (cL (cR (cR (cR (bd Tryd.f5)))))))))) (.seq (.leaf (cL (cR (cR (cR (cR (bd Tryd.f5))))))) (.seq (.seq (.leaf (cL (cL (cR (cR (cR (cR (cR (bd Tryd.f5))))))))) (.block 0 (.loop 2 (.seq (.seq (.leaf (cL (cL (cB (cB (cR (cL (cR (cR (cR (cR (cR (bd Tryd.f5))))))))))))) (.cnd (.tmp 26) (.leaf (cT (cR (cL (cB (cB (cR (cL (cR (cR (cR (cR (cR (bd Tryd.f5)))))))))))))) (.leaf (cE (cR (cL (cB (cB (cR (cL (cR (cR (cR (cR (cR (bd Tryd.f5)))))))))))))))) (.seq (.block 1 (.seq (.leaf (cL (cB (cL (cR (cB (cB (cR (cL (cR (cR (cR (cR (cR (bd Tryd.f5))))))))))))))) (.seq (.seq (.leaf (cL (cL (cR (cB (cL (cR (cB (cB (cR (cL (cR (cR (cR (cR (cR (bd Tryd.f5))))))))))))))))) (.cnd (.tmp 36) (.seq (.leaf (cL (cT (cR (cL (cR (cB (cL (cR (cB (cB (cR (cL (cR (cR (cR (cR (cR (bd Tryd.f5))))))))))))))))))) (.leaf (cR (cT (cR (cL (cR (cB (cL (cR (cB (cB (cR (cL (cR (cR (cR (cR (cR (bd Tryd.f5)))))))))))))))))))) (.leaf (cE (cR (cL (cR (cB (cL (cR (cB (cB (cR (cL (cR (cR (cR (cR (cR (bd Tryd.f5)))))))))))))))))))) (.seq (.seq (.leaf (cL (cL (cR (cR (cB (cL (cR (cB (cB (cR (cL (cR (cR (cR (cR (cR (bd Tryd.f5)))))))))))))))))) (.block 2 (.loop 4 (.seq (.seq (.leaf (cL (cL (cB (cB (cR (cL (cR (cR (cB (cL (cR (cB (cB (cR (cL (cR (cR (cR (cR (cR (bd Tryd.f5)))))))))))))))))))))) (.cnd (.tmp 41) (.leaf (cT (cR (cL (cB (cB (cR (cL (cR (cR (cB (cL (cR (cB (cB (cR (cL (cR (cR (cR (cR (cR (bd Tryd.f5))))))))))))))))))))))) (.leaf (cE (cR (cL (cB (cB (cR (cL (cR (cR (cB (cL (cR (cB (cB (cR (cL (cR (cR (cR (cR (cR (bd Tryd.f5))))))))))))))))))))))))) (.seq (.block 3 (.seq (.leaf (cL (cB (cL (cR (cB (cB (cR (cL (cR (cR (cB (cL (cR (cB (cB (cR (cL (cR (cR (cR (cR (cR (bd Tryd.f5)))))))))))))))))))))))) (.cnd (.tmp 58) (.seq (.leaf (cL (cT (cR (cB (cL (cR (cB (cB (cR (cL (cR (cR (cB (cL (cR (cB (cB (cR (cL (cR (cR (cR (cR (cR (bd Tryd.f5)))))))))))))))))))))))))) (.leaf (cR (cT (cR (cB (cL (cR (cB (cB (cR (cL (cR (cR (cB (cL (cR (cB (cB (cR (cL (cR (cR (cR (cR (cR (bd Tryd.f5))))))))))))))))))))))))))) (.leaf (cE (cR (cB (cL (cR (cB (cB (cR (cL (cR (cR (cB (cL (cR (cB (cB (cR (cL (cR (cR (cR (cR (cR (bd Tryd.f5)))))))))))))))))))))))))))) (.leaf (cR (cR (cB (cB (cR (cL (cR (cR (cB (cL (cR (cB (cB (cR (cL (cR (cR (cR (cR (cR (bd Tryd.f5))))))))))))))))))))))))))) (.cut 3 (.seq (.leaf (cL (cR (cR (cR (cB (cL (cR (cB (cB (cR (cL (cR (cR (cR (cR (cR (bd Tryd.f5)))))))))))))))))) (.seq (.leaf (cL (cR (cR (cR (cR (cB (cL (cR (cB (cB (cR (cL (cR (cR (cR (cR (cR (bd Tryd.f5))))))))))))))))))) (.cnd (.tmp 82) (.seq (.leaf (cL (cT (cR (cR (cR (cR (cR (cB (cL (cR (cB (cB (cR (cL (cR (cR (cR (cR (cR (bd Tryd.f5))))))))))))))))))))) (.leaf (cR (cT (cR (cR (cR (cR (cR (cB (cL (cR (cB (cB (cR (cL (cR (cR (cR (cR (cR (bd Tryd.f5)))))))))))))))))))))) (.leaf (cE (cR (cR (cR (cR (cR (cB (cL (cR (cB (cB (cR (cL (cR (cR (cR (cR (cR (bd Tryd.f5)))))))))))))))))))))))))))) (.leaf (cR (cR (cB (cB (cR (cL (cR (cR (cR (cR (cR (bd Tryd.f5)))))))))))))))))) (.cut 1 (.seq (.leaf (cL (cR (cR (cR (cR (cR (cR (bd Tryd.f5))))))))) (.leaf (cR (cR (cR (cR (cR (cR (cR (bd Tryd.f5)))))))))))))))))) (J := trystlaw10_TermOnce.J0 R) LfYtpihglmgkfecbaaDoor.mixed Tryd.func5 (by kernel_rfl) (by kernel_rfl) (mkSeq (mkSeq (mkSeq (mkSeq (mkSeq (mkSeq (mkCut (cutDef [] (fun x w => trystlaw10_TermOnce.c1 R w) (fun _ _ => by kernel_rfl) (fun _ _ => by kernel_rfl)) (mkSeq mkLeaf mkLeaf)) (mkSeq (mkBlock (mkLoop (loopDef LfYtpihglmgkfecbaaDoor.mixed [(3, .ptr), (6, (.int .i64)), (7, (.int .i64))] (by kernel_rfl) (fun M2 x w => trystlaw10_TermOnce.b2 R (fun y0 y1 y2 w => M2 (y0, y1, y2) w) x.1 x.2.1 x.2.2 w) (fun M2 => trystlaw10_TermOnce.J2 R (fun y0 y1 y2 w => M2 (y0, y1, y2) w)) (fun _ _ _ => by kernel_rfl) (fun M2 => (mkSeq (mkSeq mkLeaf (mkBlock (mkSeq (mkSeq (mkSeq (mkCut (cutDef [(3, .ptr), (6, (.int .i64)), (7, (.int .i64)), (8, .addr)] (fun x w => trystlaw10_TermOnce.c3 R (fun y0 y1 y2 w => M2 (y0, y1, y2) w) x.1 x.2.1 x.2.2.1 x.2.2.2 w) (fun _ _ => by kernel_rfl) (fun _ _ => by kernel_rfl)) (mkSeq (mkSeq (mkCnd (mkSeq mkLeaf mkLeaf) mkLeaf) mkLeaf) mkLeaf)) (mkSeq (mkBlock (mkLoop (loopDef LfYtpihglmgkfecbaaDoor.mixed [(3, .ptr), (6, (.int .i64)), (7, (.int .i64)), (8, .addr), (10, (.int .i64))] (by kernel_rfl) (fun M4 x w => trystlaw10_TermOnce.b4 R (fun y0 y1 y2 w => M2 (y0, y1, y2) w) (fun y0 y1 y2 y3 y4 w => M4 (y0, y1, y2, y3, y4) w) x.1 x.2.1 x.2.2.1 x.2.2.2.1 x.2.2.2.2 w) (fun M4 => fun _ _ _ => False) (fun _ _ _ => by kernel_rfl) (fun M4 => (mkSeq (mkSeq mkLeaf (mkBlock (mkSeq (mkCnd (mkSeq mkLeaf mkLeaf) mkLeaf) mkLeaf))) (mkSeq (mkCnd mkLeaf mkLeaf) mkLeaf))) (fun x w => trystlaw10_TermOnce.l4 R (fun y0 y1 y2 w => M2 (y0, y1, y2) w) x.1 x.2.1 x.2.2.1 x.2.2.2.1 x.2.2.2.2 w) (by rintro ⟨c0, c1, c2, c3, s0⟩ w ⟨I, μ, h0, h1⟩; refine ⟨fun y w => y.1 = c0 ∧ y.2.1 = c1 ∧ y.2.2.1 = c2 ∧ y.2.2.2.1 = c3 ∧ I y.2.2.2.2 w, fun y w => μ y.2.2.2.2 w, ⟨rfl, rfl, rfl, rfl, h0⟩, ?_⟩; rintro ⟨d0, d1, d2, d3, t0⟩ w ⟨e0, e1, e2, e3, hI⟩; dsimp only at e0 e1 e2 e3 hI; subst e0; subst e1; subst e2; subst e3; exact h1 _ _ hI) (fun _ _ => by kernel_rfl)))) mkLeaf)) (mkSeq (mkCnd (mkSeq mkLeaf mkLeaf) mkLeaf) mkLeaf)) mkLeaf))) (mkSeq (mkCnd mkLeaf mkLeaf) mkLeaf))) (fun x w => trystlaw10_TermOnce.l2 R x.1 x.2.1 x.2.2 w) (by rintro ⟨c0, c1, s0⟩ w ⟨I, μ, h0, h1⟩; refine ⟨fun y w => y.1 = c0 ∧ y.2.1 = c1 ∧ I y.2.2 w, fun y w => μ y.2.2 w, ⟨rfl, rfl, h0⟩, ?_⟩; rintro ⟨d0, d1, t0⟩ w ⟨e0, e1, hI⟩; dsimp only at e0 e1 hI; subst e0; subst e1; exact h1 _ _ hI) (fun _ _ => by kernel_rfl)))) mkLeaf)) mkLeaf) (mkSeq (mkCnd (mkSeq mkLeaf mkLeaf) mkLeaf) mkLeaf)) mkLeaf) (mkSeq (mkCnd (mkSeq mkLeaf mkLeaf) mkLeaf) mkLeaf)) mkLeaf) (kcast (by kernel_rfl) h)

/-! trystlaw10_TermCounts -/
def trystlaw10_TermCounts.c1 (R : Value → World → Prop) (kind0 : Int) (n1 : Int) (args2 : Int) (a7 : Option Addr) (want14 : Int) (y15 : Int) (w : World) : Prop :=
  cond ((want14 : Int) != 0)
  (CallsV Tryd.prog n_term_Arena_Len #[.pointer a7] w (fun v_1 w1 =>
  ∃ x_2 : Int, v_1 = .int .i64 x_2 ∧
  cond ((x_2 : Int) == 1)
  (CallsV Tryd.prog n_trystlaw10_wakes #[] w1 (fun v_3 w2 =>
  ∃ b_4 : Bool, v_3 = .bool b_4 ∧
  R (.bool b_4) w2))
  (R (.bool false) w1)))
  (CallsV Tryd.prog n_term_Arena_Node #[.pointer a7, .int .i64 y15] w (fun v_5 w3 =>
  ∃ x_6 : Int, ∃ x_7 : Int, ∃ (a_8 : Option Addr) (l_9 c_10 : Nat), ∃ x_11 : Int, v_5 = .tuple #[.agg #[.int .i64 x_6, .int .i64 x_7, .slice a_8 l_9 c_10], .int .i64 x_11] ∧
  let w4 := w3.alloc (.cells #[.int .i64 0, .int .i64 0, .slice none 0 0] 43);
  (∀ j, j < 3 → Wr w4 ((newA w3).add j)) ∧
  (let w5 := setCells (newA w3) [.int .i64 x_6, .int .i64 x_7, .slice a_8 l_9 c_10] 0 w4;
  cond ((x_11 : Int) == 0)
  (∃ x_12 : Int, w5.cell? (newA w3) = some (.int .i64 x_12) ∧
  cond ((x_12 : Int) == kind0)
  (∃ x_13 : Int, w5.cell? ((newA w3).add 1) = some (.int .i64 x_13) ∧
  cond ((x_13 : Int) == n1)
  (∃ (a_14 : Option Addr) (l_15 c_16 : Nat), w5.cell? ((newA w3).add 2) = some (.slice a_14 l_15 c_16) ∧
  cond ((((l_15 : Nat) : Int) : Int) == args2)
  (CallsV Tryd.prog n_trystlaw10_wakes #[] w5 (fun v_17 w6 =>
  ∃ b_18 : Bool, v_17 = .bool b_18 ∧
  R (.bool b_18) w6))
  (R (.bool false) w5))
  (R (.bool false) w5))
  (R (.bool false) w5))
  (R (.bool false) w5))))

def trystlaw10_TermCounts.c2 (R : Value → World → Prop) (kind0 : Int) (n1 : Int) (args2 : Int) (a7 : Option Addr) (l10 : Sl) (want14 : Int) (w : World) : Prop :=
  CallsV Tryd.prog n_term_Arena_Make #[.pointer a7, .int .i64 kind0, .int .i64 n1, .slice l10.a l10.len l10.cap] w (fun v_19 w7 =>
  ∃ x_20 : Int, ∃ x_21 : Int, v_19 = .tuple #[.int .i64 x_20, .int .i64 x_21] ∧
  cond ((x_21 : Int) != want14)
  (R (.bool false) w7)
  (cond ((want14 : Int) != 0)
  (cond ((x_20 : Int) != 0)
  (R (.bool false) w7)
  (trystlaw10_TermCounts.c1 R kind0 n1 args2 a7 want14 x_20 w7))
  (trystlaw10_TermCounts.c1 R kind0 n1 args2 a7 want14 x_20 w7)))

def trystlaw10_TermCounts.c3 (R : Value → World → Prop) (kind0 : Int) (n1 : Int) (args2 : Int) (a7 : Option Addr) (l10 : Sl) (least12 : Int) (most13 : Int) (want14 : Int) (w : World) : Prop :=
  cond (decide ((args2 : Int) < least12))
  (trystlaw10_TermCounts.c2 R kind0 n1 args2 a7 l10 2 w)
  ((let t81_21 : Bool := (decide ((args2 : Int) > most13));
  cond t81_21
  (trystlaw10_TermCounts.c2 R kind0 n1 args2 a7 l10 2 w)
  (trystlaw10_TermCounts.c2 R kind0 n1 args2 a7 l10 want14 w)))

def trystlaw10_TermCounts.c4 (R : Value → World → Prop) (kind0 : Int) (n1 : Int) (args2 : Int) (a7 : Option Addr) (l10 : Sl) (least12 : Int) (most13 : Int) (want14 : Int) (w : World) : Prop :=
  cond (decide ((n1 : Int) < 0))
  (trystlaw10_TermCounts.c2 R kind0 n1 args2 a7 l10 1 w)
  (cond (decide ((n1 : Int) > 0))
  (cond ((kind0 : Int) != 1)
  (cond ((kind0 : Int) != 2)
  (cond ((kind0 : Int) != 4)
  (trystlaw10_TermCounts.c2 R kind0 n1 args2 a7 l10 1 w)
  (trystlaw10_TermCounts.c3 R kind0 n1 args2 a7 l10 least12 most13 want14 w))
  (trystlaw10_TermCounts.c3 R kind0 n1 args2 a7 l10 least12 most13 want14 w))
  (trystlaw10_TermCounts.c3 R kind0 n1 args2 a7 l10 least12 most13 want14 w))
  (trystlaw10_TermCounts.c3 R kind0 n1 args2 a7 l10 least12 most13 want14 w))

def trystlaw10_TermCounts.c5 (R : Value → World → Prop) (kind0 : Int) (n1 : Int) (args2 : Int) (a7 : Option Addr) (l10 : Sl) (least12 : Int) (most13 : Int) (w : World) : Prop :=
  cond (decide ((kind0 : Int) < 1))
  (trystlaw10_TermCounts.c2 R kind0 n1 args2 a7 l10 6 w)
  ((let t55_22 : Bool := (decide ((kind0 : Int) > 9));
  cond t55_22
  (trystlaw10_TermCounts.c2 R kind0 n1 args2 a7 l10 6 w)
  (trystlaw10_TermCounts.c4 R kind0 n1 args2 a7 l10 least12 most13 0 w)))

def trystlaw10_TermCounts.c6 (R : Value → World → Prop) (kind0 : Int) (n1 : Int) (args2 : Int) (a7 : Option Addr) (l10 : Sl) (least12 : Int) (most13 : Int) (t43 : Int) (t50 : Bool) (w : World) : Prop :=
  cond t50
  (trystlaw10_TermCounts.c5 R kind0 n1 args2 a7 l10 1 most13 w)
  (cond ((t43 : Int) == 7)
  (trystlaw10_TermCounts.c5 R kind0 n1 args2 a7 l10 2 most13 w)
  (trystlaw10_TermCounts.c5 R kind0 n1 args2 a7 l10 least12 most13 w))

def trystlaw10_TermCounts.c7 (R : Value → World → Prop) (kind0 : Int) (n1 : Int) (args2 : Int) (a7 : Option Addr) (l10 : Sl) (least12 : Int) (most13 : Int) (t43 : Int) (t47 : Bool) (w : World) : Prop :=
  cond t47
  (trystlaw10_TermCounts.c5 R kind0 n1 args2 a7 l10 1 1 w)
  (cond ((t43 : Int) == 6)
  (trystlaw10_TermCounts.c6 R kind0 n1 args2 a7 l10 least12 most13 t43 ((t43 : Int) == 6) w)
  (trystlaw10_TermCounts.c6 R kind0 n1 args2 a7 l10 least12 most13 t43 ((t43 : Int) == 8) w))

def trystlaw10_TermCounts.c8 (R : Value → World → Prop) (kind0 : Int) (n1 : Int) (args2 : Int) (a7 : Option Addr) (l10 : Sl) (least12 : Int) (most13 : Int) (t43 : Int) (t44 : Bool) (w : World) : Prop :=
  cond t44
  (trystlaw10_TermCounts.c5 R kind0 n1 args2 a7 l10 least12 0 w)
  (cond ((t43 : Int) == 4)
  (trystlaw10_TermCounts.c7 R kind0 n1 args2 a7 l10 least12 most13 t43 ((t43 : Int) == 4) w)
  (trystlaw10_TermCounts.c7 R kind0 n1 args2 a7 l10 least12 most13 t43 ((t43 : Int) == 5) w))

def trystlaw10_TermCounts.c9 (R : Value → World → Prop) (kind0 : Int) (n1 : Int) (args2 : Int) (a7 : Option Addr) (l10 : Sl) (w : World) : Prop :=
  cond ((kind0 : Int) == 1)
  (trystlaw10_TermCounts.c8 R kind0 n1 args2 a7 l10 0 400 kind0 ((kind0 : Int) == 1) w)
  (trystlaw10_TermCounts.c8 R kind0 n1 args2 a7 l10 0 400 kind0 ((kind0 : Int) == 2) w)

def trystlaw10_TermCounts.b10 (R : Value → World → Prop) (N10 : Int → Int → Int → Option Addr → Int → Sl → Int → World → Prop) (kind0 : Int) (n1 : Int) (args2 : Int) (a7 : Option Addr) (x8 : Int) (l10 : Sl) (i11 : Int) (w : World) : Prop :=
  cond (decide ((i11 : Int) < args2))
  (let w8 := w.alloc (.cells #[.int .i64 x8] 3);
  ∃ (a_24 : Option Addr) (l_25 c_26 : Nat), ∃ w9 : World, (builtin .append #[29, 29] 29 #[] #[.slice l10.a l10.len l10.cap, .slice (some (newA w)) 1 1]).run Tryd.prog w8 = .ok (.value (.slice a_24 l_25 c_26)) w9 ∧
  (let i11_26 : Int := (IntKind.i64.wrap (i11 + 1));
  N10 kind0 n1 args2 a7 x8 ⟨a_24, l_25, c_26⟩ i11_26 w9))
  (trystlaw10_TermCounts.c9 R kind0 n1 args2 a7 l10 w)

def trystlaw10_TermCounts.l10 (R : Value → World → Prop) (kind0 : Int) (n1 : Int) (args2 : Int) (a7 : Option Addr) (x8 : Int) (l10 : Sl) (i11 : Int) (w : World) : Prop :=
  ∃ (I : (Sl × Int) → World → Prop) (μ : (Sl × Int) → World → Nat), I (l10, i11) w ∧ ∀ s w, I s w → trystlaw10_TermCounts.b10 R (fun kind0' n1' args2' a7' x8' l10' i11' w' => (kind0' = kind0 ∧ n1' = n1 ∧ args2' = args2 ∧ a7' = a7 ∧ x8' = x8 ∧ I (l10', i11') w') ∧ μ (l10', i11') w' < μ s w) kind0 n1 args2 a7 x8 s.1 s.2 w

def trystlaw10_TermCounts.c11 (R : Value → World → Prop) (kind0 : Int) (n1 : Int) (args2 : Int) (w : World) : Prop :=
  CallsV Tryd.prog n_term_New #[] w (fun v_28 w10 =>
  ∃ p_29 : Option Addr, v_28 = .pointer p_29 ∧
  cond ((p_29).isNone)
  (R (.bool false) w10)
  (CallsV Tryd.prog n_term_Arena_Make #[.pointer p_29, .int .i64 1, .int .i64 1, .slice none 0 0] w10 (fun v_30 w11 =>
  ∃ x_31 : Int, ∃ x_32 : Int, v_30 = .tuple #[.int .i64 x_31, .int .i64 x_32] ∧
  cond ((x_32 : Int) != 0)
  (R (.bool false) w11)
  (trystlaw10_TermCounts.l10 R kind0 n1 args2 p_29 x_31 ⟨none, 0, 0⟩ 0 w11))))

def trystlaw10_TermCounts.main (R : Value → World → Prop) (kind0 : Int) (n1 : Int) (args2 : Int) (w : World) : Prop :=
  cond (decide ((args2 : Int) < 0))
  (R (.bool true) w)
  (cond (decide ((args2 : Int) > 403))
  (R (.bool true) w)
  (trystlaw10_TermCounts.c11 R kind0 n1 args2 w))

def trystlaw10_TermCounts.J0 (R : Value → World → Prop) (k : Nat) (fr : Fr) (w : World) : Prop :=
  cond (Nat.beq k 11) (dec [(0, (.int .i64)), (1, (.int .i64)), (2, (.int .i64))] fr fun x => trystlaw10_TermCounts.c11 R x.1 x.2.1 x.2.2 w) (cond (Nat.beq k 10) (dec [(0, (.int .i64)), (1, (.int .i64)), (2, (.int .i64)), (7, .ptr), (8, (.int .i64)), (10, .slice), (11, (.int .i64))] fr fun x => trystlaw10_TermCounts.l10 R x.1 x.2.1 x.2.2.1 x.2.2.2.1 x.2.2.2.2.1 x.2.2.2.2.2.1 x.2.2.2.2.2.2 w) (cond (Nat.beq k 9) (dec [(0, (.int .i64)), (1, (.int .i64)), (2, (.int .i64)), (7, .ptr), (10, .slice)] fr fun x => trystlaw10_TermCounts.c9 R x.1 x.2.1 x.2.2.1 x.2.2.2.1 x.2.2.2.2 w) (cond (Nat.beq k 8) (dec [(0, (.int .i64)), (1, (.int .i64)), (2, (.int .i64)), (7, .ptr), (10, .slice), (12, (.int .i64)), (13, (.int .i64)), (43, (.int .i64)), (44, .bool)] fr fun x => trystlaw10_TermCounts.c8 R x.1 x.2.1 x.2.2.1 x.2.2.2.1 x.2.2.2.2.1 x.2.2.2.2.2.1 x.2.2.2.2.2.2.1 x.2.2.2.2.2.2.2.1 x.2.2.2.2.2.2.2.2 w) (cond (Nat.beq k 7) (dec [(0, (.int .i64)), (1, (.int .i64)), (2, (.int .i64)), (7, .ptr), (10, .slice), (12, (.int .i64)), (13, (.int .i64)), (43, (.int .i64)), (47, .bool)] fr fun x => trystlaw10_TermCounts.c7 R x.1 x.2.1 x.2.2.1 x.2.2.2.1 x.2.2.2.2.1 x.2.2.2.2.2.1 x.2.2.2.2.2.2.1 x.2.2.2.2.2.2.2.1 x.2.2.2.2.2.2.2.2 w) (cond (Nat.beq k 6) (dec [(0, (.int .i64)), (1, (.int .i64)), (2, (.int .i64)), (7, .ptr), (10, .slice), (12, (.int .i64)), (13, (.int .i64)), (43, (.int .i64)), (50, .bool)] fr fun x => trystlaw10_TermCounts.c6 R x.1 x.2.1 x.2.2.1 x.2.2.2.1 x.2.2.2.2.1 x.2.2.2.2.2.1 x.2.2.2.2.2.2.1 x.2.2.2.2.2.2.2.1 x.2.2.2.2.2.2.2.2 w) (cond (Nat.beq k 5) (dec [(0, (.int .i64)), (1, (.int .i64)), (2, (.int .i64)), (7, .ptr), (10, .slice), (12, (.int .i64)), (13, (.int .i64))] fr fun x => trystlaw10_TermCounts.c5 R x.1 x.2.1 x.2.2.1 x.2.2.2.1 x.2.2.2.2.1 x.2.2.2.2.2.1 x.2.2.2.2.2.2 w) (cond (Nat.beq k 4) (dec [(0, (.int .i64)), (1, (.int .i64)), (2, (.int .i64)), (7, .ptr), (10, .slice), (12, (.int .i64)), (13, (.int .i64)), (14, (.int .i64))] fr fun x => trystlaw10_TermCounts.c4 R x.1 x.2.1 x.2.2.1 x.2.2.2.1 x.2.2.2.2.1 x.2.2.2.2.2.1 x.2.2.2.2.2.2.1 x.2.2.2.2.2.2.2 w) (cond (Nat.beq k 3) (dec [(0, (.int .i64)), (1, (.int .i64)), (2, (.int .i64)), (7, .ptr), (10, .slice), (12, (.int .i64)), (13, (.int .i64)), (14, (.int .i64))] fr fun x => trystlaw10_TermCounts.c3 R x.1 x.2.1 x.2.2.1 x.2.2.2.1 x.2.2.2.2.1 x.2.2.2.2.2.1 x.2.2.2.2.2.2.1 x.2.2.2.2.2.2.2 w) (cond (Nat.beq k 2) (dec [(0, (.int .i64)), (1, (.int .i64)), (2, (.int .i64)), (7, .ptr), (10, .slice), (14, (.int .i64))] fr fun x => trystlaw10_TermCounts.c2 R x.1 x.2.1 x.2.2.1 x.2.2.2.1 x.2.2.2.2.1 x.2.2.2.2.2 w) (cond (Nat.beq k 1) (dec [(0, (.int .i64)), (1, (.int .i64)), (2, (.int .i64)), (7, .ptr), (14, (.int .i64)), (15, (.int .i64))] fr fun x => trystlaw10_TermCounts.c1 R x.1 x.2.1 x.2.2.1 x.2.2.2.1 x.2.2.2.2.1 x.2.2.2.2.2 w) (False)))))))))))

set_option maxRecDepth 100000 in
theorem trystlaw10_TermCounts.lift {R : Value → World → Prop} {kind0 : Int} {n1 : Int} {args2 : Int} {w : World} (h : trystlaw10_TermCounts.main R kind0 n1 args2 w) : CallsV Tryd.prog n_trystlaw10_TermCounts #[.int .i64 kind0, .int .i64 n1, .int .i64 args2] w R :=
  liftCalls (c := (.seq (.leaf (cL (bd Tryd.f6))) (.seq (.seq (.leaf (cL (cL (cR (bd Tryd.f6))))) (.cnd (.tmp 23) (.seq (.leaf (cL (cT (cR (cL (cR (bd Tryd.f6))))))) (.leaf (cR (cT (cR (cL (cR (bd Tryd.f6)))))))) (.leaf (cE (cR (cL (cR (bd Tryd.f6)))))))) (.cut 11 (.seq (.leaf (cL (cR (cR (bd Tryd.f6))))) (.seq (.seq (.leaf (cL (cL (cR (cR (cR (bd Tryd.f6))))))) (.cnd (.tmp 26) (.seq (.leaf (cL (cT (cR (cL (cR (cR (cR (bd Tryd.f6))))))))) (.leaf (cR (cT (cR (cL (cR (cR (cR (bd Tryd.f6)))))))))) (.leaf (cE (cR (cL (cR (cR (cR (bd Tryd.f6)))))))))) (.seq (.leaf (cL (cR (cR (cR (cR (bd Tryd.f6))))))) (.seq (.seq (.leaf (cL (cL (cR (cR (cR (cR (cR (bd Tryd.f6))))))))) (.cnd (.tmp 33) (.seq (.leaf (cL (cT (cR (cL (cR (cR (cR (cR (cR (bd Tryd.f6))))))))))) (.leaf (cR (cT (cR (cL (cR (cR (cR (cR (cR (bd Tryd.f6)))))))))))) (.leaf (cE (cR (cL (cR (cR (cR (cR (cR (bd Tryd.f6)))))))))))) (.seq (.leaf (cL (cR (cR (cR (cR (cR (cR (bd Tryd.f6))))))))) (.seq (.seq (.leaf (cL (cL (cR (cR (cR (cR (cR (cR (cR (bd Tryd.f6))))))))))) (.block 0 (.loop 10 (.seq (.seq (.leaf (cL (cL (cB (cB (cR (cL (cR (cR (cR (cR (cR (cR (cR (bd Tryd.f6))))))))))))))) (.cnd (.tmp 36) (.leaf (cT (cR (cL (cB (cB (cR (cL (cR (cR (cR (cR (cR (cR (cR (bd Tryd.f6)))))))))))))))) (.leaf (cE (cR (cL (cB (cB (cR (cL (cR (cR (cR (cR (cR (cR (cR (bd Tryd.f6)))))))))))))))))) (.seq (.block 1 (.leaf (cB (cL (cR (cB (cB (cR (cL (cR (cR (cR (cR (cR (cR (cR (bd Tryd.f6))))))))))))))))) (.leaf (cR (cR (cB (cB (cR (cL (cR (cR (cR (cR (cR (cR (cR (bd Tryd.f6)))))))))))))))))))) (.cut 9 (.seq (.leaf (cL (cR (cR (cR (cR (cR (cR (cR (cR (bd Tryd.f6))))))))))) (.seq (.seq (.leaf (cL (cL (cR (cR (cR (cR (cR (cR (cR (cR (cR (bd Tryd.f6))))))))))))) (.block 2 (.seq (.seq (.leaf (cL (cL (cB (cR (cL (cR (cR (cR (cR (cR (cR (cR (cR (cR (bd Tryd.f6)))))))))))))))) (.cnd (.tmp 44) (.leaf (cT (cR (cL (cB (cR (cL (cR (cR (cR (cR (cR (cR (cR (cR (cR (bd Tryd.f6))))))))))))))))) (.leaf (cE (cR (cL (cB (cR (cL (cR (cR (cR (cR (cR (cR (cR (cR (cR (bd Tryd.f6))))))))))))))))))) (.cut 8 (.cnd (.tmp 44) (.leaf (cT (cR (cB (cR (cL (cR (cR (cR (cR (cR (cR (cR (cR (cR (bd Tryd.f6)))))))))))))))) (.seq (.seq (.leaf (cL (cL (cE (cR (cB (cR (cL (cR (cR (cR (cR (cR (cR (cR (cR (cR (bd Tryd.f6)))))))))))))))))) (.cnd (.tmp 47) (.leaf (cT (cR (cL (cE (cR (cB (cR (cL (cR (cR (cR (cR (cR (cR (cR (cR (cR (bd Tryd.f6))))))))))))))))))) (.leaf (cE (cR (cL (cE (cR (cB (cR (cL (cR (cR (cR (cR (cR (cR (cR (cR (cR (bd Tryd.f6))))))))))))))))))))) (.cut 7 (.cnd (.tmp 47) (.leaf (cT (cR (cE (cR (cB (cR (cL (cR (cR (cR (cR (cR (cR (cR (cR (cR (bd Tryd.f6)))))))))))))))))) (.seq (.seq (.leaf (cL (cL (cE (cR (cE (cR (cB (cR (cL (cR (cR (cR (cR (cR (cR (cR (cR (cR (bd Tryd.f6)))))))))))))))))))) (.cnd (.tmp 50) (.leaf (cT (cR (cL (cE (cR (cE (cR (cB (cR (cL (cR (cR (cR (cR (cR (cR (cR (cR (cR (bd Tryd.f6))))))))))))))))))))) (.leaf (cE (cR (cL (cE (cR (cE (cR (cB (cR (cL (cR (cR (cR (cR (cR (cR (cR (cR (cR (bd Tryd.f6))))))))))))))))))))))) (.cut 6 (.cnd (.tmp 50) (.leaf (cT (cR (cE (cR (cE (cR (cB (cR (cL (cR (cR (cR (cR (cR (cR (cR (cR (cR (bd Tryd.f6)))))))))))))))))))) (.seq (.leaf (cL (cE (cR (cE (cR (cE (cR (cB (cR (cL (cR (cR (cR (cR (cR (cR (cR (cR (cR (bd Tryd.f6))))))))))))))))))))) (.cnd (.tmp 53) (.leaf (cT (cR (cE (cR (cE (cR (cE (cR (cB (cR (cL (cR (cR (cR (cR (cR (cR (cR (cR (cR (bd Tryd.f6)))))))))))))))))))))) (.leaf (cE (cR (cE (cR (cE (cR (cE (cR (cB (cR (cL (cR (cR (cR (cR (cR (cR (cR (cR (cR (bd Tryd.f6))))))))))))))))))))))))))))))))))) (.cut 5 (.seq (.leaf (cL (cR (cR (cR (cR (cR (cR (cR (cR (cR (cR (bd Tryd.f6))))))))))))) (.seq (.block 3 (.seq (.leaf (cL (cB (cL (cR (cR (cR (cR (cR (cR (cR (cR (cR (cR (cR (bd Tryd.f6)))))))))))))))) (.cnd (.tmp 55) (.leaf (cT (cR (cB (cL (cR (cR (cR (cR (cR (cR (cR (cR (cR (cR (cR (bd Tryd.f6))))))))))))))))) (.cut 4 (.seq (.leaf (cL (cE (cR (cB (cL (cR (cR (cR (cR (cR (cR (cR (cR (cR (cR (cR (bd Tryd.f6)))))))))))))))))) (.cnd (.tmp 62) (.leaf (cT (cR (cE (cR (cB (cL (cR (cR (cR (cR (cR (cR (cR (cR (cR (cR (cR (bd Tryd.f6))))))))))))))))))) (.cut 3 (.seq (.leaf (cL (cE (cR (cE (cR (cB (cL (cR (cR (cR (cR (cR (cR (cR (cR (cR (cR (cR (bd Tryd.f6)))))))))))))))))))) (.cnd (.tmp 81) (.leaf (cT (cR (cE (cR (cE (cR (cB (cL (cR (cR (cR (cR (cR (cR (cR (cR (cR (cR (cR (bd Tryd.f6))))))))))))))))))))) (.leaf (cE (cR (cE (cR (cE (cR (cB (cL (cR (cR (cR (cR (cR (cR (cR (cR (cR (cR (cR (bd Tryd.f6)))))))))))))))))))))))))))))) (.cut 2 (.seq (.leaf (cL (cR (cR (cR (cR (cR (cR (cR (cR (cR (cR (cR (cR (bd Tryd.f6))))))))))))))) (.seq (.seq (.leaf (cL (cL (cR (cR (cR (cR (cR (cR (cR (cR (cR (cR (cR (cR (cR (bd Tryd.f6))))))))))))))))) (.cnd (.tmp 108) (.seq (.leaf (cL (cT (cR (cL (cR (cR (cR (cR (cR (cR (cR (cR (cR (cR (cR (cR (cR (bd Tryd.f6))))))))))))))))))) (.leaf (cR (cT (cR (cL (cR (cR (cR (cR (cR (cR (cR (cR (cR (cR (cR (cR (cR (bd Tryd.f6)))))))))))))))))))) (.leaf (cE (cR (cL (cR (cR (cR (cR (cR (cR (cR (cR (cR (cR (cR (cR (cR (bd Tryd.f6)))))))))))))))))))) (.cut 1 (.seq (.seq (.leaf (cL (cL (cR (cR (cR (cR (cR (cR (cR (cR (cR (cR (cR (cR (cR (cR (bd Tryd.f6)))))))))))))))))) (.cnd (.tmp 110) (.seq (.leaf (cL (cT (cR (cL (cR (cR (cR (cR (cR (cR (cR (cR (cR (cR (cR (cR (cR (cR (bd Tryd.f6)))))))))))))))))))) (.leaf (cR (cT (cR (cL (cR (cR (cR (cR (cR (cR (cR (cR (cR (cR (cR (cR (cR (cR (bd Tryd.f6))))))))))))))))))))) (.leaf (cE (cR (cL (cR (cR (cR (cR (cR (cR (cR (cR (cR (cR (cR (cR (cR (cR (bd Tryd.f6))))))))))))))))))))) (.seq (.leaf (cL (cR (cR (cR (cR (cR (cR (cR (cR (cR (cR (cR (cR (cR (cR (cR (bd Tryd.f6)))))))))))))))))) (.seq (.leaf (cL (cR (cR (cR (cR (cR (cR (cR (cR (cR (cR (cR (cR (cR (cR (cR (cR (bd Tryd.f6))))))))))))))))))) (.leaf (cR (cR (cR (cR (cR (cR (cR (cR (cR (cR (cR (cR (cR (cR (cR (cR (cR (bd Tryd.f6)))))))))))))))))))))))))))))))))))))))))) (J := trystlaw10_TermCounts.J0 R) LfYtpihglmgkfecbaaDoor.mixed Tryd.func6 (by kernel_rfl) (by kernel_rfl) (mkSeq (mkSeq (mkCut (cutDef [(0, (.int .i64)), (1, (.int .i64)), (2, (.int .i64))] (fun x w => trystlaw10_TermCounts.c11 R x.1 x.2.1 x.2.2 w) (fun _ _ => by kernel_rfl) (fun _ _ => by kernel_rfl)) (mkSeq (mkSeq (mkSeq (mkSeq (mkSeq (mkSeq (mkCut (cutDef [(0, (.int .i64)), (1, (.int .i64)), (2, (.int .i64)), (7, .ptr), (10, .slice)] (fun x w => trystlaw10_TermCounts.c9 R x.1 x.2.1 x.2.2.1 x.2.2.2.1 x.2.2.2.2 w) (fun _ _ => by kernel_rfl) (fun _ _ => by kernel_rfl)) (mkSeq (mkSeq (mkCut (cutDef [(0, (.int .i64)), (1, (.int .i64)), (2, (.int .i64)), (7, .ptr), (10, .slice), (12, (.int .i64)), (13, (.int .i64))] (fun x w => trystlaw10_TermCounts.c5 R x.1 x.2.1 x.2.2.1 x.2.2.2.1 x.2.2.2.2.1 x.2.2.2.2.2.1 x.2.2.2.2.2.2 w) (fun _ _ => by kernel_rfl) (fun _ _ => by kernel_rfl)) (mkSeq (mkSeq (mkCut (cutDef [(0, (.int .i64)), (1, (.int .i64)), (2, (.int .i64)), (7, .ptr), (10, .slice), (14, (.int .i64))] (fun x w => trystlaw10_TermCounts.c2 R x.1 x.2.1 x.2.2.1 x.2.2.2.1 x.2.2.2.2.1 x.2.2.2.2.2 w) (fun _ _ => by kernel_rfl) (fun _ _ => by kernel_rfl)) (mkSeq (mkSeq (mkCut (cutDef [(0, (.int .i64)), (1, (.int .i64)), (2, (.int .i64)), (7, .ptr), (14, (.int .i64)), (15, (.int .i64))] (fun x w => trystlaw10_TermCounts.c1 R x.1 x.2.1 x.2.2.1 x.2.2.2.1 x.2.2.2.2.1 x.2.2.2.2.2 w) (fun _ _ => by kernel_rfl) (fun _ _ => by kernel_rfl)) (mkSeq (mkSeq (mkSeq mkLeaf mkLeaf) mkLeaf) (mkSeq (mkCnd (mkSeq mkLeaf mkLeaf) mkLeaf) mkLeaf))) (mkSeq (mkCnd (mkSeq mkLeaf mkLeaf) mkLeaf) mkLeaf)) mkLeaf)) (mkBlock (mkSeq (mkCnd mkLeaf (mkCut (cutDef [(0, (.int .i64)), (1, (.int .i64)), (2, (.int .i64)), (7, .ptr), (10, .slice), (12, (.int .i64)), (13, (.int .i64)), (14, (.int .i64))] (fun x w => trystlaw10_TermCounts.c4 R x.1 x.2.1 x.2.2.1 x.2.2.2.1 x.2.2.2.2.1 x.2.2.2.2.2.1 x.2.2.2.2.2.2.1 x.2.2.2.2.2.2.2 w) (fun _ _ => by kernel_rfl) (fun _ _ => by kernel_rfl)) (mkSeq (mkCnd mkLeaf (mkCut (cutDef [(0, (.int .i64)), (1, (.int .i64)), (2, (.int .i64)), (7, .ptr), (10, .slice), (12, (.int .i64)), (13, (.int .i64)), (14, (.int .i64))] (fun x w => trystlaw10_TermCounts.c3 R x.1 x.2.1 x.2.2.1 x.2.2.2.1 x.2.2.2.2.1 x.2.2.2.2.2.1 x.2.2.2.2.2.2.1 x.2.2.2.2.2.2.2 w) (fun _ _ => by kernel_rfl) (fun _ _ => by kernel_rfl)) (mkSeq (mkCnd mkLeaf mkLeaf) mkLeaf))) mkLeaf))) mkLeaf))) mkLeaf)) (mkSeq (mkBlock (mkSeq (mkCut (cutDef [(0, (.int .i64)), (1, (.int .i64)), (2, (.int .i64)), (7, .ptr), (10, .slice), (12, (.int .i64)), (13, (.int .i64)), (43, (.int .i64)), (44, .bool)] (fun x w => trystlaw10_TermCounts.c8 R x.1 x.2.1 x.2.2.1 x.2.2.2.1 x.2.2.2.2.1 x.2.2.2.2.2.1 x.2.2.2.2.2.2.1 x.2.2.2.2.2.2.2.1 x.2.2.2.2.2.2.2.2 w) (fun _ _ => by kernel_rfl) (fun _ _ => by kernel_rfl)) (mkCnd mkLeaf (mkSeq (mkCut (cutDef [(0, (.int .i64)), (1, (.int .i64)), (2, (.int .i64)), (7, .ptr), (10, .slice), (12, (.int .i64)), (13, (.int .i64)), (43, (.int .i64)), (47, .bool)] (fun x w => trystlaw10_TermCounts.c7 R x.1 x.2.1 x.2.2.1 x.2.2.2.1 x.2.2.2.2.1 x.2.2.2.2.2.1 x.2.2.2.2.2.2.1 x.2.2.2.2.2.2.2.1 x.2.2.2.2.2.2.2.2 w) (fun _ _ => by kernel_rfl) (fun _ _ => by kernel_rfl)) (mkCnd mkLeaf (mkSeq (mkCut (cutDef [(0, (.int .i64)), (1, (.int .i64)), (2, (.int .i64)), (7, .ptr), (10, .slice), (12, (.int .i64)), (13, (.int .i64)), (43, (.int .i64)), (50, .bool)] (fun x w => trystlaw10_TermCounts.c6 R x.1 x.2.1 x.2.2.1 x.2.2.2.1 x.2.2.2.2.1 x.2.2.2.2.2.1 x.2.2.2.2.2.2.1 x.2.2.2.2.2.2.2.1 x.2.2.2.2.2.2.2.2 w) (fun _ _ => by kernel_rfl) (fun _ _ => by kernel_rfl)) (mkCnd mkLeaf (mkSeq (mkCnd mkLeaf mkLeaf) mkLeaf))) (mkSeq (mkCnd mkLeaf mkLeaf) mkLeaf)))) (mkSeq (mkCnd mkLeaf mkLeaf) mkLeaf)))) (mkSeq (mkCnd mkLeaf mkLeaf) mkLeaf))) mkLeaf)) mkLeaf)) (mkSeq (mkBlock (mkLoop (loopDef LfYtpihglmgkfecbaaDoor.mixed [(0, (.int .i64)), (1, (.int .i64)), (2, (.int .i64)), (7, .ptr), (8, (.int .i64)), (10, .slice), (11, (.int .i64))] (by kernel_rfl) (fun M10 x w => trystlaw10_TermCounts.b10 R (fun y0 y1 y2 y3 y4 y5 y6 w => M10 (y0, y1, y2, y3, y4, y5, y6) w) x.1 x.2.1 x.2.2.1 x.2.2.2.1 x.2.2.2.2.1 x.2.2.2.2.2.1 x.2.2.2.2.2.2 w) (fun M10 => fun _ _ _ => False) (fun _ _ _ => by kernel_rfl) (fun M10 => (mkSeq (mkSeq mkLeaf (mkBlock mkLeaf)) (mkSeq (mkCnd mkLeaf mkLeaf) mkLeaf))) (fun x w => trystlaw10_TermCounts.l10 R x.1 x.2.1 x.2.2.1 x.2.2.2.1 x.2.2.2.2.1 x.2.2.2.2.2.1 x.2.2.2.2.2.2 w) (by rintro ⟨c0, c1, c2, c3, c4, s0⟩ w ⟨I, μ, h0, h1⟩; refine ⟨fun y w => y.1 = c0 ∧ y.2.1 = c1 ∧ y.2.2.1 = c2 ∧ y.2.2.2.1 = c3 ∧ y.2.2.2.2.1 = c4 ∧ I y.2.2.2.2.2 w, fun y w => μ y.2.2.2.2.2 w, ⟨rfl, rfl, rfl, rfl, rfl, h0⟩, ?_⟩; rintro ⟨d0, d1, d2, d3, d4, t0⟩ w ⟨e0, e1, e2, e3, e4, hI⟩; dsimp only at e0 e1 e2 e3 e4 hI; subst e0; subst e1; subst e2; subst e3; subst e4; exact h1 _ _ hI) (fun _ _ => by kernel_rfl)))) mkLeaf)) mkLeaf) (mkSeq (mkCnd (mkSeq mkLeaf mkLeaf) mkLeaf) mkLeaf)) mkLeaf) (mkSeq (mkCnd (mkSeq mkLeaf mkLeaf) mkLeaf) mkLeaf)) mkLeaf)) (mkSeq (mkCnd (mkSeq mkLeaf mkLeaf) mkLeaf) mkLeaf)) mkLeaf) (kcast (by kernel_rfl) h)

/-! trystlaw10_TermKeys -/
def trystlaw10_TermKeys.c1 (R : Value → World → Prop) (key1 : Int) (other2 : Int) (a9 : Option Addr) (s15 : Int) (b19 : Int) (t21 : Int) (q23 : Int) (w : World) : Prop :=
  cond ((key1 : Int) == other2)
  (CallsV Tryd.prog n_trystlaw10_wakes #[] w (fun v_1 w1 =>
  ∃ b_2 : Bool, v_1 = .bool b_2 ∧
  R (.bool b_2) w1))
  (CallsV Tryd.prog n_term_Arena_Open #[.pointer a9, .int .i64 s15, .int .i64 other2] w (fun v_3 w2 =>
  ∃ (a_4 : Option Addr) (l_5 c_6 : Nat), ∃ x_7 : Int, v_3 = .tuple #[.slice a_4 l_5 c_6, .int .i64 x_7] ∧
  CallsV Tryd.prog n_term_Arena_Unbox #[.pointer a9, .int .i64 b19, .int .i64 other2] w2 (fun v_8 w3 =>
  ∃ (a_9 : Option Addr) (l_10 c_11 : Nat), ∃ x_12 : Int, v_8 = .tuple #[.slice a_9 l_10 c_11, .int .i64 x_12] ∧
  CallsV Tryd.prog n_term_Arena_Signed #[.pointer a9, .int .i64 t21, .int .i64 q23] w3 (fun v_13 w4 =>
  ∃ (a_14 : Option Addr) (l_15 c_16 : Nat), ∃ x_17 : Int, v_13 = .tuple #[.slice a_14 l_15 c_16, .int .i64 x_17] ∧
  cond ((x_7 : Int) == 3)
  (cond ((x_12 : Int) == 3)
  (cond ((x_17 : Int) == 15)
  (CallsV Tryd.prog n_trystlaw10_wakes #[] w4 (fun v_18 w5 =>
  ∃ b_19 : Bool, v_18 = .bool b_19 ∧
  R (.bool b_19) w5))
  (R (.bool false) w4))
  (R (.bool false) w4))
  (R (.bool false) w4)))))

def trystlaw10_TermKeys.c2 (R : Value → World → Prop) (key1 : Int) (other2 : Int) (a9 : Option Addr) (in13 : Sl) (s15 : Int) (p17 : Int) (b19 : Int) (t21 : Int) (q23 : Int) (w : World) : Prop :=
  CallsV Tryd.prog n_term_Arena_Open #[.pointer a9, .int .i64 s15, .int .i64 key1] w (fun v_20 w6 =>
  ∃ (a_21 : Option Addr) (l_22 c_23 : Nat), ∃ x_24 : Int, v_20 = .tuple #[.slice a_21 l_22 c_23, .int .i64 x_24] ∧
  CallsV Tryd.prog n_term_Arena_Unbox #[.pointer a9, .int .i64 b19, .int .i64 key1] w6 (fun v_25 w7 =>
  ∃ (a_26 : Option Addr) (l_27 c_28 : Nat), ∃ x_29 : Int, v_25 = .tuple #[.slice a_26 l_27 c_28, .int .i64 x_29] ∧
  CallsV Tryd.prog n_term_Arena_Signed #[.pointer a9, .int .i64 t21, .int .i64 p17] w7 (fun v_30 w8 =>
  ∃ (a_31 : Option Addr) (l_32 c_33 : Nat), ∃ x_34 : Int, v_30 = .tuple #[.slice a_31 l_32 c_33, .int .i64 x_34] ∧
  cond ((x_24 : Int) != 0)
  (R (.bool false) w8)
  (cond ((x_29 : Int) != 0)
  (R (.bool false) w8)
  (cond ((x_34 : Int) != 0)
  (R (.bool false) w8)
  (CallsV Tryd.prog n_trystkeep_Ints #[.slice a_21 l_22 c_23, .slice in13.a in13.len in13.cap] w8 (fun v_35 w9 =>
  ∃ b_36 : Bool, v_35 = .bool b_36 ∧
  cond (!b_36)
  (R (.bool false) w9)
  (CallsV Tryd.prog n_trystkeep_Ints #[.slice a_26 l_27 c_28, .slice in13.a in13.len in13.cap] w9 (fun v_37 w10 =>
  ∃ b_38 : Bool, v_37 = .bool b_38 ∧
  cond (!b_38)
  (R (.bool false) w10)
  (CallsV Tryd.prog n_trystkeep_Ints #[.slice a_31 l_32 c_33, .slice in13.a in13.len in13.cap] w10 (fun v_39 w11 =>
  ∃ b_40 : Bool, v_39 = .bool b_40 ∧
  cond (!b_40)
  (R (.bool false) w11)
  (trystlaw10_TermKeys.c1 R key1 other2 a9 s15 b19 t21 q23 w11))))))))))))

def trystlaw10_TermKeys.c3 (R : Value → World → Prop) (key1 : Int) (other2 : Int) (a9 : Option Addr) (in13 : Sl) (w : World) : Prop :=
  let w12 := w.alloc (.cells #[.int .i64 key1] 3);
  ∃ (a_41 : Option Addr) (l_42 c_43 : Nat), ∃ w13 : World, (builtin .append #[29, 29] 29 #[] #[.slice (some (newA w)) 1 1, .slice in13.a in13.len in13.cap]).run Tryd.prog w12 = .ok (.value (.slice a_41 l_42 c_43)) w13 ∧
  CallsV Tryd.prog n_term_Arena_Make #[.pointer a9, .int .i64 6, .int .i64 0, .slice a_41 l_42 c_43] w13 (fun v_44 w14 =>
  ∃ x_45 : Int, ∃ x_46 : Int, v_44 = .tuple #[.int .i64 x_45, .int .i64 x_46] ∧
  let w15 := w14.alloc (.cells #[.int .i64 key1] 3);
  CallsV Tryd.prog n_term_Arena_Make #[.pointer a9, .int .i64 5, .int .i64 0, .slice (some (newA w14)) 1 1] w15 (fun v_47 w16 =>
  ∃ x_48 : Int, ∃ x_49 : Int, v_47 = .tuple #[.int .i64 x_48, .int .i64 x_49] ∧
  let w17 := w16.alloc (.cells #[.int .i64 x_48, .int .i64 other2] 3);
  ∃ (a_50 : Option Addr) (l_51 c_52 : Nat), ∃ w18 : World, (builtin .append #[29, 29] 29 #[] #[.slice (some (newA w16)) 2 2, .slice in13.a in13.len in13.cap]).run Tryd.prog w17 = .ok (.value (.slice a_50 l_51 c_52)) w18 ∧
  CallsV Tryd.prog n_term_Arena_Make #[.pointer a9, .int .i64 7, .int .i64 0, .slice a_50 l_51 c_52] w18 (fun v_53 w19 =>
  ∃ x_54 : Int, ∃ x_55 : Int, v_53 = .tuple #[.int .i64 x_54, .int .i64 x_55] ∧
  let w20 := w19.alloc (.cells #[.int .i64 key1] 3);
  ∃ (a_56 : Option Addr) (l_57 c_58 : Nat), ∃ w21 : World, (builtin .append #[29, 29] 29 #[] #[.slice (some (newA w19)) 1 1, .slice in13.a in13.len in13.cap]).run Tryd.prog w20 = .ok (.value (.slice a_56 l_57 c_58)) w21 ∧
  CallsV Tryd.prog n_term_Arena_Make #[.pointer a9, .int .i64 8, .int .i64 0, .slice a_56 l_57 c_58] w21 (fun v_59 w22 =>
  ∃ x_60 : Int, ∃ x_61 : Int, v_59 = .tuple #[.int .i64 x_60, .int .i64 x_61] ∧
  let w23 := w22.alloc (.cells #[.int .i64 other2] 3);
  CallsV Tryd.prog n_term_Arena_Make #[.pointer a9, .int .i64 5, .int .i64 0, .slice (some (newA w22)) 1 1] w23 (fun v_62 w24 =>
  ∃ x_63 : Int, ∃ x_64 : Int, v_62 = .tuple #[.int .i64 x_63, .int .i64 x_64] ∧
  cond ((x_46 : Int) != 0)
  (R (.bool false) w24)
  (cond ((x_49 : Int) != 0)
  (R (.bool false) w24)
  (cond ((x_55 : Int) != 0)
  (R (.bool false) w24)
  (cond ((x_61 : Int) != 0)
  (R (.bool false) w24)
  (cond ((x_64 : Int) != 0)
  (R (.bool false) w24)
  (trystlaw10_TermKeys.c2 R key1 other2 a9 in13 x_45 x_48 x_54 x_60 x_63 w24))))))))))

def trystlaw10_TermKeys.b4 (R : Value → World → Prop) (N4 : Int → Int → Option Addr → Sl → Int → World → Prop) (key1 : Int) (other2 : Int) (a9 : Option Addr) (in13 : Sl) (i14 : Int) (w : World) : Prop :=
  cond (decide ((i14 : Int) < ((in13.len : Nat) : Int)))
  (0 ≤ (i14 : Int) ∧ i14 < ((in13.len : Nat) : Int) ∧ ∃ q_65 : Addr, in13.a = some q_65 ∧
  ∃ x_66 : Int, w.cell? (q_65.add (i14 : Int).toNat) = some (.int .i64 x_66) ∧
  cond (decide ((x_66 : Int) < 0))
  (CallsV Tryd.prog n_trystlaw10_wakes #[] w (fun v_67 w25 =>
  ∃ b_68 : Bool, v_67 = .bool b_68 ∧
  R (.bool b_68) w25))
  ((let i14_68 : Int := (IntKind.i64.wrap (i14 + 1));
  N4 key1 other2 a9 in13 i14_68 w)))
  (trystlaw10_TermKeys.c3 R key1 other2 a9 in13 w)

def trystlaw10_TermKeys.l4 (R : Value → World → Prop) (key1 : Int) (other2 : Int) (a9 : Option Addr) (in13 : Sl) (i14 : Int) (w : World) : Prop :=
  ∃ (I : Int → World → Prop) (μ : Int → World → Nat), I i14 w ∧ ∀ s w, I s w → trystlaw10_TermKeys.b4 R (fun key1' other2' a9' in13' i14' w' => (key1' = key1 ∧ other2' = other2 ∧ a9' = a9 ∧ in13' = in13 ∧ I i14' w') ∧ μ i14' w' < μ s w) key1 other2 a9 in13 s w

def trystlaw10_TermKeys.c5 (R : Value → World → Prop) (key1 : Int) (other2 : Int) (parts3 : Sl) (a9 : Option Addr) (w : World) : Prop :=
  CallsV Tryd.prog n_term_Arena_Len #[.pointer a9] w (fun v_70 w26 =>
  ∃ x_71 : Int, v_70 = .int .i64 x_71 ∧
  x_71 ≠ 0 ∧
  x_71 ≠ 0 ∧
  CallsV Tryd.prog n_trystlaw10_Some #[.slice parts3.a parts3.len parts3.cap, .int .i64 x_71] w26.drew (fun v_72 w27 =>
  ∃ (a_73 : Option Addr) (l_74 c_75 : Nat), v_72 = .slice a_73 l_74 c_75 ∧
  trystlaw10_TermKeys.l4 R (Int.tmod key1 x_71) (Int.tmod other2 x_71) a9 ⟨a_73, l_74, c_75⟩ 0 w27))

def trystlaw10_TermKeys.c6 (R : Value → World → Prop) (l0 : Sl) (key1 : Int) (other2 : Int) (parts3 : Sl) (w : World) : Prop :=
  CallsV Tryd.prog n_trystlaw10_Build #[.slice l0.a l0.len l0.cap] w (fun v_76 w28 =>
  ∃ p_77 : Option Addr, ∃ p_78 : Option Addr, ∃ b_79 : Bool, v_76 = .tuple #[.pointer p_77, .pointer p_78, .bool b_79] ∧
  cond (!b_79)
  (R (.bool false) w28)
  (CallsV Tryd.prog n_term_Arena_Len #[.pointer p_77] w28 (fun v_80 w29 =>
  ∃ x_81 : Int, v_80 = .int .i64 x_81 ∧
  cond ((x_81 : Int) == 0)
  (CallsV Tryd.prog n_trystlaw10_wakes #[] w29 (fun v_82 w30 =>
  ∃ b_83 : Bool, v_82 = .bool b_83 ∧
  R (.bool b_83) w30))
  (cond (decide ((key1 : Int) < 0))
  (CallsV Tryd.prog n_trystlaw10_wakes #[] w29 (fun v_84 w31 =>
  ∃ b_85 : Bool, v_84 = .bool b_85 ∧
  R (.bool b_85) w31))
  (cond (decide ((other2 : Int) < 0))
  (CallsV Tryd.prog n_trystlaw10_wakes #[] w29 (fun v_86 w32 =>
  ∃ b_87 : Bool, v_86 = .bool b_87 ∧
  R (.bool b_87) w32))
  (trystlaw10_TermKeys.c5 R key1 other2 parts3 p_77 w29))))))

def trystlaw10_TermKeys.main (R : Value → World → Prop) (l0 : Sl) (key1 : Int) (other2 : Int) (parts3 : Sl) (w : World) : Prop :=
  CallsV Tryd.prog n_trystlaw10_Heavy #[.slice l0.a l0.len l0.cap] w (fun v_88 w33 =>
  ∃ b_89 : Bool, v_88 = .bool b_89 ∧
  cond b_89
  (R (.bool true) w33)
  (cond (decide ((((parts3.len : Nat) : Int) : Int) > 20))
  (R (.bool true) w33)
  (trystlaw10_TermKeys.c6 R l0 key1 other2 parts3 w33)))

def trystlaw10_TermKeys.J0 (R : Value → World → Prop) (k : Nat) (fr : Fr) (w : World) : Prop :=
  cond (Nat.beq k 6) (dec [(0, .slice), (1, (.int .i64)), (2, (.int .i64)), (3, .slice)] fr fun x => trystlaw10_TermKeys.c6 R x.1 x.2.1 x.2.2.1 x.2.2.2 w) (cond (Nat.beq k 5) (dec [(1, (.int .i64)), (2, (.int .i64)), (3, .slice), (9, .ptr)] fr fun x => trystlaw10_TermKeys.c5 R x.1 x.2.1 x.2.2.1 x.2.2.2 w) (cond (Nat.beq k 4) (dec [(1, (.int .i64)), (2, (.int .i64)), (9, .ptr), (13, .slice), (14, (.int .i64))] fr fun x => trystlaw10_TermKeys.l4 R x.1 x.2.1 x.2.2.1 x.2.2.2.1 x.2.2.2.2 w) (cond (Nat.beq k 3) (dec [(1, (.int .i64)), (2, (.int .i64)), (9, .ptr), (13, .slice)] fr fun x => trystlaw10_TermKeys.c3 R x.1 x.2.1 x.2.2.1 x.2.2.2 w) (cond (Nat.beq k 2) (dec [(1, (.int .i64)), (2, (.int .i64)), (9, .ptr), (13, .slice), (15, (.int .i64)), (17, (.int .i64)), (19, (.int .i64)), (21, (.int .i64)), (23, (.int .i64))] fr fun x => trystlaw10_TermKeys.c2 R x.1 x.2.1 x.2.2.1 x.2.2.2.1 x.2.2.2.2.1 x.2.2.2.2.2.1 x.2.2.2.2.2.2.1 x.2.2.2.2.2.2.2.1 x.2.2.2.2.2.2.2.2 w) (cond (Nat.beq k 1) (dec [(1, (.int .i64)), (2, (.int .i64)), (9, .ptr), (15, (.int .i64)), (19, (.int .i64)), (21, (.int .i64)), (23, (.int .i64))] fr fun x => trystlaw10_TermKeys.c1 R x.1 x.2.1 x.2.2.1 x.2.2.2.1 x.2.2.2.2.1 x.2.2.2.2.2.1 x.2.2.2.2.2.2 w) (False))))))

set_option maxRecDepth 100000 in
theorem trystlaw10_TermKeys.lift {R : Value → World → Prop} {l0 : Sl} {key1 : Int} {other2 : Int} {parts3 : Sl} {w : World} (h : trystlaw10_TermKeys.main R l0 key1 other2 parts3 w) : CallsV Tryd.prog n_trystlaw10_TermKeys #[.slice l0.a l0.len l0.cap, .int .i64 key1, .int .i64 other2, .slice parts3.a parts3.len parts3.cap] w R :=
  liftCalls (c := (.seq (.leaf (cL (bd Tryd.f7))) (.seq (.seq (.leaf (cL (cL (cR (bd Tryd.f7))))) (.cnd (.tmp 34) (.seq (.leaf (cL (cT (cR (cL (cR (bd Tryd.f7))))))) (.leaf (cR (cT (cR (cL (cR (bd Tryd.f7)))))))) (.leaf (cE (cR (cL (cR (bd Tryd.f7)))))))) (.cut 6 (.seq (.leaf (cL (cR (cR (bd Tryd.f7))))) (.seq (.seq (.leaf (cL (cL (cR (cR (cR (bd Tryd.f7))))))) (.cnd (.tmp 42) (.seq (.leaf (cL (cT (cR (cL (cR (cR (cR (bd Tryd.f7))))))))) (.leaf (cR (cT (cR (cL (cR (cR (cR (bd Tryd.f7)))))))))) (.leaf (cE (cR (cL (cR (cR (cR (bd Tryd.f7)))))))))) (.seq (.seq (.leaf (cL (cL (cR (cR (cR (cR (bd Tryd.f7)))))))) (.cnd (.tmp 53) (.seq (.leaf (cL (cT (cR (cL (cR (cR (cR (cR (bd Tryd.f7)))))))))) (.leaf (cR (cT (cR (cL (cR (cR (cR (cR (bd Tryd.f7))))))))))) (.leaf (cE (cR (cL (cR (cR (cR (cR (bd Tryd.f7))))))))))) (.cut 5 (.seq (.leaf (cL (cR (cR (cR (cR (cR (bd Tryd.f7)))))))) (.seq (.leaf (cL (cR (cR (cR (cR (cR (cR (bd Tryd.f7))))))))) (.seq (.leaf (cL (cR (cR (cR (cR (cR (cR (cR (bd Tryd.f7)))))))))) (.seq (.seq (.leaf (cL (cL (cR (cR (cR (cR (cR (cR (cR (cR (bd Tryd.f7)))))))))))) (.block 0 (.loop 4 (.seq (.seq (.leaf (cL (cL (cB (cB (cR (cL (cR (cR (cR (cR (cR (cR (cR (cR (bd Tryd.f7)))))))))))))))) (.cnd (.tmp 69) (.leaf (cT (cR (cL (cB (cB (cR (cL (cR (cR (cR (cR (cR (cR (cR (cR (bd Tryd.f7))))))))))))))))) (.leaf (cE (cR (cL (cB (cB (cR (cL (cR (cR (cR (cR (cR (cR (cR (cR (bd Tryd.f7))))))))))))))))))) (.seq (.block 1 (.seq (.leaf (cL (cB (cL (cR (cB (cB (cR (cL (cR (cR (cR (cR (cR (cR (cR (cR (bd Tryd.f7)))))))))))))))))) (.cnd (.tmp 76) (.seq (.leaf (cL (cT (cR (cB (cL (cR (cB (cB (cR (cL (cR (cR (cR (cR (cR (cR (cR (cR (bd Tryd.f7)))))))))))))))))))) (.leaf (cR (cT (cR (cB (cL (cR (cB (cB (cR (cL (cR (cR (cR (cR (cR (cR (cR (cR (bd Tryd.f7))))))))))))))))))))) (.leaf (cE (cR (cB (cL (cR (cB (cB (cR (cL (cR (cR (cR (cR (cR (cR (cR (cR (bd Tryd.f7)))))))))))))))))))))) (.leaf (cR (cR (cB (cB (cR (cL (cR (cR (cR (cR (cR (cR (cR (cR (bd Tryd.f7))))))))))))))))))))) (.cut 3 (.seq (.leaf (cL (cR (cR (cR (cR (cR (cR (cR (cR (cR (bd Tryd.f7)))))))))))) (.seq (.leaf (cL (cR (cR (cR (cR (cR (cR (cR (cR (cR (cR (bd Tryd.f7))))))))))))) (.seq (.leaf (cL (cR (cR (cR (cR (cR (cR (cR (cR (cR (cR (cR (bd Tryd.f7)))))))))))))) (.seq (.leaf (cL (cR (cR (cR (cR (cR (cR (cR (cR (cR (cR (cR (cR (bd Tryd.f7))))))))))))))) (.seq (.leaf (cL (cR (cR (cR (cR (cR (cR (cR (cR (cR (cR (cR (cR (cR (bd Tryd.f7)))))))))))))))) (.seq (.seq (.leaf (cL (cL (cR (cR (cR (cR (cR (cR (cR (cR (cR (cR (cR (cR (cR (cR (bd Tryd.f7)))))))))))))))))) (.cnd (.tmp 137) (.seq (.leaf (cL (cT (cR (cL (cR (cR (cR (cR (cR (cR (cR (cR (cR (cR (cR (cR (cR (cR (bd Tryd.f7)))))))))))))))))))) (.leaf (cR (cT (cR (cL (cR (cR (cR (cR (cR (cR (cR (cR (cR (cR (cR (cR (cR (cR (bd Tryd.f7))))))))))))))))))))) (.leaf (cE (cR (cL (cR (cR (cR (cR (cR (cR (cR (cR (cR (cR (cR (cR (cR (cR (bd Tryd.f7))))))))))))))))))))) (.cut 2 (.seq (.leaf (cL (cR (cR (cR (cR (cR (cR (cR (cR (cR (cR (cR (cR (cR (cR (cR (bd Tryd.f7)))))))))))))))))) (.seq (.leaf (cL (cR (cR (cR (cR (cR (cR (cR (cR (cR (cR (cR (cR (cR (cR (cR (cR (bd Tryd.f7))))))))))))))))))) (.seq (.leaf (cL (cR (cR (cR (cR (cR (cR (cR (cR (cR (cR (cR (cR (cR (cR (cR (cR (cR (bd Tryd.f7)))))))))))))))))))) (.seq (.seq (.leaf (cL (cL (cR (cR (cR (cR (cR (cR (cR (cR (cR (cR (cR (cR (cR (cR (cR (cR (cR (cR (bd Tryd.f7)))))))))))))))))))))) (.cnd (.tmp 186) (.seq (.leaf (cL (cT (cR (cL (cR (cR (cR (cR (cR (cR (cR (cR (cR (cR (cR (cR (cR (cR (cR (cR (cR (cR (bd Tryd.f7)))))))))))))))))))))))) (.leaf (cR (cT (cR (cL (cR (cR (cR (cR (cR (cR (cR (cR (cR (cR (cR (cR (cR (cR (cR (cR (cR (cR (bd Tryd.f7))))))))))))))))))))))))) (.leaf (cE (cR (cL (cR (cR (cR (cR (cR (cR (cR (cR (cR (cR (cR (cR (cR (cR (cR (cR (cR (cR (bd Tryd.f7))))))))))))))))))))))))) (.cut 1 (.seq (.seq (.leaf (cL (cL (cR (cR (cR (cR (cR (cR (cR (cR (cR (cR (cR (cR (cR (cR (cR (cR (cR (cR (cR (bd Tryd.f7))))))))))))))))))))))) (.cnd (.tmp 189) (.seq (.leaf (cL (cT (cR (cL (cR (cR (cR (cR (cR (cR (cR (cR (cR (cR (cR (cR (cR (cR (cR (cR (cR (cR (cR (bd Tryd.f7))))))))))))))))))))))))) (.leaf (cR (cT (cR (cL (cR (cR (cR (cR (cR (cR (cR (cR (cR (cR (cR (cR (cR (cR (cR (cR (cR (cR (cR (bd Tryd.f7)))))))))))))))))))))))))) (.leaf (cE (cR (cL (cR (cR (cR (cR (cR (cR (cR (cR (cR (cR (cR (cR (cR (cR (cR (cR (cR (cR (cR (bd Tryd.f7)))))))))))))))))))))))))) (.seq (.leaf (cL (cR (cR (cR (cR (cR (cR (cR (cR (cR (cR (cR (cR (cR (cR (cR (cR (cR (cR (cR (cR (bd Tryd.f7))))))))))))))))))))))) (.seq (.leaf (cL (cR (cR (cR (cR (cR (cR (cR (cR (cR (cR (cR (cR (cR (cR (cR (cR (cR (cR (cR (cR (cR (bd Tryd.f7)))))))))))))))))))))))) (.seq (.leaf (cL (cR (cR (cR (cR (cR (cR (cR (cR (cR (cR (cR (cR (cR (cR (cR (cR (cR (cR (cR (cR (cR (cR (bd Tryd.f7))))))))))))))))))))))))) (.seq (.leaf (cL (cR (cR (cR (cR (cR (cR (cR (cR (cR (cR (cR (cR (cR (cR (cR (cR (cR (cR (cR (cR (cR (cR (cR (bd Tryd.f7)))))))))))))))))))))))))) (.leaf (cR (cR (cR (cR (cR (cR (cR (cR (cR (cR (cR (cR (cR (cR (cR (cR (cR (cR (cR (cR (cR (cR (cR (cR (bd Tryd.f7)))))))))))))))))))))))))))))))))))))))))))))))))))))))) (J := trystlaw10_TermKeys.J0 R) LfYtpihglmgkfecbaaDoor.mixed Tryd.func7 (by kernel_rfl) (by kernel_rfl) (mkSeq (mkSeq (mkCut (cutDef [(0, .slice), (1, (.int .i64)), (2, (.int .i64)), (3, .slice)] (fun x w => trystlaw10_TermKeys.c6 R x.1 x.2.1 x.2.2.1 x.2.2.2 w) (fun _ _ => by kernel_rfl) (fun _ _ => by kernel_rfl)) (mkSeq (mkSeq (mkSeq (mkCut (cutDef [(1, (.int .i64)), (2, (.int .i64)), (3, .slice), (9, .ptr)] (fun x w => trystlaw10_TermKeys.c5 R x.1 x.2.1 x.2.2.1 x.2.2.2 w) (fun _ _ => by kernel_rfl) (fun _ _ => by kernel_rfl)) (mkSeq (mkSeq (mkSeq (mkSeq (mkCut (cutDef [(1, (.int .i64)), (2, (.int .i64)), (9, .ptr), (13, .slice)] (fun x w => trystlaw10_TermKeys.c3 R x.1 x.2.1 x.2.2.1 x.2.2.2 w) (fun _ _ => by kernel_rfl) (fun _ _ => by kernel_rfl)) (mkSeq (mkSeq (mkSeq (mkSeq (mkSeq (mkSeq (mkCut (cutDef [(1, (.int .i64)), (2, (.int .i64)), (9, .ptr), (13, .slice), (15, (.int .i64)), (17, (.int .i64)), (19, (.int .i64)), (21, (.int .i64)), (23, (.int .i64))] (fun x w => trystlaw10_TermKeys.c2 R x.1 x.2.1 x.2.2.1 x.2.2.2.1 x.2.2.2.2.1 x.2.2.2.2.2.1 x.2.2.2.2.2.2.1 x.2.2.2.2.2.2.2.1 x.2.2.2.2.2.2.2.2 w) (fun _ _ => by kernel_rfl) (fun _ _ => by kernel_rfl)) (mkSeq (mkSeq (mkSeq (mkSeq (mkCut (cutDef [(1, (.int .i64)), (2, (.int .i64)), (9, .ptr), (15, (.int .i64)), (19, (.int .i64)), (21, (.int .i64)), (23, (.int .i64))] (fun x w => trystlaw10_TermKeys.c1 R x.1 x.2.1 x.2.2.1 x.2.2.2.1 x.2.2.2.2.1 x.2.2.2.2.2.1 x.2.2.2.2.2.2 w) (fun _ _ => by kernel_rfl) (fun _ _ => by kernel_rfl)) (mkSeq (mkSeq (mkSeq (mkSeq (mkSeq mkLeaf mkLeaf) mkLeaf) mkLeaf) mkLeaf) (mkSeq (mkCnd (mkSeq mkLeaf mkLeaf) mkLeaf) mkLeaf))) (mkSeq (mkCnd (mkSeq mkLeaf mkLeaf) mkLeaf) mkLeaf)) mkLeaf) mkLeaf) mkLeaf)) (mkSeq (mkCnd (mkSeq mkLeaf mkLeaf) mkLeaf) mkLeaf)) mkLeaf) mkLeaf) mkLeaf) mkLeaf) mkLeaf)) (mkSeq (mkBlock (mkLoop (loopDef LfYtpihglmgkfecbaaDoor.mixed [(1, (.int .i64)), (2, (.int .i64)), (9, .ptr), (13, .slice), (14, (.int .i64))] (by kernel_rfl) (fun M4 x w => trystlaw10_TermKeys.b4 R (fun y0 y1 y2 y3 y4 w => M4 (y0, y1, y2, y3, y4) w) x.1 x.2.1 x.2.2.1 x.2.2.2.1 x.2.2.2.2 w) (fun M4 => fun _ _ _ => False) (fun _ _ _ => by kernel_rfl) (fun M4 => (mkSeq (mkSeq mkLeaf (mkBlock (mkSeq (mkCnd (mkSeq mkLeaf mkLeaf) mkLeaf) mkLeaf))) (mkSeq (mkCnd mkLeaf mkLeaf) mkLeaf))) (fun x w => trystlaw10_TermKeys.l4 R x.1 x.2.1 x.2.2.1 x.2.2.2.1 x.2.2.2.2 w) (by rintro ⟨c0, c1, c2, c3, s0⟩ w ⟨I, μ, h0, h1⟩; refine ⟨fun y w => y.1 = c0 ∧ y.2.1 = c1 ∧ y.2.2.1 = c2 ∧ y.2.2.2.1 = c3 ∧ I y.2.2.2.2 w, fun y w => μ y.2.2.2.2 w, ⟨rfl, rfl, rfl, rfl, h0⟩, ?_⟩; rintro ⟨d0, d1, d2, d3, t0⟩ w ⟨e0, e1, e2, e3, hI⟩; dsimp only at e0 e1 e2 e3 hI; subst e0; subst e1; subst e2; subst e3; exact h1 _ _ hI) (fun _ _ => by kernel_rfl)))) mkLeaf)) mkLeaf) mkLeaf) mkLeaf)) (mkSeq (mkCnd (mkSeq mkLeaf mkLeaf) mkLeaf) mkLeaf)) (mkSeq (mkCnd (mkSeq mkLeaf mkLeaf) mkLeaf) mkLeaf)) mkLeaf)) (mkSeq (mkCnd (mkSeq mkLeaf mkLeaf) mkLeaf) mkLeaf)) mkLeaf) (kcast (by kernel_rfl) h)

/-! trystlaw10_TermBeneath -/
def trystlaw10_TermBeneath.c1 (R : Value → World → Prop) (in10 : Sl) (all17 : Sl) (w : World) : Prop :=
  CallsV Tryd.prog n_trystkeep_Ints #[.slice in10.a in10.len in10.cap, .slice all17.a all17.len all17.cap] w (fun v_1 w1 =>
  ∃ b_2 : Bool, v_1 = .bool b_2 ∧
  cond b_2
  (CallsV Tryd.prog n_trystlaw10_wakes #[] w1 (fun v_3 w2 =>
  ∃ b_4 : Bool, v_3 = .bool b_4 ∧
  R (.bool b_4) w2))
  (R (.bool false) w1))

def trystlaw10_TermBeneath.b2 (R : Value → World → Prop) (N2 : Sl → Sl → Sl → Int → World → Prop) (in10 : Sl) (want12 : Sl) (all17 : Sl) (k18 : Int) (w : World) : Prop :=
  cond (decide ((k18 : Int) < ((want12.len : Nat) : Int)))
  (0 ≤ (k18 : Int) ∧ k18 < ((want12.len : Nat) : Int) ∧ ∃ q_5 : Addr, want12.a = some q_5 ∧
  ∃ b_6 : Bool, w.cell? (q_5.add (k18 : Int).toNat) = some (.bool b_6) ∧
  cond b_6
  (let w3 := w.alloc (.cells #[.int .i64 k18] 3);
  ∃ (a_7 : Option Addr) (l_8 c_9 : Nat), ∃ w4 : World, (builtin .append #[29, 29] 29 #[] #[.slice all17.a all17.len all17.cap, .slice (some (newA w)) 1 1]).run Tryd.prog w3 = .ok (.value (.slice a_7 l_8 c_9)) w4 ∧
  (let k18_9 : Int := (IntKind.i64.wrap (k18 + 1));
  N2 in10 want12 ⟨a_7, l_8, c_9⟩ k18_9 w4))
  ((let k18_10 : Int := (IntKind.i64.wrap (k18 + 1));
  N2 in10 want12 all17 k18_10 w)))
  (trystlaw10_TermBeneath.c1 R in10 all17 w)

def trystlaw10_TermBeneath.l2 (R : Value → World → Prop) (in10 : Sl) (want12 : Sl) (all17 : Sl) (k18 : Int) (w : World) : Prop :=
  ∃ (I : (Sl × Int) → World → Prop) (μ : (Sl × Int) → World → Nat), I (all17, k18) w ∧ ∀ s w, I s w → trystlaw10_TermBeneath.b2 R (fun in10' want12' all17' k18' w' => (in10' = in10 ∧ want12' = want12 ∧ I (all17', k18') w') ∧ μ (all17', k18') w' < μ s w) in10 want12 s.1 s.2 w

def trystlaw10_TermBeneath.c3 (R : Value → World → Prop) (in10 : Sl) (want12 : Sl) (w : World) : Prop :=
  trystlaw10_TermBeneath.l2 R in10 want12 ⟨none, 0, 0⟩ 0 w

def trystlaw10_TermBeneath.b5 (R : Value → World → Prop) (N4 : Option Addr → Addr → Sl → Sl → Int → World → Prop) (N5 : Option Addr → Addr → Sl → Sl → Int → Sl → Int → World → Prop) (a5 : Option Addr) (t8 : Addr) (in10 : Sl) (want12 : Sl) (k13 : Int) (x14 : Sl) (j16 : Int) (w : World) : Prop :=
  cond (decide ((j16 : Int) < ((x14.len : Nat) : Int)))
  (0 ≤ (j16 : Int) ∧ j16 < ((x14.len : Nat) : Int) ∧ ∃ q_12 : Addr, x14.a = some q_12 ∧
  ∃ x_13 : Int, w.cell? (q_12.add (j16 : Int).toNat) = some (.int .i64 x_13) ∧
  0 ≤ (x_13 : Int) ∧ x_13 < ((want12.len : Nat) : Int) ∧ ∃ q_14 : Addr, want12.a = some q_14 ∧
  Wr w (q_14.add (x_13 : Int).toNat) ∧
  (let w5 := w.setCell (q_14.add (x_13 : Int).toNat) (.bool true);
  (let j16_14 : Int := (IntKind.i64.wrap (j16 + 1));
  N5 a5 t8 in10 want12 k13 x14 j16_14 w5)))
  ((let k13_15 : Int := (IntKind.i64.wrap (k13 + 1));
  N4 a5 t8 in10 want12 k13_15 w))

def trystlaw10_TermBeneath.l5 (R : Value → World → Prop) (N4 : Option Addr → Addr → Sl → Sl → Int → World → Prop) (a5 : Option Addr) (t8 : Addr) (in10 : Sl) (want12 : Sl) (k13 : Int) (x14 : Sl) (j16 : Int) (w : World) : Prop :=
  ∃ (I : Int → World → Prop) (μ : Int → World → Nat), I j16 w ∧ ∀ s w, I s w → trystlaw10_TermBeneath.b5 R N4 (fun a5' t8' in10' want12' k13' x14' j16' w' => (a5' = a5 ∧ t8' = t8 ∧ in10' = in10 ∧ want12' = want12 ∧ k13' = k13 ∧ x14' = x14 ∧ I j16' w') ∧ μ j16' w' < μ s w) a5 t8 in10 want12 k13 x14 s w

def trystlaw10_TermBeneath.b4 (R : Value → World → Prop) (N4 : Option Addr → Addr → Sl → Sl → Int → World → Prop) (a5 : Option Addr) (t8 : Addr) (in10 : Sl) (want12 : Sl) (k13 : Int) (w : World) : Prop :=
  ∃ (a_17 : Option Addr) (l_18 c_19 : Nat), w.cell? (t8.add 2) = some (.slice a_17 l_18 c_19) ∧
  cond (decide ((k13 : Int) < ((l_18 : Nat) : Int)))
  (∃ (a_20 : Option Addr) (l_21 c_22 : Nat), w.cell? (t8.add 2) = some (.slice a_20 l_21 c_22) ∧
  0 ≤ (k13 : Int) ∧ k13 < ((l_21 : Nat) : Int) ∧ ∃ q_23 : Addr, a_20 = some q_23 ∧
  ∃ x_24 : Int, w.cell? (q_23.add (k13 : Int).toNat) = some (.int .i64 x_24) ∧
  CallsV Tryd.prog n_term_Arena_Beneath #[.pointer a5, .int .i64 x_24] w (fun v_25 w6 =>
  ∃ (a_26 : Option Addr) (l_27 c_28 : Nat), ∃ x_29 : Int, v_25 = .tuple #[.slice a_26 l_27 c_28, .int .i64 x_29] ∧
  cond ((x_29 : Int) != 0)
  (R (.bool false) w6)
  (trystlaw10_TermBeneath.l5 R N4 a5 t8 in10 want12 k13 ⟨a_26, l_27, c_28⟩ 0 w6)))
  (trystlaw10_TermBeneath.c3 R in10 want12 w)

def trystlaw10_TermBeneath.l4 (R : Value → World → Prop) (a5 : Option Addr) (t8 : Addr) (in10 : Sl) (want12 : Sl) (k13 : Int) (w : World) : Prop :=
  ∃ (I : Int → World → Prop) (μ : Int → World → Nat), I k13 w ∧ ∀ s w, I s w → trystlaw10_TermBeneath.b4 R (fun a5' t8' in10' want12' k13' w' => (a5' = a5 ∧ t8' = t8 ∧ in10' = in10 ∧ want12' = want12 ∧ I k13' w') ∧ μ k13' w' < μ s w) a5 t8 in10 want12 s w

def trystlaw10_TermBeneath.c6 (R : Value → World → Prop) (i1 : Int) (a5 : Option Addr) (t8 : Addr) (in10 : Sl) (w : World) : Prop :=
  CallsV Tryd.prog n_term_Arena_Len #[.pointer a5] w (fun v_30 w7 =>
  ∃ x_31 : Int, v_30 = .int .i64 x_31 ∧
  0 ≤ (x_31 : Int) ∧ (x_31 : Int) ≤ x_31 ∧ (1 : Int) * x_31 ≤ 281474976710656 ∧ (x_31 : Int) ≤ 9223372036854775807 ∧
  (let w8 := w7.alloc (.cells ((Array.range ((x_31 : Int).toNat * 1)).map ((#[.bool false] : Array Value)[· % (#[.bool false] : Array Value).size]!)) 4);
  0 ≤ (i1 : Int) ∧ i1 < (((x_31 : Int).toNat : Nat) : Int) ∧ ∃ q_32 : Addr, (some (newA w7)) = some q_32 ∧
  Wr w8 (q_32.add (i1 : Int).toNat) ∧
  (let w9 := w8.setCell (q_32.add (i1 : Int).toNat) (.bool true);
  trystlaw10_TermBeneath.l4 R a5 t8 in10 ⟨(some (newA w7)), (x_31 : Int).toNat, (x_31 : Int).toNat⟩ 0 w9)))

def trystlaw10_TermBeneath.c7 (R : Value → World → Prop) (l0 : Sl) (i1 : Int) (w : World) : Prop :=
  CallsV Tryd.prog n_trystlaw10_Build #[.slice l0.a l0.len l0.cap] w (fun v_33 w10 =>
  ∃ p_34 : Option Addr, ∃ p_35 : Option Addr, ∃ b_36 : Bool, v_33 = .tuple #[.pointer p_34, .pointer p_35, .bool b_36] ∧
  cond (!b_36)
  (R (.bool false) w10)
  (CallsV Tryd.prog n_term_Arena_Len #[.pointer p_34] w10 (fun v_37 w11 =>
  ∃ x_38 : Int, v_37 = .int .i64 x_38 ∧
  cond ((x_38 : Int) == 0)
  (CallsV Tryd.prog n_trystlaw10_wakes #[] w11 (fun v_39 w12 =>
  ∃ b_40 : Bool, v_39 = .bool b_40 ∧
  R (.bool b_40) w12))
  (CallsV Tryd.prog n_term_Arena_Len #[.pointer p_34] w11 (fun v_41 w13 =>
  ∃ x_42 : Int, v_41 = .int .i64 x_42 ∧
  x_42 ≠ 0 ∧
  CallsV Tryd.prog n_term_Arena_Node #[.pointer p_34, .int .i64 (Int.tmod i1 x_42)] w13 (fun v_43 w14 =>
  ∃ x_44 : Int, ∃ x_45 : Int, ∃ (a_46 : Option Addr) (l_47 c_48 : Nat), ∃ x_49 : Int, v_43 = .tuple #[.agg #[.int .i64 x_44, .int .i64 x_45, .slice a_46 l_47 c_48], .int .i64 x_49] ∧
  let w15 := w14.alloc (.cells #[.int .i64 0, .int .i64 0, .slice none 0 0] 43);
  (∀ j, j < 3 → Wr w15 ((newA w14).add j)) ∧
  (let w16 := setCells (newA w14) [.int .i64 x_44, .int .i64 x_45, .slice a_46 l_47 c_48] 0 w15;
  CallsV Tryd.prog n_term_Arena_Beneath #[.pointer p_34, .int .i64 (Int.tmod i1 x_42)] w16 (fun v_50 w17 =>
  ∃ (a_51 : Option Addr) (l_52 c_53 : Nat), ∃ x_54 : Int, v_50 = .tuple #[.slice a_51 l_52 c_53, .int .i64 x_54] ∧
  cond ((x_49 : Int) != 0)
  (R (.bool false) w17)
  (cond ((x_54 : Int) != 0)
  (R (.bool false) w17)
  (trystlaw10_TermBeneath.c6 R (Int.tmod i1 x_42) p_34 (newA w14) ⟨a_51, l_52, c_53⟩ w17))))))))))

def trystlaw10_TermBeneath.main (R : Value → World → Prop) (l0 : Sl) (i1 : Int) (w : World) : Prop :=
  CallsV Tryd.prog n_trystlaw10_Heavy #[.slice l0.a l0.len l0.cap] w (fun v_55 w18 =>
  ∃ b_56 : Bool, v_55 = .bool b_56 ∧
  cond b_56
  (R (.bool true) w18)
  (cond (decide ((i1 : Int) < 0))
  (R (.bool true) w18)
  (trystlaw10_TermBeneath.c7 R l0 i1 w18)))

def trystlaw10_TermBeneath.J4 (R : Value → World → Prop) (N4 : Option Addr → Addr → Sl → Sl → Int → World → Prop) (k : Nat) (fr : Fr) (w : World) : Prop :=
  cond (Nat.beq k 5) (dec [(5, .ptr), (8, .addr), (10, .slice), (12, .slice), (13, (.int .i64)), (14, .slice), (16, (.int .i64))] fr fun x => trystlaw10_TermBeneath.l5 R N4 x.1 x.2.1 x.2.2.1 x.2.2.2.1 x.2.2.2.2.1 x.2.2.2.2.2.1 x.2.2.2.2.2.2 w) (False)

def trystlaw10_TermBeneath.J0 (R : Value → World → Prop) (k : Nat) (fr : Fr) (w : World) : Prop :=
  cond (Nat.beq k 7) (dec [(0, .slice), (1, (.int .i64))] fr fun x => trystlaw10_TermBeneath.c7 R x.1 x.2 w) (cond (Nat.beq k 6) (dec [(1, (.int .i64)), (5, .ptr), (8, .addr), (10, .slice)] fr fun x => trystlaw10_TermBeneath.c6 R x.1 x.2.1 x.2.2.1 x.2.2.2 w) (cond (Nat.beq k 4) (dec [(5, .ptr), (8, .addr), (10, .slice), (12, .slice), (13, (.int .i64))] fr fun x => trystlaw10_TermBeneath.l4 R x.1 x.2.1 x.2.2.1 x.2.2.2.1 x.2.2.2.2 w) (cond (Nat.beq k 3) (dec [(10, .slice), (12, .slice)] fr fun x => trystlaw10_TermBeneath.c3 R x.1 x.2 w) (cond (Nat.beq k 2) (dec [(10, .slice), (12, .slice), (17, .slice), (18, (.int .i64))] fr fun x => trystlaw10_TermBeneath.l2 R x.1 x.2.1 x.2.2.1 x.2.2.2 w) (cond (Nat.beq k 1) (dec [(10, .slice), (17, .slice)] fr fun x => trystlaw10_TermBeneath.c1 R x.1 x.2 w) (False))))))

set_option maxRecDepth 100000 in
theorem trystlaw10_TermBeneath.lift {R : Value → World → Prop} {l0 : Sl} {i1 : Int} {w : World} (h : trystlaw10_TermBeneath.main R l0 i1 w) : CallsV Tryd.prog n_trystlaw10_TermBeneath #[.slice l0.a l0.len l0.cap, .int .i64 i1] w R :=
  liftCalls (c := (.seq (.leaf (cL (bd Tryd.f8))) (.seq (.seq (.leaf (cL (cL (cR (bd Tryd.f8))))) (.cnd (.tmp 24) (.seq (.leaf (cL (cT (cR (cL (cR (bd Tryd.f8))))))) (.leaf (cR (cT (cR (cL (cR (bd Tryd.f8)))))))) (.leaf (cE (cR (cL (cR (bd Tryd.f8)))))))) (.cut 7 (.seq (.leaf (cL (cR (cR (bd Tryd.f8))))) (.seq (.seq (.leaf (cL (cL (cR (cR (cR (bd Tryd.f8))))))) (.cnd (.tmp 32) (.seq (.leaf (cL (cT (cR (cL (cR (cR (cR (bd Tryd.f8))))))))) (.leaf (cR (cT (cR (cL (cR (cR (cR (bd Tryd.f8)))))))))) (.leaf (cE (cR (cL (cR (cR (cR (bd Tryd.f8)))))))))) (.seq (.seq (.leaf (cL (cL (cR (cR (cR (cR (bd Tryd.f8)))))))) (.cnd (.tmp 35) (.seq (.leaf (cL (cT (cR (cL (cR (cR (cR (cR (bd Tryd.f8)))))))))) (.leaf (cR (cT (cR (cL (cR (cR (cR (cR (bd Tryd.f8))))))))))) (.leaf (cE (cR (cL (cR (cR (cR (cR (bd Tryd.f8))))))))))) (.seq (.leaf (cL (cR (cR (cR (cR (cR (bd Tryd.f8)))))))) (.seq (.leaf (cL (cR (cR (cR (cR (cR (cR (bd Tryd.f8))))))))) (.seq (.leaf (cL (cR (cR (cR (cR (cR (cR (cR (bd Tryd.f8)))))))))) (.seq (.seq (.leaf (cL (cL (cR (cR (cR (cR (cR (cR (cR (cR (bd Tryd.f8)))))))))))) (.cnd (.tmp 58) (.seq (.leaf (cL (cT (cR (cL (cR (cR (cR (cR (cR (cR (cR (cR (bd Tryd.f8)))))))))))))) (.leaf (cR (cT (cR (cL (cR (cR (cR (cR (cR (cR (cR (cR (bd Tryd.f8))))))))))))))) (.leaf (cE (cR (cL (cR (cR (cR (cR (cR (cR (cR (cR (bd Tryd.f8))))))))))))))) (.cut 6 (.seq (.leaf (cL (cR (cR (cR (cR (cR (cR (cR (cR (cR (bd Tryd.f8)))))))))))) (.seq (.leaf (cL (cR (cR (cR (cR (cR (cR (cR (cR (cR (cR (bd Tryd.f8))))))))))))) (.seq (.seq (.leaf (cL (cL (cR (cR (cR (cR (cR (cR (cR (cR (cR (cR (cR (bd Tryd.f8))))))))))))))) (.block 0 (.loop 4 (.seq (.seq (.leaf (cL (cL (cB (cB (cR (cL (cR (cR (cR (cR (cR (cR (cR (cR (cR (cR (cR (bd Tryd.f8))))))))))))))))))) (.cnd (.tmp 69) (.leaf (cT (cR (cL (cB (cB (cR (cL (cR (cR (cR (cR (cR (cR (cR (cR (cR (cR (cR (bd Tryd.f8)))))))))))))))))))) (.leaf (cE (cR (cL (cB (cB (cR (cL (cR (cR (cR (cR (cR (cR (cR (cR (cR (cR (cR (bd Tryd.f8)))))))))))))))))))))) (.seq (.block 1 (.seq (.leaf (cL (cB (cL (cR (cB (cB (cR (cL (cR (cR (cR (cR (cR (cR (cR (cR (cR (cR (cR (bd Tryd.f8))))))))))))))))))))) (.seq (.seq (.leaf (cL (cL (cR (cB (cL (cR (cB (cB (cR (cL (cR (cR (cR (cR (cR (cR (cR (cR (cR (cR (cR (bd Tryd.f8))))))))))))))))))))))) (.cnd (.tmp 83) (.seq (.leaf (cL (cT (cR (cL (cR (cB (cL (cR (cB (cB (cR (cL (cR (cR (cR (cR (cR (cR (cR (cR (cR (cR (cR (bd Tryd.f8))))))))))))))))))))))))) (.leaf (cR (cT (cR (cL (cR (cB (cL (cR (cB (cB (cR (cL (cR (cR (cR (cR (cR (cR (cR (cR (cR (cR (cR (bd Tryd.f8)))))))))))))))))))))))))) (.leaf (cE (cR (cL (cR (cB (cL (cR (cB (cB (cR (cL (cR (cR (cR (cR (cR (cR (cR (cR (cR (cR (cR (bd Tryd.f8)))))))))))))))))))))))))) (.seq (.leaf (cL (cR (cR (cB (cL (cR (cB (cB (cR (cL (cR (cR (cR (cR (cR (cR (cR (cR (cR (cR (cR (bd Tryd.f8))))))))))))))))))))))) (.block 2 (.loop 5 (.seq (.seq (.leaf (cL (cL (cB (cB (cR (cR (cR (cB (cL (cR (cB (cB (cR (cL (cR (cR (cR (cR (cR (cR (cR (cR (cR (cR (cR (bd Tryd.f8))))))))))))))))))))))))))) (.cnd (.tmp 87) (.leaf (cT (cR (cL (cB (cB (cR (cR (cR (cB (cL (cR (cB (cB (cR (cL (cR (cR (cR (cR (cR (cR (cR (cR (cR (cR (cR (bd Tryd.f8)))))))))))))))))))))))))))) (.leaf (cE (cR (cL (cB (cB (cR (cR (cR (cB (cL (cR (cB (cB (cR (cL (cR (cR (cR (cR (cR (cR (cR (cR (cR (cR (cR (bd Tryd.f8)))))))))))))))))))))))))))))) (.seq (.block 3 (.leaf (cB (cL (cR (cB (cB (cR (cR (cR (cB (cL (cR (cB (cB (cR (cL (cR (cR (cR (cR (cR (cR (cR (cR (cR (cR (cR (bd Tryd.f8))))))))))))))))))))))))))))) (.leaf (cR (cR (cB (cB (cR (cR (cR (cB (cL (cR (cB (cB (cR (cL (cR (cR (cR (cR (cR (cR (cR (cR (cR (cR (cR (bd Tryd.f8))))))))))))))))))))))))))))))))))) (.leaf (cR (cR (cB (cB (cR (cL (cR (cR (cR (cR (cR (cR (cR (cR (cR (cR (cR (bd Tryd.f8)))))))))))))))))))))))) (.cut 3 (.seq (.leaf (cL (cR (cR (cR (cR (cR (cR (cR (cR (cR (cR (cR (cR (bd Tryd.f8))))))))))))))) (.seq (.seq (.leaf (cL (cL (cR (cR (cR (cR (cR (cR (cR (cR (cR (cR (cR (cR (cR (bd Tryd.f8))))))))))))))))) (.block 4 (.loop 2 (.seq (.seq (.leaf (cL (cL (cB (cB (cR (cL (cR (cR (cR (cR (cR (cR (cR (cR (cR (cR (cR (cR (cR (bd Tryd.f8))))))))))))))))))))) (.cnd (.tmp 99) (.leaf (cT (cR (cL (cB (cB (cR (cL (cR (cR (cR (cR (cR (cR (cR (cR (cR (cR (cR (cR (cR (bd Tryd.f8)))))))))))))))))))))) (.leaf (cE (cR (cL (cB (cB (cR (cL (cR (cR (cR (cR (cR (cR (cR (cR (cR (cR (cR (cR (cR (bd Tryd.f8)))))))))))))))))))))))) (.seq (.block 5 (.seq (.leaf (cL (cB (cL (cR (cB (cB (cR (cL (cR (cR (cR (cR (cR (cR (cR (cR (cR (cR (cR (cR (cR (bd Tryd.f8))))))))))))))))))))))) (.cnd (.tmp 105) (.leaf (cT (cR (cB (cL (cR (cB (cB (cR (cL (cR (cR (cR (cR (cR (cR (cR (cR (cR (cR (cR (cR (cR (bd Tryd.f8)))))))))))))))))))))))) (.leaf (cE (cR (cB (cL (cR (cB (cB (cR (cL (cR (cR (cR (cR (cR (cR (cR (cR (cR (cR (cR (cR (cR (bd Tryd.f8))))))))))))))))))))))))))) (.leaf (cR (cR (cB (cB (cR (cL (cR (cR (cR (cR (cR (cR (cR (cR (cR (cR (cR (cR (cR (bd Tryd.f8)))))))))))))))))))))))))) (.cut 1 (.seq (.leaf (cL (cR (cR (cR (cR (cR (cR (cR (cR (cR (cR (cR (cR (cR (cR (bd Tryd.f8))))))))))))))))) (.leaf (cR (cR (cR (cR (cR (cR (cR (cR (cR (cR (cR (cR (cR (cR (cR (bd Tryd.f8))))))))))))))))))))))))))))))))))))) (J := trystlaw10_TermBeneath.J0 R) LfYtpihglmgkfecbaaDoor.mixed Tryd.func8 (by kernel_rfl) (by kernel_rfl) (mkSeq (mkSeq (mkCut (cutDef [(0, .slice), (1, (.int .i64))] (fun x w => trystlaw10_TermBeneath.c7 R x.1 x.2 w) (fun _ _ => by kernel_rfl) (fun _ _ => by kernel_rfl)) (mkSeq (mkSeq (mkSeq (mkSeq (mkSeq (mkSeq (mkSeq (mkCut (cutDef [(1, (.int .i64)), (5, .ptr), (8, .addr), (10, .slice)] (fun x w => trystlaw10_TermBeneath.c6 R x.1 x.2.1 x.2.2.1 x.2.2.2 w) (fun _ _ => by kernel_rfl) (fun _ _ => by kernel_rfl)) (mkSeq (mkSeq (mkSeq (mkCut (cutDef [(10, .slice), (12, .slice)] (fun x w => trystlaw10_TermBeneath.c3 R x.1 x.2 w) (fun _ _ => by kernel_rfl) (fun _ _ => by kernel_rfl)) (mkSeq (mkSeq (mkCut (cutDef [(10, .slice), (17, .slice)] (fun x w => trystlaw10_TermBeneath.c1 R x.1 x.2 w) (fun _ _ => by kernel_rfl) (fun _ _ => by kernel_rfl)) (mkSeq mkLeaf mkLeaf)) (mkSeq (mkBlock (mkLoop (loopDef LfYtpihglmgkfecbaaDoor.mixed [(10, .slice), (12, .slice), (17, .slice), (18, (.int .i64))] (by kernel_rfl) (fun M2 x w => trystlaw10_TermBeneath.b2 R (fun y0 y1 y2 y3 w => M2 (y0, y1, y2, y3) w) x.1 x.2.1 x.2.2.1 x.2.2.2 w) (fun M2 => fun _ _ _ => False) (fun _ _ _ => by kernel_rfl) (fun M2 => (mkSeq (mkSeq mkLeaf (mkBlock (mkSeq (mkCnd mkLeaf mkLeaf) mkLeaf))) (mkSeq (mkCnd mkLeaf mkLeaf) mkLeaf))) (fun x w => trystlaw10_TermBeneath.l2 R x.1 x.2.1 x.2.2.1 x.2.2.2 w) (by rintro ⟨c0, c1, s0⟩ w ⟨I, μ, h0, h1⟩; refine ⟨fun y w => y.1 = c0 ∧ y.2.1 = c1 ∧ I y.2.2 w, fun y w => μ y.2.2 w, ⟨rfl, rfl, h0⟩, ?_⟩; rintro ⟨d0, d1, t0⟩ w ⟨e0, e1, hI⟩; dsimp only at e0 e1 hI; subst e0; subst e1; exact h1 _ _ hI) (fun _ _ => by kernel_rfl)))) mkLeaf)) mkLeaf)) (mkSeq (mkBlock (mkLoop (loopDef LfYtpihglmgkfecbaaDoor.mixed [(5, .ptr), (8, .addr), (10, .slice), (12, .slice), (13, (.int .i64))] (by kernel_rfl) (fun M4 x w => trystlaw10_TermBeneath.b4 R (fun y0 y1 y2 y3 y4 w => M4 (y0, y1, y2, y3, y4) w) x.1 x.2.1 x.2.2.1 x.2.2.2.1 x.2.2.2.2 w) (fun M4 => trystlaw10_TermBeneath.J4 R (fun y0 y1 y2 y3 y4 w => M4 (y0, y1, y2, y3, y4) w)) (fun _ _ _ => by kernel_rfl) (fun M4 => (mkSeq (mkSeq mkLeaf (mkBlock (mkSeq (mkSeq (mkSeq (mkBlock (mkLoop (loopDef LfYtpihglmgkfecbaaDoor.mixed [(5, .ptr), (8, .addr), (10, .slice), (12, .slice), (13, (.int .i64)), (14, .slice), (16, (.int .i64))] (by kernel_rfl) (fun M5 x w => trystlaw10_TermBeneath.b5 R (fun y0 y1 y2 y3 y4 w => M4 (y0, y1, y2, y3, y4) w) (fun y0 y1 y2 y3 y4 y5 y6 w => M5 (y0, y1, y2, y3, y4, y5, y6) w) x.1 x.2.1 x.2.2.1 x.2.2.2.1 x.2.2.2.2.1 x.2.2.2.2.2.1 x.2.2.2.2.2.2 w) (fun M5 => fun _ _ _ => False) (fun _ _ _ => by kernel_rfl) (fun M5 => (mkSeq (mkSeq mkLeaf (mkBlock mkLeaf)) (mkSeq (mkCnd mkLeaf mkLeaf) mkLeaf))) (fun x w => trystlaw10_TermBeneath.l5 R (fun y0 y1 y2 y3 y4 w => M4 (y0, y1, y2, y3, y4) w) x.1 x.2.1 x.2.2.1 x.2.2.2.1 x.2.2.2.2.1 x.2.2.2.2.2.1 x.2.2.2.2.2.2 w) (by rintro ⟨c0, c1, c2, c3, c4, c5, s0⟩ w ⟨I, μ, h0, h1⟩; refine ⟨fun y w => y.1 = c0 ∧ y.2.1 = c1 ∧ y.2.2.1 = c2 ∧ y.2.2.2.1 = c3 ∧ y.2.2.2.2.1 = c4 ∧ y.2.2.2.2.2.1 = c5 ∧ I y.2.2.2.2.2.2 w, fun y w => μ y.2.2.2.2.2.2 w, ⟨rfl, rfl, rfl, rfl, rfl, rfl, h0⟩, ?_⟩; rintro ⟨d0, d1, d2, d3, d4, d5, t0⟩ w ⟨e0, e1, e2, e3, e4, e5, hI⟩; dsimp only at e0 e1 e2 e3 e4 e5 hI; subst e0; subst e1; subst e2; subst e3; subst e4; subst e5; exact h1 _ _ hI) (fun _ _ => by kernel_rfl)))) mkLeaf) (mkSeq (mkCnd (mkSeq mkLeaf mkLeaf) mkLeaf) mkLeaf)) mkLeaf))) (mkSeq (mkCnd mkLeaf mkLeaf) mkLeaf))) (fun x w => trystlaw10_TermBeneath.l4 R x.1 x.2.1 x.2.2.1 x.2.2.2.1 x.2.2.2.2 w) (by rintro ⟨c0, c1, c2, c3, s0⟩ w ⟨I, μ, h0, h1⟩; refine ⟨fun y w => y.1 = c0 ∧ y.2.1 = c1 ∧ y.2.2.1 = c2 ∧ y.2.2.2.1 = c3 ∧ I y.2.2.2.2 w, fun y w => μ y.2.2.2.2 w, ⟨rfl, rfl, rfl, rfl, h0⟩, ?_⟩; rintro ⟨d0, d1, d2, d3, t0⟩ w ⟨e0, e1, e2, e3, hI⟩; dsimp only at e0 e1 e2 e3 hI; subst e0; subst e1; subst e2; subst e3; exact h1 _ _ hI) (fun _ _ => by kernel_rfl)))) mkLeaf)) mkLeaf) mkLeaf)) (mkSeq (mkCnd (mkSeq mkLeaf mkLeaf) mkLeaf) mkLeaf)) mkLeaf) mkLeaf) mkLeaf) (mkSeq (mkCnd (mkSeq mkLeaf mkLeaf) mkLeaf) mkLeaf)) (mkSeq (mkCnd (mkSeq mkLeaf mkLeaf) mkLeaf) mkLeaf)) mkLeaf)) (mkSeq (mkCnd (mkSeq mkLeaf mkLeaf) mkLeaf) mkLeaf)) mkLeaf) (kcast (by kernel_rfl) h)

/-! trystlaw10_TermMemory -/
def trystlaw10_TermMemory.c1 (R : Value → World → Prop) (w : World) : Prop :=
  CallsV Tryd.prog n_trystlaw10_wakes #[] w (fun v_1 w1 =>
  ∃ b_2 : Bool, v_1 = .bool b_2 ∧
  R (.bool b_2) w1)

def trystlaw10_TermMemory.b2 (R : Value → World → Prop) (N2 : Option Addr → Option Addr → Int → World → Prop) (a3 : Option Addr) (b4 : Option Addr) (i12 : Int) (w : World) : Prop :=
  ∃ q_3 : Addr, b4 = some q_3 ∧
  ∃ (a_4 : Option Addr) (l_5 c_6 : Nat), w.cell? q_3 = some (.slice a_4 l_5 c_6) ∧
  cond (decide ((i12 : Int) < ((l_5 : Nat) : Int)))
  (CallsV Tryd.prog n_term_Arena_Node #[.pointer a3, .int .i64 i12] w (fun v_7 w2 =>
  ∃ x_8 : Int, ∃ x_9 : Int, ∃ (a_10 : Option Addr) (l_11 c_12 : Nat), ∃ x_13 : Int, v_7 = .tuple #[.agg #[.int .i64 x_8, .int .i64 x_9, .slice a_10 l_11 c_12], .int .i64 x_13] ∧
  let w3 := w2.alloc (.cells #[.int .i64 0, .int .i64 0, .slice none 0 0] 43);
  (∀ j, j < 3 → Wr w3 ((newA w2).add j)) ∧
  (let w4 := setCells (newA w2) [.int .i64 x_8, .int .i64 x_9, .slice a_10 l_11 c_12] 0 w3;
  ∃ S_14 : World → Prop, S_14 w4.drew ∧
  cond ((x_13 : Int) != 0)
  (R (.bool false) w4.drew)
  (∃ x_15 : Int, (∀ x, S_14 x → x.cell? (newA w2) = some (.int .i64 x_15)) ∧
  ∃ x_16 : Int, (∀ x, S_14 x → x.cell? ((newA w2).add 1) = some (.int .i64 x_16)) ∧
  ∃ (a_17 : Option Addr) (l_18 c_19 : Nat), (∀ x, S_14 x → x.cell? ((newA w2).add 2) = some (.slice a_17 l_18 c_19)) ∧
  ∃ q_20 : Addr, b4 = some q_20 ∧
  ∃ (a_21 : Option Addr) (l_22 c_23 : Nat), (∀ x, S_14 x → x.cell? q_20 = some (.slice a_21 l_22 c_23)) ∧
  0 ≤ (i12 : Int) ∧ i12 < ((l_22 : Nat) : Int) ∧ ∃ q_24 : Addr, a_21 = some q_24 ∧
  ∃ x_25 : Int, (∀ x, S_14 x → x.cell? (q_24.add ((i12 : Int).toNat * 3)) = some (.int .i64 x_25)) ∧
  ∃ x_26 : Int, (∀ x, S_14 x → x.cell? ((q_24.add ((i12 : Int).toNat * 3)).add 1) = some (.int .i64 x_26)) ∧
  ∃ (a_27 : Option Addr) (l_28 c_29 : Nat), (∀ x, S_14 x → x.cell? ((q_24.add ((i12 : Int).toNat * 3)).add 2) = some (.slice a_27 l_28 c_29)) ∧
  CallsV Tryd.prog n_trystkeep_Term #[.agg #[.int .i64 x_15, .int .i64 x_16, .slice a_17 l_18 c_19], .agg #[.int .i64 x_25, .int .i64 x_26, .slice a_27 l_28 c_29]] w4.drew (fun v_30 w5 =>
  ∃ b_31 : Bool, v_30 = .bool b_31 ∧
  cond (!b_31)
  (R (.bool false) w5)
  ((let i12_31 : Int := (IntKind.i64.wrap (i12 + 1));
  N2 a3 b4 i12_31 w5)))))))
  (trystlaw10_TermMemory.c1 R w)

def trystlaw10_TermMemory.l2 (R : Value → World → Prop) (a3 : Option Addr) (b4 : Option Addr) (i12 : Int) (w : World) : Prop :=
  ∃ (I : Int → World → Prop) (μ : Int → World → Nat), I i12 w ∧ ∀ s w, I s w → trystlaw10_TermMemory.b2 R (fun a3' b4' i12' w' => (a3' = a3 ∧ b4' = b4 ∧ I i12' w') ∧ μ i12' w' < μ s w) a3 b4 s w

def trystlaw10_TermMemory.c3 (R : Value → World → Prop) (a3 : Option Addr) (b4 : Option Addr) (w : World) : Prop :=
  trystlaw10_TermMemory.l2 R a3 b4 0 w

def trystlaw10_TermMemory.c5 (R : Value → World → Prop) (N4 : Option Addr → Option Addr → Int → World → Prop) (a3 : Option Addr) (b4 : Option Addr) (i6 : Int) (x7 : Sl) (y9 : Sl) (w : World) : Prop :=
  CallsV Tryd.prog n_trystkeep_SpoilInts #[.slice x7.a x7.len x7.cap] w (fun v_33 w6 =>
  v_33 = .tuple #[] ∧
  CallsV Tryd.prog n_term_Arena_Beneath #[.pointer a3, .int .i64 i6] w6 (fun v_34 w7 =>
  ∃ (a_35 : Option Addr) (l_36 c_37 : Nat), ∃ x_38 : Int, v_34 = .tuple #[.slice a_35 l_36 c_37, .int .i64 x_38] ∧
  cond ((x_38 : Int) != 0)
  (R (.bool false) w7)
  (CallsV Tryd.prog n_trystkeep_Ints #[.slice y9.a y9.len y9.cap, .slice a_35 l_36 c_37] w7 (fun v_39 w8 =>
  ∃ b_40 : Bool, v_39 = .bool b_40 ∧
  cond (!b_40)
  (R (.bool false) w8)
  ((let i6_40 : Int := (IntKind.i64.wrap (i6 + 1));
  N4 a3 b4 i6_40 w8))))))

def trystlaw10_TermMemory.b4 (R : Value → World → Prop) (N4 : Option Addr → Option Addr → Int → World → Prop) (a3 : Option Addr) (b4 : Option Addr) (i6 : Int) (w : World) : Prop :=
  ∃ q_42 : Addr, b4 = some q_42 ∧
  ∃ (a_43 : Option Addr) (l_44 c_45 : Nat), w.cell? q_42 = some (.slice a_43 l_44 c_45) ∧
  cond (decide ((i6 : Int) < ((l_44 : Nat) : Int)))
  (CallsV Tryd.prog n_term_Arena_Beneath #[.pointer a3, .int .i64 i6] w (fun v_46 w9 =>
  ∃ (a_47 : Option Addr) (l_48 c_49 : Nat), ∃ x_50 : Int, v_46 = .tuple #[.slice a_47 l_48 c_49, .int .i64 x_50] ∧
  CallsV Tryd.prog n_term_Arena_Beneath #[.pointer a3, .int .i64 i6] w9 (fun v_51 w10 =>
  ∃ (a_52 : Option Addr) (l_53 c_54 : Nat), ∃ x_55 : Int, v_51 = .tuple #[.slice a_52 l_53 c_54, .int .i64 x_55] ∧
  cond ((x_50 : Int) != 0)
  (R (.bool false) w10)
  (cond ((x_55 : Int) != 0)
  (R (.bool false) w10)
  (CallsV Tryd.prog n_trystkeep_Ints #[.slice a_47 l_48 c_49, .slice a_52 l_53 c_54] w10 (fun v_56 w11 =>
  ∃ b_57 : Bool, v_56 = .bool b_57 ∧
  cond (!b_57)
  (R (.bool false) w11)
  (trystlaw10_TermMemory.c5 R N4 a3 b4 i6 ⟨a_47, l_48, c_49⟩ ⟨a_52, l_53, c_54⟩ w11)))))))
  (trystlaw10_TermMemory.c3 R a3 b4 w)

def trystlaw10_TermMemory.l4 (R : Value → World → Prop) (a3 : Option Addr) (b4 : Option Addr) (i6 : Int) (w : World) : Prop :=
  ∃ (I : Int → World → Prop) (μ : Int → World → Nat), I i6 w ∧ ∀ s w, I s w → trystlaw10_TermMemory.b4 R (fun a3' b4' i6' w' => (a3' = a3 ∧ b4' = b4 ∧ I i6' w') ∧ μ i6' w' < μ s w) a3 b4 s w

def trystlaw10_TermMemory.main (R : Value → World → Prop) (l0 : Sl) (w : World) : Prop :=
  CallsV Tryd.prog n_trystlaw10_Heavy #[.slice l0.a l0.len l0.cap] w (fun v_58 w12 =>
  ∃ b_59 : Bool, v_58 = .bool b_59 ∧
  cond b_59
  (R (.bool true) w12)
  (CallsV Tryd.prog n_trystlaw10_Build #[.slice l0.a l0.len l0.cap] w12 (fun v_60 w13 =>
  ∃ p_61 : Option Addr, ∃ p_62 : Option Addr, ∃ b_63 : Bool, v_60 = .tuple #[.pointer p_61, .pointer p_62, .bool b_63] ∧
  cond (!b_63)
  (R (.bool false) w13)
  (trystlaw10_TermMemory.l4 R p_61 p_62 0 w13))))

def trystlaw10_TermMemory.J4 (R : Value → World → Prop) (N4 : Option Addr → Option Addr → Int → World → Prop) (k : Nat) (fr : Fr) (w : World) : Prop :=
  cond (Nat.beq k 5) (dec [(3, .ptr), (4, .ptr), (6, (.int .i64)), (7, .slice), (9, .slice)] fr fun x => trystlaw10_TermMemory.c5 R N4 x.1 x.2.1 x.2.2.1 x.2.2.2.1 x.2.2.2.2 w) (False)

def trystlaw10_TermMemory.J0 (R : Value → World → Prop) (k : Nat) (fr : Fr) (w : World) : Prop :=
  cond (Nat.beq k 4) (dec [(3, .ptr), (4, .ptr), (6, (.int .i64))] fr fun x => trystlaw10_TermMemory.l4 R x.1 x.2.1 x.2.2 w) (cond (Nat.beq k 3) (dec [(3, .ptr), (4, .ptr)] fr fun x => trystlaw10_TermMemory.c3 R x.1 x.2 w) (cond (Nat.beq k 2) (dec [(3, .ptr), (4, .ptr), (12, (.int .i64))] fr fun x => trystlaw10_TermMemory.l2 R x.1 x.2.1 x.2.2 w) (cond (Nat.beq k 1) (dec [] fr fun x => trystlaw10_TermMemory.c1 R w) (False))))

set_option maxRecDepth 100000 in
theorem trystlaw10_TermMemory.lift {R : Value → World → Prop} {l0 : Sl} {w : World} (h : trystlaw10_TermMemory.main R l0 w) : CallsV Tryd.prog n_trystlaw10_TermMemory #[.slice l0.a l0.len l0.cap] w R :=
  liftCalls (c := (.seq (.leaf (cL (bd Tryd.f9))) (.seq (.seq (.leaf (cL (cL (cR (bd Tryd.f9))))) (.cnd (.tmp 16) (.seq (.leaf (cL (cT (cR (cL (cR (bd Tryd.f9))))))) (.leaf (cR (cT (cR (cL (cR (bd Tryd.f9)))))))) (.leaf (cE (cR (cL (cR (bd Tryd.f9)))))))) (.seq (.leaf (cL (cR (cR (bd Tryd.f9))))) (.seq (.seq (.leaf (cL (cL (cR (cR (cR (bd Tryd.f9))))))) (.cnd (.tmp 24) (.seq (.leaf (cL (cT (cR (cL (cR (cR (cR (bd Tryd.f9))))))))) (.leaf (cR (cT (cR (cL (cR (cR (cR (bd Tryd.f9)))))))))) (.leaf (cE (cR (cL (cR (cR (cR (bd Tryd.f9)))))))))) (.seq (.seq (.leaf (cL (cL (cR (cR (cR (cR (bd Tryd.f9)))))))) (.block 0 (.loop 4 (.seq (.seq (.leaf (cL (cL (cB (cB (cR (cL (cR (cR (cR (cR (bd Tryd.f9)))))))))))) (.cnd (.tmp 31) (.leaf (cT (cR (cL (cB (cB (cR (cL (cR (cR (cR (cR (bd Tryd.f9))))))))))))) (.leaf (cE (cR (cL (cB (cB (cR (cL (cR (cR (cR (cR (bd Tryd.f9))))))))))))))) (.seq (.block 1 (.seq (.leaf (cL (cB (cL (cR (cB (cB (cR (cL (cR (cR (cR (cR (bd Tryd.f9)))))))))))))) (.seq (.leaf (cL (cR (cB (cL (cR (cB (cB (cR (cL (cR (cR (cR (cR (bd Tryd.f9))))))))))))))) (.seq (.seq (.leaf (cL (cL (cR (cR (cB (cL (cR (cB (cB (cR (cL (cR (cR (cR (cR (bd Tryd.f9))))))))))))))))) (.cnd (.tmp 57) (.seq (.leaf (cL (cT (cR (cL (cR (cR (cB (cL (cR (cB (cB (cR (cL (cR (cR (cR (cR (bd Tryd.f9))))))))))))))))))) (.leaf (cR (cT (cR (cL (cR (cR (cB (cL (cR (cB (cB (cR (cL (cR (cR (cR (cR (bd Tryd.f9)))))))))))))))))))) (.leaf (cE (cR (cL (cR (cR (cB (cL (cR (cB (cB (cR (cL (cR (cR (cR (cR (bd Tryd.f9)))))))))))))))))))) (.cut 5 (.seq (.leaf (cL (cR (cR (cR (cB (cL (cR (cB (cB (cR (cL (cR (cR (cR (cR (bd Tryd.f9))))))))))))))))) (.seq (.leaf (cL (cR (cR (cR (cR (cB (cL (cR (cB (cB (cR (cL (cR (cR (cR (cR (bd Tryd.f9)))))))))))))))))) (.seq (.leaf (cL (cR (cR (cR (cR (cR (cB (cL (cR (cB (cB (cR (cL (cR (cR (cR (cR (bd Tryd.f9))))))))))))))))))) (.cnd (.tmp 73) (.seq (.leaf (cL (cT (cR (cR (cR (cR (cR (cR (cB (cL (cR (cB (cB (cR (cL (cR (cR (cR (cR (bd Tryd.f9))))))))))))))))))))) (.leaf (cR (cT (cR (cR (cR (cR (cR (cR (cB (cL (cR (cB (cB (cR (cL (cR (cR (cR (cR (bd Tryd.f9)))))))))))))))))))))) (.leaf (cE (cR (cR (cR (cR (cR (cR (cB (cL (cR (cB (cB (cR (cL (cR (cR (cR (cR (bd Tryd.f9))))))))))))))))))))))))))))) (.leaf (cR (cR (cB (cB (cR (cL (cR (cR (cR (cR (bd Tryd.f9))))))))))))))))) (.cut 3 (.seq (.seq (.leaf (cL (cL (cR (cR (cR (cR (cR (bd Tryd.f9))))))))) (.block 2 (.loop 2 (.seq (.seq (.leaf (cL (cL (cB (cB (cR (cL (cR (cR (cR (cR (cR (bd Tryd.f9))))))))))))) (.cnd (.tmp 80) (.leaf (cT (cR (cL (cB (cB (cR (cL (cR (cR (cR (cR (cR (bd Tryd.f9)))))))))))))) (.leaf (cE (cR (cL (cB (cB (cR (cL (cR (cR (cR (cR (cR (bd Tryd.f9)))))))))))))))) (.seq (.block 3 (.seq (.leaf (cL (cB (cL (cR (cB (cB (cR (cL (cR (cR (cR (cR (cR (bd Tryd.f9))))))))))))))) (.seq (.leaf (cL (cR (cB (cL (cR (cB (cB (cR (cL (cR (cR (cR (cR (cR (bd Tryd.f9)))))))))))))))) (.cnd (.tmp 102) (.seq (.leaf (cL (cT (cR (cR (cB (cL (cR (cB (cB (cR (cL (cR (cR (cR (cR (cR (bd Tryd.f9)))))))))))))))))) (.leaf (cR (cT (cR (cR (cB (cL (cR (cB (cB (cR (cL (cR (cR (cR (cR (cR (bd Tryd.f9))))))))))))))))))) (.leaf (cE (cR (cR (cB (cL (cR (cB (cB (cR (cL (cR (cR (cR (cR (cR (bd Tryd.f9))))))))))))))))))))) (.leaf (cR (cR (cB (cB (cR (cL (cR (cR (cR (cR (cR (bd Tryd.f9)))))))))))))))))) (.cut 1 (.seq (.leaf (cL (cR (cR (cR (cR (cR (cR (bd Tryd.f9))))))))) (.leaf (cR (cR (cR (cR (cR (cR (cR (bd Tryd.f9))))))))))))))))))) (J := trystlaw10_TermMemory.J0 R) LfYtpihglmgkfecbaaDoor.mixed Tryd.func9 (by kernel_rfl) (by kernel_rfl) (mkSeq (mkSeq (mkSeq (mkSeq (mkSeq (mkCut (cutDef [(3, .ptr), (4, .ptr)] (fun x w => trystlaw10_TermMemory.c3 R x.1 x.2 w) (fun _ _ => by kernel_rfl) (fun _ _ => by kernel_rfl)) (mkSeq (mkCut (cutDef [] (fun x w => trystlaw10_TermMemory.c1 R w) (fun _ _ => by kernel_rfl) (fun _ _ => by kernel_rfl)) (mkSeq mkLeaf mkLeaf)) (mkSeq (mkBlock (mkLoop (loopDef LfYtpihglmgkfecbaaDoor.mixed [(3, .ptr), (4, .ptr), (12, (.int .i64))] (by kernel_rfl) (fun M2 x w => trystlaw10_TermMemory.b2 R (fun y0 y1 y2 w => M2 (y0, y1, y2) w) x.1 x.2.1 x.2.2 w) (fun M2 => fun _ _ _ => False) (fun _ _ _ => by kernel_rfl) (fun M2 => (mkSeq (mkSeq mkLeaf (mkBlock (mkSeq (mkSeq (mkCnd (mkSeq mkLeaf mkLeaf) mkLeaf) mkLeaf) mkLeaf))) (mkSeq (mkCnd mkLeaf mkLeaf) mkLeaf))) (fun x w => trystlaw10_TermMemory.l2 R x.1 x.2.1 x.2.2 w) (by rintro ⟨c0, c1, s0⟩ w ⟨I, μ, h0, h1⟩; refine ⟨fun y w => y.1 = c0 ∧ y.2.1 = c1 ∧ I y.2.2 w, fun y w => μ y.2.2 w, ⟨rfl, rfl, h0⟩, ?_⟩; rintro ⟨d0, d1, t0⟩ w ⟨e0, e1, hI⟩; dsimp only at e0 e1 hI; subst e0; subst e1; exact h1 _ _ hI) (fun _ _ => by kernel_rfl)))) mkLeaf))) (mkSeq (mkBlock (mkLoop (loopDef LfYtpihglmgkfecbaaDoor.mixed [(3, .ptr), (4, .ptr), (6, (.int .i64))] (by kernel_rfl) (fun M4 x w => trystlaw10_TermMemory.b4 R (fun y0 y1 y2 w => M4 (y0, y1, y2) w) x.1 x.2.1 x.2.2 w) (fun M4 => trystlaw10_TermMemory.J4 R (fun y0 y1 y2 w => M4 (y0, y1, y2) w)) (fun _ _ _ => by kernel_rfl) (fun M4 => (mkSeq (mkSeq mkLeaf (mkBlock (mkSeq (mkSeq (mkSeq (mkCut (cutDef [(3, .ptr), (4, .ptr), (6, (.int .i64)), (7, .slice), (9, .slice)] (fun x w => trystlaw10_TermMemory.c5 R (fun y0 y1 y2 w => M4 (y0, y1, y2) w) x.1 x.2.1 x.2.2.1 x.2.2.2.1 x.2.2.2.2 w) (fun _ _ => by kernel_rfl) (fun _ _ => by kernel_rfl)) (mkSeq (mkSeq (mkSeq (mkCnd (mkSeq mkLeaf mkLeaf) mkLeaf) mkLeaf) mkLeaf) mkLeaf)) (mkSeq (mkCnd (mkSeq mkLeaf mkLeaf) mkLeaf) mkLeaf)) mkLeaf) mkLeaf))) (mkSeq (mkCnd mkLeaf mkLeaf) mkLeaf))) (fun x w => trystlaw10_TermMemory.l4 R x.1 x.2.1 x.2.2 w) (by rintro ⟨c0, c1, s0⟩ w ⟨I, μ, h0, h1⟩; refine ⟨fun y w => y.1 = c0 ∧ y.2.1 = c1 ∧ I y.2.2 w, fun y w => μ y.2.2 w, ⟨rfl, rfl, h0⟩, ?_⟩; rintro ⟨d0, d1, t0⟩ w ⟨e0, e1, hI⟩; dsimp only at e0 e1 hI; subst e0; subst e1; exact h1 _ _ hI) (fun _ _ => by kernel_rfl)))) mkLeaf)) (mkSeq (mkCnd (mkSeq mkLeaf mkLeaf) mkLeaf) mkLeaf)) mkLeaf) (mkSeq (mkCnd (mkSeq mkLeaf mkLeaf) mkLeaf) mkLeaf)) mkLeaf) (kcast (by kernel_rfl) h)

/-! trystlaw10_TermOpens -/
def trystlaw10_TermOpens.c1 (R : Value → World → Prop) (i1 : Int) (a9 : Option Addr) (b10 : Option Addr) (w : World) : Prop :=
  CallsV Tryd.prog n_term_Arena_Node #[.pointer a9, .int .i64 i1] w (fun v_1 w1 =>
  ∃ x_2 : Int, ∃ x_3 : Int, ∃ (a_4 : Option Addr) (l_5 c_6 : Nat), ∃ x_7 : Int, v_1 = .tuple #[.agg #[.int .i64 x_2, .int .i64 x_3, .slice a_4 l_5 c_6], .int .i64 x_7] ∧
  let w2 := w1.alloc (.cells #[.int .i64 0, .int .i64 0, .slice none 0 0] 43);
  (∀ j, j < 3 → Wr w2 ((newA w1).add j)) ∧
  (let w3 := setCells (newA w1) [.int .i64 x_2, .int .i64 x_3, .slice a_4 l_5 c_6] 0 w2;
  ∃ S_8 : World → Prop, S_8 w3.drew ∧
  cond ((x_7 : Int) == 0)
  (∃ x_9 : Int, (∀ x, S_8 x → x.cell? (newA w1) = some (.int .i64 x_9)) ∧
  ∃ x_10 : Int, (∀ x, S_8 x → x.cell? ((newA w1).add 1) = some (.int .i64 x_10)) ∧
  ∃ (a_11 : Option Addr) (l_12 c_13 : Nat), (∀ x, S_8 x → x.cell? ((newA w1).add 2) = some (.slice a_11 l_12 c_13)) ∧
  ∃ q_14 : Addr, b10 = some q_14 ∧
  ∃ (a_15 : Option Addr) (l_16 c_17 : Nat), (∀ x, S_8 x → x.cell? q_14 = some (.slice a_15 l_16 c_17)) ∧
  0 ≤ (i1 : Int) ∧ i1 < ((l_16 : Nat) : Int) ∧ ∃ q_18 : Addr, a_15 = some q_18 ∧
  ∃ x_19 : Int, (∀ x, S_8 x → x.cell? (q_18.add ((i1 : Int).toNat * 3)) = some (.int .i64 x_19)) ∧
  ∃ x_20 : Int, (∀ x, S_8 x → x.cell? ((q_18.add ((i1 : Int).toNat * 3)).add 1) = some (.int .i64 x_20)) ∧
  ∃ (a_21 : Option Addr) (l_22 c_23 : Nat), (∀ x, S_8 x → x.cell? ((q_18.add ((i1 : Int).toNat * 3)).add 2) = some (.slice a_21 l_22 c_23)) ∧
  CallsV Tryd.prog n_trystkeep_Term #[.agg #[.int .i64 x_9, .int .i64 x_10, .slice a_11 l_12 c_13], .agg #[.int .i64 x_19, .int .i64 x_20, .slice a_21 l_22 c_23]] w3.drew (fun v_24 w4 =>
  ∃ b_25 : Bool, v_24 = .bool b_25 ∧
  cond b_25
  (CallsV Tryd.prog n_trystlaw10_wakes #[] w4 (fun v_26 w5 =>
  ∃ b_27 : Bool, v_26 = .bool b_27 ∧
  R (.bool b_27) w5))
  (R (.bool false) w4)))
  (R (.bool false) w3.drew)))

def trystlaw10_TermOpens.c2 (R : Value → World → Prop) (i1 : Int) (a9 : Option Addr) (b10 : Option Addr) (x13 : Sl) (w : World) : Prop :=
  CallsV Tryd.prog n_trystkeep_SpoilInts #[.slice x13.a x13.len x13.cap] w (fun v_28 w6 =>
  v_28 = .tuple #[] ∧
  CallsV Tryd.prog n_term_Arena_Beneath #[.pointer a9, .int .i64 i1] w6 (fun v_29 w7 =>
  ∃ (a_30 : Option Addr) (l_31 c_32 : Nat), ∃ x_33 : Int, v_29 = .tuple #[.slice a_30 l_31 c_32, .int .i64 x_33] ∧
  let w8 := w7.alloc (.cells #[.int .i64 i1] 3);
  CallsV Tryd.prog n_trystref10_Arena_Has #[.pointer b10, .slice (some (newA w7)) 1 1] w8 (fun v_34 w9 =>
  ∃ b_35 : Bool, v_34 = .bool b_35 ∧
  cond (!b_35)
  (cond ((x_33 : Int) == 8)
  (cond ((((l_31 : Nat) : Int) : Int) == 0)
  (CallsV Tryd.prog n_trystlaw10_wakes #[] w9 (fun v_36 w10 =>
  ∃ b_37 : Bool, v_36 = .bool b_37 ∧
  R (.bool b_37) w10))
  (R (.bool false) w9))
  (R (.bool false) w9))
  (cond ((x_33 : Int) != 0)
  (R (.bool false) w9)
  (CallsV Tryd.prog n_trystref10_Arena_Beneath #[.pointer b10, .int .i64 i1] w9 (fun v_38 w11 =>
  ∃ (a_39 : Option Addr) (l_40 c_41 : Nat), v_38 = .slice a_39 l_40 c_41 ∧
  CallsV Tryd.prog n_trystkeep_Ints #[.slice a_30 l_31 c_32, .slice a_39 l_40 c_41] w11 (fun v_42 w12 =>
  ∃ b_43 : Bool, v_42 = .bool b_43 ∧
  cond (!b_43)
  (R (.bool false) w12)
  (trystlaw10_TermOpens.c1 R i1 a9 b10 w12))))))))

def trystlaw10_TermOpens.c3 (R : Value → World → Prop) (i1 : Int) (k2 : Int) (a9 : Option Addr) (b10 : Option Addr) (x13 : Sl) (w : World) : Prop :=
  CallsV Tryd.prog n_trystkeep_SpoilInts #[.slice x13.a x13.len x13.cap] w (fun v_44 w13 =>
  v_44 = .tuple #[] ∧
  CallsV Tryd.prog n_term_Arena_Signed #[.pointer a9, .int .i64 i1, .int .i64 k2] w13 (fun v_45 w14 =>
  ∃ (a_46 : Option Addr) (l_47 c_48 : Nat), ∃ x_49 : Int, v_45 = .tuple #[.slice a_46 l_47 c_48, .int .i64 x_49] ∧
  CallsV Tryd.prog n_trystref10_Arena_Signed #[.pointer b10, .int .i64 i1, .int .i64 k2] w14 (fun v_50 w15 =>
  ∃ (a_51 : Option Addr) (l_52 c_53 : Nat), ∃ x_54 : Int, v_50 = .tuple #[.slice a_51 l_52 c_53, .int .i64 x_54] ∧
  CallsV Tryd.prog n_trystkeep_Ints #[.slice a_46 l_47 c_48, .slice a_51 l_52 c_53] w15 (fun v_55 w16 =>
  ∃ b_56 : Bool, v_55 = .bool b_56 ∧
  cond (!b_56)
  (R (.bool false) w16)
  (cond ((x_49 : Int) != x_54)
  (R (.bool false) w16)
  (trystlaw10_TermOpens.c2 R i1 a9 b10 ⟨a_46, l_47, c_48⟩ w16))))))

def trystlaw10_TermOpens.c4 (R : Value → World → Prop) (i1 : Int) (k2 : Int) (a9 : Option Addr) (b10 : Option Addr) (x13 : Sl) (w : World) : Prop :=
  CallsV Tryd.prog n_trystkeep_SpoilInts #[.slice x13.a x13.len x13.cap] w (fun v_57 w17 =>
  v_57 = .tuple #[] ∧
  CallsV Tryd.prog n_term_Arena_Unbox #[.pointer a9, .int .i64 i1, .int .i64 k2] w17 (fun v_58 w18 =>
  ∃ (a_59 : Option Addr) (l_60 c_61 : Nat), ∃ x_62 : Int, v_58 = .tuple #[.slice a_59 l_60 c_61, .int .i64 x_62] ∧
  CallsV Tryd.prog n_trystref10_Arena_Unbox #[.pointer b10, .int .i64 i1, .int .i64 k2] w18 (fun v_63 w19 =>
  ∃ (a_64 : Option Addr) (l_65 c_66 : Nat), ∃ x_67 : Int, v_63 = .tuple #[.slice a_64 l_65 c_66, .int .i64 x_67] ∧
  CallsV Tryd.prog n_trystkeep_Ints #[.slice a_59 l_60 c_61, .slice a_64 l_65 c_66] w19 (fun v_68 w20 =>
  ∃ b_69 : Bool, v_68 = .bool b_69 ∧
  cond (!b_69)
  (R (.bool false) w20)
  (cond ((x_62 : Int) != x_67)
  (R (.bool false) w20)
  (trystlaw10_TermOpens.c3 R i1 k2 a9 b10 ⟨a_59, l_60, c_61⟩ w20))))))

def trystlaw10_TermOpens.c5 (R : Value → World → Prop) (i1 : Int) (k2 : Int) (a9 : Option Addr) (b10 : Option Addr) (w : World) : Prop :=
  CallsV Tryd.prog n_term_Arena_Open #[.pointer a9, .int .i64 i1, .int .i64 k2] w (fun v_70 w21 =>
  ∃ (a_71 : Option Addr) (l_72 c_73 : Nat), ∃ x_74 : Int, v_70 = .tuple #[.slice a_71 l_72 c_73, .int .i64 x_74] ∧
  CallsV Tryd.prog n_trystref10_Arena_Open #[.pointer b10, .int .i64 i1, .int .i64 k2] w21 (fun v_75 w22 =>
  ∃ (a_76 : Option Addr) (l_77 c_78 : Nat), ∃ x_79 : Int, v_75 = .tuple #[.slice a_76 l_77 c_78, .int .i64 x_79] ∧
  CallsV Tryd.prog n_trystkeep_Ints #[.slice a_71 l_72 c_73, .slice a_76 l_77 c_78] w22 (fun v_80 w23 =>
  ∃ b_81 : Bool, v_80 = .bool b_81 ∧
  cond (!b_81)
  (R (.bool false) w23)
  (cond ((x_74 : Int) != x_79)
  (R (.bool false) w23)
  (trystlaw10_TermOpens.c4 R i1 k2 a9 b10 ⟨a_71, l_72, c_73⟩ w23)))))

def trystlaw10_TermOpens.main (R : Value → World → Prop) (l0 : Sl) (i1 : Int) (k2 : Int) (raw3 : Bool) (w : World) : Prop :=
  CallsV Tryd.prog n_trystlaw10_Heavy #[.slice l0.a l0.len l0.cap] w (fun v_82 w24 =>
  ∃ b_83 : Bool, v_82 = .bool b_83 ∧
  cond b_83
  (R (.bool true) w24)
  (CallsV Tryd.prog n_trystlaw10_Build #[.slice l0.a l0.len l0.cap] w24 (fun v_84 w25 =>
  ∃ p_85 : Option Addr, ∃ p_86 : Option Addr, ∃ b_87 : Bool, v_84 = .tuple #[.pointer p_85, .pointer p_86, .bool b_87] ∧
  cond (!b_87)
  (R (.bool false) w25)
  (cond (!raw3)
  (let w26 := w25.alloc (.cells #[.int .i64 i1, .int .i64 k2] 3);
  ∃ q_88 : Addr, p_86 = some q_88 ∧
  ∃ (a_89 : Option Addr) (l_90 c_91 : Nat), w26.cell? q_88 = some (.slice a_89 l_90 c_91) ∧
  CallsV Tryd.prog n_trystlaw10_Some #[.slice (some (newA w25)) 2 2, .int .i64 ((l_90 : Nat) : Int)] w26 (fun v_92 w27 =>
  ∃ (a_93 : Option Addr) (l_94 c_95 : Nat), v_92 = .slice a_93 l_94 c_95 ∧
  0 ≤ (0 : Int) ∧ 0 < ((l_94 : Nat) : Int) ∧ ∃ q_96 : Addr, a_93 = some q_96 ∧
  ∃ x_97 : Int, w27.cell? (q_96.add (0 : Int).toNat) = some (.int .i64 x_97) ∧
  0 ≤ (1 : Int) ∧ 1 < ((l_94 : Nat) : Int) ∧ ∃ q_98 : Addr, a_93 = some q_98 ∧
  ∃ x_99 : Int, w27.cell? (q_98.add (1 : Int).toNat) = some (.int .i64 x_99) ∧
  trystlaw10_TermOpens.c5 R x_97 x_99 p_85 p_86 w27.drew))
  (trystlaw10_TermOpens.c5 R i1 k2 p_85 p_86 w25)))))

def trystlaw10_TermOpens.J0 (R : Value → World → Prop) (k : Nat) (fr : Fr) (w : World) : Prop :=
  cond (Nat.beq k 5) (dec [(1, (.int .i64)), (2, (.int .i64)), (9, .ptr), (10, .ptr)] fr fun x => trystlaw10_TermOpens.c5 R x.1 x.2.1 x.2.2.1 x.2.2.2 w) (cond (Nat.beq k 4) (dec [(1, (.int .i64)), (2, (.int .i64)), (9, .ptr), (10, .ptr), (13, .slice)] fr fun x => trystlaw10_TermOpens.c4 R x.1 x.2.1 x.2.2.1 x.2.2.2.1 x.2.2.2.2 w) (cond (Nat.beq k 3) (dec [(1, (.int .i64)), (2, (.int .i64)), (9, .ptr), (10, .ptr), (13, .slice)] fr fun x => trystlaw10_TermOpens.c3 R x.1 x.2.1 x.2.2.1 x.2.2.2.1 x.2.2.2.2 w) (cond (Nat.beq k 2) (dec [(1, (.int .i64)), (9, .ptr), (10, .ptr), (13, .slice)] fr fun x => trystlaw10_TermOpens.c2 R x.1 x.2.1 x.2.2.1 x.2.2.2 w) (cond (Nat.beq k 1) (dec [(1, (.int .i64)), (9, .ptr), (10, .ptr)] fr fun x => trystlaw10_TermOpens.c1 R x.1 x.2.1 x.2.2 w) (False)))))

set_option maxRecDepth 100000 in
theorem trystlaw10_TermOpens.lift {R : Value → World → Prop} {l0 : Sl} {i1 : Int} {k2 : Int} {raw3 : Bool} {w : World} (h : trystlaw10_TermOpens.main R l0 i1 k2 raw3 w) : CallsV Tryd.prog n_trystlaw10_TermOpens #[.slice l0.a l0.len l0.cap, .int .i64 i1, .int .i64 k2, .bool raw3] w R :=
  liftCalls (c := (.seq (.leaf (cL (bd Tryd.f10))) (.seq (.seq (.leaf (cL (cL (cR (bd Tryd.f10))))) (.cnd (.tmp 19) (.seq (.leaf (cL (cT (cR (cL (cR (bd Tryd.f10))))))) (.leaf (cR (cT (cR (cL (cR (bd Tryd.f10)))))))) (.leaf (cE (cR (cL (cR (bd Tryd.f10)))))))) (.seq (.leaf (cL (cR (cR (bd Tryd.f10))))) (.seq (.seq (.leaf (cL (cL (cR (cR (cR (bd Tryd.f10))))))) (.cnd (.tmp 27) (.seq (.leaf (cL (cT (cR (cL (cR (cR (cR (bd Tryd.f10))))))))) (.leaf (cR (cT (cR (cL (cR (cR (cR (bd Tryd.f10)))))))))) (.leaf (cE (cR (cL (cR (cR (cR (bd Tryd.f10)))))))))) (.seq (.seq (.leaf (cL (cL (cR (cR (cR (cR (bd Tryd.f10)))))))) (.cnd (.tmp 29) (.seq (.leaf (cL (cT (cR (cL (cR (cR (cR (cR (bd Tryd.f10)))))))))) (.leaf (cR (cT (cR (cL (cR (cR (cR (cR (bd Tryd.f10))))))))))) (.leaf (cE (cR (cL (cR (cR (cR (cR (bd Tryd.f10))))))))))) (.cut 5 (.seq (.leaf (cL (cR (cR (cR (cR (cR (bd Tryd.f10)))))))) (.seq (.leaf (cL (cR (cR (cR (cR (cR (cR (bd Tryd.f10))))))))) (.seq (.seq (.leaf (cL (cL (cR (cR (cR (cR (cR (cR (cR (bd Tryd.f10))))))))))) (.cnd (.tmp 67) (.seq (.leaf (cL (cT (cR (cL (cR (cR (cR (cR (cR (cR (cR (bd Tryd.f10))))))))))))) (.leaf (cR (cT (cR (cL (cR (cR (cR (cR (cR (cR (cR (bd Tryd.f10)))))))))))))) (.leaf (cE (cR (cL (cR (cR (cR (cR (cR (cR (cR (bd Tryd.f10)))))))))))))) (.cut 4 (.seq (.leaf (cL (cR (cR (cR (cR (cR (cR (cR (cR (bd Tryd.f10))))))))))) (.seq (.leaf (cL (cR (cR (cR (cR (cR (cR (cR (cR (cR (bd Tryd.f10)))))))))))) (.seq (.leaf (cL (cR (cR (cR (cR (cR (cR (cR (cR (cR (cR (bd Tryd.f10))))))))))))) (.seq (.seq (.leaf (cL (cL (cR (cR (cR (cR (cR (cR (cR (cR (cR (cR (cR (bd Tryd.f10))))))))))))))) (.cnd (.tmp 92) (.seq (.leaf (cL (cT (cR (cL (cR (cR (cR (cR (cR (cR (cR (cR (cR (cR (cR (bd Tryd.f10))))))))))))))))) (.leaf (cR (cT (cR (cL (cR (cR (cR (cR (cR (cR (cR (cR (cR (cR (cR (bd Tryd.f10)))))))))))))))))) (.leaf (cE (cR (cL (cR (cR (cR (cR (cR (cR (cR (cR (cR (cR (cR (bd Tryd.f10)))))))))))))))))) (.cut 3 (.seq (.leaf (cL (cR (cR (cR (cR (cR (cR (cR (cR (cR (cR (cR (cR (bd Tryd.f10))))))))))))))) (.seq (.leaf (cL (cR (cR (cR (cR (cR (cR (cR (cR (cR (cR (cR (cR (cR (bd Tryd.f10)))))))))))))))) (.seq (.leaf (cL (cR (cR (cR (cR (cR (cR (cR (cR (cR (cR (cR (cR (cR (cR (bd Tryd.f10))))))))))))))))) (.seq (.seq (.leaf (cL (cL (cR (cR (cR (cR (cR (cR (cR (cR (cR (cR (cR (cR (cR (cR (cR (bd Tryd.f10))))))))))))))))))) (.cnd (.tmp 117) (.seq (.leaf (cL (cT (cR (cL (cR (cR (cR (cR (cR (cR (cR (cR (cR (cR (cR (cR (cR (cR (cR (bd Tryd.f10))))))))))))))))))))) (.leaf (cR (cT (cR (cL (cR (cR (cR (cR (cR (cR (cR (cR (cR (cR (cR (cR (cR (cR (cR (bd Tryd.f10)))))))))))))))))))))) (.leaf (cE (cR (cL (cR (cR (cR (cR (cR (cR (cR (cR (cR (cR (cR (cR (cR (cR (cR (bd Tryd.f10)))))))))))))))))))))) (.cut 2 (.seq (.leaf (cL (cR (cR (cR (cR (cR (cR (cR (cR (cR (cR (cR (cR (cR (cR (cR (cR (bd Tryd.f10))))))))))))))))))) (.seq (.leaf (cL (cR (cR (cR (cR (cR (cR (cR (cR (cR (cR (cR (cR (cR (cR (cR (cR (cR (bd Tryd.f10)))))))))))))))))))) (.seq (.seq (.leaf (cL (cL (cR (cR (cR (cR (cR (cR (cR (cR (cR (cR (cR (cR (cR (cR (cR (cR (cR (cR (bd Tryd.f10)))))))))))))))))))))) (.cnd (.tmp 130) (.seq (.leaf (cL (cT (cR (cL (cR (cR (cR (cR (cR (cR (cR (cR (cR (cR (cR (cR (cR (cR (cR (cR (cR (cR (bd Tryd.f10)))))))))))))))))))))))) (.leaf (cR (cT (cR (cL (cR (cR (cR (cR (cR (cR (cR (cR (cR (cR (cR (cR (cR (cR (cR (cR (cR (cR (bd Tryd.f10))))))))))))))))))))))))) (.leaf (cE (cR (cL (cR (cR (cR (cR (cR (cR (cR (cR (cR (cR (cR (cR (cR (cR (cR (cR (cR (cR (bd Tryd.f10))))))))))))))))))))))))) (.seq (.seq (.leaf (cL (cL (cR (cR (cR (cR (cR (cR (cR (cR (cR (cR (cR (cR (cR (cR (cR (cR (cR (cR (cR (bd Tryd.f10))))))))))))))))))))))) (.cnd (.tmp 150) (.seq (.leaf (cL (cT (cR (cL (cR (cR (cR (cR (cR (cR (cR (cR (cR (cR (cR (cR (cR (cR (cR (cR (cR (cR (cR (bd Tryd.f10))))))))))))))))))))))))) (.leaf (cR (cT (cR (cL (cR (cR (cR (cR (cR (cR (cR (cR (cR (cR (cR (cR (cR (cR (cR (cR (cR (cR (cR (bd Tryd.f10)))))))))))))))))))))))))) (.leaf (cE (cR (cL (cR (cR (cR (cR (cR (cR (cR (cR (cR (cR (cR (cR (cR (cR (cR (cR (cR (cR (cR (bd Tryd.f10)))))))))))))))))))))))))) (.cut 1 (.seq (.leaf (cL (cR (cR (cR (cR (cR (cR (cR (cR (cR (cR (cR (cR (cR (cR (cR (cR (cR (cR (cR (cR (bd Tryd.f10))))))))))))))))))))))) (.seq (.leaf (cL (cR (cR (cR (cR (cR (cR (cR (cR (cR (cR (cR (cR (cR (cR (cR (cR (cR (cR (cR (cR (cR (bd Tryd.f10)))))))))))))))))))))))) (.leaf (cR (cR (cR (cR (cR (cR (cR (cR (cR (cR (cR (cR (cR (cR (cR (cR (cR (cR (cR (cR (cR (cR (bd Tryd.f10)))))))))))))))))))))))))))))))))))))))))))))))))))) (J := trystlaw10_TermOpens.J0 R) LfYtpihglmgkfecbaaDoor.mixed Tryd.func10 (by kernel_rfl) (by kernel_rfl) (mkSeq (mkSeq (mkSeq (mkSeq (mkSeq (mkCut (cutDef [(1, (.int .i64)), (2, (.int .i64)), (9, .ptr), (10, .ptr)] (fun x w => trystlaw10_TermOpens.c5 R x.1 x.2.1 x.2.2.1 x.2.2.2 w) (fun _ _ => by kernel_rfl) (fun _ _ => by kernel_rfl)) (mkSeq (mkSeq (mkSeq (mkCut (cutDef [(1, (.int .i64)), (2, (.int .i64)), (9, .ptr), (10, .ptr), (13, .slice)] (fun x w => trystlaw10_TermOpens.c4 R x.1 x.2.1 x.2.2.1 x.2.2.2.1 x.2.2.2.2 w) (fun _ _ => by kernel_rfl) (fun _ _ => by kernel_rfl)) (mkSeq (mkSeq (mkSeq (mkSeq (mkCut (cutDef [(1, (.int .i64)), (2, (.int .i64)), (9, .ptr), (10, .ptr), (13, .slice)] (fun x w => trystlaw10_TermOpens.c3 R x.1 x.2.1 x.2.2.1 x.2.2.2.1 x.2.2.2.2 w) (fun _ _ => by kernel_rfl) (fun _ _ => by kernel_rfl)) (mkSeq (mkSeq (mkSeq (mkSeq (mkCut (cutDef [(1, (.int .i64)), (9, .ptr), (10, .ptr), (13, .slice)] (fun x w => trystlaw10_TermOpens.c2 R x.1 x.2.1 x.2.2.1 x.2.2.2 w) (fun _ _ => by kernel_rfl) (fun _ _ => by kernel_rfl)) (mkSeq (mkSeq (mkSeq (mkSeq (mkCut (cutDef [(1, (.int .i64)), (9, .ptr), (10, .ptr)] (fun x w => trystlaw10_TermOpens.c1 R x.1 x.2.1 x.2.2 w) (fun _ _ => by kernel_rfl) (fun _ _ => by kernel_rfl)) (mkSeq (mkSeq mkLeaf mkLeaf) mkLeaf)) (mkSeq (mkCnd (mkSeq mkLeaf mkLeaf) mkLeaf) mkLeaf)) (mkSeq (mkCnd (mkSeq mkLeaf mkLeaf) mkLeaf) mkLeaf)) mkLeaf) mkLeaf)) (mkSeq (mkCnd (mkSeq mkLeaf mkLeaf) mkLeaf) mkLeaf)) mkLeaf) mkLeaf) mkLeaf)) (mkSeq (mkCnd (mkSeq mkLeaf mkLeaf) mkLeaf) mkLeaf)) mkLeaf) mkLeaf) mkLeaf)) (mkSeq (mkCnd (mkSeq mkLeaf mkLeaf) mkLeaf) mkLeaf)) mkLeaf) mkLeaf)) (mkSeq (mkCnd (mkSeq mkLeaf mkLeaf) mkLeaf) mkLeaf)) (mkSeq (mkCnd (mkSeq mkLeaf mkLeaf) mkLeaf) mkLeaf)) mkLeaf) (mkSeq (mkCnd (mkSeq mkLeaf mkLeaf) mkLeaf) mkLeaf)) mkLeaf) (kcast (by kernel_rfl) h)

/-! trystlaw10_Heavy -/
def trystlaw10_Heavy.c2 (R : Value → World → Prop) (N1 : Sl → Int → World → Prop) (l0 : Sl) (i3 : Int) (w : World) : Prop :=
  0 ≤ (i3 : Int) ∧ i3 < ((l0.len : Nat) : Int) ∧ ∃ q_1 : Addr, l0.a = some q_1 ∧
  ∃ (a_2 : Option Addr) (l_3 c_4 : Nat), w.cell? ((q_1.add ((i3 : Int).toNat * 4)).add 2) = some (.slice a_2 l_3 c_4) ∧
  cond (decide ((((l_3 : Nat) : Int) : Int) > 420))
  (R (.bool true) w)
  ((let i3_4 : Int := (IntKind.i64.wrap (i3 + 1));
  N1 l0 i3_4 w))

def trystlaw10_Heavy.b1 (R : Value → World → Prop) (N1 : Sl → Int → World → Prop) (l0 : Sl) (i3 : Int) (w : World) : Prop :=
  cond (decide ((i3 : Int) < ((l0.len : Nat) : Int)))
  (cond (decide ((i3 : Int) < 150))
  (trystlaw10_Heavy.c2 R N1 l0 i3 w)
  (R (.bool false) w))
  (R (.bool false) w)

def trystlaw10_Heavy.l1 (R : Value → World → Prop) (l0 : Sl) (i3 : Int) (w : World) : Prop :=
  ∃ (I : Int → World → Prop) (μ : Int → World → Nat), I i3 w ∧ ∀ s w, I s w → trystlaw10_Heavy.b1 R (fun l0' i3' w' => (l0' = l0 ∧ I i3' w') ∧ μ i3' w' < μ s w) l0 s w

def trystlaw10_Heavy.main (R : Value → World → Prop) (l0 : Sl) (w : World) : Prop :=
  cond (decide ((((l0.len : Nat) : Int) : Int) > 600))
  (R (.bool true) w)
  (trystlaw10_Heavy.l1 R l0 0 w)

def trystlaw10_Heavy.J1 (R : Value → World → Prop) (N1 : Sl → Int → World → Prop) (k : Nat) (fr : Fr) (w : World) : Prop :=
  cond (Nat.beq k 2) (dec [(0, .slice), (3, (.int .i64))] fr fun x => trystlaw10_Heavy.c2 R N1 x.1 x.2 w) (False)

def trystlaw10_Heavy.J0 (R : Value → World → Prop) (k : Nat) (fr : Fr) (w : World) : Prop :=
  cond (Nat.beq k 1) (dec [(0, .slice), (3, (.int .i64))] fr fun x => trystlaw10_Heavy.l1 R x.1 x.2 w) (False)

set_option maxRecDepth 100000 in
theorem trystlaw10_Heavy.lift {R : Value → World → Prop} {l0 : Sl} {w : World} (h : trystlaw10_Heavy.main R l0 w) : CallsV Tryd.prog n_trystlaw10_Heavy #[.slice l0.a l0.len l0.cap] w R :=
  liftCalls (c := (.seq (.leaf (cL (bd Tryd.f14))) (.seq (.seq (.leaf (cL (cL (cR (bd Tryd.f14))))) (.cnd (.tmp 6) (.seq (.leaf (cL (cT (cR (cL (cR (bd Tryd.f14))))))) (.leaf (cR (cT (cR (cL (cR (bd Tryd.f14)))))))) (.leaf (cE (cR (cL (cR (bd Tryd.f14)))))))) (.seq (.seq (.leaf (cL (cL (cR (cR (bd Tryd.f14)))))) (.block 0 (.loop 1 (.seq (.seq (.leaf (cL (cL (cB (cB (cR (cL (cR (cR (bd Tryd.f14)))))))))) (.cnd (.tmp 14) (.leaf (cT (cR (cL (cB (cB (cR (cL (cR (cR (bd Tryd.f14))))))))))) (.leaf (cE (cR (cL (cB (cB (cR (cL (cR (cR (bd Tryd.f14))))))))))))) (.cut 2 (.seq (.block 1 (.seq (.leaf (cL (cB (cL (cR (cB (cB (cR (cL (cR (cR (bd Tryd.f14)))))))))))) (.cnd (.tmp 23) (.seq (.leaf (cL (cT (cR (cB (cL (cR (cB (cB (cR (cL (cR (cR (bd Tryd.f14)))))))))))))) (.leaf (cR (cT (cR (cB (cL (cR (cB (cB (cR (cL (cR (cR (bd Tryd.f14))))))))))))))) (.leaf (cE (cR (cB (cL (cR (cB (cB (cR (cL (cR (cR (bd Tryd.f14)))))))))))))))) (.leaf (cR (cR (cB (cB (cR (cL (cR (cR (bd Tryd.f14)))))))))))))))) (.seq (.leaf (cL (cR (cR (cR (bd Tryd.f14)))))) (.leaf (cR (cR (cR (cR (bd Tryd.f14))))))))))) (J := trystlaw10_Heavy.J0 R) LfYtpihglmgkfecbaaDoor.mixed Tryd.func14 (by kernel_rfl) (by kernel_rfl) (mkSeq (mkSeq (mkSeq (mkSeq mkLeaf mkLeaf) (mkSeq (mkBlock (mkLoop (loopDef LfYtpihglmgkfecbaaDoor.mixed [(0, .slice), (3, (.int .i64))] (by kernel_rfl) (fun M1 x w => trystlaw10_Heavy.b1 R (fun y0 y1 w => M1 (y0, y1) w) x.1 x.2 w) (fun M1 => trystlaw10_Heavy.J1 R (fun y0 y1 w => M1 (y0, y1) w)) (fun _ _ _ => by kernel_rfl) (fun M1 => (mkSeq (mkCut (cutDef [(0, .slice), (3, (.int .i64))] (fun x w => trystlaw10_Heavy.c2 R (fun y0 y1 w => M1 (y0, y1) w) x.1 x.2 w) (fun _ _ => by kernel_rfl) (fun _ _ => by kernel_rfl)) (mkSeq mkLeaf (mkBlock (mkSeq (mkCnd (mkSeq mkLeaf mkLeaf) mkLeaf) mkLeaf)))) (mkSeq (mkCnd mkLeaf mkLeaf) mkLeaf))) (fun x w => trystlaw10_Heavy.l1 R x.1 x.2 w) (by rintro ⟨c0, s0⟩ w ⟨I, μ, h0, h1⟩; refine ⟨fun y w => y.1 = c0 ∧ I y.2 w, fun y w => μ y.2 w, ⟨rfl, h0⟩, ?_⟩; rintro ⟨d0, t0⟩ w ⟨e0, hI⟩; dsimp only at e0 hI; subst e0; exact h1 _ _ hI) (fun _ _ => by kernel_rfl)))) mkLeaf)) (mkSeq (mkCnd (mkSeq mkLeaf mkLeaf) mkLeaf) mkLeaf)) mkLeaf) (kcast (by kernel_rfl) h)

/-! term_New -/
def term_New.main (R : Value → World → Prop)  (w : World) : Prop :=
  let w1 := w.alloc (.map #[] 0);
  let w2 := w1.alloc (.cells #[.slice none 0 0, .map (some w.heap.size)] 68);
  R (.pointer (some (newA w1))) w2

def term_New.J0 (_ : Value → World → Prop) (_ : Nat) (_ : Fr) (_ : World) : Prop := False

set_option maxRecDepth 100000 in
theorem term_New.lift {R : Value → World → Prop}  {w : World} (h : term_New.main R  w) : CallsV Tryd.prog n_term_New #[] w R :=
  liftCalls (c := (.seq (.leaf (cL (bd Tryd.f15))) (.seq (.leaf (cL (cR (bd Tryd.f15)))) (.leaf (cR (cR (bd Tryd.f15))))))) (J := term_New.J0 R) LfYtpihglmgkfecbaaDoor.mixed Tryd.func15 (by kernel_rfl) (by kernel_rfl) (mkSeq (mkSeq mkLeaf mkLeaf) mkLeaf) (kcast (by kernel_rfl) h)

/-! term_Arena_Make -/
def term_Arena_Make.c1 (R : Value → World → Prop) (a0 : Option Addr) (kind1 : Int) (n2 : Int) (args3 : Sl) (w : World) : Prop :=
  CallsV Tryd.prog n_term_key #[.int .i64 kind1, .int .i64 n2, .slice args3.a args3.len args3.cap] w (fun v_1 w1 =>
  ∃ s_2 : ByteArray, v_1 = .string s_2 ∧
  ∃ q_3 : Addr, a0 = some q_3 ∧
  ∃ m_4 : Option Nat, w1.cell? (q_3.add 1) = some (.map m_4) ∧
  ∃ x_5 : Int, ∃ b_6 : Bool, ∃ w2 : World, (do pure (.value (← Instr.lookup 66 (.map m_4) (.string s_2) true)) : Sem Next).run Tryd.prog w1 = .ok (.value (.tuple #[.int .i64 x_5, .bool b_6])) w2 ∧
  cond b_6
  (R (.tuple #[.int .i64 x_5, .int .i64 0]) w2)
  (∃ q_7 : Addr, a0 = some q_7 ∧
  ∃ (a_8 : Option Addr) (l_9 c_10 : Nat), w2.cell? q_7 = some (.slice a_8 l_9 c_10) ∧
  (let t81_10 : Bool := (decide ((((l_9 : Nat) : Int) : Int) ≥ 1048576));
  cond t81_10
  (R (.tuple #[.int .i64 0, .int .i64 7]) w2)
  (∃ S_12 : World → Prop, S_12 w2.drew ∧
  ∃ q_13 : Addr, a0 = some q_13 ∧
  ∃ m_14 : Option Nat, (∀ x, S_12 x → x.cell? (q_13.add 1) = some (.map m_14)) ∧
  ∃ q_15 : Addr, a0 = some q_15 ∧
  ∃ (a_16 : Option Addr) (l_17 c_18 : Nat), (∀ x, S_12 x → x.cell? q_15 = some (.slice a_16 l_17 c_18)) ∧
  ∃ w3 : World, (do Instr.mapUpdate 66 (.map m_14) (.string s_2) (.int .i64 ((l_17 : Nat) : Int)); pure .skip : Sem Next).run Tryd.prog w2.drew = .ok .skip w3 ∧
  ∃ S_19 : World → Prop, S_19 w3.drew ∧
  ∃ q_20 : Addr, a0 = some q_20 ∧
  ∃ (a_21 : Option Addr) (l_22 c_23 : Nat), (∀ x, S_19 x → x.cell? q_20 = some (.slice a_21 l_22 c_23)) ∧
  CallsV Tryd.prog n_slices_Clone_int #[.slice args3.a args3.len args3.cap] w3.drew (fun v_24 w4 =>
  ∃ (a_25 : Option Addr) (l_26 c_27 : Nat), v_24 = .slice a_25 l_26 c_27 ∧
  S_19 w4 ∧
  let w5 := w4.alloc (.cells #[.int .i64 kind1, .int .i64 n2, .slice a_25 l_26 c_27] 43);
  S_19 w5 ∧
  ∃ (a_28 : Option Addr) (l_29 c_30 : Nat), ∃ w6 : World, (builtin .append #[39, 39] 39 #[] #[.slice a_21 l_22 c_23, .slice (some (newA w4)) 1 1]).run Tryd.prog w5 = .ok (.value (.slice a_28 l_29 c_30)) w6 ∧
  ∃ q_31 : Addr, a0 = some q_31 ∧
  Wr w6 q_31 ∧
  (let w7 := w6.setCell q_31 (.slice a_28 l_29 c_30);
  ∃ q_32 : Addr, a0 = some q_32 ∧
  ∃ (a_33 : Option Addr) (l_34 c_35 : Nat), w7.cell? q_32 = some (.slice a_33 l_34 c_35) ∧
  (let t8_35 : Int := (IntKind.i64.wrap (((l_34 : Nat) : Int) - 1));
  R (.tuple #[.int .i64 t8_35, .int .i64 0]) w7)))))))

def term_Arena_Make.c2 (R : Value → World → Prop) (a0 : Option Addr) (kind1 : Int) (n2 : Int) (args3 : Sl) (w : World) : Prop :=
  CallsV Tryd.prog n_term_Arena_Has #[.pointer a0, .slice args3.a args3.len args3.cap] w (fun v_37 w8 =>
  ∃ b_38 : Bool, v_37 = .bool b_38 ∧
  cond (!b_38)
  (R (.tuple #[.int .i64 0, .int .i64 8]) w8)
  (term_Arena_Make.c1 R a0 kind1 n2 args3 w8))

def term_Arena_Make.c3 (R : Value → World → Prop) (a0 : Option Addr) (kind1 : Int) (n2 : Int) (args3 : Sl) (least11 : Int) (most12 : Int) (w : World) : Prop :=
  cond (decide ((((args3.len : Nat) : Int) : Int) < least11))
  (R (.tuple #[.int .i64 0, .int .i64 2]) w)
  ((let t49_38 : Bool := (decide ((((args3.len : Nat) : Int) : Int) > most12));
  cond t49_38
  (R (.tuple #[.int .i64 0, .int .i64 2]) w)
  (term_Arena_Make.c2 R a0 kind1 n2 args3 w)))

def term_Arena_Make.c4 (R : Value → World → Prop) (a0 : Option Addr) (kind1 : Int) (n2 : Int) (args3 : Sl) (numbered10 : Bool) (least11 : Int) (most12 : Int) (w : World) : Prop :=
  cond (decide ((n2 : Int) < 0))
  (R (.tuple #[.int .i64 0, .int .i64 1]) w)
  (cond (decide ((n2 : Int) > 0))
  (cond (!numbered10)
  (R (.tuple #[.int .i64 0, .int .i64 1]) w)
  (term_Arena_Make.c3 R a0 kind1 n2 args3 least11 most12 w))
  (term_Arena_Make.c3 R a0 kind1 n2 args3 least11 most12 w))

def term_Arena_Make.c5 (R : Value → World → Prop) (a0 : Option Addr) (kind1 : Int) (n2 : Int) (args3 : Sl) (numbered10 : Bool) (w : World) : Prop :=
  CallsV Tryd.prog n_term_many #[.int .i64 kind1] w (fun v_40 w9 =>
  ∃ x_41 : Int, ∃ x_42 : Int, v_40 = .tuple #[.int .i64 x_41, .int .i64 x_42] ∧
  cond (decide ((kind1 : Int) < 1))
  (R (.tuple #[.int .i64 0, .int .i64 6]) w9)
  ((let t31_42 : Bool := (decide ((kind1 : Int) > 9));
  cond t31_42
  (R (.tuple #[.int .i64 0, .int .i64 6]) w9)
  (term_Arena_Make.c4 R a0 kind1 n2 args3 numbered10 x_41 x_42 w9))))

def term_Arena_Make.main (R : Value → World → Prop) (a0 : Option Addr) (kind1 : Int) (n2 : Int) (args3 : Sl) (w : World) : Prop :=
  cond ((kind1 : Int) == 1)
  (term_Arena_Make.c5 R a0 kind1 n2 args3 true w)
  (cond ((kind1 : Int) == 2)
  (term_Arena_Make.c5 R a0 kind1 n2 args3 true w)
  (term_Arena_Make.c5 R a0 kind1 n2 args3 ((kind1 : Int) == 4) w))

def term_Arena_Make.J0 (R : Value → World → Prop) (k : Nat) (fr : Fr) (w : World) : Prop :=
  cond (Nat.beq k 5) (dec [(0, .ptr), (1, (.int .i64)), (2, (.int .i64)), (3, .slice), (10, .bool)] fr fun x => term_Arena_Make.c5 R x.1 x.2.1 x.2.2.1 x.2.2.2.1 x.2.2.2.2 w) (cond (Nat.beq k 4) (dec [(0, .ptr), (1, (.int .i64)), (2, (.int .i64)), (3, .slice), (10, .bool), (11, (.int .i64)), (12, (.int .i64))] fr fun x => term_Arena_Make.c4 R x.1 x.2.1 x.2.2.1 x.2.2.2.1 x.2.2.2.2.1 x.2.2.2.2.2.1 x.2.2.2.2.2.2 w) (cond (Nat.beq k 3) (dec [(0, .ptr), (1, (.int .i64)), (2, (.int .i64)), (3, .slice), (11, (.int .i64)), (12, (.int .i64))] fr fun x => term_Arena_Make.c3 R x.1 x.2.1 x.2.2.1 x.2.2.2.1 x.2.2.2.2.1 x.2.2.2.2.2 w) (cond (Nat.beq k 2) (dec [(0, .ptr), (1, (.int .i64)), (2, (.int .i64)), (3, .slice)] fr fun x => term_Arena_Make.c2 R x.1 x.2.1 x.2.2.1 x.2.2.2 w) (cond (Nat.beq k 1) (dec [(0, .ptr), (1, (.int .i64)), (2, (.int .i64)), (3, .slice)] fr fun x => term_Arena_Make.c1 R x.1 x.2.1 x.2.2.1 x.2.2.2 w) (False)))))

set_option maxRecDepth 100000 in
theorem term_Arena_Make.lift {R : Value → World → Prop} {a0 : Option Addr} {kind1 : Int} {n2 : Int} {args3 : Sl} {w : World} (h : term_Arena_Make.main R a0 kind1 n2 args3 w) : CallsV Tryd.prog n_term_Arena_Make #[.pointer a0, .int .i64 kind1, .int .i64 n2, .slice args3.a args3.len args3.cap] w R :=
  liftCalls (c := (.seq (.leaf (cL (bd Tryd.f16))) (.seq (.leaf (cL (cR (bd Tryd.f16)))) (.cut 5 (.seq (.leaf (cL (cR (cR (bd Tryd.f16))))) (.seq (.block 0 (.seq (.leaf (cL (cB (cL (cR (cR (cR (bd Tryd.f16)))))))) (.cnd (.tmp 31) (.seq (.leaf (cL (cT (cR (cB (cL (cR (cR (cR (bd Tryd.f16)))))))))) (.leaf (cR (cT (cR (cB (cL (cR (cR (cR (bd Tryd.f16))))))))))) (.cut 4 (.seq (.leaf (cL (cE (cR (cB (cL (cR (cR (cR (bd Tryd.f16)))))))))) (.cnd (.tmp 38) (.seq (.leaf (cL (cT (cR (cE (cR (cB (cL (cR (cR (cR (bd Tryd.f16)))))))))))) (.leaf (cR (cT (cR (cE (cR (cB (cL (cR (cR (cR (bd Tryd.f16))))))))))))) (.cut 3 (.seq (.leaf (cL (cE (cR (cE (cR (cB (cL (cR (cR (cR (bd Tryd.f16)))))))))))) (.cnd (.tmp 49) (.seq (.leaf (cL (cT (cR (cE (cR (cE (cR (cB (cL (cR (cR (cR (bd Tryd.f16)))))))))))))) (.leaf (cR (cT (cR (cE (cR (cE (cR (cB (cL (cR (cR (cR (bd Tryd.f16))))))))))))))) (.cut 2 (.seq (.leaf (cL (cE (cR (cE (cR (cE (cR (cB (cL (cR (cR (cR (bd Tryd.f16)))))))))))))) (.cnd (.tmp 60) (.seq (.leaf (cL (cT (cR (cE (cR (cE (cR (cE (cR (cB (cL (cR (cR (cR (bd Tryd.f16)))))))))))))))) (.leaf (cR (cT (cR (cE (cR (cE (cR (cE (cR (cB (cL (cR (cR (cR (bd Tryd.f16))))))))))))))))) (.leaf (cE (cR (cE (cR (cE (cR (cE (cR (cB (cL (cR (cR (cR (bd Tryd.f16))))))))))))))))))))))))))) (.cut 1 (.seq (.leaf (cL (cR (cR (cR (cR (bd Tryd.f16))))))) (.seq (.leaf (cL (cR (cR (cR (cR (cR (bd Tryd.f16)))))))) (.seq (.block 1 (.seq (.leaf (cL (cB (cL (cR (cR (cR (cR (cR (cR (bd Tryd.f16))))))))))) (.cnd (.tmp 78) (.seq (.leaf (cL (cT (cR (cB (cL (cR (cR (cR (cR (cR (cR (bd Tryd.f16))))))))))))) (.leaf (cR (cT (cR (cB (cL (cR (cR (cR (cR (cR (cR (bd Tryd.f16)))))))))))))) (.seq (.leaf (cL (cE (cR (cB (cL (cR (cR (cR (cR (cR (cR (bd Tryd.f16))))))))))))) (.cnd (.tmp 81) (.seq (.leaf (cL (cT (cR (cE (cR (cB (cL (cR (cR (cR (cR (cR (cR (bd Tryd.f16))))))))))))))) (.leaf (cR (cT (cR (cE (cR (cB (cL (cR (cR (cR (cR (cR (cR (bd Tryd.f16)))))))))))))))) (.leaf (cE (cR (cE (cR (cB (cL (cR (cR (cR (cR (cR (cR (bd Tryd.f16))))))))))))))))))) (.seq (.leaf (cL (cR (cR (cR (cR (cR (cR (cR (bd Tryd.f16)))))))))) (.seq (.leaf (cL (cR (cR (cR (cR (cR (cR (cR (cR (bd Tryd.f16))))))))))) (.seq (.leaf (cL (cR (cR (cR (cR (cR (cR (cR (cR (cR (bd Tryd.f16)))))))))))) (.leaf (cR (cR (cR (cR (cR (cR (cR (cR (cR (cR (bd Tryd.f16))))))))))))))))))))))))) (J := term_Arena_Make.J0 R) LfYtpihglmgkfecbaaDoor.mixed Tryd.func16 (by kernel_rfl) (by kernel_rfl) (mkSeq (mkSeq (mkCut (cutDef [(0, .ptr), (1, (.int .i64)), (2, (.int .i64)), (3, .slice), (10, .bool)] (fun x w => term_Arena_Make.c5 R x.1 x.2.1 x.2.2.1 x.2.2.2.1 x.2.2.2.2 w) (fun _ _ => by kernel_rfl) (fun _ _ => by kernel_rfl)) (mkSeq (mkSeq (mkCut (cutDef [(0, .ptr), (1, (.int .i64)), (2, (.int .i64)), (3, .slice)] (fun x w => term_Arena_Make.c1 R x.1 x.2.1 x.2.2.1 x.2.2.2 w) (fun _ _ => by kernel_rfl) (fun _ _ => by kernel_rfl)) (mkSeq (mkSeq (mkSeq (mkSeq (mkSeq (mkSeq mkLeaf mkLeaf) mkLeaf) mkLeaf) (mkBlock (mkSeq (mkCnd (mkSeq mkLeaf mkLeaf) (mkSeq (mkCnd (mkSeq mkLeaf mkLeaf) mkLeaf) mkLeaf)) mkLeaf))) mkLeaf) mkLeaf)) (mkBlock (mkSeq (mkCnd (mkSeq mkLeaf mkLeaf) (mkCut (cutDef [(0, .ptr), (1, (.int .i64)), (2, (.int .i64)), (3, .slice), (10, .bool), (11, (.int .i64)), (12, (.int .i64))] (fun x w => term_Arena_Make.c4 R x.1 x.2.1 x.2.2.1 x.2.2.2.1 x.2.2.2.2.1 x.2.2.2.2.2.1 x.2.2.2.2.2.2 w) (fun _ _ => by kernel_rfl) (fun _ _ => by kernel_rfl)) (mkSeq (mkCnd (mkSeq mkLeaf mkLeaf) (mkCut (cutDef [(0, .ptr), (1, (.int .i64)), (2, (.int .i64)), (3, .slice), (11, (.int .i64)), (12, (.int .i64))] (fun x w => term_Arena_Make.c3 R x.1 x.2.1 x.2.2.1 x.2.2.2.1 x.2.2.2.2.1 x.2.2.2.2.2 w) (fun _ _ => by kernel_rfl) (fun _ _ => by kernel_rfl)) (mkSeq (mkCnd (mkSeq mkLeaf mkLeaf) (mkCut (cutDef [(0, .ptr), (1, (.int .i64)), (2, (.int .i64)), (3, .slice)] (fun x w => term_Arena_Make.c2 R x.1 x.2.1 x.2.2.1 x.2.2.2 w) (fun _ _ => by kernel_rfl) (fun _ _ => by kernel_rfl)) (mkSeq (mkCnd (mkSeq mkLeaf mkLeaf) mkLeaf) mkLeaf))) mkLeaf))) mkLeaf))) mkLeaf))) mkLeaf)) mkLeaf) mkLeaf) (kcast (by kernel_rfl) h)

/-! trystlaw10_Some -/
def trystlaw10_Some.c2 (R : Value → World → Prop) (N1 : Sl → Int → Sl → Int → World → Prop) (l0 : Sl) (n1 : Int) (out5 : Sl) (i6 : Int) (x7 : Int) (w : World) : Prop :=
  let w1 := w.alloc (.cells #[.int .i64 x7] 3);
  ∃ (a_1 : Option Addr) (l_2 c_3 : Nat), ∃ w2 : World, (builtin .append #[29, 29] 29 #[] #[.slice out5.a out5.len out5.cap, .slice (some (newA w)) 1 1]).run Tryd.prog w1 = .ok (.value (.slice a_1 l_2 c_3)) w2 ∧
  (let i6_3 : Int := (IntKind.i64.wrap (i6 + 1));
  N1 l0 n1 ⟨a_1, l_2, c_3⟩ i6_3 w2)

def trystlaw10_Some.b1 (R : Value → World → Prop) (N1 : Sl → Int → Sl → Int → World → Prop) (l0 : Sl) (n1 : Int) (out5 : Sl) (i6 : Int) (w : World) : Prop :=
  cond (decide ((i6 : Int) < ((l0.len : Nat) : Int)))
  (0 ≤ (i6 : Int) ∧ i6 < ((l0.len : Nat) : Int) ∧ ∃ q_5 : Addr, l0.a = some q_5 ∧
  ∃ x_6 : Int, w.cell? (q_5.add (i6 : Int).toNat) = some (.int .i64 x_6) ∧
  cond (decide ((n1 : Int) > 0))
  (cond (decide ((x_6 : Int) ≥ 0))
  (n1 ≠ 0 ∧
  trystlaw10_Some.c2 R N1 l0 n1 out5 i6 (Int.tmod x_6 n1) w)
  (trystlaw10_Some.c2 R N1 l0 n1 out5 i6 x_6 w))
  (trystlaw10_Some.c2 R N1 l0 n1 out5 i6 x_6 w))
  (R (.slice out5.a out5.len out5.cap) w)

def trystlaw10_Some.l1 (R : Value → World → Prop) (l0 : Sl) (n1 : Int) (out5 : Sl) (i6 : Int) (w : World) : Prop :=
  ∃ (I : (Sl × Int) → World → Prop) (μ : (Sl × Int) → World → Nat), I (out5, i6) w ∧ ∀ s w, I s w → trystlaw10_Some.b1 R (fun l0' n1' out5' i6' w' => (l0' = l0 ∧ n1' = n1 ∧ I (out5', i6') w') ∧ μ (out5', i6') w' < μ s w) l0 n1 s.1 s.2 w

def trystlaw10_Some.main (R : Value → World → Prop) (l0 : Sl) (n1 : Int) (w : World) : Prop :=
  trystlaw10_Some.l1 R l0 n1 ⟨none, 0, 0⟩ 0 w

def trystlaw10_Some.J1 (R : Value → World → Prop) (N1 : Sl → Int → Sl → Int → World → Prop) (k : Nat) (fr : Fr) (w : World) : Prop :=
  cond (Nat.beq k 2) (dec [(0, .slice), (1, (.int .i64)), (5, .slice), (6, (.int .i64)), (7, (.int .i64))] fr fun x => trystlaw10_Some.c2 R N1 x.1 x.2.1 x.2.2.1 x.2.2.2.1 x.2.2.2.2 w) (False)

def trystlaw10_Some.J0 (R : Value → World → Prop) (k : Nat) (fr : Fr) (w : World) : Prop :=
  cond (Nat.beq k 1) (dec [(0, .slice), (1, (.int .i64)), (5, .slice), (6, (.int .i64))] fr fun x => trystlaw10_Some.l1 R x.1 x.2.1 x.2.2.1 x.2.2.2 w) (False)

set_option maxRecDepth 100000 in
theorem trystlaw10_Some.lift {R : Value → World → Prop} {l0 : Sl} {n1 : Int} {w : World} (h : trystlaw10_Some.main R l0 n1 w) : CallsV Tryd.prog n_trystlaw10_Some #[.slice l0.a l0.len l0.cap, .int .i64 n1] w R :=
  liftCalls (c := (.seq (.leaf (cL (bd Tryd.f17))) (.seq (.leaf (cL (cR (bd Tryd.f17)))) (.seq (.seq (.leaf (cL (cL (cR (cR (bd Tryd.f17)))))) (.block 0 (.loop 1 (.seq (.seq (.leaf (cL (cL (cB (cB (cR (cL (cR (cR (bd Tryd.f17)))))))))) (.cnd (.tmp 11) (.leaf (cT (cR (cL (cB (cB (cR (cL (cR (cR (bd Tryd.f17))))))))))) (.leaf (cE (cR (cL (cB (cB (cR (cL (cR (cR (bd Tryd.f17))))))))))))) (.seq (.block 1 (.seq (.leaf (cL (cB (cL (cR (cB (cB (cR (cL (cR (cR (bd Tryd.f17)))))))))))) (.seq (.seq (.leaf (cL (cL (cR (cB (cL (cR (cB (cB (cR (cL (cR (cR (bd Tryd.f17)))))))))))))) (.cnd (.tmp 23) (.leaf (cT (cR (cL (cR (cB (cL (cR (cB (cB (cR (cL (cR (cR (bd Tryd.f17))))))))))))))) (.leaf (cE (cR (cL (cR (cB (cL (cR (cB (cB (cR (cL (cR (cR (bd Tryd.f17))))))))))))))))) (.cut 2 (.leaf (cR (cR (cB (cL (cR (cB (cB (cR (cL (cR (cR (bd Tryd.f17))))))))))))))))) (.leaf (cR (cR (cB (cB (cR (cL (cR (cR (bd Tryd.f17))))))))))))))) (.seq (.leaf (cL (cR (cR (cR (bd Tryd.f17)))))) (.leaf (cR (cR (cR (cR (bd Tryd.f17))))))))))) (J := trystlaw10_Some.J0 R) LfYtpihglmgkfecbaaDoor.mixed Tryd.func17 (by kernel_rfl) (by kernel_rfl) (mkSeq (mkSeq (mkSeq (mkSeq mkLeaf mkLeaf) (mkSeq (mkBlock (mkLoop (loopDef LfYtpihglmgkfecbaaDoor.mixed [(0, .slice), (1, (.int .i64)), (5, .slice), (6, (.int .i64))] (by kernel_rfl) (fun M1 x w => trystlaw10_Some.b1 R (fun y0 y1 y2 y3 w => M1 (y0, y1, y2, y3) w) x.1 x.2.1 x.2.2.1 x.2.2.2 w) (fun M1 => trystlaw10_Some.J1 R (fun y0 y1 y2 y3 w => M1 (y0, y1, y2, y3) w)) (fun _ _ _ => by kernel_rfl) (fun M1 => (mkSeq (mkSeq mkLeaf (mkBlock (mkSeq (mkSeq (mkCut (cutDef [(0, .slice), (1, (.int .i64)), (5, .slice), (6, (.int .i64)), (7, (.int .i64))] (fun x w => trystlaw10_Some.c2 R (fun y0 y1 y2 y3 w => M1 (y0, y1, y2, y3) w) x.1 x.2.1 x.2.2.1 x.2.2.2.1 x.2.2.2.2 w) (fun _ _ => by kernel_rfl) (fun _ _ => by kernel_rfl)) mkLeaf) (mkSeq (mkCnd mkLeaf mkLeaf) mkLeaf)) mkLeaf))) (mkSeq (mkCnd mkLeaf mkLeaf) mkLeaf))) (fun x w => trystlaw10_Some.l1 R x.1 x.2.1 x.2.2.1 x.2.2.2 w) (by rintro ⟨c0, c1, s0⟩ w ⟨I, μ, h0, h1⟩; refine ⟨fun y w => y.1 = c0 ∧ y.2.1 = c1 ∧ I y.2.2 w, fun y w => μ y.2.2 w, ⟨rfl, rfl, h0⟩, ?_⟩; rintro ⟨d0, d1, t0⟩ w ⟨e0, e1, hI⟩; dsimp only at e0 e1 hI; subst e0; subst e1; exact h1 _ _ hI) (fun _ _ => by kernel_rfl)))) mkLeaf)) mkLeaf) mkLeaf) (kcast (by kernel_rfl) h)

/-! term_Arena_Len -/
def term_Arena_Len.main (R : Value → World → Prop) (a0 : Option Addr) (w : World) : Prop :=
  ∃ q_1 : Addr, a0 = some q_1 ∧
  ∃ (a_2 : Option Addr) (l_3 c_4 : Nat), w.cell? q_1 = some (.slice a_2 l_3 c_4) ∧
  R (.int .i64 ((l_3 : Nat) : Int)) w

def term_Arena_Len.J0 (_ : Value → World → Prop) (_ : Nat) (_ : Fr) (_ : World) : Prop := False

set_option maxRecDepth 100000 in
theorem term_Arena_Len.lift {R : Value → World → Prop} {a0 : Option Addr} {w : World} (h : term_Arena_Len.main R a0 w) : CallsV Tryd.prog n_term_Arena_Len #[.pointer a0] w R :=
  liftCalls (c := (.seq (.leaf (cL (bd Tryd.f18))) (.seq (.leaf (cL (cR (bd Tryd.f18)))) (.leaf (cR (cR (bd Tryd.f18))))))) (J := term_Arena_Len.J0 R) LfYtpihglmgkfecbaaDoor.mixed Tryd.func18 (by kernel_rfl) (by kernel_rfl) (mkSeq (mkSeq mkLeaf mkLeaf) mkLeaf) (kcast (by kernel_rfl) h)

/-! trystlaw10_wakes -/
def trystlaw10_wakes.main (R : Value → World → Prop)  (w : World) : Prop :=
  CallsV Tryd.prog n_term_New #[] w (fun v_1 w1 =>
  ∃ p_2 : Option Addr, v_1 = .pointer p_2 ∧
  cond ((p_2).isNone)
  (R (.bool false) w1)
  (CallsV Tryd.prog n_term_Arena_Make #[.pointer p_2, .int .i64 1, .int .i64 5, .slice none 0 0] w1 (fun v_3 w2 =>
  ∃ x_4 : Int, ∃ x_5 : Int, v_3 = .tuple #[.int .i64 x_4, .int .i64 x_5] ∧
  let w3 := w2.alloc (.cells #[.int .i64 x_4] 3);
  CallsV Tryd.prog n_term_Arena_Make #[.pointer p_2, .int .i64 5, .int .i64 0, .slice (some (newA w2)) 1 1] w3 (fun v_6 w4 =>
  ∃ x_7 : Int, ∃ x_8 : Int, v_6 = .tuple #[.int .i64 x_7, .int .i64 x_8] ∧
  let w5 := w4.alloc (.cells #[.int .i64 x_7, .int .i64 x_4, .int .i64 x_4] 3);
  CallsV Tryd.prog n_term_Arena_Make #[.pointer p_2, .int .i64 7, .int .i64 0, .slice (some (newA w4)) 3 3] w5 (fun v_9 w6 =>
  ∃ x_10 : Int, ∃ x_11 : Int, v_9 = .tuple #[.int .i64 x_10, .int .i64 x_11] ∧
  CallsV Tryd.prog n_term_Arena_Unbox #[.pointer p_2, .int .i64 x_10, .int .i64 x_4] w6 (fun v_12 w7 =>
  ∃ (a_13 : Option Addr) (l_14 c_15 : Nat), ∃ x_16 : Int, v_12 = .tuple #[.slice a_13 l_14 c_15, .int .i64 x_16] ∧
  cond ((x_5 : Int) == 0)
  (cond ((x_8 : Int) == 0)
  (cond ((x_11 : Int) == 0)
  (cond ((x_16 : Int) == 0)
  (cond ((x_10 : Int) == 2)
  (cond ((((l_14 : Nat) : Int) : Int) == 1)
  (0 ≤ (0 : Int) ∧ 0 < ((l_14 : Nat) : Int) ∧ ∃ q_17 : Addr, a_13 = some q_17 ∧
  ∃ x_18 : Int, w7.cell? (q_17.add (0 : Int).toNat) = some (.int .i64 x_18) ∧
  R (.bool ((x_18 : Int) == x_4)) w7)
  (R (.bool false) w7))
  (R (.bool false) w7))
  (R (.bool false) w7))
  (R (.bool false) w7))
  (R (.bool false) w7))
  (R (.bool false) w7)))))))

def trystlaw10_wakes.J0 (_ : Value → World → Prop) (_ : Nat) (_ : Fr) (_ : World) : Prop := False

set_option maxRecDepth 100000 in
theorem trystlaw10_wakes.lift {R : Value → World → Prop}  {w : World} (h : trystlaw10_wakes.main R  w) : CallsV Tryd.prog n_trystlaw10_wakes #[] w R :=
  liftCalls (c := (.seq (.leaf (cL (bd Tryd.f19))) (.seq (.leaf (cL (cR (bd Tryd.f19)))) (.seq (.seq (.leaf (cL (cL (cR (cR (bd Tryd.f19)))))) (.cnd (.tmp 12) (.seq (.leaf (cL (cT (cR (cL (cR (cR (bd Tryd.f19)))))))) (.leaf (cR (cT (cR (cL (cR (cR (bd Tryd.f19))))))))) (.leaf (cE (cR (cL (cR (cR (bd Tryd.f19))))))))) (.seq (.leaf (cL (cR (cR (cR (bd Tryd.f19)))))) (.seq (.leaf (cL (cR (cR (cR (cR (bd Tryd.f19))))))) (.seq (.leaf (cL (cR (cR (cR (cR (cR (bd Tryd.f19)))))))) (.seq (.leaf (cL (cR (cR (cR (cR (cR (cR (bd Tryd.f19))))))))) (.seq (.leaf (cL (cR (cR (cR (cR (cR (cR (cR (bd Tryd.f19)))))))))) (.leaf (cR (cR (cR (cR (cR (cR (cR (cR (bd Tryd.f19))))))))))))))))))) (J := trystlaw10_wakes.J0 R) LfYtpihglmgkfecbaaDoor.mixed Tryd.func19 (by kernel_rfl) (by kernel_rfl) (mkSeq (mkSeq (mkSeq (mkSeq (mkSeq (mkSeq (mkSeq (mkSeq mkLeaf mkLeaf) mkLeaf) mkLeaf) mkLeaf) mkLeaf) (mkSeq (mkCnd (mkSeq mkLeaf mkLeaf) mkLeaf) mkLeaf)) mkLeaf) mkLeaf) (kcast (by kernel_rfl) h)

/-! trystlaw10_Build -/
def trystlaw10_Build.c1 (R : Value → World → Prop) (a5 : Option Addr) (b6 : Option Addr) (w : World) : Prop :=
  ∃ S_1 : World → Prop, S_1 w.drew ∧
  ∃ q_2 : Addr, b6 = some q_2 ∧
  ∃ (a_3 : Option Addr) (l_4 c_5 : Nat), (∀ x, S_1 x → x.cell? q_2 = some (.slice a_3 l_4 c_5)) ∧
  CallsV Tryd.prog n_term_Arena_Len #[.pointer a5] w.drew (fun v_6 w1 =>
  ∃ x_7 : Int, v_6 = .int .i64 x_7 ∧
  S_1 w1 ∧
  (let t4_7 : Bool := ((x_7 : Int) == ((l_4 : Nat) : Int));
  R (.tuple #[.pointer a5, .pointer b6, .bool t4_7]) w1))

def trystlaw10_Build.c3 (R : Value → World → Prop) (N2 : Sl → Option Addr → Option Addr → Int → World → Prop) (l0 : Sl) (a5 : Option Addr) (b6 : Option Addr) (i7 : Int) (in9 : Sl) (w : World) : Prop :=
  CallsV Tryd.prog n_trystkeep_SpoilInts #[.slice in9.a in9.len in9.cap] w (fun v_9 w2 =>
  v_9 = .tuple #[] ∧
  (let i7_9 : Int := (IntKind.i64.wrap (i7 + 1));
  N2 l0 a5 b6 i7_9 w2))

def trystlaw10_Build.c4 (R : Value → World → Prop) (N2 : Sl → Option Addr → Option Addr → Int → World → Prop) (l0 : Sl) (a5 : Option Addr) (b6 : Option Addr) (i7 : Int) (args8 : Sl) (w : World) : Prop :=
  CallsV Tryd.prog n_trystkeep_TwinInts #[.slice args8.a args8.len args8.cap] w (fun v_11 w3 =>
  ∃ (a_12 : Option Addr) (l_13 c_14 : Nat), v_11 = .slice a_12 l_13 c_14 ∧
  ∃ S_15 : World → Prop, S_15 w3.drew ∧
  0 ≤ (i7 : Int) ∧ i7 < ((l0.len : Nat) : Int) ∧ ∃ q_16 : Addr, l0.a = some q_16 ∧
  ∃ x_17 : Int, (∀ x, S_15 x → x.cell? (q_16.add ((i7 : Int).toNat * 4)) = some (.int .i64 x_17)) ∧
  0 ≤ (i7 : Int) ∧ i7 < ((l0.len : Nat) : Int) ∧ ∃ q_18 : Addr, l0.a = some q_18 ∧
  ∃ x_19 : Int, (∀ x, S_15 x → x.cell? ((q_18.add ((i7 : Int).toNat * 4)).add 1) = some (.int .i64 x_19)) ∧
  CallsV Tryd.prog n_term_Arena_Make #[.pointer a5, .int .i64 x_17, .int .i64 x_19, .slice a_12 l_13 c_14] w3.drew (fun v_20 w4 =>
  ∃ x_21 : Int, ∃ x_22 : Int, v_20 = .tuple #[.int .i64 x_21, .int .i64 x_22] ∧
  ∃ S_23 : World → Prop, S_23 w4.drew ∧
  0 ≤ (i7 : Int) ∧ i7 < ((l0.len : Nat) : Int) ∧ ∃ q_24 : Addr, l0.a = some q_24 ∧
  ∃ x_25 : Int, (∀ x, S_23 x → x.cell? (q_24.add ((i7 : Int).toNat * 4)) = some (.int .i64 x_25)) ∧
  0 ≤ (i7 : Int) ∧ i7 < ((l0.len : Nat) : Int) ∧ ∃ q_26 : Addr, l0.a = some q_26 ∧
  ∃ x_27 : Int, (∀ x, S_23 x → x.cell? ((q_26.add ((i7 : Int).toNat * 4)).add 1) = some (.int .i64 x_27)) ∧
  CallsV Tryd.prog n_trystref10_Arena_Put #[.pointer b6, .int .i64 x_25, .int .i64 x_27, .slice args8.a args8.len args8.cap] w4.drew (fun v_28 w5 =>
  ∃ x_29 : Int, ∃ x_30 : Int, v_28 = .tuple #[.int .i64 x_29, .int .i64 x_30] ∧
  cond ((x_21 : Int) != x_29)
  (R (.tuple #[.pointer none, .pointer none, .bool false]) w5)
  (cond ((x_22 : Int) != x_30)
  (R (.tuple #[.pointer none, .pointer none, .bool false]) w5)
  (CallsV Tryd.prog n_trystkeep_Ints #[.slice a_12 l_13 c_14, .slice args8.a args8.len args8.cap] w5 (fun v_31 w6 =>
  ∃ b_32 : Bool, v_31 = .bool b_32 ∧
  cond (!b_32)
  (R (.tuple #[.pointer none, .pointer none, .bool false]) w6)
  (trystlaw10_Build.c3 R N2 l0 a5 b6 i7 ⟨a_12, l_13, c_14⟩ w6)))))))

def trystlaw10_Build.c5 (R : Value → World → Prop) (N2 : Sl → Option Addr → Option Addr → Int → World → Prop) (l0 : Sl) (a5 : Option Addr) (b6 : Option Addr) (i7 : Int) (w : World) : Prop :=
  0 ≤ (i7 : Int) ∧ i7 < ((l0.len : Nat) : Int) ∧ ∃ q_33 : Addr, l0.a = some q_33 ∧
  ∃ (a_34 : Option Addr) (l_35 c_36 : Nat), w.cell? ((q_33.add ((i7 : Int).toNat * 4)).add 2) = some (.slice a_34 l_35 c_36) ∧
  0 ≤ (i7 : Int) ∧ i7 < ((l0.len : Nat) : Int) ∧ ∃ q_37 : Addr, l0.a = some q_37 ∧
  ∃ b_38 : Bool, w.cell? ((q_37.add ((i7 : Int).toNat * 4)).add 3) = some (.bool b_38) ∧
  cond (!b_38)
  (∃ q_39 : Addr, b6 = some q_39 ∧
  ∃ (a_40 : Option Addr) (l_41 c_42 : Nat), w.cell? q_39 = some (.slice a_40 l_41 c_42) ∧
  CallsV Tryd.prog n_trystlaw10_Some #[.slice a_34 l_35 c_36, .int .i64 ((l_41 : Nat) : Int)] w (fun v_43 w7 =>
  ∃ (a_44 : Option Addr) (l_45 c_46 : Nat), v_43 = .slice a_44 l_45 c_46 ∧
  trystlaw10_Build.c4 R N2 l0 a5 b6 i7 ⟨a_44, l_45, c_46⟩ w7))
  (trystlaw10_Build.c4 R N2 l0 a5 b6 i7 ⟨a_34, l_35, c_36⟩ w)

def trystlaw10_Build.b2 (R : Value → World → Prop) (N2 : Sl → Option Addr → Option Addr → Int → World → Prop) (l0 : Sl) (a5 : Option Addr) (b6 : Option Addr) (i7 : Int) (w : World) : Prop :=
  cond (decide ((i7 : Int) < ((l0.len : Nat) : Int)))
  (cond (decide ((i7 : Int) < 150))
  (trystlaw10_Build.c5 R N2 l0 a5 b6 i7 w)
  (trystlaw10_Build.c1 R a5 b6 w))
  (trystlaw10_Build.c1 R a5 b6 w)

def trystlaw10_Build.l2 (R : Value → World → Prop) (l0 : Sl) (a5 : Option Addr) (b6 : Option Addr) (i7 : Int) (w : World) : Prop :=
  ∃ (I : Int → World → Prop) (μ : Int → World → Nat), I i7 w ∧ ∀ s w, I s w → trystlaw10_Build.b2 R (fun l0' a5' b6' i7' w' => (l0' = l0 ∧ a5' = a5 ∧ b6' = b6 ∧ I i7' w') ∧ μ i7' w' < μ s w) l0 a5 b6 s w

def trystlaw10_Build.main (R : Value → World → Prop) (l0 : Sl) (w : World) : Prop :=
  CallsV Tryd.prog n_term_New #[] w (fun v_47 w8 =>
  ∃ p_48 : Option Addr, v_47 = .pointer p_48 ∧
  let w9 := w8.alloc (.cells #[.slice none 0 0] 41);
  cond ((p_48).isNone)
  (R (.tuple #[.pointer none, .pointer none, .bool false]) w9)
  (trystlaw10_Build.l2 R l0 p_48 (some (newA w8)) 0 w9))

def trystlaw10_Build.J2 (R : Value → World → Prop) (N2 : Sl → Option Addr → Option Addr → Int → World → Prop) (k : Nat) (fr : Fr) (w : World) : Prop :=
  cond (Nat.beq k 5) (dec [(0, .slice), (5, .ptr), (6, .ptr), (7, (.int .i64))] fr fun x => trystlaw10_Build.c5 R N2 x.1 x.2.1 x.2.2.1 x.2.2.2 w) (cond (Nat.beq k 4) (dec [(0, .slice), (5, .ptr), (6, .ptr), (7, (.int .i64)), (8, .slice)] fr fun x => trystlaw10_Build.c4 R N2 x.1 x.2.1 x.2.2.1 x.2.2.2.1 x.2.2.2.2 w) (cond (Nat.beq k 3) (dec [(0, .slice), (5, .ptr), (6, .ptr), (7, (.int .i64)), (9, .slice)] fr fun x => trystlaw10_Build.c3 R N2 x.1 x.2.1 x.2.2.1 x.2.2.2.1 x.2.2.2.2 w) (False)))

def trystlaw10_Build.J0 (R : Value → World → Prop) (k : Nat) (fr : Fr) (w : World) : Prop :=
  cond (Nat.beq k 2) (dec [(0, .slice), (5, .ptr), (6, .ptr), (7, (.int .i64))] fr fun x => trystlaw10_Build.l2 R x.1 x.2.1 x.2.2.1 x.2.2.2 w) (cond (Nat.beq k 1) (dec [(5, .ptr), (6, .ptr)] fr fun x => trystlaw10_Build.c1 R x.1 x.2 w) (False))

set_option maxRecDepth 100000 in
theorem trystlaw10_Build.lift {R : Value → World → Prop} {l0 : Sl} {w : World} (h : trystlaw10_Build.main R l0 w) : CallsV Tryd.prog n_trystlaw10_Build #[.slice l0.a l0.len l0.cap] w R :=
  liftCalls (c := (.seq (.leaf (cL (bd Tryd.f20))) (.seq (.leaf (cL (cR (bd Tryd.f20)))) (.seq (.seq (.leaf (cL (cL (cR (cR (bd Tryd.f20)))))) (.cnd (.tmp 18) (.seq (.leaf (cL (cT (cR (cL (cR (cR (bd Tryd.f20)))))))) (.leaf (cR (cT (cR (cL (cR (cR (bd Tryd.f20))))))))) (.leaf (cE (cR (cL (cR (cR (bd Tryd.f20))))))))) (.seq (.seq (.leaf (cL (cL (cR (cR (cR (bd Tryd.f20))))))) (.block 0 (.loop 2 (.seq (.seq (.leaf (cL (cL (cB (cB (cR (cL (cR (cR (cR (bd Tryd.f20))))))))))) (.cnd (.tmp 26) (.leaf (cT (cR (cL (cB (cB (cR (cL (cR (cR (cR (bd Tryd.f20)))))))))))) (.leaf (cE (cR (cL (cB (cB (cR (cL (cR (cR (cR (bd Tryd.f20)))))))))))))) (.cut 5 (.seq (.block 1 (.seq (.leaf (cL (cB (cL (cR (cB (cB (cR (cL (cR (cR (cR (bd Tryd.f20))))))))))))) (.seq (.seq (.leaf (cL (cL (cR (cB (cL (cR (cB (cB (cR (cL (cR (cR (cR (bd Tryd.f20))))))))))))))) (.cnd (.tmp 39) (.leaf (cT (cR (cL (cR (cB (cL (cR (cB (cB (cR (cL (cR (cR (cR (bd Tryd.f20)))))))))))))))) (.leaf (cE (cR (cL (cR (cB (cL (cR (cB (cB (cR (cL (cR (cR (cR (bd Tryd.f20)))))))))))))))))) (.cut 4 (.seq (.leaf (cL (cR (cR (cB (cL (cR (cB (cB (cR (cL (cR (cR (cR (bd Tryd.f20))))))))))))))) (.seq (.leaf (cL (cR (cR (cR (cB (cL (cR (cB (cB (cR (cL (cR (cR (cR (bd Tryd.f20)))))))))))))))) (.seq (.leaf (cL (cR (cR (cR (cR (cB (cL (cR (cB (cB (cR (cL (cR (cR (cR (bd Tryd.f20))))))))))))))))) (.seq (.seq (.leaf (cL (cL (cR (cR (cR (cR (cR (cB (cL (cR (cB (cB (cR (cL (cR (cR (cR (bd Tryd.f20))))))))))))))))))) (.cnd (.tmp 94) (.seq (.leaf (cL (cT (cR (cL (cR (cR (cR (cR (cR (cB (cL (cR (cB (cB (cR (cL (cR (cR (cR (bd Tryd.f20))))))))))))))))))))) (.leaf (cR (cT (cR (cL (cR (cR (cR (cR (cR (cB (cL (cR (cB (cB (cR (cL (cR (cR (cR (bd Tryd.f20)))))))))))))))))))))) (.leaf (cE (cR (cL (cR (cR (cR (cR (cR (cB (cL (cR (cB (cB (cR (cL (cR (cR (cR (bd Tryd.f20)))))))))))))))))))))) (.cut 3 (.leaf (cR (cR (cR (cR (cR (cR (cB (cL (cR (cB (cB (cR (cL (cR (cR (cR (bd Tryd.f20))))))))))))))))))))))))))) (.leaf (cR (cR (cB (cB (cR (cL (cR (cR (cR (bd Tryd.f20))))))))))))))))) (.cut 1 (.seq (.leaf (cL (cR (cR (cR (cR (bd Tryd.f20))))))) (.leaf (cR (cR (cR (cR (cR (bd Tryd.f20)))))))))))))) (J := trystlaw10_Build.J0 R) LfYtpihglmgkfecbaaDoor.mixed Tryd.func20 (by kernel_rfl) (by kernel_rfl) (mkSeq (mkSeq (mkSeq (mkSeq (mkCut (cutDef [(5, .ptr), (6, .ptr)] (fun x w => trystlaw10_Build.c1 R x.1 x.2 w) (fun _ _ => by kernel_rfl) (fun _ _ => by kernel_rfl)) (mkSeq mkLeaf mkLeaf)) (mkSeq (mkBlock (mkLoop (loopDef LfYtpihglmgkfecbaaDoor.mixed [(0, .slice), (5, .ptr), (6, .ptr), (7, (.int .i64))] (by kernel_rfl) (fun M2 x w => trystlaw10_Build.b2 R (fun y0 y1 y2 y3 w => M2 (y0, y1, y2, y3) w) x.1 x.2.1 x.2.2.1 x.2.2.2 w) (fun M2 => trystlaw10_Build.J2 R (fun y0 y1 y2 y3 w => M2 (y0, y1, y2, y3) w)) (fun _ _ _ => by kernel_rfl) (fun M2 => (mkSeq (mkCut (cutDef [(0, .slice), (5, .ptr), (6, .ptr), (7, (.int .i64))] (fun x w => trystlaw10_Build.c5 R (fun y0 y1 y2 y3 w => M2 (y0, y1, y2, y3) w) x.1 x.2.1 x.2.2.1 x.2.2.2 w) (fun _ _ => by kernel_rfl) (fun _ _ => by kernel_rfl)) (mkSeq mkLeaf (mkBlock (mkSeq (mkSeq (mkCut (cutDef [(0, .slice), (5, .ptr), (6, .ptr), (7, (.int .i64)), (8, .slice)] (fun x w => trystlaw10_Build.c4 R (fun y0 y1 y2 y3 w => M2 (y0, y1, y2, y3) w) x.1 x.2.1 x.2.2.1 x.2.2.2.1 x.2.2.2.2 w) (fun _ _ => by kernel_rfl) (fun _ _ => by kernel_rfl)) (mkSeq (mkSeq (mkSeq (mkSeq (mkCut (cutDef [(0, .slice), (5, .ptr), (6, .ptr), (7, (.int .i64)), (9, .slice)] (fun x w => trystlaw10_Build.c3 R (fun y0 y1 y2 y3 w => M2 (y0, y1, y2, y3) w) x.1 x.2.1 x.2.2.1 x.2.2.2.1 x.2.2.2.2 w) (fun _ _ => by kernel_rfl) (fun _ _ => by kernel_rfl)) mkLeaf) (mkSeq (mkCnd (mkSeq mkLeaf mkLeaf) mkLeaf) mkLeaf)) mkLeaf) mkLeaf) mkLeaf)) (mkSeq (mkCnd mkLeaf mkLeaf) mkLeaf)) mkLeaf)))) (mkSeq (mkCnd mkLeaf mkLeaf) mkLeaf))) (fun x w => trystlaw10_Build.l2 R x.1 x.2.1 x.2.2.1 x.2.2.2 w) (by rintro ⟨c0, c1, c2, s0⟩ w ⟨I, μ, h0, h1⟩; refine ⟨fun y w => y.1 = c0 ∧ y.2.1 = c1 ∧ y.2.2.1 = c2 ∧ I y.2.2.2 w, fun y w => μ y.2.2.2 w, ⟨rfl, rfl, rfl, h0⟩, ?_⟩; rintro ⟨d0, d1, d2, t0⟩ w ⟨e0, e1, e2, hI⟩; dsimp only at e0 e1 e2 hI; subst e0; subst e1; subst e2; exact h1 _ _ hI) (fun _ _ => by kernel_rfl)))) mkLeaf)) (mkSeq (mkCnd (mkSeq mkLeaf mkLeaf) mkLeaf) mkLeaf)) mkLeaf) mkLeaf) (kcast (by kernel_rfl) h)

/-! term_Arena_Node -/
def term_Arena_Node.main (R : Value → World → Prop) (a0 : Option Addr) (i1 : Int) (w : World) : Prop :=
  let w1 := w.alloc (.cells #[.int .i64 0, .int .i64 0, .slice none 0 0] 43);
  let w2 := w1.alloc (.cells #[.int .i64 i1] 3);
  CallsV Tryd.prog n_term_Arena_Has #[.pointer a0, .slice (some (newA w1)) 1 1] w2 (fun v_1 w3 =>
  ∃ b_2 : Bool, v_1 = .bool b_2 ∧
  cond (!b_2)
  ((∀ j, j < 3 → Wr w3 ((newA w).add j)) ∧
  (let w4 := setCells (newA w) [.int .i64 0, .int .i64 0, .slice none 0 0] 0 w3;
  ∃ x_3 : Int, w4.cell? (newA w) = some (.int .i64 x_3) ∧
  ∃ x_4 : Int, w4.cell? ((newA w).add 1) = some (.int .i64 x_4) ∧
  ∃ (a_5 : Option Addr) (l_6 c_7 : Nat), w4.cell? ((newA w).add 2) = some (.slice a_5 l_6 c_7) ∧
  R (.tuple #[.agg #[.int .i64 x_3, .int .i64 x_4, .slice a_5 l_6 c_7], .int .i64 8]) w4))
  (∃ q_8 : Addr, a0 = some q_8 ∧
  ∃ (a_9 : Option Addr) (l_10 c_11 : Nat), w3.cell? q_8 = some (.slice a_9 l_10 c_11) ∧
  0 ≤ (i1 : Int) ∧ i1 < ((l_10 : Nat) : Int) ∧ ∃ q_12 : Addr, a_9 = some q_12 ∧
  ∃ x_13 : Int, w3.cell? (q_12.add ((i1 : Int).toNat * 3)) = some (.int .i64 x_13) ∧
  ∃ x_14 : Int, w3.cell? ((q_12.add ((i1 : Int).toNat * 3)).add 1) = some (.int .i64 x_14) ∧
  ∃ (a_15 : Option Addr) (l_16 c_17 : Nat), w3.cell? ((q_12.add ((i1 : Int).toNat * 3)).add 2) = some (.slice a_15 l_16 c_17) ∧
  let w5 := w3.alloc (.cells #[.int .i64 0, .int .i64 0, .slice none 0 0] 43);
  (∀ j, j < 3 → Wr w5 ((newA w3).add j)) ∧
  (let w6 := setCells (newA w3) [.int .i64 x_13, .int .i64 x_14, .slice a_15 l_16 c_17] 0 w5;
  ∃ (a_18 : Option Addr) (l_19 c_20 : Nat), w6.cell? ((newA w3).add 2) = some (.slice a_18 l_19 c_20) ∧
  CallsV Tryd.prog n_slices_Clone_int #[.slice a_18 l_19 c_20] w6 (fun v_21 w7 =>
  ∃ (a_22 : Option Addr) (l_23 c_24 : Nat), v_21 = .slice a_22 l_23 c_24 ∧
  Wr w7 ((newA w3).add 2) ∧
  (let w8 := w7.setCell ((newA w3).add 2) (.slice a_22 l_23 c_24);
  ∃ x_25 : Int, w8.cell? (newA w3) = some (.int .i64 x_25) ∧
  ∃ x_26 : Int, w8.cell? ((newA w3).add 1) = some (.int .i64 x_26) ∧
  ∃ (a_27 : Option Addr) (l_28 c_29 : Nat), w8.cell? ((newA w3).add 2) = some (.slice a_27 l_28 c_29) ∧
  (∀ j, j < 3 → Wr w8 ((newA w).add j)) ∧
  (let w9 := setCells (newA w) [.int .i64 x_25, .int .i64 x_26, .slice a_27 l_28 c_29] 0 w8;
  ∃ x_30 : Int, w9.cell? (newA w) = some (.int .i64 x_30) ∧
  ∃ x_31 : Int, w9.cell? ((newA w).add 1) = some (.int .i64 x_31) ∧
  ∃ (a_32 : Option Addr) (l_33 c_34 : Nat), w9.cell? ((newA w).add 2) = some (.slice a_32 l_33 c_34) ∧
  R (.tuple #[.agg #[.int .i64 x_30, .int .i64 x_31, .slice a_32 l_33 c_34], .int .i64 0]) w9))))))

def term_Arena_Node.J0 (_ : Value → World → Prop) (_ : Nat) (_ : Fr) (_ : World) : Prop := False

set_option maxRecDepth 100000 in
theorem term_Arena_Node.lift {R : Value → World → Prop} {a0 : Option Addr} {i1 : Int} {w : World} (h : term_Arena_Node.main R a0 i1 w) : CallsV Tryd.prog n_term_Arena_Node #[.pointer a0, .int .i64 i1] w R :=
  liftCalls (c := (.seq (.leaf (cL (bd Tryd.f21))) (.seq (.seq (.leaf (cL (cL (cR (bd Tryd.f21))))) (.cnd (.tmp 11) (.seq (.leaf (cL (cT (cR (cL (cR (bd Tryd.f21))))))) (.leaf (cR (cT (cR (cL (cR (bd Tryd.f21)))))))) (.leaf (cE (cR (cL (cR (bd Tryd.f21)))))))) (.seq (.leaf (cL (cR (cR (bd Tryd.f21))))) (.seq (.leaf (cL (cR (cR (cR (bd Tryd.f21)))))) (.seq (.leaf (cL (cR (cR (cR (cR (bd Tryd.f21))))))) (.leaf (cR (cR (cR (cR (cR (bd Tryd.f21))))))))))))) (J := term_Arena_Node.J0 R) LfYtpihglmgkfecbaaDoor.mixed Tryd.func21 (by kernel_rfl) (by kernel_rfl) (mkSeq (mkSeq (mkSeq (mkSeq (mkSeq mkLeaf mkLeaf) mkLeaf) mkLeaf) (mkSeq (mkCnd (mkSeq mkLeaf mkLeaf) mkLeaf) mkLeaf)) mkLeaf) (kcast (by kernel_rfl) h)

/-! trystkeep_Term -/
def trystkeep_Term.main (R : Value → World → Prop) (a0_0 : Int) (a0_1 : Int) (a0_2 : Sl) (b1_0 : Int) (b1_1 : Int) (b1_2 : Sl) (w : World) : Prop :=
  let w1 := w.alloc (.cells #[.int .i64 a0_0, .int .i64 a0_1, .slice a0_2.a a0_2.len a0_2.cap] 43);
  let w2 := w1.alloc (.cells #[.int .i64 b1_0, .int .i64 b1_1, .slice b1_2.a b1_2.len b1_2.cap] 43);
  ∃ x_1 : Int, w2.cell? (newA w) = some (.int .i64 x_1) ∧
  ∃ x_2 : Int, w2.cell? (newA w1) = some (.int .i64 x_2) ∧
  cond ((x_1 : Int) == x_2)
  (∃ x_3 : Int, w2.cell? ((newA w).add 1) = some (.int .i64 x_3) ∧
  ∃ x_4 : Int, w2.cell? ((newA w1).add 1) = some (.int .i64 x_4) ∧
  cond ((x_3 : Int) == x_4)
  (∃ (a_5 : Option Addr) (l_6 c_7 : Nat), w2.cell? ((newA w).add 2) = some (.slice a_5 l_6 c_7) ∧
  ∃ (a_8 : Option Addr) (l_9 c_10 : Nat), w2.cell? ((newA w1).add 2) = some (.slice a_8 l_9 c_10) ∧
  CallsV Tryd.prog n_trystkeep_Ints #[.slice a_5 l_6 c_7, .slice a_8 l_9 c_10] w2 (fun v_11 w3 =>
  ∃ b_12 : Bool, v_11 = .bool b_12 ∧
  R (.bool b_12) w3))
  (R (.bool false) w2))
  (R (.bool false) w2)

def trystkeep_Term.J0 (_ : Value → World → Prop) (_ : Nat) (_ : Fr) (_ : World) : Prop := False

set_option maxRecDepth 100000 in
theorem trystkeep_Term.lift {R : Value → World → Prop} {a0_0 : Int} {a0_1 : Int} {a0_2 : Sl} {b1_0 : Int} {b1_1 : Int} {b1_2 : Sl} {w : World} (h : trystkeep_Term.main R a0_0 a0_1 a0_2 b1_0 b1_1 b1_2 w) : CallsV Tryd.prog n_trystkeep_Term #[.agg #[.int .i64 a0_0, .int .i64 a0_1, .slice a0_2.a a0_2.len a0_2.cap], .agg #[.int .i64 b1_0, .int .i64 b1_1, .slice b1_2.a b1_2.len b1_2.cap]] w R :=
  liftCalls (c := (.seq (.leaf (cL (bd Tryd.f22))) (.seq (.leaf (cL (cR (bd Tryd.f22)))) (.leaf (cR (cR (bd Tryd.f22))))))) (J := trystkeep_Term.J0 R) LfYtpihglmgkfecbaaDoor.mixed Tryd.func22 (by kernel_rfl) (by kernel_rfl) (mkSeq (mkSeq mkLeaf mkLeaf) mkLeaf) (kcast (by kernel_rfl) h)

/-! trystkeep_SpoilInts -/
def trystkeep_SpoilInts.b1 (R : Value → World → Prop) (N1 : Sl → Int → World → Prop) (l0 : Sl) (i2 : Int) (w : World) : Prop :=
  cond (decide ((i2 : Int) < ((l0.len : Nat) : Int)))
  (0 ≤ (i2 : Int) ∧ i2 < ((l0.len : Nat) : Int) ∧ ∃ q_1 : Addr, l0.a = some q_1 ∧
  Wr w (q_1.add (i2 : Int).toNat) ∧
  (let w1 := w.setCell (q_1.add (i2 : Int).toNat) (.int .i64 (-7777));
  (let i2_1 : Int := (IntKind.i64.wrap (i2 + 1));
  N1 l0 i2_1 w1)))
  (R (.tuple #[]) w)

def trystkeep_SpoilInts.l1 (R : Value → World → Prop) (l0 : Sl) (i2 : Int) (w : World) : Prop :=
  ∃ (I : Int → World → Prop) (μ : Int → World → Nat), I i2 w ∧ ∀ s w, I s w → trystkeep_SpoilInts.b1 R (fun l0' i2' w' => (l0' = l0 ∧ I i2' w') ∧ μ i2' w' < μ s w) l0 s w

def trystkeep_SpoilInts.main (R : Value → World → Prop) (l0 : Sl) (w : World) : Prop :=
  trystkeep_SpoilInts.l1 R l0 0 w

def trystkeep_SpoilInts.J0 (R : Value → World → Prop) (k : Nat) (fr : Fr) (w : World) : Prop :=
  cond (Nat.beq k 1) (dec [(0, .slice), (2, (.int .i64))] fr fun x => trystkeep_SpoilInts.l1 R x.1 x.2 w) (False)

set_option maxRecDepth 100000 in
theorem trystkeep_SpoilInts.lift {R : Value → World → Prop} {l0 : Sl} {w : World} (h : trystkeep_SpoilInts.main R l0 w) : CallsV Tryd.prog n_trystkeep_SpoilInts #[.slice l0.a l0.len l0.cap] w R :=
  liftCalls (c := (.seq (.leaf (cL (bd Tryd.f23))) (.block 0 (.loop 1 (.seq (.seq (.leaf (cL (cL (cB (cB (cR (bd Tryd.f23))))))) (.cnd (.tmp 6) (.leaf (cT (cR (cL (cB (cB (cR (bd Tryd.f23)))))))) (.leaf (cE (cR (cL (cB (cB (cR (bd Tryd.f23)))))))))) (.seq (.block 1 (.leaf (cB (cL (cR (cB (cB (cR (bd Tryd.f23))))))))) (.leaf (cR (cR (cB (cB (cR (bd Tryd.f23))))))))))))) (J := trystkeep_SpoilInts.J0 R) LfYtpihglmgkfecbaaDoor.mixed Tryd.func23 (by kernel_rfl) (by kernel_rfl) (mkSeq (mkBlock (mkLoop (loopDef LfYtpihglmgkfecbaaDoor.mixed [(0, .slice), (2, (.int .i64))] (by kernel_rfl) (fun M1 x w => trystkeep_SpoilInts.b1 R (fun y0 y1 w => M1 (y0, y1) w) x.1 x.2 w) (fun M1 => fun _ _ _ => False) (fun _ _ _ => by kernel_rfl) (fun M1 => (mkSeq (mkSeq mkLeaf (mkBlock mkLeaf)) (mkSeq (mkCnd mkLeaf mkLeaf) mkLeaf))) (fun x w => trystkeep_SpoilInts.l1 R x.1 x.2 w) (by rintro ⟨c0, s0⟩ w ⟨I, μ, h0, h1⟩; refine ⟨fun y w => y.1 = c0 ∧ I y.2 w, fun y w => μ y.2 w, ⟨rfl, h0⟩, ?_⟩; rintro ⟨d0, t0⟩ w ⟨e0, hI⟩; dsimp only at e0 hI; subst e0; exact h1 _ _ hI) (fun _ _ => by kernel_rfl)))) mkLeaf) (kcast (by kernel_rfl) h)

/-! trystref10_Arena_Has -/
def trystref10_Arena_Has.b1 (R : Value → World → Prop) (N1 : Option Addr → Sl → Int → World → Prop) (a0 : Option Addr) (l1 : Sl) (i5 : Int) (w : World) : Prop :=
  cond (decide ((i5 : Int) < ((l1.len : Nat) : Int)))
  (0 ≤ (i5 : Int) ∧ i5 < ((l1.len : Nat) : Int) ∧ ∃ q_1 : Addr, l1.a = some q_1 ∧
  ∃ x_2 : Int, w.cell? (q_1.add (i5 : Int).toNat) = some (.int .i64 x_2) ∧
  cond (decide ((x_2 : Int) < 0))
  (R (.bool false) w.drew)
  (0 ≤ (i5 : Int) ∧ i5 < ((l1.len : Nat) : Int) ∧ ∃ q_3 : Addr, l1.a = some q_3 ∧
  ∃ x_4 : Int, w.cell? (q_3.add (i5 : Int).toNat) = some (.int .i64 x_4) ∧
  ∃ q_5 : Addr, a0 = some q_5 ∧
  ∃ (a_6 : Option Addr) (l_7 c_8 : Nat), w.cell? q_5 = some (.slice a_6 l_7 c_8) ∧
  cond (decide ((x_4 : Int) ≥ ((l_7 : Nat) : Int)))
  (R (.bool false) w.drew)
  ((let i5_8 : Int := (IntKind.i64.wrap (i5 + 1));
  N1 a0 l1 i5_8 w.drew))))
  (R (.bool true) w)

def trystref10_Arena_Has.l1 (R : Value → World → Prop) (a0 : Option Addr) (l1 : Sl) (i5 : Int) (w : World) : Prop :=
  ∃ (I : Int → World → Prop) (μ : Int → World → Nat), I i5 w ∧ ∀ s w, I s w → trystref10_Arena_Has.b1 R (fun a0' l1' i5' w' => (a0' = a0 ∧ l1' = l1 ∧ I i5' w') ∧ μ i5' w' < μ s w) a0 l1 s w

def trystref10_Arena_Has.main (R : Value → World → Prop) (a0 : Option Addr) (l1 : Sl) (w : World) : Prop :=
  trystref10_Arena_Has.l1 R a0 l1 0 w

def trystref10_Arena_Has.J0 (R : Value → World → Prop) (k : Nat) (fr : Fr) (w : World) : Prop :=
  cond (Nat.beq k 1) (dec [(0, .ptr), (1, .slice), (5, (.int .i64))] fr fun x => trystref10_Arena_Has.l1 R x.1 x.2.1 x.2.2 w) (False)

set_option maxRecDepth 100000 in
theorem trystref10_Arena_Has.lift {R : Value → World → Prop} {a0 : Option Addr} {l1 : Sl} {w : World} (h : trystref10_Arena_Has.main R a0 l1 w) : CallsV Tryd.prog n_trystref10_Arena_Has #[.pointer a0, .slice l1.a l1.len l1.cap] w R :=
  liftCalls (c := (.seq (.leaf (cL (bd Tryd.f24))) (.seq (.seq (.leaf (cL (cL (cR (bd Tryd.f24))))) (.block 0 (.loop 1 (.seq (.seq (.leaf (cL (cL (cB (cB (cR (cL (cR (bd Tryd.f24))))))))) (.cnd (.tmp 9) (.leaf (cT (cR (cL (cB (cB (cR (cL (cR (bd Tryd.f24)))))))))) (.leaf (cE (cR (cL (cB (cB (cR (cL (cR (bd Tryd.f24)))))))))))) (.seq (.block 1 (.seq (.leaf (cL (cB (cL (cR (cB (cB (cR (cL (cR (bd Tryd.f24))))))))))) (.cnd (.tmp 28) (.seq (.leaf (cL (cT (cR (cB (cL (cR (cB (cB (cR (cL (cR (bd Tryd.f24))))))))))))) (.leaf (cR (cT (cR (cB (cL (cR (cB (cB (cR (cL (cR (bd Tryd.f24)))))))))))))) (.leaf (cE (cR (cB (cL (cR (cB (cB (cR (cL (cR (bd Tryd.f24))))))))))))))) (.leaf (cR (cR (cB (cB (cR (cL (cR (bd Tryd.f24)))))))))))))) (.seq (.leaf (cL (cR (cR (bd Tryd.f24))))) (.leaf (cR (cR (cR (bd Tryd.f24))))))))) (J := trystref10_Arena_Has.J0 R) LfYtpihglmgkfecbaaDoor.mixed Tryd.func24 (by kernel_rfl) (by kernel_rfl) (mkSeq (mkSeq (mkSeq mkLeaf mkLeaf) (mkSeq (mkBlock (mkLoop (loopDef LfYtpihglmgkfecbaaDoor.mixed [(0, .ptr), (1, .slice), (5, (.int .i64))] (by kernel_rfl) (fun M1 x w => trystref10_Arena_Has.b1 R (fun y0 y1 y2 w => M1 (y0, y1, y2) w) x.1 x.2.1 x.2.2 w) (fun M1 => fun _ _ _ => False) (fun _ _ _ => by kernel_rfl) (fun M1 => (mkSeq (mkSeq mkLeaf (mkBlock (mkSeq (mkCnd (mkSeq mkLeaf mkLeaf) mkLeaf) mkLeaf))) (mkSeq (mkCnd mkLeaf mkLeaf) mkLeaf))) (fun x w => trystref10_Arena_Has.l1 R x.1 x.2.1 x.2.2 w) (by rintro ⟨c0, c1, s0⟩ w ⟨I, μ, h0, h1⟩; refine ⟨fun y w => y.1 = c0 ∧ y.2.1 = c1 ∧ I y.2.2 w, fun y w => μ y.2.2 w, ⟨rfl, rfl, h0⟩, ?_⟩; rintro ⟨d0, d1, t0⟩ w ⟨e0, e1, hI⟩; dsimp only at e0 e1 hI; subst e0; subst e1; exact h1 _ _ hI) (fun _ _ => by kernel_rfl)))) mkLeaf)) mkLeaf) (kcast (by kernel_rfl) h)

/-! term_Arena_Open -/
def term_Arena_Open.main (R : Value → World → Prop) (a0 : Option Addr) (seal1 : Int) (key2 : Int) (w : World) : Prop :=
  let w1 := w.alloc (.cells #[.int .i64 seal1, .int .i64 key2] 3);
  CallsV Tryd.prog n_term_Arena_Has #[.pointer a0, .slice (some (newA w)) 2 2] w1 (fun v_1 w2 =>
  ∃ b_2 : Bool, v_1 = .bool b_2 ∧
  cond (!b_2)
  (R (.tuple #[.slice none 0 0, .int .i64 8]) w2)
  (∃ q_3 : Addr, a0 = some q_3 ∧
  ∃ (a_4 : Option Addr) (l_5 c_6 : Nat), w2.cell? q_3 = some (.slice a_4 l_5 c_6) ∧
  0 ≤ (seal1 : Int) ∧ seal1 < ((l_5 : Nat) : Int) ∧ ∃ q_7 : Addr, a_4 = some q_7 ∧
  ∃ x_8 : Int, w2.cell? (q_7.add ((seal1 : Int).toNat * 3)) = some (.int .i64 x_8) ∧
  cond ((x_8 : Int) != 6)
  (R (.tuple #[.slice none 0 0, .int .i64 6]) w2)
  (∃ q_9 : Addr, a0 = some q_9 ∧
  ∃ (a_10 : Option Addr) (l_11 c_12 : Nat), w2.cell? q_9 = some (.slice a_10 l_11 c_12) ∧
  0 ≤ (seal1 : Int) ∧ seal1 < ((l_11 : Nat) : Int) ∧ ∃ q_13 : Addr, a_10 = some q_13 ∧
  ∃ (a_14 : Option Addr) (l_15 c_16 : Nat), w2.cell? ((q_13.add ((seal1 : Int).toNat * 3)).add 2) = some (.slice a_14 l_15 c_16) ∧
  0 ≤ (0 : Int) ∧ 0 < ((l_15 : Nat) : Int) ∧ ∃ q_17 : Addr, a_14 = some q_17 ∧
  ∃ x_18 : Int, w2.cell? (q_17.add (0 : Int).toNat) = some (.int .i64 x_18) ∧
  cond ((x_18 : Int) != key2)
  (R (.tuple #[.slice none 0 0, .int .i64 3]) w2)
  (∃ q_19 : Addr, a0 = some q_19 ∧
  ∃ (a_20 : Option Addr) (l_21 c_22 : Nat), w2.cell? q_19 = some (.slice a_20 l_21 c_22) ∧
  0 ≤ (seal1 : Int) ∧ seal1 < ((l_21 : Nat) : Int) ∧ ∃ q_23 : Addr, a_20 = some q_23 ∧
  ∃ (a_24 : Option Addr) (l_25 c_26 : Nat), w2.cell? ((q_23.add ((seal1 : Int).toNat * 3)).add 2) = some (.slice a_24 l_25 c_26) ∧
  0 ≤ (1 : Int) ∧ (1 : Int) ≤ ((l_25 : Nat) : Int) ∧ (((l_25 : Nat) : Int) : Int) ≤ ((c_26 : Nat) : Int) ∧ (((c_26 : Nat) : Int) : Int) ≤ ((c_26 : Nat) : Int) ∧
  CallsV Tryd.prog n_slices_Clone_int #[.slice (if ((((c_26 : Nat) : Int) : Int)).toNat = ((1 : Int)).toNat then a_24 else (a_24).map (·.add ((1 : Int)).toNat)) (((((l_25 : Nat) : Int) : Int)).toNat - ((1 : Int)).toNat) (((((c_26 : Nat) : Int) : Int)).toNat - ((1 : Int)).toNat)] w2 (fun v_27 w3 =>
  ∃ (a_28 : Option Addr) (l_29 c_30 : Nat), v_27 = .slice a_28 l_29 c_30 ∧
  R (.tuple #[.slice a_28 l_29 c_30, .int .i64 0]) w3)))))

def term_Arena_Open.J0 (_ : Value → World → Prop) (_ : Nat) (_ : Fr) (_ : World) : Prop := False

set_option maxRecDepth 100000 in
theorem term_Arena_Open.lift {R : Value → World → Prop} {a0 : Option Addr} {seal1 : Int} {key2 : Int} {w : World} (h : term_Arena_Open.main R a0 seal1 key2 w) : CallsV Tryd.prog n_term_Arena_Open #[.pointer a0, .int .i64 seal1, .int .i64 key2] w R :=
  liftCalls (c := (.seq (.leaf (cL (bd Tryd.f25))) (.seq (.block 0 (.seq (.leaf (cL (cB (cL (cR (bd Tryd.f25)))))) (.cnd (.tmp 8) (.seq (.leaf (cL (cT (cR (cB (cL (cR (bd Tryd.f25)))))))) (.leaf (cR (cT (cR (cB (cL (cR (bd Tryd.f25))))))))) (.seq (.leaf (cL (cE (cR (cB (cL (cR (bd Tryd.f25)))))))) (.cnd (.tmp 15) (.seq (.leaf (cL (cT (cR (cE (cR (cB (cL (cR (bd Tryd.f25)))))))))) (.leaf (cR (cT (cR (cE (cR (cB (cL (cR (bd Tryd.f25))))))))))) (.seq (.leaf (cL (cE (cR (cE (cR (cB (cL (cR (bd Tryd.f25)))))))))) (.cnd (.tmp 25) (.seq (.leaf (cL (cT (cR (cE (cR (cE (cR (cB (cL (cR (bd Tryd.f25)))))))))))) (.leaf (cR (cT (cR (cE (cR (cE (cR (cB (cL (cR (bd Tryd.f25))))))))))))) (.leaf (cE (cR (cE (cR (cE (cR (cB (cL (cR (bd Tryd.f25)))))))))))))))))) (.seq (.leaf (cL (cR (cR (bd Tryd.f25))))) (.leaf (cR (cR (cR (bd Tryd.f25))))))))) (J := term_Arena_Open.J0 R) LfYtpihglmgkfecbaaDoor.mixed Tryd.func25 (by kernel_rfl) (by kernel_rfl) (mkSeq (mkSeq (mkSeq mkLeaf mkLeaf) (mkBlock (mkSeq (mkCnd (mkSeq mkLeaf mkLeaf) (mkSeq (mkCnd (mkSeq mkLeaf mkLeaf) (mkSeq (mkCnd (mkSeq mkLeaf mkLeaf) mkLeaf) mkLeaf)) mkLeaf)) mkLeaf))) mkLeaf) (kcast (by kernel_rfl) h)

/-! term_Arena_Unbox -/
def term_Arena_Unbox.c1 (R : Value → World → Prop) (t8 : Addr) (w : World) : Prop :=
  ∃ (a_1 : Option Addr) (l_2 c_3 : Nat), w.cell? (t8.add 2) = some (.slice a_1 l_2 c_3) ∧
  0 ≤ (2 : Int) ∧ (2 : Int) ≤ ((l_2 : Nat) : Int) ∧ (((l_2 : Nat) : Int) : Int) ≤ ((c_3 : Nat) : Int) ∧ (((c_3 : Nat) : Int) : Int) ≤ ((c_3 : Nat) : Int) ∧
  CallsV Tryd.prog n_slices_Clone_int #[.slice (if ((((c_3 : Nat) : Int) : Int)).toNat = ((2 : Int)).toNat then a_1 else (a_1).map (·.add ((2 : Int)).toNat)) (((((l_2 : Nat) : Int) : Int)).toNat - ((2 : Int)).toNat) (((((c_3 : Nat) : Int) : Int)).toNat - ((2 : Int)).toNat)] w (fun v_4 w1 =>
  ∃ (a_5 : Option Addr) (l_6 c_7 : Nat), v_4 = .slice a_5 l_6 c_7 ∧
  R (.tuple #[.slice a_5 l_6 c_7, .int .i64 0]) w1)

def term_Arena_Unbox.main (R : Value → World → Prop) (a0 : Option Addr) (box1 : Int) (secret2 : Int) (w : World) : Prop :=
  let w2 := w.alloc (.cells #[.int .i64 box1, .int .i64 secret2] 3);
  CallsV Tryd.prog n_term_Arena_Has #[.pointer a0, .slice (some (newA w)) 2 2] w2 (fun v_8 w3 =>
  ∃ b_9 : Bool, v_8 = .bool b_9 ∧
  cond (!b_9)
  (R (.tuple #[.slice none 0 0, .int .i64 8]) w3)
  (∃ q_10 : Addr, a0 = some q_10 ∧
  ∃ (a_11 : Option Addr) (l_12 c_13 : Nat), w3.cell? q_10 = some (.slice a_11 l_12 c_13) ∧
  0 ≤ (box1 : Int) ∧ box1 < ((l_12 : Nat) : Int) ∧ ∃ q_14 : Addr, a_11 = some q_14 ∧
  ∃ x_15 : Int, w3.cell? (q_14.add ((box1 : Int).toNat * 3)) = some (.int .i64 x_15) ∧
  ∃ x_16 : Int, w3.cell? ((q_14.add ((box1 : Int).toNat * 3)).add 1) = some (.int .i64 x_16) ∧
  ∃ (a_17 : Option Addr) (l_18 c_19 : Nat), w3.cell? ((q_14.add ((box1 : Int).toNat * 3)).add 2) = some (.slice a_17 l_18 c_19) ∧
  let w4 := w3.alloc (.cells #[.int .i64 0, .int .i64 0, .slice none 0 0] 43);
  (∀ j, j < 3 → Wr w4 ((newA w3).add j)) ∧
  (let w5 := setCells (newA w3) [.int .i64 x_15, .int .i64 x_16, .slice a_17 l_18 c_19] 0 w4;
  ∃ x_20 : Int, w5.cell? (newA w3) = some (.int .i64 x_20) ∧
  cond ((x_20 : Int) != 7)
  (R (.tuple #[.slice none 0 0, .int .i64 6]) w5)
  (∃ S_21 : World → Prop, S_21 w5.drew ∧
  ∃ q_22 : Addr, a0 = some q_22 ∧
  ∃ (a_23 : Option Addr) (l_24 c_25 : Nat), (∀ x, S_21 x → x.cell? q_22 = some (.slice a_23 l_24 c_25)) ∧
  ∃ (a_26 : Option Addr) (l_27 c_28 : Nat), (∀ x, S_21 x → x.cell? ((newA w3).add 2) = some (.slice a_26 l_27 c_28)) ∧
  0 ≤ (0 : Int) ∧ 0 < ((l_27 : Nat) : Int) ∧ ∃ q_29 : Addr, a_26 = some q_29 ∧
  ∃ x_30 : Int, (∀ x, S_21 x → x.cell? (q_29.add (0 : Int).toNat) = some (.int .i64 x_30)) ∧
  0 ≤ (x_30 : Int) ∧ x_30 < ((l_24 : Nat) : Int) ∧ ∃ q_31 : Addr, a_23 = some q_31 ∧
  ∃ x_32 : Int, (∀ x, S_21 x → x.cell? (q_31.add ((x_30 : Int).toNat * 3)) = some (.int .i64 x_32)) ∧
  ∃ x_33 : Int, (∀ x, S_21 x → x.cell? ((q_31.add ((x_30 : Int).toNat * 3)).add 1) = some (.int .i64 x_33)) ∧
  ∃ (a_34 : Option Addr) (l_35 c_36 : Nat), (∀ x, S_21 x → x.cell? ((q_31.add ((x_30 : Int).toNat * 3)).add 2) = some (.slice a_34 l_35 c_36)) ∧
  let w6 := w5.drew.alloc (.cells #[.int .i64 0, .int .i64 0, .slice none 0 0] 43);
  S_21 w6 ∧
  (∀ j, j < 3 → Wr w6 ((newA w5.drew).add j)) ∧
  (let w7 := setCells (newA w5.drew) [.int .i64 x_32, .int .i64 x_33, .slice a_34 l_35 c_36] 0 w6;
  ∃ x_37 : Int, w7.cell? (newA w5.drew) = some (.int .i64 x_37) ∧
  cond ((x_37 : Int) != 5)
  (R (.tuple #[.slice none 0 0, .int .i64 3]) w7)
  (∃ (a_38 : Option Addr) (l_39 c_40 : Nat), w7.cell? ((newA w5.drew).add 2) = some (.slice a_38 l_39 c_40) ∧
  0 ≤ (0 : Int) ∧ 0 < ((l_39 : Nat) : Int) ∧ ∃ q_41 : Addr, a_38 = some q_41 ∧
  ∃ x_42 : Int, w7.cell? (q_41.add (0 : Int).toNat) = some (.int .i64 x_42) ∧
  cond ((x_42 : Int) != secret2)
  (R (.tuple #[.slice none 0 0, .int .i64 3]) w7)
  (term_Arena_Unbox.c1 R (newA w3) w7)))))))

def term_Arena_Unbox.J0 (R : Value → World → Prop) (k : Nat) (fr : Fr) (w : World) : Prop :=
  cond (Nat.beq k 1) (dec [(8, .addr)] fr fun x => term_Arena_Unbox.c1 R x w) (False)

set_option maxRecDepth 100000 in
theorem term_Arena_Unbox.lift {R : Value → World → Prop} {a0 : Option Addr} {box1 : Int} {secret2 : Int} {w : World} (h : term_Arena_Unbox.main R a0 box1 secret2 w) : CallsV Tryd.prog n_term_Arena_Unbox #[.pointer a0, .int .i64 box1, .int .i64 secret2] w R :=
  liftCalls (c := (.seq (.leaf (cL (bd Tryd.f26))) (.seq (.seq (.leaf (cL (cL (cR (bd Tryd.f26))))) (.cnd (.tmp 15) (.seq (.leaf (cL (cT (cR (cL (cR (bd Tryd.f26))))))) (.leaf (cR (cT (cR (cL (cR (bd Tryd.f26)))))))) (.leaf (cE (cR (cL (cR (bd Tryd.f26)))))))) (.seq (.leaf (cL (cR (cR (bd Tryd.f26))))) (.seq (.seq (.leaf (cL (cL (cR (cR (cR (bd Tryd.f26))))))) (.cnd (.tmp 25) (.seq (.leaf (cL (cT (cR (cL (cR (cR (cR (bd Tryd.f26))))))))) (.leaf (cR (cT (cR (cL (cR (cR (cR (bd Tryd.f26)))))))))) (.leaf (cE (cR (cL (cR (cR (cR (bd Tryd.f26)))))))))) (.seq (.leaf (cL (cR (cR (cR (cR (bd Tryd.f26))))))) (.seq (.seq (.leaf (cL (cL (cR (cR (cR (cR (cR (bd Tryd.f26))))))))) (.cnd (.tmp 46) (.seq (.leaf (cL (cT (cR (cL (cR (cR (cR (cR (cR (bd Tryd.f26))))))))))) (.leaf (cR (cT (cR (cL (cR (cR (cR (cR (cR (bd Tryd.f26)))))))))))) (.leaf (cE (cR (cL (cR (cR (cR (cR (cR (bd Tryd.f26)))))))))))) (.cut 1 (.seq (.leaf (cL (cR (cR (cR (cR (cR (cR (bd Tryd.f26))))))))) (.leaf (cR (cR (cR (cR (cR (cR (cR (bd Tryd.f26)))))))))))))))))) (J := term_Arena_Unbox.J0 R) LfYtpihglmgkfecbaaDoor.mixed Tryd.func26 (by kernel_rfl) (by kernel_rfl) (mkSeq (mkSeq (mkSeq (mkSeq (mkSeq (mkSeq (mkCut (cutDef [(8, .addr)] (fun x w => term_Arena_Unbox.c1 R x w) (fun _ _ => by kernel_rfl) (fun _ _ => by kernel_rfl)) (mkSeq mkLeaf mkLeaf)) (mkSeq (mkCnd (mkSeq mkLeaf mkLeaf) mkLeaf) mkLeaf)) mkLeaf) (mkSeq (mkCnd (mkSeq mkLeaf mkLeaf) mkLeaf) mkLeaf)) mkLeaf) (mkSeq (mkCnd (mkSeq mkLeaf mkLeaf) mkLeaf) mkLeaf)) mkLeaf) (kcast (by kernel_rfl) h)

/-! term_Arena_Signed -/
def term_Arena_Signed.c1 (R : Value → World → Prop) (s8 : Addr) (w : World) : Prop :=
  ∃ (a_1 : Option Addr) (l_2 c_3 : Nat), w.cell? (s8.add 2) = some (.slice a_1 l_2 c_3) ∧
  0 ≤ (1 : Int) ∧ (1 : Int) ≤ ((l_2 : Nat) : Int) ∧ (((l_2 : Nat) : Int) : Int) ≤ ((c_3 : Nat) : Int) ∧ (((c_3 : Nat) : Int) : Int) ≤ ((c_3 : Nat) : Int) ∧
  CallsV Tryd.prog n_slices_Clone_int #[.slice (if ((((c_3 : Nat) : Int) : Int)).toNat = ((1 : Int)).toNat then a_1 else (a_1).map (·.add ((1 : Int)).toNat)) (((((l_2 : Nat) : Int) : Int)).toNat - ((1 : Int)).toNat) (((((c_3 : Nat) : Int) : Int)).toNat - ((1 : Int)).toNat)] w (fun v_4 w1 =>
  ∃ (a_5 : Option Addr) (l_6 c_7 : Nat), v_4 = .slice a_5 l_6 c_7 ∧
  R (.tuple #[.slice a_5 l_6 c_7, .int .i64 0]) w1)

def term_Arena_Signed.c2 (R : Value → World → Prop) (s8 : Addr) (p9 : Addr) (w : World) : Prop :=
  ∃ (a_8 : Option Addr) (l_9 c_10 : Nat), w.cell? (s8.add 2) = some (.slice a_8 l_9 c_10) ∧
  0 ≤ (0 : Int) ∧ 0 < ((l_9 : Nat) : Int) ∧ ∃ q_11 : Addr, a_8 = some q_11 ∧
  ∃ x_12 : Int, w.cell? (q_11.add (0 : Int).toNat) = some (.int .i64 x_12) ∧
  ∃ (a_13 : Option Addr) (l_14 c_15 : Nat), w.cell? (p9.add 2) = some (.slice a_13 l_14 c_15) ∧
  0 ≤ (0 : Int) ∧ 0 < ((l_14 : Nat) : Int) ∧ ∃ q_16 : Addr, a_13 = some q_16 ∧
  ∃ x_17 : Int, w.cell? (q_16.add (0 : Int).toNat) = some (.int .i64 x_17) ∧
  cond ((x_12 : Int) != x_17)
  (R (.tuple #[.slice none 0 0, .int .i64 15]) w.drew)
  (term_Arena_Signed.c1 R s8 w.drew)

def term_Arena_Signed.main (R : Value → World → Prop) (a0 : Option Addr) (sig1 : Int) (pub2 : Int) (w : World) : Prop :=
  let w2 := w.alloc (.cells #[.int .i64 sig1, .int .i64 pub2] 3);
  CallsV Tryd.prog n_term_Arena_Has #[.pointer a0, .slice (some (newA w)) 2 2] w2 (fun v_18 w3 =>
  ∃ b_19 : Bool, v_18 = .bool b_19 ∧
  cond (!b_19)
  (R (.tuple #[.slice none 0 0, .int .i64 8]) w3)
  (∃ S_20 : World → Prop, S_20 w3.drew ∧
  ∃ q_21 : Addr, a0 = some q_21 ∧
  ∃ (a_22 : Option Addr) (l_23 c_24 : Nat), (∀ x, S_20 x → x.cell? q_21 = some (.slice a_22 l_23 c_24)) ∧
  0 ≤ (sig1 : Int) ∧ sig1 < ((l_23 : Nat) : Int) ∧ ∃ q_25 : Addr, a_22 = some q_25 ∧
  ∃ x_26 : Int, (∀ x, S_20 x → x.cell? (q_25.add ((sig1 : Int).toNat * 3)) = some (.int .i64 x_26)) ∧
  ∃ x_27 : Int, (∀ x, S_20 x → x.cell? ((q_25.add ((sig1 : Int).toNat * 3)).add 1) = some (.int .i64 x_27)) ∧
  ∃ (a_28 : Option Addr) (l_29 c_30 : Nat), (∀ x, S_20 x → x.cell? ((q_25.add ((sig1 : Int).toNat * 3)).add 2) = some (.slice a_28 l_29 c_30)) ∧
  ∃ q_31 : Addr, a0 = some q_31 ∧
  ∃ (a_32 : Option Addr) (l_33 c_34 : Nat), (∀ x, S_20 x → x.cell? q_31 = some (.slice a_32 l_33 c_34)) ∧
  0 ≤ (pub2 : Int) ∧ pub2 < ((l_33 : Nat) : Int) ∧ ∃ q_35 : Addr, a_32 = some q_35 ∧
  ∃ x_36 : Int, (∀ x, S_20 x → x.cell? (q_35.add ((pub2 : Int).toNat * 3)) = some (.int .i64 x_36)) ∧
  ∃ x_37 : Int, (∀ x, S_20 x → x.cell? ((q_35.add ((pub2 : Int).toNat * 3)).add 1) = some (.int .i64 x_37)) ∧
  ∃ (a_38 : Option Addr) (l_39 c_40 : Nat), (∀ x, S_20 x → x.cell? ((q_35.add ((pub2 : Int).toNat * 3)).add 2) = some (.slice a_38 l_39 c_40)) ∧
  (let w4 := w3.drew.alloc (.cells #[.int .i64 0, .int .i64 0, .slice none 0 0] 43);
  S_20 w4 ∧
  let w5 := w4.alloc (.cells #[.int .i64 0, .int .i64 0, .slice none 0 0] 43);
  S_20 w5 ∧
  (∀ j, j < 3 → Wr w5 ((newA w3.drew).add j)) ∧
  (let w6 := setCells (newA w3.drew) [.int .i64 x_26, .int .i64 x_27, .slice a_28 l_29 c_30] 0 w5;
  S_20 w6 ∧
  (∀ j, j < 3 → Wr w6 ((newA w4).add j)) ∧
  (let w7 := setCells (newA w4) [.int .i64 x_36, .int .i64 x_37, .slice a_38 l_39 c_40] 0 w6;
  ∃ x_41 : Int, w7.cell? (newA w3.drew) = some (.int .i64 x_41) ∧
  cond ((x_41 : Int) != 8)
  (R (.tuple #[.slice none 0 0, .int .i64 6]) w7)
  (∃ x_42 : Int, w7.cell? (newA w4) = some (.int .i64 x_42) ∧
  cond ((x_42 : Int) != 5)
  (R (.tuple #[.slice none 0 0, .int .i64 6]) w7)
  (term_Arena_Signed.c2 R (newA w3.drew) (newA w4) w7))))) ∧
  (let w8 := w3.drew.alloc (.cells #[.int .i64 0, .int .i64 0, .slice none 0 0] 43);
  S_20 w8 ∧
  let w9 := w8.alloc (.cells #[.int .i64 0, .int .i64 0, .slice none 0 0] 43);
  S_20 w9 ∧
  (∀ j, j < 3 → Wr w9 ((newA w8).add j)) ∧
  (let w10 := setCells (newA w8) [.int .i64 x_26, .int .i64 x_27, .slice a_28 l_29 c_30] 0 w9;
  S_20 w10 ∧
  (∀ j, j < 3 → Wr w10 ((newA w3.drew).add j)) ∧
  (let w11 := setCells (newA w3.drew) [.int .i64 x_36, .int .i64 x_37, .slice a_38 l_39 c_40] 0 w10;
  ∃ x_43 : Int, w11.cell? (newA w8) = some (.int .i64 x_43) ∧
  cond ((x_43 : Int) != 8)
  (R (.tuple #[.slice none 0 0, .int .i64 6]) w11)
  (∃ x_44 : Int, w11.cell? (newA w3.drew) = some (.int .i64 x_44) ∧
  cond ((x_44 : Int) != 5)
  (R (.tuple #[.slice none 0 0, .int .i64 6]) w11)
  (term_Arena_Signed.c2 R (newA w8) (newA w3.drew) w11)))))))

def term_Arena_Signed.J0 (R : Value → World → Prop) (k : Nat) (fr : Fr) (w : World) : Prop :=
  cond (Nat.beq k 2) (dec [(8, .addr), (9, .addr)] fr fun x => term_Arena_Signed.c2 R x.1 x.2 w) (cond (Nat.beq k 1) (dec [(8, .addr)] fr fun x => term_Arena_Signed.c1 R x w) (False))

set_option maxRecDepth 100000 in
theorem term_Arena_Signed.lift {R : Value → World → Prop} {a0 : Option Addr} {sig1 : Int} {pub2 : Int} {w : World} (h : term_Arena_Signed.main R a0 sig1 pub2 w) : CallsV Tryd.prog n_term_Arena_Signed #[.pointer a0, .int .i64 sig1, .int .i64 pub2] w R :=
  liftCalls (c := (.seq (.leaf (cL (bd Tryd.f27))) (.seq (.seq (.leaf (cL (cL (cR (bd Tryd.f27))))) (.cnd (.tmp 15) (.seq (.leaf (cL (cT (cR (cL (cR (bd Tryd.f27))))))) (.leaf (cR (cT (cR (cL (cR (bd Tryd.f27)))))))) (.leaf (cE (cR (cL (cR (bd Tryd.f27)))))))) (.seq (.leaf (cL (cR (cR (bd Tryd.f27))))) (.seq (.block 0 (.seq (.leaf (cL (cB (cL (cR (cR (cR (bd Tryd.f27)))))))) (.cnd (.tmp 30) (.seq (.leaf (cL (cT (cR (cB (cL (cR (cR (cR (bd Tryd.f27)))))))))) (.leaf (cR (cT (cR (cB (cL (cR (cR (cR (bd Tryd.f27))))))))))) (.cut 2 (.seq (.leaf (cL (cE (cR (cB (cL (cR (cR (cR (bd Tryd.f27)))))))))) (.cnd (.tmp 39) (.seq (.leaf (cL (cT (cR (cE (cR (cB (cL (cR (cR (cR (bd Tryd.f27)))))))))))) (.leaf (cR (cT (cR (cE (cR (cB (cL (cR (cR (cR (bd Tryd.f27))))))))))))) (.leaf (cE (cR (cE (cR (cB (cL (cR (cR (cR (bd Tryd.f27))))))))))))))))) (.cut 1 (.seq (.leaf (cL (cR (cR (cR (cR (bd Tryd.f27))))))) (.leaf (cR (cR (cR (cR (cR (bd Tryd.f27)))))))))))))) (J := term_Arena_Signed.J0 R) LfYtpihglmgkfecbaaDoor.mixed Tryd.func27 (by kernel_rfl) (by kernel_rfl) (mkSeq (mkSeq (mkSeq (mkSeq (mkCut (cutDef [(8, .addr)] (fun x w => term_Arena_Signed.c1 R x w) (fun _ _ => by kernel_rfl) (fun _ _ => by kernel_rfl)) (mkSeq mkLeaf mkLeaf)) (mkBlock (mkSeq (mkCnd (mkSeq mkLeaf mkLeaf) (mkCut (cutDef [(8, .addr), (9, .addr)] (fun x w => term_Arena_Signed.c2 R x.1 x.2 w) (fun _ _ => by kernel_rfl) (fun _ _ => by kernel_rfl)) (mkSeq (mkCnd (mkSeq mkLeaf mkLeaf) mkLeaf) mkLeaf))) mkLeaf))) mkLeaf) (mkSeq (mkCnd (mkSeq mkLeaf mkLeaf) mkLeaf) mkLeaf)) mkLeaf) (kcast (by kernel_rfl) h)

/-! trystkeep_Ints -/
def trystkeep_Ints.b1 (R : Value → World → Prop) (N1 : Sl → Sl → Int → World → Prop) (a0 : Sl) (b1 : Sl) (i5 : Int) (w : World) : Prop :=
  cond (decide ((i5 : Int) < ((a0.len : Nat) : Int)))
  (0 ≤ (i5 : Int) ∧ i5 < ((a0.len : Nat) : Int) ∧ ∃ q_1 : Addr, a0.a = some q_1 ∧
  ∃ x_2 : Int, w.cell? (q_1.add (i5 : Int).toNat) = some (.int .i64 x_2) ∧
  0 ≤ (i5 : Int) ∧ i5 < ((b1.len : Nat) : Int) ∧ ∃ q_3 : Addr, b1.a = some q_3 ∧
  ∃ x_4 : Int, w.cell? (q_3.add (i5 : Int).toNat) = some (.int .i64 x_4) ∧
  cond ((x_2 : Int) != x_4)
  (R (.bool false) w.drew)
  ((let i5_4 : Int := (IntKind.i64.wrap (i5 + 1));
  N1 a0 b1 i5_4 w.drew)))
  (R (.bool true) w)

def trystkeep_Ints.l1 (R : Value → World → Prop) (a0 : Sl) (b1 : Sl) (i5 : Int) (w : World) : Prop :=
  ∃ (I : Int → World → Prop) (μ : Int → World → Nat), I i5 w ∧ ∀ s w, I s w → trystkeep_Ints.b1 R (fun a0' b1' i5' w' => (a0' = a0 ∧ b1' = b1 ∧ I i5' w') ∧ μ i5' w' < μ s w) a0 b1 s w

def trystkeep_Ints.main (R : Value → World → Prop) (a0 : Sl) (b1 : Sl) (w : World) : Prop :=
  cond ((((a0.len : Nat) : Int) : Int) != ((b1.len : Nat) : Int))
  (R (.bool false) w)
  (trystkeep_Ints.l1 R a0 b1 0 w)

def trystkeep_Ints.J0 (R : Value → World → Prop) (k : Nat) (fr : Fr) (w : World) : Prop :=
  cond (Nat.beq k 1) (dec [(0, .slice), (1, .slice), (5, (.int .i64))] fr fun x => trystkeep_Ints.l1 R x.1 x.2.1 x.2.2 w) (False)

set_option maxRecDepth 100000 in
theorem trystkeep_Ints.lift {R : Value → World → Prop} {a0 : Sl} {b1 : Sl} {w : World} (h : trystkeep_Ints.main R a0 b1 w) : CallsV Tryd.prog n_trystkeep_Ints #[.slice a0.a a0.len a0.cap, .slice b1.a b1.len b1.cap] w R :=
  liftCalls (c := (.seq (.leaf (cL (bd Tryd.f28))) (.seq (.seq (.leaf (cL (cL (cR (bd Tryd.f28))))) (.cnd (.tmp 10) (.seq (.leaf (cL (cT (cR (cL (cR (bd Tryd.f28))))))) (.leaf (cR (cT (cR (cL (cR (bd Tryd.f28)))))))) (.leaf (cE (cR (cL (cR (bd Tryd.f28)))))))) (.seq (.seq (.leaf (cL (cL (cR (cR (bd Tryd.f28)))))) (.block 0 (.loop 1 (.seq (.seq (.leaf (cL (cL (cB (cB (cR (cL (cR (cR (bd Tryd.f28)))))))))) (.cnd (.tmp 14) (.leaf (cT (cR (cL (cB (cB (cR (cL (cR (cR (bd Tryd.f28))))))))))) (.leaf (cE (cR (cL (cB (cB (cR (cL (cR (cR (bd Tryd.f28))))))))))))) (.seq (.block 1 (.seq (.leaf (cL (cB (cL (cR (cB (cB (cR (cL (cR (cR (bd Tryd.f28)))))))))))) (.cnd (.tmp 25) (.seq (.leaf (cL (cT (cR (cB (cL (cR (cB (cB (cR (cL (cR (cR (bd Tryd.f28)))))))))))))) (.leaf (cR (cT (cR (cB (cL (cR (cB (cB (cR (cL (cR (cR (bd Tryd.f28))))))))))))))) (.leaf (cE (cR (cB (cL (cR (cB (cB (cR (cL (cR (cR (bd Tryd.f28)))))))))))))))) (.leaf (cR (cR (cB (cB (cR (cL (cR (cR (bd Tryd.f28))))))))))))))) (.seq (.leaf (cL (cR (cR (cR (bd Tryd.f28)))))) (.leaf (cR (cR (cR (cR (bd Tryd.f28))))))))))) (J := trystkeep_Ints.J0 R) LfYtpihglmgkfecbaaDoor.mixed Tryd.func28 (by kernel_rfl) (by kernel_rfl) (mkSeq (mkSeq (mkSeq (mkSeq mkLeaf mkLeaf) (mkSeq (mkBlock (mkLoop (loopDef LfYtpihglmgkfecbaaDoor.mixed [(0, .slice), (1, .slice), (5, (.int .i64))] (by kernel_rfl) (fun M1 x w => trystkeep_Ints.b1 R (fun y0 y1 y2 w => M1 (y0, y1, y2) w) x.1 x.2.1 x.2.2 w) (fun M1 => fun _ _ _ => False) (fun _ _ _ => by kernel_rfl) (fun M1 => (mkSeq (mkSeq mkLeaf (mkBlock (mkSeq (mkCnd (mkSeq mkLeaf mkLeaf) mkLeaf) mkLeaf))) (mkSeq (mkCnd mkLeaf mkLeaf) mkLeaf))) (fun x w => trystkeep_Ints.l1 R x.1 x.2.1 x.2.2 w) (by rintro ⟨c0, c1, s0⟩ w ⟨I, μ, h0, h1⟩; refine ⟨fun y w => y.1 = c0 ∧ y.2.1 = c1 ∧ I y.2.2 w, fun y w => μ y.2.2 w, ⟨rfl, rfl, h0⟩, ?_⟩; rintro ⟨d0, d1, t0⟩ w ⟨e0, e1, hI⟩; dsimp only at e0 e1 hI; subst e0; subst e1; exact h1 _ _ hI) (fun _ _ => by kernel_rfl)))) mkLeaf)) (mkSeq (mkCnd (mkSeq mkLeaf mkLeaf) mkLeaf) mkLeaf)) mkLeaf) (kcast (by kernel_rfl) h)

/-! term_Arena_Beneath -/
def term_Arena_Beneath.c1 (R : Value → World → Prop) (out7 : Sl) (w : World) : Prop :=
  CallsV Tryd.prog n_slices_Reverse_int #[.slice out7.a out7.len out7.cap] w (fun v_1 w1 =>
  v_1 = .tuple #[] ∧
  R (.tuple #[.slice out7.a out7.len out7.cap, .int .i64 0]) w1)

def term_Arena_Beneath.b3 (R : Value → World → Prop) (N2 : Option Addr → Sl → Sl → Int → World → Prop) (N3 : Option Addr → Sl → Sl → Int → Sl → Int → Int → World → Prop) (a0 : Option Addr) (come6 : Sl) (out7 : Sl) (k8 : Int) (t43 : Sl) (t44 : Int) (t45 : Int) (w : World) : Prop :=
  cond (decide ((t45 : Int) < t44))
  (0 ≤ (t45 : Int) ∧ t45 < ((t43.len : Nat) : Int) ∧ ∃ q_2 : Addr, t43.a = some q_2 ∧
  ∃ x_3 : Int, w.cell? (q_2.add (t45 : Int).toNat) = some (.int .i64 x_3) ∧
  0 ≤ (x_3 : Int) ∧ x_3 < ((come6.len : Nat) : Int) ∧ ∃ q_4 : Addr, come6.a = some q_4 ∧
  Wr w (q_4.add (x_3 : Int).toNat) ∧
  (let w2 := w.setCell (q_4.add (x_3 : Int).toNat) (.bool true);
  N3 a0 come6 out7 k8 t43 t44 (IntKind.i64.wrap (t45 + 1)) w2))
  ((let k8_4 : Int := (IntKind.i64.wrap (k8 - 1));
  N2 a0 come6 out7 k8_4 w))

def term_Arena_Beneath.l3 (R : Value → World → Prop) (N2 : Option Addr → Sl → Sl → Int → World → Prop) (a0 : Option Addr) (come6 : Sl) (out7 : Sl) (k8 : Int) (t43 : Sl) (t44 : Int) (t45 : Int) (w : World) : Prop :=
  ∃ (I : Int → World → Prop) (μ : Int → World → Nat), I t45 w ∧ ∀ s w, I s w → term_Arena_Beneath.b3 R N2 (fun a0' come6' out7' k8' t43' t44' t45' w' => (a0' = a0 ∧ come6' = come6 ∧ out7' = out7 ∧ k8' = k8 ∧ t43' = t43 ∧ t44' = t44 ∧ I t45' w') ∧ μ t45' w' < μ s w) a0 come6 out7 k8 t43 t44 s w

def term_Arena_Beneath.b2 (R : Value → World → Prop) (N2 : Option Addr → Sl → Sl → Int → World → Prop) (a0 : Option Addr) (come6 : Sl) (out7 : Sl) (k8 : Int) (w : World) : Prop :=
  cond (decide ((k8 : Int) ≥ 0))
  (0 ≤ (k8 : Int) ∧ k8 < ((come6.len : Nat) : Int) ∧ ∃ q_6 : Addr, come6.a = some q_6 ∧
  ∃ b_7 : Bool, w.cell? (q_6.add (k8 : Int).toNat) = some (.bool b_7) ∧
  cond (!b_7)
  ((let k8_7 : Int := (IntKind.i64.wrap (k8 - 1));
  N2 a0 come6 out7 k8_7 w))
  (let w3 := w.alloc (.cells #[.int .i64 k8] 3);
  ∃ (a_9 : Option Addr) (l_10 c_11 : Nat), ∃ w4 : World, (builtin .append #[29, 29] 29 #[] #[.slice out7.a out7.len out7.cap, .slice (some (newA w)) 1 1]).run Tryd.prog w3 = .ok (.value (.slice a_9 l_10 c_11)) w4 ∧
  ∃ q_12 : Addr, a0 = some q_12 ∧
  ∃ (a_13 : Option Addr) (l_14 c_15 : Nat), w4.cell? q_12 = some (.slice a_13 l_14 c_15) ∧
  0 ≤ (k8 : Int) ∧ k8 < ((l_14 : Nat) : Int) ∧ ∃ q_16 : Addr, a_13 = some q_16 ∧
  ∃ (a_17 : Option Addr) (l_18 c_19 : Nat), w4.cell? ((q_16.add ((k8 : Int).toNat * 3)).add 2) = some (.slice a_17 l_18 c_19) ∧
  term_Arena_Beneath.l3 R N2 a0 come6 ⟨a_9, l_10, c_11⟩ k8 ⟨a_17, l_18, c_19⟩ ((l_18 : Nat) : Int) 0 w4))
  (term_Arena_Beneath.c1 R out7 w)

def term_Arena_Beneath.l2 (R : Value → World → Prop) (a0 : Option Addr) (come6 : Sl) (out7 : Sl) (k8 : Int) (w : World) : Prop :=
  ∃ (I : (Sl × Int) → World → Prop) (μ : (Sl × Int) → World → Nat), I (out7, k8) w ∧ ∀ s w, I s w → term_Arena_Beneath.b2 R (fun a0' come6' out7' k8' w' => (a0' = a0 ∧ come6' = come6 ∧ I (out7', k8') w') ∧ μ (out7', k8') w' < μ s w) a0 come6 s.1 s.2 w

def term_Arena_Beneath.main (R : Value → World → Prop) (a0 : Option Addr) (i1 : Int) (w : World) : Prop :=
  let w5 := w.alloc (.cells #[.int .i64 i1] 3);
  CallsV Tryd.prog n_term_Arena_Has #[.pointer a0, .slice (some (newA w)) 1 1] w5 (fun v_20 w6 =>
  ∃ b_21 : Bool, v_20 = .bool b_21 ∧
  cond (!b_21)
  (R (.tuple #[.slice none 0 0, .int .i64 8]) w6)
  (0 ≤ ((IntKind.i64.wrap (i1 + 1)) : Int) ∧ ((IntKind.i64.wrap (i1 + 1)) : Int) ≤ (IntKind.i64.wrap (i1 + 1)) ∧ (1 : Int) * (IntKind.i64.wrap (i1 + 1)) ≤ 281474976710656 ∧ ((IntKind.i64.wrap (i1 + 1)) : Int) ≤ 9223372036854775807 ∧
  (let w7 := w6.alloc (.cells ((Array.range (((IntKind.i64.wrap (i1 + 1)) : Int).toNat * 1)).map ((#[.bool false] : Array Value)[· % (#[.bool false] : Array Value).size]!)) 4);
  0 ≤ (i1 : Int) ∧ i1 < ((((IntKind.i64.wrap (i1 + 1)) : Int).toNat : Nat) : Int) ∧ ∃ q_22 : Addr, (some (newA w6)) = some q_22 ∧
  Wr w7 (q_22.add (i1 : Int).toNat) ∧
  (let w8 := w7.setCell (q_22.add (i1 : Int).toNat) (.bool true);
  term_Arena_Beneath.l2 R a0 ⟨(some (newA w6)), ((IntKind.i64.wrap (i1 + 1)) : Int).toNat, ((IntKind.i64.wrap (i1 + 1)) : Int).toNat⟩ ⟨none, 0, 0⟩ i1 w8))))

def term_Arena_Beneath.J2 (R : Value → World → Prop) (N2 : Option Addr → Sl → Sl → Int → World → Prop) (k : Nat) (fr : Fr) (w : World) : Prop :=
  cond (Nat.beq k 3) (dec [(0, .ptr), (6, .slice), (7, .slice), (8, (.int .i64)), (43, .slice), (44, (.int .i64)), (45, (.int .i64))] fr fun x => term_Arena_Beneath.l3 R N2 x.1 x.2.1 x.2.2.1 x.2.2.2.1 x.2.2.2.2.1 x.2.2.2.2.2.1 x.2.2.2.2.2.2 w) (False)

def term_Arena_Beneath.J0 (R : Value → World → Prop) (k : Nat) (fr : Fr) (w : World) : Prop :=
  cond (Nat.beq k 2) (dec [(0, .ptr), (6, .slice), (7, .slice), (8, (.int .i64))] fr fun x => term_Arena_Beneath.l2 R x.1 x.2.1 x.2.2.1 x.2.2.2 w) (cond (Nat.beq k 1) (dec [(7, .slice)] fr fun x => term_Arena_Beneath.c1 R x w) (False))

set_option maxRecDepth 100000 in
theorem term_Arena_Beneath.lift {R : Value → World → Prop} {a0 : Option Addr} {i1 : Int} {w : World} (h : term_Arena_Beneath.main R a0 i1 w) : CallsV Tryd.prog n_term_Arena_Beneath #[.pointer a0, .int .i64 i1] w R :=
  liftCalls (c := (.seq (.leaf (cL (bd Tryd.f29))) (.seq (.seq (.leaf (cL (cL (cR (bd Tryd.f29))))) (.cnd (.tmp 15) (.seq (.leaf (cL (cT (cR (cL (cR (bd Tryd.f29))))))) (.leaf (cR (cT (cR (cL (cR (bd Tryd.f29)))))))) (.leaf (cE (cR (cL (cR (bd Tryd.f29)))))))) (.seq (.leaf (cL (cR (cR (bd Tryd.f29))))) (.seq (.leaf (cL (cR (cR (cR (bd Tryd.f29)))))) (.seq (.leaf (cL (cR (cR (cR (cR (bd Tryd.f29))))))) (.seq (.seq (.leaf (cL (cL (cR (cR (cR (cR (cR (bd Tryd.f29))))))))) (.block 0 (.loop 2 (.seq (.seq (.leaf (cL (cL (cB (cB (cR (cL (cR (cR (cR (cR (cR (bd Tryd.f29))))))))))))) (.cnd (.tmp 24) (.leaf (cT (cR (cL (cB (cB (cR (cL (cR (cR (cR (cR (cR (bd Tryd.f29)))))))))))))) (.leaf (cE (cR (cL (cB (cB (cR (cL (cR (cR (cR (cR (cR (bd Tryd.f29)))))))))))))))) (.seq (.block 1 (.seq (.seq (.leaf (cL (cL (cB (cL (cR (cB (cB (cR (cL (cR (cR (cR (cR (cR (bd Tryd.f29)))))))))))))))) (.cnd (.tmp 31) (.leaf (cT (cR (cL (cB (cL (cR (cB (cB (cR (cL (cR (cR (cR (cR (cR (bd Tryd.f29))))))))))))))))) (.leaf (cE (cR (cL (cB (cL (cR (cB (cB (cR (cL (cR (cR (cR (cR (cR (bd Tryd.f29))))))))))))))))))) (.seq (.leaf (cL (cR (cB (cL (cR (cB (cB (cR (cL (cR (cR (cR (cR (cR (bd Tryd.f29)))))))))))))))) (.seq (.leaf (cL (cR (cR (cB (cL (cR (cB (cB (cR (cL (cR (cR (cR (cR (cR (bd Tryd.f29))))))))))))))))) (.block 2 (.loop 3 (.seq (.leaf (cL (cB (cB (cR (cR (cR (cB (cL (cR (cB (cB (cR (cL (cR (cR (cR (cR (cR (bd Tryd.f29)))))))))))))))))))) (.seq (.cnd (.tmp 46) (.leaf (cT (cL (cR (cB (cB (cR (cR (cR (cB (cL (cR (cB (cB (cR (cL (cR (cR (cR (cR (cR (bd Tryd.f29)))))))))))))))))))))) (.leaf (cE (cL (cR (cB (cB (cR (cR (cR (cB (cL (cR (cB (cB (cR (cL (cR (cR (cR (cR (cR (bd Tryd.f29))))))))))))))))))))))) (.seq (.block 3 (.seq (.leaf (cL (cB (cL (cR (cR (cB (cB (cR (cR (cR (cB (cL (cR (cB (cB (cR (cL (cR (cR (cR (cR (cR (bd Tryd.f29)))))))))))))))))))))))) (.leaf (cR (cB (cL (cR (cR (cB (cB (cR (cR (cR (cB (cL (cR (cB (cB (cR (cL (cR (cR (cR (cR (cR (bd Tryd.f29)))))))))))))))))))))))))) (.leaf (cR (cR (cR (cB (cB (cR (cR (cR (cB (cL (cR (cB (cB (cR (cL (cR (cR (cR (cR (cR (bd Tryd.f29))))))))))))))))))))))))))))))) (.leaf (cR (cR (cB (cB (cR (cL (cR (cR (cR (cR (cR (bd Tryd.f29)))))))))))))))))) (.cut 1 (.seq (.leaf (cL (cR (cR (cR (cR (cR (cR (bd Tryd.f29))))))))) (.seq (.leaf (cL (cR (cR (cR (cR (cR (cR (cR (bd Tryd.f29)))))))))) (.leaf (cR (cR (cR (cR (cR (cR (cR (cR (bd Tryd.f29)))))))))))))))))))) (J := term_Arena_Beneath.J0 R) LfYtpihglmgkfecbaaDoor.mixed Tryd.func29 (by kernel_rfl) (by kernel_rfl) (mkSeq (mkSeq (mkSeq (mkSeq (mkSeq (mkSeq (mkCut (cutDef [(7, .slice)] (fun x w => term_Arena_Beneath.c1 R x w) (fun _ _ => by kernel_rfl) (fun _ _ => by kernel_rfl)) (mkSeq (mkSeq mkLeaf mkLeaf) mkLeaf)) (mkSeq (mkBlock (mkLoop (loopDef LfYtpihglmgkfecbaaDoor.mixed [(0, .ptr), (6, .slice), (7, .slice), (8, (.int .i64))] (by kernel_rfl) (fun M2 x w => term_Arena_Beneath.b2 R (fun y0 y1 y2 y3 w => M2 (y0, y1, y2, y3) w) x.1 x.2.1 x.2.2.1 x.2.2.2 w) (fun M2 => term_Arena_Beneath.J2 R (fun y0 y1 y2 y3 w => M2 (y0, y1, y2, y3) w)) (fun _ _ _ => by kernel_rfl) (fun M2 => (mkSeq (mkSeq mkLeaf (mkBlock (mkSeq (mkSeq (mkSeq (mkBlock (mkLoop (loopDef LfYtpihglmgkfecbaaDoor.mixed [(0, .ptr), (6, .slice), (7, .slice), (8, (.int .i64)), (43, .slice), (44, (.int .i64)), (45, (.int .i64))] (by kernel_rfl) (fun M3 x w => term_Arena_Beneath.b3 R (fun y0 y1 y2 y3 w => M2 (y0, y1, y2, y3) w) (fun y0 y1 y2 y3 y4 y5 y6 w => M3 (y0, y1, y2, y3, y4, y5, y6) w) x.1 x.2.1 x.2.2.1 x.2.2.2.1 x.2.2.2.2.1 x.2.2.2.2.2.1 x.2.2.2.2.2.2 w) (fun M3 => fun _ _ _ => False) (fun _ _ _ => by kernel_rfl) (fun M3 => (mkSeq (mkSeq (mkSeq mkLeaf (mkBlock (mkSeq mkLeaf mkLeaf))) (mkCnd mkLeaf mkLeaf)) mkLeaf)) (fun x w => term_Arena_Beneath.l3 R (fun y0 y1 y2 y3 w => M2 (y0, y1, y2, y3) w) x.1 x.2.1 x.2.2.1 x.2.2.2.1 x.2.2.2.2.1 x.2.2.2.2.2.1 x.2.2.2.2.2.2 w) (by rintro ⟨c0, c1, c2, c3, c4, c5, s0⟩ w ⟨I, μ, h0, h1⟩; refine ⟨fun y w => y.1 = c0 ∧ y.2.1 = c1 ∧ y.2.2.1 = c2 ∧ y.2.2.2.1 = c3 ∧ y.2.2.2.2.1 = c4 ∧ y.2.2.2.2.2.1 = c5 ∧ I y.2.2.2.2.2.2 w, fun y w => μ y.2.2.2.2.2.2 w, ⟨rfl, rfl, rfl, rfl, rfl, rfl, h0⟩, ?_⟩; rintro ⟨d0, d1, d2, d3, d4, d5, t0⟩ w ⟨e0, e1, e2, e3, e4, e5, hI⟩; dsimp only at e0 e1 e2 e3 e4 e5 hI; subst e0; subst e1; subst e2; subst e3; subst e4; subst e5; exact h1 _ _ hI) (fun _ _ => by kernel_rfl)))) mkLeaf) mkLeaf) (mkSeq (mkCnd mkLeaf mkLeaf) mkLeaf)))) (mkSeq (mkCnd mkLeaf mkLeaf) mkLeaf))) (fun x w => term_Arena_Beneath.l2 R x.1 x.2.1 x.2.2.1 x.2.2.2 w) (by rintro ⟨c0, c1, s0⟩ w ⟨I, μ, h0, h1⟩; refine ⟨fun y w => y.1 = c0 ∧ y.2.1 = c1 ∧ I y.2.2 w, fun y w => μ y.2.2 w, ⟨rfl, rfl, h0⟩, ?_⟩; rintro ⟨d0, d1, t0⟩ w ⟨e0, e1, hI⟩; dsimp only at e0 e1 hI; subst e0; subst e1; exact h1 _ _ hI) (fun _ _ => by kernel_rfl)))) mkLeaf)) mkLeaf) mkLeaf) mkLeaf) (mkSeq (mkCnd (mkSeq mkLeaf mkLeaf) mkLeaf) mkLeaf)) mkLeaf) (kcast (by kernel_rfl) h)

/-! trystref10_Arena_Open -/
def trystref10_Arena_Open.main (R : Value → World → Prop) (a0 : Option Addr) (seal1 : Int) (key2 : Int) (w : World) : Prop :=
  let w1 := w.alloc (.cells #[.int .i64 seal1, .int .i64 key2] 3);
  CallsV Tryd.prog n_trystref10_Arena_Has #[.pointer a0, .slice (some (newA w)) 2 2] w1 (fun v_1 w2 =>
  ∃ b_2 : Bool, v_1 = .bool b_2 ∧
  cond (!b_2)
  (R (.tuple #[.slice none 0 0, .int .i64 8]) w2)
  (∃ q_3 : Addr, a0 = some q_3 ∧
  ∃ (a_4 : Option Addr) (l_5 c_6 : Nat), w2.cell? q_3 = some (.slice a_4 l_5 c_6) ∧
  0 ≤ (seal1 : Int) ∧ seal1 < ((l_5 : Nat) : Int) ∧ ∃ q_7 : Addr, a_4 = some q_7 ∧
  ∃ x_8 : Int, w2.cell? (q_7.add ((seal1 : Int).toNat * 3)) = some (.int .i64 x_8) ∧
  cond ((x_8 : Int) != 6)
  (R (.tuple #[.slice none 0 0, .int .i64 6]) w2)
  (∃ q_9 : Addr, a0 = some q_9 ∧
  ∃ (a_10 : Option Addr) (l_11 c_12 : Nat), w2.cell? q_9 = some (.slice a_10 l_11 c_12) ∧
  0 ≤ (seal1 : Int) ∧ seal1 < ((l_11 : Nat) : Int) ∧ ∃ q_13 : Addr, a_10 = some q_13 ∧
  ∃ (a_14 : Option Addr) (l_15 c_16 : Nat), w2.cell? ((q_13.add ((seal1 : Int).toNat * 3)).add 2) = some (.slice a_14 l_15 c_16) ∧
  0 ≤ (0 : Int) ∧ 0 < ((l_15 : Nat) : Int) ∧ ∃ q_17 : Addr, a_14 = some q_17 ∧
  ∃ x_18 : Int, w2.cell? (q_17.add (0 : Int).toNat) = some (.int .i64 x_18) ∧
  cond ((x_18 : Int) != key2)
  (R (.tuple #[.slice none 0 0, .int .i64 3]) w2)
  (∃ q_19 : Addr, a0 = some q_19 ∧
  ∃ (a_20 : Option Addr) (l_21 c_22 : Nat), w2.cell? q_19 = some (.slice a_20 l_21 c_22) ∧
  0 ≤ (seal1 : Int) ∧ seal1 < ((l_21 : Nat) : Int) ∧ ∃ q_23 : Addr, a_20 = some q_23 ∧
  ∃ (a_24 : Option Addr) (l_25 c_26 : Nat), w2.cell? ((q_23.add ((seal1 : Int).toNat * 3)).add 2) = some (.slice a_24 l_25 c_26) ∧
  0 ≤ (1 : Int) ∧ (1 : Int) ≤ ((l_25 : Nat) : Int) ∧ (((l_25 : Nat) : Int) : Int) ≤ ((c_26 : Nat) : Int) ∧ (((c_26 : Nat) : Int) : Int) ≤ ((c_26 : Nat) : Int) ∧
  R (.tuple #[.slice (if ((((c_26 : Nat) : Int) : Int)).toNat = ((1 : Int)).toNat then a_24 else (a_24).map (·.add ((1 : Int)).toNat)) (((((l_25 : Nat) : Int) : Int)).toNat - ((1 : Int)).toNat) (((((c_26 : Nat) : Int) : Int)).toNat - ((1 : Int)).toNat), .int .i64 0]) w2))))

def trystref10_Arena_Open.J0 (_ : Value → World → Prop) (_ : Nat) (_ : Fr) (_ : World) : Prop := False

set_option maxRecDepth 100000 in
theorem trystref10_Arena_Open.lift {R : Value → World → Prop} {a0 : Option Addr} {seal1 : Int} {key2 : Int} {w : World} (h : trystref10_Arena_Open.main R a0 seal1 key2 w) : CallsV Tryd.prog n_trystref10_Arena_Open #[.pointer a0, .int .i64 seal1, .int .i64 key2] w R :=
  liftCalls (c := (.seq (.leaf (cL (bd Tryd.f30))) (.seq (.seq (.leaf (cL (cL (cR (bd Tryd.f30))))) (.cnd (.tmp 13) (.seq (.leaf (cL (cT (cR (cL (cR (bd Tryd.f30))))))) (.leaf (cR (cT (cR (cL (cR (bd Tryd.f30)))))))) (.leaf (cE (cR (cL (cR (bd Tryd.f30)))))))) (.seq (.seq (.leaf (cL (cL (cR (cR (bd Tryd.f30)))))) (.cnd (.tmp 22) (.seq (.leaf (cL (cT (cR (cL (cR (cR (bd Tryd.f30)))))))) (.leaf (cR (cT (cR (cL (cR (cR (bd Tryd.f30))))))))) (.leaf (cE (cR (cL (cR (cR (bd Tryd.f30))))))))) (.seq (.seq (.leaf (cL (cL (cR (cR (cR (bd Tryd.f30))))))) (.cnd (.tmp 34) (.seq (.leaf (cL (cT (cR (cL (cR (cR (cR (bd Tryd.f30))))))))) (.leaf (cR (cT (cR (cL (cR (cR (cR (bd Tryd.f30)))))))))) (.leaf (cE (cR (cL (cR (cR (cR (bd Tryd.f30)))))))))) (.seq (.leaf (cL (cR (cR (cR (cR (bd Tryd.f30))))))) (.leaf (cR (cR (cR (cR (cR (bd Tryd.f30))))))))))))) (J := trystref10_Arena_Open.J0 R) LfYtpihglmgkfecbaaDoor.mixed Tryd.func30 (by kernel_rfl) (by kernel_rfl) (mkSeq (mkSeq (mkSeq (mkSeq (mkSeq mkLeaf mkLeaf) (mkSeq (mkCnd (mkSeq mkLeaf mkLeaf) mkLeaf) mkLeaf)) (mkSeq (mkCnd (mkSeq mkLeaf mkLeaf) mkLeaf) mkLeaf)) (mkSeq (mkCnd (mkSeq mkLeaf mkLeaf) mkLeaf) mkLeaf)) mkLeaf) (kcast (by kernel_rfl) h)

/-! trystref10_Arena_Unbox -/
def trystref10_Arena_Unbox.c1 (R : Value → World → Prop) (a0 : Option Addr) (box1 : Int) (w : World) : Prop :=
  ∃ q_1 : Addr, a0 = some q_1 ∧
  ∃ (a_2 : Option Addr) (l_3 c_4 : Nat), w.cell? q_1 = some (.slice a_2 l_3 c_4) ∧
  0 ≤ (box1 : Int) ∧ box1 < ((l_3 : Nat) : Int) ∧ ∃ q_5 : Addr, a_2 = some q_5 ∧
  ∃ (a_6 : Option Addr) (l_7 c_8 : Nat), w.cell? ((q_5.add ((box1 : Int).toNat * 3)).add 2) = some (.slice a_6 l_7 c_8) ∧
  0 ≤ (2 : Int) ∧ (2 : Int) ≤ ((l_7 : Nat) : Int) ∧ (((l_7 : Nat) : Int) : Int) ≤ ((c_8 : Nat) : Int) ∧ (((c_8 : Nat) : Int) : Int) ≤ ((c_8 : Nat) : Int) ∧
  R (.tuple #[.slice (if ((((c_8 : Nat) : Int) : Int)).toNat = ((2 : Int)).toNat then a_6 else (a_6).map (·.add ((2 : Int)).toNat)) (((((l_7 : Nat) : Int) : Int)).toNat - ((2 : Int)).toNat) (((((c_8 : Nat) : Int) : Int)).toNat - ((2 : Int)).toNat), .int .i64 0]) w

def trystref10_Arena_Unbox.main (R : Value → World → Prop) (a0 : Option Addr) (box1 : Int) (secret2 : Int) (w : World) : Prop :=
  let w1 := w.alloc (.cells #[.int .i64 box1, .int .i64 secret2] 3);
  CallsV Tryd.prog n_trystref10_Arena_Has #[.pointer a0, .slice (some (newA w)) 2 2] w1 (fun v_9 w2 =>
  ∃ b_10 : Bool, v_9 = .bool b_10 ∧
  cond (!b_10)
  (R (.tuple #[.slice none 0 0, .int .i64 8]) w2)
  (∃ q_11 : Addr, a0 = some q_11 ∧
  ∃ (a_12 : Option Addr) (l_13 c_14 : Nat), w2.cell? q_11 = some (.slice a_12 l_13 c_14) ∧
  0 ≤ (box1 : Int) ∧ box1 < ((l_13 : Nat) : Int) ∧ ∃ q_15 : Addr, a_12 = some q_15 ∧
  ∃ x_16 : Int, w2.cell? (q_15.add ((box1 : Int).toNat * 3)) = some (.int .i64 x_16) ∧
  cond ((x_16 : Int) != 7)
  (R (.tuple #[.slice none 0 0, .int .i64 6]) w2)
  (∃ S_17 : World → Prop, S_17 w2.drew ∧
  ∃ q_18 : Addr, a0 = some q_18 ∧
  ∃ (a_19 : Option Addr) (l_20 c_21 : Nat), (∀ x, S_17 x → x.cell? q_18 = some (.slice a_19 l_20 c_21)) ∧
  ∃ q_22 : Addr, a0 = some q_22 ∧
  ∃ (a_23 : Option Addr) (l_24 c_25 : Nat), (∀ x, S_17 x → x.cell? q_22 = some (.slice a_23 l_24 c_25)) ∧
  0 ≤ (box1 : Int) ∧ box1 < ((l_24 : Nat) : Int) ∧ ∃ q_26 : Addr, a_23 = some q_26 ∧
  ∃ (a_27 : Option Addr) (l_28 c_29 : Nat), (∀ x, S_17 x → x.cell? ((q_26.add ((box1 : Int).toNat * 3)).add 2) = some (.slice a_27 l_28 c_29)) ∧
  0 ≤ (0 : Int) ∧ 0 < ((l_28 : Nat) : Int) ∧ ∃ q_30 : Addr, a_27 = some q_30 ∧
  ∃ x_31 : Int, (∀ x, S_17 x → x.cell? (q_30.add (0 : Int).toNat) = some (.int .i64 x_31)) ∧
  0 ≤ (x_31 : Int) ∧ x_31 < ((l_20 : Nat) : Int) ∧ ∃ q_32 : Addr, a_19 = some q_32 ∧
  ∃ x_33 : Int, (∀ x, S_17 x → x.cell? (q_32.add ((x_31 : Int).toNat * 3)) = some (.int .i64 x_33)) ∧
  ∃ x_34 : Int, (∀ x, S_17 x → x.cell? ((q_32.add ((x_31 : Int).toNat * 3)).add 1) = some (.int .i64 x_34)) ∧
  ∃ (a_35 : Option Addr) (l_36 c_37 : Nat), (∀ x, S_17 x → x.cell? ((q_32.add ((x_31 : Int).toNat * 3)).add 2) = some (.slice a_35 l_36 c_37)) ∧
  let w3 := w2.drew.alloc (.cells #[.int .i64 0, .int .i64 0, .slice none 0 0] 43);
  S_17 w3 ∧
  (∀ j, j < 3 → Wr w3 ((newA w2.drew).add j)) ∧
  (let w4 := setCells (newA w2.drew) [.int .i64 x_33, .int .i64 x_34, .slice a_35 l_36 c_37] 0 w3;
  ∃ x_38 : Int, w4.cell? (newA w2.drew) = some (.int .i64 x_38) ∧
  cond ((x_38 : Int) != 5)
  (R (.tuple #[.slice none 0 0, .int .i64 3]) w4)
  (∃ (a_39 : Option Addr) (l_40 c_41 : Nat), w4.cell? ((newA w2.drew).add 2) = some (.slice a_39 l_40 c_41) ∧
  0 ≤ (0 : Int) ∧ 0 < ((l_40 : Nat) : Int) ∧ ∃ q_42 : Addr, a_39 = some q_42 ∧
  ∃ x_43 : Int, w4.cell? (q_42.add (0 : Int).toNat) = some (.int .i64 x_43) ∧
  cond ((x_43 : Int) != secret2)
  (R (.tuple #[.slice none 0 0, .int .i64 3]) w4)
  (trystref10_Arena_Unbox.c1 R a0 box1 w4))))))

def trystref10_Arena_Unbox.J0 (R : Value → World → Prop) (k : Nat) (fr : Fr) (w : World) : Prop :=
  cond (Nat.beq k 1) (dec [(0, .ptr), (1, (.int .i64))] fr fun x => trystref10_Arena_Unbox.c1 R x.1 x.2 w) (False)

set_option maxRecDepth 100000 in
theorem trystref10_Arena_Unbox.lift {R : Value → World → Prop} {a0 : Option Addr} {box1 : Int} {secret2 : Int} {w : World} (h : trystref10_Arena_Unbox.main R a0 box1 secret2 w) : CallsV Tryd.prog n_trystref10_Arena_Unbox #[.pointer a0, .int .i64 box1, .int .i64 secret2] w R :=
  liftCalls (c := (.seq (.leaf (cL (bd Tryd.f31))) (.seq (.seq (.leaf (cL (cL (cR (bd Tryd.f31))))) (.cnd (.tmp 14) (.seq (.leaf (cL (cT (cR (cL (cR (bd Tryd.f31))))))) (.leaf (cR (cT (cR (cL (cR (bd Tryd.f31)))))))) (.leaf (cE (cR (cL (cR (bd Tryd.f31)))))))) (.seq (.seq (.leaf (cL (cL (cR (cR (bd Tryd.f31)))))) (.cnd (.tmp 23) (.seq (.leaf (cL (cT (cR (cL (cR (cR (bd Tryd.f31)))))))) (.leaf (cR (cT (cR (cL (cR (cR (bd Tryd.f31))))))))) (.leaf (cE (cR (cL (cR (cR (bd Tryd.f31))))))))) (.seq (.leaf (cL (cR (cR (cR (bd Tryd.f31)))))) (.seq (.seq (.leaf (cL (cL (cR (cR (cR (cR (bd Tryd.f31)))))))) (.cnd (.tmp 50) (.seq (.leaf (cL (cT (cR (cL (cR (cR (cR (cR (bd Tryd.f31)))))))))) (.leaf (cR (cT (cR (cL (cR (cR (cR (cR (bd Tryd.f31))))))))))) (.leaf (cE (cR (cL (cR (cR (cR (cR (bd Tryd.f31))))))))))) (.cut 1 (.seq (.leaf (cL (cR (cR (cR (cR (cR (bd Tryd.f31)))))))) (.leaf (cR (cR (cR (cR (cR (cR (bd Tryd.f31)))))))))))))))) (J := trystref10_Arena_Unbox.J0 R) LfYtpihglmgkfecbaaDoor.mixed Tryd.func31 (by kernel_rfl) (by kernel_rfl) (mkSeq (mkSeq (mkSeq (mkSeq (mkSeq (mkCut (cutDef [(0, .ptr), (1, (.int .i64))] (fun x w => trystref10_Arena_Unbox.c1 R x.1 x.2 w) (fun _ _ => by kernel_rfl) (fun _ _ => by kernel_rfl)) (mkSeq mkLeaf mkLeaf)) (mkSeq (mkCnd (mkSeq mkLeaf mkLeaf) mkLeaf) mkLeaf)) mkLeaf) (mkSeq (mkCnd (mkSeq mkLeaf mkLeaf) mkLeaf) mkLeaf)) (mkSeq (mkCnd (mkSeq mkLeaf mkLeaf) mkLeaf) mkLeaf)) mkLeaf) (kcast (by kernel_rfl) h)

/-! trystref10_Arena_Signed -/
def trystref10_Arena_Signed.c1 (R : Value → World → Prop) (a0 : Option Addr) (sig1 : Int) (pub2 : Int) (w : World) : Prop :=
  ∃ q_1 : Addr, a0 = some q_1 ∧
  ∃ (a_2 : Option Addr) (l_3 c_4 : Nat), w.cell? q_1 = some (.slice a_2 l_3 c_4) ∧
  0 ≤ (sig1 : Int) ∧ sig1 < ((l_3 : Nat) : Int) ∧ ∃ q_5 : Addr, a_2 = some q_5 ∧
  ∃ (a_6 : Option Addr) (l_7 c_8 : Nat), w.cell? ((q_5.add ((sig1 : Int).toNat * 3)).add 2) = some (.slice a_6 l_7 c_8) ∧
  0 ≤ (0 : Int) ∧ 0 < ((l_7 : Nat) : Int) ∧ ∃ q_9 : Addr, a_6 = some q_9 ∧
  ∃ x_10 : Int, w.cell? (q_9.add (0 : Int).toNat) = some (.int .i64 x_10) ∧
  ∃ q_11 : Addr, a0 = some q_11 ∧
  ∃ (a_12 : Option Addr) (l_13 c_14 : Nat), w.cell? q_11 = some (.slice a_12 l_13 c_14) ∧
  0 ≤ (pub2 : Int) ∧ pub2 < ((l_13 : Nat) : Int) ∧ ∃ q_15 : Addr, a_12 = some q_15 ∧
  ∃ (a_16 : Option Addr) (l_17 c_18 : Nat), w.cell? ((q_15.add ((pub2 : Int).toNat * 3)).add 2) = some (.slice a_16 l_17 c_18) ∧
  0 ≤ (0 : Int) ∧ 0 < ((l_17 : Nat) : Int) ∧ ∃ q_19 : Addr, a_16 = some q_19 ∧
  ∃ x_20 : Int, w.cell? (q_19.add (0 : Int).toNat) = some (.int .i64 x_20) ∧
  cond ((x_10 : Int) != x_20)
  (R (.tuple #[.slice none 0 0, .int .i64 15]) w.drew)
  (∃ q_21 : Addr, a0 = some q_21 ∧
  ∃ (a_22 : Option Addr) (l_23 c_24 : Nat), w.drew.cell? q_21 = some (.slice a_22 l_23 c_24) ∧
  0 ≤ (sig1 : Int) ∧ sig1 < ((l_23 : Nat) : Int) ∧ ∃ q_25 : Addr, a_22 = some q_25 ∧
  ∃ (a_26 : Option Addr) (l_27 c_28 : Nat), w.drew.cell? ((q_25.add ((sig1 : Int).toNat * 3)).add 2) = some (.slice a_26 l_27 c_28) ∧
  0 ≤ (1 : Int) ∧ (1 : Int) ≤ ((l_27 : Nat) : Int) ∧ (((l_27 : Nat) : Int) : Int) ≤ ((c_28 : Nat) : Int) ∧ (((c_28 : Nat) : Int) : Int) ≤ ((c_28 : Nat) : Int) ∧
  R (.tuple #[.slice (if ((((c_28 : Nat) : Int) : Int)).toNat = ((1 : Int)).toNat then a_26 else (a_26).map (·.add ((1 : Int)).toNat)) (((((l_27 : Nat) : Int) : Int)).toNat - ((1 : Int)).toNat) (((((c_28 : Nat) : Int) : Int)).toNat - ((1 : Int)).toNat), .int .i64 0]) w.drew)

def trystref10_Arena_Signed.main (R : Value → World → Prop) (a0 : Option Addr) (sig1 : Int) (pub2 : Int) (w : World) : Prop :=
  let w1 := w.alloc (.cells #[.int .i64 sig1, .int .i64 pub2] 3);
  CallsV Tryd.prog n_trystref10_Arena_Has #[.pointer a0, .slice (some (newA w)) 2 2] w1 (fun v_29 w2 =>
  ∃ b_30 : Bool, v_29 = .bool b_30 ∧
  cond (!b_30)
  (R (.tuple #[.slice none 0 0, .int .i64 8]) w2)
  (∃ q_31 : Addr, a0 = some q_31 ∧
  ∃ (a_32 : Option Addr) (l_33 c_34 : Nat), w2.cell? q_31 = some (.slice a_32 l_33 c_34) ∧
  0 ≤ (sig1 : Int) ∧ sig1 < ((l_33 : Nat) : Int) ∧ ∃ q_35 : Addr, a_32 = some q_35 ∧
  ∃ x_36 : Int, w2.cell? (q_35.add ((sig1 : Int).toNat * 3)) = some (.int .i64 x_36) ∧
  cond ((x_36 : Int) != 8)
  (R (.tuple #[.slice none 0 0, .int .i64 6]) w2)
  (∃ q_37 : Addr, a0 = some q_37 ∧
  ∃ (a_38 : Option Addr) (l_39 c_40 : Nat), w2.cell? q_37 = some (.slice a_38 l_39 c_40) ∧
  0 ≤ (pub2 : Int) ∧ pub2 < ((l_39 : Nat) : Int) ∧ ∃ q_41 : Addr, a_38 = some q_41 ∧
  ∃ x_42 : Int, w2.cell? (q_41.add ((pub2 : Int).toNat * 3)) = some (.int .i64 x_42) ∧
  cond ((x_42 : Int) != 5)
  (R (.tuple #[.slice none 0 0, .int .i64 6]) w2)
  (trystref10_Arena_Signed.c1 R a0 sig1 pub2 w2))))

def trystref10_Arena_Signed.J0 (R : Value → World → Prop) (k : Nat) (fr : Fr) (w : World) : Prop :=
  cond (Nat.beq k 1) (dec [(0, .ptr), (1, (.int .i64)), (2, (.int .i64))] fr fun x => trystref10_Arena_Signed.c1 R x.1 x.2.1 x.2.2 w) (False)

set_option maxRecDepth 100000 in
theorem trystref10_Arena_Signed.lift {R : Value → World → Prop} {a0 : Option Addr} {sig1 : Int} {pub2 : Int} {w : World} (h : trystref10_Arena_Signed.main R a0 sig1 pub2 w) : CallsV Tryd.prog n_trystref10_Arena_Signed #[.pointer a0, .int .i64 sig1, .int .i64 pub2] w R :=
  liftCalls (c := (.seq (.leaf (cL (bd Tryd.f32))) (.seq (.seq (.leaf (cL (cL (cR (bd Tryd.f32))))) (.cnd (.tmp 13) (.seq (.leaf (cL (cT (cR (cL (cR (bd Tryd.f32))))))) (.leaf (cR (cT (cR (cL (cR (bd Tryd.f32)))))))) (.leaf (cE (cR (cL (cR (bd Tryd.f32)))))))) (.seq (.seq (.leaf (cL (cL (cR (cR (bd Tryd.f32)))))) (.cnd (.tmp 33) (.seq (.leaf (cL (cT (cR (cL (cR (cR (bd Tryd.f32)))))))) (.leaf (cR (cT (cR (cL (cR (cR (bd Tryd.f32))))))))) (.leaf (cE (cR (cL (cR (cR (bd Tryd.f32))))))))) (.cut 1 (.seq (.seq (.leaf (cL (cL (cR (cR (cR (bd Tryd.f32))))))) (.cnd (.tmp 54) (.seq (.leaf (cL (cT (cR (cL (cR (cR (cR (bd Tryd.f32))))))))) (.leaf (cR (cT (cR (cL (cR (cR (cR (bd Tryd.f32)))))))))) (.leaf (cE (cR (cL (cR (cR (cR (bd Tryd.f32)))))))))) (.seq (.leaf (cL (cR (cR (cR (cR (bd Tryd.f32))))))) (.leaf (cR (cR (cR (cR (cR (bd Tryd.f32)))))))))))))) (J := trystref10_Arena_Signed.J0 R) LfYtpihglmgkfecbaaDoor.mixed Tryd.func32 (by kernel_rfl) (by kernel_rfl) (mkSeq (mkSeq (mkSeq (mkCut (cutDef [(0, .ptr), (1, (.int .i64)), (2, (.int .i64))] (fun x w => trystref10_Arena_Signed.c1 R x.1 x.2.1 x.2.2 w) (fun _ _ => by kernel_rfl) (fun _ _ => by kernel_rfl)) (mkSeq (mkSeq mkLeaf mkLeaf) (mkSeq (mkCnd (mkSeq mkLeaf mkLeaf) mkLeaf) mkLeaf))) (mkSeq (mkCnd (mkSeq mkLeaf mkLeaf) mkLeaf) mkLeaf)) (mkSeq (mkCnd (mkSeq mkLeaf mkLeaf) mkLeaf) mkLeaf)) mkLeaf) (kcast (by kernel_rfl) h)

/-! trystref10_Arena_Beneath -/
def trystref10_Arena_Beneath.b1 (R : Value → World → Prop) (N1 : Sl → Sl → Int → World → Prop) (in5 : Sl) (out8 : Sl) (n9 : Int) (w : World) : Prop :=
  cond (decide ((n9 : Int) < ((in5.len : Nat) : Int)))
  (0 ≤ (n9 : Int) ∧ n9 < ((in5.len : Nat) : Int) ∧ ∃ q_1 : Addr, in5.a = some q_1 ∧
  ∃ b_2 : Bool, w.cell? (q_1.add (n9 : Int).toNat) = some (.bool b_2) ∧
  cond b_2
  (let w1 := w.alloc (.cells #[.int .i64 n9] 3);
  ∃ (a_3 : Option Addr) (l_4 c_5 : Nat), ∃ w2 : World, (builtin .append #[29, 29] 29 #[] #[.slice out8.a out8.len out8.cap, .slice (some (newA w)) 1 1]).run Tryd.prog w1 = .ok (.value (.slice a_3 l_4 c_5)) w2 ∧
  (let n9_5 : Int := (IntKind.i64.wrap (n9 + 1));
  N1 in5 ⟨a_3, l_4, c_5⟩ n9_5 w2))
  ((let n9_6 : Int := (IntKind.i64.wrap (n9 + 1));
  N1 in5 out8 n9_6 w)))
  (R (.slice out8.a out8.len out8.cap) w)

def trystref10_Arena_Beneath.l1 (R : Value → World → Prop) (in5 : Sl) (out8 : Sl) (n9 : Int) (w : World) : Prop :=
  ∃ (I : (Sl × Int) → World → Prop) (μ : (Sl × Int) → World → Nat), I (out8, n9) w ∧ ∀ s w, I s w → trystref10_Arena_Beneath.b1 R (fun in5' out8' n9' w' => (in5' = in5 ∧ I (out8', n9') w') ∧ μ (out8', n9') w' < μ s w) in5 s.1 s.2 w

def trystref10_Arena_Beneath.c2 (R : Value → World → Prop) (in5 : Sl) (w : World) : Prop :=
  trystref10_Arena_Beneath.l1 R in5 ⟨none, 0, 0⟩ 0 w

def trystref10_Arena_Beneath.c5 (R : Value → World → Prop) (N3 : Option Addr → Sl → Int → World → Prop) (N4 : Option Addr → Sl → Int → Int → World → Prop) (a0 : Option Addr) (in5 : Sl) (n6 : Int) (k7 : Int) (w : World) : Prop :=
  ∃ q_8 : Addr, a0 = some q_8 ∧
  ∃ (a_9 : Option Addr) (l_10 c_11 : Nat), w.cell? q_8 = some (.slice a_9 l_10 c_11) ∧
  0 ≤ (n6 : Int) ∧ n6 < ((l_10 : Nat) : Int) ∧ ∃ q_12 : Addr, a_9 = some q_12 ∧
  ∃ (a_13 : Option Addr) (l_14 c_15 : Nat), w.cell? ((q_12.add ((n6 : Int).toNat * 3)).add 2) = some (.slice a_13 l_14 c_15) ∧
  0 ≤ (k7 : Int) ∧ k7 < ((l_14 : Nat) : Int) ∧ ∃ q_16 : Addr, a_13 = some q_16 ∧
  ∃ x_17 : Int, w.cell? (q_16.add (k7 : Int).toNat) = some (.int .i64 x_17) ∧
  0 ≤ (x_17 : Int) ∧ x_17 < ((in5.len : Nat) : Int) ∧ ∃ q_18 : Addr, in5.a = some q_18 ∧
  Wr w (q_18.add (x_17 : Int).toNat) ∧
  (let w3 := w.setCell (q_18.add (x_17 : Int).toNat) (.bool true);
  (let k7_18 : Int := (IntKind.i64.wrap (k7 + 1));
  N4 a0 in5 n6 k7_18 w3))

def trystref10_Arena_Beneath.b4 (R : Value → World → Prop) (N3 : Option Addr → Sl → Int → World → Prop) (N4 : Option Addr → Sl → Int → Int → World → Prop) (a0 : Option Addr) (in5 : Sl) (n6 : Int) (k7 : Int) (w : World) : Prop :=
  0 ≤ (n6 : Int) ∧ n6 < ((in5.len : Nat) : Int) ∧ ∃ q_20 : Addr, in5.a = some q_20 ∧
  ∃ b_21 : Bool, w.cell? (q_20.add (n6 : Int).toNat) = some (.bool b_21) ∧
  cond b_21
  (∃ q_22 : Addr, a0 = some q_22 ∧
  ∃ (a_23 : Option Addr) (l_24 c_25 : Nat), w.cell? q_22 = some (.slice a_23 l_24 c_25) ∧
  0 ≤ (n6 : Int) ∧ n6 < ((l_24 : Nat) : Int) ∧ ∃ q_26 : Addr, a_23 = some q_26 ∧
  ∃ (a_27 : Option Addr) (l_28 c_29 : Nat), w.cell? ((q_26.add ((n6 : Int).toNat * 3)).add 2) = some (.slice a_27 l_28 c_29) ∧
  cond (decide ((k7 : Int) < ((l_28 : Nat) : Int)))
  (trystref10_Arena_Beneath.c5 R N3 N4 a0 in5 n6 k7 w)
  ((let n6_29 : Int := (IntKind.i64.wrap (n6 - 1));
  N3 a0 in5 n6_29 w)))
  ((let n6_30 : Int := (IntKind.i64.wrap (n6 - 1));
  N3 a0 in5 n6_30 w))

def trystref10_Arena_Beneath.l4 (R : Value → World → Prop) (N3 : Option Addr → Sl → Int → World → Prop) (a0 : Option Addr) (in5 : Sl) (n6 : Int) (k7 : Int) (w : World) : Prop :=
  ∃ (I : Int → World → Prop) (μ : Int → World → Nat), I k7 w ∧ ∀ s w, I s w → trystref10_Arena_Beneath.b4 R N3 (fun a0' in5' n6' k7' w' => (a0' = a0 ∧ in5' = in5 ∧ n6' = n6 ∧ I k7' w') ∧ μ k7' w' < μ s w) a0 in5 n6 s w

def trystref10_Arena_Beneath.b3 (R : Value → World → Prop) (N3 : Option Addr → Sl → Int → World → Prop) (a0 : Option Addr) (in5 : Sl) (n6 : Int) (w : World) : Prop :=
  cond (decide ((n6 : Int) ≥ 0))
  (trystref10_Arena_Beneath.l4 R N3 a0 in5 n6 0 w)
  (trystref10_Arena_Beneath.c2 R in5 w)

def trystref10_Arena_Beneath.l3 (R : Value → World → Prop) (a0 : Option Addr) (in5 : Sl) (n6 : Int) (w : World) : Prop :=
  ∃ (I : Int → World → Prop) (μ : Int → World → Nat), I n6 w ∧ ∀ s w, I s w → trystref10_Arena_Beneath.b3 R (fun a0' in5' n6' w' => (a0' = a0 ∧ in5' = in5 ∧ I n6' w') ∧ μ n6' w' < μ s w) a0 in5 s w

def trystref10_Arena_Beneath.main (R : Value → World → Prop) (a0 : Option Addr) (i1 : Int) (w : World) : Prop :=
  ∃ q_32 : Addr, a0 = some q_32 ∧
  ∃ (a_33 : Option Addr) (l_34 c_35 : Nat), w.cell? q_32 = some (.slice a_33 l_34 c_35) ∧
  0 ≤ (((l_34 : Nat) : Int) : Int) ∧ (((l_34 : Nat) : Int) : Int) ≤ ((l_34 : Nat) : Int) ∧ (1 : Int) * ((l_34 : Nat) : Int) ≤ 281474976710656 ∧ (((l_34 : Nat) : Int) : Int) ≤ 9223372036854775807 ∧
  (let w4 := w.alloc (.cells ((Array.range ((((l_34 : Nat) : Int) : Int).toNat * 1)).map ((#[.bool false] : Array Value)[· % (#[.bool false] : Array Value).size]!)) 4);
  0 ≤ (i1 : Int) ∧ i1 < (((((l_34 : Nat) : Int) : Int).toNat : Nat) : Int) ∧ ∃ q_36 : Addr, (some (newA w)) = some q_36 ∧
  Wr w4 (q_36.add (i1 : Int).toNat) ∧
  (let w5 := w4.setCell (q_36.add (i1 : Int).toNat) (.bool true);
  trystref10_Arena_Beneath.l3 R a0 ⟨(some (newA w)), (((l_34 : Nat) : Int) : Int).toNat, (((l_34 : Nat) : Int) : Int).toNat⟩ i1 w5))

def trystref10_Arena_Beneath.J3 (R : Value → World → Prop) (N3 : Option Addr → Sl → Int → World → Prop) (k : Nat) (fr : Fr) (w : World) : Prop :=
  cond (Nat.beq k 4) (dec [(0, .ptr), (5, .slice), (6, (.int .i64)), (7, (.int .i64))] fr fun x => trystref10_Arena_Beneath.l4 R N3 x.1 x.2.1 x.2.2.1 x.2.2.2 w) (False)

def trystref10_Arena_Beneath.J4 (R : Value → World → Prop) (N3 : Option Addr → Sl → Int → World → Prop) (N4 : Option Addr → Sl → Int → Int → World → Prop) (k : Nat) (fr : Fr) (w : World) : Prop :=
  cond (Nat.beq k 5) (dec [(0, .ptr), (5, .slice), (6, (.int .i64)), (7, (.int .i64))] fr fun x => trystref10_Arena_Beneath.c5 R N3 N4 x.1 x.2.1 x.2.2.1 x.2.2.2 w) (False)

def trystref10_Arena_Beneath.J0 (R : Value → World → Prop) (k : Nat) (fr : Fr) (w : World) : Prop :=
  cond (Nat.beq k 3) (dec [(0, .ptr), (5, .slice), (6, (.int .i64))] fr fun x => trystref10_Arena_Beneath.l3 R x.1 x.2.1 x.2.2 w) (cond (Nat.beq k 2) (dec [(5, .slice)] fr fun x => trystref10_Arena_Beneath.c2 R x w) (cond (Nat.beq k 1) (dec [(5, .slice), (8, .slice), (9, (.int .i64))] fr fun x => trystref10_Arena_Beneath.l1 R x.1 x.2.1 x.2.2 w) (False)))

set_option maxRecDepth 100000 in
theorem trystref10_Arena_Beneath.lift {R : Value → World → Prop} {a0 : Option Addr} {i1 : Int} {w : World} (h : trystref10_Arena_Beneath.main R a0 i1 w) : CallsV Tryd.prog n_trystref10_Arena_Beneath #[.pointer a0, .int .i64 i1] w R :=
  liftCalls (c := (.seq (.leaf (cL (bd Tryd.f33))) (.seq (.leaf (cL (cR (bd Tryd.f33)))) (.seq (.leaf (cL (cR (cR (bd Tryd.f33))))) (.seq (.seq (.leaf (cL (cL (cR (cR (cR (bd Tryd.f33))))))) (.block 0 (.loop 3 (.seq (.seq (.leaf (cL (cL (cB (cB (cR (cL (cR (cR (cR (bd Tryd.f33))))))))))) (.cnd (.tmp 21) (.leaf (cT (cR (cL (cB (cB (cR (cL (cR (cR (cR (bd Tryd.f33)))))))))))) (.leaf (cE (cR (cL (cB (cB (cR (cL (cR (cR (cR (bd Tryd.f33)))))))))))))) (.seq (.block 1 (.seq (.leaf (cL (cB (cL (cR (cB (cB (cR (cL (cR (cR (cR (bd Tryd.f33))))))))))))) (.block 2 (.loop 4 (.seq (.seq (.leaf (cL (cL (cB (cB (cR (cB (cL (cR (cB (cB (cR (cL (cR (cR (cR (bd Tryd.f33))))))))))))))))) (.cnd (.tmp 40) (.leaf (cT (cR (cL (cB (cB (cR (cB (cL (cR (cB (cB (cR (cL (cR (cR (cR (bd Tryd.f33)))))))))))))))))) (.leaf (cE (cR (cL (cB (cB (cR (cB (cL (cR (cB (cB (cR (cL (cR (cR (cR (bd Tryd.f33)))))))))))))))))))) (.cut 5 (.seq (.block 3 (.leaf (cB (cL (cR (cB (cB (cR (cB (cL (cR (cB (cB (cR (cL (cR (cR (cR (bd Tryd.f33))))))))))))))))))) (.leaf (cR (cR (cB (cB (cR (cB (cL (cR (cB (cB (cR (cL (cR (cR (cR (bd Tryd.f33)))))))))))))))))))))))) (.leaf (cR (cR (cB (cB (cR (cL (cR (cR (cR (bd Tryd.f33)))))))))))))))) (.cut 2 (.seq (.leaf (cL (cR (cR (cR (cR (bd Tryd.f33))))))) (.seq (.seq (.leaf (cL (cL (cR (cR (cR (cR (cR (bd Tryd.f33))))))))) (.block 4 (.loop 1 (.seq (.seq (.leaf (cL (cL (cB (cB (cR (cL (cR (cR (cR (cR (cR (bd Tryd.f33))))))))))))) (.cnd (.tmp 59) (.leaf (cT (cR (cL (cB (cB (cR (cL (cR (cR (cR (cR (cR (bd Tryd.f33)))))))))))))) (.leaf (cE (cR (cL (cB (cB (cR (cL (cR (cR (cR (cR (cR (bd Tryd.f33)))))))))))))))) (.seq (.block 5 (.seq (.leaf (cL (cB (cL (cR (cB (cB (cR (cL (cR (cR (cR (cR (cR (bd Tryd.f33))))))))))))))) (.cnd (.tmp 65) (.leaf (cT (cR (cB (cL (cR (cB (cB (cR (cL (cR (cR (cR (cR (cR (bd Tryd.f33)))))))))))))))) (.leaf (cE (cR (cB (cL (cR (cB (cB (cR (cL (cR (cR (cR (cR (cR (bd Tryd.f33))))))))))))))))))) (.leaf (cR (cR (cB (cB (cR (cL (cR (cR (cR (cR (cR (bd Tryd.f33)))))))))))))))))) (.seq (.leaf (cL (cR (cR (cR (cR (cR (cR (bd Tryd.f33))))))))) (.leaf (cR (cR (cR (cR (cR (cR (cR (bd Tryd.f33)))))))))))))))))) (J := trystref10_Arena_Beneath.J0 R) LfYtpihglmgkfecbaaDoor.mixed Tryd.func33 (by kernel_rfl) (by kernel_rfl) (mkSeq (mkSeq (mkSeq (mkSeq (mkCut (cutDef [(5, .slice)] (fun x w => trystref10_Arena_Beneath.c2 R x w) (fun _ _ => by kernel_rfl) (fun _ _ => by kernel_rfl)) (mkSeq (mkSeq (mkSeq mkLeaf mkLeaf) (mkSeq (mkBlock (mkLoop (loopDef LfYtpihglmgkfecbaaDoor.mixed [(5, .slice), (8, .slice), (9, (.int .i64))] (by kernel_rfl) (fun M1 x w => trystref10_Arena_Beneath.b1 R (fun y0 y1 y2 w => M1 (y0, y1, y2) w) x.1 x.2.1 x.2.2 w) (fun M1 => fun _ _ _ => False) (fun _ _ _ => by kernel_rfl) (fun M1 => (mkSeq (mkSeq mkLeaf (mkBlock (mkSeq (mkCnd mkLeaf mkLeaf) mkLeaf))) (mkSeq (mkCnd mkLeaf mkLeaf) mkLeaf))) (fun x w => trystref10_Arena_Beneath.l1 R x.1 x.2.1 x.2.2 w) (by rintro ⟨c0, s0⟩ w ⟨I, μ, h0, h1⟩; refine ⟨fun y w => y.1 = c0 ∧ I y.2 w, fun y w => μ y.2 w, ⟨rfl, h0⟩, ?_⟩; rintro ⟨d0, t0⟩ w ⟨e0, hI⟩; dsimp only at e0 hI; subst e0; exact h1 _ _ hI) (fun _ _ => by kernel_rfl)))) mkLeaf)) mkLeaf)) (mkSeq (mkBlock (mkLoop (loopDef LfYtpihglmgkfecbaaDoor.mixed [(0, .ptr), (5, .slice), (6, (.int .i64))] (by kernel_rfl) (fun M3 x w => trystref10_Arena_Beneath.b3 R (fun y0 y1 y2 w => M3 (y0, y1, y2) w) x.1 x.2.1 x.2.2 w) (fun M3 => trystref10_Arena_Beneath.J3 R (fun y0 y1 y2 w => M3 (y0, y1, y2) w)) (fun _ _ _ => by kernel_rfl) (fun M3 => (mkSeq (mkSeq mkLeaf (mkBlock (mkSeq (mkBlock (mkLoop (loopDef LfYtpihglmgkfecbaaDoor.mixed [(0, .ptr), (5, .slice), (6, (.int .i64)), (7, (.int .i64))] (by kernel_rfl) (fun M4 x w => trystref10_Arena_Beneath.b4 R (fun y0 y1 y2 w => M3 (y0, y1, y2) w) (fun y0 y1 y2 y3 w => M4 (y0, y1, y2, y3) w) x.1 x.2.1 x.2.2.1 x.2.2.2 w) (fun M4 => trystref10_Arena_Beneath.J4 R (fun y0 y1 y2 w => M3 (y0, y1, y2) w) (fun y0 y1 y2 y3 w => M4 (y0, y1, y2, y3) w)) (fun _ _ _ => by kernel_rfl) (fun M4 => (mkSeq (mkCut (cutDef [(0, .ptr), (5, .slice), (6, (.int .i64)), (7, (.int .i64))] (fun x w => trystref10_Arena_Beneath.c5 R (fun y0 y1 y2 w => M3 (y0, y1, y2) w) (fun y0 y1 y2 y3 w => M4 (y0, y1, y2, y3) w) x.1 x.2.1 x.2.2.1 x.2.2.2 w) (fun _ _ => by kernel_rfl) (fun _ _ => by kernel_rfl)) (mkSeq mkLeaf (mkBlock mkLeaf))) (mkSeq (mkCnd mkLeaf mkLeaf) mkLeaf))) (fun x w => trystref10_Arena_Beneath.l4 R (fun y0 y1 y2 w => M3 (y0, y1, y2) w) x.1 x.2.1 x.2.2.1 x.2.2.2 w) (by rintro ⟨c0, c1, c2, s0⟩ w ⟨I, μ, h0, h1⟩; refine ⟨fun y w => y.1 = c0 ∧ y.2.1 = c1 ∧ y.2.2.1 = c2 ∧ I y.2.2.2 w, fun y w => μ y.2.2.2 w, ⟨rfl, rfl, rfl, h0⟩, ?_⟩; rintro ⟨d0, d1, d2, t0⟩ w ⟨e0, e1, e2, hI⟩; dsimp only at e0 e1 e2 hI; subst e0; subst e1; subst e2; exact h1 _ _ hI) (fun _ _ => by kernel_rfl)))) mkLeaf))) (mkSeq (mkCnd mkLeaf mkLeaf) mkLeaf))) (fun x w => trystref10_Arena_Beneath.l3 R x.1 x.2.1 x.2.2 w) (by rintro ⟨c0, c1, s0⟩ w ⟨I, μ, h0, h1⟩; refine ⟨fun y w => y.1 = c0 ∧ y.2.1 = c1 ∧ I y.2.2 w, fun y w => μ y.2.2 w, ⟨rfl, rfl, h0⟩, ?_⟩; rintro ⟨d0, d1, t0⟩ w ⟨e0, e1, hI⟩; dsimp only at e0 e1 hI; subst e0; subst e1; exact h1 _ _ hI) (fun _ _ => by kernel_rfl)))) mkLeaf)) mkLeaf) mkLeaf) mkLeaf) (kcast (by kernel_rfl) h)

/-! term_many -/
def term_many.c1 (R : Value → World → Prop) (t4 : Int) (t11 : Bool) (w : World) : Prop :=
  cond t11
  (R (.tuple #[.int .i64 1, .int .i64 400]) w)
  (cond ((t4 : Int) == 7)
  (R (.tuple #[.int .i64 2, .int .i64 400]) w)
  (R (.tuple #[.int .i64 0, .int .i64 400]) w))

def term_many.c2 (R : Value → World → Prop) (t4 : Int) (t8 : Bool) (w : World) : Prop :=
  cond t8
  (R (.tuple #[.int .i64 1, .int .i64 1]) w)
  (cond ((t4 : Int) == 6)
  (term_many.c1 R t4 ((t4 : Int) == 6) w)
  (term_many.c1 R t4 ((t4 : Int) == 8) w))

def term_many.c3 (R : Value → World → Prop) (t4 : Int) (t5 : Bool) (w : World) : Prop :=
  cond t5
  (R (.tuple #[.int .i64 0, .int .i64 0]) w)
  (cond ((t4 : Int) == 4)
  (term_many.c2 R t4 ((t4 : Int) == 4) w)
  (term_many.c2 R t4 ((t4 : Int) == 5) w))

def term_many.main (R : Value → World → Prop) (kind0 : Int) (w : World) : Prop :=
  cond ((kind0 : Int) == 1)
  (term_many.c3 R kind0 ((kind0 : Int) == 1) w)
  (term_many.c3 R kind0 ((kind0 : Int) == 2) w)

def term_many.J0 (R : Value → World → Prop) (k : Nat) (fr : Fr) (w : World) : Prop :=
  cond (Nat.beq k 3) (dec [(4, (.int .i64)), (5, .bool)] fr fun x => term_many.c3 R x.1 x.2 w) (cond (Nat.beq k 2) (dec [(4, (.int .i64)), (8, .bool)] fr fun x => term_many.c2 R x.1 x.2 w) (cond (Nat.beq k 1) (dec [(4, (.int .i64)), (11, .bool)] fr fun x => term_many.c1 R x.1 x.2 w) (False)))

set_option maxRecDepth 100000 in
theorem term_many.lift {R : Value → World → Prop} {kind0 : Int} {w : World} (h : term_many.main R kind0 w) : CallsV Tryd.prog n_term_many #[.int .i64 kind0] w R :=
  liftCalls (c := (.seq (.leaf (cL (bd Tryd.f37))) (.seq (.seq (.leaf (cL (cL (cR (bd Tryd.f37))))) (.block 0 (.seq (.seq (.leaf (cL (cL (cB (cR (cL (cR (bd Tryd.f37)))))))) (.cnd (.tmp 5) (.leaf (cT (cR (cL (cB (cR (cL (cR (bd Tryd.f37))))))))) (.leaf (cE (cR (cL (cB (cR (cL (cR (bd Tryd.f37))))))))))) (.cut 3 (.cnd (.tmp 5) (.seq (.leaf (cL (cT (cR (cB (cR (cL (cR (bd Tryd.f37))))))))) (.leaf (cR (cT (cR (cB (cR (cL (cR (bd Tryd.f37)))))))))) (.seq (.seq (.leaf (cL (cL (cE (cR (cB (cR (cL (cR (bd Tryd.f37)))))))))) (.cnd (.tmp 8) (.leaf (cT (cR (cL (cE (cR (cB (cR (cL (cR (bd Tryd.f37))))))))))) (.leaf (cE (cR (cL (cE (cR (cB (cR (cL (cR (bd Tryd.f37))))))))))))) (.cut 2 (.cnd (.tmp 8) (.seq (.leaf (cL (cT (cR (cE (cR (cB (cR (cL (cR (bd Tryd.f37))))))))))) (.leaf (cR (cT (cR (cE (cR (cB (cR (cL (cR (bd Tryd.f37)))))))))))) (.seq (.seq (.leaf (cL (cL (cE (cR (cE (cR (cB (cR (cL (cR (bd Tryd.f37)))))))))))) (.cnd (.tmp 11) (.leaf (cT (cR (cL (cE (cR (cE (cR (cB (cR (cL (cR (bd Tryd.f37))))))))))))) (.leaf (cE (cR (cL (cE (cR (cE (cR (cB (cR (cL (cR (bd Tryd.f37))))))))))))))) (.cut 1 (.cnd (.tmp 11) (.seq (.leaf (cL (cT (cR (cE (cR (cE (cR (cB (cR (cL (cR (bd Tryd.f37))))))))))))) (.leaf (cR (cT (cR (cE (cR (cE (cR (cB (cR (cL (cR (bd Tryd.f37)))))))))))))) (.seq (.leaf (cL (cE (cR (cE (cR (cE (cR (cB (cR (cL (cR (bd Tryd.f37))))))))))))) (.cnd (.tmp 14) (.seq (.leaf (cL (cT (cR (cE (cR (cE (cR (cE (cR (cB (cR (cL (cR (bd Tryd.f37))))))))))))))) (.leaf (cR (cT (cR (cE (cR (cE (cR (cE (cR (cB (cR (cL (cR (bd Tryd.f37)))))))))))))))) (.leaf (cE (cR (cE (cR (cE (cR (cE (cR (cB (cR (cL (cR (bd Tryd.f37))))))))))))))))))))))))))) (.seq (.leaf (cL (cR (cR (bd Tryd.f37))))) (.leaf (cR (cR (cR (bd Tryd.f37))))))))) (J := term_many.J0 R) LfYtpihglmgkfecbaaDoor.mixed Tryd.func37 (by kernel_rfl) (by kernel_rfl) (mkSeq (mkSeq (mkSeq mkLeaf mkLeaf) (mkSeq (mkBlock (mkSeq (mkCut (cutDef [(4, (.int .i64)), (5, .bool)] (fun x w => term_many.c3 R x.1 x.2 w) (fun _ _ => by kernel_rfl) (fun _ _ => by kernel_rfl)) (mkCnd (mkSeq mkLeaf mkLeaf) (mkSeq (mkCut (cutDef [(4, (.int .i64)), (8, .bool)] (fun x w => term_many.c2 R x.1 x.2 w) (fun _ _ => by kernel_rfl) (fun _ _ => by kernel_rfl)) (mkCnd (mkSeq mkLeaf mkLeaf) (mkSeq (mkCut (cutDef [(4, (.int .i64)), (11, .bool)] (fun x w => term_many.c1 R x.1 x.2 w) (fun _ _ => by kernel_rfl) (fun _ _ => by kernel_rfl)) (mkCnd (mkSeq mkLeaf mkLeaf) (mkSeq (mkCnd (mkSeq mkLeaf mkLeaf) mkLeaf) mkLeaf))) (mkSeq (mkCnd mkLeaf mkLeaf) mkLeaf)))) (mkSeq (mkCnd mkLeaf mkLeaf) mkLeaf)))) (mkSeq (mkCnd mkLeaf mkLeaf) mkLeaf))) mkLeaf)) mkLeaf) (kcast (by kernel_rfl) h)

/-! term_Arena_Has -/
def term_Arena_Has.b1 (R : Value → World → Prop) (N1 : Option Addr → Sl → Int → Int → World → Prop) (a0 : Option Addr) (t7 : Sl) (t8 : Int) (t9 : Int) (w : World) : Prop :=
  cond (decide ((t9 : Int) < t8))
  (0 ≤ (t9 : Int) ∧ t9 < ((t7.len : Nat) : Int) ∧ ∃ q_1 : Addr, t7.a = some q_1 ∧
  ∃ x_2 : Int, w.cell? (q_1.add (t9 : Int).toNat) = some (.int .i64 x_2) ∧
  cond (decide ((x_2 : Int) < 0))
  (R (.bool false) w)
  (∃ q_3 : Addr, a0 = some q_3 ∧
  ∃ (a_4 : Option Addr) (l_5 c_6 : Nat), w.cell? q_3 = some (.slice a_4 l_5 c_6) ∧
  cond (decide ((x_2 : Int) ≥ ((l_5 : Nat) : Int)))
  (R (.bool false) w)
  (N1 a0 t7 t8 (IntKind.i64.wrap (t9 + 1)) w)))
  (R (.bool true) w)

def term_Arena_Has.l1 (R : Value → World → Prop) (a0 : Option Addr) (t7 : Sl) (t8 : Int) (t9 : Int) (w : World) : Prop :=
  ∃ (I : Int → World → Prop) (μ : Int → World → Nat), I t9 w ∧ ∀ s w, I s w → term_Arena_Has.b1 R (fun a0' t7' t8' t9' w' => (a0' = a0 ∧ t7' = t7 ∧ t8' = t8 ∧ I t9' w') ∧ μ t9' w' < μ s w) a0 t7 t8 s w

def term_Arena_Has.main (R : Value → World → Prop) (a0 : Option Addr) (l1 : Sl) (w : World) : Prop :=
  term_Arena_Has.l1 R a0 l1 ((l1.len : Nat) : Int) 0 w

def term_Arena_Has.J0 (R : Value → World → Prop) (k : Nat) (fr : Fr) (w : World) : Prop :=
  cond (Nat.beq k 1) (dec [(0, .ptr), (7, .slice), (8, (.int .i64)), (9, (.int .i64))] fr fun x => term_Arena_Has.l1 R x.1 x.2.1 x.2.2.1 x.2.2.2 w) (False)

set_option maxRecDepth 100000 in
theorem term_Arena_Has.lift {R : Value → World → Prop} {a0 : Option Addr} {l1 : Sl} {w : World} (h : term_Arena_Has.main R a0 l1 w) : CallsV Tryd.prog n_term_Arena_Has #[.pointer a0, .slice l1.a l1.len l1.cap] w R :=
  liftCalls (c := (.seq (.leaf (cL (bd Tryd.f38))) (.seq (.seq (.leaf (cL (cL (cR (bd Tryd.f38))))) (.block 0 (.loop 1 (.seq (.leaf (cL (cB (cB (cR (cL (cR (bd Tryd.f38)))))))) (.seq (.cnd (.tmp 10) (.leaf (cT (cL (cR (cB (cB (cR (cL (cR (bd Tryd.f38)))))))))) (.leaf (cE (cL (cR (cB (cB (cR (cL (cR (bd Tryd.f38))))))))))) (.seq (.block 1 (.seq (.leaf (cL (cB (cL (cR (cR (cB (cB (cR (cL (cR (bd Tryd.f38)))))))))))) (.seq (.leaf (cL (cR (cB (cL (cR (cR (cB (cB (cR (cL (cR (bd Tryd.f38))))))))))))) (.cnd (.tmp 23) (.seq (.leaf (cL (cT (cR (cR (cB (cL (cR (cR (cB (cB (cR (cL (cR (bd Tryd.f38))))))))))))))) (.leaf (cR (cT (cR (cR (cB (cL (cR (cR (cB (cB (cR (cL (cR (bd Tryd.f38)))))))))))))))) (.leaf (cE (cR (cR (cB (cL (cR (cR (cB (cB (cR (cL (cR (bd Tryd.f38)))))))))))))))))) (.leaf (cR (cR (cR (cB (cB (cR (cL (cR (bd Tryd.f38)))))))))))))))) (.seq (.leaf (cL (cR (cR (bd Tryd.f38))))) (.leaf (cR (cR (cR (bd Tryd.f38))))))))) (J := term_Arena_Has.J0 R) LfYtpihglmgkfecbaaDoor.mixed Tryd.func38 (by kernel_rfl) (by kernel_rfl) (mkSeq (mkSeq (mkSeq mkLeaf mkLeaf) (mkSeq (mkBlock (mkLoop (loopDef LfYtpihglmgkfecbaaDoor.mixed [(0, .ptr), (7, .slice), (8, (.int .i64)), (9, (.int .i64))] (by kernel_rfl) (fun M1 x w => term_Arena_Has.b1 R (fun y0 y1 y2 y3 w => M1 (y0, y1, y2, y3) w) x.1 x.2.1 x.2.2.1 x.2.2.2 w) (fun M1 => fun _ _ _ => False) (fun _ _ _ => by kernel_rfl) (fun M1 => (mkSeq (mkSeq (mkSeq mkLeaf (mkBlock (mkSeq (mkSeq (mkCnd (mkSeq mkLeaf mkLeaf) mkLeaf) mkLeaf) mkLeaf))) (mkCnd mkLeaf mkLeaf)) mkLeaf)) (fun x w => term_Arena_Has.l1 R x.1 x.2.1 x.2.2.1 x.2.2.2 w) (by rintro ⟨c0, c1, c2, s0⟩ w ⟨I, μ, h0, h1⟩; refine ⟨fun y w => y.1 = c0 ∧ y.2.1 = c1 ∧ y.2.2.1 = c2 ∧ I y.2.2.2 w, fun y w => μ y.2.2.2 w, ⟨rfl, rfl, rfl, h0⟩, ?_⟩; rintro ⟨d0, d1, d2, t0⟩ w ⟨e0, e1, e2, hI⟩; dsimp only at e0 e1 e2 hI; subst e0; subst e1; subst e2; exact h1 _ _ hI) (fun _ _ => by kernel_rfl)))) mkLeaf)) mkLeaf) (kcast (by kernel_rfl) h)

/-! term_key -/
def term_key.b1 (R : Value → World → Prop) (N1 : Sl → Int → Sl → Int → World → Prop) (t14 : Sl) (t15 : Int) (b7 : Sl) (t16 : Int) (w : World) : Prop :=
  cond (decide ((t16 : Int) < t15))
  (0 ≤ (t16 : Int) ∧ t16 < ((t14.len : Nat) : Int) ∧ ∃ q_1 : Addr, t14.a = some q_1 ∧
  ∃ x_2 : Int, w.cell? (q_1.add (t16 : Int).toNat) = some (.int .i64 x_2) ∧
  CallsV Tryd.prog n_strconv_AppendInt #[.slice b7.a b7.len b7.cap, .int .i64 x_2, .int .i64 10] w (fun v_3 w1 =>
  ∃ (a_4 : Option Addr) (l_5 c_6 : Nat), v_3 = .slice a_4 l_5 c_6 ∧
  let w2 := w1.alloc (.cells #[.int .u8 32] 5);
  ∃ (a_7 : Option Addr) (l_8 c_9 : Nat), ∃ w3 : World, (builtin .append #[81, 81] 81 #[] #[.slice a_4 l_5 c_6, .slice (some (newA w1)) 1 1]).run Tryd.prog w2 = .ok (.value (.slice a_7 l_8 c_9)) w3 ∧
  N1 t14 t15 ⟨a_7, l_8, c_9⟩ (IntKind.i64.wrap (t16 + 1)) w3))
  (∃ s_10 : ByteArray, ∃ w4 : World, (do pure (.value (← convert 81 9 (.slice b7.a b7.len b7.cap))) : Sem Next).run Tryd.prog w = .ok (.value (.string s_10)) w4 ∧
  R (.string s_10) w4)

def term_key.l1 (R : Value → World → Prop) (t14 : Sl) (t15 : Int) (b7 : Sl) (t16 : Int) (w : World) : Prop :=
  ∃ (I : (Sl × Int) → World → Prop) (μ : (Sl × Int) → World → Nat), I (b7, t16) w ∧ ∀ s w, I s w → term_key.b1 R (fun t14' t15' b7' t16' w' => (t14' = t14 ∧ t15' = t15 ∧ I (b7', t16') w') ∧ μ (b7', t16') w' < μ s w) t14 t15 s.1 s.2 w

def term_key.main (R : Value → World → Prop) (kind0 : Int) (n1 : Int) (args2 : Sl) (w : World) : Prop :=
  let w5 := w.alloc (.cells #[.int .i64 kind0, .int .i64 n1] 3);
  ∃ (a_11 : Option Addr) (l_12 c_13 : Nat), ∃ w6 : World, (builtin .append #[29, 29] 29 #[] #[.slice (some (newA w)) 2 2, .slice args2.a args2.len args2.cap]).run Tryd.prog w5 = .ok (.value (.slice a_11 l_12 c_13)) w6 ∧
  term_key.l1 R ⟨a_11, l_12, c_13⟩ ((l_12 : Nat) : Int) ⟨none, 0, 0⟩ 0 w6

def term_key.J0 (R : Value → World → Prop) (k : Nat) (fr : Fr) (w : World) : Prop :=
  cond (Nat.beq k 1) (dec [(14, .slice), (15, (.int .i64)), (7, .slice), (16, (.int .i64))] fr fun x => term_key.l1 R x.1 x.2.1 x.2.2.1 x.2.2.2 w) (False)

set_option maxRecDepth 100000 in
theorem term_key.lift {R : Value → World → Prop} {kind0 : Int} {n1 : Int} {args2 : Sl} {w : World} (h : term_key.main R kind0 n1 args2 w) : CallsV Tryd.prog n_term_key #[.int .i64 kind0, .int .i64 n1, .slice args2.a args2.len args2.cap] w R :=
  liftCalls (c := (.seq (.leaf (cL (bd Tryd.f39))) (.seq (.leaf (cL (cR (bd Tryd.f39)))) (.seq (.seq (.leaf (cL (cL (cR (cR (bd Tryd.f39)))))) (.block 0 (.loop 1 (.seq (.leaf (cL (cB (cB (cR (cL (cR (cR (bd Tryd.f39))))))))) (.seq (.cnd (.tmp 17) (.leaf (cT (cL (cR (cB (cB (cR (cL (cR (cR (bd Tryd.f39))))))))))) (.leaf (cE (cL (cR (cB (cB (cR (cL (cR (cR (bd Tryd.f39)))))))))))) (.seq (.block 1 (.seq (.leaf (cL (cB (cL (cR (cR (cB (cB (cR (cL (cR (cR (bd Tryd.f39))))))))))))) (.leaf (cR (cB (cL (cR (cR (cB (cB (cR (cL (cR (cR (bd Tryd.f39))))))))))))))) (.leaf (cR (cR (cR (cB (cB (cR (cL (cR (cR (bd Tryd.f39))))))))))))))))) (.seq (.leaf (cL (cR (cR (cR (bd Tryd.f39)))))) (.leaf (cR (cR (cR (cR (bd Tryd.f39))))))))))) (J := term_key.J0 R) LfYtpihglmgkfecbaaDoor.mixed Tryd.func39 (by kernel_rfl) (by kernel_rfl) (mkSeq (mkSeq (mkSeq (mkSeq mkLeaf mkLeaf) (mkSeq (mkBlock (mkLoop (loopDef LfYtpihglmgkfecbaaDoor.mixed [(14, .slice), (15, (.int .i64)), (7, .slice), (16, (.int .i64))] (by kernel_rfl) (fun M1 x w => term_key.b1 R (fun y0 y1 y2 y3 w => M1 (y0, y1, y2, y3) w) x.1 x.2.1 x.2.2.1 x.2.2.2 w) (fun M1 => fun _ _ _ => False) (fun _ _ _ => by kernel_rfl) (fun M1 => (mkSeq (mkSeq (mkSeq mkLeaf (mkBlock (mkSeq mkLeaf mkLeaf))) (mkCnd mkLeaf mkLeaf)) mkLeaf)) (fun x w => term_key.l1 R x.1 x.2.1 x.2.2.1 x.2.2.2 w) (by rintro ⟨c0, c1, s0⟩ w ⟨I, μ, h0, h1⟩; refine ⟨fun y w => y.1 = c0 ∧ y.2.1 = c1 ∧ I y.2.2 w, fun y w => μ y.2.2 w, ⟨rfl, rfl, h0⟩, ?_⟩; rintro ⟨d0, d1, t0⟩ w ⟨e0, e1, hI⟩; dsimp only at e0 e1 hI; subst e0; subst e1; exact h1 _ _ hI) (fun _ _ => by kernel_rfl)))) mkLeaf)) mkLeaf) mkLeaf) (kcast (by kernel_rfl) h)

/-! slices_Clone_int -/
def slices_Clone_int.main (R : Value → World → Prop) (s0 : Sl) (w : World) : Prop :=
  cond ((s0.a).isNone)
  (R (.slice none 0 0) w)
  (let w1 := w.alloc (.cells #[] 3);
  ∃ (a_1 : Option Addr) (l_2 c_3 : Nat), ∃ w2 : World, (builtin .append #[29, 29] 29 #[] #[.slice (some (newA w)) 0 0, .slice s0.a s0.len s0.cap]).run Tryd.prog w1 = .ok (.value (.slice a_1 l_2 c_3)) w2 ∧
  R (.slice a_1 l_2 c_3) w2)

def slices_Clone_int.J0 (_ : Value → World → Prop) (_ : Nat) (_ : Fr) (_ : World) : Prop := False

set_option maxRecDepth 100000 in
theorem slices_Clone_int.lift {R : Value → World → Prop} {s0 : Sl} {w : World} (h : slices_Clone_int.main R s0 w) : CallsV Tryd.prog n_slices_Clone_int #[.slice s0.a s0.len s0.cap] w R :=
  liftCalls (c := (.seq (.leaf (cL (bd Tryd.f40))) (.seq (.seq (.leaf (cL (cL (cR (bd Tryd.f40))))) (.cnd (.tmp 4) (.seq (.leaf (cL (cT (cR (cL (cR (bd Tryd.f40))))))) (.leaf (cR (cT (cR (cL (cR (bd Tryd.f40)))))))) (.leaf (cE (cR (cL (cR (bd Tryd.f40)))))))) (.seq (.leaf (cL (cR (cR (bd Tryd.f40))))) (.leaf (cR (cR (cR (bd Tryd.f40))))))))) (J := slices_Clone_int.J0 R) LfYtpihglmgkfecbaaDoor.mixed Tryd.func40 (by kernel_rfl) (by kernel_rfl) (mkSeq (mkSeq (mkSeq mkLeaf mkLeaf) (mkSeq (mkCnd (mkSeq mkLeaf mkLeaf) mkLeaf) mkLeaf)) mkLeaf) (kcast (by kernel_rfl) h)

/-! trystkeep_TwinInts -/
def trystkeep_TwinInts.main (R : Value → World → Prop) (l0 : Sl) (w : World) : Prop :=
  ∃ (a_1 : Option Addr) (l_2 c_3 : Nat), ∃ w1 : World, (builtin .append #[29, 29] 29 #[] #[.slice none 0 0, .slice l0.a l0.len l0.cap]).run Tryd.prog w = .ok (.value (.slice a_1 l_2 c_3)) w1 ∧
  R (.slice a_1 l_2 c_3) w1

def trystkeep_TwinInts.J0 (_ : Value → World → Prop) (_ : Nat) (_ : Fr) (_ : World) : Prop := False

set_option maxRecDepth 100000 in
theorem trystkeep_TwinInts.lift {R : Value → World → Prop} {l0 : Sl} {w : World} (h : trystkeep_TwinInts.main R l0 w) : CallsV Tryd.prog n_trystkeep_TwinInts #[.slice l0.a l0.len l0.cap] w R :=
  liftCalls (c := (.seq (.leaf (cL (bd Tryd.f41))) (.seq (.leaf (cL (cR (bd Tryd.f41)))) (.seq (.leaf (cL (cR (cR (bd Tryd.f41))))) (.leaf (cR (cR (cR (bd Tryd.f41))))))))) (J := trystkeep_TwinInts.J0 R) LfYtpihglmgkfecbaaDoor.mixed Tryd.func41 (by kernel_rfl) (by kernel_rfl) (mkSeq (mkSeq (mkSeq mkLeaf mkLeaf) mkLeaf) mkLeaf) (kcast (by kernel_rfl) h)

/-! trystref10_Arena_Put -/
def trystref10_Arena_Put.c1 (R : Value → World → Prop) (a0 : Option Addr) (args3 : Sl) (t10 : Addr) (w : World) : Prop :=
  ∃ q_1 : Addr, a0 = some q_1 ∧
  ∃ (a_2 : Option Addr) (l_3 c_4 : Nat), w.cell? q_1 = some (.slice a_2 l_3 c_4) ∧
  cond (decide ((((l_3 : Nat) : Int) : Int) ≥ 1048576))
  (R (.tuple #[.int .i64 0, .int .i64 7]) w)
  (CallsV Tryd.prog n_trystkeep_TwinInts #[.slice args3.a args3.len args3.cap] w (fun v_5 w1 =>
  ∃ (a_6 : Option Addr) (l_7 c_8 : Nat), v_5 = .slice a_6 l_7 c_8 ∧
  Wr w1 (t10.add 2) ∧
  (let w2 := w1.setCell (t10.add 2) (.slice a_6 l_7 c_8);
  ∃ S_9 : World → Prop, S_9 w2.drew ∧
  ∃ q_10 : Addr, a0 = some q_10 ∧
  ∃ (a_11 : Option Addr) (l_12 c_13 : Nat), (∀ x, S_9 x → x.cell? q_10 = some (.slice a_11 l_12 c_13)) ∧
  ∃ x_14 : Int, (∀ x, S_9 x → x.cell? t10 = some (.int .i64 x_14)) ∧
  ∃ x_15 : Int, (∀ x, S_9 x → x.cell? (t10.add 1) = some (.int .i64 x_15)) ∧
  ∃ (a_16 : Option Addr) (l_17 c_18 : Nat), (∀ x, S_9 x → x.cell? (t10.add 2) = some (.slice a_16 l_17 c_18)) ∧
  let w3 := w2.drew.alloc (.cells #[.int .i64 x_14, .int .i64 x_15, .slice a_16 l_17 c_18] 43);
  S_9 w3 ∧
  ∃ (a_19 : Option Addr) (l_20 c_21 : Nat), ∃ w4 : World, (builtin .append #[39, 39] 39 #[] #[.slice a_11 l_12 c_13, .slice (some (newA w2.drew)) 1 1]).run Tryd.prog w3 = .ok (.value (.slice a_19 l_20 c_21)) w4 ∧
  ∃ q_22 : Addr, a0 = some q_22 ∧
  Wr w4 q_22 ∧
  (let w5 := w4.setCell q_22 (.slice a_19 l_20 c_21);
  ∃ q_23 : Addr, a0 = some q_23 ∧
  ∃ (a_24 : Option Addr) (l_25 c_26 : Nat), w5.cell? q_23 = some (.slice a_24 l_25 c_26) ∧
  (let t8_26 : Int := (IntKind.i64.wrap (((l_25 : Nat) : Int) - 1));
  R (.tuple #[.int .i64 t8_26, .int .i64 0]) w5)))))

def trystref10_Arena_Put.b2 (R : Value → World → Prop) (N2 : Option Addr → Sl → Addr → Int → World → Prop) (a0 : Option Addr) (args3 : Sl) (t10 : Addr) (i11 : Int) (w : World) : Prop :=
  ∃ q_28 : Addr, a0 = some q_28 ∧
  ∃ (a_29 : Option Addr) (l_30 c_31 : Nat), w.cell? q_28 = some (.slice a_29 l_30 c_31) ∧
  cond (decide ((i11 : Int) < ((l_30 : Nat) : Int)))
  (∃ S_32 : World → Prop, S_32 w.drew ∧
  ∃ q_33 : Addr, a0 = some q_33 ∧
  ∃ (a_34 : Option Addr) (l_35 c_36 : Nat), (∀ x, S_32 x → x.cell? q_33 = some (.slice a_34 l_35 c_36)) ∧
  0 ≤ (i11 : Int) ∧ i11 < ((l_35 : Nat) : Int) ∧ ∃ q_37 : Addr, a_34 = some q_37 ∧
  ∃ x_38 : Int, (∀ x, S_32 x → x.cell? (q_37.add ((i11 : Int).toNat * 3)) = some (.int .i64 x_38)) ∧
  ∃ x_39 : Int, (∀ x, S_32 x → x.cell? ((q_37.add ((i11 : Int).toNat * 3)).add 1) = some (.int .i64 x_39)) ∧
  ∃ (a_40 : Option Addr) (l_41 c_42 : Nat), (∀ x, S_32 x → x.cell? ((q_37.add ((i11 : Int).toNat * 3)).add 2) = some (.slice a_40 l_41 c_42)) ∧
  ∃ x_43 : Int, (∀ x, S_32 x → x.cell? t10 = some (.int .i64 x_43)) ∧
  ∃ x_44 : Int, (∀ x, S_32 x → x.cell? (t10.add 1) = some (.int .i64 x_44)) ∧
  ∃ (a_45 : Option Addr) (l_46 c_47 : Nat), (∀ x, S_32 x → x.cell? (t10.add 2) = some (.slice a_45 l_46 c_47)) ∧
  CallsV Tryd.prog n_trystkeep_Term #[.agg #[.int .i64 x_38, .int .i64 x_39, .slice a_40 l_41 c_42], .agg #[.int .i64 x_43, .int .i64 x_44, .slice a_45 l_46 c_47]] w.drew (fun v_48 w6 =>
  ∃ b_49 : Bool, v_48 = .bool b_49 ∧
  cond b_49
  (R (.tuple #[.int .i64 i11, .int .i64 0]) w6)
  ((let i11_49 : Int := (IntKind.i64.wrap (i11 + 1));
  N2 a0 args3 t10 i11_49 w6))))
  (trystref10_Arena_Put.c1 R a0 args3 t10 w)

def trystref10_Arena_Put.l2 (R : Value → World → Prop) (a0 : Option Addr) (args3 : Sl) (t10 : Addr) (i11 : Int) (w : World) : Prop :=
  ∃ (I : Int → World → Prop) (μ : Int → World → Nat), I i11 w ∧ ∀ s w, I s w → trystref10_Arena_Put.b2 R (fun a0' args3' t10' i11' w' => (a0' = a0 ∧ args3' = args3 ∧ t10' = t10 ∧ I i11' w') ∧ μ i11' w' < μ s w) a0 args3 t10 s w

def trystref10_Arena_Put.c3 (R : Value → World → Prop) (a0 : Option Addr) (kind1 : Int) (n2 : Int) (args3 : Sl) (w : World) : Prop :=
  CallsV Tryd.prog n_trystref10_count #[.int .i64 kind1, .int .i64 ((args3.len : Nat) : Int)] w (fun v_51 w7 =>
  ∃ b_52 : Bool, v_51 = .bool b_52 ∧
  cond (!b_52)
  (R (.tuple #[.int .i64 0, .int .i64 2]) w7)
  (CallsV Tryd.prog n_trystref10_Arena_Has #[.pointer a0, .slice args3.a args3.len args3.cap] w7 (fun v_53 w8 =>
  ∃ b_54 : Bool, v_53 = .bool b_54 ∧
  cond (!b_54)
  (R (.tuple #[.int .i64 0, .int .i64 8]) w8)
  (let w9 := w8.alloc (.cells #[.int .i64 0, .int .i64 0, .slice none 0 0] 43);
  (∀ j, j < 3 → Wr w9 ((newA w8).add j)) ∧
  (let w10 := setCells (newA w8) [.int .i64 kind1, .int .i64 n2, .slice args3.a args3.len args3.cap] 0 w9;
  trystref10_Arena_Put.l2 R a0 args3 (newA w8) 0 w10)))))

def trystref10_Arena_Put.c4 (R : Value → World → Prop) (a0 : Option Addr) (kind1 : Int) (n2 : Int) (args3 : Sl) (w : World) : Prop :=
  cond (decide ((n2 : Int) < 0))
  (R (.tuple #[.int .i64 0, .int .i64 1]) w)
  (cond (decide ((n2 : Int) > 0))
  (cond ((kind1 : Int) != 1)
  (cond ((kind1 : Int) != 2)
  (cond ((kind1 : Int) != 4)
  (R (.tuple #[.int .i64 0, .int .i64 1]) w)
  (trystref10_Arena_Put.c3 R a0 kind1 n2 args3 w))
  (trystref10_Arena_Put.c3 R a0 kind1 n2 args3 w))
  (trystref10_Arena_Put.c3 R a0 kind1 n2 args3 w))
  (trystref10_Arena_Put.c3 R a0 kind1 n2 args3 w))

def trystref10_Arena_Put.main (R : Value → World → Prop) (a0 : Option Addr) (kind1 : Int) (n2 : Int) (args3 : Sl) (w : World) : Prop :=
  cond (decide ((kind1 : Int) < 1))
  (R (.tuple #[.int .i64 0, .int .i64 6]) w)
  (cond (decide ((kind1 : Int) > 9))
  (R (.tuple #[.int .i64 0, .int .i64 6]) w)
  (trystref10_Arena_Put.c4 R a0 kind1 n2 args3 w))

def trystref10_Arena_Put.J0 (R : Value → World → Prop) (k : Nat) (fr : Fr) (w : World) : Prop :=
  cond (Nat.beq k 4) (dec [(0, .ptr), (1, (.int .i64)), (2, (.int .i64)), (3, .slice)] fr fun x => trystref10_Arena_Put.c4 R x.1 x.2.1 x.2.2.1 x.2.2.2 w) (cond (Nat.beq k 3) (dec [(0, .ptr), (1, (.int .i64)), (2, (.int .i64)), (3, .slice)] fr fun x => trystref10_Arena_Put.c3 R x.1 x.2.1 x.2.2.1 x.2.2.2 w) (cond (Nat.beq k 2) (dec [(0, .ptr), (3, .slice), (10, .addr), (11, (.int .i64))] fr fun x => trystref10_Arena_Put.l2 R x.1 x.2.1 x.2.2.1 x.2.2.2 w) (cond (Nat.beq k 1) (dec [(0, .ptr), (3, .slice), (10, .addr)] fr fun x => trystref10_Arena_Put.c1 R x.1 x.2.1 x.2.2 w) (False))))

set_option maxRecDepth 100000 in
theorem trystref10_Arena_Put.lift {R : Value → World → Prop} {a0 : Option Addr} {kind1 : Int} {n2 : Int} {args3 : Sl} {w : World} (h : trystref10_Arena_Put.main R a0 kind1 n2 args3 w) : CallsV Tryd.prog n_trystref10_Arena_Put #[.pointer a0, .int .i64 kind1, .int .i64 n2, .slice args3.a args3.len args3.cap] w R :=
  liftCalls (c := (.seq (.leaf (cL (bd Tryd.f42))) (.seq (.seq (.leaf (cL (cL (cR (bd Tryd.f42))))) (.cnd (.tmp 17) (.seq (.leaf (cL (cT (cR (cL (cR (bd Tryd.f42))))))) (.leaf (cR (cT (cR (cL (cR (bd Tryd.f42)))))))) (.leaf (cE (cR (cL (cR (bd Tryd.f42)))))))) (.cut 4 (.seq (.seq (.leaf (cL (cL (cR (cR (bd Tryd.f42)))))) (.cnd (.tmp 35) (.seq (.leaf (cL (cT (cR (cL (cR (cR (bd Tryd.f42)))))))) (.leaf (cR (cT (cR (cL (cR (cR (bd Tryd.f42))))))))) (.leaf (cE (cR (cL (cR (cR (bd Tryd.f42))))))))) (.cut 3 (.seq (.seq (.leaf (cL (cL (cR (cR (cR (bd Tryd.f42))))))) (.cnd (.tmp 40) (.seq (.leaf (cL (cT (cR (cL (cR (cR (cR (bd Tryd.f42))))))))) (.leaf (cR (cT (cR (cL (cR (cR (cR (bd Tryd.f42)))))))))) (.leaf (cE (cR (cL (cR (cR (cR (bd Tryd.f42)))))))))) (.seq (.seq (.leaf (cL (cL (cR (cR (cR (cR (bd Tryd.f42)))))))) (.cnd (.tmp 44) (.seq (.leaf (cL (cT (cR (cL (cR (cR (cR (cR (bd Tryd.f42)))))))))) (.leaf (cR (cT (cR (cL (cR (cR (cR (cR (bd Tryd.f42))))))))))) (.leaf (cE (cR (cL (cR (cR (cR (cR (bd Tryd.f42))))))))))) (.seq (.leaf (cL (cR (cR (cR (cR (cR (bd Tryd.f42)))))))) (.seq (.seq (.leaf (cL (cL (cR (cR (cR (cR (cR (cR (bd Tryd.f42)))))))))) (.block 0 (.loop 2 (.seq (.seq (.leaf (cL (cL (cB (cB (cR (cL (cR (cR (cR (cR (cR (cR (bd Tryd.f42)))))))))))))) (.cnd (.tmp 55) (.leaf (cT (cR (cL (cB (cB (cR (cL (cR (cR (cR (cR (cR (cR (bd Tryd.f42))))))))))))))) (.leaf (cE (cR (cL (cB (cB (cR (cL (cR (cR (cR (cR (cR (cR (bd Tryd.f42))))))))))))))))) (.seq (.block 1 (.seq (.leaf (cL (cB (cL (cR (cB (cB (cR (cL (cR (cR (cR (cR (cR (cR (bd Tryd.f42)))))))))))))))) (.cnd (.tmp 66) (.seq (.leaf (cL (cT (cR (cB (cL (cR (cB (cB (cR (cL (cR (cR (cR (cR (cR (cR (bd Tryd.f42)))))))))))))))))) (.leaf (cR (cT (cR (cB (cL (cR (cB (cB (cR (cL (cR (cR (cR (cR (cR (cR (bd Tryd.f42))))))))))))))))))) (.leaf (cE (cR (cB (cL (cR (cB (cB (cR (cL (cR (cR (cR (cR (cR (cR (bd Tryd.f42)))))))))))))))))))) (.leaf (cR (cR (cB (cB (cR (cL (cR (cR (cR (cR (cR (cR (bd Tryd.f42))))))))))))))))))) (.cut 1 (.seq (.seq (.leaf (cL (cL (cR (cR (cR (cR (cR (cR (cR (bd Tryd.f42))))))))))) (.cnd (.tmp 73) (.seq (.leaf (cL (cT (cR (cL (cR (cR (cR (cR (cR (cR (cR (bd Tryd.f42))))))))))))) (.leaf (cR (cT (cR (cL (cR (cR (cR (cR (cR (cR (cR (bd Tryd.f42)))))))))))))) (.leaf (cE (cR (cL (cR (cR (cR (cR (cR (cR (cR (bd Tryd.f42)))))))))))))) (.seq (.leaf (cL (cR (cR (cR (cR (cR (cR (cR (cR (bd Tryd.f42))))))))))) (.seq (.leaf (cL (cR (cR (cR (cR (cR (cR (cR (cR (cR (bd Tryd.f42)))))))))))) (.seq (.leaf (cL (cR (cR (cR (cR (cR (cR (cR (cR (cR (cR (bd Tryd.f42))))))))))))) (.leaf (cR (cR (cR (cR (cR (cR (cR (cR (cR (cR (cR (bd Tryd.f42)))))))))))))))))))))))))))) (J := trystref10_Arena_Put.J0 R) LfYtpihglmgkfecbaaDoor.mixed Tryd.func42 (by kernel_rfl) (by kernel_rfl) (mkSeq (mkSeq (mkCut (cutDef [(0, .ptr), (1, (.int .i64)), (2, (.int .i64)), (3, .slice)] (fun x w => trystref10_Arena_Put.c4 R x.1 x.2.1 x.2.2.1 x.2.2.2 w) (fun _ _ => by kernel_rfl) (fun _ _ => by kernel_rfl)) (mkSeq (mkCut (cutDef [(0, .ptr), (1, (.int .i64)), (2, (.int .i64)), (3, .slice)] (fun x w => trystref10_Arena_Put.c3 R x.1 x.2.1 x.2.2.1 x.2.2.2 w) (fun _ _ => by kernel_rfl) (fun _ _ => by kernel_rfl)) (mkSeq (mkSeq (mkSeq (mkSeq (mkCut (cutDef [(0, .ptr), (3, .slice), (10, .addr)] (fun x w => trystref10_Arena_Put.c1 R x.1 x.2.1 x.2.2 w) (fun _ _ => by kernel_rfl) (fun _ _ => by kernel_rfl)) (mkSeq (mkSeq (mkSeq (mkSeq mkLeaf mkLeaf) mkLeaf) mkLeaf) (mkSeq (mkCnd (mkSeq mkLeaf mkLeaf) mkLeaf) mkLeaf))) (mkSeq (mkBlock (mkLoop (loopDef LfYtpihglmgkfecbaaDoor.mixed [(0, .ptr), (3, .slice), (10, .addr), (11, (.int .i64))] (by kernel_rfl) (fun M2 x w => trystref10_Arena_Put.b2 R (fun y0 y1 y2 y3 w => M2 (y0, y1, y2, y3) w) x.1 x.2.1 x.2.2.1 x.2.2.2 w) (fun M2 => fun _ _ _ => False) (fun _ _ _ => by kernel_rfl) (fun M2 => (mkSeq (mkSeq mkLeaf (mkBlock (mkSeq (mkCnd (mkSeq mkLeaf mkLeaf) mkLeaf) mkLeaf))) (mkSeq (mkCnd mkLeaf mkLeaf) mkLeaf))) (fun x w => trystref10_Arena_Put.l2 R x.1 x.2.1 x.2.2.1 x.2.2.2 w) (by rintro ⟨c0, c1, c2, s0⟩ w ⟨I, μ, h0, h1⟩; refine ⟨fun y w => y.1 = c0 ∧ y.2.1 = c1 ∧ y.2.2.1 = c2 ∧ I y.2.2.2 w, fun y w => μ y.2.2.2 w, ⟨rfl, rfl, rfl, h0⟩, ?_⟩; rintro ⟨d0, d1, d2, t0⟩ w ⟨e0, e1, e2, hI⟩; dsimp only at e0 e1 e2 hI; subst e0; subst e1; subst e2; exact h1 _ _ hI) (fun _ _ => by kernel_rfl)))) mkLeaf)) mkLeaf) (mkSeq (mkCnd (mkSeq mkLeaf mkLeaf) mkLeaf) mkLeaf)) (mkSeq (mkCnd (mkSeq mkLeaf mkLeaf) mkLeaf) mkLeaf))) (mkSeq (mkCnd (mkSeq mkLeaf mkLeaf) mkLeaf) mkLeaf))) (mkSeq (mkCnd (mkSeq mkLeaf mkLeaf) mkLeaf) mkLeaf)) mkLeaf) (kcast (by kernel_rfl) h)

/-! slices_Reverse_int -/
def slices_Reverse_int.b1 (R : Value → World → Prop) (N1 : Sl → Int → Int → World → Prop) (s0 : Sl) (i2 : Int) (j3 : Int) (w : World) : Prop :=
  cond (decide ((i2 : Int) < j3))
  (∃ S_1 : World → Prop, S_1 w.drew ∧
  0 ≤ (j3 : Int) ∧ j3 < ((s0.len : Nat) : Int) ∧ ∃ q_2 : Addr, s0.a = some q_2 ∧
  ∃ x_3 : Int, (∀ x, S_1 x → x.cell? (q_2.add (j3 : Int).toNat) = some (.int .i64 x_3)) ∧
  0 ≤ (i2 : Int) ∧ i2 < ((s0.len : Nat) : Int) ∧ ∃ q_4 : Addr, s0.a = some q_4 ∧
  ∃ x_5 : Int, (∀ x, S_1 x → x.cell? (q_4.add (i2 : Int).toNat) = some (.int .i64 x_5)) ∧
  0 ≤ (i2 : Int) ∧ i2 < ((s0.len : Nat) : Int) ∧ ∃ q_6 : Addr, s0.a = some q_6 ∧
  Wr w.drew (q_6.add (i2 : Int).toNat) ∧
  (let w1 := w.drew.setCell (q_6.add (i2 : Int).toNat) (.int .i64 x_3);
  0 ≤ (j3 : Int) ∧ j3 < ((s0.len : Nat) : Int) ∧ ∃ q_7 : Addr, s0.a = some q_7 ∧
  Wr w1 (q_7.add (j3 : Int).toNat) ∧
  (let w2 := w1.setCell (q_7.add (j3 : Int).toNat) (.int .i64 x_5);
  (let i2_7 : Int := (IntKind.i64.wrap (i2 + 1));
  (let j3_8 : Int := (IntKind.i64.wrap (j3 - 1));
  N1 s0 i2_7 j3_8 w2)))))
  (R (.tuple #[]) w)

def slices_Reverse_int.l1 (R : Value → World → Prop) (s0 : Sl) (i2 : Int) (j3 : Int) (w : World) : Prop :=
  ∃ (I : (Int × Int) → World → Prop) (μ : (Int × Int) → World → Nat), I (i2, j3) w ∧ ∀ s w, I s w → slices_Reverse_int.b1 R (fun s0' i2' j3' w' => (s0' = s0 ∧ I (i2', j3') w') ∧ μ (i2', j3') w' < μ s w) s0 s.1 s.2 w

def slices_Reverse_int.main (R : Value → World → Prop) (s0 : Sl) (w : World) : Prop :=
  (let j3_9 : Int := (IntKind.i64.wrap (((s0.len : Nat) : Int) - 1));
  slices_Reverse_int.l1 R s0 0 j3_9 w)

def slices_Reverse_int.J0 (R : Value → World → Prop) (k : Nat) (fr : Fr) (w : World) : Prop :=
  cond (Nat.beq k 1) (dec [(0, .slice), (2, (.int .i64)), (3, (.int .i64))] fr fun x => slices_Reverse_int.l1 R x.1 x.2.1 x.2.2 w) (False)

set_option maxRecDepth 100000 in
theorem slices_Reverse_int.lift {R : Value → World → Prop} {s0 : Sl} {w : World} (h : slices_Reverse_int.main R s0 w) : CallsV Tryd.prog n_slices_Reverse_int #[.slice s0.a s0.len s0.cap] w R :=
  liftCalls (c := (.seq (.leaf (cL (bd Tryd.f43))) (.block 0 (.loop 1 (.seq (.seq (.leaf (cL (cL (cB (cB (cR (bd Tryd.f43))))))) (.cnd (.tmp 9) (.leaf (cT (cR (cL (cB (cB (cR (bd Tryd.f43)))))))) (.leaf (cE (cR (cL (cB (cB (cR (bd Tryd.f43)))))))))) (.seq (.block 1 (.leaf (cB (cL (cR (cB (cB (cR (bd Tryd.f43))))))))) (.leaf (cR (cR (cB (cB (cR (bd Tryd.f43))))))))))))) (J := slices_Reverse_int.J0 R) LfYtpihglmgkfecbaaDoor.mixed Tryd.func43 (by kernel_rfl) (by kernel_rfl) (mkSeq (mkBlock (mkLoop (loopDef LfYtpihglmgkfecbaaDoor.mixed [(0, .slice), (2, (.int .i64)), (3, (.int .i64))] (by kernel_rfl) (fun M1 x w => slices_Reverse_int.b1 R (fun y0 y1 y2 w => M1 (y0, y1, y2) w) x.1 x.2.1 x.2.2 w) (fun M1 => fun _ _ _ => False) (fun _ _ _ => by kernel_rfl) (fun M1 => (mkSeq (mkSeq mkLeaf (mkBlock mkLeaf)) (mkSeq (mkCnd mkLeaf mkLeaf) mkLeaf))) (fun x w => slices_Reverse_int.l1 R x.1 x.2.1 x.2.2 w) (by rintro ⟨c0, s0⟩ w ⟨I, μ, h0, h1⟩; refine ⟨fun y w => y.1 = c0 ∧ I y.2 w, fun y w => μ y.2 w, ⟨rfl, h0⟩, ?_⟩; rintro ⟨d0, t0⟩ w ⟨e0, hI⟩; dsimp only at e0 hI; subst e0; exact h1 _ _ hI) (fun _ _ => by kernel_rfl)))) mkLeaf) (kcast (by kernel_rfl) h)

/-! trystref10_count -/
def trystref10_count.c1 (R : Value → World → Prop) (n1 : Int) (t7 : Int) (t18 : Bool) (w : World) : Prop :=
  cond t18
  ((let t4_0 : Bool := (decide ((n1 : Int) ≥ 1));
  R (.bool t4_0) w))
  (cond ((t7 : Int) == 7)
  ((let t4_1 : Bool := (decide ((n1 : Int) ≥ 2));
  R (.bool t4_1) w))
  (R (.bool true) w))

def trystref10_count.c2 (R : Value → World → Prop) (n1 : Int) (t7 : Int) (t13 : Bool) (w : World) : Prop :=
  cond t13
  (R (.bool ((n1 : Int) == 1)) w)
  (cond ((t7 : Int) == 6)
  (trystref10_count.c1 R n1 t7 ((t7 : Int) == 6) w)
  (trystref10_count.c1 R n1 t7 ((t7 : Int) == 8) w))

def trystref10_count.c3 (R : Value → World → Prop) (n1 : Int) (t7 : Int) (t8 : Bool) (w : World) : Prop :=
  cond t8
  (R (.bool ((n1 : Int) == 0)) w)
  (cond ((t7 : Int) == 4)
  (trystref10_count.c2 R n1 t7 ((t7 : Int) == 4) w)
  (trystref10_count.c2 R n1 t7 ((t7 : Int) == 5) w))

def trystref10_count.main (R : Value → World → Prop) (kind0 : Int) (n1 : Int) (w : World) : Prop :=
  cond (decide ((n1 : Int) > 400))
  (R (.bool false) w)
  (cond ((kind0 : Int) == 1)
  (trystref10_count.c3 R n1 kind0 ((kind0 : Int) == 1) w)
  (trystref10_count.c3 R n1 kind0 ((kind0 : Int) == 2) w))

def trystref10_count.J0 (R : Value → World → Prop) (k : Nat) (fr : Fr) (w : World) : Prop :=
  cond (Nat.beq k 3) (dec [(1, (.int .i64)), (7, (.int .i64)), (8, .bool)] fr fun x => trystref10_count.c3 R x.1 x.2.1 x.2.2 w) (cond (Nat.beq k 2) (dec [(1, (.int .i64)), (7, (.int .i64)), (13, .bool)] fr fun x => trystref10_count.c2 R x.1 x.2.1 x.2.2 w) (cond (Nat.beq k 1) (dec [(1, (.int .i64)), (7, (.int .i64)), (18, .bool)] fr fun x => trystref10_count.c1 R x.1 x.2.1 x.2.2 w) (False)))

set_option maxRecDepth 100000 in
theorem trystref10_count.lift {R : Value → World → Prop} {kind0 : Int} {n1 : Int} {w : World} (h : trystref10_count.main R kind0 n1 w) : CallsV Tryd.prog n_trystref10_count #[.int .i64 kind0, .int .i64 n1] w R :=
  liftCalls (c := (.seq (.leaf (cL (bd Tryd.f48))) (.seq (.seq (.leaf (cL (cL (cR (bd Tryd.f48))))) (.cnd (.tmp 6) (.seq (.leaf (cL (cT (cR (cL (cR (bd Tryd.f48))))))) (.leaf (cR (cT (cR (cL (cR (bd Tryd.f48)))))))) (.leaf (cE (cR (cL (cR (bd Tryd.f48)))))))) (.seq (.seq (.leaf (cL (cL (cR (cR (bd Tryd.f48)))))) (.block 0 (.seq (.seq (.leaf (cL (cL (cB (cR (cL (cR (cR (bd Tryd.f48))))))))) (.cnd (.tmp 8) (.leaf (cT (cR (cL (cB (cR (cL (cR (cR (bd Tryd.f48)))))))))) (.leaf (cE (cR (cL (cB (cR (cL (cR (cR (bd Tryd.f48)))))))))))) (.cut 3 (.cnd (.tmp 8) (.seq (.leaf (cL (cT (cR (cB (cR (cL (cR (cR (bd Tryd.f48)))))))))) (.leaf (cR (cT (cR (cB (cR (cL (cR (cR (bd Tryd.f48))))))))))) (.seq (.seq (.leaf (cL (cL (cE (cR (cB (cR (cL (cR (cR (bd Tryd.f48))))))))))) (.cnd (.tmp 13) (.leaf (cT (cR (cL (cE (cR (cB (cR (cL (cR (cR (bd Tryd.f48)))))))))))) (.leaf (cE (cR (cL (cE (cR (cB (cR (cL (cR (cR (bd Tryd.f48)))))))))))))) (.cut 2 (.cnd (.tmp 13) (.seq (.leaf (cL (cT (cR (cE (cR (cB (cR (cL (cR (cR (bd Tryd.f48)))))))))))) (.leaf (cR (cT (cR (cE (cR (cB (cR (cL (cR (cR (bd Tryd.f48))))))))))))) (.seq (.seq (.leaf (cL (cL (cE (cR (cE (cR (cB (cR (cL (cR (cR (bd Tryd.f48))))))))))))) (.cnd (.tmp 18) (.leaf (cT (cR (cL (cE (cR (cE (cR (cB (cR (cL (cR (cR (bd Tryd.f48)))))))))))))) (.leaf (cE (cR (cL (cE (cR (cE (cR (cB (cR (cL (cR (cR (bd Tryd.f48)))))))))))))))) (.cut 1 (.cnd (.tmp 18) (.seq (.leaf (cL (cT (cR (cE (cR (cE (cR (cB (cR (cL (cR (cR (bd Tryd.f48)))))))))))))) (.leaf (cR (cT (cR (cE (cR (cE (cR (cB (cR (cL (cR (cR (bd Tryd.f48))))))))))))))) (.seq (.leaf (cL (cE (cR (cE (cR (cE (cR (cB (cR (cL (cR (cR (bd Tryd.f48)))))))))))))) (.cnd (.tmp 23) (.seq (.leaf (cL (cT (cR (cE (cR (cE (cR (cE (cR (cB (cR (cL (cR (cR (bd Tryd.f48)))))))))))))))) (.leaf (cR (cT (cR (cE (cR (cE (cR (cE (cR (cB (cR (cL (cR (cR (bd Tryd.f48))))))))))))))))) (.leaf (cE (cR (cE (cR (cE (cR (cE (cR (cB (cR (cL (cR (cR (bd Tryd.f48)))))))))))))))))))))))))))) (.seq (.leaf (cL (cR (cR (cR (bd Tryd.f48)))))) (.leaf (cR (cR (cR (cR (bd Tryd.f48))))))))))) (J := trystref10_count.J0 R) LfYtpihglmgkfecbaaDoor.mixed Tryd.func48 (by kernel_rfl) (by kernel_rfl) (mkSeq (mkSeq (mkSeq (mkSeq mkLeaf mkLeaf) (mkSeq (mkBlock (mkSeq (mkCut (cutDef [(1, (.int .i64)), (7, (.int .i64)), (8, .bool)] (fun x w => trystref10_count.c3 R x.1 x.2.1 x.2.2 w) (fun _ _ => by kernel_rfl) (fun _ _ => by kernel_rfl)) (mkCnd (mkSeq mkLeaf mkLeaf) (mkSeq (mkCut (cutDef [(1, (.int .i64)), (7, (.int .i64)), (13, .bool)] (fun x w => trystref10_count.c2 R x.1 x.2.1 x.2.2 w) (fun _ _ => by kernel_rfl) (fun _ _ => by kernel_rfl)) (mkCnd (mkSeq mkLeaf mkLeaf) (mkSeq (mkCut (cutDef [(1, (.int .i64)), (7, (.int .i64)), (18, .bool)] (fun x w => trystref10_count.c1 R x.1 x.2.1 x.2.2 w) (fun _ _ => by kernel_rfl) (fun _ _ => by kernel_rfl)) (mkCnd (mkSeq mkLeaf mkLeaf) (mkSeq (mkCnd (mkSeq mkLeaf mkLeaf) mkLeaf) mkLeaf))) (mkSeq (mkCnd mkLeaf mkLeaf) mkLeaf)))) (mkSeq (mkCnd mkLeaf mkLeaf) mkLeaf)))) (mkSeq (mkCnd mkLeaf mkLeaf) mkLeaf))) mkLeaf)) (mkSeq (mkCnd (mkSeq mkLeaf mkLeaf) mkLeaf) mkLeaf)) mkLeaf) (kcast (by kernel_rfl) h)

end Go.Proofs.YtpihglmgkfecbaaDoor
