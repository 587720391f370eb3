/-
  What the code of these functions comes to, and that it suffices for the call. Written by a program of ours, for this claim.
-/
import Derived.Test.YtnnpkjhpeefnbaaProg
import Derived.Test.YtnnpkjhpeefnbaaLift
set_option linter.unusedVariables false
namespace Go.Proofs.Ytnnpkjhpeefnbaa
open Go.Lf
theorem LfYtnnpkjhpeefnbaa.mixed : Try.prog.follows .mixedOrders = true := by kernel_rfl
abbrev n_trystlaw25_LogsWant : Nat := 3
abbrev n_trystlaw25_Heavy : Nat := 12
abbrev n_logs_Check : Nat := 13
abbrev n_logs_Want : Nat := 14
abbrev n_trystkeep_Msg : Nat := 15
abbrev n_trystlaw25_wakes : Nat := 16
abbrev n_trystkeep_TwinInts : Nat := 17
abbrev n_logs_client : Nat := 40
abbrev n_slices_ContainsFunc_int : Nat := 41
abbrev n_logs_Check_1 : Nat := 42
abbrev n_logs_body : Nat := 43
abbrev n_logs_has : Nat := 44
abbrev n_slices_IndexFunc_int : Nat := 62
/-! trystlaw25_LogsWant -/
def trystlaw25_LogsWant.c1 (R : Value → World → Prop) (l0 : Sl) (have1 : Sl) (m5 : Addr) (w : World) : Prop :=
  CallsV Try.prog n_trystkeep_TwinInts #[.slice have1.a have1.len have1.cap] w (fun v_1 w1 =>
  ∃ (a_2 : Option Addr) (l_3 c_4 : Nat), v_1 = .slice a_2 l_3 c_4 ∧
  ∃ x_5 : Int, w1.cell? m5 = some (.int .i64 x_5) ∧
  0 ≤ (x_5 : Int) ∧ x_5 < ((l_3 : Nat) : Int) ∧ ∃ q_6 : Addr, a_2 = some q_6 ∧
  ∃ x_7 : Int, w1.cell? (q_6.add (x_5 : Int).toNat) = some (.int .i64 x_7) ∧
  0 ≤ (x_5 : Int) ∧ x_5 < ((l_3 : Nat) : Int) ∧ ∃ q_8 : Addr, a_2 = some q_8 ∧
  Wr w1 (q_8.add (x_5 : Int).toNat) ∧
  (let w2 := w1.setCell (q_8.add (x_5 : Int).toNat) (.int .i64 (IntKind.i64.wrap (x_7 + 1)));
  CallsV Try.prog n_logs_Want #[.slice l0.a l0.len l0.cap, .slice a_2 l_3 c_4] w2 (fun v_9 w3 =>
  ∃ x_10 : Int, ∃ x_11 : Int, ∃ x_12 : Int, ∃ b_13 : Bool, v_9 = .tuple #[.agg #[.int .i64 x_10, .int .i64 x_11, .int .i64 x_12], .bool b_13] ∧
  let w4 := w3.alloc (.cells #[.int .i64 0, .int .i64 0, .int .i64 0] 28);
  (∀ j, j < 3 → Wr w4 ((newA w3).add j)) ∧
  (let w5 := setCells (newA w3) [.int .i64 x_10, .int .i64 x_11, .int .i64 x_12] 0 w4;
  cond (!b_13)
  (∃ x_14 : Int, w5.cell? (newA w3) = some (.int .i64 x_14) ∧
  ∃ x_15 : Int, w5.cell? m5 = some (.int .i64 x_15) ∧
  cond ((x_14 : Int) != x_15)
  (CallsV Try.prog n_trystlaw25_wakes #[] w5 (fun v_16 w6 =>
  ∃ b_17 : Bool, v_16 = .bool b_17 ∧
  R (.bool b_17) w6))
  (cond (!b_13)
  (CallsV Try.prog n_trystlaw25_wakes #[] w5 (fun v_18 w7 =>
  ∃ b_19 : Bool, v_18 = .bool b_19 ∧
  R (.bool b_19) w7))
  (∃ x_20 : Int, w5.cell? ((newA w3).add 1) = some (.int .i64 x_20) ∧
  ∃ x_21 : Int, w5.cell? (m5.add 1) = some (.int .i64 x_21) ∧
  cond ((x_20 : Int) == (IntKind.i64.wrap (x_21 + 1)))
  (CallsV Try.prog n_trystlaw25_wakes #[] w5 (fun v_22 w8 =>
  ∃ b_23 : Bool, v_22 = .bool b_23 ∧
  R (.bool b_23) w8))
  (R (.bool false) w5))))
  (∃ x_24 : Int, w5.cell? (newA w3) = some (.int .i64 x_24) ∧
  ∃ x_25 : Int, w5.cell? m5 = some (.int .i64 x_25) ∧
  cond (decide ((x_24 : Int) ≥ x_25))
  (∃ x_26 : Int, w5.cell? (newA w3) = some (.int .i64 x_26) ∧
  ∃ x_27 : Int, w5.cell? m5 = some (.int .i64 x_27) ∧
  cond ((x_26 : Int) != x_27)
  (CallsV Try.prog n_trystlaw25_wakes #[] w5 (fun v_28 w9 =>
  ∃ b_29 : Bool, v_28 = .bool b_29 ∧
  R (.bool b_29) w9))
  (cond (!b_13)
  (CallsV Try.prog n_trystlaw25_wakes #[] w5 (fun v_30 w10 =>
  ∃ b_31 : Bool, v_30 = .bool b_31 ∧
  R (.bool b_31) w10))
  (∃ x_32 : Int, w5.cell? ((newA w3).add 1) = some (.int .i64 x_32) ∧
  ∃ x_33 : Int, w5.cell? (m5.add 1) = some (.int .i64 x_33) ∧
  cond ((x_32 : Int) == (IntKind.i64.wrap (x_33 + 1)))
  (CallsV Try.prog n_trystlaw25_wakes #[] w5 (fun v_34 w11 =>
  ∃ b_35 : Bool, v_34 = .bool b_35 ∧
  R (.bool b_35) w11))
  (R (.bool false) w5))))
  (R (.bool false) w5))))))

def trystlaw25_LogsWant.c2 (R : Value → World → Prop) (l0 : Sl) (have1 : Sl) (m5 : Addr) (ok6 : Bool) (first7 : Int) (w : World) : Prop :=
  cond (!ok6)
  (cond (decide ((first7 : Int) < 0))
  (∃ x_36 : Int, w.cell? m5 = some (.int .i64 x_36) ∧
  ∃ x_37 : Int, w.cell? (m5.add 1) = some (.int .i64 x_37) ∧
  ∃ x_38 : Int, w.cell? (m5.add 2) = some (.int .i64 x_38) ∧
  CallsV Try.prog n_trystkeep_Msg #[.agg #[.int .i64 x_36, .int .i64 x_37, .int .i64 x_38], .agg #[.int .i64 0, .int .i64 0, .int .i64 0]] w (fun v_39 w12 =>
  ∃ b_40 : Bool, v_39 = .bool b_40 ∧
  cond b_40
  (CallsV Try.prog n_trystlaw25_wakes #[] w12 (fun v_41 w13 =>
  ∃ b_42 : Bool, v_41 = .bool b_42 ∧
  R (.bool b_42) w13))
  (R (.bool false) w12)))
  (R (.bool false) w))
  (cond (decide ((first7 : Int) < 0))
  (R (.bool false) w.drew)
  (∃ x_43 : Int, w.cell? m5 = some (.int .i64 x_43) ∧
  0 ≤ (first7 : Int) ∧ first7 < ((l0.len : Nat) : Int) ∧ ∃ q_44 : Addr, l0.a = some q_44 ∧
  ∃ x_45 : Int, w.cell? (q_44.add ((first7 : Int).toNat * 3)) = some (.int .i64 x_45) ∧
  cond ((x_43 : Int) != x_45)
  (R (.bool false) w.drew)
  (∃ x_46 : Int, w.cell? (m5.add 1) = some (.int .i64 x_46) ∧
  ∃ x_47 : Int, w.cell? m5 = some (.int .i64 x_47) ∧
  0 ≤ (x_47 : Int) ∧ x_47 < ((have1.len : Nat) : Int) ∧ ∃ q_48 : Addr, have1.a = some q_48 ∧
  ∃ x_49 : Int, w.cell? (q_48.add (x_47 : Int).toNat) = some (.int .i64 x_49) ∧
  cond ((x_46 : Int) != (IntKind.i64.wrap (x_49 + 1)))
  (R (.bool false) w.drew)
  (∃ x_50 : Int, w.cell? (m5.add 2) = some (.int .i64 x_50) ∧
  0 ≤ (first7 : Int) ∧ first7 < ((l0.len : Nat) : Int) ∧ ∃ q_51 : Addr, l0.a = some q_51 ∧
  ∃ (a_52 : Option Addr) (l_53 c_54 : Nat), w.cell? ((q_51.add ((first7 : Int).toNat * 3)).add 2) = some (.slice a_52 l_53 c_54) ∧
  ∃ x_55 : Int, w.cell? m5 = some (.int .i64 x_55) ∧
  0 ≤ (x_55 : Int) ∧ x_55 < ((have1.len : Nat) : Int) ∧ ∃ q_56 : Addr, have1.a = some q_56 ∧
  ∃ x_57 : Int, w.cell? (q_56.add (x_55 : Int).toNat) = some (.int .i64 x_57) ∧
  0 ≤ (first7 : Int) ∧ first7 < ((l0.len : Nat) : Int) ∧ ∃ q_58 : Addr, l0.a = some q_58 ∧
  ∃ x_59 : Int, w.cell? ((q_58.add ((first7 : Int).toNat * 3)).add 1) = some (.int .i64 x_59) ∧
  0 ≤ ((IntKind.i64.wrap (x_57 - x_59)) : Int) ∧ (IntKind.i64.wrap (x_57 - x_59)) < ((l_53 : Nat) : Int) ∧ ∃ q_60 : Addr, a_52 = some q_60 ∧
  ∃ x_61 : Int, w.cell? (q_60.add ((IntKind.i64.wrap (x_57 - x_59)) : Int).toNat) = some (.int .i64 x_61) ∧
  cond ((x_50 : Int) != x_61)
  (R (.bool false) w.drew)
  (trystlaw25_LogsWant.c1 R l0 have1 m5 w.drew)))))

def trystlaw25_LogsWant.b3 (R : Value → World → Prop) (N3 : Sl → Sl → Addr → Bool → Int → Int → World → Prop) (l0 : Sl) (have1 : Sl) (m5 : Addr) (ok6 : Bool) (first7 : Int) (i8 : Int) (w : World) : Prop :=
  cond (decide ((i8 : Int) ≥ 0))
  (0 ≤ (i8 : Int) ∧ i8 < ((l0.len : Nat) : Int) ∧ ∃ q_62 : Addr, l0.a = some q_62 ∧
  ∃ x_63 : Int, w.cell? (q_62.add ((i8 : Int).toNat * 3)) = some (.int .i64 x_63) ∧
  0 ≤ (x_63 : Int) ∧ x_63 < ((have1.len : Nat) : Int) ∧ ∃ q_64 : Addr, have1.a = some q_64 ∧
  ∃ x_65 : Int, w.cell? (q_64.add (x_63 : Int).toNat) = some (.int .i64 x_65) ∧
  0 ≤ (i8 : Int) ∧ i8 < ((l0.len : Nat) : Int) ∧ ∃ q_66 : Addr, l0.a = some q_66 ∧
  ∃ x_67 : Int, w.cell? ((q_66.add ((i8 : Int).toNat * 3)).add 1) = some (.int .i64 x_67) ∧
  cond (decide ((x_65 : Int) ≥ x_67))
  (0 ≤ (i8 : Int) ∧ i8 < ((l0.len : Nat) : Int) ∧ ∃ q_68 : Addr, l0.a = some q_68 ∧
  ∃ x_69 : Int, w.cell? ((q_68.add ((i8 : Int).toNat * 3)).add 1) = some (.int .i64 x_69) ∧
  0 ≤ (i8 : Int) ∧ i8 < ((l0.len : Nat) : Int) ∧ ∃ q_70 : Addr, l0.a = some q_70 ∧
  ∃ (a_71 : Option Addr) (l_72 c_73 : Nat), w.cell? ((q_70.add ((i8 : Int).toNat * 3)).add 2) = some (.slice a_71 l_72 c_73) ∧
  cond (decide ((x_65 : Int) < (IntKind.i64.wrap (x_69 + ((l_72 : Nat) : Int)))))
  ((let i8_73 : Int := (IntKind.i64.wrap (i8 - 1));
  N3 l0 have1 m5 ok6 i8 i8_73 w.drew))
  ((let i8_74 : Int := (IntKind.i64.wrap (i8 - 1));
  N3 l0 have1 m5 ok6 first7 i8_74 w.drew)))
  ((let i8_75 : Int := (IntKind.i64.wrap (i8 - 1));
  N3 l0 have1 m5 ok6 first7 i8_75 w.drew)))
  (trystlaw25_LogsWant.c2 R l0 have1 m5 ok6 first7 w)

def trystlaw25_LogsWant.l3 (R : Value → World → Prop) (l0 : Sl) (have1 : Sl) (m5 : Addr) (ok6 : Bool) (first7 : Int) (i8 : Int) (w : World) : Prop :=
  ∃ (I : (Int × Int) → World → Prop) (μ : (Int × Int) → World → Nat), I (first7, i8) w ∧ ∀ s w, I s w → trystlaw25_LogsWant.b3 R (fun l0' have1' m5' ok6' first7' i8' w' => (l0' = l0 ∧ have1' = have1 ∧ m5' = m5 ∧ ok6' = ok6 ∧ I (first7', i8') w') ∧ μ (first7', i8') w' < μ s w) l0 have1 m5 ok6 s.1 s.2 w

def trystlaw25_LogsWant.c4 (R : Value → World → Prop) (l0 : Sl) (have1 : Sl) (w : World) : Prop :=
  CallsV Try.prog n_logs_Want #[.slice l0.a l0.len l0.cap, .slice have1.a have1.len have1.cap] w (fun v_77 w14 =>
  ∃ x_78 : Int, ∃ x_79 : Int, ∃ x_80 : Int, ∃ b_81 : Bool, v_77 = .tuple #[.agg #[.int .i64 x_78, .int .i64 x_79, .int .i64 x_80], .bool b_81] ∧
  let w15 := w14.alloc (.cells #[.int .i64 0, .int .i64 0, .int .i64 0] 28);
  (∀ j, j < 3 → Wr w15 ((newA w14).add j)) ∧
  (let w16 := setCells (newA w14) [.int .i64 x_78, .int .i64 x_79, .int .i64 x_80] 0 w15;
  (let i8_81 : Int := (IntKind.i64.wrap (((l0.len : Nat) : Int) - 1));
  trystlaw25_LogsWant.l3 R l0 have1 (newA w14) b_81 (-1) i8_81 w16)))

def trystlaw25_LogsWant.main (R : Value → World → Prop) (l0 : Sl) (have1 : Sl) (w : World) : Prop :=
  CallsV Try.prog n_trystlaw25_Heavy #[.slice l0.a l0.len l0.cap] w (fun v_83 w17 =>
  ∃ b_84 : Bool, v_83 = .bool b_84 ∧
  cond b_84
  (R (.bool true) w17)
  (cond ((((have1.len : Nat) : Int) : Int) != 8)
  (R (.bool true) w17)
  (CallsV Try.prog n_logs_Check #[.slice l0.a l0.len l0.cap] w17 (fun v_85 w18 =>
  ∃ x_86 : Int, v_85 = .int .i64 x_86 ∧
  cond ((x_86 : Int) != 0)
  (R (.bool true) w18)
  (trystlaw25_LogsWant.c4 R l0 have1 w18)))))

def trystlaw25_LogsWant.J0 (R : Value → World → Prop) (k : Nat) (fr : Fr) (w : World) : Prop :=
  cond (Nat.beq k 4) (dec [(0, .slice), (1, .slice)] fr fun x => trystlaw25_LogsWant.c4 R x.1 x.2 w) (cond (Nat.beq k 3) (dec [(0, .slice), (1, .slice), (5, .addr), (6, .bool), (7, (.int .i64)), (8, (.int .i64))] fr fun x => trystlaw25_LogsWant.l3 R x.1 x.2.1 x.2.2.1 x.2.2.2.1 x.2.2.2.2.1 x.2.2.2.2.2 w) (cond (Nat.beq k 2) (dec [(0, .slice), (1, .slice), (5, .addr), (6, .bool), (7, (.int .i64))] fr fun x => trystlaw25_LogsWant.c2 R x.1 x.2.1 x.2.2.1 x.2.2.2.1 x.2.2.2.2 w) (cond (Nat.beq k 1) (dec [(0, .slice), (1, .slice), (5, .addr)] fr fun x => trystlaw25_LogsWant.c1 R x.1 x.2.1 x.2.2 w) (False))))

set_option maxRecDepth 100000 in
theorem trystlaw25_LogsWant.lift {R : Value → World → Prop} {l0 : Sl} {have1 : Sl} {w : World} (h : trystlaw25_LogsWant.main R l0 have1 w) : CallsV Try.prog n_trystlaw25_LogsWant #[.slice l0.a l0.len l0.cap, .slice have1.a have1.len have1.cap] w R :=
  liftCalls (c := (.seq (.leaf (cL (bd Try.f3))) (.seq (.seq (.leaf (cL (cL (cR (bd Try.f3))))) (.cnd (.tmp 24) (.seq (.leaf (cL (cT (cR (cL (cR (bd Try.f3))))))) (.leaf (cR (cT (cR (cL (cR (bd Try.f3)))))))) (.leaf (cE (cR (cL (cR (bd Try.f3)))))))) (.cut 4 (.seq (.leaf (cL (cR (cR (bd Try.f3))))) (.seq (.leaf (cL (cR (cR (cR (bd Try.f3)))))) (.seq (.seq (.leaf (cL (cL (cR (cR (cR (cR (bd Try.f3)))))))) (.block 0 (.loop 3 (.seq (.seq (.leaf (cL (cL (cB (cB (cR (cL (cR (cR (cR (cR (bd Try.f3)))))))))))) (.cnd (.tmp 35) (.leaf (cT (cR (cL (cB (cB (cR (cL (cR (cR (cR (cR (bd Try.f3))))))))))))) (.leaf (cE (cR (cL (cB (cB (cR (cL (cR (cR (cR (cR (bd Try.f3))))))))))))))) (.seq (.block 1 (.seq (.leaf (cL (cB (cL (cR (cB (cB (cR (cL (cR (cR (cR (cR (bd Try.f3)))))))))))))) (.seq (.leaf (cL (cR (cB (cL (cR (cB (cB (cR (cL (cR (cR (cR (cR (bd Try.f3))))))))))))))) (.cnd (.tmp 68) (.leaf (cT (cR (cR (cB (cL (cR (cB (cB (cR (cL (cR (cR (cR (cR (bd Try.f3)))))))))))))))) (.leaf (cE (cR (cR (cB (cL (cR (cB (cB (cR (cL (cR (cR (cR (cR (bd Try.f3)))))))))))))))))))) (.leaf (cR (cR (cB (cB (cR (cL (cR (cR (cR (cR (bd Try.f3))))))))))))))))) (.cut 2 (.seq (.seq (.leaf (cL (cL (cR (cR (cR (cR (cR (bd Try.f3))))))))) (.cnd (.tmp 71) (.seq (.leaf (cL (cT (cR (cL (cR (cR (cR (cR (cR (bd Try.f3))))))))))) (.leaf (cR (cT (cR (cL (cR (cR (cR (cR (cR (bd Try.f3)))))))))))) (.leaf (cE (cR (cL (cR (cR (cR (cR (cR (bd Try.f3)))))))))))) (.seq (.seq (.leaf (cL (cL (cR (cR (cR (cR (cR (cR (bd Try.f3)))))))))) (.cnd (.tmp 127) (.seq (.leaf (cL (cT (cR (cL (cR (cR (cR (cR (cR (cR (bd Try.f3)))))))))))) (.leaf (cR (cT (cR (cL (cR (cR (cR (cR (cR (cR (bd Try.f3))))))))))))) (.leaf (cE (cR (cL (cR (cR (cR (cR (cR (cR (bd Try.f3))))))))))))) (.cut 1 (.seq (.leaf (cL (cR (cR (cR (cR (cR (cR (cR (bd Try.f3)))))))))) (.seq (.leaf (cL (cR (cR (cR (cR (cR (cR (cR (cR (bd Try.f3))))))))))) (.seq (.leaf (cL (cR (cR (cR (cR (cR (cR (cR (cR (cR (bd Try.f3)))))))))))) (.seq (.leaf (cL (cR (cR (cR (cR (cR (cR (cR (cR (cR (cR (bd Try.f3))))))))))))) (.leaf (cR (cR (cR (cR (cR (cR (cR (cR (cR (cR (cR (bd Try.f3)))))))))))))))))))))))))))) (J := trystlaw25_LogsWant.J0 R) LfYtnnpkjhpeefnbaa.mixed Try.func3 (by kernel_rfl) (by kernel_rfl) (mkSeq (mkSeq (mkCut (cutDef [(0, .slice), (1, .slice)] (fun x w => trystlaw25_LogsWant.c4 R x.1 x.2 w) (fun _ _ => by kernel_rfl) (fun _ _ => by kernel_rfl)) (mkSeq (mkSeq (mkSeq (mkCut (cutDef [(0, .slice), (1, .slice), (5, .addr), (6, .bool), (7, (.int .i64))] (fun x w => trystlaw25_LogsWant.c2 R x.1 x.2.1 x.2.2.1 x.2.2.2.1 x.2.2.2.2 w) (fun _ _ => by kernel_rfl) (fun _ _ => by kernel_rfl)) (mkSeq (mkSeq (mkCut (cutDef [(0, .slice), (1, .slice), (5, .addr)] (fun x w => trystlaw25_LogsWant.c1 R x.1 x.2.1 x.2.2 w) (fun _ _ => by kernel_rfl) (fun _ _ => by kernel_rfl)) (mkSeq (mkSeq (mkSeq (mkSeq mkLeaf mkLeaf) mkLeaf) mkLeaf) mkLeaf)) (mkSeq (mkCnd (mkSeq mkLeaf mkLeaf) mkLeaf) mkLeaf)) (mkSeq (mkCnd (mkSeq mkLeaf mkLeaf) mkLeaf) mkLeaf))) (mkSeq (mkBlock (mkLoop (loopDef LfYtnnpkjhpeefnbaa.mixed [(0, .slice), (1, .slice), (5, .addr), (6, .bool), (7, (.int .i64)), (8, (.int .i64))] (by kernel_rfl) (fun M3 x w => trystlaw25_LogsWant.b3 R (fun y0 y1 y2 y3 y4 y5 w => M3 (y0, y1, y2, y3, y4, y5) w) x.1 x.2.1 x.2.2.1 x.2.2.2.1 x.2.2.2.2.1 x.2.2.2.2.2 w) (fun M3 => fun _ _ _ => False) (fun _ _ _ => by kernel_rfl) (fun M3 => (mkSeq (mkSeq mkLeaf (mkBlock (mkSeq (mkSeq (mkCnd mkLeaf mkLeaf) mkLeaf) mkLeaf))) (mkSeq (mkCnd mkLeaf mkLeaf) mkLeaf))) (fun x w => trystlaw25_LogsWant.l3 R x.1 x.2.1 x.2.2.1 x.2.2.2.1 x.2.2.2.2.1 x.2.2.2.2.2 w) (by rintro ⟨c0, c1, c2, c3, s0⟩ w ⟨I, μ, h0, h1⟩; refine ⟨fun y w => y.1 = c0 ∧ y.2.1 = c1 ∧ y.2.2.1 = c2 ∧ y.2.2.2.1 = c3 ∧ I y.2.2.2.2 w, fun y w => μ y.2.2.2.2 w, ⟨rfl, rfl, rfl, rfl, h0⟩, ?_⟩; rintro ⟨d0, d1, d2, d3, t0⟩ w ⟨e0, e1, e2, e3, hI⟩; dsimp only at e0 e1 e2 e3 hI; subst e0; subst e1; subst e2; subst e3; exact h1 _ _ hI) (fun _ _ => by kernel_rfl)))) mkLeaf)) mkLeaf) mkLeaf)) (mkSeq (mkCnd (mkSeq mkLeaf mkLeaf) mkLeaf) mkLeaf)) mkLeaf) (kcast (by kernel_rfl) h)

/-! trystlaw25_Heavy -/
def trystlaw25_Heavy.b1 (R : Value → World → Prop) (N1 : Sl → Int → World → Prop) (l0 : Sl) (i3 : Int) (w : World) : Prop :=
  cond (decide ((i3 : Int) < ((l0.len : Nat) : Int)))
  (0 ≤ (i3 : Int) ∧ i3 < ((l0.len : Nat) : Int) ∧ ∃ q_1 : Addr, l0.a = some q_1 ∧
  ∃ (a_2 : Option Addr) (l_3 c_4 : Nat), w.cell? ((q_1.add ((i3 : Int).toNat * 3)).add 2) = some (.slice a_2 l_3 c_4) ∧
  cond (decide ((((l_3 : Nat) : Int) : Int) > 100))
  (R (.bool true) w)
  ((let i3_4 : Int := (IntKind.i64.wrap (i3 + 1));
  N1 l0 i3_4 w)))
  (R (.bool false) w)

def trystlaw25_Heavy.l1 (R : Value → World → Prop) (l0 : Sl) (i3 : Int) (w : World) : Prop :=
  ∃ (I : Int → World → Prop) (μ : Int → World → Nat), I i3 w ∧ ∀ s w, I s w → trystlaw25_Heavy.b1 R (fun l0' i3' w' => (l0' = l0 ∧ I i3' w') ∧ μ i3' w' < μ s w) l0 s w

def trystlaw25_Heavy.main (R : Value → World → Prop) (l0 : Sl) (w : World) : Prop :=
  cond (decide ((((l0.len : Nat) : Int) : Int) > 50))
  (R (.bool true) w)
  (trystlaw25_Heavy.l1 R l0 0 w)

def trystlaw25_Heavy.J0 (R : Value → World → Prop) (k : Nat) (fr : Fr) (w : World) : Prop :=
  cond (Nat.beq k 1) (dec [(0, .slice), (3, (.int .i64))] fr fun x => trystlaw25_Heavy.l1 R x.1 x.2 w) (False)

set_option maxRecDepth 100000 in
theorem trystlaw25_Heavy.lift {R : Value → World → Prop} {l0 : Sl} {w : World} (h : trystlaw25_Heavy.main R l0 w) : CallsV Try.prog n_trystlaw25_Heavy #[.slice l0.a l0.len l0.cap] w R :=
  liftCalls (c := (.seq (.leaf (cL (bd Try.f12))) (.seq (.seq (.leaf (cL (cL (cR (bd Try.f12))))) (.cnd (.tmp 6) (.seq (.leaf (cL (cT (cR (cL (cR (bd Try.f12))))))) (.leaf (cR (cT (cR (cL (cR (bd Try.f12)))))))) (.leaf (cE (cR (cL (cR (bd Try.f12)))))))) (.seq (.seq (.leaf (cL (cL (cR (cR (bd Try.f12)))))) (.block 0 (.loop 1 (.seq (.seq (.leaf (cL (cL (cB (cB (cR (cL (cR (cR (bd Try.f12)))))))))) (.cnd (.tmp 10) (.leaf (cT (cR (cL (cB (cB (cR (cL (cR (cR (bd Try.f12))))))))))) (.leaf (cE (cR (cL (cB (cB (cR (cL (cR (cR (bd Try.f12))))))))))))) (.seq (.block 1 (.seq (.leaf (cL (cB (cL (cR (cB (cB (cR (cL (cR (cR (bd Try.f12)))))))))))) (.cnd (.tmp 19) (.seq (.leaf (cL (cT (cR (cB (cL (cR (cB (cB (cR (cL (cR (cR (bd Try.f12)))))))))))))) (.leaf (cR (cT (cR (cB (cL (cR (cB (cB (cR (cL (cR (cR (bd Try.f12))))))))))))))) (.leaf (cE (cR (cB (cL (cR (cB (cB (cR (cL (cR (cR (bd Try.f12)))))))))))))))) (.leaf (cR (cR (cB (cB (cR (cL (cR (cR (bd Try.f12))))))))))))))) (.seq (.leaf (cL (cR (cR (cR (bd Try.f12)))))) (.leaf (cR (cR (cR (cR (bd Try.f12))))))))))) (J := trystlaw25_Heavy.J0 R) LfYtnnpkjhpeefnbaa.mixed Try.func12 (by kernel_rfl) (by kernel_rfl) (mkSeq (mkSeq (mkSeq (mkSeq mkLeaf mkLeaf) (mkSeq (mkBlock (mkLoop (loopDef LfYtnnpkjhpeefnbaa.mixed [(0, .slice), (3, (.int .i64))] (by kernel_rfl) (fun M1 x w => trystlaw25_Heavy.b1 R (fun y0 y1 w => M1 (y0, y1) w) x.1 x.2 w) (fun M1 => fun _ _ _ => False) (fun _ _ _ => by kernel_rfl) (fun M1 => (mkSeq (mkSeq mkLeaf (mkBlock (mkSeq (mkCnd (mkSeq mkLeaf mkLeaf) mkLeaf) mkLeaf))) (mkSeq (mkCnd mkLeaf mkLeaf) mkLeaf))) (fun x w => trystlaw25_Heavy.l1 R x.1 x.2 w) (by rintro ⟨c0, s0⟩ w ⟨I, μ, h0, h1⟩; refine ⟨fun y w => y.1 = c0 ∧ I y.2 w, fun y w => μ y.2 w, ⟨rfl, h0⟩, ?_⟩; rintro ⟨d0, t0⟩ w ⟨e0, hI⟩; dsimp only at e0 hI; subst e0; exact h1 _ _ hI) (fun _ _ => by kernel_rfl)))) mkLeaf)) (mkSeq (mkCnd (mkSeq mkLeaf mkLeaf) mkLeaf) mkLeaf)) mkLeaf) (kcast (by kernel_rfl) h)

/-! logs_Check -/
def logs_Check.c2 (R : Value → World → Prop) (N1 : Sl → Int → Int → Int → World → Prop) (g5 : Addr) (t6 : Sl) (t7 : Int) (t8 : Int) (w : World) : Prop :=
  ∃ x_1 : Int, w.cell? g5 = some (.int .i64 x_1) ∧
  N1 t6 t7 x_1 (IntKind.i64.wrap (t8 + 1)) w

def logs_Check.b1 (R : Value → World → Prop) (N1 : Sl → Int → Int → Int → World → Prop) (t6 : Sl) (t7 : Int) (last3 : Int) (t8 : Int) (w : World) : Prop :=
  cond (decide ((t8 : Int) < t7))
  (0 ≤ (t8 : Int) ∧ t8 < ((t6.len : Nat) : Int) ∧ ∃ q_2 : Addr, t6.a = some q_2 ∧
  ∃ x_3 : Int, w.cell? (q_2.add ((t8 : Int).toNat * 3)) = some (.int .i64 x_3) ∧
  ∃ x_4 : Int, w.cell? ((q_2.add ((t8 : Int).toNat * 3)).add 1) = some (.int .i64 x_4) ∧
  ∃ (a_5 : Option Addr) (l_6 c_7 : Nat), w.cell? ((q_2.add ((t8 : Int).toNat * 3)).add 2) = some (.slice a_5 l_6 c_7) ∧
  let w1 := w.alloc (.cells #[.int .i64 0, .int .i64 0, .slice none 0 0] 32);
  (∀ j, j < 3 → Wr w1 ((newA w).add j)) ∧
  (let w2 := setCells (newA w) [.int .i64 x_3, .int .i64 x_4, .slice a_5 l_6 c_7] 0 w1;
  ∃ x_8 : Int, w2.cell? (newA w) = some (.int .i64 x_8) ∧
  cond (decide ((x_8 : Int) ≤ last3))
  (R (.int .i64 1) w2)
  (∃ x_9 : Int, w2.cell? (newA w) = some (.int .i64 x_9) ∧
  CallsV Try.prog n_logs_client #[.int .i64 x_9] w2 (fun v_10 w3 =>
  ∃ b_11 : Bool, v_10 = .bool b_11 ∧
  cond (!b_11)
  (R (.int .i64 1) w3)
  (∃ x_12 : Int, w3.cell? ((newA w).add 1) = some (.int .i64 x_12) ∧
  cond (decide ((x_12 : Int) < 0))
  (R (.int .i64 1) w3)
  (∃ x_13 : Int, w3.cell? ((newA w).add 1) = some (.int .i64 x_13) ∧
  cond (decide ((x_13 : Int) > 1073741824))
  (R (.int .i64 1) w3)
  (∃ (a_14 : Option Addr) (l_15 c_16 : Nat), w3.cell? ((newA w).add 2) = some (.slice a_14 l_15 c_16) ∧
  cond (decide ((((l_15 : Nat) : Int) : Int) > 32))
  (R (.int .i64 1) w3)
  (∃ (a_17 : Option Addr) (l_18 c_19 : Nat), w3.cell? ((newA w).add 2) = some (.slice a_17 l_18 c_19) ∧
  CallsV Try.prog n_slices_ContainsFunc_int #[.slice a_17 l_18 c_19, .func (.func n_logs_Check_1) #[] #[]] w3 (fun v_20 w4 =>
  ∃ b_21 : Bool, v_20 = .bool b_21 ∧
  cond b_21
  (R (.int .i64 1) w4)
  (logs_Check.c2 R N1 (newA w) t6 t7 t8 w4))))))))))
  (R (.int .i64 0) w)

def logs_Check.l1 (R : Value → World → Prop) (t6 : Sl) (t7 : Int) (last3 : Int) (t8 : Int) (w : World) : Prop :=
  ∃ (I : (Int × Int) → World → Prop) (μ : (Int × Int) → World → Nat), I (last3, t8) w ∧ ∀ s w, I s w → logs_Check.b1 R (fun t6' t7' last3' t8' w' => (t6' = t6 ∧ t7' = t7 ∧ I (last3', t8') w') ∧ μ (last3', t8') w' < μ s w) t6 t7 s.1 s.2 w

def logs_Check.main (R : Value → World → Prop) (l0 : Sl) (w : World) : Prop :=
  logs_Check.l1 R l0 ((l0.len : Nat) : Int) (-1) 0 w

def logs_Check.J1 (R : Value → World → Prop) (N1 : Sl → Int → Int → Int → World → Prop) (k : Nat) (fr : Fr) (w : World) : Prop :=
  cond (Nat.beq k 2) (dec [(5, .addr), (6, .slice), (7, (.int .i64)), (8, (.int .i64))] fr fun x => logs_Check.c2 R N1 x.1 x.2.1 x.2.2.1 x.2.2.2 w) (False)

def logs_Check.J0 (R : Value → World → Prop) (k : Nat) (fr : Fr) (w : World) : Prop :=
  cond (Nat.beq k 1) (dec [(6, .slice), (7, (.int .i64)), (3, (.int .i64)), (8, (.int .i64))] fr fun x => logs_Check.l1 R x.1 x.2.1 x.2.2.1 x.2.2.2 w) (False)

set_option maxRecDepth 100000 in
theorem logs_Check.lift {R : Value → World → Prop} {l0 : Sl} {w : World} (h : logs_Check.main R l0 w) : CallsV Try.prog n_logs_Check #[.slice l0.a l0.len l0.cap] w R :=
  liftCalls (c := (.seq (.leaf (cL (bd Try.f13))) (.seq (.leaf (cL (cR (bd Try.f13)))) (.seq (.seq (.leaf (cL (cL (cR (cR (bd Try.f13)))))) (.block 0 (.loop 1 (.seq (.leaf (cL (cB (cB (cR (cL (cR (cR (bd Try.f13))))))))) (.seq (.cnd (.tmp 9) (.leaf (cT (cL (cR (cB (cB (cR (cL (cR (cR (bd Try.f13))))))))))) (.leaf (cE (cL (cR (cB (cB (cR (cL (cR (cR (bd Try.f13)))))))))))) (.seq (.block 1 (.seq (.leaf (cL (cB (cL (cR (cR (cB (cB (cR (cL (cR (cR (bd Try.f13))))))))))))) (.seq (.seq (.leaf (cL (cL (cR (cB (cL (cR (cR (cB (cB (cR (cL (cR (cR (bd Try.f13))))))))))))))) (.cnd (.tmp 42) (.seq (.leaf (cL (cT (cR (cL (cR (cB (cL (cR (cR (cB (cB (cR (cL (cR (cR (bd Try.f13))))))))))))))))) (.leaf (cR (cT (cR (cL (cR (cB (cL (cR (cR (cB (cB (cR (cL (cR (cR (bd Try.f13)))))))))))))))))) (.leaf (cE (cR (cL (cR (cB (cL (cR (cR (cB (cB (cR (cL (cR (cR (bd Try.f13)))))))))))))))))) (.cut 2 (.leaf (cR (cR (cB (cL (cR (cR (cB (cB (cR (cL (cR (cR (bd Try.f13)))))))))))))))))) (.leaf (cR (cR (cR (cB (cB (cR (cL (cR (cR (bd Try.f13))))))))))))))))) (.seq (.leaf (cL (cR (cR (cR (bd Try.f13)))))) (.leaf (cR (cR (cR (cR (bd Try.f13))))))))))) (J := logs_Check.J0 R) LfYtnnpkjhpeefnbaa.mixed Try.func13 (by kernel_rfl) (by kernel_rfl) (mkSeq (mkSeq (mkSeq (mkSeq mkLeaf mkLeaf) (mkSeq (mkBlock (mkLoop (loopDef LfYtnnpkjhpeefnbaa.mixed [(6, .slice), (7, (.int .i64)), (3, (.int .i64)), (8, (.int .i64))] (by kernel_rfl) (fun M1 x w => logs_Check.b1 R (fun y0 y1 y2 y3 w => M1 (y0, y1, y2, y3) w) x.1 x.2.1 x.2.2.1 x.2.2.2 w) (fun M1 => logs_Check.J1 R (fun y0 y1 y2 y3 w => M1 (y0, y1, y2, y3) w)) (fun _ _ _ => by kernel_rfl) (fun M1 => (mkSeq (mkSeq (mkSeq mkLeaf (mkBlock (mkSeq (mkSeq (mkCut (cutDef [(5, .addr), (6, .slice), (7, (.int .i64)), (8, (.int .i64))] (fun x w => logs_Check.c2 R (fun y0 y1 y2 y3 w => M1 (y0, y1, y2, y3) w) x.1 x.2.1 x.2.2.1 x.2.2.2 w) (fun _ _ => by kernel_rfl) (fun _ _ => by kernel_rfl)) mkLeaf) (mkSeq (mkCnd (mkSeq mkLeaf mkLeaf) mkLeaf) mkLeaf)) mkLeaf))) (mkCnd mkLeaf mkLeaf)) mkLeaf)) (fun x w => logs_Check.l1 R x.1 x.2.1 x.2.2.1 x.2.2.2 w) (by rintro ⟨c0, c1, s0⟩ w ⟨I, μ, h0, h1⟩; refine ⟨fun y w => y.1 = c0 ∧ y.2.1 = c1 ∧ I y.2.2 w, fun y w => μ y.2.2 w, ⟨rfl, rfl, h0⟩, ?_⟩; rintro ⟨d0, d1, t0⟩ w ⟨e0, e1, hI⟩; dsimp only at e0 e1 hI; subst e0; subst e1; exact h1 _ _ hI) (fun _ _ => by kernel_rfl)))) mkLeaf)) mkLeaf) mkLeaf) (kcast (by kernel_rfl) h)

/-! logs_Want -/
def logs_Want.c1 (R : Value → World → Prop) (t4 : Addr) (w : World) : Prop :=
  (∀ j, j < 3 → Wr w (t4.add j)) ∧
  (let w1 := setCells t4 [.int .i64 0, .int .i64 0, .int .i64 0] 0 w;
  ∃ x_1 : Int, w1.cell? t4 = some (.int .i64 x_1) ∧
  ∃ x_2 : Int, w1.cell? (t4.add 1) = some (.int .i64 x_2) ∧
  ∃ x_3 : Int, w1.cell? (t4.add 2) = some (.int .i64 x_3) ∧
  R (.tuple #[.agg #[.int .i64 x_1, .int .i64 x_2, .int .i64 x_3], .bool false]) w1)

def logs_Want.c3 (R : Value → World → Prop) (N2 : Sl → Addr → Sl → Int → Int → World → Prop) (t4 : Addr) (g7 : Addr) (h8 : Int) (w : World) : Prop :=
  ∃ S_4 : World → Prop, S_4 w.drew ∧
  ∃ x_5 : Int, (∀ x, S_4 x → x.cell? g7 = some (.int .i64 x_5)) ∧
  ∃ (a_6 : Option Addr) (l_7 c_8 : Nat), (∀ x, S_4 x → x.cell? (g7.add 2) = some (.slice a_6 l_7 c_8)) ∧
  ∃ x_9 : Int, (∀ x, S_4 x → x.cell? (g7.add 1) = some (.int .i64 x_9)) ∧
  0 ≤ ((IntKind.i64.wrap (h8 - x_9)) : Int) ∧ (IntKind.i64.wrap (h8 - x_9)) < ((l_7 : Nat) : Int) ∧ ∃ q_10 : Addr, a_6 = some q_10 ∧
  ∃ x_11 : Int, (∀ x, S_4 x → x.cell? (q_10.add ((IntKind.i64.wrap (h8 - x_9)) : Int).toNat) = some (.int .i64 x_11)) ∧
  (∀ j, j < 3 → Wr w.drew (t4.add j)) ∧
  (let w2 := setCells t4 [.int .i64 x_5, .int .i64 (IntKind.i64.wrap (h8 + 1)), .int .i64 x_11] 0 w.drew;
  S_4 w2 ∧
  ∃ x_12 : Int, w2.cell? t4 = some (.int .i64 x_12) ∧
  ∃ x_13 : Int, w2.cell? (t4.add 1) = some (.int .i64 x_13) ∧
  ∃ x_14 : Int, w2.cell? (t4.add 2) = some (.int .i64 x_14) ∧
  R (.tuple #[.agg #[.int .i64 x_12, .int .i64 x_13, .int .i64 x_14], .bool true]) w2)

def logs_Want.b2 (R : Value → World → Prop) (N2 : Sl → Addr → Sl → Int → Int → World → Prop) (have1 : Sl) (t4 : Addr) (t18 : Sl) (t19 : Int) (t20 : Int) (w : World) : Prop :=
  cond (decide ((t20 : Int) < t19))
  (0 ≤ (t20 : Int) ∧ t20 < ((t18.len : Nat) : Int) ∧ ∃ q_15 : Addr, t18.a = some q_15 ∧
  ∃ x_16 : Int, w.cell? (q_15.add ((t20 : Int).toNat * 3)) = some (.int .i64 x_16) ∧
  ∃ x_17 : Int, w.cell? ((q_15.add ((t20 : Int).toNat * 3)).add 1) = some (.int .i64 x_17) ∧
  ∃ (a_18 : Option Addr) (l_19 c_20 : Nat), w.cell? ((q_15.add ((t20 : Int).toNat * 3)).add 2) = some (.slice a_18 l_19 c_20) ∧
  let w3 := w.alloc (.cells #[.int .i64 0, .int .i64 0, .slice none 0 0] 32);
  (∀ j, j < 3 → Wr w3 ((newA w).add j)) ∧
  (let w4 := setCells (newA w) [.int .i64 x_16, .int .i64 x_17, .slice a_18 l_19 c_20] 0 w3;
  ∃ x_21 : Int, w4.cell? (newA w) = some (.int .i64 x_21) ∧
  0 ≤ (x_21 : Int) ∧ x_21 < ((have1.len : Nat) : Int) ∧ ∃ q_22 : Addr, have1.a = some q_22 ∧
  ∃ x_23 : Int, w4.cell? (q_22.add (x_21 : Int).toNat) = some (.int .i64 x_23) ∧
  cond (decide ((x_23 : Int) ≥ 0))
  (∃ x_24 : Int, w4.cell? (newA w) = some (.int .i64 x_24) ∧
  ∃ x_25 : Int, w4.cell? ((newA w).add 1) = some (.int .i64 x_25) ∧
  ∃ (a_26 : Option Addr) (l_27 c_28 : Nat), w4.cell? ((newA w).add 2) = some (.slice a_26 l_27 c_28) ∧
  CallsV Try.prog n_logs_has #[.agg #[.int .i64 x_24, .int .i64 x_25, .slice a_26 l_27 c_28]] w4 (fun v_29 w5 =>
  ∃ x_30 : Int, v_29 = .int .i64 x_30 ∧
  cond (decide ((x_23 : Int) < x_30))
  (∃ x_31 : Int, w5.cell? ((newA w).add 1) = some (.int .i64 x_31) ∧
  cond (decide ((x_31 : Int) ≤ x_23))
  (logs_Want.c3 R N2 t4 (newA w) x_23 w5)
  (N2 have1 t4 t18 t19 (IntKind.i64.wrap (t20 + 1)) w5))
  (N2 have1 t4 t18 t19 (IntKind.i64.wrap (t20 + 1)) w5)))
  (N2 have1 t4 t18 t19 (IntKind.i64.wrap (t20 + 1)) w4)))
  (logs_Want.c1 R t4 w)

def logs_Want.l2 (R : Value → World → Prop) (have1 : Sl) (t4 : Addr) (t18 : Sl) (t19 : Int) (t20 : Int) (w : World) : Prop :=
  ∃ (I : Int → World → Prop) (μ : Int → World → Nat), I t20 w ∧ ∀ s w, I s w → logs_Want.b2 R (fun have1' t4' t18' t19' t20' w' => (have1' = have1 ∧ t4' = t4 ∧ t18' = t18 ∧ t19' = t19 ∧ I t20' w') ∧ μ t20' w' < μ s w) have1 t4 t18 t19 s w

def logs_Want.c4 (R : Value → World → Prop) (l0 : Sl) (have1 : Sl) (t4 : Addr) (w : World) : Prop :=
  logs_Want.l2 R have1 t4 l0 ((l0.len : Nat) : Int) 0 w

def logs_Want.c5 (R : Value → World → Prop) (t4 : Addr) (w : World) : Prop :=
  (∀ j, j < 3 → Wr w (t4.add j)) ∧
  (let w6 := setCells t4 [.int .i64 0, .int .i64 0, .int .i64 0] 0 w;
  ∃ x_32 : Int, w6.cell? t4 = some (.int .i64 x_32) ∧
  ∃ x_33 : Int, w6.cell? (t4.add 1) = some (.int .i64 x_33) ∧
  ∃ x_34 : Int, w6.cell? (t4.add 2) = some (.int .i64 x_34) ∧
  R (.tuple #[.agg #[.int .i64 x_32, .int .i64 x_33, .int .i64 x_34], .bool false]) w6)

def logs_Want.main (R : Value → World → Prop) (l0 : Sl) (have1 : Sl) (w : World) : Prop :=
  let w7 := w.alloc (.cells #[.int .i64 0, .int .i64 0, .int .i64 0] 28);
  CallsV Try.prog n_logs_Check #[.slice l0.a l0.len l0.cap] w7 (fun v_35 w8 =>
  ∃ x_36 : Int, v_35 = .int .i64 x_36 ∧
  cond ((x_36 : Int) != 0)
  (logs_Want.c5 R (newA w) w8)
  (cond ((((have1.len : Nat) : Int) : Int) != 8)
  (logs_Want.c5 R (newA w) w8)
  (logs_Want.c4 R l0 have1 (newA w) w8)))

def logs_Want.J2 (R : Value → World → Prop) (N2 : Sl → Addr → Sl → Int → Int → World → Prop) (k : Nat) (fr : Fr) (w : World) : Prop :=
  cond (Nat.beq k 3) (dec [(4, .addr), (7, .addr), (8, (.int .i64))] fr fun x => logs_Want.c3 R N2 x.1 x.2.1 x.2.2 w) (False)

def logs_Want.J0 (R : Value → World → Prop) (k : Nat) (fr : Fr) (w : World) : Prop :=
  cond (Nat.beq k 5) (dec [(4, .addr)] fr fun x => logs_Want.c5 R x w) (cond (Nat.beq k 4) (dec [(0, .slice), (1, .slice), (4, .addr)] fr fun x => logs_Want.c4 R x.1 x.2.1 x.2.2 w) (cond (Nat.beq k 2) (dec [(1, .slice), (4, .addr), (18, .slice), (19, (.int .i64)), (20, (.int .i64))] fr fun x => logs_Want.l2 R x.1 x.2.1 x.2.2.1 x.2.2.2.1 x.2.2.2.2 w) (cond (Nat.beq k 1) (dec [(4, .addr)] fr fun x => logs_Want.c1 R x w) (False))))

set_option maxRecDepth 100000 in
theorem logs_Want.lift {R : Value → World → Prop} {l0 : Sl} {have1 : Sl} {w : World} (h : logs_Want.main R l0 have1 w) : CallsV Try.prog n_logs_Want #[.slice l0.a l0.len l0.cap, .slice have1.a have1.len have1.cap] w R :=
  liftCalls (c := (.seq (.leaf (cL (bd Try.f14))) (.seq (.seq (.leaf (cL (cL (cR (bd Try.f14))))) (.cnd (.tmp 16) (.cut 5 (.seq (.leaf (cL (cT (cR (cL (cR (bd Try.f14))))))) (.leaf (cR (cT (cR (cL (cR (bd Try.f14))))))))) (.leaf (cE (cR (cL (cR (bd Try.f14)))))))) (.cut 4 (.seq (.seq (.leaf (cL (cL (cR (cR (bd Try.f14)))))) (.block 0 (.loop 2 (.seq (.leaf (cL (cB (cB (cR (cL (cR (cR (bd Try.f14))))))))) (.seq (.cnd (.tmp 21) (.leaf (cT (cL (cR (cB (cB (cR (cL (cR (cR (bd Try.f14))))))))))) (.leaf (cE (cL (cR (cB (cB (cR (cL (cR (cR (bd Try.f14)))))))))))) (.seq (.block 1 (.seq (.leaf (cL (cB (cL (cR (cR (cB (cB (cR (cL (cR (cR (bd Try.f14))))))))))))) (.seq (.leaf (cL (cR (cB (cL (cR (cR (cB (cB (cR (cL (cR (cR (bd Try.f14)))))))))))))) (.seq (.leaf (cL (cR (cR (cB (cL (cR (cR (cB (cB (cR (cL (cR (cR (bd Try.f14))))))))))))))) (.cnd (.tmp 42) (.cut 3 (.seq (.leaf (cL (cT (cR (cR (cR (cB (cL (cR (cR (cB (cB (cR (cL (cR (cR (bd Try.f14))))))))))))))))) (.leaf (cR (cT (cR (cR (cR (cB (cL (cR (cR (cB (cB (cR (cL (cR (cR (bd Try.f14))))))))))))))))))) (.leaf (cE (cR (cR (cR (cB (cL (cR (cR (cB (cB (cR (cL (cR (cR (bd Try.f14))))))))))))))))))))) (.leaf (cR (cR (cR (cB (cB (cR (cL (cR (cR (bd Try.f14))))))))))))))))) (.cut 1 (.seq (.leaf (cL (cR (cR (cR (bd Try.f14)))))) (.leaf (cR (cR (cR (cR (bd Try.f14))))))))))))) (J := logs_Want.J0 R) LfYtnnpkjhpeefnbaa.mixed Try.func14 (by kernel_rfl) (by kernel_rfl) (mkSeq (mkSeq (mkCut (cutDef [(0, .slice), (1, .slice), (4, .addr)] (fun x w => logs_Want.c4 R x.1 x.2.1 x.2.2 w) (fun _ _ => by kernel_rfl) (fun _ _ => by kernel_rfl)) (mkSeq (mkCut (cutDef [(4, .addr)] (fun x w => logs_Want.c1 R x w) (fun _ _ => by kernel_rfl) (fun _ _ => by kernel_rfl)) (mkSeq mkLeaf mkLeaf)) (mkSeq (mkBlock (mkLoop (loopDef LfYtnnpkjhpeefnbaa.mixed [(1, .slice), (4, .addr), (18, .slice), (19, (.int .i64)), (20, (.int .i64))] (by kernel_rfl) (fun M2 x w => logs_Want.b2 R (fun y0 y1 y2 y3 y4 w => M2 (y0, y1, y2, y3, y4) w) x.1 x.2.1 x.2.2.1 x.2.2.2.1 x.2.2.2.2 w) (fun M2 => logs_Want.J2 R (fun y0 y1 y2 y3 y4 w => M2 (y0, y1, y2, y3, y4) w)) (fun _ _ _ => by kernel_rfl) (fun M2 => (mkSeq (mkSeq (mkSeq mkLeaf (mkBlock (mkSeq (mkSeq (mkSeq (mkCnd (mkCut (cutDef [(4, .addr), (7, .addr), (8, (.int .i64))] (fun x w => logs_Want.c3 R (fun y0 y1 y2 y3 y4 w => M2 (y0, y1, y2, y3, y4) w) x.1 x.2.1 x.2.2 w) (fun _ _ => by kernel_rfl) (fun _ _ => by kernel_rfl)) (mkSeq mkLeaf mkLeaf)) mkLeaf) mkLeaf) mkLeaf) mkLeaf))) (mkCnd mkLeaf mkLeaf)) mkLeaf)) (fun x w => logs_Want.l2 R x.1 x.2.1 x.2.2.1 x.2.2.2.1 x.2.2.2.2 w) (by rintro ⟨c0, c1, c2, c3, s0⟩ w ⟨I, μ, h0, h1⟩; refine ⟨fun y w => y.1 = c0 ∧ y.2.1 = c1 ∧ y.2.2.1 = c2 ∧ y.2.2.2.1 = c3 ∧ I y.2.2.2.2 w, fun y w => μ y.2.2.2.2 w, ⟨rfl, rfl, rfl, rfl, h0⟩, ?_⟩; rintro ⟨d0, d1, d2, d3, t0⟩ w ⟨e0, e1, e2, e3, hI⟩; dsimp only at e0 e1 e2 e3 hI; subst e0; subst e1; subst e2; subst e3; exact h1 _ _ hI) (fun _ _ => by kernel_rfl)))) mkLeaf))) (mkSeq (mkCnd (mkCut (cutDef [(4, .addr)] (fun x w => logs_Want.c5 R x w) (fun _ _ => by kernel_rfl) (fun _ _ => by kernel_rfl)) (mkSeq mkLeaf mkLeaf)) mkLeaf) mkLeaf)) mkLeaf) (kcast (by kernel_rfl) h)

/-! trystkeep_Msg -/
def trystkeep_Msg.main (R : Value → World → Prop) (a0_0 : Int) (a0_1 : Int) (a0_2 : Int) (b1_0 : Int) (b1_1 : Int) (b1_2 : Int) (w : World) : Prop :=
  let w1 := w.alloc (.cells #[.int .i64 a0_0, .int .i64 a0_1, .int .i64 a0_2] 28);
  let w2 := w1.alloc (.cells #[.int .i64 b1_0, .int .i64 b1_1, .int .i64 b1_2] 28);
  ∃ x_1 : Int, w2.cell? (newA w) = some (.int .i64 x_1) ∧
  ∃ x_2 : Int, w2.cell? (newA w1) = some (.int .i64 x_2) ∧
  cond ((x_1 : Int) == x_2)
  (∃ x_3 : Int, w2.cell? ((newA w).add 1) = some (.int .i64 x_3) ∧
  ∃ x_4 : Int, w2.cell? ((newA w1).add 1) = some (.int .i64 x_4) ∧
  cond ((x_3 : Int) == x_4)
  (∃ x_5 : Int, w2.cell? ((newA w).add 2) = some (.int .i64 x_5) ∧
  ∃ x_6 : Int, w2.cell? ((newA w1).add 2) = some (.int .i64 x_6) ∧
  R (.bool ((x_5 : Int) == x_6)) w2)
  (R (.bool false) w2))
  (R (.bool false) w2)

def trystkeep_Msg.J0 (_ : Value → World → Prop) (_ : Nat) (_ : Fr) (_ : World) : Prop := False

set_option maxRecDepth 100000 in
theorem trystkeep_Msg.lift {R : Value → World → Prop} {a0_0 : Int} {a0_1 : Int} {a0_2 : Int} {b1_0 : Int} {b1_1 : Int} {b1_2 : Int} {w : World} (h : trystkeep_Msg.main R a0_0 a0_1 a0_2 b1_0 b1_1 b1_2 w) : CallsV Try.prog n_trystkeep_Msg #[.agg #[.int .i64 a0_0, .int .i64 a0_1, .int .i64 a0_2], .agg #[.int .i64 b1_0, .int .i64 b1_1, .int .i64 b1_2]] w R :=
  liftCalls (c := (.seq (.leaf (cL (bd Try.f15))) (.seq (.leaf (cL (cR (bd Try.f15)))) (.leaf (cR (cR (bd Try.f15))))))) (J := trystkeep_Msg.J0 R) LfYtnnpkjhpeefnbaa.mixed Try.func15 (by kernel_rfl) (by kernel_rfl) (mkSeq (mkSeq mkLeaf mkLeaf) mkLeaf) (kcast (by kernel_rfl) h)

/-! trystlaw25_wakes -/
def trystlaw25_wakes.main (R : Value → World → Prop)  (w : World) : Prop :=
  let w1 := w.alloc (.cells #[.int .i64 5, .int .i64 6, .int .i64 7] 3);
  let w2 := w1.alloc (.cells #[.int .i64 1, .int .i64 0, .slice (some (newA w)) 3 3] 32);
  let w3 := w2.alloc (.cells #[.int .i64 0, .int .i64 1, .int .i64 0, .int .i64 0, .int .i64 0, .int .i64 0, .int .i64 0, .int .i64 0] 3);
  CallsV Try.prog n_logs_Want #[.slice (some (newA w1)) 1 1, .slice (some (newA w2)) 8 8] w3 (fun v_1 w4 =>
  ∃ x_2 : Int, ∃ x_3 : Int, ∃ x_4 : Int, ∃ b_5 : Bool, v_1 = .tuple #[.agg #[.int .i64 x_2, .int .i64 x_3, .int .i64 x_4], .bool b_5] ∧
  let w5 := w4.alloc (.cells #[.int .i64 0, .int .i64 0, .int .i64 0] 28);
  (∀ j, j < 3 → Wr w5 ((newA w4).add j)) ∧
  (let w6 := setCells (newA w4) [.int .i64 x_2, .int .i64 x_3, .int .i64 x_4] 0 w5;
  cond b_5
  (∃ x_6 : Int, w6.cell? (newA w4) = some (.int .i64 x_6) ∧
  cond ((x_6 : Int) == 1)
  (∃ x_7 : Int, w6.cell? ((newA w4).add 1) = some (.int .i64 x_7) ∧
  cond ((x_7 : Int) == 2)
  (∃ x_8 : Int, w6.cell? ((newA w4).add 2) = some (.int .i64 x_8) ∧
  R (.bool ((x_8 : Int) == 6)) w6)
  (R (.bool false) w6))
  (R (.bool false) w6))
  (R (.bool false) w6)))

def trystlaw25_wakes.J0 (_ : Value → World → Prop) (_ : Nat) (_ : Fr) (_ : World) : Prop := False

set_option maxRecDepth 100000 in
theorem trystlaw25_wakes.lift {R : Value → World → Prop}  {w : World} (h : trystlaw25_wakes.main R  w) : CallsV Try.prog n_trystlaw25_wakes #[] w R :=
  liftCalls (c := (.seq (.leaf (cL (bd Try.f16))) (.seq (.leaf (cL (cR (bd Try.f16)))) (.seq (.leaf (cL (cR (cR (bd Try.f16))))) (.leaf (cR (cR (cR (bd Try.f16))))))))) (J := trystlaw25_wakes.J0 R) LfYtnnpkjhpeefnbaa.mixed Try.func16 (by kernel_rfl) (by kernel_rfl) (mkSeq (mkSeq (mkSeq mkLeaf mkLeaf) mkLeaf) mkLeaf) (kcast (by kernel_rfl) h)

/-! trystkeep_TwinInts -/
def trystkeep_TwinInts.main (R : Value → World → Prop) (l0 : Sl) (w : World) : Prop :=
  ∃ (a_1 : Option Addr) (l_2 c_3 : Nat), ∃ w1 : World, (builtin .append #[23, 23] 23 #[] #[.slice none 0 0, .slice l0.a l0.len l0.cap]).run Try.prog w = .ok (.value (.slice a_1 l_2 c_3)) w1 ∧
  R (.slice a_1 l_2 c_3) w1

def trystkeep_TwinInts.J0 (_ : Value → World → Prop) (_ : Nat) (_ : Fr) (_ : World) : Prop := False

set_option maxRecDepth 100000 in
theorem trystkeep_TwinInts.lift {R : Value → World → Prop} {l0 : Sl} {w : World} (h : trystkeep_TwinInts.main R l0 w) : CallsV Try.prog n_trystkeep_TwinInts #[.slice l0.a l0.len l0.cap] w R :=
  liftCalls (c := (.seq (.leaf (cL (bd Try.f17))) (.seq (.leaf (cL (cR (bd Try.f17)))) (.seq (.leaf (cL (cR (cR (bd Try.f17))))) (.leaf (cR (cR (cR (bd Try.f17))))))))) (J := trystkeep_TwinInts.J0 R) LfYtnnpkjhpeefnbaa.mixed Try.func17 (by kernel_rfl) (by kernel_rfl) (mkSeq (mkSeq (mkSeq mkLeaf mkLeaf) mkLeaf) mkLeaf) (kcast (by kernel_rfl) h)

/-! logs_client -/
def logs_client.main (R : Value → World → Prop) (c0 : Int) (w : World) : Prop :=
  cond (decide ((c0 : Int) ≥ 0))
  ((let t2_0 : Bool := (decide ((c0 : Int) < 8));
  R (.bool t2_0) w))
  (R (.bool false) w)

def logs_client.J0 (_ : Value → World → Prop) (_ : Nat) (_ : Fr) (_ : World) : Prop := False

set_option maxRecDepth 100000 in
theorem logs_client.lift {R : Value → World → Prop} {c0 : Int} {w : World} (h : logs_client.main R c0 w) : CallsV Try.prog n_logs_client #[.int .i64 c0] w R :=
  liftCalls (c := (.seq (.leaf (cL (bd Try.f40))) (.seq (.leaf (cL (cR (bd Try.f40)))) (.leaf (cR (cR (bd Try.f40))))))) (J := logs_client.J0 R) LfYtnnpkjhpeefnbaa.mixed Try.func40 (by kernel_rfl) (by kernel_rfl) (mkSeq (mkSeq mkLeaf mkLeaf) mkLeaf) (kcast (by kernel_rfl) h)

/-! slices_ContainsFunc_int -/
def slices_ContainsFunc_int__logs_Check_1.main (R : Value → World → Prop) (s0 : Sl) (w : World) : Prop :=
  CallsV Try.prog n_slices_IndexFunc_int #[.slice s0.a s0.len s0.cap, .func (.func n_logs_Check_1) #[] #[]] w (fun v_1 w1 =>
  ∃ x_2 : Int, v_1 = .int .i64 x_2 ∧
  (let t4_2 : Bool := (decide ((x_2 : Int) ≥ 0));
  R (.bool t4_2) w1))

def slices_ContainsFunc_int__logs_Check_1.J0 (_ : Value → World → Prop) (_ : Nat) (_ : Fr) (_ : World) : Prop := False

set_option maxRecDepth 100000 in
theorem slices_ContainsFunc_int__logs_Check_1.lift {R : Value → World → Prop} {s0 : Sl} {w : World} (h : slices_ContainsFunc_int__logs_Check_1.main R s0 w) : CallsV Try.prog n_slices_ContainsFunc_int #[.slice s0.a s0.len s0.cap, .func (.func n_logs_Check_1) #[] #[]] w R :=
  liftCalls (c := (.seq (.leaf (cL (bd Try.f41))) (.seq (.leaf (cL (cR (bd Try.f41)))) (.leaf (cR (cR (bd Try.f41))))))) (J := slices_ContainsFunc_int__logs_Check_1.J0 R) LfYtnnpkjhpeefnbaa.mixed Try.func41 (by kernel_rfl) (by kernel_rfl) (mkSeq (mkSeq mkLeaf mkLeaf) mkLeaf) (kcast (by kernel_rfl) h)

/-! logs_Check_1 -/
def logs_Check_1.main (R : Value → World → Prop) (b0 : Int) (w : World) : Prop :=
  CallsV Try.prog n_logs_body #[.int .i64 b0] w (fun v_1 w1 =>
  ∃ b_2 : Bool, v_1 = .bool b_2 ∧
  R (.bool (!b_2)) w1)

def logs_Check_1.J0 (_ : Value → World → Prop) (_ : Nat) (_ : Fr) (_ : World) : Prop := False

set_option maxRecDepth 100000 in
theorem logs_Check_1.lift {R : Value → World → Prop} {b0 : Int} {w : World} (h : logs_Check_1.main R b0 w) : CallsV Try.prog n_logs_Check_1 #[.int .i64 b0] w R :=
  liftCalls (c := (.seq (.leaf (cL (bd Try.f42))) (.seq (.leaf (cL (cR (bd Try.f42)))) (.leaf (cR (cR (bd Try.f42))))))) (J := logs_Check_1.J0 R) LfYtnnpkjhpeefnbaa.mixed Try.func42 (by kernel_rfl) (by kernel_rfl) (mkSeq (mkSeq mkLeaf mkLeaf) mkLeaf) (kcast (by kernel_rfl) h)

/-! logs_body -/
def logs_body.main (R : Value → World → Prop) (b0 : Int) (w : World) : Prop :=
  cond (decide ((b0 : Int) ≥ 0))
  ((let t2_0 : Bool := (decide ((b0 : Int) ≤ 1048576));
  R (.bool t2_0) w))
  (R (.bool false) w)

def logs_body.J0 (_ : Value → World → Prop) (_ : Nat) (_ : Fr) (_ : World) : Prop := False

set_option maxRecDepth 100000 in
theorem logs_body.lift {R : Value → World → Prop} {b0 : Int} {w : World} (h : logs_body.main R b0 w) : CallsV Try.prog n_logs_body #[.int .i64 b0] w R :=
  liftCalls (c := (.seq (.leaf (cL (bd Try.f43))) (.seq (.leaf (cL (cR (bd Try.f43)))) (.leaf (cR (cR (bd Try.f43))))))) (J := logs_body.J0 R) LfYtnnpkjhpeefnbaa.mixed Try.func43 (by kernel_rfl) (by kernel_rfl) (mkSeq (mkSeq mkLeaf mkLeaf) mkLeaf) (kcast (by kernel_rfl) h)

/-! logs_has -/
def logs_has.main (R : Value → World → Prop) (g0_0 : Int) (g0_1 : Int) (g0_2 : Sl) (w : World) : Prop :=
  let w1 := w.alloc (.cells #[.int .i64 g0_0, .int .i64 g0_1, .slice g0_2.a g0_2.len g0_2.cap] 32);
  ∃ x_1 : Int, w1.cell? ((newA w).add 1) = some (.int .i64 x_1) ∧
  ∃ (a_2 : Option Addr) (l_3 c_4 : Nat), w1.cell? ((newA w).add 2) = some (.slice a_2 l_3 c_4) ∧
  (let t2_4 : Int := (IntKind.i64.wrap (x_1 + ((l_3 : Nat) : Int)));
  R (.int .i64 t2_4) w1)

def logs_has.J0 (_ : Value → World → Prop) (_ : Nat) (_ : Fr) (_ : World) : Prop := False

set_option maxRecDepth 100000 in
theorem logs_has.lift {R : Value → World → Prop} {g0_0 : Int} {g0_1 : Int} {g0_2 : Sl} {w : World} (h : logs_has.main R g0_0 g0_1 g0_2 w) : CallsV Try.prog n_logs_has #[.agg #[.int .i64 g0_0, .int .i64 g0_1, .slice g0_2.a g0_2.len g0_2.cap]] w R :=
  liftCalls (c := (.seq (.leaf (cL (bd Try.f44))) (.seq (.leaf (cL (cR (bd Try.f44)))) (.leaf (cR (cR (bd Try.f44))))))) (J := logs_has.J0 R) LfYtnnpkjhpeefnbaa.mixed Try.func44 (by kernel_rfl) (by kernel_rfl) (mkSeq (mkSeq mkLeaf mkLeaf) mkLeaf) (kcast (by kernel_rfl) h)

/-! slices_IndexFunc_int -/
def slices_IndexFunc_int__logs_Check_1.b1 (R : Value → World → Prop) (N1 : Sl → Unit → Int → Int → World → Prop) (s0 : Sl) (f1 : Unit) (t7 : Int) (t8 : Int) (w : World) : Prop :=
  cond (decide ((t8 : Int) < t7))
  (0 ≤ (t8 : Int) ∧ t8 < ((s0.len : Nat) : Int) ∧ ∃ q_1 : Addr, s0.a = some q_1 ∧
  ∃ x_2 : Int, w.cell? (q_1.add (t8 : Int).toNat) = some (.int .i64 x_2) ∧
  CallsV Try.prog n_logs_Check_1 #[.int .i64 x_2] w (fun v_3 w1 =>
  ∃ b_4 : Bool, v_3 = .bool b_4 ∧
  cond b_4
  (R (.int .i64 t8) w1)
  (N1 s0 () t7 (IntKind.i64.wrap (t8 + 1)) w1)))
  (R (.int .i64 (-1)) w)

def slices_IndexFunc_int__logs_Check_1.l1 (R : Value → World → Prop) (s0 : Sl) (f1 : Unit) (t7 : Int) (t8 : Int) (w : World) : Prop :=
  ∃ (I : Int → World → Prop) (μ : Int → World → Nat), I t8 w ∧ ∀ s w, I s w → slices_IndexFunc_int__logs_Check_1.b1 R (fun s0' f1' t7' t8' w' => (s0' = s0 ∧ f1' = f1 ∧ t7' = t7 ∧ I t8' w') ∧ μ t8' w' < μ s w) s0 f1 t7 s w

def slices_IndexFunc_int__logs_Check_1.main (R : Value → World → Prop) (s0 : Sl) (w : World) : Prop :=
  slices_IndexFunc_int__logs_Check_1.l1 R s0 () ((s0.len : Nat) : Int) 0 w

def slices_IndexFunc_int__logs_Check_1.J0 (R : Value → World → Prop) (k : Nat) (fr : Fr) (w : World) : Prop :=
  cond (Nat.beq k 1) (dec [(0, .slice), (1, (.fn n_logs_Check_1 0)), (7, (.int .i64)), (8, (.int .i64))] fr fun x => slices_IndexFunc_int__logs_Check_1.l1 R x.1 x.2.1 x.2.2.1 x.2.2.2 w) (False)

set_option maxRecDepth 100000 in
theorem slices_IndexFunc_int__logs_Check_1.lift {R : Value → World → Prop} {s0 : Sl} {w : World} (h : slices_IndexFunc_int__logs_Check_1.main R s0 w) : CallsV Try.prog n_slices_IndexFunc_int #[.slice s0.a s0.len s0.cap, .func (.func n_logs_Check_1) #[] #[]] w R :=
  liftCalls (c := (.seq (.leaf (cL (bd Try.f62))) (.seq (.seq (.leaf (cL (cL (cR (bd Try.f62))))) (.block 0 (.loop 1 (.seq (.leaf (cL (cB (cB (cR (cL (cR (bd Try.f62)))))))) (.seq (.cnd (.tmp 9) (.leaf (cT (cL (cR (cB (cB (cR (cL (cR (bd Try.f62)))))))))) (.leaf (cE (cL (cR (cB (cB (cR (cL (cR (bd Try.f62))))))))))) (.seq (.block 1 (.seq (.leaf (cL (cB (cL (cR (cR (cB (cB (cR (cL (cR (bd Try.f62)))))))))))) (.seq (.leaf (cL (cR (cB (cL (cR (cR (cB (cB (cR (cL (cR (bd Try.f62))))))))))))) (.cnd (.tmp 16) (.seq (.leaf (cL (cT (cR (cR (cB (cL (cR (cR (cB (cB (cR (cL (cR (bd Try.f62))))))))))))))) (.leaf (cR (cT (cR (cR (cB (cL (cR (cR (cB (cB (cR (cL (cR (bd Try.f62)))))))))))))))) (.leaf (cE (cR (cR (cB (cL (cR (cR (cB (cB (cR (cL (cR (bd Try.f62)))))))))))))))))) (.leaf (cR (cR (cR (cB (cB (cR (cL (cR (bd Try.f62)))))))))))))))) (.seq (.leaf (cL (cR (cR (bd Try.f62))))) (.leaf (cR (cR (cR (bd Try.f62))))))))) (J := slices_IndexFunc_int__logs_Check_1.J0 R) LfYtnnpkjhpeefnbaa.mixed Try.func62 (by kernel_rfl) (by kernel_rfl) (mkSeq (mkSeq (mkSeq mkLeaf mkLeaf) (mkSeq (mkBlock (mkLoop (loopDef LfYtnnpkjhpeefnbaa.mixed [(0, .slice), (1, (.fn n_logs_Check_1 0)), (7, (.int .i64)), (8, (.int .i64))] (by kernel_rfl) (fun M1 x w => slices_IndexFunc_int__logs_Check_1.b1 R (fun y0 y1 y2 y3 w => M1 (y0, y1, y2, y3) w) x.1 x.2.1 x.2.2.1 x.2.2.2 w) (fun M1 => fun _ _ _ => False) (fun _ _ _ => by kernel_rfl) (fun M1 => (mkSeq (mkSeq (mkSeq mkLeaf (mkBlock (mkSeq (mkSeq (mkCnd (mkSeq mkLeaf mkLeaf) mkLeaf) mkLeaf) mkLeaf))) (mkCnd mkLeaf mkLeaf)) mkLeaf)) (fun x w => slices_IndexFunc_int__logs_Check_1.l1 R x.1 x.2.1 x.2.2.1 x.2.2.2 w) (by rintro ⟨c0, c1, c2, s0⟩ w ⟨I, μ, h0, h1⟩; refine ⟨fun y w => y.1 = c0 ∧ y.2.1 = c1 ∧ y.2.2.1 = c2 ∧ I y.2.2.2 w, fun y w => μ y.2.2.2 w, ⟨rfl, rfl, rfl, h0⟩, ?_⟩; rintro ⟨d0, d1, d2, t0⟩ w ⟨e0, e1, e2, hI⟩; dsimp only at e0 e1 e2 hI; subst e0; subst e1; subst e2; exact h1 _ _ hI) (fun _ _ => by kernel_rfl)))) mkLeaf)) mkLeaf) (kcast (by kernel_rfl) h)

end Go.Proofs.Ytnnpkjhpeefnbaa
