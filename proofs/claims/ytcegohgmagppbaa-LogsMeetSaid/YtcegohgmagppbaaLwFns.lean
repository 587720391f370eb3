/-
  What the code of these functions comes to, and that it suffices for the call. Written by a program of ours, for this claim.
-/
import Derived.Test.YtcegohgmagppbaaLgFns
set_option linter.unusedVariables false
set_option linter.unusedVariables false
namespace Go.Proofs.Ytcegohgmagppbaa
open Go.Lf
abbrev n_trystlaw25_LogsMeet : Nat := 3
abbrev n_trystlaw25_LogsGrow : Nat := 4
abbrev n_trystlaw25_LogsLong : Nat := 5
abbrev n_trystlaw25_LogsBegin : Nat := 6
abbrev n_trystlaw25_LogsExact : Nat := 7
/-! trystlaw25_LogsMeet -/
def trystlaw25_LogsMeet.c1 (R : Value → World → Prop) (a7 : Sl) (b8 : Sl) (w : World) : Prop :=
  CallsV Try.prog n_trystkeep_Logs #[.slice a7.a a7.len a7.cap, .slice b8.a b8.len b8.cap] w (fun v_1 w1 =>
  ∃ b_2 : Bool, v_1 = .bool b_2 ∧
  cond b_2
  (CallsV Try.prog n_logs_Have #[.slice a7.a a7.len a7.cap] w1 (fun v_3 w2 =>
  ∃ (a_4 : Option Addr) (l_5 c_6 : Nat), v_3 = .slice a_4 l_5 c_6 ∧
  CallsV Try.prog n_logs_Have #[.slice b8.a b8.len b8.cap] w2 (fun v_7 w3 =>
  ∃ (a_8 : Option Addr) (l_9 c_10 : Nat), v_7 = .slice a_8 l_9 c_10 ∧
  CallsV Try.prog n_trystkeep_Ints #[.slice a_4 l_5 c_6, .slice a_8 l_9 c_10] w3 (fun v_11 w4 =>
  ∃ b_12 : Bool, v_11 = .bool b_12 ∧
  cond b_12
  (CallsV Try.prog n_trystlaw25_wakes #[] w4 (fun v_13 w5 =>
  ∃ b_14 : Bool, v_13 = .bool b_14 ∧
  R (.bool b_14) w5))
  (R (.bool false) w4)))))
  (R (.bool false) w1))

def trystlaw25_LogsMeet.c3 (R : Value → World → Prop) (N2 : Sl → Sl → Sl → Int → World → Prop) (a7 : Sl) (all9 : Sl) (i18 : Int) (m19 : Addr) (next21 : Sl) (w : World) : Prop :=
  ∃ x_15 : Int, w.cell? m19 = some (.int .i64 x_15) ∧
  ∃ x_16 : Int, w.cell? (m19.add 1) = some (.int .i64 x_16) ∧
  ∃ x_17 : Int, w.cell? (m19.add 2) = some (.int .i64 x_17) ∧
  CallsV Try.prog n_logs_Put #[.slice next21.a next21.len next21.cap, .agg #[.int .i64 x_15, .int .i64 x_16, .int .i64 x_17]] w (fun v_18 w6 =>
  ∃ (a_19 : Option Addr) (l_20 c_21 : Nat), ∃ b_22 : Bool, ∃ x_23 : Int, v_18 = .tuple #[.slice a_19 l_20 c_21, .bool b_22, .int .i64 x_23] ∧
  cond ((x_23 : Int) != 0)
  (R (.bool false) w6)
  (cond b_22
  (R (.bool false) w6)
  (CallsV Try.prog n_trystkeep_Logs #[.slice a_19 l_20 c_21, .slice next21.a next21.len next21.cap] w6 (fun v_24 w7 =>
  ∃ b_25 : Bool, v_24 = .bool b_25 ∧
  cond (!b_25)
  (R (.bool false) w7)
  ((let i18_25 : Int := (IntKind.i64.wrap (i18 + 1));
  N2 a7 all9 next21 i18_25 w7))))))

def trystlaw25_LogsMeet.b2 (R : Value → World → Prop) (N2 : Sl → Sl → Sl → Int → World → Prop) (a7 : Sl) (all9 : Sl) (b8 : Sl) (i18 : Int) (w : World) : Prop :=
  cond (decide ((i18 : Int) ≤ ((all9.len : Nat) : Int)))
  (CallsV Try.prog n_logs_Have #[.slice b8.a b8.len b8.cap] w (fun v_27 w8 =>
  ∃ (a_28 : Option Addr) (l_29 c_30 : Nat), v_27 = .slice a_28 l_29 c_30 ∧
  CallsV Try.prog n_logs_Want #[.slice a7.a a7.len a7.cap, .slice a_28 l_29 c_30] w8 (fun v_31 w9 =>
  ∃ x_32 : Int, ∃ x_33 : Int, ∃ x_34 : Int, ∃ b_35 : Bool, v_31 = .tuple #[.agg #[.int .i64 x_32, .int .i64 x_33, .int .i64 x_34], .bool b_35] ∧
  let w10 := w9.alloc (.cells #[.int .i64 0, .int .i64 0, .int .i64 0] 32);
  (∀ j, j < 3 → Wr w10 ((newA w9).add j)) ∧
  (let w11 := setCells (newA w9) [.int .i64 x_32, .int .i64 x_33, .int .i64 x_34] 0 w10;
  cond (!b_35)
  (trystlaw25_LogsMeet.c1 R a7 b8 w11)
  (∃ x_36 : Int, w11.cell? (newA w9) = some (.int .i64 x_36) ∧
  ∃ x_37 : Int, w11.cell? ((newA w9).add 1) = some (.int .i64 x_37) ∧
  ∃ x_38 : Int, w11.cell? ((newA w9).add 2) = some (.int .i64 x_38) ∧
  CallsV Try.prog n_logs_Put #[.slice b8.a b8.len b8.cap, .agg #[.int .i64 x_36, .int .i64 x_37, .int .i64 x_38]] w11 (fun v_39 w12 =>
  ∃ (a_40 : Option Addr) (l_41 c_42 : Nat), ∃ b_43 : Bool, ∃ x_44 : Int, v_39 = .tuple #[.slice a_40 l_41 c_42, .bool b_43, .int .i64 x_44] ∧
  cond ((x_44 : Int) != 0)
  (R (.bool false) w12)
  (cond (!b_43)
  (R (.bool false) w12)
  (trystlaw25_LogsMeet.c3 R N2 a7 all9 i18 (newA w9) ⟨a_40, l_41, c_42⟩ w12))))))))
  (trystlaw25_LogsMeet.c1 R a7 b8 w)

def trystlaw25_LogsMeet.l2 (R : Value → World → Prop) (a7 : Sl) (all9 : Sl) (b8 : Sl) (i18 : Int) (w : World) : Prop :=
  ∃ (I : (Sl × Int) → World → Prop) (μ : (Sl × Int) → World → Nat), I (b8, i18) w ∧ ∀ s w, I s w → trystlaw25_LogsMeet.b2 R (fun a7' all9' b8' i18' w' => (a7' = a7 ∧ all9' = all9 ∧ I (b8', i18') w') ∧ μ (b8', i18') w' < μ s w) a7 all9 s.1 s.2 w

def trystlaw25_LogsMeet.c4 (R : Value → World → Prop) (a7 : Sl) (b8 : Sl) (all9 : Sl) (w : World) : Prop :=
  trystlaw25_LogsMeet.l2 R a7 all9 b8 0 w

def trystlaw25_LogsMeet.c6 (R : Value → World → Prop) (N5 : Sl → Sl → Sl → Sl → Int → World → Prop) (had1 : Sl) (a7 : Sl) (b8 : Sl) (all9 : Sl) (i14 : Int) (w : World) : Prop :=
  0 ≤ (i14 : Int) ∧ i14 < ((had1.len : Nat) : Int) ∧ ∃ q_45 : Addr, had1.a = some q_45 ∧
  ∃ x_46 : Int, w.cell? (q_45.add (i14 : Int).toNat) = some (.int .i64 x_46) ∧
  (2 : Int) ≠ 0 ∧
  cond (((Int.tmod x_46 2) : Int) == 0)
  (0 ≤ (i14 : Int) ∧ i14 < ((all9.len : Nat) : Int) ∧ ∃ q_47 : Addr, all9.a = some q_47 ∧
  ∃ x_48 : Int, w.cell? (q_47.add ((i14 : Int).toNat * 3)) = some (.int .i64 x_48) ∧
  ∃ x_49 : Int, w.cell? ((q_47.add ((i14 : Int).toNat * 3)).add 1) = some (.int .i64 x_49) ∧
  ∃ x_50 : Int, w.cell? ((q_47.add ((i14 : Int).toNat * 3)).add 2) = some (.int .i64 x_50) ∧
  CallsV Try.prog n_logs_Put #[.slice b8.a b8.len b8.cap, .agg #[.int .i64 x_48, .int .i64 x_49, .int .i64 x_50]] w (fun v_51 w13 =>
  ∃ (a_52 : Option Addr) (l_53 c_54 : Nat), ∃ b_55 : Bool, ∃ x_56 : Int, v_51 = .tuple #[.slice a_52 l_53 c_54, .bool b_55, .int .i64 x_56] ∧
  cond ((x_56 : Int) == 0)
  ((let i14_56 : Int := (IntKind.i64.wrap (i14 + 1));
  N5 had1 a7 all9 ⟨a_52, l_53, c_54⟩ i14_56 w13))
  (cond ((x_56 : Int) != 14)
  (R (.bool false) w13)
  ((let i14_57 : Int := (IntKind.i64.wrap (i14 + 1));
  N5 had1 a7 all9 b8 i14_57 w13)))))
  ((let i14_58 : Int := (IntKind.i64.wrap (i14 + 1));
  N5 had1 a7 all9 b8 i14_58 w))

def trystlaw25_LogsMeet.b5 (R : Value → World → Prop) (N5 : Sl → Sl → Sl → Sl → Int → World → Prop) (had1 : Sl) (a7 : Sl) (all9 : Sl) (b8 : Sl) (i14 : Int) (w : World) : Prop :=
  cond (decide ((i14 : Int) < ((all9.len : Nat) : Int)))
  (cond (decide ((i14 : Int) < ((had1.len : Nat) : Int)))
  (trystlaw25_LogsMeet.c6 R N5 had1 a7 b8 all9 i14 w)
  (trystlaw25_LogsMeet.c4 R a7 b8 all9 w))
  (trystlaw25_LogsMeet.c4 R a7 b8 all9 w)

def trystlaw25_LogsMeet.l5 (R : Value → World → Prop) (had1 : Sl) (a7 : Sl) (all9 : Sl) (b8 : Sl) (i14 : Int) (w : World) : Prop :=
  ∃ (I : (Sl × Int) → World → Prop) (μ : (Sl × Int) → World → Nat), I (b8, i14) w ∧ ∀ s w, I s w → trystlaw25_LogsMeet.b5 R (fun had1' a7' all9' b8' i14' w' => (had1' = had1 ∧ a7' = a7 ∧ all9' = all9 ∧ I (b8', i14') w') ∧ μ (b8', i14') w' < μ s w) had1 a7 all9 s.1 s.2 w

def trystlaw25_LogsMeet.c7 (R : Value → World → Prop) (had1 : Sl) (a7 : Sl) (b8 : Sl) (all9 : Sl) (w : World) : Prop :=
  trystlaw25_LogsMeet.l5 R had1 a7 all9 b8 0 w

def trystlaw25_LogsMeet.b8 (R : Value → World → Prop) (N8 : Sl → Sl → Sl → Sl → Sl → Int → World → Prop) (says0 : Sl) (had1 : Sl) (b8 : Sl) (a7 : Sl) (all9 : Sl) (i10 : Int) (w : World) : Prop :=
  cond (decide ((i10 : Int) < ((says0.len : Nat) : Int)))
  (∃ S_60 : World → Prop, S_60 w.drew ∧
  0 ≤ (i10 : Int) ∧ i10 < ((says0.len : Nat) : Int) ∧ ∃ q_61 : Addr, says0.a = some q_61 ∧
  0 ≤ (0 : Int) ∧ 0 < ((2 : Nat) : Int) ∧
  ∃ x_62 : Int, (∀ x, S_60 x → x.cell? ((q_61.add ((i10 : Int).toNat * 2)).add (0 : Int).toNat) = some (.int .i64 x_62)) ∧
  (3 : Int) ≠ 0 ∧
  0 ≤ (i10 : Int) ∧ i10 < ((says0.len : Nat) : Int) ∧ ∃ q_63 : Addr, says0.a = some q_63 ∧
  0 ≤ (1 : Int) ∧ 1 < ((2 : Nat) : Int) ∧
  ∃ x_64 : Int, (∀ x, S_60 x → x.cell? ((q_63.add ((i10 : Int).toNat * 2)).add (1 : Int).toNat) = some (.int .i64 x_64)) ∧
  (1000 : Int) ≠ 0 ∧
  CallsV Try.prog n_logs_Say #[.slice a7.a a7.len a7.cap, .int .i64 (IntKind.i64.wrap (Int.tmod (IntKind.u64.wrap x_62) 3)), .int .i64 (IntKind.i64.wrap (Int.tmod (IntKind.u64.wrap x_64) 1000))] w.drew (fun v_65 w14 =>
  ∃ (a_66 : Option Addr) (l_67 c_68 : Nat), ∃ x_69 : Int, ∃ x_70 : Int, v_65 = .tuple #[.slice a_66 l_67 c_68, .int .i64 x_69, .int .i64 x_70] ∧
  cond ((x_70 : Int) == 20)
  ((let i10_70 : Int := (IntKind.i64.wrap (i10 + 1));
  N8 says0 had1 b8 a7 all9 i10_70 w14))
  (cond ((x_70 : Int) != 0)
  (R (.bool false) w14)
  (∃ S_72 : World → Prop, S_72 w14.drew ∧
  0 ≤ (i10 : Int) ∧ i10 < ((says0.len : Nat) : Int) ∧ ∃ q_73 : Addr, says0.a = some q_73 ∧
  0 ≤ (0 : Int) ∧ 0 < ((2 : Nat) : Int) ∧
  ∃ x_74 : Int, (∀ x, S_72 x → x.cell? ((q_73.add ((i10 : Int).toNat * 2)).add (0 : Int).toNat) = some (.int .i64 x_74)) ∧
  (3 : Int) ≠ 0 ∧
  0 ≤ (i10 : Int) ∧ i10 < ((says0.len : Nat) : Int) ∧ ∃ q_75 : Addr, says0.a = some q_75 ∧
  0 ≤ (1 : Int) ∧ 1 < ((2 : Nat) : Int) ∧
  ∃ x_76 : Int, (∀ x, S_72 x → x.cell? ((q_75.add ((i10 : Int).toNat * 2)).add (1 : Int).toNat) = some (.int .i64 x_76)) ∧
  (1000 : Int) ≠ 0 ∧
  let w15 := w14.drew.alloc (.cells #[.int .i64 (IntKind.i64.wrap (Int.tmod (IntKind.u64.wrap x_74) 3)), .int .i64 x_69, .int .i64 (IntKind.i64.wrap (Int.tmod (IntKind.u64.wrap x_76) 1000))] 32);
  ∃ (a_77 : Option Addr) (l_78 c_79 : Nat), ∃ w16 : World, (builtin .append #[25, 25] 25 #[] #[.slice all9.a all9.len all9.cap, .slice (some (newA w14.drew)) 1 1]).run Try.prog w15 = .ok (.value (.slice a_77 l_78 c_79)) w16 ∧
  (let i10_79 : Int := (IntKind.i64.wrap (i10 + 1));
  N8 says0 had1 b8 ⟨a_66, l_67, c_68⟩ ⟨a_77, l_78, c_79⟩ i10_79 w16)))))
  (trystlaw25_LogsMeet.c7 R had1 a7 b8 all9 w)

def trystlaw25_LogsMeet.l8 (R : Value → World → Prop) (says0 : Sl) (had1 : Sl) (b8 : Sl) (a7 : Sl) (all9 : Sl) (i10 : Int) (w : World) : Prop :=
  ∃ (I : (Sl × Sl × Int) → World → Prop) (μ : (Sl × Sl × Int) → World → Nat), I (a7, all9, i10) w ∧ ∀ s w, I s w → trystlaw25_LogsMeet.b8 R (fun says0' had1' b8' a7' all9' i10' w' => (says0' = says0 ∧ had1' = had1 ∧ b8' = b8 ∧ I (a7', all9', i10') w') ∧ μ (a7', all9', i10') w' < μ s w) says0 had1 b8 s.1 s.2.1 s.2.2 w

def trystlaw25_LogsMeet.c9 (R : Value → World → Prop) (says0 : Sl) (had1 : Sl) (w : World) : Prop :=
  trystlaw25_LogsMeet.l8 R says0 had1 ⟨none, 0, 0⟩ ⟨none, 0, 0⟩ ⟨none, 0, 0⟩ 0 w

def trystlaw25_LogsMeet.main (R : Value → World → Prop) (says0 : Sl) (had1 : Sl) (order2 : Sl) (w : World) : Prop :=
  cond (decide ((((says0.len : Nat) : Int) : Int) > 60))
  (R (.bool true) w)
  (cond (decide ((((had1.len : Nat) : Int) : Int) > 60))
  (R (.bool true) w)
  (cond (decide ((((order2.len : Nat) : Int) : Int) > 200))
  (R (.bool true) w)
  (trystlaw25_LogsMeet.c9 R says0 had1 w)))

def trystlaw25_LogsMeet.J2 (R : Value → World → Prop) (N2 : Sl → Sl → Sl → Int → World → Prop) (k : Nat) (fr : Fr) (w : World) : Prop :=
  cond (Nat.beq k 3) (dec [(7, .slice), (9, .slice), (18, (.int .i64)), (19, .addr), (21, .slice)] fr fun x => trystlaw25_LogsMeet.c3 R N2 x.1 x.2.1 x.2.2.1 x.2.2.2.1 x.2.2.2.2 w) (False)

def trystlaw25_LogsMeet.J5 (R : Value → World → Prop) (N5 : Sl → Sl → Sl → Sl → Int → World → Prop) (k : Nat) (fr : Fr) (w : World) : Prop :=
  cond (Nat.beq k 6) (dec [(1, .slice), (7, .slice), (8, .slice), (9, .slice), (14, (.int .i64))] fr fun x => trystlaw25_LogsMeet.c6 R N5 x.1 x.2.1 x.2.2.1 x.2.2.2.1 x.2.2.2.2 w) (False)

def trystlaw25_LogsMeet.J0 (R : Value → World → Prop) (k : Nat) (fr : Fr) (w : World) : Prop :=
  cond (Nat.beq k 9) (dec [(0, .slice), (1, .slice)] fr fun x => trystlaw25_LogsMeet.c9 R x.1 x.2 w) (cond (Nat.beq k 8) (dec [(0, .slice), (1, .slice), (8, .slice), (7, .slice), (9, .slice), (10, (.int .i64))] fr fun x => trystlaw25_LogsMeet.l8 R x.1 x.2.1 x.2.2.1 x.2.2.2.1 x.2.2.2.2.1 x.2.2.2.2.2 w) (cond (Nat.beq k 7) (dec [(1, .slice), (7, .slice), (8, .slice), (9, .slice)] fr fun x => trystlaw25_LogsMeet.c7 R x.1 x.2.1 x.2.2.1 x.2.2.2 w) (cond (Nat.beq k 5) (dec [(1, .slice), (7, .slice), (9, .slice), (8, .slice), (14, (.int .i64))] fr fun x => trystlaw25_LogsMeet.l5 R x.1 x.2.1 x.2.2.1 x.2.2.2.1 x.2.2.2.2 w) (cond (Nat.beq k 4) (dec [(7, .slice), (8, .slice), (9, .slice)] fr fun x => trystlaw25_LogsMeet.c4 R x.1 x.2.1 x.2.2 w) (cond (Nat.beq k 2) (dec [(7, .slice), (9, .slice), (8, .slice), (18, (.int .i64))] fr fun x => trystlaw25_LogsMeet.l2 R x.1 x.2.1 x.2.2.1 x.2.2.2 w) (cond (Nat.beq k 1) (dec [(7, .slice), (8, .slice)] fr fun x => trystlaw25_LogsMeet.c1 R x.1 x.2 w) (False)))))))

set_option maxRecDepth 100000 in
theorem trystlaw25_LogsMeet.lift {R : Value → World → Prop} {says0 : Sl} {had1 : Sl} {order2 : Sl} {w : World} (h : trystlaw25_LogsMeet.main R says0 had1 order2 w) : CallsV Try.prog n_trystlaw25_LogsMeet #[.slice says0.a says0.len says0.cap, .slice had1.a had1.len had1.cap, .slice order2.a order2.len order2.cap] w R :=
  liftCalls (c := (.seq (.leaf (cL (bd Try.f3))) (.seq (.seq (.leaf (cL (cL (cR (bd Try.f3))))) (.cnd (.tmp 37) (.seq (.leaf (cL (cT (cR (cL (cR (bd Try.f3))))))) (.leaf (cR (cT (cR (cL (cR (bd Try.f3)))))))) (.leaf (cE (cR (cL (cR (bd Try.f3)))))))) (.cut 9 (.seq (.leaf (cL (cR (cR (bd Try.f3))))) (.seq (.leaf (cL (cR (cR (cR (bd Try.f3)))))) (.seq (.seq (.leaf (cL (cL (cR (cR (cR (cR (bd Try.f3)))))))) (.block 0 (.loop 8 (.seq (.seq (.leaf (cL (cL (cB (cB (cR (cL (cR (cR (cR (cR (bd Try.f3)))))))))))) (.cnd (.tmp 41) (.leaf (cT (cR (cL (cB (cB (cR (cL (cR (cR (cR (cR (bd Try.f3))))))))))))) (.leaf (cE (cR (cL (cB (cB (cR (cL (cR (cR (cR (cR (bd Try.f3))))))))))))))) (.seq (.block 1 (.seq (.leaf (cL (cB (cL (cR (cB (cB (cR (cL (cR (cR (cR (cR (bd Try.f3)))))))))))))) (.seq (.seq (.leaf (cL (cL (cR (cB (cL (cR (cB (cB (cR (cL (cR (cR (cR (cR (bd Try.f3)))))))))))))))) (.cnd (.tmp 67) (.leaf (cT (cR (cL (cR (cB (cL (cR (cB (cB (cR (cL (cR (cR (cR (cR (bd Try.f3))))))))))))))))) (.leaf (cE (cR (cL (cR (cB (cL (cR (cB (cB (cR (cL (cR (cR (cR (cR (bd Try.f3))))))))))))))))))) (.seq (.seq (.leaf (cL (cL (cR (cR (cB (cL (cR (cB (cB (cR (cL (cR (cR (cR (cR (bd Try.f3))))))))))))))))) (.cnd (.tmp 69) (.seq (.leaf (cL (cT (cR (cL (cR (cR (cB (cL (cR (cB (cB (cR (cL (cR (cR (cR (cR (bd Try.f3))))))))))))))))))) (.leaf (cR (cT (cR (cL (cR (cR (cB (cL (cR (cB (cB (cR (cL (cR (cR (cR (cR (bd Try.f3)))))))))))))))))))) (.leaf (cE (cR (cL (cR (cR (cB (cL (cR (cB (cB (cR (cL (cR (cR (cR (cR (bd Try.f3)))))))))))))))))))) (.seq (.leaf (cL (cR (cR (cR (cB (cL (cR (cB (cB (cR (cL (cR (cR (cR (cR (bd Try.f3))))))))))))))))) (.leaf (cR (cR (cR (cR (cB (cL (cR (cB (cB (cR (cL (cR (cR (cR (cR (bd Try.f3)))))))))))))))))))))) (.leaf (cR (cR (cB (cB (cR (cL (cR (cR (cR (cR (bd Try.f3))))))))))))))))) (.cut 7 (.seq (.seq (.leaf (cL (cL (cR (cR (cR (cR (cR (bd Try.f3))))))))) (.block 2 (.loop 5 (.seq (.seq (.leaf (cL (cL (cB (cB (cR (cL (cR (cR (cR (cR (cR (bd Try.f3))))))))))))) (.cnd (.tmp 101) (.leaf (cT (cR (cL (cB (cB (cR (cL (cR (cR (cR (cR (cR (bd Try.f3)))))))))))))) (.leaf (cE (cR (cL (cB (cB (cR (cL (cR (cR (cR (cR (cR (bd Try.f3)))))))))))))))) (.cut 6 (.seq (.block 3 (.seq (.leaf (cL (cB (cL (cR (cB (cB (cR (cL (cR (cR (cR (cR (cR (bd Try.f3))))))))))))))) (.cnd (.tmp 109) (.seq (.leaf (cL (cT (cR (cB (cL (cR (cB (cB (cR (cL (cR (cR (cR (cR (cR (bd Try.f3))))))))))))))))) (.seq (.leaf (cL (cR (cT (cR (cB (cL (cR (cB (cB (cR (cL (cR (cR (cR (cR (cR (bd Try.f3)))))))))))))))))) (.cnd (.tmp 121) (.leaf (cT (cR (cR (cT (cR (cB (cL (cR (cB (cB (cR (cL (cR (cR (cR (cR (cR (bd Try.f3))))))))))))))))))) (.seq (.leaf (cL (cE (cR (cR (cT (cR (cB (cL (cR (cB (cB (cR (cL (cR (cR (cR (cR (cR (bd Try.f3)))))))))))))))))))) (.cnd (.tmp 124) (.seq (.leaf (cL (cT (cR (cE (cR (cR (cT (cR (cB (cL (cR (cB (cB (cR (cL (cR (cR (cR (cR (cR (bd Try.f3)))))))))))))))))))))) (.leaf (cR (cT (cR (cE (cR (cR (cT (cR (cB (cL (cR (cB (cB (cR (cL (cR (cR (cR (cR (cR (bd Try.f3))))))))))))))))))))))) (.leaf (cE (cR (cE (cR (cR (cT (cR (cB (cL (cR (cB (cB (cR (cL (cR (cR (cR (cR (cR (bd Try.f3)))))))))))))))))))))))))) (.leaf (cE (cR (cB (cL (cR (cB (cB (cR (cL (cR (cR (cR (cR (cR (bd Try.f3))))))))))))))))))) (.leaf (cR (cR (cB (cB (cR (cL (cR (cR (cR (cR (cR (bd Try.f3))))))))))))))))))) (.cut 4 (.seq (.seq (.leaf (cL (cL (cR (cR (cR (cR (cR (cR (bd Try.f3)))))))))) (.block 4 (.loop 2 (.seq (.seq (.leaf (cL (cL (cB (cB (cR (cL (cR (cR (cR (cR (cR (cR (bd Try.f3)))))))))))))) (.cnd (.tmp 128) (.leaf (cT (cR (cL (cB (cB (cR (cL (cR (cR (cR (cR (cR (cR (bd Try.f3))))))))))))))) (.leaf (cE (cR (cL (cB (cB (cR (cL (cR (cR (cR (cR (cR (cR (bd Try.f3))))))))))))))))) (.seq (.block 5 (.seq (.leaf (cL (cB (cL (cR (cB (cB (cR (cL (cR (cR (cR (cR (cR (cR (bd Try.f3)))))))))))))))) (.seq (.seq (.leaf (cL (cL (cR (cB (cL (cR (cB (cB (cR (cL (cR (cR (cR (cR (cR (cR (bd Try.f3)))))))))))))))))) (.cnd (.tmp 139) (.leaf (cT (cR (cL (cR (cB (cL (cR (cB (cB (cR (cL (cR (cR (cR (cR (cR (cR (bd Try.f3))))))))))))))))))) (.leaf (cE (cR (cL (cR (cB (cL (cR (cB (cB (cR (cL (cR (cR (cR (cR (cR (cR (bd Try.f3))))))))))))))))))))) (.seq (.leaf (cL (cR (cR (cB (cL (cR (cB (cB (cR (cL (cR (cR (cR (cR (cR (cR (bd Try.f3)))))))))))))))))) (.seq (.seq (.leaf (cL (cL (cR (cR (cR (cB (cL (cR (cB (cB (cR (cL (cR (cR (cR (cR (cR (cR (bd Try.f3)))))))))))))))))))) (.cnd (.tmp 152) (.seq (.leaf (cL (cT (cR (cL (cR (cR (cR (cB (cL (cR (cB (cB (cR (cL (cR (cR (cR (cR (cR (cR (bd Try.f3)))))))))))))))))))))) (.leaf (cR (cT (cR (cL (cR (cR (cR (cB (cL (cR (cB (cB (cR (cL (cR (cR (cR (cR (cR (cR (bd Try.f3))))))))))))))))))))))) (.leaf (cE (cR (cL (cR (cR (cR (cB (cL (cR (cB (cB (cR (cL (cR (cR (cR (cR (cR (cR (bd Try.f3))))))))))))))))))))))) (.cut 3 (.seq (.leaf (cL (cR (cR (cR (cR (cB (cL (cR (cB (cB (cR (cL (cR (cR (cR (cR (cR (cR (bd Try.f3)))))))))))))))))))) (.seq (.leaf (cL (cR (cR (cR (cR (cR (cB (cL (cR (cB (cB (cR (cL (cR (cR (cR (cR (cR (cR (bd Try.f3))))))))))))))))))))) (.seq (.leaf (cL (cR (cR (cR (cR (cR (cR (cB (cL (cR (cB (cB (cR (cL (cR (cR (cR (cR (cR (cR (bd Try.f3)))))))))))))))))))))) (.cnd (.tmp 171) (.seq (.leaf (cL (cT (cR (cR (cR (cR (cR (cR (cR (cB (cL (cR (cB (cB (cR (cL (cR (cR (cR (cR (cR (cR (bd Try.f3)))))))))))))))))))))))) (.leaf (cR (cT (cR (cR (cR (cR (cR (cR (cR (cB (cL (cR (cB (cB (cR (cL (cR (cR (cR (cR (cR (cR (bd Try.f3))))))))))))))))))))))))) (.leaf (cE (cR (cR (cR (cR (cR (cR (cR (cB (cL (cR (cB (cB (cR (cL (cR (cR (cR (cR (cR (cR (bd Try.f3))))))))))))))))))))))))))))))))) (.leaf (cR (cR (cB (cB (cR (cL (cR (cR (cR (cR (cR (cR (bd Try.f3))))))))))))))))))) (.cut 1 (.seq (.leaf (cL (cR (cR (cR (cR (cR (cR (cR (bd Try.f3)))))))))) (.leaf (cR (cR (cR (cR (cR (cR (cR (cR (bd Try.f3))))))))))))))))))))))) (J := trystlaw25_LogsMeet.J0 R) LfYtcegohgmagppbaa.mixed Try.func3 (by kernel_rfl) (by kernel_rfl) (mkSeq (mkSeq (mkCut (cutDef [(0, .slice), (1, .slice)] (fun x w => trystlaw25_LogsMeet.c9 R x.1 x.2 w) (fun _ _ => by kernel_rfl) (fun _ _ => by kernel_rfl)) (mkSeq (mkSeq (mkSeq (mkCut (cutDef [(1, .slice), (7, .slice), (8, .slice), (9, .slice)] (fun x w => trystlaw25_LogsMeet.c7 R x.1 x.2.1 x.2.2.1 x.2.2.2 w) (fun _ _ => by kernel_rfl) (fun _ _ => by kernel_rfl)) (mkSeq (mkCut (cutDef [(7, .slice), (8, .slice), (9, .slice)] (fun x w => trystlaw25_LogsMeet.c4 R x.1 x.2.1 x.2.2 w) (fun _ _ => by kernel_rfl) (fun _ _ => by kernel_rfl)) (mkSeq (mkCut (cutDef [(7, .slice), (8, .slice)] (fun x w => trystlaw25_LogsMeet.c1 R x.1 x.2 w) (fun _ _ => by kernel_rfl) (fun _ _ => by kernel_rfl)) (mkSeq mkLeaf mkLeaf)) (mkSeq (mkBlock (mkLoop (loopDef LfYtcegohgmagppbaa.mixed [(7, .slice), (9, .slice), (8, .slice), (18, (.int .i64))] (by kernel_rfl) (fun M2 x w => trystlaw25_LogsMeet.b2 R (fun y0 y1 y2 y3 w => M2 (y0, y1, y2, y3) w) x.1 x.2.1 x.2.2.1 x.2.2.2 w) (fun M2 => trystlaw25_LogsMeet.J2 R (fun y0 y1 y2 y3 w => M2 (y0, y1, y2, y3) w)) (fun _ _ _ => by kernel_rfl) (fun M2 => (mkSeq (mkSeq mkLeaf (mkBlock (mkSeq (mkSeq (mkSeq (mkSeq (mkCut (cutDef [(7, .slice), (9, .slice), (18, (.int .i64)), (19, .addr), (21, .slice)] (fun x w => trystlaw25_LogsMeet.c3 R (fun y0 y1 y2 y3 w => M2 (y0, y1, y2, y3) w) x.1 x.2.1 x.2.2.1 x.2.2.2.1 x.2.2.2.2 w) (fun _ _ => by kernel_rfl) (fun _ _ => by kernel_rfl)) (mkSeq (mkSeq (mkSeq (mkCnd (mkSeq mkLeaf mkLeaf) mkLeaf) mkLeaf) mkLeaf) mkLeaf)) (mkSeq (mkCnd (mkSeq mkLeaf mkLeaf) mkLeaf) mkLeaf)) mkLeaf) (mkSeq (mkCnd mkLeaf mkLeaf) mkLeaf)) mkLeaf))) (mkSeq (mkCnd mkLeaf mkLeaf) mkLeaf))) (fun x w => trystlaw25_LogsMeet.l2 R x.1 x.2.1 x.2.2.1 x.2.2.2 w) (by rintro ⟨c0, c1, s0⟩ w ⟨I, μ, h0, h1⟩; refine ⟨fun y w => y.1 = c0 ∧ y.2.1 = c1 ∧ I y.2.2 w, fun y w => μ y.2.2 w, ⟨rfl, rfl, h0⟩, ?_⟩; rintro ⟨d0, d1, t0⟩ w ⟨e0, e1, hI⟩; dsimp only at e0 e1 hI; subst e0; subst e1; exact h1 _ _ hI) (fun _ _ => by kernel_rfl)))) mkLeaf))) (mkSeq (mkBlock (mkLoop (loopDef LfYtcegohgmagppbaa.mixed [(1, .slice), (7, .slice), (9, .slice), (8, .slice), (14, (.int .i64))] (by kernel_rfl) (fun M5 x w => trystlaw25_LogsMeet.b5 R (fun y0 y1 y2 y3 y4 w => M5 (y0, y1, y2, y3, y4) w) x.1 x.2.1 x.2.2.1 x.2.2.2.1 x.2.2.2.2 w) (fun M5 => trystlaw25_LogsMeet.J5 R (fun y0 y1 y2 y3 y4 w => M5 (y0, y1, y2, y3, y4) w)) (fun _ _ _ => by kernel_rfl) (fun M5 => (mkSeq (mkCut (cutDef [(1, .slice), (7, .slice), (8, .slice), (9, .slice), (14, (.int .i64))] (fun x w => trystlaw25_LogsMeet.c6 R (fun y0 y1 y2 y3 y4 w => M5 (y0, y1, y2, y3, y4) w) x.1 x.2.1 x.2.2.1 x.2.2.2.1 x.2.2.2.2 w) (fun _ _ => by kernel_rfl) (fun _ _ => by kernel_rfl)) (mkSeq mkLeaf (mkBlock (mkSeq (mkCnd (mkSeq (mkSeq (mkCnd mkLeaf (mkSeq (mkCnd (mkSeq mkLeaf mkLeaf) mkLeaf) mkLeaf)) mkLeaf) mkLeaf) mkLeaf) mkLeaf)))) (mkSeq (mkCnd mkLeaf mkLeaf) mkLeaf))) (fun x w => trystlaw25_LogsMeet.l5 R x.1 x.2.1 x.2.2.1 x.2.2.2.1 x.2.2.2.2 w) (by rintro ⟨c0, c1, c2, s0⟩ w ⟨I, μ, h0, h1⟩; refine ⟨fun y w => y.1 = c0 ∧ y.2.1 = c1 ∧ y.2.2.1 = c2 ∧ I y.2.2.2 w, fun y w => μ y.2.2.2 w, ⟨rfl, rfl, rfl, h0⟩, ?_⟩; rintro ⟨d0, d1, d2, t0⟩ w ⟨e0, e1, e2, hI⟩; dsimp only at e0 e1 e2 hI; subst e0; subst e1; subst e2; exact h1 _ _ hI) (fun _ _ => by kernel_rfl)))) mkLeaf))) (mkSeq (mkBlock (mkLoop (loopDef LfYtcegohgmagppbaa.mixed [(0, .slice), (1, .slice), (8, .slice), (7, .slice), (9, .slice), (10, (.int .i64))] (by kernel_rfl) (fun M8 x w => trystlaw25_LogsMeet.b8 R (fun y0 y1 y2 y3 y4 y5 w => M8 (y0, y1, y2, y3, y4, y5) w) x.1 x.2.1 x.2.2.1 x.2.2.2.1 x.2.2.2.2.1 x.2.2.2.2.2 w) (fun M8 => fun _ _ _ => False) (fun _ _ _ => by kernel_rfl) (fun M8 => (mkSeq (mkSeq mkLeaf (mkBlock (mkSeq (mkSeq (mkSeq (mkSeq mkLeaf mkLeaf) (mkSeq (mkCnd (mkSeq mkLeaf mkLeaf) mkLeaf) mkLeaf)) (mkSeq (mkCnd mkLeaf mkLeaf) mkLeaf)) mkLeaf))) (mkSeq (mkCnd mkLeaf mkLeaf) mkLeaf))) (fun x w => trystlaw25_LogsMeet.l8 R x.1 x.2.1 x.2.2.1 x.2.2.2.1 x.2.2.2.2.1 x.2.2.2.2.2 w) (by rintro ⟨c0, c1, c2, s0⟩ w ⟨I, μ, h0, h1⟩; refine ⟨fun y w => y.1 = c0 ∧ y.2.1 = c1 ∧ y.2.2.1 = c2 ∧ I y.2.2.2 w, fun y w => μ y.2.2.2 w, ⟨rfl, rfl, rfl, h0⟩, ?_⟩; rintro ⟨d0, d1, d2, t0⟩ w ⟨e0, e1, e2, hI⟩; dsimp only at e0 e1 e2 hI; subst e0; subst e1; subst e2; exact h1 _ _ hI) (fun _ _ => by kernel_rfl)))) mkLeaf)) mkLeaf) mkLeaf)) (mkSeq (mkCnd (mkSeq mkLeaf mkLeaf) mkLeaf) mkLeaf)) mkLeaf) (kcast (by kernel_rfl) h)

/-! trystlaw25_LogsGrow -/
def trystlaw25_LogsGrow.c1 (R : Value → World → Prop) (m4 : Addr) (n10 : Int) (wv16 : Addr) (ok17 : Bool) (w : World) : Prop :=
  cond ok17
  (∃ x_1 : Int, w.cell? wv16 = some (.int .i64 x_1) ∧
  ∃ x_2 : Int, w.cell? m4 = some (.int .i64 x_2) ∧
  cond ((x_1 : Int) == x_2)
  (∃ x_3 : Int, w.cell? (wv16.add 1) = some (.int .i64 x_3) ∧
  cond ((x_3 : Int) == n10)
  (∃ x_4 : Int, w.cell? (wv16.add 2) = some (.int .i64 x_4) ∧
  ∃ x_5 : Int, w.cell? (m4.add 2) = some (.int .i64 x_5) ∧
  cond ((x_4 : Int) == x_5)
  (CallsV Try.prog n_trystlaw25_wakes #[] w (fun v_6 w1 =>
  ∃ b_7 : Bool, v_6 = .bool b_7 ∧
  R (.bool b_7) w1))
  (R (.bool false) w))
  (R (.bool false) w))
  (R (.bool false) w))
  (R (.bool false) w)

def trystlaw25_LogsGrow.b3 (R : Value → World → Prop) (N2 : Sl → Addr → Sl → Int → Addr → Bool → Int → World → Prop) (N3 : Sl → Addr → Sl → Int → Addr → Bool → Int → Int → World → Prop) (l0 : Sl) (m4 : Addr) (next7 : Sl) (n10 : Int) (wv16 : Addr) (ok17 : Bool) (i18 : Int) (k19 : Int) (w : World) : Prop :=
  cond (decide ((k19 : Int) < ((next7.len : Nat) : Int)))
  (∃ S_8 : World → Prop, S_8 w.drew ∧
  0 ≤ (i18 : Int) ∧ i18 < ((l0.len : Nat) : Int) ∧ ∃ q_9 : Addr, l0.a = some q_9 ∧
  ∃ x_10 : Int, (∀ x, S_8 x → x.cell? (q_9.add ((i18 : Int).toNat * 3)) = some (.int .i64 x_10)) ∧
  0 ≤ (k19 : Int) ∧ k19 < ((next7.len : Nat) : Int) ∧ ∃ q_11 : Addr, next7.a = some q_11 ∧
  ∃ x_12 : Int, (∀ x, S_8 x → x.cell? (q_11.add ((k19 : Int).toNat * 3)) = some (.int .i64 x_12)) ∧
  cond ((x_10 : Int) == x_12)
  (0 ≤ (i18 : Int) ∧ i18 < ((l0.len : Nat) : Int) ∧ ∃ q_13 : Addr, l0.a = some q_13 ∧
  ∃ x_14 : Int, (∀ x, S_8 x → x.cell? ((q_13.add ((i18 : Int).toNat * 3)).add 1) = some (.int .i64 x_14)) ∧
  0 ≤ (k19 : Int) ∧ k19 < ((next7.len : Nat) : Int) ∧ ∃ q_15 : Addr, next7.a = some q_15 ∧
  ∃ x_16 : Int, (∀ x, S_8 x → x.cell? ((q_15.add ((k19 : Int).toNat * 3)).add 1) = some (.int .i64 x_16)) ∧
  cond ((x_14 : Int) != x_16)
  (R (.bool false) w.drew)
  (0 ≤ (k19 : Int) ∧ k19 < ((next7.len : Nat) : Int) ∧ ∃ q_17 : Addr, next7.a = some q_17 ∧
  ∃ (a_18 : Option Addr) (l_19 c_20 : Nat), (∀ x, S_8 x → x.cell? ((q_17.add ((k19 : Int).toNat * 3)).add 2) = some (.slice a_18 l_19 c_20)) ∧
  0 ≤ (i18 : Int) ∧ i18 < ((l0.len : Nat) : Int) ∧ ∃ q_21 : Addr, l0.a = some q_21 ∧
  ∃ (a_22 : Option Addr) (l_23 c_24 : Nat), (∀ x, S_8 x → x.cell? ((q_21.add ((i18 : Int).toNat * 3)).add 2) = some (.slice a_22 l_23 c_24)) ∧
  cond (decide ((((l_19 : Nat) : Int) : Int) < ((l_23 : Nat) : Int)))
  (R (.bool false) w.drew)
  (0 ≤ (k19 : Int) ∧ k19 < ((next7.len : Nat) : Int) ∧ ∃ q_25 : Addr, next7.a = some q_25 ∧
  ∃ (a_26 : Option Addr) (l_27 c_28 : Nat), (∀ x, S_8 x → x.cell? ((q_25.add ((k19 : Int).toNat * 3)).add 2) = some (.slice a_26 l_27 c_28)) ∧
  0 ≤ (i18 : Int) ∧ i18 < ((l0.len : Nat) : Int) ∧ ∃ q_29 : Addr, l0.a = some q_29 ∧
  ∃ (a_30 : Option Addr) (l_31 c_32 : Nat), (∀ x, S_8 x → x.cell? ((q_29.add ((i18 : Int).toNat * 3)).add 2) = some (.slice a_30 l_31 c_32)) ∧
  0 ≤ ((0 : Int) : Int) ∧ ((0 : Int) : Int) ≤ ((l_31 : Nat) : Int) ∧ (((l_31 : Nat) : Int) : Int) ≤ ((c_28 : Nat) : Int) ∧ (((c_28 : Nat) : Int) : Int) ≤ ((c_28 : Nat) : Int) ∧
  0 ≤ (i18 : Int) ∧ i18 < ((l0.len : Nat) : Int) ∧ ∃ q_33 : Addr, l0.a = some q_33 ∧
  ∃ (a_34 : Option Addr) (l_35 c_36 : Nat), (∀ x, S_8 x → x.cell? ((q_33.add ((i18 : Int).toNat * 3)).add 2) = some (.slice a_34 l_35 c_36)) ∧
  CallsV Try.prog n_trystkeep_Ints #[.slice (if ((((c_28 : Nat) : Int) : Int)).toNat = (((0 : Int) : Int)).toNat then a_26 else (a_26).map (·.add (((0 : Int) : Int)).toNat)) (((((l_31 : Nat) : Int) : Int)).toNat - (((0 : Int) : Int)).toNat) (((((c_28 : Nat) : Int) : Int)).toNat - (((0 : Int) : Int)).toNat), .slice a_34 l_35 c_36] w.drew (fun v_37 w2 =>
  ∃ b_38 : Bool, v_37 = .bool b_38 ∧
  cond (!b_38)
  (R (.bool false) w2)
  ((let k19_38 : Int := (IntKind.i64.wrap (k19 + 1));
  N3 l0 m4 next7 n10 wv16 ok17 i18 k19_38 w2))))))
  ((let k19_39 : Int := (IntKind.i64.wrap (k19 + 1));
  N3 l0 m4 next7 n10 wv16 ok17 i18 k19_39 w.drew)))
  ((let i18_40 : Int := (IntKind.i64.wrap (i18 + 1));
  N2 l0 m4 next7 n10 wv16 ok17 i18_40 w))

def trystlaw25_LogsGrow.l3 (R : Value → World → Prop) (N2 : Sl → Addr → Sl → Int → Addr → Bool → Int → World → Prop) (l0 : Sl) (m4 : Addr) (next7 : Sl) (n10 : Int) (wv16 : Addr) (ok17 : Bool) (i18 : Int) (k19 : Int) (w : World) : Prop :=
  ∃ (I : Int → World → Prop) (μ : Int → World → Nat), I k19 w ∧ ∀ s w, I s w → trystlaw25_LogsGrow.b3 R N2 (fun l0' m4' next7' n10' wv16' ok17' i18' k19' w' => (l0' = l0 ∧ m4' = m4 ∧ next7' = next7 ∧ n10' = n10 ∧ wv16' = wv16 ∧ ok17' = ok17 ∧ i18' = i18 ∧ I k19' w') ∧ μ k19' w' < μ s w) l0 m4 next7 n10 wv16 ok17 i18 s w

def trystlaw25_LogsGrow.b2 (R : Value → World → Prop) (N2 : Sl → Addr → Sl → Int → Addr → Bool → Int → World → Prop) (l0 : Sl) (m4 : Addr) (next7 : Sl) (n10 : Int) (wv16 : Addr) (ok17 : Bool) (i18 : Int) (w : World) : Prop :=
  cond (decide ((i18 : Int) < ((l0.len : Nat) : Int)))
  (trystlaw25_LogsGrow.l3 R N2 l0 m4 next7 n10 wv16 ok17 i18 0 w)
  (trystlaw25_LogsGrow.c1 R m4 n10 wv16 ok17 w)

def trystlaw25_LogsGrow.l2 (R : Value → World → Prop) (l0 : Sl) (m4 : Addr) (next7 : Sl) (n10 : Int) (wv16 : Addr) (ok17 : Bool) (i18 : Int) (w : World) : Prop :=
  ∃ (I : Int → World → Prop) (μ : Int → World → Nat), I i18 w ∧ ∀ s w, I s w → trystlaw25_LogsGrow.b2 R (fun l0' m4' next7' n10' wv16' ok17' i18' w' => (l0' = l0 ∧ m4' = m4 ∧ next7' = next7 ∧ n10' = n10 ∧ wv16' = wv16 ∧ ok17' = ok17 ∧ I i18' w') ∧ μ i18' w' < μ s w) l0 m4 next7 n10 wv16 ok17 s w

def trystlaw25_LogsGrow.c4 (R : Value → World → Prop) (l0 : Sl) (m4 : Addr) (next7 : Sl) (fresh8 : Bool) (n10 : Int) (y12 : Sl) (w : World) : Prop :=
  cond (!fresh8)
  (CallsV Try.prog n_trystkeep_Logs #[.slice next7.a next7.len next7.cap, .slice l0.a l0.len l0.cap] w (fun v_42 w3 =>
  ∃ b_43 : Bool, v_42 = .bool b_43 ∧
  cond b_43
  (CallsV Try.prog n_trystlaw25_wakes #[] w3 (fun v_44 w4 =>
  ∃ b_45 : Bool, v_44 = .bool b_45 ∧
  R (.bool b_45) w4))
  (R (.bool false) w3)))
  (∃ x_46 : Int, w.cell? m4 = some (.int .i64 x_46) ∧
  0 ≤ (x_46 : Int) ∧ x_46 < ((y12.len : Nat) : Int) ∧ ∃ q_47 : Addr, y12.a = some q_47 ∧
  Wr w (q_47.add (x_46 : Int).toNat) ∧
  (let w5 := w.setCell (q_47.add (x_46 : Int).toNat) (.int .i64 (IntKind.i64.wrap (n10 - 1)));
  CallsV Try.prog n_logs_Want #[.slice next7.a next7.len next7.cap, .slice y12.a y12.len y12.cap] w5 (fun v_48 w6 =>
  ∃ x_49 : Int, ∃ x_50 : Int, ∃ x_51 : Int, ∃ b_52 : Bool, v_48 = .tuple #[.agg #[.int .i64 x_49, .int .i64 x_50, .int .i64 x_51], .bool b_52] ∧
  let w7 := w6.alloc (.cells #[.int .i64 0, .int .i64 0, .int .i64 0] 32);
  (∀ j, j < 3 → Wr w7 ((newA w6).add j)) ∧
  (let w8 := setCells (newA w6) [.int .i64 x_49, .int .i64 x_50, .int .i64 x_51] 0 w7;
  trystlaw25_LogsGrow.l2 R l0 m4 next7 n10 (newA w6) b_52 0 w8))))

def trystlaw25_LogsGrow.c6 (R : Value → World → Prop) (N5 : Sl → Addr → Sl → Bool → Int → Sl → Sl → Int → World → Prop) (l0 : Sl) (m4 : Addr) (next7 : Sl) (fresh8 : Bool) (n10 : Int) (x11 : Sl) (y12 : Sl) (c13 : Int) (want14 : Int) (w : World) : Prop :=
  0 ≤ (c13 : Int) ∧ c13 < ((y12.len : Nat) : Int) ∧ ∃ q_53 : Addr, y12.a = some q_53 ∧
  ∃ x_54 : Int, w.cell? (q_53.add (c13 : Int).toNat) = some (.int .i64 x_54) ∧
  cond ((x_54 : Int) != want14)
  (R (.bool false) w)
  ((let c13_54 : Int := (IntKind.i64.wrap (c13 + 1));
  N5 l0 m4 next7 fresh8 n10 x11 y12 c13_54 w))

def trystlaw25_LogsGrow.b5 (R : Value → World → Prop) (N5 : Sl → Addr → Sl → Bool → Int → Sl → Sl → Int → World → Prop) (l0 : Sl) (m4 : Addr) (next7 : Sl) (fresh8 : Bool) (n10 : Int) (x11 : Sl) (y12 : Sl) (c13 : Int) (w : World) : Prop :=
  cond (decide ((c13 : Int) < 8))
  (0 ≤ (c13 : Int) ∧ c13 < ((x11.len : Nat) : Int) ∧ ∃ q_56 : Addr, x11.a = some q_56 ∧
  ∃ x_57 : Int, w.cell? (q_56.add (c13 : Int).toNat) = some (.int .i64 x_57) ∧
  cond fresh8
  (∃ x_58 : Int, w.cell? m4 = some (.int .i64 x_58) ∧
  cond ((c13 : Int) == x_58)
  ((let want14_58 : Int := (IntKind.i64.wrap (x_57 + 1));
  trystlaw25_LogsGrow.c6 R N5 l0 m4 next7 fresh8 n10 x11 y12 c13 want14_58 w))
  (trystlaw25_LogsGrow.c6 R N5 l0 m4 next7 fresh8 n10 x11 y12 c13 x_57 w))
  (trystlaw25_LogsGrow.c6 R N5 l0 m4 next7 fresh8 n10 x11 y12 c13 x_57 w))
  (trystlaw25_LogsGrow.c4 R l0 m4 next7 fresh8 n10 y12 w)

def trystlaw25_LogsGrow.l5 (R : Value → World → Prop) (l0 : Sl) (m4 : Addr) (next7 : Sl) (fresh8 : Bool) (n10 : Int) (x11 : Sl) (y12 : Sl) (c13 : Int) (w : World) : Prop :=
  ∃ (I : Int → World → Prop) (μ : Int → World → Nat), I c13 w ∧ ∀ s w, I s w → trystlaw25_LogsGrow.b5 R (fun l0' m4' next7' fresh8' n10' x11' y12' c13' w' => (l0' = l0 ∧ m4' = m4 ∧ next7' = next7 ∧ fresh8' = fresh8 ∧ n10' = n10 ∧ x11' = x11 ∧ y12' = y12 ∧ I c13' w') ∧ μ c13' w' < μ s w) l0 m4 next7 fresh8 n10 x11 y12 s w

def trystlaw25_LogsGrow.c7 (R : Value → World → Prop) (l0 : Sl) (m4 : Addr) (next7 : Sl) (fresh8 : Bool) (n10 : Int) (x11 : Sl) (y12 : Sl) (w : World) : Prop :=
  trystlaw25_LogsGrow.l5 R l0 m4 next7 fresh8 n10 x11 y12 0 w

def trystlaw25_LogsGrow.c8 (R : Value → World → Prop) (l0 : Sl) (m4 : Addr) (next7 : Sl) (fresh8 : Bool) (e9 : Int) (n10 : Int) (w : World) : Prop :=
  cond ((e9 : Int) != 0)
  (cond ((((next7.len : Nat) : Int) : Int) == 0)
  (cond (!fresh8)
  (CallsV Try.prog n_trystlaw25_wakes #[] w (fun v_60 w9 =>
  ∃ b_61 : Bool, v_60 = .bool b_61 ∧
  R (.bool b_61) w9))
  (R (.bool false) w))
  (R (.bool false) w))
  (CallsV Try.prog n_logs_Check #[.slice next7.a next7.len next7.cap] w (fun v_62 w10 =>
  ∃ x_63 : Int, v_62 = .int .i64 x_63 ∧
  cond ((x_63 : Int) != 0)
  (R (.bool false) w10)
  (CallsV Try.prog n_logs_Have #[.slice l0.a l0.len l0.cap] w10 (fun v_64 w11 =>
  ∃ (a_65 : Option Addr) (l_66 c_67 : Nat), v_64 = .slice a_65 l_66 c_67 ∧
  CallsV Try.prog n_logs_Have #[.slice next7.a next7.len next7.cap] w11 (fun v_68 w12 =>
  ∃ (a_69 : Option Addr) (l_70 c_71 : Nat), v_68 = .slice a_69 l_70 c_71 ∧
  cond ((((l_66 : Nat) : Int) : Int) != 8)
  (R (.bool false) w12)
  (cond ((((l_70 : Nat) : Int) : Int) != 8)
  (R (.bool false) w12)
  (trystlaw25_LogsGrow.c7 R l0 m4 next7 fresh8 n10 ⟨a_65, l_66, c_67⟩ ⟨a_69, l_70, c_71⟩ w12)))))))

def trystlaw25_LogsGrow.c9 (R : Value → World → Prop) (l0 : Sl) (say2 : Bool) (m4 : Addr) (w : World) : Prop :=
  ∃ x_72 : Int, w.cell? m4 = some (.int .i64 x_72) ∧
  ∃ x_73 : Int, w.cell? (m4.add 1) = some (.int .i64 x_73) ∧
  ∃ x_74 : Int, w.cell? (m4.add 2) = some (.int .i64 x_74) ∧
  CallsV Try.prog n_logs_Put #[.slice l0.a l0.len l0.cap, .agg #[.int .i64 x_72, .int .i64 x_73, .int .i64 x_74]] w (fun v_75 w13 =>
  ∃ (a_76 : Option Addr) (l_77 c_78 : Nat), ∃ b_79 : Bool, ∃ x_80 : Int, v_75 = .tuple #[.slice a_76 l_77 c_78, .bool b_79, .int .i64 x_80] ∧
  ∃ x_81 : Int, w13.cell? (m4.add 1) = some (.int .i64 x_81) ∧
  cond say2
  (∃ x_82 : Int, w13.cell? m4 = some (.int .i64 x_82) ∧
  ∃ x_83 : Int, w13.cell? (m4.add 2) = some (.int .i64 x_83) ∧
  CallsV Try.prog n_logs_Say #[.slice l0.a l0.len l0.cap, .int .i64 x_82, .int .i64 x_83] w13 (fun v_84 w14 =>
  ∃ (a_85 : Option Addr) (l_86 c_87 : Nat), ∃ x_88 : Int, ∃ x_89 : Int, v_84 = .tuple #[.slice a_85 l_86 c_87, .int .i64 x_88, .int .i64 x_89] ∧
  trystlaw25_LogsGrow.c8 R l0 m4 ⟨a_85, l_86, c_87⟩ ((x_89 : Int) == 0) x_89 x_88 w14))
  (trystlaw25_LogsGrow.c8 R l0 m4 ⟨a_76, l_77, c_78⟩ b_79 x_80 x_81 w13))

def trystlaw25_LogsGrow.main (R : Value → World → Prop) (l0 : Sl) (m1_0 : Int) (m1_1 : Int) (m1_2 : Int) (say2 : Bool) (w : World) : Prop :=
  let w15 := w.alloc (.cells #[.int .i64 m1_0, .int .i64 m1_1, .int .i64 m1_2] 32);
  CallsV Try.prog n_trystlaw25_Heavy #[.slice l0.a l0.len l0.cap] w15 (fun v_90 w16 =>
  ∃ b_91 : Bool, v_90 = .bool b_91 ∧
  cond b_91
  (R (.bool true) w16)
  (CallsV Try.prog n_logs_Check #[.slice l0.a l0.len l0.cap] w16 (fun v_92 w17 =>
  ∃ x_93 : Int, v_92 = .int .i64 x_93 ∧
  cond ((x_93 : Int) != 0)
  (R (.bool true) w17)
  (trystlaw25_LogsGrow.c9 R l0 say2 (newA w) w17))))

def trystlaw25_LogsGrow.J2 (R : Value → World → Prop) (N2 : Sl → Addr → Sl → Int → Addr → Bool → Int → World → Prop) (k : Nat) (fr : Fr) (w : World) : Prop :=
  cond (Nat.beq k 3) (dec [(0, .slice), (4, .addr), (7, .slice), (10, (.int .i64)), (16, .addr), (17, .bool), (18, (.int .i64)), (19, (.int .i64))] fr fun x => trystlaw25_LogsGrow.l3 R N2 x.1 x.2.1 x.2.2.1 x.2.2.2.1 x.2.2.2.2.1 x.2.2.2.2.2.1 x.2.2.2.2.2.2.1 x.2.2.2.2.2.2.2 w) (False)

def trystlaw25_LogsGrow.J5 (R : Value → World → Prop) (N5 : Sl → Addr → Sl → Bool → Int → Sl → Sl → Int → World → Prop) (k : Nat) (fr : Fr) (w : World) : Prop :=
  cond (Nat.beq k 6) (dec [(0, .slice), (4, .addr), (7, .slice), (8, .bool), (10, (.int .i64)), (11, .slice), (12, .slice), (13, (.int .i64)), (14, (.int .i64))] fr fun x => trystlaw25_LogsGrow.c6 R N5 x.1 x.2.1 x.2.2.1 x.2.2.2.1 x.2.2.2.2.1 x.2.2.2.2.2.1 x.2.2.2.2.2.2.1 x.2.2.2.2.2.2.2.1 x.2.2.2.2.2.2.2.2 w) (False)

def trystlaw25_LogsGrow.J0 (R : Value → World → Prop) (k : Nat) (fr : Fr) (w : World) : Prop :=
  cond (Nat.beq k 9) (dec [(0, .slice), (2, .bool), (4, .addr)] fr fun x => trystlaw25_LogsGrow.c9 R x.1 x.2.1 x.2.2 w) (cond (Nat.beq k 8) (dec [(0, .slice), (4, .addr), (7, .slice), (8, .bool), (9, (.int .i64)), (10, (.int .i64))] fr fun x => trystlaw25_LogsGrow.c8 R x.1 x.2.1 x.2.2.1 x.2.2.2.1 x.2.2.2.2.1 x.2.2.2.2.2 w) (cond (Nat.beq k 7) (dec [(0, .slice), (4, .addr), (7, .slice), (8, .bool), (10, (.int .i64)), (11, .slice), (12, .slice)] fr fun x => trystlaw25_LogsGrow.c7 R x.1 x.2.1 x.2.2.1 x.2.2.2.1 x.2.2.2.2.1 x.2.2.2.2.2.1 x.2.2.2.2.2.2 w) (cond (Nat.beq k 5) (dec [(0, .slice), (4, .addr), (7, .slice), (8, .bool), (10, (.int .i64)), (11, .slice), (12, .slice), (13, (.int .i64))] fr fun x => trystlaw25_LogsGrow.l5 R x.1 x.2.1 x.2.2.1 x.2.2.2.1 x.2.2.2.2.1 x.2.2.2.2.2.1 x.2.2.2.2.2.2.1 x.2.2.2.2.2.2.2 w) (cond (Nat.beq k 4) (dec [(0, .slice), (4, .addr), (7, .slice), (8, .bool), (10, (.int .i64)), (12, .slice)] fr fun x => trystlaw25_LogsGrow.c4 R x.1 x.2.1 x.2.2.1 x.2.2.2.1 x.2.2.2.2.1 x.2.2.2.2.2 w) (cond (Nat.beq k 2) (dec [(0, .slice), (4, .addr), (7, .slice), (10, (.int .i64)), (16, .addr), (17, .bool), (18, (.int .i64))] fr fun x => trystlaw25_LogsGrow.l2 R x.1 x.2.1 x.2.2.1 x.2.2.2.1 x.2.2.2.2.1 x.2.2.2.2.2.1 x.2.2.2.2.2.2 w) (cond (Nat.beq k 1) (dec [(4, .addr), (10, (.int .i64)), (16, .addr), (17, .bool)] fr fun x => trystlaw25_LogsGrow.c1 R x.1 x.2.1 x.2.2.1 x.2.2.2 w) (False)))))))

set_option maxRecDepth 100000 in
theorem trystlaw25_LogsGrow.lift {R : Value → World → Prop} {l0 : Sl} {m1_0 : Int} {m1_1 : Int} {m1_2 : Int} {say2 : Bool} {w : World} (h : trystlaw25_LogsGrow.main R l0 m1_0 m1_1 m1_2 say2 w) : CallsV Try.prog n_trystlaw25_LogsGrow #[.slice l0.a l0.len l0.cap, .agg #[.int .i64 m1_0, .int .i64 m1_1, .int .i64 m1_2], .bool say2] w R :=
  liftCalls (c := (.seq (.leaf (cL (bd Try.f4))) (.seq (.seq (.leaf (cL (cL (cR (bd Try.f4))))) (.cnd (.tmp 26) (.seq (.leaf (cL (cT (cR (cL (cR (bd Try.f4))))))) (.leaf (cR (cT (cR (cL (cR (bd Try.f4)))))))) (.leaf (cE (cR (cL (cR (bd Try.f4)))))))) (.cut 9 (.seq (.leaf (cL (cR (cR (bd Try.f4))))) (.seq (.leaf (cL (cR (cR (cR (bd Try.f4)))))) (.seq (.seq (.leaf (cL (cL (cR (cR (cR (cR (bd Try.f4)))))))) (.cnd (.tmp 36) (.seq (.leaf (cL (cT (cR (cL (cR (cR (cR (cR (bd Try.f4)))))))))) (.leaf (cR (cT (cR (cL (cR (cR (cR (cR (bd Try.f4))))))))))) (.leaf (cE (cR (cL (cR (cR (cR (cR (bd Try.f4))))))))))) (.cut 8 (.seq (.seq (.leaf (cL (cL (cR (cR (cR (cR (cR (bd Try.f4))))))))) (.cnd (.tmp 50) (.seq (.leaf (cL (cT (cR (cL (cR (cR (cR (cR (cR (bd Try.f4))))))))))) (.leaf (cR (cT (cR (cL (cR (cR (cR (cR (cR (bd Try.f4)))))))))))) (.leaf (cE (cR (cL (cR (cR (cR (cR (cR (bd Try.f4)))))))))))) (.seq (.seq (.leaf (cL (cL (cR (cR (cR (cR (cR (cR (bd Try.f4)))))))))) (.cnd (.tmp 63) (.seq (.leaf (cL (cT (cR (cL (cR (cR (cR (cR (cR (cR (bd Try.f4)))))))))))) (.leaf (cR (cT (cR (cL (cR (cR (cR (cR (cR (cR (bd Try.f4))))))))))))) (.leaf (cE (cR (cL (cR (cR (cR (cR (cR (cR (bd Try.f4))))))))))))) (.seq (.leaf (cL (cR (cR (cR (cR (cR (cR (cR (bd Try.f4)))))))))) (.seq (.seq (.leaf (cL (cL (cR (cR (cR (cR (cR (cR (cR (cR (bd Try.f4)))))))))))) (.cnd (.tmp 75) (.seq (.leaf (cL (cT (cR (cL (cR (cR (cR (cR (cR (cR (cR (cR (bd Try.f4)))))))))))))) (.leaf (cR (cT (cR (cL (cR (cR (cR (cR (cR (cR (cR (cR (bd Try.f4))))))))))))))) (.leaf (cE (cR (cL (cR (cR (cR (cR (cR (cR (cR (cR (bd Try.f4))))))))))))))) (.cut 7 (.seq (.seq (.leaf (cL (cL (cR (cR (cR (cR (cR (cR (cR (cR (cR (bd Try.f4))))))))))))) (.block 0 (.loop 5 (.seq (.seq (.leaf (cL (cL (cB (cB (cR (cL (cR (cR (cR (cR (cR (cR (cR (cR (cR (bd Try.f4))))))))))))))))) (.cnd (.tmp 77) (.leaf (cT (cR (cL (cB (cB (cR (cL (cR (cR (cR (cR (cR (cR (cR (cR (cR (bd Try.f4)))))))))))))))))) (.leaf (cE (cR (cL (cB (cB (cR (cL (cR (cR (cR (cR (cR (cR (cR (cR (cR (bd Try.f4)))))))))))))))))))) (.seq (.block 1 (.seq (.leaf (cL (cB (cL (cR (cB (cB (cR (cL (cR (cR (cR (cR (cR (cR (cR (cR (cR (bd Try.f4))))))))))))))))))) (.seq (.seq (.leaf (cL (cL (cR (cB (cL (cR (cB (cB (cR (cL (cR (cR (cR (cR (cR (cR (cR (cR (cR (bd Try.f4))))))))))))))))))))) (.cnd (.tmp 90) (.leaf (cT (cR (cL (cR (cB (cL (cR (cB (cB (cR (cL (cR (cR (cR (cR (cR (cR (cR (cR (cR (bd Try.f4)))))))))))))))))))))) (.leaf (cE (cR (cL (cR (cB (cL (cR (cB (cB (cR (cL (cR (cR (cR (cR (cR (cR (cR (cR (cR (bd Try.f4)))))))))))))))))))))))) (.cut 6 (.seq (.leaf (cL (cR (cR (cB (cL (cR (cB (cB (cR (cL (cR (cR (cR (cR (cR (cR (cR (cR (cR (bd Try.f4))))))))))))))))))))) (.cnd (.tmp 98) (.seq (.leaf (cL (cT (cR (cR (cR (cB (cL (cR (cB (cB (cR (cL (cR (cR (cR (cR (cR (cR (cR (cR (cR (bd Try.f4))))))))))))))))))))))) (.leaf (cR (cT (cR (cR (cR (cB (cL (cR (cB (cB (cR (cL (cR (cR (cR (cR (cR (cR (cR (cR (cR (bd Try.f4)))))))))))))))))))))))) (.leaf (cE (cR (cR (cR (cB (cL (cR (cB (cB (cR (cL (cR (cR (cR (cR (cR (cR (cR (cR (cR (bd Try.f4)))))))))))))))))))))))))))) (.leaf (cR (cR (cB (cB (cR (cL (cR (cR (cR (cR (cR (cR (cR (cR (cR (bd Try.f4)))))))))))))))))))))) (.cut 4 (.seq (.seq (.leaf (cL (cL (cR (cR (cR (cR (cR (cR (cR (cR (cR (cR (bd Try.f4)))))))))))))) (.cnd (.tmp 100) (.seq (.leaf (cL (cT (cR (cL (cR (cR (cR (cR (cR (cR (cR (cR (cR (cR (bd Try.f4)))))))))))))))) (.leaf (cR (cT (cR (cL (cR (cR (cR (cR (cR (cR (cR (cR (cR (cR (bd Try.f4))))))))))))))))) (.leaf (cE (cR (cL (cR (cR (cR (cR (cR (cR (cR (cR (cR (cR (bd Try.f4))))))))))))))))) (.seq (.leaf (cL (cR (cR (cR (cR (cR (cR (cR (cR (cR (cR (cR (bd Try.f4)))))))))))))) (.seq (.leaf (cL (cR (cR (cR (cR (cR (cR (cR (cR (cR (cR (cR (cR (bd Try.f4))))))))))))))) (.seq (.leaf (cL (cR (cR (cR (cR (cR (cR (cR (cR (cR (cR (cR (cR (cR (bd Try.f4)))))))))))))))) (.seq (.seq (.leaf (cL (cL (cR (cR (cR (cR (cR (cR (cR (cR (cR (cR (cR (cR (cR (cR (bd Try.f4)))))))))))))))))) (.block 2 (.loop 2 (.seq (.seq (.leaf (cL (cL (cB (cB (cR (cL (cR (cR (cR (cR (cR (cR (cR (cR (cR (cR (cR (cR (cR (cR (bd Try.f4)))))))))))))))))))))) (.cnd (.tmp 123) (.leaf (cT (cR (cL (cB (cB (cR (cL (cR (cR (cR (cR (cR (cR (cR (cR (cR (cR (cR (cR (cR (cR (bd Try.f4))))))))))))))))))))))) (.leaf (cE (cR (cL (cB (cB (cR (cL (cR (cR (cR (cR (cR (cR (cR (cR (cR (cR (cR (cR (cR (cR (bd Try.f4))))))))))))))))))))))))) (.seq (.block 3 (.seq (.leaf (cL (cB (cL (cR (cB (cB (cR (cL (cR (cR (cR (cR (cR (cR (cR (cR (cR (cR (cR (cR (cR (cR (bd Try.f4)))))))))))))))))))))))) (.block 4 (.loop 3 (.seq (.seq (.leaf (cL (cL (cB (cB (cR (cB (cL (cR (cB (cB (cR (cL (cR (cR (cR (cR (cR (cR (cR (cR (cR (cR (cR (cR (cR (cR (bd Try.f4)))))))))))))))))))))))))))) (.cnd (.tmp 129) (.leaf (cT (cR (cL (cB (cB (cR (cB (cL (cR (cB (cB (cR (cL (cR (cR (cR (cR (cR (cR (cR (cR (cR (cR (cR (cR (cR (cR (bd Try.f4))))))))))))))))))))))))))))) (.leaf (cE (cR (cL (cB (cB (cR (cB (cL (cR (cB (cB (cR (cL (cR (cR (cR (cR (cR (cR (cR (cR (cR (cR (cR (cR (cR (cR (bd Try.f4))))))))))))))))))))))))))))))) (.seq (.block 5 (.seq (.leaf (cL (cB (cL (cR (cB (cB (cR (cB (cL (cR (cB (cB (cR (cL (cR (cR (cR (cR (cR (cR (cR (cR (cR (cR (cR (cR (cR (cR (bd Try.f4)))))))))))))))))))))))))))))) (.cnd (.tmp 191) (.seq (.leaf (cL (cT (cR (cB (cL (cR (cB (cB (cR (cB (cL (cR (cB (cB (cR (cL (cR (cR (cR (cR (cR (cR (cR (cR (cR (cR (cR (cR (cR (cR (bd Try.f4)))))))))))))))))))))))))))))))) (.leaf (cR (cT (cR (cB (cL (cR (cB (cB (cR (cB (cL (cR (cB (cB (cR (cL (cR (cR (cR (cR (cR (cR (cR (cR (cR (cR (cR (cR (cR (cR (bd Try.f4))))))))))))))))))))))))))))))))) (.leaf (cE (cR (cB (cL (cR (cB (cB (cR (cB (cL (cR (cB (cB (cR (cL (cR (cR (cR (cR (cR (cR (cR (cR (cR (cR (cR (cR (cR (cR (bd Try.f4)))))))))))))))))))))))))))))))))) (.leaf (cR (cR (cB (cB (cR (cB (cL (cR (cB (cB (cR (cL (cR (cR (cR (cR (cR (cR (cR (cR (cR (cR (cR (cR (cR (cR (bd Try.f4)))))))))))))))))))))))))))))))))) (.leaf (cR (cR (cB (cB (cR (cL (cR (cR (cR (cR (cR (cR (cR (cR (cR (cR (cR (cR (cR (cR (bd Try.f4))))))))))))))))))))))))))) (.cut 1 (.seq (.leaf (cL (cR (cR (cR (cR (cR (cR (cR (cR (cR (cR (cR (cR (cR (cR (cR (bd Try.f4)))))))))))))))))) (.leaf (cR (cR (cR (cR (cR (cR (cR (cR (cR (cR (cR (cR (cR (cR (cR (cR (bd Try.f4)))))))))))))))))))))))))))))))))))))))) (J := trystlaw25_LogsGrow.J0 R) LfYtcegohgmagppbaa.mixed Try.func4 (by kernel_rfl) (by kernel_rfl) (mkSeq (mkSeq (mkCut (cutDef [(0, .slice), (2, .bool), (4, .addr)] (fun x w => trystlaw25_LogsGrow.c9 R x.1 x.2.1 x.2.2 w) (fun _ _ => by kernel_rfl) (fun _ _ => by kernel_rfl)) (mkSeq (mkSeq (mkSeq (mkCut (cutDef [(0, .slice), (4, .addr), (7, .slice), (8, .bool), (9, (.int .i64)), (10, (.int .i64))] (fun x w => trystlaw25_LogsGrow.c8 R x.1 x.2.1 x.2.2.1 x.2.2.2.1 x.2.2.2.2.1 x.2.2.2.2.2 w) (fun _ _ => by kernel_rfl) (fun _ _ => by kernel_rfl)) (mkSeq (mkSeq (mkSeq (mkSeq (mkCut (cutDef [(0, .slice), (4, .addr), (7, .slice), (8, .bool), (10, (.int .i64)), (11, .slice), (12, .slice)] (fun x w => trystlaw25_LogsGrow.c7 R x.1 x.2.1 x.2.2.1 x.2.2.2.1 x.2.2.2.2.1 x.2.2.2.2.2.1 x.2.2.2.2.2.2 w) (fun _ _ => by kernel_rfl) (fun _ _ => by kernel_rfl)) (mkSeq (mkCut (cutDef [(0, .slice), (4, .addr), (7, .slice), (8, .bool), (10, (.int .i64)), (12, .slice)] (fun x w => trystlaw25_LogsGrow.c4 R x.1 x.2.1 x.2.2.1 x.2.2.2.1 x.2.2.2.2.1 x.2.2.2.2.2 w) (fun _ _ => by kernel_rfl) (fun _ _ => by kernel_rfl)) (mkSeq (mkSeq (mkSeq (mkSeq (mkSeq (mkCut (cutDef [(4, .addr), (10, (.int .i64)), (16, .addr), (17, .bool)] (fun x w => trystlaw25_LogsGrow.c1 R x.1 x.2.1 x.2.2.1 x.2.2.2 w) (fun _ _ => by kernel_rfl) (fun _ _ => by kernel_rfl)) (mkSeq mkLeaf mkLeaf)) (mkSeq (mkBlock (mkLoop (loopDef LfYtcegohgmagppbaa.mixed [(0, .slice), (4, .addr), (7, .slice), (10, (.int .i64)), (16, .addr), (17, .bool), (18, (.int .i64))] (by kernel_rfl) (fun M2 x w => trystlaw25_LogsGrow.b2 R (fun y0 y1 y2 y3 y4 y5 y6 w => M2 (y0, y1, y2, y3, y4, y5, y6) w) x.1 x.2.1 x.2.2.1 x.2.2.2.1 x.2.2.2.2.1 x.2.2.2.2.2.1 x.2.2.2.2.2.2 w) (fun M2 => trystlaw25_LogsGrow.J2 R (fun y0 y1 y2 y3 y4 y5 y6 w => M2 (y0, y1, y2, y3, y4, y5, y6) w)) (fun _ _ _ => by kernel_rfl) (fun M2 => (mkSeq (mkSeq mkLeaf (mkBlock (mkSeq (mkBlock (mkLoop (loopDef LfYtcegohgmagppbaa.mixed [(0, .slice), (4, .addr), (7, .slice), (10, (.int .i64)), (16, .addr), (17, .bool), (18, (.int .i64)), (19, (.int .i64))] (by kernel_rfl) (fun M3 x w => trystlaw25_LogsGrow.b3 R (fun y0 y1 y2 y3 y4 y5 y6 w => M2 (y0, y1, y2, y3, y4, y5, y6) w) (fun y0 y1 y2 y3 y4 y5 y6 y7 w => M3 (y0, y1, y2, y3, y4, y5, y6, y7) w) x.1 x.2.1 x.2.2.1 x.2.2.2.1 x.2.2.2.2.1 x.2.2.2.2.2.1 x.2.2.2.2.2.2.1 x.2.2.2.2.2.2.2 w) (fun M3 => fun _ _ _ => False) (fun _ _ _ => by kernel_rfl) (fun M3 => (mkSeq (mkSeq mkLeaf (mkBlock (mkSeq (mkCnd (mkSeq mkLeaf mkLeaf) mkLeaf) mkLeaf))) (mkSeq (mkCnd mkLeaf mkLeaf) mkLeaf))) (fun x w => trystlaw25_LogsGrow.l3 R (fun y0 y1 y2 y3 y4 y5 y6 w => M2 (y0, y1, y2, y3, y4, y5, y6) w) x.1 x.2.1 x.2.2.1 x.2.2.2.1 x.2.2.2.2.1 x.2.2.2.2.2.1 x.2.2.2.2.2.2.1 x.2.2.2.2.2.2.2 w) (by rintro ⟨c0, c1, c2, c3, c4, c5, c6, s0⟩ w ⟨I, μ, h0, h1⟩; refine ⟨fun y w => y.1 = c0 ∧ y.2.1 = c1 ∧ y.2.2.1 = c2 ∧ y.2.2.2.1 = c3 ∧ y.2.2.2.2.1 = c4 ∧ y.2.2.2.2.2.1 = c5 ∧ y.2.2.2.2.2.2.1 = c6 ∧ I y.2.2.2.2.2.2.2 w, fun y w => μ y.2.2.2.2.2.2.2 w, ⟨rfl, rfl, rfl, rfl, rfl, rfl, rfl, h0⟩, ?_⟩; rintro ⟨d0, d1, d2, d3, d4, d5, d6, t0⟩ w ⟨e0, e1, e2, e3, e4, e5, e6, hI⟩; dsimp only at e0 e1 e2 e3 e4 e5 e6 hI; subst e0; subst e1; subst e2; subst e3; subst e4; subst e5; subst e6; exact h1 _ _ hI) (fun _ _ => by kernel_rfl)))) mkLeaf))) (mkSeq (mkCnd mkLeaf mkLeaf) mkLeaf))) (fun x w => trystlaw25_LogsGrow.l2 R x.1 x.2.1 x.2.2.1 x.2.2.2.1 x.2.2.2.2.1 x.2.2.2.2.2.1 x.2.2.2.2.2.2 w) (by rintro ⟨c0, c1, c2, c3, c4, c5, s0⟩ w ⟨I, μ, h0, h1⟩; refine ⟨fun y w => y.1 = c0 ∧ y.2.1 = c1 ∧ y.2.2.1 = c2 ∧ y.2.2.2.1 = c3 ∧ y.2.2.2.2.1 = c4 ∧ y.2.2.2.2.2.1 = c5 ∧ I y.2.2.2.2.2.2 w, fun y w => μ y.2.2.2.2.2.2 w, ⟨rfl, rfl, rfl, rfl, rfl, rfl, h0⟩, ?_⟩; rintro ⟨d0, d1, d2, d3, d4, d5, t0⟩ w ⟨e0, e1, e2, e3, e4, e5, hI⟩; dsimp only at e0 e1 e2 e3 e4 e5 hI; subst e0; subst e1; subst e2; subst e3; subst e4; subst e5; exact h1 _ _ hI) (fun _ _ => by kernel_rfl)))) mkLeaf)) mkLeaf) mkLeaf) mkLeaf) (mkSeq (mkCnd (mkSeq mkLeaf mkLeaf) mkLeaf) mkLeaf))) (mkSeq (mkBlock (mkLoop (loopDef LfYtcegohgmagppbaa.mixed [(0, .slice), (4, .addr), (7, .slice), (8, .bool), (10, (.int .i64)), (11, .slice), (12, .slice), (13, (.int .i64))] (by kernel_rfl) (fun M5 x w => trystlaw25_LogsGrow.b5 R (fun y0 y1 y2 y3 y4 y5 y6 y7 w => M5 (y0, y1, y2, y3, y4, y5, y6, y7) w) x.1 x.2.1 x.2.2.1 x.2.2.2.1 x.2.2.2.2.1 x.2.2.2.2.2.1 x.2.2.2.2.2.2.1 x.2.2.2.2.2.2.2 w) (fun M5 => trystlaw25_LogsGrow.J5 R (fun y0 y1 y2 y3 y4 y5 y6 y7 w => M5 (y0, y1, y2, y3, y4, y5, y6, y7) w)) (fun _ _ _ => by kernel_rfl) (fun M5 => (mkSeq (mkSeq mkLeaf (mkBlock (mkSeq (mkSeq (mkCut (cutDef [(0, .slice), (4, .addr), (7, .slice), (8, .bool), (10, (.int .i64)), (11, .slice), (12, .slice), (13, (.int .i64)), (14, (.int .i64))] (fun x w => trystlaw25_LogsGrow.c6 R (fun y0 y1 y2 y3 y4 y5 y6 y7 w => M5 (y0, y1, y2, y3, y4, y5, y6, y7) w) x.1 x.2.1 x.2.2.1 x.2.2.2.1 x.2.2.2.2.1 x.2.2.2.2.2.1 x.2.2.2.2.2.2.1 x.2.2.2.2.2.2.2.1 x.2.2.2.2.2.2.2.2 w) (fun _ _ => by kernel_rfl) (fun _ _ => by kernel_rfl)) (mkSeq (mkCnd (mkSeq mkLeaf mkLeaf) mkLeaf) mkLeaf)) (mkSeq (mkCnd mkLeaf mkLeaf) mkLeaf)) mkLeaf))) (mkSeq (mkCnd mkLeaf mkLeaf) mkLeaf))) (fun x w => trystlaw25_LogsGrow.l5 R x.1 x.2.1 x.2.2.1 x.2.2.2.1 x.2.2.2.2.1 x.2.2.2.2.2.1 x.2.2.2.2.2.2.1 x.2.2.2.2.2.2.2 w) (by rintro ⟨c0, c1, c2, c3, c4, c5, c6, s0⟩ w ⟨I, μ, h0, h1⟩; refine ⟨fun y w => y.1 = c0 ∧ y.2.1 = c1 ∧ y.2.2.1 = c2 ∧ y.2.2.2.1 = c3 ∧ y.2.2.2.2.1 = c4 ∧ y.2.2.2.2.2.1 = c5 ∧ y.2.2.2.2.2.2.1 = c6 ∧ I y.2.2.2.2.2.2.2 w, fun y w => μ y.2.2.2.2.2.2.2 w, ⟨rfl, rfl, rfl, rfl, rfl, rfl, rfl, h0⟩, ?_⟩; rintro ⟨d0, d1, d2, d3, d4, d5, d6, t0⟩ w ⟨e0, e1, e2, e3, e4, e5, e6, hI⟩; dsimp only at e0 e1 e2 e3 e4 e5 e6 hI; subst e0; subst e1; subst e2; subst e3; subst e4; subst e5; subst e6; exact h1 _ _ hI) (fun _ _ => by kernel_rfl)))) mkLeaf))) (mkSeq (mkCnd (mkSeq mkLeaf mkLeaf) mkLeaf) mkLeaf)) mkLeaf) (mkSeq (mkCnd (mkSeq mkLeaf mkLeaf) mkLeaf) mkLeaf)) (mkSeq (mkCnd (mkSeq mkLeaf mkLeaf) mkLeaf) mkLeaf))) (mkSeq (mkCnd (mkSeq mkLeaf mkLeaf) mkLeaf) mkLeaf)) mkLeaf) mkLeaf)) (mkSeq (mkCnd (mkSeq mkLeaf mkLeaf) mkLeaf) mkLeaf)) mkLeaf) (kcast (by kernel_rfl) h)

/-! trystlaw25_LogsLong -/
def trystlaw25_LogsLong.c1 (R : Value → World → Prop) (c0 : Int) (bodies1 : Sl) (l5 : Sl) (w : World) : Prop :=
  CallsV Try.prog n_logs_Have #[.slice l5.a l5.len l5.cap] w (fun v_1 w1 =>
  ∃ (a_2 : Option Addr) (l_3 c_4 : Nat), v_1 = .slice a_2 l_3 c_4 ∧
  cond ((((l_3 : Nat) : Int) : Int) == 8)
  (0 ≤ (c0 : Int) ∧ c0 < ((l_3 : Nat) : Int) ∧ ∃ q_5 : Addr, a_2 = some q_5 ∧
  ∃ x_6 : Int, w1.cell? (q_5.add (c0 : Int).toNat) = some (.int .i64 x_6) ∧
  cond ((x_6 : Int) == (if 32 < ((bodies1.len : Nat) : Int) then 32 else ((bodies1.len : Nat) : Int)))
  (CallsV Try.prog n_trystlaw25_wakes #[] w1 (fun v_7 w2 =>
  ∃ b_8 : Bool, v_7 = .bool b_8 ∧
  R (.bool b_8) w2))
  (R (.bool false) w1))
  (R (.bool false) w1))

def trystlaw25_LogsLong.c3 (R : Value → World → Prop) (N2 : Int → Sl → Sl → Sl → Int → World → Prop) (c0 : Int) (bodies1 : Sl) (i7 : Int) (next9 : Sl) (other12 : Sl) (w : World) : Prop :=
  (let i7_8 : Int := (IntKind.i64.wrap (i7 + 1));
  N2 c0 bodies1 next9 other12 i7_8 w)

def trystlaw25_LogsLong.b2 (R : Value → World → Prop) (N2 : Int → Sl → Sl → Sl → Int → World → Prop) (c0 : Int) (bodies1 : Sl) (l5 : Sl) (k6 : Sl) (i7 : Int) (w : World) : Prop :=
  cond (decide ((i7 : Int) < ((bodies1.len : Nat) : Int)))
  (0 ≤ (i7 : Int) ∧ i7 < ((bodies1.len : Nat) : Int) ∧ ∃ q_10 : Addr, bodies1.a = some q_10 ∧
  ∃ x_11 : Int, w.cell? (q_10.add (i7 : Int).toNat) = some (.int .i64 x_11) ∧
  (1048577 : Int) ≠ 0 ∧
  (let b8_11 : Int := (IntKind.i64.wrap (Int.tmod (IntKind.u64.wrap x_11) 1048577));
  CallsV Try.prog n_logs_Say #[.slice l5.a l5.len l5.cap, .int .i64 c0, .int .i64 b8_11] w (fun v_13 w3 =>
  ∃ (a_14 : Option Addr) (l_15 c_16 : Nat), ∃ x_17 : Int, ∃ x_18 : Int, v_13 = .tuple #[.slice a_14 l_15 c_16, .int .i64 x_17, .int .i64 x_18] ∧
  CallsV Try.prog n_logs_Put #[.slice k6.a k6.len k6.cap, .agg #[.int .i64 c0, .int .i64 (IntKind.i64.wrap (i7 + 1)), .int .i64 b8_11]] w3 (fun v_19 w4 =>
  ∃ (a_20 : Option Addr) (l_21 c_22 : Nat), ∃ b_23 : Bool, ∃ x_24 : Int, v_19 = .tuple #[.slice a_20 l_21 c_22, .bool b_23, .int .i64 x_24] ∧
  cond (decide ((i7 : Int) ≥ 32))
  (cond ((x_18 : Int) != 20)
  (R (.bool false) w4)
  (cond ((x_17 : Int) != 0)
  (R (.bool false) w4)
  (cond (decide ((((l_15 : Nat) : Int) : Int) > 0))
  (R (.bool false) w4)
  (cond b_23
  (R (.bool false) w4)
  (cond ((i7 : Int) == 32)
  (cond ((x_24 : Int) != 20)
  (R (.bool false) w4)
  (cond (decide ((i7 : Int) > 32))
  (cond ((x_24 : Int) != 14)
  (R (.bool false) w4)
  ((let i7_24 : Int := (IntKind.i64.wrap (i7 + 1));
  N2 c0 bodies1 l5 k6 i7_24 w4)))
  ((let i7_25 : Int := (IntKind.i64.wrap (i7 + 1));
  N2 c0 bodies1 l5 k6 i7_25 w4))))
  (cond (decide ((i7 : Int) > 32))
  (cond ((x_24 : Int) != 14)
  (R (.bool false) w4)
  ((let i7_26 : Int := (IntKind.i64.wrap (i7 + 1));
  N2 c0 bodies1 l5 k6 i7_26 w4)))
  ((let i7_27 : Int := (IntKind.i64.wrap (i7 + 1));
  N2 c0 bodies1 l5 k6 i7_27 w4))))))))
  (cond ((x_18 : Int) != 0)
  (R (.bool false) w4)
  (cond ((x_24 : Int) != 0)
  (R (.bool false) w4)
  (cond (!b_23)
  (R (.bool false) w4)
  (cond ((x_17 : Int) != (IntKind.i64.wrap (i7 + 1)))
  (R (.bool false) w4)
  (CallsV Try.prog n_trystkeep_Logs #[.slice a_14 l_15 c_16, .slice a_20 l_21 c_22] w4 (fun v_29 w5 =>
  ∃ b_30 : Bool, v_29 = .bool b_30 ∧
  cond (!b_30)
  (R (.bool false) w5)
  (trystlaw25_LogsLong.c3 R N2 c0 bodies1 i7 ⟨a_14, l_15, c_16⟩ ⟨a_20, l_21, c_22⟩ w5)))))))))))
  (trystlaw25_LogsLong.c1 R c0 bodies1 l5 w)

def trystlaw25_LogsLong.l2 (R : Value → World → Prop) (c0 : Int) (bodies1 : Sl) (l5 : Sl) (k6 : Sl) (i7 : Int) (w : World) : Prop :=
  ∃ (I : (Sl × Sl × Int) → World → Prop) (μ : (Sl × Sl × Int) → World → Nat), I (l5, k6, i7) w ∧ ∀ s w, I s w → trystlaw25_LogsLong.b2 R (fun c0' bodies1' l5' k6' i7' w' => (c0' = c0 ∧ bodies1' = bodies1 ∧ I (l5', k6', i7') w') ∧ μ (l5', k6', i7') w' < μ s w) c0 bodies1 s.1 s.2.1 s.2.2 w

def trystlaw25_LogsLong.main (R : Value → World → Prop) (c0 : Int) (bodies1 : Sl) (w : World) : Prop :=
  cond (decide ((((bodies1.len : Nat) : Int) : Int) > 100))
  (R (.bool true) w)
  ((8 : Int) ≠ 0 ∧
  (let c0_30 : Int := (IntKind.i64.wrap (Int.tmod (IntKind.u64.wrap c0) 8));
  trystlaw25_LogsLong.l2 R c0_30 bodies1 ⟨none, 0, 0⟩ ⟨none, 0, 0⟩ 0 w))

def trystlaw25_LogsLong.J2 (R : Value → World → Prop) (N2 : Int → Sl → Sl → Sl → Int → World → Prop) (k : Nat) (fr : Fr) (w : World) : Prop :=
  cond (Nat.beq k 3) (dec [(0, (.int .i64)), (1, .slice), (7, (.int .i64)), (9, .slice), (12, .slice)] fr fun x => trystlaw25_LogsLong.c3 R N2 x.1 x.2.1 x.2.2.1 x.2.2.2.1 x.2.2.2.2 w) (False)

def trystlaw25_LogsLong.J0 (R : Value → World → Prop) (k : Nat) (fr : Fr) (w : World) : Prop :=
  cond (Nat.beq k 2) (dec [(0, (.int .i64)), (1, .slice), (5, .slice), (6, .slice), (7, (.int .i64))] fr fun x => trystlaw25_LogsLong.l2 R x.1 x.2.1 x.2.2.1 x.2.2.2.1 x.2.2.2.2 w) (cond (Nat.beq k 1) (dec [(0, (.int .i64)), (1, .slice), (5, .slice)] fr fun x => trystlaw25_LogsLong.c1 R x.1 x.2.1 x.2.2 w) (False))

set_option maxRecDepth 100000 in
theorem trystlaw25_LogsLong.lift {R : Value → World → Prop} {c0 : Int} {bodies1 : Sl} {w : World} (h : trystlaw25_LogsLong.main R c0 bodies1 w) : CallsV Try.prog n_trystlaw25_LogsLong #[.int .i64 c0, .slice bodies1.a bodies1.len bodies1.cap] w R :=
  liftCalls (c := (.seq (.leaf (cL (bd Try.f5))) (.seq (.seq (.leaf (cL (cL (cR (bd Try.f5))))) (.cnd (.tmp 18) (.seq (.leaf (cL (cT (cR (cL (cR (bd Try.f5))))))) (.leaf (cR (cT (cR (cL (cR (bd Try.f5)))))))) (.leaf (cE (cR (cL (cR (bd Try.f5)))))))) (.seq (.leaf (cL (cR (cR (bd Try.f5))))) (.seq (.leaf (cL (cR (cR (cR (bd Try.f5)))))) (.seq (.seq (.leaf (cL (cL (cR (cR (cR (cR (bd Try.f5)))))))) (.block 0 (.loop 2 (.seq (.seq (.leaf (cL (cL (cB (cB (cR (cL (cR (cR (cR (cR (bd Try.f5)))))))))))) (.cnd (.tmp 26) (.leaf (cT (cR (cL (cB (cB (cR (cL (cR (cR (cR (cR (bd Try.f5))))))))))))) (.leaf (cE (cR (cL (cB (cB (cR (cL (cR (cR (cR (cR (bd Try.f5))))))))))))))) (.seq (.block 1 (.seq (.leaf (cL (cB (cL (cR (cB (cB (cR (cL (cR (cR (cR (cR (bd Try.f5)))))))))))))) (.seq (.leaf (cL (cR (cB (cL (cR (cB (cB (cR (cL (cR (cR (cR (cR (bd Try.f5))))))))))))))) (.seq (.leaf (cL (cR (cR (cB (cL (cR (cB (cB (cR (cL (cR (cR (cR (cR (bd Try.f5)))))))))))))))) (.seq (.seq (.leaf (cL (cL (cR (cR (cR (cB (cL (cR (cB (cB (cR (cL (cR (cR (cR (cR (bd Try.f5)))))))))))))))))) (.cnd (.tmp 56) (.seq (.seq (.leaf (cL (cL (cT (cR (cL (cR (cR (cR (cB (cL (cR (cB (cB (cR (cL (cR (cR (cR (cR (bd Try.f5))))))))))))))))))))) (.cnd (.tmp 86) (.seq (.leaf (cL (cT (cR (cL (cT (cR (cL (cR (cR (cR (cB (cL (cR (cB (cB (cR (cL (cR (cR (cR (cR (bd Try.f5))))))))))))))))))))))) (.leaf (cR (cT (cR (cL (cT (cR (cL (cR (cR (cR (cB (cL (cR (cB (cB (cR (cL (cR (cR (cR (cR (bd Try.f5)))))))))))))))))))))))) (.leaf (cE (cR (cL (cT (cR (cL (cR (cR (cR (cB (cL (cR (cB (cB (cR (cL (cR (cR (cR (cR (bd Try.f5)))))))))))))))))))))))) (.leaf (cR (cT (cR (cL (cR (cR (cR (cB (cL (cR (cB (cB (cR (cL (cR (cR (cR (cR (bd Try.f5))))))))))))))))))))) (.leaf (cE (cR (cL (cR (cR (cR (cB (cL (cR (cB (cB (cR (cL (cR (cR (cR (cR (bd Try.f5))))))))))))))))))))) (.seq (.seq (.leaf (cL (cL (cR (cR (cR (cR (cB (cL (cR (cB (cB (cR (cL (cR (cR (cR (cR (bd Try.f5))))))))))))))))))) (.cnd (.tmp 108) (.seq (.leaf (cL (cT (cR (cL (cR (cR (cR (cR (cB (cL (cR (cB (cB (cR (cL (cR (cR (cR (cR (bd Try.f5))))))))))))))))))))) (.leaf (cR (cT (cR (cL (cR (cR (cR (cR (cB (cL (cR (cB (cB (cR (cL (cR (cR (cR (cR (bd Try.f5)))))))))))))))))))))) (.leaf (cE (cR (cL (cR (cR (cR (cR (cB (cL (cR (cB (cB (cR (cL (cR (cR (cR (cR (bd Try.f5)))))))))))))))))))))) (.cut 3 (.leaf (cR (cR (cR (cR (cR (cB (cL (cR (cB (cB (cR (cL (cR (cR (cR (cR (bd Try.f5))))))))))))))))))))))))) (.leaf (cR (cR (cB (cB (cR (cL (cR (cR (cR (cR (bd Try.f5))))))))))))))))) (.cut 1 (.seq (.leaf (cL (cR (cR (cR (cR (cR (bd Try.f5)))))))) (.seq (.leaf (cL (cR (cR (cR (cR (cR (cR (bd Try.f5))))))))) (.leaf (cR (cR (cR (cR (cR (cR (cR (bd Try.f5)))))))))))))))))) (J := trystlaw25_LogsLong.J0 R) LfYtcegohgmagppbaa.mixed Try.func5 (by kernel_rfl) (by kernel_rfl) (mkSeq (mkSeq (mkSeq (mkSeq (mkSeq (mkCut (cutDef [(0, (.int .i64)), (1, .slice), (5, .slice)] (fun x w => trystlaw25_LogsLong.c1 R x.1 x.2.1 x.2.2 w) (fun _ _ => by kernel_rfl) (fun _ _ => by kernel_rfl)) (mkSeq (mkSeq mkLeaf mkLeaf) mkLeaf)) (mkSeq (mkBlock (mkLoop (loopDef LfYtcegohgmagppbaa.mixed [(0, (.int .i64)), (1, .slice), (5, .slice), (6, .slice), (7, (.int .i64))] (by kernel_rfl) (fun M2 x w => trystlaw25_LogsLong.b2 R (fun y0 y1 y2 y3 y4 w => M2 (y0, y1, y2, y3, y4) w) x.1 x.2.1 x.2.2.1 x.2.2.2.1 x.2.2.2.2 w) (fun M2 => trystlaw25_LogsLong.J2 R (fun y0 y1 y2 y3 y4 w => M2 (y0, y1, y2, y3, y4) w)) (fun _ _ _ => by kernel_rfl) (fun M2 => (mkSeq (mkSeq mkLeaf (mkBlock (mkSeq (mkSeq (mkSeq (mkSeq (mkSeq (mkCut (cutDef [(0, (.int .i64)), (1, .slice), (7, (.int .i64)), (9, .slice), (12, .slice)] (fun x w => trystlaw25_LogsLong.c3 R (fun y0 y1 y2 y3 y4 w => M2 (y0, y1, y2, y3, y4) w) x.1 x.2.1 x.2.2.1 x.2.2.2.1 x.2.2.2.2 w) (fun _ _ => by kernel_rfl) (fun _ _ => by kernel_rfl)) mkLeaf) (mkSeq (mkCnd (mkSeq mkLeaf mkLeaf) mkLeaf) mkLeaf)) (mkSeq (mkCnd (mkSeq mkLeaf (mkSeq (mkCnd (mkSeq mkLeaf mkLeaf) mkLeaf) mkLeaf)) mkLeaf) mkLeaf)) mkLeaf) mkLeaf) mkLeaf))) (mkSeq (mkCnd mkLeaf mkLeaf) mkLeaf))) (fun x w => trystlaw25_LogsLong.l2 R x.1 x.2.1 x.2.2.1 x.2.2.2.1 x.2.2.2.2 w) (by rintro ⟨c0, c1, s0⟩ w ⟨I, μ, h0, h1⟩; refine ⟨fun y w => y.1 = c0 ∧ y.2.1 = c1 ∧ I y.2.2 w, fun y w => μ y.2.2 w, ⟨rfl, rfl, h0⟩, ?_⟩; rintro ⟨d0, d1, t0⟩ w ⟨e0, e1, hI⟩; dsimp only at e0 e1 hI; subst e0; subst e1; exact h1 _ _ hI) (fun _ _ => by kernel_rfl)))) mkLeaf)) mkLeaf) mkLeaf) (mkSeq (mkCnd (mkSeq mkLeaf mkLeaf) mkLeaf) mkLeaf)) mkLeaf) (kcast (by kernel_rfl) h)

/-! trystlaw25_LogsBegin -/
def trystlaw25_LogsBegin.c1 (R : Value → World → Prop) (have0 : Sl) (c1 : Int) (body2 : Int) (next11 : Sl) (w : World) : Prop :=
  CallsV Try.prog n_logs_Want #[.slice next11.a next11.len next11.cap, .slice have0.a have0.len have0.cap] w (fun v_1 w1 =>
  ∃ x_2 : Int, ∃ x_3 : Int, ∃ x_4 : Int, ∃ b_5 : Bool, v_1 = .tuple #[.agg #[.int .i64 x_2, .int .i64 x_3, .int .i64 x_4], .bool b_5] ∧
  let w2 := w1.alloc (.cells #[.int .i64 0, .int .i64 0, .int .i64 0] 32);
  (∀ j, j < 3 → Wr w2 ((newA w1).add j)) ∧
  (let w3 := setCells (newA w1) [.int .i64 x_2, .int .i64 x_3, .int .i64 x_4] 0 w2;
  ∃ S_6 : World → Prop, S_6 w3.drew ∧
  cond b_5
  (∃ x_7 : Int, (∀ x, S_6 x → x.cell? (newA w1) = some (.int .i64 x_7)) ∧
  cond ((x_7 : Int) == c1)
  (∃ x_8 : Int, (∀ x, S_6 x → x.cell? ((newA w1).add 1) = some (.int .i64 x_8)) ∧
  0 ≤ (c1 : Int) ∧ c1 < ((have0.len : Nat) : Int) ∧ ∃ q_9 : Addr, have0.a = some q_9 ∧
  ∃ x_10 : Int, (∀ x, S_6 x → x.cell? (q_9.add (c1 : Int).toNat) = some (.int .i64 x_10)) ∧
  cond ((x_8 : Int) == (IntKind.i64.wrap (x_10 + 1)))
  (∃ x_11 : Int, (∀ x, S_6 x → x.cell? ((newA w1).add 2) = some (.int .i64 x_11)) ∧
  cond ((x_11 : Int) == body2)
  (CallsV Try.prog n_trystlaw25_wakes #[] w3.drew (fun v_12 w4 =>
  ∃ b_13 : Bool, v_12 = .bool b_13 ∧
  R (.bool b_13) w4))
  (R (.bool false) w3.drew))
  (R (.bool false) w3.drew))
  (R (.bool false) w3.drew))
  (R (.bool false) w3.drew)))

def trystlaw25_LogsBegin.c2 (R : Value → World → Prop) (have0 : Sl) (c1 : Int) (body2 : Int) (l7 : Sl) (next11 : Sl) (w : World) : Prop :=
  0 ≤ (c1 : Int) ∧ c1 < ((have0.len : Nat) : Int) ∧ ∃ q_14 : Addr, have0.a = some q_14 ∧
  ∃ x_15 : Int, w.cell? (q_14.add (c1 : Int).toNat) = some (.int .i64 x_15) ∧
  cond (decide ((x_15 : Int) > 0))
  (0 ≤ (c1 : Int) ∧ c1 < ((have0.len : Nat) : Int) ∧ ∃ q_16 : Addr, have0.a = some q_16 ∧
  ∃ x_17 : Int, w.cell? (q_16.add (c1 : Int).toNat) = some (.int .i64 x_17) ∧
  CallsV Try.prog n_logs_Put #[.slice l7.a l7.len l7.cap, .agg #[.int .i64 c1, .int .i64 x_17, .int .i64 body2]] w (fun v_18 w5 =>
  ∃ (a_19 : Option Addr) (l_20 c_21 : Nat), ∃ b_22 : Bool, ∃ x_23 : Int, v_18 = .tuple #[.slice a_19 l_20 c_21, .bool b_22, .int .i64 x_23] ∧
  cond ((x_23 : Int) != 0)
  (R (.bool false) w5)
  (cond b_22
  (R (.bool false) w5)
  (CallsV Try.prog n_trystkeep_Logs #[.slice a_19 l_20 c_21, .slice l7.a l7.len l7.cap] w5 (fun v_24 w6 =>
  ∃ b_25 : Bool, v_24 = .bool b_25 ∧
  cond (!b_25)
  (R (.bool false) w6)
  (trystlaw25_LogsBegin.c1 R have0 c1 body2 next11 w6))))))
  (trystlaw25_LogsBegin.c1 R have0 c1 body2 next11 w)

def trystlaw25_LogsBegin.c3 (R : Value → World → Prop) (have0 : Sl) (c1 : Int) (body2 : Int) (l7 : Sl) (w : World) : Prop :=
  CallsV Try.prog n_logs_Want #[.slice l7.a l7.len l7.cap, .slice have0.a have0.len have0.cap] w (fun v_26 w7 =>
  ∃ x_27 : Int, ∃ x_28 : Int, ∃ x_29 : Int, ∃ b_30 : Bool, v_26 = .tuple #[.agg #[.int .i64 x_27, .int .i64 x_28, .int .i64 x_29], .bool b_30] ∧
  let w8 := w7.alloc (.cells #[.int .i64 0, .int .i64 0, .int .i64 0] 32);
  (∀ j, j < 3 → Wr w8 ((newA w7).add j)) ∧
  (let w9 := setCells (newA w7) [.int .i64 x_27, .int .i64 x_28, .int .i64 x_29] 0 w8;
  cond b_30
  (R (.bool false) w9)
  ((8 : Int) ≠ 0 ∧
  (1048577 : Int) ≠ 0 ∧
  (let c1_30 : Int := (IntKind.i64.wrap (Int.tmod (IntKind.u64.wrap c1) 8));
  (let body2_31 : Int := (IntKind.i64.wrap (Int.tmod (IntKind.u64.wrap body2) 1048577));
  0 ≤ (c1_30 : Int) ∧ c1_30 < ((have0.len : Nat) : Int) ∧ ∃ q_33 : Addr, have0.a = some q_33 ∧
  ∃ x_34 : Int, w9.cell? (q_33.add (c1_30 : Int).toNat) = some (.int .i64 x_34) ∧
  CallsV Try.prog n_logs_Put #[.slice l7.a l7.len l7.cap, .agg #[.int .i64 c1_30, .int .i64 (IntKind.i64.wrap (x_34 + 1)), .int .i64 body2_31]] w9 (fun v_35 w10 =>
  ∃ (a_36 : Option Addr) (l_37 c_38 : Nat), ∃ b_39 : Bool, ∃ x_40 : Int, v_35 = .tuple #[.slice a_36 l_37 c_38, .bool b_39, .int .i64 x_40] ∧
  0 ≤ (c1_30 : Int) ∧ c1_30 < ((have0.len : Nat) : Int) ∧ ∃ q_41 : Addr, have0.a = some q_41 ∧
  ∃ x_42 : Int, w10.cell? (q_41.add (c1_30 : Int).toNat) = some (.int .i64 x_42) ∧
  cond ((x_42 : Int) == 1073741824)
  (CallsV Try.prog n_trystlaw25_wakes #[] w10 (fun v_43 w11 =>
  ∃ b_44 : Bool, v_43 = .bool b_44 ∧
  R (.bool b_44) w11))
  (0 ≤ (c1_30 : Int) ∧ c1_30 < ((have0.len : Nat) : Int) ∧ ∃ q_45 : Addr, have0.a = some q_45 ∧
  ∃ x_46 : Int, w10.cell? (q_45.add (c1_30 : Int).toNat) = some (.int .i64 x_46) ∧
  CallsV Try.prog n_logs_Put #[.slice l7.a l7.len l7.cap, .agg #[.int .i64 c1_30, .int .i64 (IntKind.i64.wrap (x_46 + 2)), .int .i64 body2_31]] w10 (fun v_47 w12 =>
  ∃ (a_48 : Option Addr) (l_49 c_50 : Nat), ∃ b_51 : Bool, ∃ x_52 : Int, v_47 = .tuple #[.slice a_48 l_49 c_50, .bool b_51, .int .i64 x_52] ∧
  ∃ S_53 : World → Prop, S_53 w12.drew ∧
  cond ((x_40 : Int) != 0)
  (R (.bool false) w12.drew)
  (cond (!b_39)
  (R (.bool false) w12.drew)
  (cond ((x_52 : Int) != 14)
  (R (.bool false) w12.drew)
  (0 ≤ (c1_30 : Int) ∧ c1_30 < ((have0.len : Nat) : Int) ∧ ∃ q_54 : Addr, have0.a = some q_54 ∧
  ∃ x_55 : Int, (∀ x, S_53 x → x.cell? (q_54.add (c1_30 : Int).toNat) = some (.int .i64 x_55)) ∧
  CallsV Try.prog n_logs_Have #[.slice a_36 l_37 c_38] w12.drew (fun v_56 w13 =>
  ∃ (a_57 : Option Addr) (l_58 c_59 : Nat), v_56 = .slice a_57 l_58 c_59 ∧
  ∃ S_60 : World → Prop, (∀ x, S_60 x → S_53 x) ∧ S_60 w13 ∧
  0 ≤ (c1_30 : Int) ∧ c1_30 < ((l_58 : Nat) : Int) ∧ ∃ q_61 : Addr, a_57 = some q_61 ∧
  ∃ x_62 : Int, (∀ x, S_60 x → x.cell? (q_61.add (c1_30 : Int).toNat) = some (.int .i64 x_62)) ∧
  cond ((x_62 : Int) != (IntKind.i64.wrap (x_55 + 1)))
  (R (.bool false) w13)
  (trystlaw25_LogsBegin.c2 R have0 c1_30 body2_31 l7 ⟨a_36, l_37, c_38⟩ w13)))))))))))))

def trystlaw25_LogsBegin.main (R : Value → World → Prop) (have0 : Sl) (c1 : Int) (body2 : Int) (w : World) : Prop :=
  cond (decide ((((have0.len : Nat) : Int) : Int) > 50))
  (R (.bool true) w)
  (CallsV Try.prog n_logs_From #[.slice have0.a have0.len have0.cap] w (fun v_63 w14 =>
  ∃ (a_64 : Option Addr) (l_65 c_66 : Nat), ∃ x_67 : Int, v_63 = .tuple #[.slice a_64 l_65 c_66, .int .i64 x_67] ∧
  cond ((x_67 : Int) != 0)
  (cond ((x_67 : Int) == 1)
  (cond ((((l_65 : Nat) : Int) : Int) == 0)
  (CallsV Try.prog n_trystlaw25_wakes #[] w14 (fun v_68 w15 =>
  ∃ b_69 : Bool, v_68 = .bool b_69 ∧
  R (.bool b_69) w15))
  (R (.bool false) w14))
  (R (.bool false) w14))
  (cond ((((have0.len : Nat) : Int) : Int) != 8)
  (R (.bool false) w14)
  (CallsV Try.prog n_logs_Have #[.slice a_64 l_65 c_66] w14 (fun v_70 w16 =>
  ∃ (a_71 : Option Addr) (l_72 c_73 : Nat), v_70 = .slice a_71 l_72 c_73 ∧
  CallsV Try.prog n_trystkeep_Ints #[.slice a_71 l_72 c_73, .slice have0.a have0.len have0.cap] w16 (fun v_74 w17 =>
  ∃ b_75 : Bool, v_74 = .bool b_75 ∧
  cond (!b_75)
  (R (.bool false) w17)
  (CallsV Try.prog n_logs_Check #[.slice a_64 l_65 c_66] w17 (fun v_76 w18 =>
  ∃ x_77 : Int, v_76 = .int .i64 x_77 ∧
  cond ((x_77 : Int) != 0)
  (R (.bool false) w18)
  (trystlaw25_LogsBegin.c3 R have0 c1 body2 ⟨a_64, l_65, c_66⟩ w18)))))))))

def trystlaw25_LogsBegin.J0 (R : Value → World → Prop) (k : Nat) (fr : Fr) (w : World) : Prop :=
  cond (Nat.beq k 3) (dec [(0, .slice), (1, (.int .i64)), (2, (.int .i64)), (7, .slice)] fr fun x => trystlaw25_LogsBegin.c3 R x.1 x.2.1 x.2.2.1 x.2.2.2 w) (cond (Nat.beq k 2) (dec [(0, .slice), (1, (.int .i64)), (2, (.int .i64)), (7, .slice), (11, .slice)] fr fun x => trystlaw25_LogsBegin.c2 R x.1 x.2.1 x.2.2.1 x.2.2.2.1 x.2.2.2.2 w) (cond (Nat.beq k 1) (dec [(0, .slice), (1, (.int .i64)), (2, (.int .i64)), (11, .slice)] fr fun x => trystlaw25_LogsBegin.c1 R x.1 x.2.1 x.2.2.1 x.2.2.2 w) (False)))

set_option maxRecDepth 100000 in
theorem trystlaw25_LogsBegin.lift {R : Value → World → Prop} {have0 : Sl} {c1 : Int} {body2 : Int} {w : World} (h : trystlaw25_LogsBegin.main R have0 c1 body2 w) : CallsV Try.prog n_trystlaw25_LogsBegin #[.slice have0.a have0.len have0.cap, .int .i64 c1, .int .i64 body2] w R :=
  liftCalls (c := (.seq (.leaf (cL (bd Try.f6))) (.seq (.seq (.leaf (cL (cL (cR (bd Try.f6))))) (.cnd (.tmp 23) (.seq (.leaf (cL (cT (cR (cL (cR (bd Try.f6))))))) (.leaf (cR (cT (cR (cL (cR (bd Try.f6)))))))) (.leaf (cE (cR (cL (cR (bd Try.f6)))))))) (.seq (.leaf (cL (cR (cR (bd Try.f6))))) (.seq (.seq (.leaf (cL (cL (cR (cR (cR (bd Try.f6))))))) (.cnd (.tmp 30) (.seq (.leaf (cL (cT (cR (cL (cR (cR (cR (bd Try.f6))))))))) (.leaf (cR (cT (cR (cL (cR (cR (cR (bd Try.f6)))))))))) (.leaf (cE (cR (cL (cR (cR (cR (bd Try.f6)))))))))) (.seq (.seq (.leaf (cL (cL (cR (cR (cR (cR (bd Try.f6)))))))) (.cnd (.tmp 55) (.seq (.leaf (cL (cT (cR (cL (cR (cR (cR (cR (bd Try.f6)))))))))) (.leaf (cR (cT (cR (cL (cR (cR (cR (cR (bd Try.f6))))))))))) (.leaf (cE (cR (cL (cR (cR (cR (cR (bd Try.f6))))))))))) (.cut 3 (.seq (.seq (.leaf (cL (cL (cR (cR (cR (cR (cR (bd Try.f6))))))))) (.seq (.leaf (cL (cR (cL (cR (cR (cR (cR (cR (bd Try.f6)))))))))) (.cnd (.tmp 62) (.seq (.leaf (cL (cT (cR (cR (cL (cR (cR (cR (cR (cR (bd Try.f6)))))))))))) (.leaf (cR (cT (cR (cR (cL (cR (cR (cR (cR (cR (bd Try.f6))))))))))))) (.leaf (cE (cR (cR (cL (cR (cR (cR (cR (cR (bd Try.f6)))))))))))))) (.seq (.leaf (cL (cR (cR (cR (cR (cR (cR (bd Try.f6))))))))) (.seq (.leaf (cL (cR (cR (cR (cR (cR (cR (cR (bd Try.f6)))))))))) (.seq (.seq (.leaf (cL (cL (cR (cR (cR (cR (cR (cR (cR (cR (bd Try.f6)))))))))))) (.cnd (.tmp 89) (.seq (.leaf (cL (cT (cR (cL (cR (cR (cR (cR (cR (cR (cR (cR (bd Try.f6)))))))))))))) (.leaf (cR (cT (cR (cL (cR (cR (cR (cR (cR (cR (cR (cR (bd Try.f6))))))))))))))) (.leaf (cE (cR (cL (cR (cR (cR (cR (cR (cR (cR (cR (bd Try.f6))))))))))))))) (.seq (.leaf (cL (cR (cR (cR (cR (cR (cR (cR (cR (cR (bd Try.f6)))))))))))) (.seq (.seq (.leaf (cL (cL (cR (cR (cR (cR (cR (cR (cR (cR (cR (cR (bd Try.f6)))))))))))))) (.cnd (.tmp 127) (.seq (.leaf (cL (cT (cR (cL (cR (cR (cR (cR (cR (cR (cR (cR (cR (cR (bd Try.f6)))))))))))))))) (.leaf (cR (cT (cR (cL (cR (cR (cR (cR (cR (cR (cR (cR (cR (cR (bd Try.f6))))))))))))))))) (.leaf (cE (cR (cL (cR (cR (cR (cR (cR (cR (cR (cR (cR (cR (bd Try.f6))))))))))))))))) (.cut 2 (.seq (.seq (.leaf (cL (cL (cR (cR (cR (cR (cR (cR (cR (cR (cR (cR (cR (bd Try.f6))))))))))))))) (.cnd (.tmp 132) (.seq (.leaf (cL (cT (cR (cL (cR (cR (cR (cR (cR (cR (cR (cR (cR (cR (cR (bd Try.f6))))))))))))))))) (.seq (.leaf (cL (cR (cT (cR (cL (cR (cR (cR (cR (cR (cR (cR (cR (cR (cR (cR (bd Try.f6)))))))))))))))))) (.cnd (.tmp 156) (.seq (.leaf (cL (cT (cR (cR (cT (cR (cL (cR (cR (cR (cR (cR (cR (cR (cR (cR (cR (cR (bd Try.f6)))))))))))))))))))) (.leaf (cR (cT (cR (cR (cT (cR (cL (cR (cR (cR (cR (cR (cR (cR (cR (cR (cR (cR (bd Try.f6))))))))))))))))))))) (.leaf (cE (cR (cR (cT (cR (cL (cR (cR (cR (cR (cR (cR (cR (cR (cR (cR (cR (bd Try.f6)))))))))))))))))))))) (.leaf (cE (cR (cL (cR (cR (cR (cR (cR (cR (cR (cR (cR (cR (cR (bd Try.f6)))))))))))))))))) (.cut 1 (.seq (.leaf (cL (cR (cR (cR (cR (cR (cR (cR (cR (cR (cR (cR (cR (bd Try.f6))))))))))))))) (.seq (.leaf (cL (cR (cR (cR (cR (cR (cR (cR (cR (cR (cR (cR (cR (cR (bd Try.f6)))))))))))))))) (.leaf (cR (cR (cR (cR (cR (cR (cR (cR (cR (cR (cR (cR (cR (cR (bd Try.f6)))))))))))))))))))))))))))))))))) (J := trystlaw25_LogsBegin.J0 R) LfYtcegohgmagppbaa.mixed Try.func6 (by kernel_rfl) (by kernel_rfl) (mkSeq (mkSeq (mkSeq (mkSeq (mkSeq (mkCut (cutDef [(0, .slice), (1, (.int .i64)), (2, (.int .i64)), (7, .slice)] (fun x w => trystlaw25_LogsBegin.c3 R x.1 x.2.1 x.2.2.1 x.2.2.2 w) (fun _ _ => by kernel_rfl) (fun _ _ => by kernel_rfl)) (mkSeq (mkSeq (mkSeq (mkSeq (mkSeq (mkSeq (mkCut (cutDef [(0, .slice), (1, (.int .i64)), (2, (.int .i64)), (7, .slice), (11, .slice)] (fun x w => trystlaw25_LogsBegin.c2 R x.1 x.2.1 x.2.2.1 x.2.2.2.1 x.2.2.2.2 w) (fun _ _ => by kernel_rfl) (fun _ _ => by kernel_rfl)) (mkSeq (mkCut (cutDef [(0, .slice), (1, (.int .i64)), (2, (.int .i64)), (11, .slice)] (fun x w => trystlaw25_LogsBegin.c1 R x.1 x.2.1 x.2.2.1 x.2.2.2 w) (fun _ _ => by kernel_rfl) (fun _ _ => by kernel_rfl)) (mkSeq (mkSeq mkLeaf mkLeaf) mkLeaf)) (mkSeq (mkCnd (mkSeq (mkSeq (mkCnd (mkSeq mkLeaf mkLeaf) mkLeaf) mkLeaf) mkLeaf) mkLeaf) mkLeaf))) (mkSeq (mkCnd (mkSeq mkLeaf mkLeaf) mkLeaf) mkLeaf)) mkLeaf) (mkSeq (mkCnd (mkSeq mkLeaf mkLeaf) mkLeaf) mkLeaf)) mkLeaf) mkLeaf) (mkSeq (mkSeq (mkCnd (mkSeq mkLeaf mkLeaf) mkLeaf) mkLeaf) mkLeaf))) (mkSeq (mkCnd (mkSeq mkLeaf mkLeaf) mkLeaf) mkLeaf)) (mkSeq (mkCnd (mkSeq mkLeaf mkLeaf) mkLeaf) mkLeaf)) mkLeaf) (mkSeq (mkCnd (mkSeq mkLeaf mkLeaf) mkLeaf) mkLeaf)) mkLeaf) (kcast (by kernel_rfl) h)

/-! trystlaw25_LogsExact -/
def trystlaw25_LogsExact.c1 (R : Value → World → Prop) (l0 : Sl) (have2 : Sl) (in7 : Sl) (h8 : Sl) (w : World) : Prop :=
  CallsV Try.prog n_trystkeep_Logs #[.slice in7.a in7.len in7.cap, .slice l0.a l0.len l0.cap] w (fun v_1 w1 =>
  ∃ b_2 : Bool, v_1 = .bool b_2 ∧
  cond b_2
  (CallsV Try.prog n_trystkeep_Ints #[.slice h8.a h8.len h8.cap, .slice have2.a have2.len have2.cap] w1 (fun v_3 w2 =>
  ∃ b_4 : Bool, v_3 = .bool b_4 ∧
  cond b_4
  (CallsV Try.prog n_trystlaw25_wakes #[] w2 (fun v_5 w3 =>
  ∃ b_6 : Bool, v_5 = .bool b_6 ∧
  R (.bool b_6) w3))
  (R (.bool false) w2)))
  (R (.bool false) w1))

def trystlaw25_LogsExact.c2 (R : Value → World → Prop) (l0 : Sl) (have2 : Sl) (in7 : Sl) (h8 : Sl) (w : World) : Prop :=
  CallsV Try.prog n_logs_From #[.slice h8.a h8.len h8.cap] w (fun v_7 w4 =>
  ∃ (a_8 : Option Addr) (l_9 c_10 : Nat), ∃ x_11 : Int, v_7 = .tuple #[.slice a_8 l_9 c_10, .int .i64 x_11] ∧
  CallsV Try.prog n_trystref22_From #[.slice have2.a have2.len have2.cap] w4 (fun v_12 w5 =>
  ∃ (a_13 : Option Addr) (l_14 c_15 : Nat), ∃ x_16 : Int, v_12 = .tuple #[.slice a_13 l_14 c_15, .int .i64 x_16] ∧
  CallsV Try.prog n_trystkeep_Logs #[.slice a_8 l_9 c_10, .slice a_13 l_14 c_15] w5 (fun v_17 w6 =>
  ∃ b_18 : Bool, v_17 = .bool b_18 ∧
  cond (!b_18)
  (R (.bool false) w6)
  (cond ((x_11 : Int) != x_16)
  (R (.bool false) w6)
  (trystlaw25_LogsExact.c1 R l0 have2 in7 h8 w6)))))

def trystlaw25_LogsExact.c3 (R : Value → World → Prop) (l0 : Sl) (have2 : Sl) (in7 : Sl) (h8 : Sl) (a9 : Sl) (w : World) : Prop :=
  CallsV Try.prog n_trystkeep_SpoilLogs #[.slice a9.a a9.len a9.cap] w (fun v_19 w7 =>
  v_19 = .tuple #[] ∧
  CallsV Try.prog n_logs_Want #[.slice in7.a in7.len in7.cap, .slice h8.a h8.len h8.cap] w7 (fun v_20 w8 =>
  ∃ x_21 : Int, ∃ x_22 : Int, ∃ x_23 : Int, ∃ b_24 : Bool, v_20 = .tuple #[.agg #[.int .i64 x_21, .int .i64 x_22, .int .i64 x_23], .bool b_24] ∧
  let w9 := w8.alloc (.cells #[.int .i64 0, .int .i64 0, .int .i64 0] 32);
  (∀ j, j < 3 → Wr w9 ((newA w8).add j)) ∧
  (let w10 := setCells (newA w8) [.int .i64 x_21, .int .i64 x_22, .int .i64 x_23] 0 w9;
  CallsV Try.prog n_trystref22_Want #[.slice l0.a l0.len l0.cap, .slice have2.a have2.len have2.cap] w10 (fun v_25 w11 =>
  ∃ x_26 : Int, ∃ x_27 : Int, ∃ x_28 : Int, ∃ b_29 : Bool, v_25 = .tuple #[.agg #[.int .i64 x_26, .int .i64 x_27, .int .i64 x_28], .bool b_29] ∧
  let w12 := w11.alloc (.cells #[.int .i64 0, .int .i64 0, .int .i64 0] 32);
  (∀ j, j < 3 → Wr w12 ((newA w11).add j)) ∧
  (let w13 := setCells (newA w11) [.int .i64 x_26, .int .i64 x_27, .int .i64 x_28] 0 w12;
  ∃ x_30 : Int, w13.cell? (newA w8) = some (.int .i64 x_30) ∧
  ∃ x_31 : Int, w13.cell? ((newA w8).add 1) = some (.int .i64 x_31) ∧
  ∃ x_32 : Int, w13.cell? ((newA w8).add 2) = some (.int .i64 x_32) ∧
  ∃ x_33 : Int, w13.cell? (newA w11) = some (.int .i64 x_33) ∧
  ∃ x_34 : Int, w13.cell? ((newA w11).add 1) = some (.int .i64 x_34) ∧
  ∃ x_35 : Int, w13.cell? ((newA w11).add 2) = some (.int .i64 x_35) ∧
  CallsV Try.prog n_trystkeep_Msg #[.agg #[.int .i64 x_30, .int .i64 x_31, .int .i64 x_32], .agg #[.int .i64 x_33, .int .i64 x_34, .int .i64 x_35]] w13 (fun v_36 w14 =>
  ∃ b_37 : Bool, v_36 = .bool b_37 ∧
  cond (!b_37)
  (R (.bool false) w14)
  (cond (!(b_24 == b_29))
  (R (.bool false) w14)
  (trystlaw25_LogsExact.c2 R l0 have2 in7 h8 w14))))))))

def trystlaw25_LogsExact.c4 (R : Value → World → Prop) (l0 : Sl) (have2 : Sl) (m4 : Addr) (in7 : Sl) (h8 : Sl) (a9 : Sl) (w : World) : Prop :=
  CallsV Try.prog n_trystkeep_SpoilLogs #[.slice a9.a a9.len a9.cap] w (fun v_38 w15 =>
  v_38 = .tuple #[] ∧
  ∃ x_39 : Int, w15.cell? m4 = some (.int .i64 x_39) ∧
  ∃ x_40 : Int, w15.cell? (m4.add 1) = some (.int .i64 x_40) ∧
  ∃ x_41 : Int, w15.cell? (m4.add 2) = some (.int .i64 x_41) ∧
  CallsV Try.prog n_logs_Put #[.slice in7.a in7.len in7.cap, .agg #[.int .i64 x_39, .int .i64 x_40, .int .i64 x_41]] w15 (fun v_42 w16 =>
  ∃ (a_43 : Option Addr) (l_44 c_45 : Nat), ∃ b_46 : Bool, ∃ x_47 : Int, v_42 = .tuple #[.slice a_43 l_44 c_45, .bool b_46, .int .i64 x_47] ∧
  ∃ x_48 : Int, w16.cell? m4 = some (.int .i64 x_48) ∧
  ∃ x_49 : Int, w16.cell? (m4.add 1) = some (.int .i64 x_49) ∧
  ∃ x_50 : Int, w16.cell? (m4.add 2) = some (.int .i64 x_50) ∧
  CallsV Try.prog n_trystref22_Put #[.slice l0.a l0.len l0.cap, .agg #[.int .i64 x_48, .int .i64 x_49, .int .i64 x_50]] w16 (fun v_51 w17 =>
  ∃ (a_52 : Option Addr) (l_53 c_54 : Nat), ∃ b_55 : Bool, ∃ x_56 : Int, v_51 = .tuple #[.slice a_52 l_53 c_54, .bool b_55, .int .i64 x_56] ∧
  CallsV Try.prog n_trystkeep_Logs #[.slice a_43 l_44 c_45, .slice a_52 l_53 c_54] w17 (fun v_57 w18 =>
  ∃ b_58 : Bool, v_57 = .bool b_58 ∧
  cond (!b_58)
  (R (.bool false) w18)
  (cond (!(b_46 == b_55))
  (R (.bool false) w18)
  (cond ((x_47 : Int) != x_56)
  (R (.bool false) w18)
  (trystlaw25_LogsExact.c3 R l0 have2 in7 h8 ⟨a_43, l_44, c_45⟩ w18)))))))

def trystlaw25_LogsExact.c5 (R : Value → World → Prop) (l0 : Sl) (have2 : Sl) (m4 : Addr) (in7 : Sl) (h8 : Sl) (w : World) : Prop :=
  ∃ x_59 : Int, w.cell? m4 = some (.int .i64 x_59) ∧
  ∃ x_60 : Int, w.cell? (m4.add 2) = some (.int .i64 x_60) ∧
  CallsV Try.prog n_logs_Say #[.slice in7.a in7.len in7.cap, .int .i64 x_59, .int .i64 x_60] w (fun v_61 w19 =>
  ∃ (a_62 : Option Addr) (l_63 c_64 : Nat), ∃ x_65 : Int, ∃ x_66 : Int, v_61 = .tuple #[.slice a_62 l_63 c_64, .int .i64 x_65, .int .i64 x_66] ∧
  ∃ x_67 : Int, w19.cell? m4 = some (.int .i64 x_67) ∧
  ∃ x_68 : Int, w19.cell? (m4.add 2) = some (.int .i64 x_68) ∧
  CallsV Try.prog n_trystref22_Say #[.slice l0.a l0.len l0.cap, .int .i64 x_67, .int .i64 x_68] w19 (fun v_69 w20 =>
  ∃ (a_70 : Option Addr) (l_71 c_72 : Nat), ∃ x_73 : Int, ∃ x_74 : Int, v_69 = .tuple #[.slice a_70 l_71 c_72, .int .i64 x_73, .int .i64 x_74] ∧
  CallsV Try.prog n_trystkeep_Logs #[.slice a_62 l_63 c_64, .slice a_70 l_71 c_72] w20 (fun v_75 w21 =>
  ∃ b_76 : Bool, v_75 = .bool b_76 ∧
  cond (!b_76)
  (R (.bool false) w21)
  (cond ((x_65 : Int) != x_73)
  (R (.bool false) w21)
  (cond ((x_66 : Int) != x_74)
  (R (.bool false) w21)
  (trystlaw25_LogsExact.c4 R l0 have2 m4 in7 h8 ⟨a_62, l_63, c_64⟩ w21))))))

def trystlaw25_LogsExact.c6 (R : Value → World → Prop) (l0 : Sl) (have2 : Sl) (m4 : Addr) (w : World) : Prop :=
  CallsV Try.prog n_trystkeep_TwinLogs #[.slice l0.a l0.len l0.cap] w (fun v_77 w22 =>
  ∃ (a_78 : Option Addr) (l_79 c_80 : Nat), v_77 = .slice a_78 l_79 c_80 ∧
  CallsV Try.prog n_trystkeep_TwinInts #[.slice have2.a have2.len have2.cap] w22 (fun v_81 w23 =>
  ∃ (a_82 : Option Addr) (l_83 c_84 : Nat), v_81 = .slice a_82 l_83 c_84 ∧
  CallsV Try.prog n_logs_Check #[.slice a_78 l_79 c_80] w23 (fun v_85 w24 =>
  ∃ x_86 : Int, v_85 = .int .i64 x_86 ∧
  CallsV Try.prog n_trystref22_Logs #[.slice l0.a l0.len l0.cap] w24 (fun v_87 w25 =>
  ∃ b_88 : Bool, v_87 = .bool b_88 ∧
  cond (!(((x_86 : Int) == 0) == b_88))
  (R (.bool false) w25)
  (CallsV Try.prog n_trystref22_Logs #[.slice l0.a l0.len l0.cap] w25 (fun v_89 w26 =>
  ∃ b_90 : Bool, v_89 = .bool b_90 ∧
  cond (!b_90)
  (CallsV Try.prog n_logs_Check #[.slice a_78 l_79 c_80] w26 (fun v_91 w27 =>
  ∃ x_92 : Int, v_91 = .int .i64 x_92 ∧
  cond ((x_92 : Int) != 1)
  (R (.bool false) w27)
  (CallsV Try.prog n_logs_Have #[.slice a_78 l_79 c_80] w27 (fun v_93 w28 =>
  ∃ (a_94 : Option Addr) (l_95 c_96 : Nat), v_93 = .slice a_94 l_95 c_96 ∧
  CallsV Try.prog n_trystref22_Have #[.slice l0.a l0.len l0.cap] w28 (fun v_97 w29 =>
  ∃ (a_98 : Option Addr) (l_99 c_100 : Nat), v_97 = .slice a_98 l_99 c_100 ∧
  CallsV Try.prog n_trystkeep_Ints #[.slice a_94 l_95 c_96, .slice a_98 l_99 c_100] w29 (fun v_101 w30 =>
  ∃ b_102 : Bool, v_101 = .bool b_102 ∧
  cond (!b_102)
  (R (.bool false) w30)
  (trystlaw25_LogsExact.c5 R l0 have2 m4 ⟨a_78, l_79, c_80⟩ ⟨a_82, l_83, c_84⟩ w30)))))))
  (CallsV Try.prog n_logs_Have #[.slice a_78 l_79 c_80] w26 (fun v_103 w31 =>
  ∃ (a_104 : Option Addr) (l_105 c_106 : Nat), v_103 = .slice a_104 l_105 c_106 ∧
  CallsV Try.prog n_trystref22_Have #[.slice l0.a l0.len l0.cap] w31 (fun v_107 w32 =>
  ∃ (a_108 : Option Addr) (l_109 c_110 : Nat), v_107 = .slice a_108 l_109 c_110 ∧
  CallsV Try.prog n_trystkeep_Ints #[.slice a_104 l_105 c_106, .slice a_108 l_109 c_110] w32 (fun v_111 w33 =>
  ∃ b_112 : Bool, v_111 = .bool b_112 ∧
  cond (!b_112)
  (R (.bool false) w33)
  (trystlaw25_LogsExact.c5 R l0 have2 m4 ⟨a_78, l_79, c_80⟩ ⟨a_82, l_83, c_84⟩ w33)))))))))))

def trystlaw25_LogsExact.main (R : Value → World → Prop) (l0 : Sl) (m1_0 : Int) (m1_1 : Int) (m1_2 : Int) (have2 : Sl) (w : World) : Prop :=
  let w34 := w.alloc (.cells #[.int .i64 m1_0, .int .i64 m1_1, .int .i64 m1_2] 32);
  CallsV Try.prog n_trystlaw25_Heavy #[.slice l0.a l0.len l0.cap] w34 (fun v_113 w35 =>
  ∃ b_114 : Bool, v_113 = .bool b_114 ∧
  cond b_114
  (R (.bool true) w35)
  (cond (decide ((((have2.len : Nat) : Int) : Int) > 50))
  (R (.bool true) w35)
  (trystlaw25_LogsExact.c6 R l0 have2 (newA w) w35)))

def trystlaw25_LogsExact.J0 (R : Value → World → Prop) (k : Nat) (fr : Fr) (w : World) : Prop :=
  cond (Nat.beq k 6) (dec [(0, .slice), (2, .slice), (4, .addr)] fr fun x => trystlaw25_LogsExact.c6 R x.1 x.2.1 x.2.2 w) (cond (Nat.beq k 5) (dec [(0, .slice), (2, .slice), (4, .addr), (7, .slice), (8, .slice)] fr fun x => trystlaw25_LogsExact.c5 R x.1 x.2.1 x.2.2.1 x.2.2.2.1 x.2.2.2.2 w) (cond (Nat.beq k 4) (dec [(0, .slice), (2, .slice), (4, .addr), (7, .slice), (8, .slice), (9, .slice)] fr fun x => trystlaw25_LogsExact.c4 R x.1 x.2.1 x.2.2.1 x.2.2.2.1 x.2.2.2.2.1 x.2.2.2.2.2 w) (cond (Nat.beq k 3) (dec [(0, .slice), (2, .slice), (7, .slice), (8, .slice), (9, .slice)] fr fun x => trystlaw25_LogsExact.c3 R x.1 x.2.1 x.2.2.1 x.2.2.2.1 x.2.2.2.2 w) (cond (Nat.beq k 2) (dec [(0, .slice), (2, .slice), (7, .slice), (8, .slice)] fr fun x => trystlaw25_LogsExact.c2 R x.1 x.2.1 x.2.2.1 x.2.2.2 w) (cond (Nat.beq k 1) (dec [(0, .slice), (2, .slice), (7, .slice), (8, .slice)] fr fun x => trystlaw25_LogsExact.c1 R x.1 x.2.1 x.2.2.1 x.2.2.2 w) (False))))))

set_option maxRecDepth 100000 in
theorem trystlaw25_LogsExact.lift {R : Value → World → Prop} {l0 : Sl} {m1_0 : Int} {m1_1 : Int} {m1_2 : Int} {have2 : Sl} {w : World} (h : trystlaw25_LogsExact.main R l0 m1_0 m1_1 m1_2 have2 w) : CallsV Try.prog n_trystlaw25_LogsExact #[.slice l0.a l0.len l0.cap, .agg #[.int .i64 m1_0, .int .i64 m1_1, .int .i64 m1_2], .slice have2.a have2.len have2.cap] w R :=
  liftCalls (c := (.seq (.leaf (cL (bd Try.f7))) (.seq (.seq (.leaf (cL (cL (cR (bd Try.f7))))) (.cnd (.tmp 25) (.seq (.leaf (cL (cT (cR (cL (cR (bd Try.f7))))))) (.leaf (cR (cT (cR (cL (cR (bd Try.f7)))))))) (.leaf (cE (cR (cL (cR (bd Try.f7)))))))) (.cut 6 (.seq (.leaf (cL (cR (cR (bd Try.f7))))) (.seq (.seq (.leaf (cL (cL (cR (cR (cR (bd Try.f7))))))) (.cnd (.tmp 53) (.seq (.leaf (cL (cT (cR (cL (cR (cR (cR (bd Try.f7))))))))) (.leaf (cR (cT (cR (cL (cR (cR (cR (bd Try.f7)))))))))) (.leaf (cE (cR (cL (cR (cR (cR (bd Try.f7)))))))))) (.cut 5 (.seq (.leaf (cL (cR (cR (cR (cR (bd Try.f7))))))) (.seq (.leaf (cL (cR (cR (cR (cR (cR (bd Try.f7)))))))) (.seq (.seq (.leaf (cL (cL (cR (cR (cR (cR (cR (cR (bd Try.f7)))))))))) (.cnd (.tmp 87) (.seq (.leaf (cL (cT (cR (cL (cR (cR (cR (cR (cR (cR (bd Try.f7)))))))))))) (.leaf (cR (cT (cR (cL (cR (cR (cR (cR (cR (cR (bd Try.f7))))))))))))) (.leaf (cE (cR (cL (cR (cR (cR (cR (cR (cR (bd Try.f7))))))))))))) (.cut 4 (.seq (.leaf (cL (cR (cR (cR (cR (cR (cR (cR (bd Try.f7)))))))))) (.seq (.leaf (cL (cR (cR (cR (cR (cR (cR (cR (cR (bd Try.f7))))))))))) (.seq (.leaf (cL (cR (cR (cR (cR (cR (cR (cR (cR (cR (bd Try.f7)))))))))))) (.seq (.seq (.leaf (cL (cL (cR (cR (cR (cR (cR (cR (cR (cR (cR (cR (bd Try.f7)))))))))))))) (.cnd (.tmp 117) (.seq (.leaf (cL (cT (cR (cL (cR (cR (cR (cR (cR (cR (cR (cR (cR (cR (bd Try.f7)))))))))))))))) (.leaf (cR (cT (cR (cL (cR (cR (cR (cR (cR (cR (cR (cR (cR (cR (bd Try.f7))))))))))))))))) (.leaf (cE (cR (cL (cR (cR (cR (cR (cR (cR (cR (cR (cR (cR (bd Try.f7))))))))))))))))) (.cut 3 (.seq (.leaf (cL (cR (cR (cR (cR (cR (cR (cR (cR (cR (cR (cR (bd Try.f7)))))))))))))) (.seq (.leaf (cL (cR (cR (cR (cR (cR (cR (cR (cR (cR (cR (cR (cR (bd Try.f7))))))))))))))) (.seq (.leaf (cL (cR (cR (cR (cR (cR (cR (cR (cR (cR (cR (cR (cR (cR (bd Try.f7)))))))))))))))) (.seq (.seq (.leaf (cL (cL (cR (cR (cR (cR (cR (cR (cR (cR (cR (cR (cR (cR (cR (cR (bd Try.f7)))))))))))))))))) (.cnd (.tmp 140) (.seq (.leaf (cL (cT (cR (cL (cR (cR (cR (cR (cR (cR (cR (cR (cR (cR (cR (cR (cR (cR (bd Try.f7)))))))))))))))))))) (.leaf (cR (cT (cR (cL (cR (cR (cR (cR (cR (cR (cR (cR (cR (cR (cR (cR (cR (cR (bd Try.f7))))))))))))))))))))) (.leaf (cE (cR (cL (cR (cR (cR (cR (cR (cR (cR (cR (cR (cR (cR (cR (cR (cR (bd Try.f7))))))))))))))))))))) (.cut 2 (.seq (.leaf (cL (cR (cR (cR (cR (cR (cR (cR (cR (cR (cR (cR (cR (cR (cR (cR (bd Try.f7)))))))))))))))))) (.seq (.leaf (cL (cR (cR (cR (cR (cR (cR (cR (cR (cR (cR (cR (cR (cR (cR (cR (cR (bd Try.f7))))))))))))))))))) (.seq (.seq (.leaf (cL (cL (cR (cR (cR (cR (cR (cR (cR (cR (cR (cR (cR (cR (cR (cR (cR (cR (cR (bd Try.f7))))))))))))))))))))) (.cnd (.tmp 159) (.seq (.leaf (cL (cT (cR (cL (cR (cR (cR (cR (cR (cR (cR (cR (cR (cR (cR (cR (cR (cR (cR (cR (cR (bd Try.f7))))))))))))))))))))))) (.leaf (cR (cT (cR (cL (cR (cR (cR (cR (cR (cR (cR (cR (cR (cR (cR (cR (cR (cR (cR (cR (cR (bd Try.f7)))))))))))))))))))))))) (.leaf (cE (cR (cL (cR (cR (cR (cR (cR (cR (cR (cR (cR (cR (cR (cR (cR (cR (cR (cR (cR (bd Try.f7)))))))))))))))))))))))) (.cut 1 (.seq (.leaf (cL (cR (cR (cR (cR (cR (cR (cR (cR (cR (cR (cR (cR (cR (cR (cR (cR (cR (cR (bd Try.f7))))))))))))))))))))) (.leaf (cR (cR (cR (cR (cR (cR (cR (cR (cR (cR (cR (cR (cR (cR (cR (cR (cR (cR (cR (bd Try.f7))))))))))))))))))))))))))))))))))))))))))))))) (J := trystlaw25_LogsExact.J0 R) LfYtcegohgmagppbaa.mixed Try.func7 (by kernel_rfl) (by kernel_rfl) (mkSeq (mkSeq (mkCut (cutDef [(0, .slice), (2, .slice), (4, .addr)] (fun x w => trystlaw25_LogsExact.c6 R x.1 x.2.1 x.2.2 w) (fun _ _ => by kernel_rfl) (fun _ _ => by kernel_rfl)) (mkSeq (mkSeq (mkCut (cutDef [(0, .slice), (2, .slice), (4, .addr), (7, .slice), (8, .slice)] (fun x w => trystlaw25_LogsExact.c5 R x.1 x.2.1 x.2.2.1 x.2.2.2.1 x.2.2.2.2 w) (fun _ _ => by kernel_rfl) (fun _ _ => by kernel_rfl)) (mkSeq (mkSeq (mkSeq (mkCut (cutDef [(0, .slice), (2, .slice), (4, .addr), (7, .slice), (8, .slice), (9, .slice)] (fun x w => trystlaw25_LogsExact.c4 R x.1 x.2.1 x.2.2.1 x.2.2.2.1 x.2.2.2.2.1 x.2.2.2.2.2 w) (fun _ _ => by kernel_rfl) (fun _ _ => by kernel_rfl)) (mkSeq (mkSeq (mkSeq (mkSeq (mkCut (cutDef [(0, .slice), (2, .slice), (7, .slice), (8, .slice), (9, .slice)] (fun x w => trystlaw25_LogsExact.c3 R x.1 x.2.1 x.2.2.1 x.2.2.2.1 x.2.2.2.2 w) (fun _ _ => by kernel_rfl) (fun _ _ => by kernel_rfl)) (mkSeq (mkSeq (mkSeq (mkSeq (mkCut (cutDef [(0, .slice), (2, .slice), (7, .slice), (8, .slice)] (fun x w => trystlaw25_LogsExact.c2 R x.1 x.2.1 x.2.2.1 x.2.2.2 w) (fun _ _ => by kernel_rfl) (fun _ _ => by kernel_rfl)) (mkSeq (mkSeq (mkSeq (mkCut (cutDef [(0, .slice), (2, .slice), (7, .slice), (8, .slice)] (fun x w => trystlaw25_LogsExact.c1 R x.1 x.2.1 x.2.2.1 x.2.2.2 w) (fun _ _ => by kernel_rfl) (fun _ _ => by kernel_rfl)) (mkSeq mkLeaf mkLeaf)) (mkSeq (mkCnd (mkSeq mkLeaf mkLeaf) mkLeaf) mkLeaf)) mkLeaf) mkLeaf)) (mkSeq (mkCnd (mkSeq mkLeaf mkLeaf) mkLeaf) mkLeaf)) mkLeaf) mkLeaf) mkLeaf)) (mkSeq (mkCnd (mkSeq mkLeaf mkLeaf) mkLeaf) mkLeaf)) mkLeaf) mkLeaf) mkLeaf)) (mkSeq (mkCnd (mkSeq mkLeaf mkLeaf) mkLeaf) mkLeaf)) mkLeaf) mkLeaf)) (mkSeq (mkCnd (mkSeq mkLeaf mkLeaf) mkLeaf) mkLeaf)) mkLeaf)) (mkSeq (mkCnd (mkSeq mkLeaf mkLeaf) mkLeaf) mkLeaf)) mkLeaf) (kcast (by kernel_rfl) h)

end Go.Proofs.Ytcegohgmagppbaa
