/-
  What the code of these functions comes to, and that it suffices for the call. Written by a program of ours, for this claim.
-/
import Derived.Test.YtoclhecldmahiaaDoorTmFns
set_option linter.unusedVariables false
set_option linter.unusedVariables false
namespace Go.Proofs.YtoclhecldmahiaaDoor
open Go.Lf
abbrev n_ratchet_New : Nat := 75
abbrev n_ratchet_Send : Nat := 76
abbrev n_ratchet_Take : Nat := 77
abbrev n_ratchet_Check : Nat := 78
abbrev n_trystlaw19_wakes : Nat := 79
abbrev n_ratchet_wrong : Nat := 123
abbrev n_ratchet_turn : Nat := 124
abbrev n_slices_Clone_Key : Nat := 125
abbrev n_ratchet_old : Nat := 126
abbrev n_slices_ContainsFunc_Key : Nat := 146
abbrev n_ratchet_wrong_1 : Nat := 147
abbrev n_slices_IndexFunc_Key : Nat := 148
abbrev n_ratchet_old_1 : Nat := 149
abbrev n_slices_Delete_Key : Nat := 150
/-! ratchet_New -/
def ratchet_New.main (R : Value → World → Prop) (chain0 : Int) (w : World) : Prop :=
  let w1 := w.alloc (.cells #[.int .i64 0, .int .i64 0, .slice none 0 0] 104);
  (∀ j, j < 3 → Wr w1 ((newA w).add j)) ∧
  (let w2 := setCells (newA w) [.int .i64 chain0, .int .i64 0, .slice none 0 0] 0 w1;
  ∃ x_1 : Int, w2.cell? (newA w) = some (.int .i64 x_1) ∧
  ∃ x_2 : Int, w2.cell? ((newA w).add 1) = some (.int .i64 x_2) ∧
  ∃ (a_3 : Option Addr) (l_4 c_5 : Nat), w2.cell? ((newA w).add 2) = some (.slice a_3 l_4 c_5) ∧
  R (.agg #[.int .i64 x_1, .int .i64 x_2, .slice a_3 l_4 c_5]) w2)

def ratchet_New.J0 (_ : Value → World → Prop) (_ : Nat) (_ : Fr) (_ : World) : Prop := False

set_option maxRecDepth 100000 in
theorem ratchet_New.lift {R : Value → World → Prop} {chain0 : Int} {w : World} (h : ratchet_New.main R chain0 w) : CallsV Tryd.prog n_ratchet_New #[.int .i64 chain0] w R :=
  liftCalls (c := (.seq (.leaf (cL (bd Tryd.f75))) (.seq (.leaf (cL (cR (bd Tryd.f75)))) (.leaf (cR (cR (bd Tryd.f75))))))) (J := ratchet_New.J0 R) LfYtoclhecldmahiaaDoor.mixed Tryd.func75 (by kernel_rfl) (by kernel_rfl) (mkSeq (mkSeq mkLeaf mkLeaf) mkLeaf) (kcast (by kernel_rfl) h)

/-! ratchet_Send -/
def ratchet_Send.main (R : Value → World → Prop) (a0 : Option Addr) (r1_0 : Int) (r1_1 : Int) (r1_2 : Sl) (w : World) : Prop :=
  let w1 := w.alloc (.cells #[.int .i64 r1_0, .int .i64 r1_1, .slice r1_2.a r1_2.len r1_2.cap] 104);
  let w2 := w1.alloc (.cells #[.int .i64 0, .int .i64 0, .slice none 0 0] 104);
  ∃ x_1 : Int, w2.cell? (newA w) = some (.int .i64 x_1) ∧
  ∃ x_2 : Int, w2.cell? ((newA w).add 1) = some (.int .i64 x_2) ∧
  ∃ (a_3 : Option Addr) (l_4 c_5 : Nat), w2.cell? ((newA w).add 2) = some (.slice a_3 l_4 c_5) ∧
  CallsV Tryd.prog n_ratchet_wrong #[.pointer a0, .agg #[.int .i64 x_1, .int .i64 x_2, .slice a_3 l_4 c_5]] w2 (fun v_6 w3 =>
  ∃ x_7 : Int, v_6 = .int .i64 x_7 ∧
  cond ((x_7 : Int) != 0)
  ((∀ j, j < 3 → Wr w3 ((newA w1).add j)) ∧
  (let w4 := setCells (newA w1) [.int .i64 0, .int .i64 0, .slice none 0 0] 0 w3;
  ∃ x_8 : Int, w4.cell? (newA w1) = some (.int .i64 x_8) ∧
  ∃ x_9 : Int, w4.cell? ((newA w1).add 1) = some (.int .i64 x_9) ∧
  ∃ (a_10 : Option Addr) (l_11 c_12 : Nat), w4.cell? ((newA w1).add 2) = some (.slice a_10 l_11 c_12) ∧
  R (.tuple #[.int .i64 0, .int .i64 0, .agg #[.int .i64 x_8, .int .i64 x_9, .slice a_10 l_11 c_12], .int .i64 x_7]) w4))
  (∃ x_13 : Int, w3.cell? ((newA w).add 1) = some (.int .i64 x_13) ∧
  (let t16_13 : Bool := ((x_13 : Int) == 1073741824);
  cond t16_13
  ((∀ j, j < 3 → Wr w3 ((newA w1).add j)) ∧
  (let w5 := setCells (newA w1) [.int .i64 0, .int .i64 0, .slice none 0 0] 0 w3;
  ∃ x_15 : Int, w5.cell? (newA w1) = some (.int .i64 x_15) ∧
  ∃ x_16 : Int, w5.cell? ((newA w1).add 1) = some (.int .i64 x_16) ∧
  ∃ (a_17 : Option Addr) (l_18 c_19 : Nat), w5.cell? ((newA w1).add 2) = some (.slice a_17 l_18 c_19) ∧
  R (.tuple #[.int .i64 0, .int .i64 0, .agg #[.int .i64 x_15, .int .i64 x_16, .slice a_17 l_18 c_19], .int .i64 20]) w5))
  (∃ x_20 : Int, w3.cell? ((newA w).add 1) = some (.int .i64 x_20) ∧
  ∃ x_21 : Int, w3.cell? (newA w) = some (.int .i64 x_21) ∧
  ∃ x_22 : Int, w3.cell? ((newA w).add 1) = some (.int .i64 x_22) ∧
  ∃ (a_23 : Option Addr) (l_24 c_25 : Nat), w3.cell? ((newA w).add 2) = some (.slice a_23 l_24 c_25) ∧
  CallsV Tryd.prog n_ratchet_turn #[.pointer a0, .agg #[.int .i64 x_21, .int .i64 x_22, .slice a_23 l_24 c_25]] w3 (fun v_26 w6 =>
  ∃ x_27 : Int, ∃ x_28 : Int, ∃ x_29 : Int, ∃ (a_30 : Option Addr) (l_31 c_32 : Nat), ∃ x_33 : Int, v_26 = .tuple #[.int .i64 x_27, .agg #[.int .i64 x_28, .int .i64 x_29, .slice a_30 l_31 c_32], .int .i64 x_33] ∧
  (∀ j, j < 3 → Wr w6 ((newA w1).add j)) ∧
  (let w7 := setCells (newA w1) [.int .i64 x_28, .int .i64 x_29, .slice a_30 l_31 c_32] 0 w6;
  cond ((x_33 : Int) != 0)
  ((∀ j, j < 3 → Wr w7 ((newA w1).add j)) ∧
  (let w8 := setCells (newA w1) [.int .i64 0, .int .i64 0, .slice none 0 0] 0 w7;
  ∃ x_34 : Int, w8.cell? (newA w1) = some (.int .i64 x_34) ∧
  ∃ x_35 : Int, w8.cell? ((newA w1).add 1) = some (.int .i64 x_35) ∧
  ∃ (a_36 : Option Addr) (l_37 c_38 : Nat), w8.cell? ((newA w1).add 2) = some (.slice a_36 l_37 c_38) ∧
  R (.tuple #[.int .i64 0, .int .i64 0, .agg #[.int .i64 x_34, .int .i64 x_35, .slice a_36 l_37 c_38], .int .i64 x_33]) w8))
  (∃ (a_39 : Option Addr) (l_40 c_41 : Nat), w7.cell? ((newA w1).add 2) = some (.slice a_39 l_40 c_41) ∧
  CallsV Tryd.prog n_slices_Clone_Key #[.slice a_39 l_40 c_41] w7 (fun v_42 w9 =>
  ∃ (a_43 : Option Addr) (l_44 c_45 : Nat), v_42 = .slice a_43 l_44 c_45 ∧
  Wr w9 ((newA w1).add 2) ∧
  (let w10 := w9.setCell ((newA w1).add 2) (.slice a_43 l_44 c_45);
  ∃ S_46 : World → Prop, S_46 w10.drew ∧
  ∃ x_47 : Int, (∀ x, S_46 x → x.cell? (newA w1) = some (.int .i64 x_47)) ∧
  ∃ x_48 : Int, (∀ x, S_46 x → x.cell? ((newA w1).add 1) = some (.int .i64 x_48)) ∧
  ∃ (a_49 : Option Addr) (l_50 c_51 : Nat), (∀ x, S_46 x → x.cell? ((newA w1).add 2) = some (.slice a_49 l_50 c_51)) ∧
  (∀ j, j < 3 → Wr w10.drew ((newA w1).add j)) ∧
  (let w11 := setCells (newA w1) [.int .i64 x_47, .int .i64 x_48, .slice a_49 l_50 c_51] 0 w10.drew;
  ∃ x_52 : Int, w11.cell? (newA w1) = some (.int .i64 x_52) ∧
  ∃ x_53 : Int, w11.cell? ((newA w1).add 1) = some (.int .i64 x_53) ∧
  ∃ (a_54 : Option Addr) (l_55 c_56 : Nat), w11.cell? ((newA w1).add 2) = some (.slice a_54 l_55 c_56) ∧
  R (.tuple #[.int .i64 x_27, .int .i64 x_20, .agg #[.int .i64 x_52, .int .i64 x_53, .slice a_54 l_55 c_56], .int .i64 0]) w11))))))))))

def ratchet_Send.J0 (_ : Value → World → Prop) (_ : Nat) (_ : Fr) (_ : World) : Prop := False

set_option maxRecDepth 100000 in
theorem ratchet_Send.lift {R : Value → World → Prop} {a0 : Option Addr} {r1_0 : Int} {r1_1 : Int} {r1_2 : Sl} {w : World} (h : ratchet_Send.main R a0 r1_0 r1_1 r1_2 w) : CallsV Tryd.prog n_ratchet_Send #[.pointer a0, .agg #[.int .i64 r1_0, .int .i64 r1_1, .slice r1_2.a r1_2.len r1_2.cap]] w R :=
  liftCalls (c := (.seq (.leaf (cL (bd Tryd.f76))) (.seq (.leaf (cL (cR (bd Tryd.f76)))) (.seq (.block 0 (.seq (.leaf (cL (cB (cL (cR (cR (bd Tryd.f76))))))) (.cnd (.tmp 11) (.seq (.leaf (cL (cT (cR (cB (cL (cR (cR (bd Tryd.f76))))))))) (.leaf (cR (cT (cR (cB (cL (cR (cR (bd Tryd.f76)))))))))) (.seq (.leaf (cL (cE (cR (cB (cL (cR (cR (bd Tryd.f76))))))))) (.cnd (.tmp 16) (.seq (.leaf (cL (cT (cR (cE (cR (cB (cL (cR (cR (bd Tryd.f76))))))))))) (.leaf (cR (cT (cR (cE (cR (cB (cL (cR (cR (bd Tryd.f76)))))))))))) (.leaf (cE (cR (cE (cR (cB (cL (cR (cR (bd Tryd.f76))))))))))))))) (.seq (.leaf (cL (cR (cR (cR (bd Tryd.f76)))))) (.seq (.leaf (cL (cR (cR (cR (cR (bd Tryd.f76))))))) (.seq (.seq (.leaf (cL (cL (cR (cR (cR (cR (cR (bd Tryd.f76))))))))) (.cnd (.tmp 31) (.seq (.leaf (cL (cT (cR (cL (cR (cR (cR (cR (cR (bd Tryd.f76))))))))))) (.leaf (cR (cT (cR (cL (cR (cR (cR (cR (cR (bd Tryd.f76)))))))))))) (.leaf (cE (cR (cL (cR (cR (cR (cR (cR (bd Tryd.f76)))))))))))) (.seq (.leaf (cL (cR (cR (cR (cR (cR (cR (bd Tryd.f76))))))))) (.seq (.leaf (cL (cR (cR (cR (cR (cR (cR (cR (bd Tryd.f76)))))))))) (.leaf (cR (cR (cR (cR (cR (cR (cR (cR (bd Tryd.f76))))))))))))))))))) (J := ratchet_Send.J0 R) LfYtoclhecldmahiaaDoor.mixed Tryd.func76 (by kernel_rfl) (by kernel_rfl) (mkSeq (mkSeq (mkSeq (mkSeq (mkSeq (mkSeq (mkSeq (mkSeq mkLeaf mkLeaf) mkLeaf) (mkSeq (mkCnd (mkSeq mkLeaf mkLeaf) mkLeaf) mkLeaf)) mkLeaf) mkLeaf) (mkBlock (mkSeq (mkCnd (mkSeq mkLeaf mkLeaf) (mkSeq (mkCnd (mkSeq mkLeaf mkLeaf) mkLeaf) mkLeaf)) mkLeaf))) mkLeaf) mkLeaf) (kcast (by kernel_rfl) h)

/-! ratchet_Take -/
def ratchet_Take.c1 (R : Value → World → Prop) (r4 : Addr) (key6 : Int) (s7 : Addr) (skipped9 : Sl) (w : World) : Prop :=
  0 ≤ ((if 0 > (IntKind.i64.wrap (((skipped9.len : Nat) : Int) - 16)) then 0 else (IntKind.i64.wrap (((skipped9.len : Nat) : Int) - 16))) : Int) ∧ ((if 0 > (IntKind.i64.wrap (((skipped9.len : Nat) : Int) - 16)) then 0 else (IntKind.i64.wrap (((skipped9.len : Nat) : Int) - 16))) : Int) ≤ ((skipped9.len : Nat) : Int) ∧ (((skipped9.len : Nat) : Int) : Int) ≤ ((skipped9.cap : Nat) : Int) ∧ (((skipped9.cap : Nat) : Int) : Int) ≤ ((skipped9.cap : Nat) : Int) ∧
  CallsV Tryd.prog n_slices_Clone_Key #[.slice (if ((((skipped9.cap : Nat) : Int) : Int)).toNat = (((if 0 > (IntKind.i64.wrap (((skipped9.len : Nat) : Int) - 16)) then 0 else (IntKind.i64.wrap (((skipped9.len : Nat) : Int) - 16))) : Int)).toNat then skipped9.a else (skipped9.a).map (·.add ((((if 0 > (IntKind.i64.wrap (((skipped9.len : Nat) : Int) - 16)) then 0 else (IntKind.i64.wrap (((skipped9.len : Nat) : Int) - 16))) : Int)).toNat * 2))) (((((skipped9.len : Nat) : Int) : Int)).toNat - (((if 0 > (IntKind.i64.wrap (((skipped9.len : Nat) : Int) - 16)) then 0 else (IntKind.i64.wrap (((skipped9.len : Nat) : Int) - 16))) : Int)).toNat) (((((skipped9.cap : Nat) : Int) : Int)).toNat - (((if 0 > (IntKind.i64.wrap (((skipped9.len : Nat) : Int) - 16)) then 0 else (IntKind.i64.wrap (((skipped9.len : Nat) : Int) - 16))) : Int)).toNat)] w (fun v_1 w1 =>
  ∃ (a_2 : Option Addr) (l_3 c_4 : Nat), v_1 = .slice a_2 l_3 c_4 ∧
  Wr w1 (r4.add 2) ∧
  (let w2 := w1.setCell (r4.add 2) (.slice a_2 l_3 c_4);
  ∃ S_5 : World → Prop, S_5 w2.drew ∧
  ∃ x_6 : Int, (∀ x, S_5 x → x.cell? r4 = some (.int .i64 x_6)) ∧
  ∃ x_7 : Int, (∀ x, S_5 x → x.cell? (r4.add 1) = some (.int .i64 x_7)) ∧
  ∃ (a_8 : Option Addr) (l_9 c_10 : Nat), (∀ x, S_5 x → x.cell? (r4.add 2) = some (.slice a_8 l_9 c_10)) ∧
  (∀ j, j < 3 → Wr w2.drew (s7.add j)) ∧
  (let w3 := setCells s7 [.int .i64 x_6, .int .i64 x_7, .slice a_8 l_9 c_10] 0 w2.drew;
  ∃ x_11 : Int, w3.cell? s7 = some (.int .i64 x_11) ∧
  ∃ x_12 : Int, w3.cell? (s7.add 1) = some (.int .i64 x_12) ∧
  ∃ (a_13 : Option Addr) (l_14 c_15 : Nat), w3.cell? (s7.add 2) = some (.slice a_13 l_14 c_15) ∧
  R (.tuple #[.int .i64 key6, .agg #[.int .i64 x_11, .int .i64 x_12, .slice a_13 l_14 c_15], .int .i64 0]) w3)))

def ratchet_Take.b2 (R : Value → World → Prop) (N2 : Option Addr → Int → Addr → Addr → Int → Sl → World → Prop) (a0 : Option Addr) (n2 : Int) (r4 : Addr) (s7 : Addr) (key6 : Int) (skipped9 : Sl) (w : World) : Prop :=
  ∃ x_16 : Int, w.cell? (r4.add 1) = some (.int .i64 x_16) ∧
  cond (decide ((x_16 : Int) ≤ n2))
  (∃ x_17 : Int, w.cell? (r4.add 1) = some (.int .i64 x_17) ∧
  ∃ x_18 : Int, w.cell? r4 = some (.int .i64 x_18) ∧
  ∃ x_19 : Int, w.cell? (r4.add 1) = some (.int .i64 x_19) ∧
  ∃ (a_20 : Option Addr) (l_21 c_22 : Nat), w.cell? (r4.add 2) = some (.slice a_20 l_21 c_22) ∧
  CallsV Tryd.prog n_ratchet_turn #[.pointer a0, .agg #[.int .i64 x_18, .int .i64 x_19, .slice a_20 l_21 c_22]] w (fun v_23 w4 =>
  ∃ x_24 : Int, ∃ x_25 : Int, ∃ x_26 : Int, ∃ (a_27 : Option Addr) (l_28 c_29 : Nat), ∃ x_30 : Int, v_23 = .tuple #[.int .i64 x_24, .agg #[.int .i64 x_25, .int .i64 x_26, .slice a_27 l_28 c_29], .int .i64 x_30] ∧
  (∀ j, j < 3 → Wr w4 (r4.add j)) ∧
  (let w5 := setCells r4 [.int .i64 x_25, .int .i64 x_26, .slice a_27 l_28 c_29] 0 w4;
  cond ((x_30 : Int) != 0)
  ((∀ j, j < 3 → Wr w5 (s7.add j)) ∧
  (let w6 := setCells s7 [.int .i64 0, .int .i64 0, .slice none 0 0] 0 w5;
  ∃ x_31 : Int, w6.cell? s7 = some (.int .i64 x_31) ∧
  ∃ x_32 : Int, w6.cell? (s7.add 1) = some (.int .i64 x_32) ∧
  ∃ (a_33 : Option Addr) (l_34 c_35 : Nat), w6.cell? (s7.add 2) = some (.slice a_33 l_34 c_35) ∧
  R (.tuple #[.int .i64 0, .agg #[.int .i64 x_31, .int .i64 x_32, .slice a_33 l_34 c_35], .int .i64 x_30]) w6))
  (cond (decide ((x_17 : Int) < n2))
  (let w7 := w5.alloc (.cells #[.int .i64 x_17, .int .i64 x_24] 113);
  ∃ (a_36 : Option Addr) (l_37 c_38 : Nat), ∃ w8 : World, (builtin .append #[102, 102] 102 #[] #[.slice skipped9.a skipped9.len skipped9.cap, .slice (some (newA w5)) 1 1]).run Tryd.prog w7 = .ok (.value (.slice a_36 l_37 c_38)) w8 ∧
  N2 a0 n2 r4 s7 x_24 ⟨a_36, l_37, c_38⟩ w8)
  (N2 a0 n2 r4 s7 x_24 skipped9 w5)))))
  (ratchet_Take.c1 R r4 key6 s7 skipped9 w)

def ratchet_Take.l2 (R : Value → World → Prop) (a0 : Option Addr) (n2 : Int) (r4 : Addr) (s7 : Addr) (key6 : Int) (skipped9 : Sl) (w : World) : Prop :=
  ∃ (I : (Int × Sl) → World → Prop) (μ : (Int × Sl) → World → Nat), I (key6, skipped9) w ∧ ∀ s w, I s w → ratchet_Take.b2 R (fun a0' n2' r4' s7' key6' skipped9' w' => (a0' = a0 ∧ n2' = n2 ∧ r4' = r4 ∧ s7' = s7 ∧ I (key6', skipped9') w') ∧ μ (key6', skipped9') w' < μ s w) a0 n2 r4 s7 s.1 s.2 w

def ratchet_Take.c3 (R : Value → World → Prop) (a0 : Option Addr) (n2 : Int) (r4 : Addr) (key6 : Int) (s7 : Addr) (w : World) : Prop :=
  ∃ (a_39 : Option Addr) (l_40 c_41 : Nat), w.cell? (r4.add 2) = some (.slice a_39 l_40 c_41) ∧
  CallsV Tryd.prog n_slices_Clone_Key #[.slice a_39 l_40 c_41] w (fun v_42 w9 =>
  ∃ (a_43 : Option Addr) (l_44 c_45 : Nat), v_42 = .slice a_43 l_44 c_45 ∧
  ratchet_Take.l2 R a0 n2 r4 s7 key6 ⟨a_43, l_44, c_45⟩ w9)

def ratchet_Take.c4 (R : Value → World → Prop) (s7 : Addr) (w : World) : Prop :=
  (∀ j, j < 3 → Wr w (s7.add j)) ∧
  (let w10 := setCells s7 [.int .i64 0, .int .i64 0, .slice none 0 0] 0 w;
  ∃ x_46 : Int, w10.cell? s7 = some (.int .i64 x_46) ∧
  ∃ x_47 : Int, w10.cell? (s7.add 1) = some (.int .i64 x_47) ∧
  ∃ (a_48 : Option Addr) (l_49 c_50 : Nat), w10.cell? (s7.add 2) = some (.slice a_48 l_49 c_50) ∧
  R (.tuple #[.int .i64 0, .agg #[.int .i64 x_46, .int .i64 x_47, .slice a_48 l_49 c_50], .int .i64 1]) w10)

def ratchet_Take.c5 (R : Value → World → Prop) (a0 : Option Addr) (n2 : Int) (r4 : Addr) (key6 : Int) (s7 : Addr) (w : World) : Prop :=
  ∃ x_51 : Int, w.cell? (r4.add 1) = some (.int .i64 x_51) ∧
  (let t27_51 : Bool := (decide ((n2 : Int) < x_51));
  cond t27_51
  (∃ x_53 : Int, w.cell? r4 = some (.int .i64 x_53) ∧
  ∃ x_54 : Int, w.cell? (r4.add 1) = some (.int .i64 x_54) ∧
  ∃ (a_55 : Option Addr) (l_56 c_57 : Nat), w.cell? (r4.add 2) = some (.slice a_55 l_56 c_57) ∧
  CallsV Tryd.prog n_ratchet_old #[.agg #[.int .i64 x_53, .int .i64 x_54, .slice a_55 l_56 c_57], .int .i64 n2] w (fun v_58 w11 =>
  ∃ x_59 : Int, ∃ x_60 : Int, ∃ x_61 : Int, ∃ (a_62 : Option Addr) (l_63 c_64 : Nat), ∃ x_65 : Int, v_58 = .tuple #[.int .i64 x_59, .agg #[.int .i64 x_60, .int .i64 x_61, .slice a_62 l_63 c_64], .int .i64 x_65] ∧
  (∀ j, j < 3 → Wr w11 (s7.add j)) ∧
  (let w12 := setCells s7 [.int .i64 x_60, .int .i64 x_61, .slice a_62 l_63 c_64] 0 w11;
  ∃ x_66 : Int, w12.cell? s7 = some (.int .i64 x_66) ∧
  ∃ x_67 : Int, w12.cell? (s7.add 1) = some (.int .i64 x_67) ∧
  ∃ (a_68 : Option Addr) (l_69 c_70 : Nat), w12.cell? (s7.add 2) = some (.slice a_68 l_69 c_70) ∧
  R (.tuple #[.int .i64 x_59, .agg #[.int .i64 x_66, .int .i64 x_67, .slice a_68 l_69 c_70], .int .i64 x_65]) w12)))
  (∃ x_71 : Int, w.cell? (r4.add 1) = some (.int .i64 x_71) ∧
  (let t38_71 : Bool := (decide (((IntKind.i64.wrap (n2 - x_71)) : Int) > 200));
  cond t38_71
  ((∀ j, j < 3 → Wr w (s7.add j)) ∧
  (let w13 := setCells s7 [.int .i64 0, .int .i64 0, .slice none 0 0] 0 w;
  ∃ x_73 : Int, w13.cell? s7 = some (.int .i64 x_73) ∧
  ∃ x_74 : Int, w13.cell? (s7.add 1) = some (.int .i64 x_74) ∧
  ∃ (a_75 : Option Addr) (l_76 c_77 : Nat), w13.cell? (s7.add 2) = some (.slice a_75 l_76 c_77) ∧
  R (.tuple #[.int .i64 0, .agg #[.int .i64 x_73, .int .i64 x_74, .slice a_75 l_76 c_77], .int .i64 14]) w13))
  (ratchet_Take.c3 R a0 n2 r4 key6 s7 w))))

def ratchet_Take.main (R : Value → World → Prop) (a0 : Option Addr) (r1_0 : Int) (r1_1 : Int) (r1_2 : Sl) (n2 : Int) (w : World) : Prop :=
  let w14 := w.alloc (.cells #[.int .i64 r1_0, .int .i64 r1_1, .slice r1_2.a r1_2.len r1_2.cap] 104);
  let w15 := w14.alloc (.cells #[.int .i64 0, .int .i64 0, .slice none 0 0] 104);
  ∃ x_78 : Int, w15.cell? (newA w) = some (.int .i64 x_78) ∧
  ∃ x_79 : Int, w15.cell? ((newA w).add 1) = some (.int .i64 x_79) ∧
  ∃ (a_80 : Option Addr) (l_81 c_82 : Nat), w15.cell? ((newA w).add 2) = some (.slice a_80 l_81 c_82) ∧
  CallsV Tryd.prog n_ratchet_wrong #[.pointer a0, .agg #[.int .i64 x_78, .int .i64 x_79, .slice a_80 l_81 c_82]] w15 (fun v_83 w16 =>
  ∃ x_84 : Int, v_83 = .int .i64 x_84 ∧
  cond ((x_84 : Int) != 0)
  ((∀ j, j < 3 → Wr w16 ((newA w14).add j)) ∧
  (let w17 := setCells (newA w14) [.int .i64 0, .int .i64 0, .slice none 0 0] 0 w16;
  ∃ x_85 : Int, w17.cell? (newA w14) = some (.int .i64 x_85) ∧
  ∃ x_86 : Int, w17.cell? ((newA w14).add 1) = some (.int .i64 x_86) ∧
  ∃ (a_87 : Option Addr) (l_88 c_89 : Nat), w17.cell? ((newA w14).add 2) = some (.slice a_87 l_88 c_89) ∧
  R (.tuple #[.int .i64 0, .agg #[.int .i64 x_85, .int .i64 x_86, .slice a_87 l_88 c_89], .int .i64 x_84]) w17))
  (cond (decide ((n2 : Int) < 0))
  (ratchet_Take.c4 R (newA w14) w16)
  ((let t19_89 : Bool := (decide ((n2 : Int) ≥ 1073741824));
  cond t19_89
  (ratchet_Take.c4 R (newA w14) w16)
  (ratchet_Take.c5 R a0 n2 (newA w) 0 (newA w14) w16)))))

def ratchet_Take.J0 (R : Value → World → Prop) (k : Nat) (fr : Fr) (w : World) : Prop :=
  cond (Nat.beq k 4) (dec [(7, .addr)] fr fun x => ratchet_Take.c4 R x w) (cond (Nat.beq k 5) (dec [(0, .ptr), (2, (.int .i64)), (4, .addr), (6, (.int .i64)), (7, .addr)] fr fun x => ratchet_Take.c5 R x.1 x.2.1 x.2.2.1 x.2.2.2.1 x.2.2.2.2 w) (cond (Nat.beq k 3) (dec [(0, .ptr), (2, (.int .i64)), (4, .addr), (6, (.int .i64)), (7, .addr)] fr fun x => ratchet_Take.c3 R x.1 x.2.1 x.2.2.1 x.2.2.2.1 x.2.2.2.2 w) (cond (Nat.beq k 2) (dec [(0, .ptr), (2, (.int .i64)), (4, .addr), (7, .addr), (6, (.int .i64)), (9, .slice)] fr fun x => ratchet_Take.l2 R x.1 x.2.1 x.2.2.1 x.2.2.2.1 x.2.2.2.2.1 x.2.2.2.2.2 w) (cond (Nat.beq k 1) (dec [(4, .addr), (6, (.int .i64)), (7, .addr), (9, .slice)] fr fun x => ratchet_Take.c1 R x.1 x.2.1 x.2.2.1 x.2.2.2 w) (False)))))

set_option maxRecDepth 100000 in
theorem ratchet_Take.lift {R : Value → World → Prop} {a0 : Option Addr} {r1_0 : Int} {r1_1 : Int} {r1_2 : Sl} {n2 : Int} {w : World} (h : ratchet_Take.main R a0 r1_0 r1_1 r1_2 n2 w) : CallsV Tryd.prog n_ratchet_Take #[.pointer a0, .agg #[.int .i64 r1_0, .int .i64 r1_1, .slice r1_2.a r1_2.len r1_2.cap], .int .i64 n2] w R :=
  liftCalls (c := (.seq (.leaf (cL (bd Tryd.f77))) (.seq (.leaf (cL (cR (bd Tryd.f77)))) (.seq (.block 0 (.seq (.leaf (cL (cB (cL (cR (cR (bd Tryd.f77))))))) (.cnd (.tmp 14) (.seq (.leaf (cL (cT (cR (cB (cL (cR (cR (bd Tryd.f77))))))))) (.leaf (cR (cT (cR (cB (cL (cR (cR (bd Tryd.f77)))))))))) (.seq (.leaf (cL (cE (cR (cB (cL (cR (cR (bd Tryd.f77))))))))) (.cnd (.tmp 19) (.cut 4 (.seq (.leaf (cL (cT (cR (cE (cR (cB (cL (cR (cR (bd Tryd.f77))))))))))) (.leaf (cR (cT (cR (cE (cR (cB (cL (cR (cR (bd Tryd.f77))))))))))))) (.cut 5 (.seq (.leaf (cL (cE (cR (cE (cR (cB (cL (cR (cR (bd Tryd.f77))))))))))) (.cnd (.tmp 27) (.seq (.leaf (cL (cT (cR (cE (cR (cE (cR (cB (cL (cR (cR (bd Tryd.f77))))))))))))) (.leaf (cR (cT (cR (cE (cR (cE (cR (cB (cL (cR (cR (bd Tryd.f77)))))))))))))) (.seq (.leaf (cL (cE (cR (cE (cR (cE (cR (cB (cL (cR (cR (bd Tryd.f77))))))))))))) (.cnd (.tmp 38) (.seq (.leaf (cL (cT (cR (cE (cR (cE (cR (cE (cR (cB (cL (cR (cR (bd Tryd.f77))))))))))))))) (.leaf (cR (cT (cR (cE (cR (cE (cR (cE (cR (cB (cL (cR (cR (bd Tryd.f77)))))))))))))))) (.leaf (cE (cR (cE (cR (cE (cR (cE (cR (cB (cL (cR (cR (bd Tryd.f77)))))))))))))))))))))))) (.cut 3 (.seq (.leaf (cL (cR (cR (cR (bd Tryd.f77)))))) (.seq (.block 1 (.loop 2 (.seq (.seq (.leaf (cL (cL (cB (cB (cL (cR (cR (cR (cR (bd Tryd.f77))))))))))) (.cnd (.tmp 51) (.leaf (cT (cR (cL (cB (cB (cL (cR (cR (cR (cR (bd Tryd.f77)))))))))))) (.leaf (cE (cR (cL (cB (cB (cL (cR (cR (cR (cR (bd Tryd.f77)))))))))))))) (.block 2 (.seq (.leaf (cL (cB (cR (cB (cB (cL (cR (cR (cR (cR (bd Tryd.f77)))))))))))) (.seq (.leaf (cL (cR (cB (cR (cB (cB (cL (cR (cR (cR (cR (bd Tryd.f77))))))))))))) (.seq (.seq (.leaf (cL (cL (cR (cR (cB (cR (cB (cB (cL (cR (cR (cR (cR (bd Tryd.f77))))))))))))))) (.cnd (.tmp 62) (.seq (.leaf (cL (cT (cR (cL (cR (cR (cB (cR (cB (cB (cL (cR (cR (cR (cR (bd Tryd.f77))))))))))))))))) (.leaf (cR (cT (cR (cL (cR (cR (cB (cR (cB (cB (cL (cR (cR (cR (cR (bd Tryd.f77)))))))))))))))))) (.leaf (cE (cR (cL (cR (cR (cB (cR (cB (cB (cL (cR (cR (cR (cR (bd Tryd.f77)))))))))))))))))) (.seq (.leaf (cL (cR (cR (cR (cB (cR (cB (cB (cL (cR (cR (cR (cR (bd Tryd.f77))))))))))))))) (.cnd (.tmp 67) (.leaf (cT (cR (cR (cR (cR (cB (cR (cB (cB (cL (cR (cR (cR (cR (bd Tryd.f77)))))))))))))))) (.leaf (cE (cR (cR (cR (cR (cB (cR (cB (cB (cL (cR (cR (cR (cR (bd Tryd.f77))))))))))))))))))))))))) (.cut 1 (.seq (.leaf (cL (cR (cR (cR (cR (cR (bd Tryd.f77)))))))) (.seq (.leaf (cL (cR (cR (cR (cR (cR (cR (bd Tryd.f77))))))))) (.leaf (cR (cR (cR (cR (cR (cR (cR (bd Tryd.f77))))))))))))))))))) (J := ratchet_Take.J0 R) LfYtoclhecldmahiaaDoor.mixed Tryd.func77 (by kernel_rfl) (by kernel_rfl) (mkSeq (mkSeq (mkSeq (mkCut (cutDef [(0, .ptr), (2, (.int .i64)), (4, .addr), (6, (.int .i64)), (7, .addr)] (fun x w => ratchet_Take.c3 R x.1 x.2.1 x.2.2.1 x.2.2.2.1 x.2.2.2.2 w) (fun _ _ => by kernel_rfl) (fun _ _ => by kernel_rfl)) (mkSeq (mkSeq (mkCut (cutDef [(4, .addr), (6, (.int .i64)), (7, .addr), (9, .slice)] (fun x w => ratchet_Take.c1 R x.1 x.2.1 x.2.2.1 x.2.2.2 w) (fun _ _ => by kernel_rfl) (fun _ _ => by kernel_rfl)) (mkSeq (mkSeq mkLeaf mkLeaf) mkLeaf)) (mkBlock (mkLoop (loopDef LfYtoclhecldmahiaaDoor.mixed [(0, .ptr), (2, (.int .i64)), (4, .addr), (7, .addr), (6, (.int .i64)), (9, .slice)] (by kernel_rfl) (fun M2 x w => ratchet_Take.b2 R (fun y0 y1 y2 y3 y4 y5 w => M2 (y0, y1, y2, y3, y4, y5) w) x.1 x.2.1 x.2.2.1 x.2.2.2.1 x.2.2.2.2.1 x.2.2.2.2.2 w) (fun M2 => fun _ _ _ => False) (fun _ _ _ => by kernel_rfl) (fun M2 => (mkSeq (mkBlock (mkSeq (mkSeq (mkSeq (mkSeq (mkCnd mkLeaf mkLeaf) mkLeaf) (mkSeq (mkCnd (mkSeq mkLeaf mkLeaf) mkLeaf) mkLeaf)) mkLeaf) mkLeaf)) (mkSeq (mkCnd mkLeaf mkLeaf) mkLeaf))) (fun x w => ratchet_Take.l2 R x.1 x.2.1 x.2.2.1 x.2.2.2.1 x.2.2.2.2.1 x.2.2.2.2.2 w) (by rintro ⟨c0, c1, c2, c3, s0⟩ w ⟨I, μ, h0, h1⟩; refine ⟨fun y w => y.1 = c0 ∧ y.2.1 = c1 ∧ y.2.2.1 = c2 ∧ y.2.2.2.1 = c3 ∧ I y.2.2.2.2 w, fun y w => μ y.2.2.2.2 w, ⟨rfl, rfl, rfl, rfl, h0⟩, ?_⟩; rintro ⟨d0, d1, d2, d3, t0⟩ w ⟨e0, e1, e2, e3, hI⟩; dsimp only at e0 e1 e2 e3 hI; subst e0; subst e1; subst e2; subst e3; exact h1 _ _ hI) (fun _ _ => by kernel_rfl))))) mkLeaf)) (mkBlock (mkSeq (mkCnd (mkSeq mkLeaf mkLeaf) (mkSeq (mkCnd (mkCut (cutDef [(7, .addr)] (fun x w => ratchet_Take.c4 R x w) (fun _ _ => by kernel_rfl) (fun _ _ => by kernel_rfl)) (mkSeq mkLeaf mkLeaf)) (mkCut (cutDef [(0, .ptr), (2, (.int .i64)), (4, .addr), (6, (.int .i64)), (7, .addr)] (fun x w => ratchet_Take.c5 R x.1 x.2.1 x.2.2.1 x.2.2.2.1 x.2.2.2.2 w) (fun _ _ => by kernel_rfl) (fun _ _ => by kernel_rfl)) (mkSeq (mkCnd (mkSeq mkLeaf mkLeaf) (mkSeq (mkCnd (mkSeq mkLeaf mkLeaf) mkLeaf) mkLeaf)) mkLeaf))) mkLeaf)) mkLeaf))) mkLeaf) mkLeaf) (kcast (by kernel_rfl) h)

/-! ratchet_Check -/
def ratchet_Check.c2 (R : Value → World → Prop) (N1 : Addr → Sl → Int → Int → Int → World → Prop) (r1 : Addr) (k5 : Addr) (t21 : Sl) (t22 : Int) (t23 : Int) (w : World) : Prop :=
  ∃ x_1 : Int, w.cell? k5 = some (.int .i64 x_1) ∧
  N1 r1 t21 t22 x_1 (IntKind.i64.wrap (t23 + 1)) w

def ratchet_Check.b1 (R : Value → World → Prop) (N1 : Addr → Sl → Int → Int → Int → World → Prop) (r1 : Addr) (t21 : Sl) (t22 : Int) (was3 : Int) (t23 : Int) (w : World) : Prop :=
  cond (decide ((t23 : Int) < t22))
  (0 ≤ (t23 : Int) ∧ t23 < ((t21.len : Nat) : Int) ∧ ∃ q_2 : Addr, t21.a = some q_2 ∧
  ∃ x_3 : Int, w.cell? (q_2.add ((t23 : Int).toNat * 2)) = some (.int .i64 x_3) ∧
  ∃ x_4 : Int, w.cell? ((q_2.add ((t23 : Int).toNat * 2)).add 1) = some (.int .i64 x_4) ∧
  let w1 := w.alloc (.cells #[.int .i64 0, .int .i64 0] 113);
  (∀ j, j < 2 → Wr w1 ((newA w).add j)) ∧
  (let w2 := setCells (newA w) [.int .i64 x_3, .int .i64 x_4] 0 w1;
  ∃ x_5 : Int, w2.cell? (newA w) = some (.int .i64 x_5) ∧
  cond (decide ((x_5 : Int) ≤ was3))
  (R (.int .i64 1) w2)
  (∃ x_6 : Int, w2.cell? (newA w) = some (.int .i64 x_6) ∧
  ∃ x_7 : Int, w2.cell? (r1.add 1) = some (.int .i64 x_7) ∧
  cond (decide ((x_6 : Int) ≥ x_7))
  (R (.int .i64 1) w2)
  (ratchet_Check.c2 R N1 r1 (newA w) t21 t22 t23 w2))))
  (R (.int .i64 0) w)

def ratchet_Check.l1 (R : Value → World → Prop) (r1 : Addr) (t21 : Sl) (t22 : Int) (was3 : Int) (t23 : Int) (w : World) : Prop :=
  ∃ (I : (Int × Int) → World → Prop) (μ : (Int × Int) → World → Nat), I (was3, t23) w ∧ ∀ s w, I s w → ratchet_Check.b1 R (fun r1' t21' t22' was3' t23' w' => (r1' = r1 ∧ t21' = t21 ∧ t22' = t22 ∧ I (was3', t23') w') ∧ μ (was3', t23') w' < μ s w) r1 t21 t22 s.1 s.2 w

def ratchet_Check.c3 (R : Value → World → Prop) (r1 : Addr) (w : World) : Prop :=
  ∃ (a_8 : Option Addr) (l_9 c_10 : Nat), w.cell? (r1.add 2) = some (.slice a_8 l_9 c_10) ∧
  ratchet_Check.l1 R r1 ⟨a_8, l_9, c_10⟩ ((l_9 : Nat) : Int) (-1) 0 w

def ratchet_Check.main (R : Value → World → Prop) (r0_0 : Int) (r0_1 : Int) (r0_2 : Sl) (w : World) : Prop :=
  let w3 := w.alloc (.cells #[.int .i64 r0_0, .int .i64 r0_1, .slice r0_2.a r0_2.len r0_2.cap] 104);
  ∃ x_11 : Int, w3.cell? ((newA w).add 1) = some (.int .i64 x_11) ∧
  cond (decide ((x_11 : Int) < 0))
  (R (.int .i64 1) w3)
  (∃ x_12 : Int, w3.cell? ((newA w).add 1) = some (.int .i64 x_12) ∧
  cond (decide ((x_12 : Int) > 1073741824))
  (R (.int .i64 1) w3)
  (∃ (a_13 : Option Addr) (l_14 c_15 : Nat), w3.cell? ((newA w).add 2) = some (.slice a_13 l_14 c_15) ∧
  cond (decide ((((l_14 : Nat) : Int) : Int) > 16))
  (R (.int .i64 1) w3)
  (ratchet_Check.c3 R (newA w) w3)))

def ratchet_Check.J1 (R : Value → World → Prop) (N1 : Addr → Sl → Int → Int → Int → World → Prop) (k : Nat) (fr : Fr) (w : World) : Prop :=
  cond (Nat.beq k 2) (dec [(1, .addr), (5, .addr), (21, .slice), (22, (.int .i64)), (23, (.int .i64))] fr fun x => ratchet_Check.c2 R N1 x.1 x.2.1 x.2.2.1 x.2.2.2.1 x.2.2.2.2 w) (False)

def ratchet_Check.J0 (R : Value → World → Prop) (k : Nat) (fr : Fr) (w : World) : Prop :=
  cond (Nat.beq k 3) (dec [(1, .addr)] fr fun x => ratchet_Check.c3 R x w) (cond (Nat.beq k 1) (dec [(1, .addr), (21, .slice), (22, (.int .i64)), (3, (.int .i64)), (23, (.int .i64))] fr fun x => ratchet_Check.l1 R x.1 x.2.1 x.2.2.1 x.2.2.2.1 x.2.2.2.2 w) (False))

set_option maxRecDepth 100000 in
theorem ratchet_Check.lift {R : Value → World → Prop} {r0_0 : Int} {r0_1 : Int} {r0_2 : Sl} {w : World} (h : ratchet_Check.main R r0_0 r0_1 r0_2 w) : CallsV Tryd.prog n_ratchet_Check #[.agg #[.int .i64 r0_0, .int .i64 r0_1, .slice r0_2.a r0_2.len r0_2.cap]] w R :=
  liftCalls (c := (.seq (.leaf (cL (bd Tryd.f78))) (.seq (.seq (.leaf (cL (cL (cR (bd Tryd.f78))))) (.cnd (.tmp 19) (.seq (.leaf (cL (cT (cR (cL (cR (bd Tryd.f78))))))) (.leaf (cR (cT (cR (cL (cR (bd Tryd.f78)))))))) (.leaf (cE (cR (cL (cR (bd Tryd.f78)))))))) (.cut 3 (.seq (.leaf (cL (cR (cR (bd Tryd.f78))))) (.seq (.seq (.leaf (cL (cL (cR (cR (cR (bd Tryd.f78))))))) (.block 0 (.loop 1 (.seq (.leaf (cL (cB (cB (cR (cL (cR (cR (cR (bd Tryd.f78)))))))))) (.seq (.cnd (.tmp 24) (.leaf (cT (cL (cR (cB (cB (cR (cL (cR (cR (cR (bd Tryd.f78)))))))))))) (.leaf (cE (cL (cR (cB (cB (cR (cL (cR (cR (cR (bd Tryd.f78))))))))))))) (.seq (.block 1 (.seq (.leaf (cL (cB (cL (cR (cR (cB (cB (cR (cL (cR (cR (cR (bd Tryd.f78)))))))))))))) (.seq (.seq (.leaf (cL (cL (cR (cB (cL (cR (cR (cB (cB (cR (cL (cR (cR (cR (bd Tryd.f78)))))))))))))))) (.cnd (.tmp 37) (.seq (.leaf (cL (cT (cR (cL (cR (cB (cL (cR (cR (cB (cB (cR (cL (cR (cR (cR (bd Tryd.f78)))))))))))))))))) (.leaf (cR (cT (cR (cL (cR (cB (cL (cR (cR (cB (cB (cR (cL (cR (cR (cR (bd Tryd.f78))))))))))))))))))) (.leaf (cE (cR (cL (cR (cB (cL (cR (cR (cB (cB (cR (cL (cR (cR (cR (bd Tryd.f78))))))))))))))))))) (.cut 2 (.leaf (cR (cR (cB (cL (cR (cR (cB (cB (cR (cL (cR (cR (cR (bd Tryd.f78))))))))))))))))))) (.leaf (cR (cR (cR (cB (cB (cR (cL (cR (cR (cR (bd Tryd.f78)))))))))))))))))) (.seq (.leaf (cL (cR (cR (cR (cR (bd Tryd.f78))))))) (.leaf (cR (cR (cR (cR (cR (bd Tryd.f78)))))))))))))) (J := ratchet_Check.J0 R) LfYtoclhecldmahiaaDoor.mixed Tryd.func78 (by kernel_rfl) (by kernel_rfl) (mkSeq (mkSeq (mkCut (cutDef [(1, .addr)] (fun x w => ratchet_Check.c3 R x w) (fun _ _ => by kernel_rfl) (fun _ _ => by kernel_rfl)) (mkSeq (mkSeq (mkSeq mkLeaf mkLeaf) (mkSeq (mkBlock (mkLoop (loopDef LfYtoclhecldmahiaaDoor.mixed [(1, .addr), (21, .slice), (22, (.int .i64)), (3, (.int .i64)), (23, (.int .i64))] (by kernel_rfl) (fun M1 x w => ratchet_Check.b1 R (fun y0 y1 y2 y3 y4 w => M1 (y0, y1, y2, y3, y4) w) x.1 x.2.1 x.2.2.1 x.2.2.2.1 x.2.2.2.2 w) (fun M1 => ratchet_Check.J1 R (fun y0 y1 y2 y3 y4 w => M1 (y0, y1, y2, y3, y4) w)) (fun _ _ _ => by kernel_rfl) (fun M1 => (mkSeq (mkSeq (mkSeq mkLeaf (mkBlock (mkSeq (mkSeq (mkCut (cutDef [(1, .addr), (5, .addr), (21, .slice), (22, (.int .i64)), (23, (.int .i64))] (fun x w => ratchet_Check.c2 R (fun y0 y1 y2 y3 y4 w => M1 (y0, y1, y2, y3, y4) w) x.1 x.2.1 x.2.2.1 x.2.2.2.1 x.2.2.2.2 w) (fun _ _ => by kernel_rfl) (fun _ _ => by kernel_rfl)) mkLeaf) (mkSeq (mkCnd (mkSeq mkLeaf mkLeaf) mkLeaf) mkLeaf)) mkLeaf))) (mkCnd mkLeaf mkLeaf)) mkLeaf)) (fun x w => ratchet_Check.l1 R x.1 x.2.1 x.2.2.1 x.2.2.2.1 x.2.2.2.2 w) (by rintro ⟨c0, c1, c2, s0⟩ w ⟨I, μ, h0, h1⟩; refine ⟨fun y w => y.1 = c0 ∧ y.2.1 = c1 ∧ y.2.2.1 = c2 ∧ I y.2.2.2 w, fun y w => μ y.2.2.2 w, ⟨rfl, rfl, rfl, h0⟩, ?_⟩; rintro ⟨d0, d1, d2, t0⟩ w ⟨e0, e1, e2, hI⟩; dsimp only at e0 e1 e2 hI; subst e0; subst e1; subst e2; exact h1 _ _ hI) (fun _ _ => by kernel_rfl)))) mkLeaf)) mkLeaf)) (mkSeq (mkCnd (mkSeq mkLeaf mkLeaf) mkLeaf) mkLeaf)) mkLeaf) (kcast (by kernel_rfl) h)

/-! trystlaw19_wakes -/
def trystlaw19_wakes.main (R : Value → World → Prop)  (w : World) : Prop :=
  CallsV Tryd.prog n_term_New #[] w (fun v_1 w1 =>
  ∃ p_2 : Option Addr, v_1 = .pointer p_2 ∧
  cond ((p_2).isNone)
  (R (.bool false) w1)
  (CallsV Tryd.prog n_term_Arena_Make #[.pointer p_2, .int .i64 1, .int .i64 1, .slice none 0 0] w1 (fun v_3 w2 =>
  ∃ x_4 : Int, ∃ x_5 : Int, v_3 = .tuple #[.int .i64 x_4, .int .i64 x_5] ∧
  CallsV Tryd.prog n_ratchet_New #[.int .i64 x_4] w2 (fun v_6 w3 =>
  ∃ x_7 : Int, ∃ x_8 : Int, ∃ (a_9 : Option Addr) (l_10 c_11 : Nat), v_6 = .agg #[.int .i64 x_7, .int .i64 x_8, .slice a_9 l_10 c_11] ∧
  CallsV Tryd.prog n_ratchet_Take #[.pointer p_2, .agg #[.int .i64 x_7, .int .i64 x_8, .slice a_9 l_10 c_11], .int .i64 2] w3 (fun v_12 w4 =>
  ∃ x_13 : Int, ∃ x_14 : Int, ∃ x_15 : Int, ∃ (a_16 : Option Addr) (l_17 c_18 : Nat), ∃ x_19 : Int, v_12 = .tuple #[.int .i64 x_13, .agg #[.int .i64 x_14, .int .i64 x_15, .slice a_16 l_17 c_18], .int .i64 x_19] ∧
  let w5 := w4.alloc (.cells #[.int .i64 0, .int .i64 0, .slice none 0 0] 104);
  (∀ j, j < 3 → Wr w5 ((newA w4).add j)) ∧
  (let w6 := setCells (newA w4) [.int .i64 x_14, .int .i64 x_15, .slice a_16 l_17 c_18] 0 w5;
  CallsV Tryd.prog n_term_Arena_Node #[.pointer p_2, .int .i64 x_13] w6 (fun v_20 w7 =>
  ∃ x_21 : Int, ∃ x_22 : Int, ∃ (a_23 : Option Addr) (l_24 c_25 : Nat), ∃ x_26 : Int, v_20 = .tuple #[.agg #[.int .i64 x_21, .int .i64 x_22, .slice a_23 l_24 c_25], .int .i64 x_26] ∧
  let w8 := w7.alloc (.cells #[.int .i64 0, .int .i64 0, .slice none 0 0] 98);
  (∀ j, j < 3 → Wr w8 ((newA w7).add j)) ∧
  (let w9 := setCells (newA w7) [.int .i64 x_21, .int .i64 x_22, .slice a_23 l_24 c_25] 0 w8;
  cond ((x_19 : Int) == 0)
  (cond ((x_26 : Int) == 0)
  (∃ x_27 : Int, w9.cell? (newA w7) = some (.int .i64 x_27) ∧
  cond ((x_27 : Int) == 4)
  (∃ x_28 : Int, w9.cell? ((newA w7).add 1) = some (.int .i64 x_28) ∧
  cond ((x_28 : Int) == 1)
  (∃ x_29 : Int, w9.cell? ((newA w4).add 1) = some (.int .i64 x_29) ∧
  cond ((x_29 : Int) == 3)
  (∃ (a_30 : Option Addr) (l_31 c_32 : Nat), w9.cell? ((newA w4).add 2) = some (.slice a_30 l_31 c_32) ∧
  (let t0_32 : Bool := ((((l_31 : Nat) : Int) : Int) == 2);
  R (.bool t0_32) w9))
  (R (.bool false) w9))
  (R (.bool false) w9))
  (R (.bool false) w9))
  (R (.bool false) w9))
  (R (.bool false) w9)))))))))

def trystlaw19_wakes.J0 (_ : Value → World → Prop) (_ : Nat) (_ : Fr) (_ : World) : Prop := False

set_option maxRecDepth 100000 in
theorem trystlaw19_wakes.lift {R : Value → World → Prop}  {w : World} (h : trystlaw19_wakes.main R  w) : CallsV Tryd.prog n_trystlaw19_wakes #[] w R :=
  liftCalls (c := (.seq (.leaf (cL (bd Tryd.f79))) (.seq (.leaf (cL (cR (bd Tryd.f79)))) (.seq (.seq (.leaf (cL (cL (cR (cR (bd Tryd.f79)))))) (.cnd (.tmp 11) (.seq (.leaf (cL (cT (cR (cL (cR (cR (bd Tryd.f79)))))))) (.leaf (cR (cT (cR (cL (cR (cR (bd Tryd.f79))))))))) (.leaf (cE (cR (cL (cR (cR (bd Tryd.f79))))))))) (.seq (.leaf (cL (cR (cR (cR (bd Tryd.f79)))))) (.seq (.leaf (cL (cR (cR (cR (cR (bd Tryd.f79))))))) (.seq (.leaf (cL (cR (cR (cR (cR (cR (bd Tryd.f79)))))))) (.seq (.leaf (cL (cR (cR (cR (cR (cR (cR (bd Tryd.f79))))))))) (.leaf (cR (cR (cR (cR (cR (cR (cR (bd Tryd.f79))))))))))))))))) (J := trystlaw19_wakes.J0 R) LfYtoclhecldmahiaaDoor.mixed Tryd.func79 (by kernel_rfl) (by kernel_rfl) (mkSeq (mkSeq (mkSeq (mkSeq (mkSeq (mkSeq (mkSeq mkLeaf mkLeaf) mkLeaf) mkLeaf) mkLeaf) (mkSeq (mkCnd (mkSeq mkLeaf mkLeaf) mkLeaf) mkLeaf)) mkLeaf) mkLeaf) (kcast (by kernel_rfl) h)

/-! ratchet_wrong -/
def ratchet_wrong.main (R : Value → World → Prop) (a0 : Option Addr) (r1_0 : Int) (r1_1 : Int) (r1_2 : Sl) (w : World) : Prop :=
  let w1 := w.alloc (.cells #[.pointer a0] 27);
  let w2 := w1.alloc (.cells #[.int .i64 r1_0, .int .i64 r1_1, .slice r1_2.a r1_2.len r1_2.cap] 104);
  ∃ x_1 : Int, w2.cell? (newA w1) = some (.int .i64 x_1) ∧
  ∃ x_2 : Int, w2.cell? ((newA w1).add 1) = some (.int .i64 x_2) ∧
  ∃ (a_3 : Option Addr) (l_4 c_5 : Nat), w2.cell? ((newA w1).add 2) = some (.slice a_3 l_4 c_5) ∧
  CallsV Tryd.prog n_ratchet_Check #[.agg #[.int .i64 x_1, .int .i64 x_2, .slice a_3 l_4 c_5]] w2 (fun v_6 w3 =>
  ∃ x_7 : Int, v_6 = .int .i64 x_7 ∧
  cond ((x_7 : Int) != 0)
  (R (.int .i64 x_7) w3)
  (∃ p_8 : Option Addr, w3.cell? (newA w) = some (.pointer p_8) ∧
  ∃ x_9 : Int, w3.cell? (newA w1) = some (.int .i64 x_9) ∧
  let w4 := w3.alloc (.cells #[.int .i64 x_9] 3);
  CallsV Tryd.prog n_term_Arena_Has #[.pointer p_8, .slice (some (newA w3)) 1 1] w4 (fun v_10 w5 =>
  ∃ b_11 : Bool, v_10 = .bool b_11 ∧
  cond (!b_11)
  (R (.int .i64 8) w5)
  (∃ (a_12 : Option Addr) (l_13 c_14 : Nat), w5.cell? ((newA w1).add 2) = some (.slice a_12 l_13 c_14) ∧
  CallsV Tryd.prog n_slices_ContainsFunc_Key #[.slice a_12 l_13 c_14, .func (.func n_ratchet_wrong_1) #[] #[.pointer (some (newA w))]] w5 (fun v_15 w6 =>
  ∃ b_16 : Bool, v_15 = .bool b_16 ∧
  cond b_16
  (R (.int .i64 8) w6)
  (R (.int .i64 0) w6))))))

def ratchet_wrong.J0 (_ : Value → World → Prop) (_ : Nat) (_ : Fr) (_ : World) : Prop := False

set_option maxRecDepth 100000 in
theorem ratchet_wrong.lift {R : Value → World → Prop} {a0 : Option Addr} {r1_0 : Int} {r1_1 : Int} {r1_2 : Sl} {w : World} (h : ratchet_wrong.main R a0 r1_0 r1_1 r1_2 w) : CallsV Tryd.prog n_ratchet_wrong #[.pointer a0, .agg #[.int .i64 r1_0, .int .i64 r1_1, .slice r1_2.a r1_2.len r1_2.cap]] w R :=
  liftCalls (c := (.seq (.leaf (cL (bd Tryd.f123))) (.seq (.leaf (cL (cR (bd Tryd.f123)))) (.seq (.block 0 (.seq (.leaf (cL (cB (cL (cR (cR (bd Tryd.f123))))))) (.cnd (.tmp 8) (.seq (.leaf (cL (cT (cR (cB (cL (cR (cR (bd Tryd.f123))))))))) (.leaf (cR (cT (cR (cB (cL (cR (cR (bd Tryd.f123)))))))))) (.seq (.leaf (cL (cE (cR (cB (cL (cR (cR (bd Tryd.f123))))))))) (.cnd (.tmp 12) (.seq (.leaf (cL (cT (cR (cE (cR (cB (cL (cR (cR (bd Tryd.f123))))))))))) (.leaf (cR (cT (cR (cE (cR (cB (cL (cR (cR (bd Tryd.f123)))))))))))) (.leaf (cE (cR (cE (cR (cB (cL (cR (cR (bd Tryd.f123))))))))))))))) (.seq (.leaf (cL (cR (cR (cR (bd Tryd.f123)))))) (.leaf (cR (cR (cR (cR (bd Tryd.f123))))))))))) (J := ratchet_wrong.J0 R) LfYtoclhecldmahiaaDoor.mixed Tryd.func123 (by kernel_rfl) (by kernel_rfl) (mkSeq (mkSeq (mkSeq (mkSeq mkLeaf mkLeaf) (mkBlock (mkSeq (mkCnd (mkSeq mkLeaf mkLeaf) (mkSeq (mkCnd (mkSeq mkLeaf mkLeaf) mkLeaf) mkLeaf)) mkLeaf))) mkLeaf) mkLeaf) (kcast (by kernel_rfl) h)

/-! ratchet_turn -/
def ratchet_turn.c1 (R : Value → World → Prop) (r3 : Addr) (t5 : Addr) (key7 : Int) (e8 : Int) (w : World) : Prop :=
  ∃ x_1 : Int, w.cell? (r3.add 1) = some (.int .i64 x_1) ∧
  Wr w (r3.add 1) ∧
  (let w1 := w.setCell (r3.add 1) (.int .i64 (IntKind.i64.wrap (x_1 + 1)));
  ∃ S_2 : World → Prop, S_2 w1.drew ∧
  ∃ x_3 : Int, (∀ x, S_2 x → x.cell? r3 = some (.int .i64 x_3)) ∧
  ∃ x_4 : Int, (∀ x, S_2 x → x.cell? (r3.add 1) = some (.int .i64 x_4)) ∧
  ∃ (a_5 : Option Addr) (l_6 c_7 : Nat), (∀ x, S_2 x → x.cell? (r3.add 2) = some (.slice a_5 l_6 c_7)) ∧
  (∀ j, j < 3 → Wr w1.drew (t5.add j)) ∧
  (let w2 := setCells t5 [.int .i64 x_3, .int .i64 x_4, .slice a_5 l_6 c_7] 0 w1.drew;
  ∃ x_8 : Int, w2.cell? t5 = some (.int .i64 x_8) ∧
  ∃ x_9 : Int, w2.cell? (t5.add 1) = some (.int .i64 x_9) ∧
  ∃ (a_10 : Option Addr) (l_11 c_12 : Nat), w2.cell? (t5.add 2) = some (.slice a_10 l_11 c_12) ∧
  R (.tuple #[.int .i64 key7, .agg #[.int .i64 x_8, .int .i64 x_9, .slice a_10 l_11 c_12], .int .i64 e8]) w2))

def ratchet_turn.main (R : Value → World → Prop) (a0 : Option Addr) (r1_0 : Int) (r1_1 : Int) (r1_2 : Sl) (w : World) : Prop :=
  let w3 := w.alloc (.cells #[.int .i64 r1_0, .int .i64 r1_1, .slice r1_2.a r1_2.len r1_2.cap] 104);
  let w4 := w3.alloc (.cells #[.int .i64 0, .int .i64 0, .slice none 0 0] 104);
  ∃ x_13 : Int, w4.cell? (newA w) = some (.int .i64 x_13) ∧
  let w5 := w4.alloc (.cells #[.int .i64 x_13] 3);
  CallsV Tryd.prog n_term_Arena_Make #[.pointer a0, .int .i64 4, .int .i64 1, .slice (some (newA w4)) 1 1] w5 (fun v_14 w6 =>
  ∃ x_15 : Int, ∃ x_16 : Int, v_14 = .tuple #[.int .i64 x_15, .int .i64 x_16] ∧
  cond ((x_16 : Int) == 0)
  (∃ x_17 : Int, w6.cell? (newA w) = some (.int .i64 x_17) ∧
  let w7 := w6.alloc (.cells #[.int .i64 x_17] 3);
  CallsV Tryd.prog n_term_Arena_Make #[.pointer a0, .int .i64 4, .int .i64 2, .slice (some (newA w6)) 1 1] w7 (fun v_18 w8 =>
  ∃ x_19 : Int, ∃ x_20 : Int, v_18 = .tuple #[.int .i64 x_19, .int .i64 x_20] ∧
  Wr w8 (newA w) ∧
  (let w9 := w8.setCell (newA w) (.int .i64 x_19);
  ratchet_turn.c1 R (newA w) (newA w3) x_15 x_20 w9)))
  (ratchet_turn.c1 R (newA w) (newA w3) x_15 x_16 w6))

def ratchet_turn.J0 (R : Value → World → Prop) (k : Nat) (fr : Fr) (w : World) : Prop :=
  cond (Nat.beq k 1) (dec [(3, .addr), (5, .addr), (7, (.int .i64)), (8, (.int .i64))] fr fun x => ratchet_turn.c1 R x.1 x.2.1 x.2.2.1 x.2.2.2 w) (False)

set_option maxRecDepth 100000 in
theorem ratchet_turn.lift {R : Value → World → Prop} {a0 : Option Addr} {r1_0 : Int} {r1_1 : Int} {r1_2 : Sl} {w : World} (h : ratchet_turn.main R a0 r1_0 r1_1 r1_2 w) : CallsV Tryd.prog n_ratchet_turn #[.pointer a0, .agg #[.int .i64 r1_0, .int .i64 r1_1, .slice r1_2.a r1_2.len r1_2.cap]] w R :=
  liftCalls (c := (.seq (.leaf (cL (bd Tryd.f124))) (.seq (.leaf (cL (cR (bd Tryd.f124)))) (.seq (.seq (.leaf (cL (cL (cR (cR (bd Tryd.f124)))))) (.cnd (.tmp 18) (.leaf (cT (cR (cL (cR (cR (bd Tryd.f124))))))) (.leaf (cE (cR (cL (cR (cR (bd Tryd.f124))))))))) (.cut 1 (.seq (.leaf (cL (cR (cR (cR (bd Tryd.f124)))))) (.seq (.leaf (cL (cR (cR (cR (cR (bd Tryd.f124))))))) (.leaf (cR (cR (cR (cR (cR (bd Tryd.f124)))))))))))))) (J := ratchet_turn.J0 R) LfYtoclhecldmahiaaDoor.mixed Tryd.func124 (by kernel_rfl) (by kernel_rfl) (mkSeq (mkSeq (mkSeq (mkCut (cutDef [(3, .addr), (5, .addr), (7, (.int .i64)), (8, (.int .i64))] (fun x w => ratchet_turn.c1 R x.1 x.2.1 x.2.2.1 x.2.2.2 w) (fun _ _ => by kernel_rfl) (fun _ _ => by kernel_rfl)) (mkSeq (mkSeq mkLeaf mkLeaf) mkLeaf)) (mkSeq (mkCnd mkLeaf mkLeaf) mkLeaf)) mkLeaf) mkLeaf) (kcast (by kernel_rfl) h)

/-! slices_Clone_Key -/
def slices_Clone_Key.main (R : Value → World → Prop) (s0 : Sl) (w : World) : Prop :=
  cond ((s0.a).isNone)
  (R (.slice none 0 0) w)
  (let w1 := w.alloc (.cells #[] 113);
  ∃ (a_1 : Option Addr) (l_2 c_3 : Nat), ∃ w2 : World, (builtin .append #[102, 102] 102 #[] #[.slice (some (newA w)) 0 0, .slice s0.a s0.len s0.cap]).run Tryd.prog w1 = .ok (.value (.slice a_1 l_2 c_3)) w2 ∧
  R (.slice a_1 l_2 c_3) w2)

def slices_Clone_Key.J0 (_ : Value → World → Prop) (_ : Nat) (_ : Fr) (_ : World) : Prop := False

set_option maxRecDepth 100000 in
theorem slices_Clone_Key.lift {R : Value → World → Prop} {s0 : Sl} {w : World} (h : slices_Clone_Key.main R s0 w) : CallsV Tryd.prog n_slices_Clone_Key #[.slice s0.a s0.len s0.cap] w R :=
  liftCalls (c := (.seq (.leaf (cL (bd Tryd.f125))) (.seq (.seq (.leaf (cL (cL (cR (bd Tryd.f125))))) (.cnd (.tmp 4) (.seq (.leaf (cL (cT (cR (cL (cR (bd Tryd.f125))))))) (.leaf (cR (cT (cR (cL (cR (bd Tryd.f125)))))))) (.leaf (cE (cR (cL (cR (bd Tryd.f125)))))))) (.seq (.leaf (cL (cR (cR (bd Tryd.f125))))) (.leaf (cR (cR (cR (bd Tryd.f125))))))))) (J := slices_Clone_Key.J0 R) LfYtoclhecldmahiaaDoor.mixed Tryd.func125 (by kernel_rfl) (by kernel_rfl) (mkSeq (mkSeq (mkSeq mkLeaf mkLeaf) (mkSeq (mkCnd (mkSeq mkLeaf mkLeaf) mkLeaf) mkLeaf)) mkLeaf) (kcast (by kernel_rfl) h)

/-! ratchet_old -/
def ratchet_old.main (R : Value → World → Prop) (r0_0 : Int) (r0_1 : Int) (r0_2 : Sl) (n1 : Int) (w : World) : Prop :=
  let w1 := w.alloc (.cells #[.int .i64 r0_0, .int .i64 r0_1, .slice r0_2.a r0_2.len r0_2.cap] 104);
  let w2 := w1.alloc (.cells #[.int .i64 n1] 3);
  let w3 := w2.alloc (.cells #[.int .i64 0, .int .i64 0, .slice none 0 0] 104);
  ∃ (a_1 : Option Addr) (l_2 c_3 : Nat), w3.cell? ((newA w).add 2) = some (.slice a_1 l_2 c_3) ∧
  CallsV Tryd.prog n_slices_IndexFunc_Key #[.slice a_1 l_2 c_3, .func (.func n_ratchet_old_1) #[] #[.pointer (some (newA w1))]] w3 (fun v_4 w4 =>
  ∃ x_5 : Int, v_4 = .int .i64 x_5 ∧
  cond (decide ((x_5 : Int) < 0))
  ((∀ j, j < 3 → Wr w4 ((newA w2).add j)) ∧
  (let w5 := setCells (newA w2) [.int .i64 0, .int .i64 0, .slice none 0 0] 0 w4;
  ∃ x_6 : Int, w5.cell? (newA w2) = some (.int .i64 x_6) ∧
  ∃ x_7 : Int, w5.cell? ((newA w2).add 1) = some (.int .i64 x_7) ∧
  ∃ (a_8 : Option Addr) (l_9 c_10 : Nat), w5.cell? ((newA w2).add 2) = some (.slice a_8 l_9 c_10) ∧
  R (.tuple #[.int .i64 0, .agg #[.int .i64 x_6, .int .i64 x_7, .slice a_8 l_9 c_10], .int .i64 13]) w5))
  (∃ (a_11 : Option Addr) (l_12 c_13 : Nat), w4.cell? ((newA w).add 2) = some (.slice a_11 l_12 c_13) ∧
  0 ≤ (x_5 : Int) ∧ x_5 < ((l_12 : Nat) : Int) ∧ ∃ q_14 : Addr, a_11 = some q_14 ∧
  ∃ x_15 : Int, w4.cell? ((q_14.add ((x_5 : Int).toNat * 2)).add 1) = some (.int .i64 x_15) ∧
  ∃ (a_16 : Option Addr) (l_17 c_18 : Nat), w4.cell? ((newA w).add 2) = some (.slice a_16 l_17 c_18) ∧
  CallsV Tryd.prog n_slices_Clone_Key #[.slice a_16 l_17 c_18] w4 (fun v_19 w6 =>
  ∃ (a_20 : Option Addr) (l_21 c_22 : Nat), v_19 = .slice a_20 l_21 c_22 ∧
  CallsV Tryd.prog n_slices_Delete_Key #[.slice a_20 l_21 c_22, .int .i64 x_5, .int .i64 (IntKind.i64.wrap (x_5 + 1))] w6 (fun v_23 w7 =>
  ∃ (a_24 : Option Addr) (l_25 c_26 : Nat), v_23 = .slice a_24 l_25 c_26 ∧
  Wr w7 ((newA w).add 2) ∧
  (let w8 := w7.setCell ((newA w).add 2) (.slice a_24 l_25 c_26);
  ∃ S_27 : World → Prop, S_27 w8.drew ∧
  ∃ x_28 : Int, (∀ x, S_27 x → x.cell? (newA w) = some (.int .i64 x_28)) ∧
  ∃ x_29 : Int, (∀ x, S_27 x → x.cell? ((newA w).add 1) = some (.int .i64 x_29)) ∧
  ∃ (a_30 : Option Addr) (l_31 c_32 : Nat), (∀ x, S_27 x → x.cell? ((newA w).add 2) = some (.slice a_30 l_31 c_32)) ∧
  (∀ j, j < 3 → Wr w8.drew ((newA w2).add j)) ∧
  (let w9 := setCells (newA w2) [.int .i64 x_28, .int .i64 x_29, .slice a_30 l_31 c_32] 0 w8.drew;
  ∃ x_33 : Int, w9.cell? (newA w2) = some (.int .i64 x_33) ∧
  ∃ x_34 : Int, w9.cell? ((newA w2).add 1) = some (.int .i64 x_34) ∧
  ∃ (a_35 : Option Addr) (l_36 c_37 : Nat), w9.cell? ((newA w2).add 2) = some (.slice a_35 l_36 c_37) ∧
  R (.tuple #[.int .i64 x_15, .agg #[.int .i64 x_33, .int .i64 x_34, .slice a_35 l_36 c_37], .int .i64 0]) w9))))))

def ratchet_old.J0 (_ : Value → World → Prop) (_ : Nat) (_ : Fr) (_ : World) : Prop := False

set_option maxRecDepth 100000 in
theorem ratchet_old.lift {R : Value → World → Prop} {r0_0 : Int} {r0_1 : Int} {r0_2 : Sl} {n1 : Int} {w : World} (h : ratchet_old.main R r0_0 r0_1 r0_2 n1 w) : CallsV Tryd.prog n_ratchet_old #[.agg #[.int .i64 r0_0, .int .i64 r0_1, .slice r0_2.a r0_2.len r0_2.cap], .int .i64 n1] w R :=
  liftCalls (c := (.seq (.leaf (cL (bd Tryd.f126))) (.seq (.leaf (cL (cR (bd Tryd.f126)))) (.seq (.seq (.leaf (cL (cL (cR (cR (bd Tryd.f126)))))) (.cnd (.tmp 14) (.seq (.leaf (cL (cT (cR (cL (cR (cR (bd Tryd.f126)))))))) (.leaf (cR (cT (cR (cL (cR (cR (bd Tryd.f126))))))))) (.leaf (cE (cR (cL (cR (cR (bd Tryd.f126))))))))) (.seq (.leaf (cL (cR (cR (cR (bd Tryd.f126)))))) (.seq (.leaf (cL (cR (cR (cR (cR (bd Tryd.f126))))))) (.seq (.leaf (cL (cR (cR (cR (cR (cR (bd Tryd.f126)))))))) (.leaf (cR (cR (cR (cR (cR (cR (bd Tryd.f126))))))))))))))) (J := ratchet_old.J0 R) LfYtoclhecldmahiaaDoor.mixed Tryd.func126 (by kernel_rfl) (by kernel_rfl) (mkSeq (mkSeq (mkSeq (mkSeq (mkSeq (mkSeq mkLeaf mkLeaf) mkLeaf) mkLeaf) (mkSeq (mkCnd (mkSeq mkLeaf mkLeaf) mkLeaf) mkLeaf)) mkLeaf) mkLeaf) (kcast (by kernel_rfl) h)

/-! slices_ContainsFunc_Key -/
def slices_ContainsFunc_Key__ratchet_wrong_1.main (R : Value → World → Prop) (s0 : Sl) (cap1_0 : Addr) (w : World) : Prop :=
  CallsV Tryd.prog n_slices_IndexFunc_Key #[.slice s0.a s0.len s0.cap, .func (.func n_ratchet_wrong_1) #[] #[.pointer (some cap1_0)]] w (fun v_1 w1 =>
  ∃ x_2 : Int, v_1 = .int .i64 x_2 ∧
  (let t4_2 : Bool := (decide ((x_2 : Int) ≥ 0));
  R (.bool t4_2) w1))

def slices_ContainsFunc_Key__ratchet_wrong_1.J0 (_ : Value → World → Prop) (_ : Nat) (_ : Fr) (_ : World) : Prop := False

set_option maxRecDepth 100000 in
theorem slices_ContainsFunc_Key__ratchet_wrong_1.lift {R : Value → World → Prop} {s0 : Sl} {cap1_0 : Addr} {w : World} (h : slices_ContainsFunc_Key__ratchet_wrong_1.main R s0 cap1_0 w) : CallsV Tryd.prog n_slices_ContainsFunc_Key #[.slice s0.a s0.len s0.cap, .func (.func n_ratchet_wrong_1) #[] #[.pointer (some cap1_0)]] w R :=
  liftCalls (c := (.seq (.leaf (cL (bd Tryd.f146))) (.seq (.leaf (cL (cR (bd Tryd.f146)))) (.leaf (cR (cR (bd Tryd.f146))))))) (J := slices_ContainsFunc_Key__ratchet_wrong_1.J0 R) LfYtoclhecldmahiaaDoor.mixed Tryd.func146 (by kernel_rfl) (by kernel_rfl) (mkSeq (mkSeq mkLeaf mkLeaf) mkLeaf) (kcast (by kernel_rfl) h)

/-! ratchet_wrong_1 -/
def ratchet_wrong_1.main (R : Value → World → Prop) (k0_0 : Int) (k0_1 : Int) (t1 : Addr) (w : World) : Prop :=
  let w1 := w.alloc (.cells #[.int .i64 k0_0, .int .i64 k0_1] 113);
  ∃ p_1 : Option Addr, w1.cell? t1 = some (.pointer p_1) ∧
  ∃ x_2 : Int, w1.cell? ((newA w).add 1) = some (.int .i64 x_2) ∧
  let w2 := w1.alloc (.cells #[.int .i64 x_2] 3);
  CallsV Tryd.prog n_term_Arena_Has #[.pointer p_1, .slice (some (newA w1)) 1 1] w2 (fun v_3 w3 =>
  ∃ b_4 : Bool, v_3 = .bool b_4 ∧
  R (.bool (!b_4)) w3)

def ratchet_wrong_1.J0 (_ : Value → World → Prop) (_ : Nat) (_ : Fr) (_ : World) : Prop := False

set_option maxRecDepth 100000 in
theorem ratchet_wrong_1.lift {R : Value → World → Prop} {k0_0 : Int} {k0_1 : Int} {t1 : Addr} {w : World} (h : ratchet_wrong_1.main R k0_0 k0_1 t1 w) : CallsV Tryd.prog n_ratchet_wrong_1 #[.agg #[.int .i64 k0_0, .int .i64 k0_1], .pointer (some t1)] w R :=
  liftCalls (c := (.seq (.leaf (cL (bd Tryd.f147))) (.seq (.leaf (cL (cR (bd Tryd.f147)))) (.leaf (cR (cR (bd Tryd.f147))))))) (J := ratchet_wrong_1.J0 R) LfYtoclhecldmahiaaDoor.mixed Tryd.func147 (by kernel_rfl) (by kernel_rfl) (mkSeq (mkSeq mkLeaf mkLeaf) mkLeaf) (kcast (by kernel_rfl) h)

/-! slices_IndexFunc_Key -/
def slices_IndexFunc_Key__ratchet_old_1.b1 (R : Value → World → Prop) (N1 : Sl → Addr → Int → Int → World → Prop) (s0 : Sl) (f1 : Addr) (t7 : Int) (t8 : Int) (w : World) : Prop :=
  cond (decide ((t8 : Int) < t7))
  (0 ≤ (t8 : Int) ∧ t8 < ((s0.len : Nat) : Int) ∧ ∃ q_1 : Addr, s0.a = some q_1 ∧
  ∃ x_2 : Int, w.cell? (q_1.add ((t8 : Int).toNat * 2)) = some (.int .i64 x_2) ∧
  ∃ x_3 : Int, w.cell? ((q_1.add ((t8 : Int).toNat * 2)).add 1) = some (.int .i64 x_3) ∧
  CallsV Tryd.prog n_ratchet_old_1 #[.agg #[.int .i64 x_2, .int .i64 x_3], .pointer (some f1)] w (fun v_4 w1 =>
  ∃ b_5 : Bool, v_4 = .bool b_5 ∧
  cond b_5
  (R (.int .i64 t8) w1)
  (N1 s0 f1 t7 (IntKind.i64.wrap (t8 + 1)) w1)))
  (R (.int .i64 (-1)) w)

def slices_IndexFunc_Key__ratchet_old_1.l1 (R : Value → World → Prop) (s0 : Sl) (f1 : Addr) (t7 : Int) (t8 : Int) (w : World) : Prop :=
  ∃ (I : Int → World → Prop) (μ : Int → World → Nat), I t8 w ∧ ∀ s w, I s w → slices_IndexFunc_Key__ratchet_old_1.b1 R (fun s0' f1' t7' t8' w' => (s0' = s0 ∧ f1' = f1 ∧ t7' = t7 ∧ I t8' w') ∧ μ t8' w' < μ s w) s0 f1 t7 s w

def slices_IndexFunc_Key__ratchet_old_1.main (R : Value → World → Prop) (s0 : Sl) (cap1_0 : Addr) (w : World) : Prop :=
  slices_IndexFunc_Key__ratchet_old_1.l1 R s0 cap1_0 ((s0.len : Nat) : Int) 0 w

def slices_IndexFunc_Key__ratchet_old_1.J0 (R : Value → World → Prop) (k : Nat) (fr : Fr) (w : World) : Prop :=
  cond (Nat.beq k 1) (dec [(0, .slice), (1, (.fn n_ratchet_old_1 1)), (7, (.int .i64)), (8, (.int .i64))] fr fun x => slices_IndexFunc_Key__ratchet_old_1.l1 R x.1 x.2.1 x.2.2.1 x.2.2.2 w) (False)

set_option maxRecDepth 100000 in
theorem slices_IndexFunc_Key__ratchet_old_1.lift {R : Value → World → Prop} {s0 : Sl} {cap1_0 : Addr} {w : World} (h : slices_IndexFunc_Key__ratchet_old_1.main R s0 cap1_0 w) : CallsV Tryd.prog n_slices_IndexFunc_Key #[.slice s0.a s0.len s0.cap, .func (.func n_ratchet_old_1) #[] #[.pointer (some cap1_0)]] w R :=
  liftCalls (c := (.seq (.leaf (cL (bd Tryd.f148))) (.seq (.seq (.leaf (cL (cL (cR (bd Tryd.f148))))) (.block 0 (.loop 1 (.seq (.leaf (cL (cB (cB (cR (cL (cR (bd Tryd.f148)))))))) (.seq (.cnd (.tmp 9) (.leaf (cT (cL (cR (cB (cB (cR (cL (cR (bd Tryd.f148)))))))))) (.leaf (cE (cL (cR (cB (cB (cR (cL (cR (bd Tryd.f148))))))))))) (.seq (.block 1 (.seq (.leaf (cL (cB (cL (cR (cR (cB (cB (cR (cL (cR (bd Tryd.f148)))))))))))) (.seq (.leaf (cL (cR (cB (cL (cR (cR (cB (cB (cR (cL (cR (bd Tryd.f148))))))))))))) (.cnd (.tmp 16) (.seq (.leaf (cL (cT (cR (cR (cB (cL (cR (cR (cB (cB (cR (cL (cR (bd Tryd.f148))))))))))))))) (.leaf (cR (cT (cR (cR (cB (cL (cR (cR (cB (cB (cR (cL (cR (bd Tryd.f148)))))))))))))))) (.leaf (cE (cR (cR (cB (cL (cR (cR (cB (cB (cR (cL (cR (bd Tryd.f148)))))))))))))))))) (.leaf (cR (cR (cR (cB (cB (cR (cL (cR (bd Tryd.f148)))))))))))))))) (.seq (.leaf (cL (cR (cR (bd Tryd.f148))))) (.leaf (cR (cR (cR (bd Tryd.f148))))))))) (J := slices_IndexFunc_Key__ratchet_old_1.J0 R) LfYtoclhecldmahiaaDoor.mixed Tryd.func148 (by kernel_rfl) (by kernel_rfl) (mkSeq (mkSeq (mkSeq mkLeaf mkLeaf) (mkSeq (mkBlock (mkLoop (loopDef LfYtoclhecldmahiaaDoor.mixed [(0, .slice), (1, (.fn n_ratchet_old_1 1)), (7, (.int .i64)), (8, (.int .i64))] (by kernel_rfl) (fun M1 x w => slices_IndexFunc_Key__ratchet_old_1.b1 R (fun y0 y1 y2 y3 w => M1 (y0, y1, y2, y3) w) x.1 x.2.1 x.2.2.1 x.2.2.2 w) (fun M1 => fun _ _ _ => False) (fun _ _ _ => by kernel_rfl) (fun M1 => (mkSeq (mkSeq (mkSeq mkLeaf (mkBlock (mkSeq (mkSeq (mkCnd (mkSeq mkLeaf mkLeaf) mkLeaf) mkLeaf) mkLeaf))) (mkCnd mkLeaf mkLeaf)) mkLeaf)) (fun x w => slices_IndexFunc_Key__ratchet_old_1.l1 R x.1 x.2.1 x.2.2.1 x.2.2.2 w) (by rintro ⟨c0, c1, c2, s0⟩ w ⟨I, μ, h0, h1⟩; refine ⟨fun y w => y.1 = c0 ∧ y.2.1 = c1 ∧ y.2.2.1 = c2 ∧ I y.2.2.2 w, fun y w => μ y.2.2.2 w, ⟨rfl, rfl, rfl, h0⟩, ?_⟩; rintro ⟨d0, d1, d2, t0⟩ w ⟨e0, e1, e2, hI⟩; dsimp only at e0 e1 e2 hI; subst e0; subst e1; subst e2; exact h1 _ _ hI) (fun _ _ => by kernel_rfl)))) mkLeaf)) mkLeaf) (kcast (by kernel_rfl) h)

/-! slices_IndexFunc_Key -/
def slices_IndexFunc_Key__ratchet_wrong_1.b1 (R : Value → World → Prop) (N1 : Sl → Addr → Int → Int → World → Prop) (s0 : Sl) (f1 : Addr) (t7 : Int) (t8 : Int) (w : World) : Prop :=
  cond (decide ((t8 : Int) < t7))
  (0 ≤ (t8 : Int) ∧ t8 < ((s0.len : Nat) : Int) ∧ ∃ q_1 : Addr, s0.a = some q_1 ∧
  ∃ x_2 : Int, w.cell? (q_1.add ((t8 : Int).toNat * 2)) = some (.int .i64 x_2) ∧
  ∃ x_3 : Int, w.cell? ((q_1.add ((t8 : Int).toNat * 2)).add 1) = some (.int .i64 x_3) ∧
  CallsV Tryd.prog n_ratchet_wrong_1 #[.agg #[.int .i64 x_2, .int .i64 x_3], .pointer (some f1)] w (fun v_4 w1 =>
  ∃ b_5 : Bool, v_4 = .bool b_5 ∧
  cond b_5
  (R (.int .i64 t8) w1)
  (N1 s0 f1 t7 (IntKind.i64.wrap (t8 + 1)) w1)))
  (R (.int .i64 (-1)) w)

def slices_IndexFunc_Key__ratchet_wrong_1.l1 (R : Value → World → Prop) (s0 : Sl) (f1 : Addr) (t7 : Int) (t8 : Int) (w : World) : Prop :=
  ∃ (I : Int → World → Prop) (μ : Int → World → Nat), I t8 w ∧ ∀ s w, I s w → slices_IndexFunc_Key__ratchet_wrong_1.b1 R (fun s0' f1' t7' t8' w' => (s0' = s0 ∧ f1' = f1 ∧ t7' = t7 ∧ I t8' w') ∧ μ t8' w' < μ s w) s0 f1 t7 s w

def slices_IndexFunc_Key__ratchet_wrong_1.main (R : Value → World → Prop) (s0 : Sl) (cap1_0 : Addr) (w : World) : Prop :=
  slices_IndexFunc_Key__ratchet_wrong_1.l1 R s0 cap1_0 ((s0.len : Nat) : Int) 0 w

def slices_IndexFunc_Key__ratchet_wrong_1.J0 (R : Value → World → Prop) (k : Nat) (fr : Fr) (w : World) : Prop :=
  cond (Nat.beq k 1) (dec [(0, .slice), (1, (.fn n_ratchet_wrong_1 1)), (7, (.int .i64)), (8, (.int .i64))] fr fun x => slices_IndexFunc_Key__ratchet_wrong_1.l1 R x.1 x.2.1 x.2.2.1 x.2.2.2 w) (False)

set_option maxRecDepth 100000 in
theorem slices_IndexFunc_Key__ratchet_wrong_1.lift {R : Value → World → Prop} {s0 : Sl} {cap1_0 : Addr} {w : World} (h : slices_IndexFunc_Key__ratchet_wrong_1.main R s0 cap1_0 w) : CallsV Tryd.prog n_slices_IndexFunc_Key #[.slice s0.a s0.len s0.cap, .func (.func n_ratchet_wrong_1) #[] #[.pointer (some cap1_0)]] w R :=
  liftCalls (c := (.seq (.leaf (cL (bd Tryd.f148))) (.seq (.seq (.leaf (cL (cL (cR (bd Tryd.f148))))) (.block 0 (.loop 1 (.seq (.leaf (cL (cB (cB (cR (cL (cR (bd Tryd.f148)))))))) (.seq (.cnd (.tmp 9) (.leaf (cT (cL (cR (cB (cB (cR (cL (cR (bd Tryd.f148)))))))))) (.leaf (cE (cL (cR (cB (cB (cR (cL (cR (bd Tryd.f148))))))))))) (.seq (.block 1 (.seq (.leaf (cL (cB (cL (cR (cR (cB (cB (cR (cL (cR (bd Tryd.f148)))))))))))) (.seq (.leaf (cL (cR (cB (cL (cR (cR (cB (cB (cR (cL (cR (bd Tryd.f148))))))))))))) (.cnd (.tmp 16) (.seq (.leaf (cL (cT (cR (cR (cB (cL (cR (cR (cB (cB (cR (cL (cR (bd Tryd.f148))))))))))))))) (.leaf (cR (cT (cR (cR (cB (cL (cR (cR (cB (cB (cR (cL (cR (bd Tryd.f148)))))))))))))))) (.leaf (cE (cR (cR (cB (cL (cR (cR (cB (cB (cR (cL (cR (bd Tryd.f148)))))))))))))))))) (.leaf (cR (cR (cR (cB (cB (cR (cL (cR (bd Tryd.f148)))))))))))))))) (.seq (.leaf (cL (cR (cR (bd Tryd.f148))))) (.leaf (cR (cR (cR (bd Tryd.f148))))))))) (J := slices_IndexFunc_Key__ratchet_wrong_1.J0 R) LfYtoclhecldmahiaaDoor.mixed Tryd.func148 (by kernel_rfl) (by kernel_rfl) (mkSeq (mkSeq (mkSeq mkLeaf mkLeaf) (mkSeq (mkBlock (mkLoop (loopDef LfYtoclhecldmahiaaDoor.mixed [(0, .slice), (1, (.fn n_ratchet_wrong_1 1)), (7, (.int .i64)), (8, (.int .i64))] (by kernel_rfl) (fun M1 x w => slices_IndexFunc_Key__ratchet_wrong_1.b1 R (fun y0 y1 y2 y3 w => M1 (y0, y1, y2, y3) w) x.1 x.2.1 x.2.2.1 x.2.2.2 w) (fun M1 => fun _ _ _ => False) (fun _ _ _ => by kernel_rfl) (fun M1 => (mkSeq (mkSeq (mkSeq mkLeaf (mkBlock (mkSeq (mkSeq (mkCnd (mkSeq mkLeaf mkLeaf) mkLeaf) mkLeaf) mkLeaf))) (mkCnd mkLeaf mkLeaf)) mkLeaf)) (fun x w => slices_IndexFunc_Key__ratchet_wrong_1.l1 R x.1 x.2.1 x.2.2.1 x.2.2.2 w) (by rintro ⟨c0, c1, c2, s0⟩ w ⟨I, μ, h0, h1⟩; refine ⟨fun y w => y.1 = c0 ∧ y.2.1 = c1 ∧ y.2.2.1 = c2 ∧ I y.2.2.2 w, fun y w => μ y.2.2.2 w, ⟨rfl, rfl, rfl, h0⟩, ?_⟩; rintro ⟨d0, d1, d2, t0⟩ w ⟨e0, e1, e2, hI⟩; dsimp only at e0 e1 e2 hI; subst e0; subst e1; subst e2; exact h1 _ _ hI) (fun _ _ => by kernel_rfl)))) mkLeaf)) mkLeaf) (kcast (by kernel_rfl) h)

/-! ratchet_old_1 -/
def ratchet_old_1.main (R : Value → World → Prop) (k0_0 : Int) (k0_1 : Int) (t1 : Addr) (w : World) : Prop :=
  let w1 := w.alloc (.cells #[.int .i64 k0_0, .int .i64 k0_1] 113);
  ∃ x_1 : Int, w1.cell? (newA w) = some (.int .i64 x_1) ∧
  ∃ x_2 : Int, w1.cell? t1 = some (.int .i64 x_2) ∧
  R (.bool ((x_1 : Int) == x_2)) w1

def ratchet_old_1.J0 (_ : Value → World → Prop) (_ : Nat) (_ : Fr) (_ : World) : Prop := False

set_option maxRecDepth 100000 in
theorem ratchet_old_1.lift {R : Value → World → Prop} {k0_0 : Int} {k0_1 : Int} {t1 : Addr} {w : World} (h : ratchet_old_1.main R k0_0 k0_1 t1 w) : CallsV Tryd.prog n_ratchet_old_1 #[.agg #[.int .i64 k0_0, .int .i64 k0_1], .pointer (some t1)] w R :=
  liftCalls (c := (.seq (.leaf (cL (bd Tryd.f149))) (.seq (.leaf (cL (cR (bd Tryd.f149)))) (.leaf (cR (cR (bd Tryd.f149))))))) (J := ratchet_old_1.J0 R) LfYtoclhecldmahiaaDoor.mixed Tryd.func149 (by kernel_rfl) (by kernel_rfl) (mkSeq (mkSeq mkLeaf mkLeaf) mkLeaf) (kcast (by kernel_rfl) h)

/-! slices_Delete_Key -/
def slices_Delete_Key.main (R : Value → World → Prop) (s0 : Sl) (i1 : Int) (j2 : Int) (w : World) : Prop :=
  0 ≤ (i1 : Int) ∧ (i1 : Int) ≤ j2 ∧ (j2 : Int) ≤ ((s0.len : Nat) : Int) ∧ (((s0.len : Nat) : Int) : Int) ≤ ((s0.cap : Nat) : Int) ∧
  cond ((i1 : Int) == j2)
  (R (.slice s0.a s0.len s0.cap) w)
  (∃ S_1 : World → Prop, S_1 w.drew ∧
  0 ≤ ((0 : Int) : Int) ∧ ((0 : Int) : Int) ≤ i1 ∧ (i1 : Int) ≤ ((s0.cap : Nat) : Int) ∧ (((s0.cap : Nat) : Int) : Int) ≤ ((s0.cap : Nat) : Int) ∧
  0 ≤ (j2 : Int) ∧ (j2 : Int) ≤ ((s0.len : Nat) : Int) ∧ (((s0.len : Nat) : Int) : Int) ≤ ((s0.cap : Nat) : Int) ∧ (((s0.cap : Nat) : Int) : Int) ≤ ((s0.cap : Nat) : Int) ∧
  ∃ (a_2 : Option Addr) (l_3 c_4 : Nat), ∃ w1 : World, (builtin .append #[102, 102] 102 #[] #[.slice (if ((((s0.cap : Nat) : Int) : Int)).toNat = (((0 : Int) : Int)).toNat then s0.a else (s0.a).map (·.add ((((0 : Int) : Int)).toNat * 2))) (((i1 : Int)).toNat - (((0 : Int) : Int)).toNat) (((((s0.cap : Nat) : Int) : Int)).toNat - (((0 : Int) : Int)).toNat), .slice (if ((((s0.cap : Nat) : Int) : Int)).toNat = ((j2 : Int)).toNat then s0.a else (s0.a).map (·.add (((j2 : Int)).toNat * 2))) (((((s0.len : Nat) : Int) : Int)).toNat - ((j2 : Int)).toNat) (((((s0.cap : Nat) : Int) : Int)).toNat - ((j2 : Int)).toNat)]).run Tryd.prog w.drew = .ok (.value (.slice a_2 l_3 c_4)) w1 ∧
  0 ≤ (((l_3 : Nat) : Int) : Int) ∧ (((l_3 : Nat) : Int) : Int) ≤ ((s0.len : Nat) : Int) ∧ (((s0.len : Nat) : Int) : Int) ≤ ((c_4 : Nat) : Int) ∧ (((c_4 : Nat) : Int) : Int) ≤ ((c_4 : Nat) : Int) ∧
  ∃ w2 : World, (builtin .clear #[102] 0 #[] #[.slice (if ((((c_4 : Nat) : Int) : Int)).toNat = ((((l_3 : Nat) : Int) : Int)).toNat then a_2 else (a_2).map (·.add (((((l_3 : Nat) : Int) : Int)).toNat * 2))) (((((s0.len : Nat) : Int) : Int)).toNat - ((((l_3 : Nat) : Int) : Int)).toNat) (((((c_4 : Nat) : Int) : Int)).toNat - ((((l_3 : Nat) : Int) : Int)).toNat)]).run Tryd.prog w1 = .ok (.value (.tuple #[])) w2 ∧
  R (.slice a_2 l_3 c_4) w2)

def slices_Delete_Key.J0 (_ : Value → World → Prop) (_ : Nat) (_ : Fr) (_ : World) : Prop := False

set_option maxRecDepth 100000 in
theorem slices_Delete_Key.lift {R : Value → World → Prop} {s0 : Sl} {i1 : Int} {j2 : Int} {w : World} (h : slices_Delete_Key.main R s0 i1 j2 w) : CallsV Tryd.prog n_slices_Delete_Key #[.slice s0.a s0.len s0.cap, .int .i64 i1, .int .i64 j2] w R :=
  liftCalls (c := (.seq (.leaf (cL (bd Tryd.f150))) (.seq (.leaf (cL (cR (bd Tryd.f150)))) (.seq (.seq (.leaf (cL (cL (cR (cR (bd Tryd.f150)))))) (.cnd (.tmp 16) (.seq (.leaf (cL (cT (cR (cL (cR (cR (bd Tryd.f150)))))))) (.leaf (cR (cT (cR (cL (cR (cR (bd Tryd.f150))))))))) (.leaf (cE (cR (cL (cR (cR (bd Tryd.f150))))))))) (.seq (.leaf (cL (cR (cR (cR (bd Tryd.f150)))))) (.seq (.leaf (cL (cR (cR (cR (cR (bd Tryd.f150))))))) (.seq (.leaf (cL (cR (cR (cR (cR (cR (bd Tryd.f150)))))))) (.seq (.leaf (cL (cR (cR (cR (cR (cR (cR (bd Tryd.f150))))))))) (.leaf (cR (cR (cR (cR (cR (cR (cR (bd Tryd.f150))))))))))))))))) (J := slices_Delete_Key.J0 R) LfYtoclhecldmahiaaDoor.mixed Tryd.func150 (by kernel_rfl) (by kernel_rfl) (mkSeq (mkSeq (mkSeq (mkSeq (mkSeq (mkSeq (mkSeq mkLeaf mkLeaf) mkLeaf) mkLeaf) mkLeaf) (mkSeq (mkCnd (mkSeq mkLeaf mkLeaf) mkLeaf) mkLeaf)) mkLeaf) mkLeaf) (kcast (by kernel_rfl) h)

end Go.Proofs.YtoclhecldmahiaaDoor
