/-
  What the code of these functions comes to, and that it suffices for the call. Written by a program of ours, for this claim.
-/
import Derived.Test.YtnnpkjhpeefnbaaDoorProg
import Derived.Test.YtnnpkjhpeefnbaaDoorLift
set_option linter.unusedVariables false
namespace Go.Proofs.YtnnpkjhpeefnbaaDoor
open Go.Lf
theorem LfYtnnpkjhpeefnbaaDoor.mixed : Tryd.prog.follows .mixedOrders = true := by kernel_rfl
abbrev n_trystlaw15_NodesShared : Nat := 3
abbrev n_trystlaw15_NodesExact : Nat := 4
abbrev n_trystlaw15_NodesTree : Nat := 5
abbrev n_nodes_Path : Nat := 6
abbrev n_nodes_Has : Nat := 7
abbrev n_trystlaw15_wakes : Nat := 8
abbrev n_trystref15_Level : Nat := 9
abbrev n_trystref15_May : Nat := 10
abbrev n_nodes_May : Nat := 11
abbrev n_nodes_Level : Nat := 12
abbrev n_nodes_Root : Nat := 13
abbrev n_trystref15_Has : Nat := 14
abbrev n_nodes_Left : Nat := 15
abbrev n_nodes_Right : Nat := 16
abbrev n_trystref15_Kids : Nat := 17
abbrev n_nodes_Parent : Nat := 18
abbrev n_nodes_Sibling : Nat := 19
abbrev n_trystref15_Parent : Nat := 20
abbrev n_trystref15_Sibling : Nat := 21
abbrev n_trystkeep_Ints : Nat := 22
abbrev n_trystref15_Path : Nat := 23
abbrev n_bits_TrailingZeros64 : Nat := 24
abbrev n_nodes_child : Nat := 25
/-! trystlaw15_NodesShared -/
def trystlaw15_NodesShared.c1 (R : Value → World → Prop) (i1 : Int) (j2 : Int) (n7 : Int) (met12 : Bool) (w : World) : Prop :=
  cond (decide ((n7 : Int) > 1))
  (cond (met12 == true)
  (CallsV Tryd.prog n_trystlaw15_wakes #[] w (fun v_1 w1 =>
  ∃ b_2 : Bool, v_1 = .bool b_2 ∧
  R (.bool b_2) w1))
  (R (.bool false) w))
  (cond (met12 == ((i1 : Int) == j2))
  (CallsV Tryd.prog n_trystlaw15_wakes #[] w (fun v_3 w2 =>
  ∃ b_4 : Bool, v_3 = .bool b_4 ∧
  R (.bool b_4) w2))
  (R (.bool false) w))

def trystlaw15_NodesShared.c3 (R : Value → World → Prop) (N2 : Int → Int → Int → Sl → Sl → Bool → Int → World → Prop) (i1 : Int) (j2 : Int) (n7 : Int) (p8 : Sl) (q10 : Sl) (met12 : Bool) (x13 : Int) (w : World) : Prop :=
  ∃ S_5 : World → Prop, S_5 w.drew ∧
  0 ≤ (x13 : Int) ∧ x13 < ((p8.len : Nat) : Int) ∧ ∃ q_6 : Addr, p8.a = some q_6 ∧
  ∃ x_7 : Int, (∀ x, S_5 x → x.cell? (q_6.add (x13 : Int).toNat) = some (.int .i64 x_7)) ∧
  0 ≤ (x13 : Int) ∧ x13 < ((q10.len : Nat) : Int) ∧ ∃ q_8 : Addr, q10.a = some q_8 ∧
  ∃ x_9 : Int, (∀ x, S_5 x → x.cell? (q_8.add (x13 : Int).toNat) = some (.int .i64 x_9)) ∧
  0 ≤ (x13 : Int) ∧ x13 < ((p8.len : Nat) : Int) ∧ ∃ q_10 : Addr, p8.a = some q_10 ∧
  ∃ x_11 : Int, (∀ x, S_5 x → x.cell? (q_10.add (x13 : Int).toNat) = some (.int .i64 x_11)) ∧
  CallsV Tryd.prog n_nodes_Has #[.int .i64 x_11, .int .i64 j2] w.drew (fun v_12 w3 =>
  ∃ b_13 : Bool, v_12 = .bool b_13 ∧
  S_5 w3 ∧
  cond b_13
  (0 ≤ (x13 : Int) ∧ x13 < ((q10.len : Nat) : Int) ∧ ∃ q_14 : Addr, q10.a = some q_14 ∧
  ∃ x_15 : Int, (∀ x, S_5 x → x.cell? (q_14.add (x13 : Int).toNat) = some (.int .i64 x_15)) ∧
  CallsV Tryd.prog n_nodes_Has #[.int .i64 x_15, .int .i64 i1] w3 (fun v_16 w4 =>
  ∃ b_17 : Bool, v_16 = .bool b_17 ∧
  S_5 w4 ∧
  cond (!(((x_7 : Int) == x_9) == b_17))
  (R (.bool false) w4)
  (0 ≤ (x13 : Int) ∧ x13 < ((p8.len : Nat) : Int) ∧ ∃ q_18 : Addr, p8.a = some q_18 ∧
  ∃ x_19 : Int, (∀ x, S_5 x → x.cell? (q_18.add (x13 : Int).toNat) = some (.int .i64 x_19)) ∧
  0 ≤ (x13 : Int) ∧ x13 < ((q10.len : Nat) : Int) ∧ ∃ q_20 : Addr, q10.a = some q_20 ∧
  ∃ x_21 : Int, (∀ x, S_5 x → x.cell? (q_20.add (x13 : Int).toNat) = some (.int .i64 x_21)) ∧
  CallsV Tryd.prog n_nodes_Has #[.int .i64 x_19, .int .i64 j2] w4 (fun v_22 w5 =>
  ∃ b_23 : Bool, v_22 = .bool b_23 ∧
  S_5 w5 ∧
  CallsV Tryd.prog n_nodes_Has #[.int .i64 x_21, .int .i64 i1] w5 (fun v_24 w6 =>
  ∃ b_25 : Bool, v_24 = .bool b_25 ∧
  S_5 w6 ∧
  cond (!(b_23 == b_25))
  (R (.bool false) w6)
  ((let x13_25 : Int := (IntKind.i64.wrap (x13 + 1));
  N2 i1 j2 n7 p8 q10 met12 x13_25 w6)))))))
  (cond (!(((x_7 : Int) == x_9) == false))
  (R (.bool false) w3)
  (0 ≤ (x13 : Int) ∧ x13 < ((p8.len : Nat) : Int) ∧ ∃ q_27 : Addr, p8.a = some q_27 ∧
  ∃ x_28 : Int, (∀ x, S_5 x → x.cell? (q_27.add (x13 : Int).toNat) = some (.int .i64 x_28)) ∧
  0 ≤ (x13 : Int) ∧ x13 < ((q10.len : Nat) : Int) ∧ ∃ q_29 : Addr, q10.a = some q_29 ∧
  ∃ x_30 : Int, (∀ x, S_5 x → x.cell? (q_29.add (x13 : Int).toNat) = some (.int .i64 x_30)) ∧
  CallsV Tryd.prog n_nodes_Has #[.int .i64 x_28, .int .i64 j2] w3 (fun v_31 w7 =>
  ∃ b_32 : Bool, v_31 = .bool b_32 ∧
  S_5 w7 ∧
  CallsV Tryd.prog n_nodes_Has #[.int .i64 x_30, .int .i64 i1] w7 (fun v_33 w8 =>
  ∃ b_34 : Bool, v_33 = .bool b_34 ∧
  S_5 w8 ∧
  cond (!(b_32 == b_34))
  (R (.bool false) w8)
  ((let x13_34 : Int := (IntKind.i64.wrap (x13 + 1));
  N2 i1 j2 n7 p8 q10 met12 x13_34 w8)))))))

def trystlaw15_NodesShared.c4 (R : Value → World → Prop) (N2 : Int → Int → Int → Sl → Sl → Bool → Int → World → Prop) (i1 : Int) (j2 : Int) (n7 : Int) (p8 : Sl) (q10 : Sl) (met12 : Bool) (x13 : Int) (w : World) : Prop :=
  cond met12
  (trystlaw15_NodesShared.c3 R N2 i1 j2 n7 p8 q10 true x13 w.drew)
  (0 ≤ (x13 : Int) ∧ x13 < ((p8.len : Nat) : Int) ∧ ∃ q_36 : Addr, p8.a = some q_36 ∧
  ∃ x_37 : Int, w.cell? (q_36.add (x13 : Int).toNat) = some (.int .i64 x_37) ∧
  0 ≤ (x13 : Int) ∧ x13 < ((q10.len : Nat) : Int) ∧ ∃ q_38 : Addr, q10.a = some q_38 ∧
  ∃ x_39 : Int, w.cell? (q_38.add (x13 : Int).toNat) = some (.int .i64 x_39) ∧
  trystlaw15_NodesShared.c3 R N2 i1 j2 n7 p8 q10 ((x_37 : Int) == x_39) x13 w.drew)

def trystlaw15_NodesShared.b2 (R : Value → World → Prop) (N2 : Int → Int → Int → Sl → Sl → Bool → Int → World → Prop) (i1 : Int) (j2 : Int) (n7 : Int) (p8 : Sl) (q10 : Sl) (met12 : Bool) (x13 : Int) (w : World) : Prop :=
  cond (decide ((x13 : Int) < ((p8.len : Nat) : Int)))
  (cond met12
  (0 ≤ (x13 : Int) ∧ x13 < ((p8.len : Nat) : Int) ∧ ∃ q_40 : Addr, p8.a = some q_40 ∧
  ∃ x_41 : Int, w.cell? (q_40.add (x13 : Int).toNat) = some (.int .i64 x_41) ∧
  0 ≤ (x13 : Int) ∧ x13 < ((q10.len : Nat) : Int) ∧ ∃ q_42 : Addr, q10.a = some q_42 ∧
  ∃ x_43 : Int, w.cell? (q_42.add (x13 : Int).toNat) = some (.int .i64 x_43) ∧
  cond ((x_41 : Int) != x_43)
  (R (.bool false) w.drew)
  (trystlaw15_NodesShared.c4 R N2 i1 j2 n7 p8 q10 met12 x13 w.drew))
  (trystlaw15_NodesShared.c4 R N2 i1 j2 n7 p8 q10 met12 x13 w.drew))
  (trystlaw15_NodesShared.c1 R i1 j2 n7 met12 w)

def trystlaw15_NodesShared.l2 (R : Value → World → Prop) (i1 : Int) (j2 : Int) (n7 : Int) (p8 : Sl) (q10 : Sl) (met12 : Bool) (x13 : Int) (w : World) : Prop :=
  ∃ (I : (Bool × Int) → World → Prop) (μ : (Bool × Int) → World → Nat), I (met12, x13) w ∧ ∀ s w, I s w → trystlaw15_NodesShared.b2 R (fun i1' j2' n7' p8' q10' met12' x13' w' => (i1' = i1 ∧ j2' = j2 ∧ n7' = n7 ∧ p8' = p8 ∧ q10' = q10 ∧ I (met12', x13') w') ∧ μ (met12', x13') w' < μ s w) i1 j2 n7 p8 q10 s.1 s.2 w

def trystlaw15_NodesShared.c5 (R : Value → World → Prop) (i1 : Int) (j2 : Int) (n7 : Int) (p8 : Sl) (q10 : Sl) (w : World) : Prop :=
  trystlaw15_NodesShared.l2 R i1 j2 n7 p8 q10 ((i1 : Int) == j2) 0 w

def trystlaw15_NodesShared.main (R : Value → World → Prop) (k0 : Int) (i1 : Int) (j2 : Int) (w : World) : Prop :=
  (4 : Int) ≠ 0 ∧
  0 ≤ ((Int.tmod (IntKind.u64.wrap k0) 4) : Int) ∧
  (let n7_43 : Int := (IntKind.i64.wrap (1 * 2 ^ (min ((Int.tmod (IntKind.u64.wrap k0) 4) : Int).toNat IntKind.i64.bits)));
  (IntKind.u64.wrap n7_43) ≠ 0 ∧
  (IntKind.u64.wrap n7_43) ≠ 0 ∧
  (let i1_44 : Int := (IntKind.i64.wrap (Int.tmod (IntKind.u64.wrap i1) (IntKind.u64.wrap n7_43)));
  (let j2_45 : Int := (IntKind.i64.wrap (Int.tmod (IntKind.u64.wrap j2) (IntKind.u64.wrap n7_43)));
  CallsV Tryd.prog n_nodes_Path #[.int .i64 i1_44, .int .i64 n7_43] w.drew (fun v_47 w9 =>
  ∃ (a_48 : Option Addr) (l_49 c_50 : Nat), ∃ x_51 : Int, v_47 = .tuple #[.slice a_48 l_49 c_50, .int .i64 x_51] ∧
  CallsV Tryd.prog n_nodes_Path #[.int .i64 j2_45, .int .i64 n7_43] w9 (fun v_52 w10 =>
  ∃ (a_53 : Option Addr) (l_54 c_55 : Nat), ∃ x_56 : Int, v_52 = .tuple #[.slice a_53 l_54 c_55, .int .i64 x_56] ∧
  cond ((x_51 : Int) != 0)
  (R (.bool false) w10)
  (cond ((x_56 : Int) != 0)
  (R (.bool false) w10)
  (cond ((((l_49 : Nat) : Int) : Int) != ((l_54 : Nat) : Int))
  (R (.bool false) w10)
  (trystlaw15_NodesShared.c5 R i1_44 j2_45 n7_43 ⟨a_48, l_49, c_50⟩ ⟨a_53, l_54, c_55⟩ w10))))))))

def trystlaw15_NodesShared.J2 (R : Value → World → Prop) (N2 : Int → Int → Int → Sl → Sl → Bool → Int → World → Prop) (k : Nat) (fr : Fr) (w : World) : Prop :=
  cond (Nat.beq k 4) (dec [(1, (.int .i64)), (2, (.int .i64)), (7, (.int .i64)), (8, .slice), (10, .slice), (12, .bool), (13, (.int .i64))] fr fun x => trystlaw15_NodesShared.c4 R N2 x.1 x.2.1 x.2.2.1 x.2.2.2.1 x.2.2.2.2.1 x.2.2.2.2.2.1 x.2.2.2.2.2.2 w) (cond (Nat.beq k 3) (dec [(1, (.int .i64)), (2, (.int .i64)), (7, (.int .i64)), (8, .slice), (10, .slice), (12, .bool), (13, (.int .i64))] fr fun x => trystlaw15_NodesShared.c3 R N2 x.1 x.2.1 x.2.2.1 x.2.2.2.1 x.2.2.2.2.1 x.2.2.2.2.2.1 x.2.2.2.2.2.2 w) (False))

def trystlaw15_NodesShared.J0 (R : Value → World → Prop) (k : Nat) (fr : Fr) (w : World) : Prop :=
  cond (Nat.beq k 5) (dec [(1, (.int .i64)), (2, (.int .i64)), (7, (.int .i64)), (8, .slice), (10, .slice)] fr fun x => trystlaw15_NodesShared.c5 R x.1 x.2.1 x.2.2.1 x.2.2.2.1 x.2.2.2.2 w) (cond (Nat.beq k 2) (dec [(1, (.int .i64)), (2, (.int .i64)), (7, (.int .i64)), (8, .slice), (10, .slice), (12, .bool), (13, (.int .i64))] fr fun x => trystlaw15_NodesShared.l2 R x.1 x.2.1 x.2.2.1 x.2.2.2.1 x.2.2.2.2.1 x.2.2.2.2.2.1 x.2.2.2.2.2.2 w) (cond (Nat.beq k 1) (dec [(1, (.int .i64)), (2, (.int .i64)), (7, (.int .i64)), (12, .bool)] fr fun x => trystlaw15_NodesShared.c1 R x.1 x.2.1 x.2.2.1 x.2.2.2 w) (False)))

set_option maxRecDepth 100000 in
theorem trystlaw15_NodesShared.lift {R : Value → World → Prop} {k0 : Int} {i1 : Int} {j2 : Int} {w : World} (h : trystlaw15_NodesShared.main R k0 i1 j2 w) : CallsV Tryd.prog n_trystlaw15_NodesShared #[.int .i64 k0, .int .i64 i1, .int .i64 j2] w R :=
  liftCalls (c := (.seq (.leaf (cL (bd Tryd.f3))) (.seq (.leaf (cL (cR (bd Tryd.f3)))) (.seq (.leaf (cL (cR (cR (bd Tryd.f3))))) (.seq (.leaf (cL (cR (cR (cR (bd Tryd.f3)))))) (.seq (.leaf (cL (cR (cR (cR (cR (bd Tryd.f3))))))) (.seq (.seq (.leaf (cL (cL (cR (cR (cR (cR (cR (bd Tryd.f3))))))))) (.cnd (.tmp 54) (.seq (.leaf (cL (cT (cR (cL (cR (cR (cR (cR (cR (bd Tryd.f3))))))))))) (.leaf (cR (cT (cR (cL (cR (cR (cR (cR (cR (bd Tryd.f3)))))))))))) (.leaf (cE (cR (cL (cR (cR (cR (cR (cR (bd Tryd.f3)))))))))))) (.cut 5 (.seq (.leaf (cL (cR (cR (cR (cR (cR (cR (bd Tryd.f3))))))))) (.seq (.seq (.leaf (cL (cL (cR (cR (cR (cR (cR (cR (cR (bd Tryd.f3))))))))))) (.block 0 (.loop 2 (.seq (.seq (.leaf (cL (cL (cB (cB (cR (cL (cR (cR (cR (cR (cR (cR (cR (bd Tryd.f3))))))))))))))) (.cnd (.tmp 61) (.leaf (cT (cR (cL (cB (cB (cR (cL (cR (cR (cR (cR (cR (cR (cR (bd Tryd.f3)))))))))))))))) (.leaf (cE (cR (cL (cB (cB (cR (cL (cR (cR (cR (cR (cR (cR (cR (bd Tryd.f3)))))))))))))))))) (.seq (.block 1 (.seq (.seq (.leaf (cL (cL (cB (cL (cR (cB (cB (cR (cL (cR (cR (cR (cR (cR (cR (cR (bd Tryd.f3)))))))))))))))))) (.cnd (.tmp 75) (.seq (.leaf (cL (cT (cR (cL (cB (cL (cR (cB (cB (cR (cL (cR (cR (cR (cR (cR (cR (cR (bd Tryd.f3)))))))))))))))))))) (.leaf (cR (cT (cR (cL (cB (cL (cR (cB (cB (cR (cL (cR (cR (cR (cR (cR (cR (cR (bd Tryd.f3))))))))))))))))))))) (.leaf (cE (cR (cL (cB (cL (cR (cB (cB (cR (cL (cR (cR (cR (cR (cR (cR (cR (bd Tryd.f3))))))))))))))))))))) (.cut 4 (.seq (.leaf (cL (cR (cB (cL (cR (cB (cB (cR (cL (cR (cR (cR (cR (cR (cR (cR (bd Tryd.f3)))))))))))))))))) (.cut 3 (.seq (.leaf (cL (cR (cR (cB (cL (cR (cB (cB (cR (cL (cR (cR (cR (cR (cR (cR (cR (bd Tryd.f3))))))))))))))))))) (.cnd (.tmp 126) (.seq (.leaf (cL (cT (cR (cR (cR (cB (cL (cR (cB (cB (cR (cL (cR (cR (cR (cR (cR (cR (cR (bd Tryd.f3))))))))))))))))))))) (.leaf (cR (cT (cR (cR (cR (cB (cL (cR (cB (cB (cR (cL (cR (cR (cR (cR (cR (cR (cR (bd Tryd.f3)))))))))))))))))))))) (.leaf (cE (cR (cR (cR (cB (cL (cR (cB (cB (cR (cL (cR (cR (cR (cR (cR (cR (cR (bd Tryd.f3))))))))))))))))))))))))))) (.leaf (cR (cR (cB (cB (cR (cL (cR (cR (cR (cR (cR (cR (cR (bd Tryd.f3)))))))))))))))))))) (.cut 1 (.seq (.leaf (cL (cR (cR (cR (cR (cR (cR (cR (cR (bd Tryd.f3))))))))))) (.leaf (cR (cR (cR (cR (cR (cR (cR (cR (cR (bd Tryd.f3))))))))))))))))))))))) (J := trystlaw15_NodesShared.J0 R) LfYtnnpkjhpeefnbaaDoor.mixed Tryd.func3 (by kernel_rfl) (by kernel_rfl) (mkSeq (mkSeq (mkSeq (mkSeq (mkSeq (mkSeq (mkCut (cutDef [(1, (.int .i64)), (2, (.int .i64)), (7, (.int .i64)), (8, .slice), (10, .slice)] (fun x w => trystlaw15_NodesShared.c5 R x.1 x.2.1 x.2.2.1 x.2.2.2.1 x.2.2.2.2 w) (fun _ _ => by kernel_rfl) (fun _ _ => by kernel_rfl)) (mkSeq (mkSeq (mkCut (cutDef [(1, (.int .i64)), (2, (.int .i64)), (7, (.int .i64)), (12, .bool)] (fun x w => trystlaw15_NodesShared.c1 R x.1 x.2.1 x.2.2.1 x.2.2.2 w) (fun _ _ => by kernel_rfl) (fun _ _ => by kernel_rfl)) (mkSeq mkLeaf mkLeaf)) (mkSeq (mkBlock (mkLoop (loopDef LfYtnnpkjhpeefnbaaDoor.mixed [(1, (.int .i64)), (2, (.int .i64)), (7, (.int .i64)), (8, .slice), (10, .slice), (12, .bool), (13, (.int .i64))] (by kernel_rfl) (fun M2 x w => trystlaw15_NodesShared.b2 R (fun y0 y1 y2 y3 y4 y5 y6 w => M2 (y0, y1, y2, y3, y4, y5, y6) w) x.1 x.2.1 x.2.2.1 x.2.2.2.1 x.2.2.2.2.1 x.2.2.2.2.2.1 x.2.2.2.2.2.2 w) (fun M2 => trystlaw15_NodesShared.J2 R (fun y0 y1 y2 y3 y4 y5 y6 w => M2 (y0, y1, y2, y3, y4, y5, y6) w)) (fun _ _ _ => by kernel_rfl) (fun M2 => (mkSeq (mkSeq mkLeaf (mkBlock (mkSeq (mkCut (cutDef [(1, (.int .i64)), (2, (.int .i64)), (7, (.int .i64)), (8, .slice), (10, .slice), (12, .bool), (13, (.int .i64))] (fun x w => trystlaw15_NodesShared.c4 R (fun y0 y1 y2 y3 y4 y5 y6 w => M2 (y0, y1, y2, y3, y4, y5, y6) w) x.1 x.2.1 x.2.2.1 x.2.2.2.1 x.2.2.2.2.1 x.2.2.2.2.2.1 x.2.2.2.2.2.2 w) (fun _ _ => by kernel_rfl) (fun _ _ => by kernel_rfl)) (mkSeq (mkCut (cutDef [(1, (.int .i64)), (2, (.int .i64)), (7, (.int .i64)), (8, .slice), (10, .slice), (12, .bool), (13, (.int .i64))] (fun x w => trystlaw15_NodesShared.c3 R (fun y0 y1 y2 y3 y4 y5 y6 w => M2 (y0, y1, y2, y3, y4, y5, y6) w) x.1 x.2.1 x.2.2.1 x.2.2.2.1 x.2.2.2.2.1 x.2.2.2.2.2.1 x.2.2.2.2.2.2 w) (fun _ _ => by kernel_rfl) (fun _ _ => by kernel_rfl)) (mkSeq (mkCnd (mkSeq mkLeaf mkLeaf) mkLeaf) mkLeaf)) mkLeaf)) (mkSeq (mkCnd (mkSeq mkLeaf mkLeaf) mkLeaf) mkLeaf)))) (mkSeq (mkCnd mkLeaf mkLeaf) mkLeaf))) (fun x w => trystlaw15_NodesShared.l2 R x.1 x.2.1 x.2.2.1 x.2.2.2.1 x.2.2.2.2.1 x.2.2.2.2.2.1 x.2.2.2.2.2.2 w) (by rintro ⟨c0, c1, c2, c3, c4, s0⟩ w ⟨I, μ, h0, h1⟩; refine ⟨fun y w => y.1 = c0 ∧ y.2.1 = c1 ∧ y.2.2.1 = c2 ∧ y.2.2.2.1 = c3 ∧ y.2.2.2.2.1 = c4 ∧ I y.2.2.2.2.2 w, fun y w => μ y.2.2.2.2.2 w, ⟨rfl, rfl, rfl, rfl, rfl, h0⟩, ?_⟩; rintro ⟨d0, d1, d2, d3, d4, t0⟩ w ⟨e0, e1, e2, e3, e4, hI⟩; dsimp only at e0 e1 e2 e3 e4 hI; subst e0; subst e1; subst e2; subst e3; subst e4; exact h1 _ _ hI) (fun _ _ => by kernel_rfl)))) mkLeaf)) mkLeaf)) (mkSeq (mkCnd (mkSeq mkLeaf mkLeaf) mkLeaf) mkLeaf)) mkLeaf) mkLeaf) mkLeaf) mkLeaf) mkLeaf) (kcast (by kernel_rfl) h)

/-! trystlaw15_NodesExact -/
def trystlaw15_NodesExact.c1 (R : Value → World → Prop) (n1 : Int) (i2 : Int) (e10 : Int) (w21 : Sl) (w : World) : Prop :=
  cond ((e10 : Int) == 0)
  (CallsV Tryd.prog n_trystref15_Path #[.int .i64 i2, .int .i64 n1] w (fun v_1 w1 =>
  ∃ (a_2 : Option Addr) (l_3 c_4 : Nat), v_1 = .slice a_2 l_3 c_4 ∧
  CallsV Tryd.prog n_trystkeep_Ints #[.slice w21.a w21.len w21.cap, .slice a_2 l_3 c_4] w1 (fun v_5 w2 =>
  ∃ b_6 : Bool, v_5 = .bool b_6 ∧
  cond b_6
  (CallsV Tryd.prog n_trystlaw15_wakes #[] w2 (fun v_7 w3 =>
  ∃ b_8 : Bool, v_7 = .bool b_8 ∧
  R (.bool b_8) w3))
  (R (.bool false) w2))))
  (R (.bool false) w)

def trystlaw15_NodesExact.c2 (R : Value → World → Prop) (e10 : Int) (w21 : Sl) (w : World) : Prop :=
  cond ((e10 : Int) == 1)
  (cond ((((w21.len : Nat) : Int) : Int) == 0)
  (CallsV Tryd.prog n_trystlaw15_wakes #[] w (fun v_9 w4 =>
  ∃ b_10 : Bool, v_9 = .bool b_10 ∧
  R (.bool b_10) w4))
  (R (.bool false) w))
  (R (.bool false) w)

def trystlaw15_NodesExact.c3 (R : Value → World → Prop) (n1 : Int) (i2 : Int) (w : World) : Prop :=
  CallsV Tryd.prog n_nodes_Path #[.int .i64 i2, .int .i64 n1] w (fun v_11 w5 =>
  ∃ (a_12 : Option Addr) (l_13 c_14 : Nat), ∃ x_15 : Int, v_11 = .tuple #[.slice a_12 l_13 c_14, .int .i64 x_15] ∧
  CallsV Tryd.prog n_trystref15_May #[.int .i64 n1] w5 (fun v_16 w6 =>
  ∃ b_17 : Bool, v_16 = .bool b_17 ∧
  cond (!b_17)
  (trystlaw15_NodesExact.c2 R x_15 ⟨a_12, l_13, c_14⟩ w6)
  (cond (decide ((i2 : Int) < 0))
  (trystlaw15_NodesExact.c2 R x_15 ⟨a_12, l_13, c_14⟩ w6)
  (cond (decide ((i2 : Int) ≥ n1))
  (trystlaw15_NodesExact.c2 R x_15 ⟨a_12, l_13, c_14⟩ w6)
  (trystlaw15_NodesExact.c1 R n1 i2 x_15 ⟨a_12, l_13, c_14⟩ w6)))))

def trystlaw15_NodesExact.c4 (R : Value → World → Prop) (x0 : Int) (n1 : Int) (i2 : Int) (w : World) : Prop :=
  CallsV Tryd.prog n_nodes_Parent #[.int .i64 x0, .int .i64 n1] w (fun v_18 w7 =>
  ∃ x_19 : Int, ∃ x_20 : Int, v_18 = .tuple #[.int .i64 x_19, .int .i64 x_20] ∧
  CallsV Tryd.prog n_nodes_Sibling #[.int .i64 x0, .int .i64 n1] w7 (fun v_21 w8 =>
  ∃ x_22 : Int, ∃ x_23 : Int, v_21 = .tuple #[.int .i64 x_22, .int .i64 x_23] ∧
  CallsV Tryd.prog n_trystref15_Parent #[.int .i64 x0, .int .i64 n1] w8 (fun v_24 w9 =>
  ∃ x_25 : Int, ∃ b_26 : Bool, v_24 = .tuple #[.int .i64 x_25, .bool b_26] ∧
  CallsV Tryd.prog n_trystref15_Sibling #[.int .i64 x0, .int .i64 n1] w9 (fun v_27 w10 =>
  ∃ x_28 : Int, ∃ b_29 : Bool, v_27 = .tuple #[.int .i64 x_28, .bool b_29] ∧
  cond (!(b_26 == ((x_20 : Int) == 0)))
  (R (.bool false) w10)
  (cond ((x_20 : Int) != x_23)
  (R (.bool false) w10)
  (cond ((x_19 : Int) != x_25)
  (R (.bool false) w10)
  (cond ((x_22 : Int) != x_28)
  (R (.bool false) w10)
  (cond (!b_26)
  (cond ((x_20 : Int) != 1)
  (R (.bool false) w10)
  (trystlaw15_NodesExact.c3 R n1 i2 w10))
  (trystlaw15_NodesExact.c3 R n1 i2 w10)))))))))

def trystlaw15_NodesExact.c5 (R : Value → World → Prop) (x0 : Int) (n1 : Int) (i2 : Int) (w : World) : Prop :=
  CallsV Tryd.prog n_nodes_Left #[.int .i64 x0] w (fun v_30 w11 =>
  ∃ x_31 : Int, ∃ x_32 : Int, v_30 = .tuple #[.int .i64 x_31, .int .i64 x_32] ∧
  CallsV Tryd.prog n_nodes_Right #[.int .i64 x0] w11 (fun v_33 w12 =>
  ∃ x_34 : Int, ∃ x_35 : Int, v_33 = .tuple #[.int .i64 x_34, .int .i64 x_35] ∧
  CallsV Tryd.prog n_trystref15_Kids #[.int .i64 x0] w12 (fun v_36 w13 =>
  ∃ x_37 : Int, ∃ x_38 : Int, ∃ b_39 : Bool, v_36 = .tuple #[.int .i64 x_37, .int .i64 x_38, .bool b_39] ∧
  cond (!(b_39 == ((x_32 : Int) == 0)))
  (R (.bool false) w13)
  (cond ((x_32 : Int) != x_35)
  (R (.bool false) w13)
  (cond ((x_31 : Int) != x_37)
  (R (.bool false) w13)
  (cond ((x_34 : Int) != x_38)
  (R (.bool false) w13)
  (cond (!b_39)
  (cond ((x_32 : Int) != 1)
  (R (.bool false) w13)
  (trystlaw15_NodesExact.c4 R x0 n1 i2 w13))
  (trystlaw15_NodesExact.c4 R x0 n1 i2 w13))))))))

def trystlaw15_NodesExact.c6 (R : Value → World → Prop) (x0 : Int) (n1 : Int) (i2 : Int) (level7 : Int) (root8 : Int) (w : World) : Prop :=
  CallsV Tryd.prog n_nodes_May #[.int .i64 n1] w (fun v_40 w14 =>
  ∃ b_41 : Bool, v_40 = .bool b_41 ∧
  CallsV Tryd.prog n_trystref15_May #[.int .i64 n1] w14 (fun v_42 w15 =>
  ∃ b_43 : Bool, v_42 = .bool b_43 ∧
  cond (!(b_41 == b_43))
  (R (.bool false) w15)
  (CallsV Tryd.prog n_nodes_Level #[.int .i64 x0] w15 (fun v_44 w16 =>
  ∃ x_45 : Int, v_44 = .int .i64 x_45 ∧
  cond ((x_45 : Int) != level7)
  (R (.bool false) w16)
  (CallsV Tryd.prog n_nodes_Root #[.int .i64 n1] w16 (fun v_46 w17 =>
  ∃ x_47 : Int, v_46 = .int .i64 x_47 ∧
  cond ((x_47 : Int) != root8)
  (R (.bool false) w17)
  (CallsV Tryd.prog n_nodes_Has #[.int .i64 x0, .int .i64 i2] w17 (fun v_48 w18 =>
  ∃ b_49 : Bool, v_48 = .bool b_49 ∧
  CallsV Tryd.prog n_trystref15_Has #[.int .i64 x0, .int .i64 i2] w18 (fun v_50 w19 =>
  ∃ b_51 : Bool, v_50 = .bool b_51 ∧
  cond (!(b_49 == b_51))
  (R (.bool false) w19)
  (trystlaw15_NodesExact.c5 R x0 n1 i2 w19))))))))))

def trystlaw15_NodesExact.c7 (R : Value → World → Prop) (x0 : Int) (n1 : Int) (i2 : Int) (level7 : Int) (root8 : Int) (w : World) : Prop :=
  CallsV Tryd.prog n_trystref15_May #[.int .i64 n1] w (fun v_52 w20 =>
  ∃ b_53 : Bool, v_52 = .bool b_53 ∧
  cond b_53
  ((let root8_53 : Int := (IntKind.i64.wrap (n1 - 1));
  trystlaw15_NodesExact.c6 R x0 n1 i2 level7 root8_53 w20))
  (trystlaw15_NodesExact.c6 R x0 n1 i2 level7 root8 w20))

def trystlaw15_NodesExact.main (R : Value → World → Prop) (x0 : Int) (n1 : Int) (i2 : Int) (w : World) : Prop :=
  cond (decide ((x0 : Int) ≥ 0))
  (CallsV Tryd.prog n_trystref15_Level #[.int .i64 x0] w (fun v_55 w21 =>
  ∃ x_56 : Int, v_55 = .int .i64 x_56 ∧
  trystlaw15_NodesExact.c7 R x0 n1 i2 x_56 0 w21))
  (trystlaw15_NodesExact.c7 R x0 n1 i2 0 0 w)

def trystlaw15_NodesExact.J0 (R : Value → World → Prop) (k : Nat) (fr : Fr) (w : World) : Prop :=
  cond (Nat.beq k 7) (dec [(0, (.int .i64)), (1, (.int .i64)), (2, (.int .i64)), (7, (.int .i64)), (8, (.int .i64))] fr fun x => trystlaw15_NodesExact.c7 R x.1 x.2.1 x.2.2.1 x.2.2.2.1 x.2.2.2.2 w) (cond (Nat.beq k 6) (dec [(0, (.int .i64)), (1, (.int .i64)), (2, (.int .i64)), (7, (.int .i64)), (8, (.int .i64))] fr fun x => trystlaw15_NodesExact.c6 R x.1 x.2.1 x.2.2.1 x.2.2.2.1 x.2.2.2.2 w) (cond (Nat.beq k 5) (dec [(0, (.int .i64)), (1, (.int .i64)), (2, (.int .i64))] fr fun x => trystlaw15_NodesExact.c5 R x.1 x.2.1 x.2.2 w) (cond (Nat.beq k 4) (dec [(0, (.int .i64)), (1, (.int .i64)), (2, (.int .i64))] fr fun x => trystlaw15_NodesExact.c4 R x.1 x.2.1 x.2.2 w) (cond (Nat.beq k 3) (dec [(1, (.int .i64)), (2, (.int .i64))] fr fun x => trystlaw15_NodesExact.c3 R x.1 x.2 w) (cond (Nat.beq k 2) (dec [(10, (.int .i64)), (21, .slice)] fr fun x => trystlaw15_NodesExact.c2 R x.1 x.2 w) (cond (Nat.beq k 1) (dec [(1, (.int .i64)), (2, (.int .i64)), (10, (.int .i64)), (21, .slice)] fr fun x => trystlaw15_NodesExact.c1 R x.1 x.2.1 x.2.2.1 x.2.2.2 w) (False)))))))

set_option maxRecDepth 100000 in
theorem trystlaw15_NodesExact.lift {R : Value → World → Prop} {x0 : Int} {n1 : Int} {i2 : Int} {w : World} (h : trystlaw15_NodesExact.main R x0 n1 i2 w) : CallsV Tryd.prog n_trystlaw15_NodesExact #[.int .i64 x0, .int .i64 n1, .int .i64 i2] w R :=
  liftCalls (c := (.seq (.leaf (cL (bd Tryd.f4))) (.seq (.leaf (cL (cR (bd Tryd.f4)))) (.seq (.seq (.leaf (cL (cL (cR (cR (bd Tryd.f4)))))) (.cnd (.tmp 23) (.leaf (cT (cR (cL (cR (cR (bd Tryd.f4))))))) (.leaf (cE (cR (cL (cR (cR (bd Tryd.f4))))))))) (.cut 7 (.seq (.seq (.leaf (cL (cL (cR (cR (cR (bd Tryd.f4))))))) (.cnd (.tmp 27) (.leaf (cT (cR (cL (cR (cR (cR (bd Tryd.f4)))))))) (.leaf (cE (cR (cL (cR (cR (cR (bd Tryd.f4)))))))))) (.cut 6 (.seq (.seq (.leaf (cL (cL (cR (cR (cR (cR (bd Tryd.f4)))))))) (.cnd (.tmp 55) (.seq (.leaf (cL (cT (cR (cL (cR (cR (cR (cR (bd Tryd.f4)))))))))) (.leaf (cR (cT (cR (cL (cR (cR (cR (cR (bd Tryd.f4))))))))))) (.leaf (cE (cR (cL (cR (cR (cR (cR (bd Tryd.f4))))))))))) (.cut 5 (.seq (.leaf (cL (cR (cR (cR (cR (cR (bd Tryd.f4)))))))) (.seq (.leaf (cL (cR (cR (cR (cR (cR (cR (bd Tryd.f4))))))))) (.seq (.leaf (cL (cR (cR (cR (cR (cR (cR (cR (bd Tryd.f4)))))))))) (.seq (.seq (.leaf (cL (cL (cR (cR (cR (cR (cR (cR (cR (cR (bd Tryd.f4)))))))))))) (.cnd (.tmp 98) (.seq (.leaf (cL (cT (cR (cL (cR (cR (cR (cR (cR (cR (cR (cR (bd Tryd.f4)))))))))))))) (.leaf (cR (cT (cR (cL (cR (cR (cR (cR (cR (cR (cR (cR (bd Tryd.f4))))))))))))))) (.leaf (cE (cR (cL (cR (cR (cR (cR (cR (cR (cR (cR (bd Tryd.f4))))))))))))))) (.cut 4 (.seq (.leaf (cL (cR (cR (cR (cR (cR (cR (cR (cR (cR (bd Tryd.f4)))))))))))) (.seq (.leaf (cL (cR (cR (cR (cR (cR (cR (cR (cR (cR (cR (bd Tryd.f4))))))))))))) (.seq (.leaf (cL (cR (cR (cR (cR (cR (cR (cR (cR (cR (cR (cR (bd Tryd.f4)))))))))))))) (.seq (.leaf (cL (cR (cR (cR (cR (cR (cR (cR (cR (cR (cR (cR (cR (bd Tryd.f4))))))))))))))) (.seq (.seq (.leaf (cL (cL (cR (cR (cR (cR (cR (cR (cR (cR (cR (cR (cR (cR (cR (bd Tryd.f4))))))))))))))))) (.cnd (.tmp 149) (.seq (.leaf (cL (cT (cR (cL (cR (cR (cR (cR (cR (cR (cR (cR (cR (cR (cR (cR (cR (bd Tryd.f4))))))))))))))))))) (.leaf (cR (cT (cR (cL (cR (cR (cR (cR (cR (cR (cR (cR (cR (cR (cR (cR (cR (bd Tryd.f4)))))))))))))))))))) (.leaf (cE (cR (cL (cR (cR (cR (cR (cR (cR (cR (cR (cR (cR (cR (cR (cR (bd Tryd.f4)))))))))))))))))))) (.cut 3 (.seq (.leaf (cL (cR (cR (cR (cR (cR (cR (cR (cR (cR (cR (cR (cR (cR (cR (bd Tryd.f4))))))))))))))))) (.seq (.seq (.leaf (cL (cL (cR (cR (cR (cR (cR (cR (cR (cR (cR (cR (cR (cR (cR (cR (cR (bd Tryd.f4))))))))))))))))))) (.cnd (.tmp 167) (.cut 2 (.seq (.leaf (cL (cT (cR (cL (cR (cR (cR (cR (cR (cR (cR (cR (cR (cR (cR (cR (cR (cR (cR (bd Tryd.f4))))))))))))))))))))) (.leaf (cR (cT (cR (cL (cR (cR (cR (cR (cR (cR (cR (cR (cR (cR (cR (cR (cR (cR (cR (bd Tryd.f4))))))))))))))))))))))) (.leaf (cE (cR (cL (cR (cR (cR (cR (cR (cR (cR (cR (cR (cR (cR (cR (cR (cR (cR (bd Tryd.f4)))))))))))))))))))))) (.cut 1 (.seq (.leaf (cL (cR (cR (cR (cR (cR (cR (cR (cR (cR (cR (cR (cR (cR (cR (cR (cR (bd Tryd.f4))))))))))))))))))) (.leaf (cR (cR (cR (cR (cR (cR (cR (cR (cR (cR (cR (cR (cR (cR (cR (cR (cR (bd Tryd.f4))))))))))))))))))))))))))))))))))))))))))) (J := trystlaw15_NodesExact.J0 R) LfYtnnpkjhpeefnbaaDoor.mixed Tryd.func4 (by kernel_rfl) (by kernel_rfl) (mkSeq (mkSeq (mkSeq (mkCut (cutDef [(0, (.int .i64)), (1, (.int .i64)), (2, (.int .i64)), (7, (.int .i64)), (8, (.int .i64))] (fun x w => trystlaw15_NodesExact.c7 R x.1 x.2.1 x.2.2.1 x.2.2.2.1 x.2.2.2.2 w) (fun _ _ => by kernel_rfl) (fun _ _ => by kernel_rfl)) (mkSeq (mkCut (cutDef [(0, (.int .i64)), (1, (.int .i64)), (2, (.int .i64)), (7, (.int .i64)), (8, (.int .i64))] (fun x w => trystlaw15_NodesExact.c6 R x.1 x.2.1 x.2.2.1 x.2.2.2.1 x.2.2.2.2 w) (fun _ _ => by kernel_rfl) (fun _ _ => by kernel_rfl)) (mkSeq (mkCut (cutDef [(0, (.int .i64)), (1, (.int .i64)), (2, (.int .i64))] (fun x w => trystlaw15_NodesExact.c5 R x.1 x.2.1 x.2.2 w) (fun _ _ => by kernel_rfl) (fun _ _ => by kernel_rfl)) (mkSeq (mkSeq (mkSeq (mkSeq (mkCut (cutDef [(0, (.int .i64)), (1, (.int .i64)), (2, (.int .i64))] (fun x w => trystlaw15_NodesExact.c4 R x.1 x.2.1 x.2.2 w) (fun _ _ => by kernel_rfl) (fun _ _ => by kernel_rfl)) (mkSeq (mkSeq (mkSeq (mkSeq (mkSeq (mkCut (cutDef [(1, (.int .i64)), (2, (.int .i64))] (fun x w => trystlaw15_NodesExact.c3 R x.1 x.2 w) (fun _ _ => by kernel_rfl) (fun _ _ => by kernel_rfl)) (mkSeq (mkSeq (mkCut (cutDef [(1, (.int .i64)), (2, (.int .i64)), (10, (.int .i64)), (21, .slice)] (fun x w => trystlaw15_NodesExact.c1 R x.1 x.2.1 x.2.2.1 x.2.2.2 w) (fun _ _ => by kernel_rfl) (fun _ _ => by kernel_rfl)) (mkSeq mkLeaf mkLeaf)) (mkSeq (mkCnd (mkCut (cutDef [(10, (.int .i64)), (21, .slice)] (fun x w => trystlaw15_NodesExact.c2 R x.1 x.2 w) (fun _ _ => by kernel_rfl) (fun _ _ => by kernel_rfl)) (mkSeq mkLeaf mkLeaf)) mkLeaf) mkLeaf)) mkLeaf)) (mkSeq (mkCnd (mkSeq mkLeaf mkLeaf) mkLeaf) mkLeaf)) mkLeaf) mkLeaf) mkLeaf) mkLeaf)) (mkSeq (mkCnd (mkSeq mkLeaf mkLeaf) mkLeaf) mkLeaf)) mkLeaf) mkLeaf) mkLeaf)) (mkSeq (mkCnd (mkSeq mkLeaf mkLeaf) mkLeaf) mkLeaf))) (mkSeq (mkCnd mkLeaf mkLeaf) mkLeaf))) (mkSeq (mkCnd mkLeaf mkLeaf) mkLeaf)) mkLeaf) mkLeaf) (kcast (by kernel_rfl) h)

/-! trystlaw15_NodesTree -/
def trystlaw15_NodesTree.c1 (R : Value → World → Prop) (n5 : Int) (w : World) : Prop :=
  CallsV Tryd.prog n_nodes_Root #[.int .i64 n5] w (fun v_1 w1 =>
  ∃ x_2 : Int, v_1 = .int .i64 x_2 ∧
  CallsV Tryd.prog n_nodes_Has #[.int .i64 x_2, .int .i64 (IntKind.i64.wrap (n5 - 1))] w1 (fun v_3 w2 =>
  ∃ b_4 : Bool, v_3 = .bool b_4 ∧
  cond b_4
  (CallsV Tryd.prog n_nodes_Root #[.int .i64 n5] w2 (fun v_5 w3 =>
  ∃ x_6 : Int, v_5 = .int .i64 x_6 ∧
  CallsV Tryd.prog n_nodes_Has #[.int .i64 x_6, .int .i64 0] w3 (fun v_7 w4 =>
  ∃ b_8 : Bool, v_7 = .bool b_8 ∧
  cond b_8
  (CallsV Tryd.prog n_trystlaw15_wakes #[] w4 (fun v_9 w5 =>
  ∃ b_10 : Bool, v_9 = .bool b_10 ∧
  R (.bool b_10) w5))
  (R (.bool false) w4))))
  (R (.bool false) w2)))

def trystlaw15_NodesTree.b3 (R : Value → World → Prop) (N2 : Int → Int → Int → World → Prop) (N3 : Int → Int → Int → Sl → Int → World → Prop) (x1 : Int) (n5 : Int) (i14 : Int) (p19 : Sl) (j21 : Int) (w : World) : Prop :=
  cond (decide ((j21 : Int) < ((p19.len : Nat) : Int)))
  (0 ≤ (j21 : Int) ∧ j21 < ((p19.len : Nat) : Int) ∧ ∃ q_11 : Addr, p19.a = some q_11 ∧
  ∃ x_12 : Int, w.cell? (q_11.add (j21 : Int).toNat) = some (.int .i64 x_12) ∧
  CallsV Tryd.prog n_nodes_Has #[.int .i64 x_12, .int .i64 i14] w (fun v_13 w6 =>
  ∃ b_14 : Bool, v_13 = .bool b_14 ∧
  cond (!b_14)
  (R (.bool false) w6)
  (0 ≤ (j21 : Int) ∧ j21 < ((p19.len : Nat) : Int) ∧ ∃ q_15 : Addr, p19.a = some q_15 ∧
  ∃ x_16 : Int, w6.cell? (q_15.add (j21 : Int).toNat) = some (.int .i64 x_16) ∧
  CallsV Tryd.prog n_nodes_Level #[.int .i64 x_16] w6 (fun v_17 w7 =>
  ∃ x_18 : Int, v_17 = .int .i64 x_18 ∧
  cond ((x_18 : Int) != (IntKind.i64.wrap (j21 + 1)))
  (R (.bool false) w7)
  ((let j21_18 : Int := (IntKind.i64.wrap (j21 + 1));
  N3 x1 n5 i14 p19 j21_18 w7))))))
  ((let i14_19 : Int := (IntKind.i64.wrap (i14 + 1));
  N2 x1 n5 i14_19 w))

def trystlaw15_NodesTree.l3 (R : Value → World → Prop) (N2 : Int → Int → Int → World → Prop) (x1 : Int) (n5 : Int) (i14 : Int) (p19 : Sl) (j21 : Int) (w : World) : Prop :=
  ∃ (I : Int → World → Prop) (μ : Int → World → Nat), I j21 w ∧ ∀ s w, I s w → trystlaw15_NodesTree.b3 R N2 (fun x1' n5' i14' p19' j21' w' => (x1' = x1 ∧ n5' = n5 ∧ i14' = i14 ∧ p19' = p19 ∧ I j21' w') ∧ μ j21' w' < μ s w) x1 n5 i14 p19 s w

def trystlaw15_NodesTree.c4 (R : Value → World → Prop) (N2 : Int → Int → Int → World → Prop) (x1 : Int) (n5 : Int) (i14 : Int) (p19 : Sl) (w : World) : Prop :=
  trystlaw15_NodesTree.l3 R N2 x1 n5 i14 p19 0 w

def trystlaw15_NodesTree.c5 (R : Value → World → Prop) (N2 : Int → Int → Int → World → Prop) (x1 : Int) (n5 : Int) (i14 : Int) (p19 : Sl) (w : World) : Prop :=
  ∃ S_21 : World → Prop, S_21 w.drew ∧
  cond (decide ((((p19.len : Nat) : Int) : Int) > 0))
  (0 ≤ ((IntKind.i64.wrap (((p19.len : Nat) : Int) - 1)) : Int) ∧ (IntKind.i64.wrap (((p19.len : Nat) : Int) - 1)) < ((p19.len : Nat) : Int) ∧ ∃ q_22 : Addr, p19.a = some q_22 ∧
  ∃ x_23 : Int, (∀ x, S_21 x → x.cell? (q_22.add (ixOff ((IntKind.i64.wrap (((p19.len : Nat) : Int) - 1)) : Int).toNat 1)) = some (.int .i64 x_23)) ∧
  CallsV Tryd.prog n_nodes_Root #[.int .i64 n5] w.drew (fun v_24 w8 =>
  ∃ x_25 : Int, v_24 = .int .i64 x_25 ∧
  S_21 w8 ∧
  cond ((x_23 : Int) != x_25)
  (R (.bool false) w8)
  (trystlaw15_NodesTree.c4 R N2 x1 n5 i14 p19 w8)))
  (trystlaw15_NodesTree.c4 R N2 x1 n5 i14 p19 w.drew)

def trystlaw15_NodesTree.c6 (R : Value → World → Prop) (N2 : Int → Int → Int → World → Prop) (x1 : Int) (n5 : Int) (i14 : Int) (w : World) : Prop :=
  CallsV Tryd.prog n_nodes_Path #[.int .i64 i14, .int .i64 n5] w (fun v_26 w9 =>
  ∃ (a_27 : Option Addr) (l_28 c_29 : Nat), ∃ x_30 : Int, v_26 = .tuple #[.slice a_27 l_28 c_29, .int .i64 x_30] ∧
  cond ((x_30 : Int) != 0)
  (R (.bool false) w9)
  (cond (decide ((n5 : Int) > 1))
  (cond ((((l_28 : Nat) : Int) : Int) == 0)
  (R (.bool false) w9)
  (cond ((n5 : Int) == 1)
  (cond (decide ((((l_28 : Nat) : Int) : Int) > 0))
  (R (.bool false) w9)
  (trystlaw15_NodesTree.c5 R N2 x1 n5 i14 ⟨a_27, l_28, c_29⟩ w9))
  (trystlaw15_NodesTree.c5 R N2 x1 n5 i14 ⟨a_27, l_28, c_29⟩ w9)))
  (cond ((n5 : Int) == 1)
  (cond (decide ((((l_28 : Nat) : Int) : Int) > 0))
  (R (.bool false) w9)
  (trystlaw15_NodesTree.c5 R N2 x1 n5 i14 ⟨a_27, l_28, c_29⟩ w9))
  (trystlaw15_NodesTree.c5 R N2 x1 n5 i14 ⟨a_27, l_28, c_29⟩ w9))))

def trystlaw15_NodesTree.b2 (R : Value → World → Prop) (N2 : Int → Int → Int → World → Prop) (x1 : Int) (n5 : Int) (i14 : Int) (w : World) : Prop :=
  cond (decide ((i14 : Int) < n5))
  (CallsV Tryd.prog n_nodes_Level #[.int .i64 x1] w (fun v_31 w10 =>
  ∃ x_32 : Int, v_31 = .int .i64 x_32 ∧
  cond (decide ((x_32 : Int) > 0))
  (CallsV Tryd.prog n_nodes_Left #[.int .i64 x1] w10 (fun v_33 w11 =>
  ∃ x_34 : Int, ∃ x_35 : Int, v_33 = .tuple #[.int .i64 x_34, .int .i64 x_35] ∧
  CallsV Tryd.prog n_nodes_Right #[.int .i64 x1] w11 (fun v_36 w12 =>
  ∃ x_37 : Int, ∃ x_38 : Int, v_36 = .tuple #[.int .i64 x_37, .int .i64 x_38] ∧
  CallsV Tryd.prog n_nodes_Has #[.int .i64 x1, .int .i64 i14] w12 (fun v_39 w13 =>
  ∃ b_40 : Bool, v_39 = .bool b_40 ∧
  CallsV Tryd.prog n_nodes_Has #[.int .i64 x_34, .int .i64 i14] w13 (fun v_41 w14 =>
  ∃ b_42 : Bool, v_41 = .bool b_42 ∧
  cond b_42
  (cond (!(b_40 == true))
  (R (.bool false) w14)
  (CallsV Tryd.prog n_nodes_Has #[.int .i64 x_34, .int .i64 i14] w14 (fun v_43 w15 =>
  ∃ b_44 : Bool, v_43 = .bool b_44 ∧
  cond b_44
  (CallsV Tryd.prog n_nodes_Has #[.int .i64 x_37, .int .i64 i14] w15 (fun v_45 w16 =>
  ∃ b_46 : Bool, v_45 = .bool b_46 ∧
  cond b_46
  (R (.bool false) w16)
  (trystlaw15_NodesTree.c6 R N2 x1 n5 i14 w16)))
  (trystlaw15_NodesTree.c6 R N2 x1 n5 i14 w15))))
  (CallsV Tryd.prog n_nodes_Has #[.int .i64 x_37, .int .i64 i14] w14 (fun v_47 w17 =>
  ∃ b_48 : Bool, v_47 = .bool b_48 ∧
  cond (!(b_40 == b_48))
  (R (.bool false) w17)
  (CallsV Tryd.prog n_nodes_Has #[.int .i64 x_34, .int .i64 i14] w17 (fun v_49 w18 =>
  ∃ b_50 : Bool, v_49 = .bool b_50 ∧
  cond b_50
  (CallsV Tryd.prog n_nodes_Has #[.int .i64 x_37, .int .i64 i14] w18 (fun v_51 w19 =>
  ∃ b_52 : Bool, v_51 = .bool b_52 ∧
  cond b_52
  (R (.bool false) w19)
  (trystlaw15_NodesTree.c6 R N2 x1 n5 i14 w19)))
  (trystlaw15_NodesTree.c6 R N2 x1 n5 i14 w18))))))))))
  (CallsV Tryd.prog n_nodes_Has #[.int .i64 x1, .int .i64 i14] w10 (fun v_53 w20 =>
  ∃ b_54 : Bool, v_53 = .bool b_54 ∧
  cond (!(b_54 == ((x1 : Int) == (IntKind.i64.wrap (2 * i14)))))
  (R (.bool false) w20)
  (trystlaw15_NodesTree.c6 R N2 x1 n5 i14 w20)))))
  (trystlaw15_NodesTree.c1 R n5 w)

def trystlaw15_NodesTree.l2 (R : Value → World → Prop) (x1 : Int) (n5 : Int) (i14 : Int) (w : World) : Prop :=
  ∃ (I : Int → World → Prop) (μ : Int → World → Nat), I i14 w ∧ ∀ s w, I s w → trystlaw15_NodesTree.b2 R (fun x1' n5' i14' w' => (x1' = x1 ∧ n5' = n5 ∧ I i14' w') ∧ μ i14' w' < μ s w) x1 n5 s w

def trystlaw15_NodesTree.c7 (R : Value → World → Prop) (x1 : Int) (n5 : Int) (w : World) : Prop :=
  trystlaw15_NodesTree.l2 R x1 n5 0 w

def trystlaw15_NodesTree.main (R : Value → World → Prop) (k0 : Int) (x1 : Int) (w : World) : Prop :=
  (4 : Int) ≠ 0 ∧
  0 ≤ ((Int.tmod (IntKind.u64.wrap k0) 4) : Int) ∧
  (let n5_54 : Int := (IntKind.i64.wrap (1 * 2 ^ (min ((Int.tmod (IntKind.u64.wrap k0) 4) : Int).toNat IntKind.i64.bits)));
  (IntKind.u64.wrap (IntKind.i64.wrap ((IntKind.i64.wrap (2 * n5_54)) - 1))) ≠ 0 ∧
  (let x1_55 : Int := (IntKind.i64.wrap (Int.tmod (IntKind.u64.wrap x1) (IntKind.u64.wrap (IntKind.i64.wrap ((IntKind.i64.wrap (2 * n5_54)) - 1)))));
  CallsV Tryd.prog n_nodes_Root #[.int .i64 n5_54] w (fun v_57 w21 =>
  ∃ x_58 : Int, v_57 = .int .i64 x_58 ∧
  cond ((x1_55 : Int) != x_58)
  (CallsV Tryd.prog n_nodes_Parent #[.int .i64 x1_55, .int .i64 n5_54] w21 (fun v_59 w22 =>
  ∃ x_60 : Int, ∃ x_61 : Int, v_59 = .tuple #[.int .i64 x_60, .int .i64 x_61] ∧
  CallsV Tryd.prog n_nodes_Sibling #[.int .i64 x1_55, .int .i64 n5_54] w22 (fun v_62 w23 =>
  ∃ x_63 : Int, ∃ x_64 : Int, v_62 = .tuple #[.int .i64 x_63, .int .i64 x_64] ∧
  CallsV Tryd.prog n_nodes_Left #[.int .i64 x_60] w23 (fun v_65 w24 =>
  ∃ x_66 : Int, ∃ x_67 : Int, v_65 = .tuple #[.int .i64 x_66, .int .i64 x_67] ∧
  CallsV Tryd.prog n_nodes_Right #[.int .i64 x_60] w24 (fun v_68 w25 =>
  ∃ x_69 : Int, ∃ x_70 : Int, v_68 = .tuple #[.int .i64 x_69, .int .i64 x_70] ∧
  cond ((x_61 : Int) != 0)
  (R (.bool false) w25)
  (cond ((x_64 : Int) != 0)
  (R (.bool false) w25)
  (cond ((x_67 : Int) != 0)
  (R (.bool false) w25)
  (cond ((x_70 : Int) != 0)
  (R (.bool false) w25)
  (cond (decide ((x_66 : Int) ≥ x_60))
  (R (.bool false) w25)
  (cond (decide ((x_69 : Int) ≤ x_60))
  (R (.bool false) w25)
  (cond ((x_66 : Int) == x1_55)
  (cond ((x_69 : Int) == x_63)
  (CallsV Tryd.prog n_nodes_Level #[.int .i64 x_60] w25 (fun v_71 w26 =>
  ∃ x_72 : Int, v_71 = .int .i64 x_72 ∧
  CallsV Tryd.prog n_nodes_Level #[.int .i64 x1_55] w26 (fun v_73 w27 =>
  ∃ x_74 : Int, v_73 = .int .i64 x_74 ∧
  cond ((x_72 : Int) != (IntKind.i64.wrap (x_74 + 1)))
  (R (.bool false) w27)
  (trystlaw15_NodesTree.c7 R x1_55 n5_54 w27))))
  (cond ((x_66 : Int) == x_63)
  (cond (!((x_69 : Int) == x1_55))
  (R (.bool false) w25)
  (CallsV Tryd.prog n_nodes_Level #[.int .i64 x_60] w25 (fun v_75 w28 =>
  ∃ x_76 : Int, v_75 = .int .i64 x_76 ∧
  CallsV Tryd.prog n_nodes_Level #[.int .i64 x1_55] w28 (fun v_77 w29 =>
  ∃ x_78 : Int, v_77 = .int .i64 x_78 ∧
  cond ((x_76 : Int) != (IntKind.i64.wrap (x_78 + 1)))
  (R (.bool false) w29)
  (trystlaw15_NodesTree.c7 R x1_55 n5_54 w29)))))
  (R (.bool false) w25)))
  (cond ((x_66 : Int) == x_63)
  (cond (!((x_69 : Int) == x1_55))
  (R (.bool false) w25)
  (CallsV Tryd.prog n_nodes_Level #[.int .i64 x_60] w25 (fun v_79 w30 =>
  ∃ x_80 : Int, v_79 = .int .i64 x_80 ∧
  CallsV Tryd.prog n_nodes_Level #[.int .i64 x1_55] w30 (fun v_81 w31 =>
  ∃ x_82 : Int, v_81 = .int .i64 x_82 ∧
  cond ((x_80 : Int) != (IntKind.i64.wrap (x_82 + 1)))
  (R (.bool false) w31)
  (trystlaw15_NodesTree.c7 R x1_55 n5_54 w31)))))
  (R (.bool false) w25)))))))))))))
  (trystlaw15_NodesTree.c7 R x1_55 n5_54 w21))))

def trystlaw15_NodesTree.J2 (R : Value → World → Prop) (N2 : Int → Int → Int → World → Prop) (k : Nat) (fr : Fr) (w : World) : Prop :=
  cond (Nat.beq k 6) (dec [(1, (.int .i64)), (5, (.int .i64)), (14, (.int .i64))] fr fun x => trystlaw15_NodesTree.c6 R N2 x.1 x.2.1 x.2.2 w) (cond (Nat.beq k 5) (dec [(1, (.int .i64)), (5, (.int .i64)), (14, (.int .i64)), (19, .slice)] fr fun x => trystlaw15_NodesTree.c5 R N2 x.1 x.2.1 x.2.2.1 x.2.2.2 w) (cond (Nat.beq k 4) (dec [(1, (.int .i64)), (5, (.int .i64)), (14, (.int .i64)), (19, .slice)] fr fun x => trystlaw15_NodesTree.c4 R N2 x.1 x.2.1 x.2.2.1 x.2.2.2 w) (cond (Nat.beq k 3) (dec [(1, (.int .i64)), (5, (.int .i64)), (14, (.int .i64)), (19, .slice), (21, (.int .i64))] fr fun x => trystlaw15_NodesTree.l3 R N2 x.1 x.2.1 x.2.2.1 x.2.2.2.1 x.2.2.2.2 w) (False))))

def trystlaw15_NodesTree.J0 (R : Value → World → Prop) (k : Nat) (fr : Fr) (w : World) : Prop :=
  cond (Nat.beq k 7) (dec [(1, (.int .i64)), (5, (.int .i64))] fr fun x => trystlaw15_NodesTree.c7 R x.1 x.2 w) (cond (Nat.beq k 2) (dec [(1, (.int .i64)), (5, (.int .i64)), (14, (.int .i64))] fr fun x => trystlaw15_NodesTree.l2 R x.1 x.2.1 x.2.2 w) (cond (Nat.beq k 1) (dec [(5, (.int .i64))] fr fun x => trystlaw15_NodesTree.c1 R x w) (False)))

set_option maxRecDepth 100000 in
theorem trystlaw15_NodesTree.lift {R : Value → World → Prop} {k0 : Int} {x1 : Int} {w : World} (h : trystlaw15_NodesTree.main R k0 x1 w) : CallsV Tryd.prog n_trystlaw15_NodesTree #[.int .i64 k0, .int .i64 x1] w R :=
  liftCalls (c := (.seq (.leaf (cL (bd Tryd.f5))) (.seq (.leaf (cL (cR (bd Tryd.f5)))) (.seq (.leaf (cL (cR (cR (bd Tryd.f5))))) (.seq (.seq (.leaf (cL (cL (cR (cR (cR (bd Tryd.f5))))))) (.cnd (.tmp 37) (.seq (.leaf (cL (cT (cR (cL (cR (cR (cR (bd Tryd.f5))))))))) (.seq (.leaf (cL (cR (cT (cR (cL (cR (cR (cR (bd Tryd.f5)))))))))) (.seq (.leaf (cL (cR (cR (cT (cR (cL (cR (cR (cR (bd Tryd.f5))))))))))) (.seq (.leaf (cL (cR (cR (cR (cT (cR (cL (cR (cR (cR (bd Tryd.f5)))))))))))) (.seq (.leaf (cL (cR (cR (cR (cR (cT (cR (cL (cR (cR (cR (bd Tryd.f5))))))))))))) (.cnd (.tmp 112) (.seq (.leaf (cL (cT (cR (cR (cR (cR (cR (cT (cR (cL (cR (cR (cR (bd Tryd.f5))))))))))))))) (.leaf (cR (cT (cR (cR (cR (cR (cR (cT (cR (cL (cR (cR (cR (bd Tryd.f5)))))))))))))))) (.leaf (cE (cR (cR (cR (cR (cR (cT (cR (cL (cR (cR (cR (bd Tryd.f5)))))))))))))))))))) (.leaf (cE (cR (cL (cR (cR (cR (bd Tryd.f5)))))))))) (.cut 7 (.seq (.seq (.leaf (cL (cL (cR (cR (cR (cR (bd Tryd.f5)))))))) (.block 0 (.loop 2 (.seq (.seq (.leaf (cL (cL (cB (cB (cR (cL (cR (cR (cR (cR (bd Tryd.f5)))))))))))) (.cnd (.tmp 115) (.leaf (cT (cR (cL (cB (cB (cR (cL (cR (cR (cR (cR (bd Tryd.f5))))))))))))) (.leaf (cE (cR (cL (cB (cB (cR (cL (cR (cR (cR (cR (bd Tryd.f5))))))))))))))) (.seq (.block 1 (.seq (.seq (.leaf (cL (cL (cB (cL (cR (cB (cB (cR (cL (cR (cR (cR (cR (bd Tryd.f5))))))))))))))) (.cnd (.tmp 120) (.seq (.leaf (cL (cT (cR (cL (cB (cL (cR (cB (cB (cR (cL (cR (cR (cR (cR (bd Tryd.f5))))))))))))))))) (.seq (.leaf (cL (cR (cT (cR (cL (cB (cL (cR (cB (cB (cR (cL (cR (cR (cR (cR (bd Tryd.f5)))))))))))))))))) (.seq (.leaf (cL (cR (cR (cT (cR (cL (cB (cL (cR (cB (cB (cR (cL (cR (cR (cR (cR (bd Tryd.f5))))))))))))))))))) (.cnd (.tmp 152) (.seq (.leaf (cL (cT (cR (cR (cR (cT (cR (cL (cB (cL (cR (cB (cB (cR (cL (cR (cR (cR (cR (bd Tryd.f5))))))))))))))))))))) (.leaf (cR (cT (cR (cR (cR (cT (cR (cL (cB (cL (cR (cB (cB (cR (cL (cR (cR (cR (cR (bd Tryd.f5)))))))))))))))))))))) (.leaf (cE (cR (cR (cR (cT (cR (cL (cB (cL (cR (cB (cB (cR (cL (cR (cR (cR (cR (bd Tryd.f5)))))))))))))))))))))))) (.seq (.leaf (cL (cE (cR (cL (cB (cL (cR (cB (cB (cR (cL (cR (cR (cR (cR (bd Tryd.f5))))))))))))))))) (.cnd (.tmp 160) (.seq (.leaf (cL (cT (cR (cE (cR (cL (cB (cL (cR (cB (cB (cR (cL (cR (cR (cR (cR (bd Tryd.f5))))))))))))))))))) (.leaf (cR (cT (cR (cE (cR (cL (cB (cL (cR (cB (cB (cR (cL (cR (cR (cR (cR (bd Tryd.f5)))))))))))))))))))) (.leaf (cE (cR (cE (cR (cL (cB (cL (cR (cB (cB (cR (cL (cR (cR (cR (cR (bd Tryd.f5)))))))))))))))))))))) (.cut 6 (.seq (.leaf (cL (cR (cB (cL (cR (cB (cB (cR (cL (cR (cR (cR (cR (bd Tryd.f5))))))))))))))) (.seq (.seq (.leaf (cL (cL (cR (cR (cB (cL (cR (cB (cB (cR (cL (cR (cR (cR (cR (bd Tryd.f5))))))))))))))))) (.cnd (.tmp 186) (.seq (.leaf (cL (cT (cR (cL (cR (cR (cB (cL (cR (cB (cB (cR (cL (cR (cR (cR (cR (bd Tryd.f5))))))))))))))))))) (.leaf (cR (cT (cR (cL (cR (cR (cB (cL (cR (cB (cB (cR (cL (cR (cR (cR (cR (bd Tryd.f5)))))))))))))))))))) (.leaf (cE (cR (cL (cR (cR (cB (cL (cR (cB (cB (cR (cL (cR (cR (cR (cR (bd Tryd.f5)))))))))))))))))))) (.cut 5 (.seq (.seq (.leaf (cL (cL (cR (cR (cR (cB (cL (cR (cB (cB (cR (cL (cR (cR (cR (cR (bd Tryd.f5)))))))))))))))))) (.cnd (.tmp 200) (.seq (.leaf (cL (cT (cR (cL (cR (cR (cR (cB (cL (cR (cB (cB (cR (cL (cR (cR (cR (cR (bd Tryd.f5)))))))))))))))))))) (.leaf (cR (cT (cR (cL (cR (cR (cR (cB (cL (cR (cB (cB (cR (cL (cR (cR (cR (cR (bd Tryd.f5))))))))))))))))))))) (.leaf (cE (cR (cL (cR (cR (cR (cB (cL (cR (cB (cB (cR (cL (cR (cR (cR (cR (bd Tryd.f5))))))))))))))))))))) (.cut 4 (.seq (.leaf (cL (cR (cR (cR (cR (cB (cL (cR (cB (cB (cR (cL (cR (cR (cR (cR (bd Tryd.f5)))))))))))))))))) (.block 2 (.loop 3 (.seq (.seq (.leaf (cL (cL (cB (cB (cR (cR (cR (cR (cR (cB (cL (cR (cB (cB (cR (cL (cR (cR (cR (cR (bd Tryd.f5)))))))))))))))))))))) (.cnd (.tmp 204) (.leaf (cT (cR (cL (cB (cB (cR (cR (cR (cR (cR (cB (cL (cR (cB (cB (cR (cL (cR (cR (cR (cR (bd Tryd.f5))))))))))))))))))))))) (.leaf (cE (cR (cL (cB (cB (cR (cR (cR (cR (cR (cB (cL (cR (cB (cB (cR (cL (cR (cR (cR (cR (bd Tryd.f5))))))))))))))))))))))))) (.seq (.block 3 (.seq (.leaf (cL (cB (cL (cR (cB (cB (cR (cR (cR (cR (cR (cB (cL (cR (cB (cB (cR (cL (cR (cR (cR (cR (bd Tryd.f5)))))))))))))))))))))))) (.cnd (.tmp 223) (.seq (.leaf (cL (cT (cR (cB (cL (cR (cB (cB (cR (cR (cR (cR (cR (cB (cL (cR (cB (cB (cR (cL (cR (cR (cR (cR (bd Tryd.f5)))))))))))))))))))))))))) (.leaf (cR (cT (cR (cB (cL (cR (cB (cB (cR (cR (cR (cR (cR (cB (cL (cR (cB (cB (cR (cL (cR (cR (cR (cR (bd Tryd.f5))))))))))))))))))))))))))) (.leaf (cE (cR (cB (cL (cR (cB (cB (cR (cR (cR (cR (cR (cB (cL (cR (cB (cB (cR (cL (cR (cR (cR (cR (bd Tryd.f5)))))))))))))))))))))))))))) (.leaf (cR (cR (cB (cB (cR (cR (cR (cR (cR (cB (cL (cR (cB (cB (cR (cL (cR (cR (cR (cR (bd Tryd.f5))))))))))))))))))))))))))))))))))) (.leaf (cR (cR (cB (cB (cR (cL (cR (cR (cR (cR (bd Tryd.f5))))))))))))))))) (.cut 1 (.seq (.leaf (cL (cR (cR (cR (cR (cR (bd Tryd.f5)))))))) (.leaf (cR (cR (cR (cR (cR (cR (bd Tryd.f5))))))))))))))))) (J := trystlaw15_NodesTree.J0 R) LfYtnnpkjhpeefnbaaDoor.mixed Tryd.func5 (by kernel_rfl) (by kernel_rfl) (mkSeq (mkSeq (mkSeq (mkSeq (mkCut (cutDef [(1, (.int .i64)), (5, (.int .i64))] (fun x w => trystlaw15_NodesTree.c7 R x.1 x.2 w) (fun _ _ => by kernel_rfl) (fun _ _ => by kernel_rfl)) (mkSeq (mkCut (cutDef [(5, (.int .i64))] (fun x w => trystlaw15_NodesTree.c1 R x w) (fun _ _ => by kernel_rfl) (fun _ _ => by kernel_rfl)) (mkSeq mkLeaf mkLeaf)) (mkSeq (mkBlock (mkLoop (loopDef LfYtnnpkjhpeefnbaaDoor.mixed [(1, (.int .i64)), (5, (.int .i64)), (14, (.int .i64))] (by kernel_rfl) (fun M2 x w => trystlaw15_NodesTree.b2 R (fun y0 y1 y2 w => M2 (y0, y1, y2) w) x.1 x.2.1 x.2.2 w) (fun M2 => trystlaw15_NodesTree.J2 R (fun y0 y1 y2 w => M2 (y0, y1, y2) w)) (fun _ _ _ => by kernel_rfl) (fun M2 => (mkSeq (mkSeq mkLeaf (mkBlock (mkSeq (mkCut (cutDef [(1, (.int .i64)), (5, (.int .i64)), (14, (.int .i64))] (fun x w => trystlaw15_NodesTree.c6 R (fun y0 y1 y2 w => M2 (y0, y1, y2) w) x.1 x.2.1 x.2.2 w) (fun _ _ => by kernel_rfl) (fun _ _ => by kernel_rfl)) (mkSeq (mkSeq (mkCut (cutDef [(1, (.int .i64)), (5, (.int .i64)), (14, (.int .i64)), (19, .slice)] (fun x w => trystlaw15_NodesTree.c5 R (fun y0 y1 y2 w => M2 (y0, y1, y2) w) x.1 x.2.1 x.2.2.1 x.2.2.2 w) (fun _ _ => by kernel_rfl) (fun _ _ => by kernel_rfl)) (mkSeq (mkCut (cutDef [(1, (.int .i64)), (5, (.int .i64)), (14, (.int .i64)), (19, .slice)] (fun x w => trystlaw15_NodesTree.c4 R (fun y0 y1 y2 w => M2 (y0, y1, y2) w) x.1 x.2.1 x.2.2.1 x.2.2.2 w) (fun _ _ => by kernel_rfl) (fun _ _ => by kernel_rfl)) (mkSeq (mkBlock (mkLoop (loopDef LfYtnnpkjhpeefnbaaDoor.mixed [(1, (.int .i64)), (5, (.int .i64)), (14, (.int .i64)), (19, .slice), (21, (.int .i64))] (by kernel_rfl) (fun M3 x w => trystlaw15_NodesTree.b3 R (fun y0 y1 y2 w => M2 (y0, y1, y2) w) (fun y0 y1 y2 y3 y4 w => M3 (y0, y1, y2, y3, y4) w) x.1 x.2.1 x.2.2.1 x.2.2.2.1 x.2.2.2.2 w) (fun M3 => fun _ _ _ => False) (fun _ _ _ => by kernel_rfl) (fun M3 => (mkSeq (mkSeq mkLeaf (mkBlock (mkSeq (mkCnd (mkSeq mkLeaf mkLeaf) mkLeaf) mkLeaf))) (mkSeq (mkCnd mkLeaf mkLeaf) mkLeaf))) (fun x w => trystlaw15_NodesTree.l3 R (fun y0 y1 y2 w => M2 (y0, y1, y2) w) x.1 x.2.1 x.2.2.1 x.2.2.2.1 x.2.2.2.2 w) (by rintro ⟨c0, c1, c2, c3, s0⟩ w ⟨I, μ, h0, h1⟩; refine ⟨fun y w => y.1 = c0 ∧ y.2.1 = c1 ∧ y.2.2.1 = c2 ∧ y.2.2.2.1 = c3 ∧ I y.2.2.2.2 w, fun y w => μ y.2.2.2.2 w, ⟨rfl, rfl, rfl, rfl, h0⟩, ?_⟩; rintro ⟨d0, d1, d2, d3, t0⟩ w ⟨e0, e1, e2, e3, hI⟩; dsimp only at e0 e1 e2 e3 hI; subst e0; subst e1; subst e2; subst e3; exact h1 _ _ hI) (fun _ _ => by kernel_rfl)))) mkLeaf)) (mkSeq (mkCnd (mkSeq mkLeaf mkLeaf) mkLeaf) mkLeaf))) (mkSeq (mkCnd (mkSeq mkLeaf mkLeaf) mkLeaf) mkLeaf)) mkLeaf)) (mkSeq (mkCnd (mkSeq (mkSeq (mkSeq (mkCnd (mkSeq mkLeaf mkLeaf) mkLeaf) mkLeaf) mkLeaf) mkLeaf) (mkSeq (mkCnd (mkSeq mkLeaf mkLeaf) mkLeaf) mkLeaf)) mkLeaf)))) (mkSeq (mkCnd mkLeaf mkLeaf) mkLeaf))) (fun x w => trystlaw15_NodesTree.l2 R x.1 x.2.1 x.2.2 w) (by rintro ⟨c0, c1, s0⟩ w ⟨I, μ, h0, h1⟩; refine ⟨fun y w => y.1 = c0 ∧ y.2.1 = c1 ∧ I y.2.2 w, fun y w => μ y.2.2 w, ⟨rfl, rfl, h0⟩, ?_⟩; rintro ⟨d0, d1, t0⟩ w ⟨e0, e1, hI⟩; dsimp only at e0 e1 hI; subst e0; subst e1; exact h1 _ _ hI) (fun _ _ => by kernel_rfl)))) mkLeaf))) (mkSeq (mkCnd (mkSeq (mkSeq (mkSeq (mkSeq (mkSeq (mkCnd (mkSeq mkLeaf mkLeaf) mkLeaf) mkLeaf) mkLeaf) mkLeaf) mkLeaf) mkLeaf) mkLeaf) mkLeaf)) mkLeaf) mkLeaf) mkLeaf) (kcast (by kernel_rfl) h)

/-! nodes_Path -/
def nodes_Path.b1 (R : Value → World → Prop) (N1 : Int → Sl → Int → World → Prop) (n1 : Int) (out6 : Sl) (x7 : Int) (w : World) : Prop :=
  CallsV Tryd.prog n_nodes_Root #[.int .i64 n1] w (fun v_1 w1 =>
  ∃ x_2 : Int, v_1 = .int .i64 x_2 ∧
  cond ((x7 : Int) != x_2)
  (CallsV Tryd.prog n_nodes_Parent #[.int .i64 x7, .int .i64 n1] w1 (fun v_3 w2 =>
  ∃ x_4 : Int, ∃ x_5 : Int, v_3 = .tuple #[.int .i64 x_4, .int .i64 x_5] ∧
  let w3 := w2.alloc (.cells #[.int .i64 x_4] 3);
  ∃ (a_6 : Option Addr) (l_7 c_8 : Nat), ∃ w4 : World, (builtin .append #[23, 23] 23 #[] #[.slice out6.a out6.len out6.cap, .slice (some (newA w2)) 1 1]).run Tryd.prog w3 = .ok (.value (.slice a_6 l_7 c_8)) w4 ∧
  N1 n1 ⟨a_6, l_7, c_8⟩ x_4 w4))
  (R (.tuple #[.slice out6.a out6.len out6.cap, .int .i64 0]) w1))

def nodes_Path.l1 (R : Value → World → Prop) (n1 : Int) (out6 : Sl) (x7 : Int) (w : World) : Prop :=
  ∃ (I : (Sl × Int) → World → Prop) (μ : (Sl × Int) → World → Nat), I (out6, x7) w ∧ ∀ s w, I s w → nodes_Path.b1 R (fun n1' out6' x7' w' => (n1' = n1 ∧ I (out6', x7') w') ∧ μ (out6', x7') w' < μ s w) n1 s.1 s.2 w

def nodes_Path.c2 (R : Value → World → Prop) (i0 : Int) (n1 : Int) (w : World) : Prop :=
  (let x7_8 : Int := (IntKind.i64.wrap (2 * i0));
  nodes_Path.l1 R n1 ⟨none, 0, 0⟩ x7_8 w)

def nodes_Path.main (R : Value → World → Prop) (i0 : Int) (n1 : Int) (w : World) : Prop :=
  CallsV Tryd.prog n_nodes_May #[.int .i64 n1] w (fun v_10 w5 =>
  ∃ b_11 : Bool, v_10 = .bool b_11 ∧
  cond (!b_11)
  (R (.tuple #[.slice none 0 0, .int .i64 1]) w5)
  (cond (decide ((i0 : Int) < 0))
  (R (.tuple #[.slice none 0 0, .int .i64 1]) w5)
  (cond (decide ((i0 : Int) ≥ n1))
  (R (.tuple #[.slice none 0 0, .int .i64 1]) w5)
  (nodes_Path.c2 R i0 n1 w5))))

def nodes_Path.J0 (R : Value → World → Prop) (k : Nat) (fr : Fr) (w : World) : Prop :=
  cond (Nat.beq k 2) (dec [(0, (.int .i64)), (1, (.int .i64))] fr fun x => nodes_Path.c2 R x.1 x.2 w) (cond (Nat.beq k 1) (dec [(1, (.int .i64)), (6, .slice), (7, (.int .i64))] fr fun x => nodes_Path.l1 R x.1 x.2.1 x.2.2 w) (False))

set_option maxRecDepth 100000 in
theorem nodes_Path.lift {R : Value → World → Prop} {i0 : Int} {n1 : Int} {w : World} (h : nodes_Path.main R i0 n1 w) : CallsV Tryd.prog n_nodes_Path #[.int .i64 i0, .int .i64 n1] w R :=
  liftCalls (c := (.seq (.leaf (cL (bd Tryd.f6))) (.seq (.seq (.leaf (cL (cL (cR (bd Tryd.f6))))) (.cnd (.tmp 19) (.seq (.leaf (cL (cT (cR (cL (cR (bd Tryd.f6))))))) (.leaf (cR (cT (cR (cL (cR (bd Tryd.f6)))))))) (.leaf (cE (cR (cL (cR (bd Tryd.f6)))))))) (.cut 2 (.seq (.leaf (cL (cR (cR (bd Tryd.f6))))) (.seq (.seq (.leaf (cL (cL (cR (cR (cR (bd Tryd.f6))))))) (.block 0 (.loop 1 (.seq (.seq (.leaf (cL (cL (cB (cB (cR (cL (cR (cR (cR (bd Tryd.f6))))))))))) (.cnd (.tmp 25) (.leaf (cT (cR (cL (cB (cB (cR (cL (cR (cR (cR (bd Tryd.f6)))))))))))) (.leaf (cE (cR (cL (cB (cB (cR (cL (cR (cR (cR (bd Tryd.f6)))))))))))))) (.block 1 (.seq (.leaf (cL (cB (cR (cB (cB (cR (cL (cR (cR (cR (bd Tryd.f6)))))))))))) (.leaf (cR (cB (cR (cB (cB (cR (cL (cR (cR (cR (bd Tryd.f6)))))))))))))))))) (.seq (.leaf (cL (cR (cR (cR (cR (bd Tryd.f6))))))) (.leaf (cR (cR (cR (cR (cR (bd Tryd.f6)))))))))))))) (J := nodes_Path.J0 R) LfYtnnpkjhpeefnbaaDoor.mixed Tryd.func6 (by kernel_rfl) (by kernel_rfl) (mkSeq (mkSeq (mkCut (cutDef [(0, (.int .i64)), (1, (.int .i64))] (fun x w => nodes_Path.c2 R x.1 x.2 w) (fun _ _ => by kernel_rfl) (fun _ _ => by kernel_rfl)) (mkSeq (mkSeq (mkSeq mkLeaf mkLeaf) (mkSeq (mkBlock (mkLoop (loopDef LfYtnnpkjhpeefnbaaDoor.mixed [(1, (.int .i64)), (6, .slice), (7, (.int .i64))] (by kernel_rfl) (fun M1 x w => nodes_Path.b1 R (fun y0 y1 y2 w => M1 (y0, y1, y2) w) x.1 x.2.1 x.2.2 w) (fun M1 => fun _ _ _ => False) (fun _ _ _ => by kernel_rfl) (fun M1 => (mkSeq (mkBlock (mkSeq mkLeaf mkLeaf)) (mkSeq (mkCnd mkLeaf mkLeaf) mkLeaf))) (fun x w => nodes_Path.l1 R x.1 x.2.1 x.2.2 w) (by rintro ⟨c0, s0⟩ w ⟨I, μ, h0, h1⟩; refine ⟨fun y w => y.1 = c0 ∧ I y.2 w, fun y w => μ y.2 w, ⟨rfl, h0⟩, ?_⟩; rintro ⟨d0, t0⟩ w ⟨e0, hI⟩; dsimp only at e0 hI; subst e0; exact h1 _ _ hI) (fun _ _ => by kernel_rfl)))) mkLeaf)) mkLeaf)) (mkSeq (mkCnd (mkSeq mkLeaf mkLeaf) mkLeaf) mkLeaf)) mkLeaf) (kcast (by kernel_rfl) h)

/-! nodes_Has -/
def nodes_Has.c1 (R : Value → World → Prop) (x0 : Int) (i1 : Int) (w : World) : Prop :=
  CallsV Tryd.prog n_nodes_Level #[.int .i64 x0] w (fun v_1 w1 =>
  ∃ x_2 : Int, v_1 = .int .i64 x_2 ∧
  0 ≤ (x_2 : Int) ∧
  (let far5_2 : Int := (IntKind.i64.wrap ((IntKind.i64.wrap (1 * 2 ^ (min (x_2 : Int).toNat IntKind.i64.bits))) - 1));
  cond (decide (((IntKind.i64.wrap (2 * i1)) : Int) ≥ (IntKind.i64.wrap (x0 - far5_2))))
  ((let t4_3 : Bool := (decide (((IntKind.i64.wrap (2 * i1)) : Int) ≤ (IntKind.i64.wrap (x0 + far5_2))));
  R (.bool t4_3) w1))
  (R (.bool false) w1)))

def nodes_Has.main (R : Value → World → Prop) (x0 : Int) (i1 : Int) (w : World) : Prop :=
  cond (decide ((x0 : Int) < 0))
  (R (.bool false) w)
  (cond (decide ((i1 : Int) < 0))
  (R (.bool false) w)
  (cond (decide ((x0 : Int) > 16))
  (R (.bool false) w)
  (cond (decide ((i1 : Int) > 16))
  (R (.bool false) w)
  (nodes_Has.c1 R x0 i1 w))))

def nodes_Has.J0 (R : Value → World → Prop) (k : Nat) (fr : Fr) (w : World) : Prop :=
  cond (Nat.beq k 1) (dec [(0, (.int .i64)), (1, (.int .i64))] fr fun x => nodes_Has.c1 R x.1 x.2 w) (False)

set_option maxRecDepth 100000 in
theorem nodes_Has.lift {R : Value → World → Prop} {x0 : Int} {i1 : Int} {w : World} (h : nodes_Has.main R x0 i1 w) : CallsV Tryd.prog n_nodes_Has #[.int .i64 x0, .int .i64 i1] w R :=
  liftCalls (c := (.seq (.leaf (cL (bd Tryd.f7))) (.seq (.seq (.leaf (cL (cL (cR (bd Tryd.f7))))) (.cnd (.tmp 19) (.seq (.leaf (cL (cT (cR (cL (cR (bd Tryd.f7))))))) (.leaf (cR (cT (cR (cL (cR (bd Tryd.f7)))))))) (.leaf (cE (cR (cL (cR (bd Tryd.f7)))))))) (.cut 1 (.seq (.leaf (cL (cR (cR (bd Tryd.f7))))) (.seq (.leaf (cL (cR (cR (cR (bd Tryd.f7)))))) (.leaf (cR (cR (cR (cR (bd Tryd.f7)))))))))))) (J := nodes_Has.J0 R) LfYtnnpkjhpeefnbaaDoor.mixed Tryd.func7 (by kernel_rfl) (by kernel_rfl) (mkSeq (mkSeq (mkCut (cutDef [(0, (.int .i64)), (1, (.int .i64))] (fun x w => nodes_Has.c1 R x.1 x.2 w) (fun _ _ => by kernel_rfl) (fun _ _ => by kernel_rfl)) (mkSeq (mkSeq mkLeaf mkLeaf) mkLeaf)) (mkSeq (mkCnd (mkSeq mkLeaf mkLeaf) mkLeaf) mkLeaf)) mkLeaf) (kcast (by kernel_rfl) h)

/-! trystlaw15_wakes -/
def trystlaw15_wakes.main (R : Value → World → Prop)  (w : World) : Prop :=
  CallsV Tryd.prog n_nodes_Path #[.int .i64 0, .int .i64 4] w (fun v_1 w1 =>
  ∃ (a_2 : Option Addr) (l_3 c_4 : Nat), ∃ x_5 : Int, v_1 = .tuple #[.slice a_2 l_3 c_4, .int .i64 x_5] ∧
  CallsV Tryd.prog n_nodes_Sibling #[.int .i64 2, .int .i64 4] w1 (fun v_6 w2 =>
  ∃ x_7 : Int, ∃ x_8 : Int, v_6 = .tuple #[.int .i64 x_7, .int .i64 x_8] ∧
  cond ((x_5 : Int) == 0)
  (cond ((x_8 : Int) == 0)
  (cond ((x_7 : Int) == 0)
  (cond ((((l_3 : Nat) : Int) : Int) == 2)
  (0 ≤ (0 : Int) ∧ 0 < ((l_3 : Nat) : Int) ∧ ∃ q_9 : Addr, a_2 = some q_9 ∧
  ∃ x_10 : Int, w2.cell? (q_9.add (0 : Int).toNat) = some (.int .i64 x_10) ∧
  cond ((x_10 : Int) == 1)
  (0 ≤ (1 : Int) ∧ 1 < ((l_3 : Nat) : Int) ∧ ∃ q_11 : Addr, a_2 = some q_11 ∧
  ∃ x_12 : Int, w2.cell? (q_11.add (1 : Int).toNat) = some (.int .i64 x_12) ∧
  R (.bool ((x_12 : Int) == 3)) w2)
  (R (.bool false) w2))
  (R (.bool false) w2))
  (R (.bool false) w2))
  (R (.bool false) w2))
  (R (.bool false) w2)))

def trystlaw15_wakes.J0 (_ : Value → World → Prop) (_ : Nat) (_ : Fr) (_ : World) : Prop := False

set_option maxRecDepth 100000 in
theorem trystlaw15_wakes.lift {R : Value → World → Prop}  {w : World} (h : trystlaw15_wakes.main R  w) : CallsV Tryd.prog n_trystlaw15_wakes #[] w R :=
  liftCalls (c := (.seq (.leaf (cL (bd Tryd.f8))) (.seq (.leaf (cL (cR (bd Tryd.f8)))) (.seq (.leaf (cL (cR (cR (bd Tryd.f8))))) (.seq (.leaf (cL (cR (cR (cR (bd Tryd.f8)))))) (.leaf (cR (cR (cR (cR (bd Tryd.f8))))))))))) (J := trystlaw15_wakes.J0 R) LfYtnnpkjhpeefnbaaDoor.mixed Tryd.func8 (by kernel_rfl) (by kernel_rfl) (mkSeq (mkSeq (mkSeq (mkSeq mkLeaf mkLeaf) mkLeaf) mkLeaf) mkLeaf) (kcast (by kernel_rfl) h)

/-! trystref15_Level -/
def trystref15_Level.c2 (R : Value → World → Prop) (N1 : Int → Int → World → Prop) (x0 : Int) (k3 : Int) (w : World) : Prop :=
  0 ≤ (1 : Int) ∧
  (let x0_0 : Int := (Int.fdiv x0 (2 ^ (min (1 : Int).toNat IntKind.i64.bits)));
  (let k3_1 : Int := (IntKind.i64.wrap (k3 + 1));
  N1 x0_0 k3_1 w))

def trystref15_Level.b1 (R : Value → World → Prop) (N1 : Int → Int → World → Prop) (x0 : Int) (k3 : Int) (w : World) : Prop :=
  cond (decide ((x0 : Int) > 0))
  (cond (((Go.bits BinOp.and .i64 x0 1) : Int) == 1)
  (trystref15_Level.c2 R N1 x0 k3 w)
  (R (.int .i64 k3) w))
  (R (.int .i64 k3) w)

def trystref15_Level.l1 (R : Value → World → Prop) (x0 : Int) (k3 : Int) (w : World) : Prop :=
  ∃ (I : (Int × Int) → World → Prop) (μ : (Int × Int) → World → Nat), I (x0, k3) w ∧ ∀ s w, I s w → trystref15_Level.b1 R (fun x0' k3' w' => (I (x0', k3') w') ∧ μ (x0', k3') w' < μ s w) s.1 s.2 w

def trystref15_Level.main (R : Value → World → Prop) (x0 : Int) (w : World) : Prop :=
  trystref15_Level.l1 R x0 0 w

def trystref15_Level.J1 (R : Value → World → Prop) (N1 : Int → Int → World → Prop) (k : Nat) (fr : Fr) (w : World) : Prop :=
  cond (Nat.beq k 2) (dec [(0, (.int .i64)), (3, (.int .i64))] fr fun x => trystref15_Level.c2 R N1 x.1 x.2 w) (False)

def trystref15_Level.J0 (R : Value → World → Prop) (k : Nat) (fr : Fr) (w : World) : Prop :=
  cond (Nat.beq k 1) (dec [(0, (.int .i64)), (3, (.int .i64))] fr fun x => trystref15_Level.l1 R x.1 x.2 w) (False)

set_option maxRecDepth 100000 in
theorem trystref15_Level.lift {R : Value → World → Prop} {x0 : Int} {w : World} (h : trystref15_Level.main R x0 w) : CallsV Tryd.prog n_trystref15_Level #[.int .i64 x0] w R :=
  liftCalls (c := (.seq (.leaf (cL (bd Tryd.f9))) (.seq (.leaf (cL (cR (bd Tryd.f9)))) (.seq (.block 0 (.loop 1 (.seq (.seq (.leaf (cL (cL (cB (cB (cL (cR (cR (bd Tryd.f9))))))))) (.cnd (.tmp 10) (.leaf (cT (cR (cL (cB (cB (cL (cR (cR (bd Tryd.f9)))))))))) (.leaf (cE (cR (cL (cB (cB (cL (cR (cR (bd Tryd.f9)))))))))))) (.cut 2 (.block 1 (.leaf (cB (cR (cB (cB (cL (cR (cR (bd Tryd.f9)))))))))))))) (.seq (.leaf (cL (cR (cR (cR (bd Tryd.f9)))))) (.leaf (cR (cR (cR (cR (bd Tryd.f9))))))))))) (J := trystref15_Level.J0 R) LfYtnnpkjhpeefnbaaDoor.mixed Tryd.func9 (by kernel_rfl) (by kernel_rfl) (mkSeq (mkSeq (mkSeq (mkSeq mkLeaf mkLeaf) (mkBlock (mkLoop (loopDef LfYtnnpkjhpeefnbaaDoor.mixed [(0, (.int .i64)), (3, (.int .i64))] (by kernel_rfl) (fun M1 x w => trystref15_Level.b1 R (fun y0 y1 w => M1 (y0, y1) w) x.1 x.2 w) (fun M1 => trystref15_Level.J1 R (fun y0 y1 w => M1 (y0, y1) w)) (fun _ _ _ => by kernel_rfl) (fun M1 => (mkSeq (mkCut (cutDef [(0, (.int .i64)), (3, (.int .i64))] (fun x w => trystref15_Level.c2 R (fun y0 y1 w => M1 (y0, y1) w) x.1 x.2 w) (fun _ _ => by kernel_rfl) (fun _ _ => by kernel_rfl)) (mkBlock mkLeaf)) (mkSeq (mkCnd mkLeaf mkLeaf) mkLeaf))) (fun x w => trystref15_Level.l1 R x.1 x.2 w) (by rintro s0 w ⟨I, μ, h0, h1⟩; refine ⟨fun y w => I y w, fun y w => μ y w, h0, ?_⟩; rintro t0 w hI; exact h1 _ _ hI) (fun _ _ => by kernel_rfl))))) mkLeaf) mkLeaf) (kcast (by kernel_rfl) h)

/-! trystref15_May -/
def trystref15_May.main (R : Value → World → Prop) (n0 : Int) (w : World) : Prop :=
  cond ((n0 : Int) == 1)
  (R (.bool true) w)
  (cond ((n0 : Int) == 2)
  (R (.bool true) w)
  (cond ((n0 : Int) == 4)
  (R (.bool true) w)
  (R (.bool ((n0 : Int) == 8)) w)))

def trystref15_May.J0 (_ : Value → World → Prop) (_ : Nat) (_ : Fr) (_ : World) : Prop := False

set_option maxRecDepth 100000 in
theorem trystref15_May.lift {R : Value → World → Prop} {n0 : Int} {w : World} (h : trystref15_May.main R n0 w) : CallsV Tryd.prog n_trystref15_May #[.int .i64 n0] w R :=
  liftCalls (c := (.seq (.leaf (cL (bd Tryd.f10))) (.seq (.leaf (cL (cR (bd Tryd.f10)))) (.leaf (cR (cR (bd Tryd.f10))))))) (J := trystref15_May.J0 R) LfYtnnpkjhpeefnbaaDoor.mixed Tryd.func10 (by kernel_rfl) (by kernel_rfl) (mkSeq (mkSeq mkLeaf mkLeaf) mkLeaf) (kcast (by kernel_rfl) h)

/-! nodes_May -/
def nodes_May.main (R : Value → World → Prop) (n0 : Int) (w : World) : Prop :=
  cond (decide ((n0 : Int) ≥ 1))
  (cond (decide ((n0 : Int) ≤ 8))
  ((let t2_0 : Bool := (((Go.bits BinOp.and .i64 n0 (IntKind.i64.wrap (n0 - 1))) : Int) == 0);
  R (.bool t2_0) w))
  (R (.bool false) w))
  (R (.bool false) w)

def nodes_May.J0 (_ : Value → World → Prop) (_ : Nat) (_ : Fr) (_ : World) : Prop := False

set_option maxRecDepth 100000 in
theorem nodes_May.lift {R : Value → World → Prop} {n0 : Int} {w : World} (h : nodes_May.main R n0 w) : CallsV Tryd.prog n_nodes_May #[.int .i64 n0] w R :=
  liftCalls (c := (.seq (.leaf (cL (bd Tryd.f11))) (.seq (.leaf (cL (cR (bd Tryd.f11)))) (.leaf (cR (cR (bd Tryd.f11))))))) (J := nodes_May.J0 R) LfYtnnpkjhpeefnbaaDoor.mixed Tryd.func11 (by kernel_rfl) (by kernel_rfl) (mkSeq (mkSeq mkLeaf mkLeaf) mkLeaf) (kcast (by kernel_rfl) h)

/-! nodes_Level -/
def nodes_Level.main (R : Value → World → Prop) (x0 : Int) (w : World) : Prop :=
  cond (decide ((x0 : Int) < 0))
  (R (.int .i64 0) w)
  (CallsV Tryd.prog n_bits_TrailingZeros64 #[.int .u64 (Go.bits BinOp.xor .u64 (if IntKind.u64.signed = true then -1 else IntKind.u64.max) (IntKind.u64.wrap x0))] w (fun v_1 w1 =>
  ∃ x_2 : Int, v_1 = .int .i64 x_2 ∧
  R (.int .i64 x_2) w1))

def nodes_Level.J0 (_ : Value → World → Prop) (_ : Nat) (_ : Fr) (_ : World) : Prop := False

set_option maxRecDepth 100000 in
theorem nodes_Level.lift {R : Value → World → Prop} {x0 : Int} {w : World} (h : nodes_Level.main R x0 w) : CallsV Tryd.prog n_nodes_Level #[.int .i64 x0] w R :=
  liftCalls (c := (.seq (.leaf (cL (bd Tryd.f12))) (.seq (.seq (.leaf (cL (cL (cR (bd Tryd.f12))))) (.cnd (.tmp 4) (.seq (.leaf (cL (cT (cR (cL (cR (bd Tryd.f12))))))) (.leaf (cR (cT (cR (cL (cR (bd Tryd.f12)))))))) (.leaf (cE (cR (cL (cR (bd Tryd.f12)))))))) (.seq (.leaf (cL (cR (cR (bd Tryd.f12))))) (.leaf (cR (cR (cR (bd Tryd.f12))))))))) (J := nodes_Level.J0 R) LfYtnnpkjhpeefnbaaDoor.mixed Tryd.func12 (by kernel_rfl) (by kernel_rfl) (mkSeq (mkSeq (mkSeq mkLeaf mkLeaf) (mkSeq (mkCnd (mkSeq mkLeaf mkLeaf) mkLeaf) mkLeaf)) mkLeaf) (kcast (by kernel_rfl) h)

/-! nodes_Root -/
def nodes_Root.main (R : Value → World → Prop) (n0 : Int) (w : World) : Prop :=
  CallsV Tryd.prog n_nodes_May #[.int .i64 n0] w (fun v_1 w1 =>
  ∃ b_2 : Bool, v_1 = .bool b_2 ∧
  cond (!b_2)
  (R (.int .i64 0) w1)
  ((let t2_2 : Int := (IntKind.i64.wrap (n0 - 1));
  R (.int .i64 t2_2) w1)))

def nodes_Root.J0 (_ : Value → World → Prop) (_ : Nat) (_ : Fr) (_ : World) : Prop := False

set_option maxRecDepth 100000 in
theorem nodes_Root.lift {R : Value → World → Prop} {n0 : Int} {w : World} (h : nodes_Root.main R n0 w) : CallsV Tryd.prog n_nodes_Root #[.int .i64 n0] w R :=
  liftCalls (c := (.seq (.leaf (cL (bd Tryd.f13))) (.seq (.seq (.leaf (cL (cL (cR (bd Tryd.f13))))) (.cnd (.tmp 5) (.seq (.leaf (cL (cT (cR (cL (cR (bd Tryd.f13))))))) (.leaf (cR (cT (cR (cL (cR (bd Tryd.f13)))))))) (.leaf (cE (cR (cL (cR (bd Tryd.f13)))))))) (.seq (.leaf (cL (cR (cR (bd Tryd.f13))))) (.leaf (cR (cR (cR (bd Tryd.f13))))))))) (J := nodes_Root.J0 R) LfYtnnpkjhpeefnbaaDoor.mixed Tryd.func13 (by kernel_rfl) (by kernel_rfl) (mkSeq (mkSeq (mkSeq mkLeaf mkLeaf) (mkSeq (mkCnd (mkSeq mkLeaf mkLeaf) mkLeaf) mkLeaf)) mkLeaf) (kcast (by kernel_rfl) h)

/-! trystref15_Has -/
def trystref15_Has.c1 (R : Value → World → Prop) (x0 : Int) (i1 : Int) (w : World) : Prop :=
  CallsV Tryd.prog n_trystref15_Level #[.int .i64 x0] w (fun v_1 w1 =>
  ∃ x_2 : Int, v_1 = .int .i64 x_2 ∧
  0 ≤ ((IntKind.u64.wrap x_2) : Int) ∧
  (let k5_2 : Int := (IntKind.i64.wrap (1 * 2 ^ (min ((IntKind.u64.wrap x_2) : Int).toNat IntKind.i64.bits)));
  cond (decide (((IntKind.i64.wrap (2 * i1)) : Int) ≥ (IntKind.i64.wrap ((IntKind.i64.wrap (x0 - k5_2)) + 1))))
  ((let t4_3 : Bool := (decide (((IntKind.i64.wrap (2 * i1)) : Int) ≤ (IntKind.i64.wrap ((IntKind.i64.wrap (x0 + k5_2)) - 1))));
  R (.bool t4_3) w1))
  (R (.bool false) w1)))

def trystref15_Has.main (R : Value → World → Prop) (x0 : Int) (i1 : Int) (w : World) : Prop :=
  cond (decide ((x0 : Int) < 0))
  (R (.bool false) w)
  (cond (decide ((i1 : Int) < 0))
  (R (.bool false) w)
  (cond (decide ((x0 : Int) > 16))
  (R (.bool false) w)
  (cond (decide ((i1 : Int) > 16))
  (R (.bool false) w)
  (trystref15_Has.c1 R x0 i1 w))))

def trystref15_Has.J0 (R : Value → World → Prop) (k : Nat) (fr : Fr) (w : World) : Prop :=
  cond (Nat.beq k 1) (dec [(0, (.int .i64)), (1, (.int .i64))] fr fun x => trystref15_Has.c1 R x.1 x.2 w) (False)

set_option maxRecDepth 100000 in
theorem trystref15_Has.lift {R : Value → World → Prop} {x0 : Int} {i1 : Int} {w : World} (h : trystref15_Has.main R x0 i1 w) : CallsV Tryd.prog n_trystref15_Has #[.int .i64 x0, .int .i64 i1] w R :=
  liftCalls (c := (.seq (.leaf (cL (bd Tryd.f14))) (.seq (.seq (.leaf (cL (cL (cR (bd Tryd.f14))))) (.cnd (.tmp 19) (.seq (.leaf (cL (cT (cR (cL (cR (bd Tryd.f14))))))) (.leaf (cR (cT (cR (cL (cR (bd Tryd.f14)))))))) (.leaf (cE (cR (cL (cR (bd Tryd.f14)))))))) (.cut 1 (.seq (.leaf (cL (cR (cR (bd Tryd.f14))))) (.seq (.leaf (cL (cR (cR (cR (bd Tryd.f14)))))) (.leaf (cR (cR (cR (cR (bd Tryd.f14)))))))))))) (J := trystref15_Has.J0 R) LfYtnnpkjhpeefnbaaDoor.mixed Tryd.func14 (by kernel_rfl) (by kernel_rfl) (mkSeq (mkSeq (mkCut (cutDef [(0, (.int .i64)), (1, (.int .i64))] (fun x w => trystref15_Has.c1 R x.1 x.2 w) (fun _ _ => by kernel_rfl) (fun _ _ => by kernel_rfl)) (mkSeq (mkSeq mkLeaf mkLeaf) mkLeaf)) (mkSeq (mkCnd (mkSeq mkLeaf mkLeaf) mkLeaf) mkLeaf)) mkLeaf) (kcast (by kernel_rfl) h)

/-! nodes_Left -/
def nodes_Left.main (R : Value → World → Prop) (x0 : Int) (w : World) : Prop :=
  CallsV Tryd.prog n_nodes_child #[.int .i64 x0, .int .i64 (-1)] w (fun v_1 w1 =>
  ∃ x_2 : Int, ∃ x_3 : Int, v_1 = .tuple #[.int .i64 x_2, .int .i64 x_3] ∧
  R (.tuple #[.int .i64 x_2, .int .i64 x_3]) w1)

def nodes_Left.J0 (_ : Value → World → Prop) (_ : Nat) (_ : Fr) (_ : World) : Prop := False

set_option maxRecDepth 100000 in
theorem nodes_Left.lift {R : Value → World → Prop} {x0 : Int} {w : World} (h : nodes_Left.main R x0 w) : CallsV Tryd.prog n_nodes_Left #[.int .i64 x0] w R :=
  liftCalls (c := (.seq (.leaf (cL (bd Tryd.f15))) (.seq (.leaf (cL (cR (bd Tryd.f15)))) (.leaf (cR (cR (bd Tryd.f15))))))) (J := nodes_Left.J0 R) LfYtnnpkjhpeefnbaaDoor.mixed Tryd.func15 (by kernel_rfl) (by kernel_rfl) (mkSeq (mkSeq mkLeaf mkLeaf) mkLeaf) (kcast (by kernel_rfl) h)

/-! nodes_Right -/
def nodes_Right.main (R : Value → World → Prop) (x0 : Int) (w : World) : Prop :=
  CallsV Tryd.prog n_nodes_child #[.int .i64 x0, .int .i64 1] w (fun v_1 w1 =>
  ∃ x_2 : Int, ∃ x_3 : Int, v_1 = .tuple #[.int .i64 x_2, .int .i64 x_3] ∧
  R (.tuple #[.int .i64 x_2, .int .i64 x_3]) w1)

def nodes_Right.J0 (_ : Value → World → Prop) (_ : Nat) (_ : Fr) (_ : World) : Prop := False

set_option maxRecDepth 100000 in
theorem nodes_Right.lift {R : Value → World → Prop} {x0 : Int} {w : World} (h : nodes_Right.main R x0 w) : CallsV Tryd.prog n_nodes_Right #[.int .i64 x0] w R :=
  liftCalls (c := (.seq (.leaf (cL (bd Tryd.f16))) (.seq (.leaf (cL (cR (bd Tryd.f16)))) (.leaf (cR (cR (bd Tryd.f16))))))) (J := nodes_Right.J0 R) LfYtnnpkjhpeefnbaaDoor.mixed Tryd.func16 (by kernel_rfl) (by kernel_rfl) (mkSeq (mkSeq mkLeaf mkLeaf) mkLeaf) (kcast (by kernel_rfl) h)

/-! trystref15_Kids -/
def trystref15_Kids.c1 (R : Value → World → Prop) (x0 : Int) (k5 : Int) (w : World) : Prop :=
  0 ≤ ((IntKind.u64.wrap (IntKind.i64.wrap (k5 - 1))) : Int) ∧
  0 ≤ ((IntKind.u64.wrap (IntKind.i64.wrap (k5 - 1))) : Int) ∧
  (let t2_0 : Int := (IntKind.i64.wrap (x0 - (IntKind.i64.wrap (1 * 2 ^ (min ((IntKind.u64.wrap (IntKind.i64.wrap (k5 - 1))) : Int).toNat IntKind.i64.bits)))));
  (let t3_1 : Int := (IntKind.i64.wrap (x0 + (IntKind.i64.wrap (1 * 2 ^ (min ((IntKind.u64.wrap (IntKind.i64.wrap (k5 - 1))) : Int).toNat IntKind.i64.bits)))));
  R (.tuple #[.int .i64 t2_0, .int .i64 t3_1, .bool true]) w))

def trystref15_Kids.main (R : Value → World → Prop) (x0 : Int) (w : World) : Prop :=
  CallsV Tryd.prog n_trystref15_Level #[.int .i64 x0] w (fun v_3 w1 =>
  ∃ x_4 : Int, v_3 = .int .i64 x_4 ∧
  cond (decide ((x0 : Int) < 0))
  (R (.tuple #[.int .i64 0, .int .i64 0, .bool false]) w1)
  (cond (decide ((x0 : Int) > 14))
  (R (.tuple #[.int .i64 0, .int .i64 0, .bool false]) w1)
  (cond ((x_4 : Int) == 0)
  (R (.tuple #[.int .i64 0, .int .i64 0, .bool false]) w1)
  (trystref15_Kids.c1 R x0 x_4 w1))))

def trystref15_Kids.J0 (R : Value → World → Prop) (k : Nat) (fr : Fr) (w : World) : Prop :=
  cond (Nat.beq k 1) (dec [(0, (.int .i64)), (5, (.int .i64))] fr fun x => trystref15_Kids.c1 R x.1 x.2 w) (False)

set_option maxRecDepth 100000 in
theorem trystref15_Kids.lift {R : Value → World → Prop} {x0 : Int} {w : World} (h : trystref15_Kids.main R x0 w) : CallsV Tryd.prog n_trystref15_Kids #[.int .i64 x0] w R :=
  liftCalls (c := (.seq (.leaf (cL (bd Tryd.f17))) (.seq (.leaf (cL (cR (bd Tryd.f17)))) (.seq (.seq (.leaf (cL (cL (cR (cR (bd Tryd.f17)))))) (.cnd (.tmp 17) (.seq (.leaf (cL (cT (cR (cL (cR (cR (bd Tryd.f17)))))))) (.leaf (cR (cT (cR (cL (cR (cR (bd Tryd.f17))))))))) (.leaf (cE (cR (cL (cR (cR (bd Tryd.f17))))))))) (.cut 1 (.seq (.leaf (cL (cR (cR (cR (bd Tryd.f17)))))) (.leaf (cR (cR (cR (cR (bd Tryd.f17)))))))))))) (J := trystref15_Kids.J0 R) LfYtnnpkjhpeefnbaaDoor.mixed Tryd.func17 (by kernel_rfl) (by kernel_rfl) (mkSeq (mkSeq (mkSeq (mkCut (cutDef [(0, (.int .i64)), (5, (.int .i64))] (fun x w => trystref15_Kids.c1 R x.1 x.2 w) (fun _ _ => by kernel_rfl) (fun _ _ => by kernel_rfl)) (mkSeq mkLeaf mkLeaf)) (mkSeq (mkCnd (mkSeq mkLeaf mkLeaf) mkLeaf) mkLeaf)) mkLeaf) mkLeaf) (kcast (by kernel_rfl) h)

/-! nodes_Parent -/
def nodes_Parent.c1 (R : Value → World → Prop) (x0 : Int) (w : World) : Prop :=
  CallsV Tryd.prog n_nodes_Level #[.int .i64 x0] w (fun v_1 w1 =>
  ∃ x_2 : Int, v_1 = .int .i64 x_2 ∧
  0 ≤ (x_2 : Int) ∧
  (let step6_2 : Int := (IntKind.i64.wrap (1 * 2 ^ (min (x_2 : Int).toNat IntKind.i64.bits)));
  CallsV Tryd.prog n_nodes_Level #[.int .i64 (IntKind.i64.wrap (x0 + step6_2))] w1 (fun v_4 w2 =>
  ∃ x_5 : Int, v_4 = .int .i64 x_5 ∧
  CallsV Tryd.prog n_nodes_Level #[.int .i64 x0] w2 (fun v_6 w3 =>
  ∃ x_7 : Int, v_6 = .int .i64 x_7 ∧
  cond ((x_5 : Int) == (IntKind.i64.wrap (x_7 + 1)))
  ((let t4_7 : Int := (IntKind.i64.wrap (x0 + step6_2));
  R (.tuple #[.int .i64 t4_7, .int .i64 0]) w3))
  ((let t4_8 : Int := (IntKind.i64.wrap (x0 - step6_2));
  R (.tuple #[.int .i64 t4_8, .int .i64 0]) w3))))))

def nodes_Parent.main (R : Value → World → Prop) (x0 : Int) (n1 : Int) (w : World) : Prop :=
  CallsV Tryd.prog n_nodes_May #[.int .i64 n1] w (fun v_10 w4 =>
  ∃ b_11 : Bool, v_10 = .bool b_11 ∧
  cond (!b_11)
  (R (.tuple #[.int .i64 0, .int .i64 1]) w4)
  (cond (decide ((x0 : Int) < 0))
  (R (.tuple #[.int .i64 0, .int .i64 1]) w4)
  (cond (decide ((x0 : Int) > (IntKind.i64.wrap ((IntKind.i64.wrap (2 * n1)) - 2))))
  (R (.tuple #[.int .i64 0, .int .i64 1]) w4)
  (CallsV Tryd.prog n_nodes_Root #[.int .i64 n1] w4 (fun v_12 w5 =>
  ∃ x_13 : Int, v_12 = .int .i64 x_13 ∧
  cond ((x0 : Int) == x_13)
  (R (.tuple #[.int .i64 0, .int .i64 1]) w5)
  (nodes_Parent.c1 R x0 w5))))))

def nodes_Parent.J0 (R : Value → World → Prop) (k : Nat) (fr : Fr) (w : World) : Prop :=
  cond (Nat.beq k 1) (dec [(0, (.int .i64))] fr fun x => nodes_Parent.c1 R x w) (False)

set_option maxRecDepth 100000 in
theorem nodes_Parent.lift {R : Value → World → Prop} {x0 : Int} {n1 : Int} {w : World} (h : nodes_Parent.main R x0 n1 w) : CallsV Tryd.prog n_nodes_Parent #[.int .i64 x0, .int .i64 n1] w R :=
  liftCalls (c := (.seq (.leaf (cL (bd Tryd.f18))) (.seq (.seq (.leaf (cL (cL (cR (bd Tryd.f18))))) (.cnd (.tmp 26) (.seq (.leaf (cL (cT (cR (cL (cR (bd Tryd.f18))))))) (.leaf (cR (cT (cR (cL (cR (bd Tryd.f18)))))))) (.leaf (cE (cR (cL (cR (bd Tryd.f18)))))))) (.cut 1 (.seq (.leaf (cL (cR (cR (bd Tryd.f18))))) (.seq (.seq (.leaf (cL (cL (cR (cR (cR (bd Tryd.f18))))))) (.cnd (.tmp 37) (.seq (.leaf (cL (cT (cR (cL (cR (cR (cR (bd Tryd.f18))))))))) (.leaf (cR (cT (cR (cL (cR (cR (cR (bd Tryd.f18)))))))))) (.leaf (cE (cR (cL (cR (cR (cR (bd Tryd.f18)))))))))) (.seq (.leaf (cL (cR (cR (cR (cR (bd Tryd.f18))))))) (.leaf (cR (cR (cR (cR (cR (bd Tryd.f18)))))))))))))) (J := nodes_Parent.J0 R) LfYtnnpkjhpeefnbaaDoor.mixed Tryd.func18 (by kernel_rfl) (by kernel_rfl) (mkSeq (mkSeq (mkCut (cutDef [(0, (.int .i64))] (fun x w => nodes_Parent.c1 R x w) (fun _ _ => by kernel_rfl) (fun _ _ => by kernel_rfl)) (mkSeq (mkSeq (mkSeq mkLeaf mkLeaf) (mkSeq (mkCnd (mkSeq mkLeaf mkLeaf) mkLeaf) mkLeaf)) mkLeaf)) (mkSeq (mkCnd (mkSeq mkLeaf mkLeaf) mkLeaf) mkLeaf)) mkLeaf) (kcast (by kernel_rfl) h)

/-! nodes_Sibling -/
def nodes_Sibling.main (R : Value → World → Prop) (x0 : Int) (n1 : Int) (w : World) : Prop :=
  CallsV Tryd.prog n_nodes_Parent #[.int .i64 x0, .int .i64 n1] w (fun v_1 w1 =>
  ∃ x_2 : Int, ∃ x_3 : Int, v_1 = .tuple #[.int .i64 x_2, .int .i64 x_3] ∧
  cond ((x_3 : Int) != 0)
  (R (.tuple #[.int .i64 0, .int .i64 x_3]) w1)
  ((let t4_3 : Int := (IntKind.i64.wrap ((IntKind.i64.wrap (2 * x_2)) - x0));
  R (.tuple #[.int .i64 t4_3, .int .i64 0]) w1)))

def nodes_Sibling.J0 (_ : Value → World → Prop) (_ : Nat) (_ : Fr) (_ : World) : Prop := False

set_option maxRecDepth 100000 in
theorem nodes_Sibling.lift {R : Value → World → Prop} {x0 : Int} {n1 : Int} {w : World} (h : nodes_Sibling.main R x0 n1 w) : CallsV Tryd.prog n_nodes_Sibling #[.int .i64 x0, .int .i64 n1] w R :=
  liftCalls (c := (.seq (.leaf (cL (bd Tryd.f19))) (.seq (.leaf (cL (cR (bd Tryd.f19)))) (.seq (.seq (.leaf (cL (cL (cR (cR (bd Tryd.f19)))))) (.cnd (.tmp 15) (.seq (.leaf (cL (cT (cR (cL (cR (cR (bd Tryd.f19)))))))) (.leaf (cR (cT (cR (cL (cR (cR (bd Tryd.f19))))))))) (.leaf (cE (cR (cL (cR (cR (bd Tryd.f19))))))))) (.seq (.leaf (cL (cR (cR (cR (bd Tryd.f19)))))) (.leaf (cR (cR (cR (cR (bd Tryd.f19))))))))))) (J := nodes_Sibling.J0 R) LfYtnnpkjhpeefnbaaDoor.mixed Tryd.func19 (by kernel_rfl) (by kernel_rfl) (mkSeq (mkSeq (mkSeq (mkSeq mkLeaf mkLeaf) (mkSeq (mkCnd (mkSeq mkLeaf mkLeaf) mkLeaf) mkLeaf)) mkLeaf) mkLeaf) (kcast (by kernel_rfl) h)

/-! trystref15_Parent -/
def trystref15_Parent.b1 (R : Value → World → Prop) (N1 : Int → Int → Int → World → Prop) (x0 : Int) (n1 : Int) (p6 : Int) (w : World) : Prop :=
  cond (decide ((p6 : Int) ≤ (IntKind.i64.wrap ((IntKind.i64.wrap (2 * n1)) - 2))))
  (CallsV Tryd.prog n_trystref15_Kids #[.int .i64 p6] w (fun v_1 w1 =>
  ∃ x_2 : Int, ∃ x_3 : Int, ∃ b_4 : Bool, v_1 = .tuple #[.int .i64 x_2, .int .i64 x_3, .bool b_4] ∧
  cond b_4
  (cond ((x_2 : Int) == x0)
  (R (.tuple #[.int .i64 p6, .bool true]) w1)
  (cond ((x_3 : Int) == x0)
  (R (.tuple #[.int .i64 p6, .bool true]) w1)
  ((let p6_4 : Int := (IntKind.i64.wrap (p6 + 1));
  N1 x0 n1 p6_4 w1))))
  ((let p6_5 : Int := (IntKind.i64.wrap (p6 + 1));
  N1 x0 n1 p6_5 w1))))
  (R (.tuple #[.int .i64 0, .bool false]) w)

def trystref15_Parent.l1 (R : Value → World → Prop) (x0 : Int) (n1 : Int) (p6 : Int) (w : World) : Prop :=
  ∃ (I : Int → World → Prop) (μ : Int → World → Nat), I p6 w ∧ ∀ s w, I s w → trystref15_Parent.b1 R (fun x0' n1' p6' w' => (x0' = x0 ∧ n1' = n1 ∧ I p6' w') ∧ μ p6' w' < μ s w) x0 n1 s w

def trystref15_Parent.c2 (R : Value → World → Prop) (x0 : Int) (n1 : Int) (w : World) : Prop :=
  trystref15_Parent.l1 R x0 n1 0 w

def trystref15_Parent.main (R : Value → World → Prop) (x0 : Int) (n1 : Int) (w : World) : Prop :=
  CallsV Tryd.prog n_trystref15_May #[.int .i64 n1] w (fun v_7 w2 =>
  ∃ b_8 : Bool, v_7 = .bool b_8 ∧
  cond (!b_8)
  (R (.tuple #[.int .i64 0, .bool false]) w2)
  (cond (decide ((x0 : Int) < 0))
  (R (.tuple #[.int .i64 0, .bool false]) w2)
  (cond (decide ((x0 : Int) > (IntKind.i64.wrap ((IntKind.i64.wrap (2 * n1)) - 2))))
  (R (.tuple #[.int .i64 0, .bool false]) w2)
  (trystref15_Parent.c2 R x0 n1 w2))))

def trystref15_Parent.J0 (R : Value → World → Prop) (k : Nat) (fr : Fr) (w : World) : Prop :=
  cond (Nat.beq k 2) (dec [(0, (.int .i64)), (1, (.int .i64))] fr fun x => trystref15_Parent.c2 R x.1 x.2 w) (cond (Nat.beq k 1) (dec [(0, (.int .i64)), (1, (.int .i64)), (6, (.int .i64))] fr fun x => trystref15_Parent.l1 R x.1 x.2.1 x.2.2 w) (False))

set_option maxRecDepth 100000 in
theorem trystref15_Parent.lift {R : Value → World → Prop} {x0 : Int} {n1 : Int} {w : World} (h : trystref15_Parent.main R x0 n1 w) : CallsV Tryd.prog n_trystref15_Parent #[.int .i64 x0, .int .i64 n1] w R :=
  liftCalls (c := (.seq (.leaf (cL (bd Tryd.f20))) (.seq (.seq (.leaf (cL (cL (cR (bd Tryd.f20))))) (.cnd (.tmp 23) (.seq (.leaf (cL (cT (cR (cL (cR (bd Tryd.f20))))))) (.leaf (cR (cT (cR (cL (cR (bd Tryd.f20)))))))) (.leaf (cE (cR (cL (cR (bd Tryd.f20)))))))) (.cut 2 (.seq (.seq (.leaf (cL (cL (cR (cR (bd Tryd.f20)))))) (.block 0 (.loop 1 (.seq (.seq (.leaf (cL (cL (cB (cB (cR (cL (cR (cR (bd Tryd.f20)))))))))) (.cnd (.tmp 28) (.leaf (cT (cR (cL (cB (cB (cR (cL (cR (cR (bd Tryd.f20))))))))))) (.leaf (cE (cR (cL (cB (cB (cR (cL (cR (cR (bd Tryd.f20))))))))))))) (.seq (.block 1 (.seq (.leaf (cL (cB (cL (cR (cB (cB (cR (cL (cR (cR (bd Tryd.f20)))))))))))) (.seq (.leaf (cL (cR (cB (cL (cR (cB (cB (cR (cL (cR (cR (bd Tryd.f20))))))))))))) (.cnd (.tmp 47) (.seq (.leaf (cL (cT (cR (cR (cB (cL (cR (cB (cB (cR (cL (cR (cR (bd Tryd.f20))))))))))))))) (.leaf (cR (cT (cR (cR (cB (cL (cR (cB (cB (cR (cL (cR (cR (bd Tryd.f20)))))))))))))))) (.leaf (cE (cR (cR (cB (cL (cR (cB (cB (cR (cL (cR (cR (bd Tryd.f20)))))))))))))))))) (.leaf (cR (cR (cB (cB (cR (cL (cR (cR (bd Tryd.f20))))))))))))))) (.seq (.leaf (cL (cR (cR (cR (bd Tryd.f20)))))) (.leaf (cR (cR (cR (cR (bd Tryd.f20)))))))))))) (J := trystref15_Parent.J0 R) LfYtnnpkjhpeefnbaaDoor.mixed Tryd.func20 (by kernel_rfl) (by kernel_rfl) (mkSeq (mkSeq (mkCut (cutDef [(0, (.int .i64)), (1, (.int .i64))] (fun x w => trystref15_Parent.c2 R x.1 x.2 w) (fun _ _ => by kernel_rfl) (fun _ _ => by kernel_rfl)) (mkSeq (mkSeq mkLeaf mkLeaf) (mkSeq (mkBlock (mkLoop (loopDef LfYtnnpkjhpeefnbaaDoor.mixed [(0, (.int .i64)), (1, (.int .i64)), (6, (.int .i64))] (by kernel_rfl) (fun M1 x w => trystref15_Parent.b1 R (fun y0 y1 y2 w => M1 (y0, y1, y2) w) x.1 x.2.1 x.2.2 w) (fun M1 => fun _ _ _ => False) (fun _ _ _ => by kernel_rfl) (fun M1 => (mkSeq (mkSeq mkLeaf (mkBlock (mkSeq (mkSeq (mkCnd (mkSeq mkLeaf mkLeaf) mkLeaf) mkLeaf) mkLeaf))) (mkSeq (mkCnd mkLeaf mkLeaf) mkLeaf))) (fun x w => trystref15_Parent.l1 R x.1 x.2.1 x.2.2 w) (by rintro ⟨c0, c1, s0⟩ w ⟨I, μ, h0, h1⟩; refine ⟨fun y w => y.1 = c0 ∧ y.2.1 = c1 ∧ I y.2.2 w, fun y w => μ y.2.2 w, ⟨rfl, rfl, h0⟩, ?_⟩; rintro ⟨d0, d1, t0⟩ w ⟨e0, e1, hI⟩; dsimp only at e0 e1 hI; subst e0; subst e1; exact h1 _ _ hI) (fun _ _ => by kernel_rfl)))) mkLeaf))) (mkSeq (mkCnd (mkSeq mkLeaf mkLeaf) mkLeaf) mkLeaf)) mkLeaf) (kcast (by kernel_rfl) h)

/-! trystref15_Sibling -/
def trystref15_Sibling.main (R : Value → World → Prop) (x0 : Int) (n1 : Int) (w : World) : Prop :=
  CallsV Tryd.prog n_trystref15_Parent #[.int .i64 x0, .int .i64 n1] w (fun v_1 w1 =>
  ∃ x_2 : Int, ∃ b_3 : Bool, v_1 = .tuple #[.int .i64 x_2, .bool b_3] ∧
  cond (!b_3)
  (R (.tuple #[.int .i64 0, .bool false]) w1)
  (CallsV Tryd.prog n_trystref15_Kids #[.int .i64 x_2] w1 (fun v_4 w2 =>
  ∃ x_5 : Int, ∃ x_6 : Int, ∃ b_7 : Bool, v_4 = .tuple #[.int .i64 x_5, .int .i64 x_6, .bool b_7] ∧
  (let t4_7 : Int := (IntKind.i64.wrap ((IntKind.i64.wrap (x_5 + x_6)) - x0));
  R (.tuple #[.int .i64 t4_7, .bool true]) w2))))

def trystref15_Sibling.J0 (_ : Value → World → Prop) (_ : Nat) (_ : Fr) (_ : World) : Prop := False

set_option maxRecDepth 100000 in
theorem trystref15_Sibling.lift {R : Value → World → Prop} {x0 : Int} {n1 : Int} {w : World} (h : trystref15_Sibling.main R x0 n1 w) : CallsV Tryd.prog n_trystref15_Sibling #[.int .i64 x0, .int .i64 n1] w R :=
  liftCalls (c := (.seq (.leaf (cL (bd Tryd.f21))) (.seq (.leaf (cL (cR (bd Tryd.f21)))) (.seq (.seq (.leaf (cL (cL (cR (cR (bd Tryd.f21)))))) (.cnd (.tmp 18) (.seq (.leaf (cL (cT (cR (cL (cR (cR (bd Tryd.f21)))))))) (.leaf (cR (cT (cR (cL (cR (cR (bd Tryd.f21))))))))) (.leaf (cE (cR (cL (cR (cR (bd Tryd.f21))))))))) (.seq (.leaf (cL (cR (cR (cR (bd Tryd.f21)))))) (.seq (.leaf (cL (cR (cR (cR (cR (bd Tryd.f21))))))) (.leaf (cR (cR (cR (cR (cR (bd Tryd.f21))))))))))))) (J := trystref15_Sibling.J0 R) LfYtnnpkjhpeefnbaaDoor.mixed Tryd.func21 (by kernel_rfl) (by kernel_rfl) (mkSeq (mkSeq (mkSeq (mkSeq (mkSeq mkLeaf mkLeaf) mkLeaf) (mkSeq (mkCnd (mkSeq mkLeaf mkLeaf) mkLeaf) mkLeaf)) mkLeaf) mkLeaf) (kcast (by kernel_rfl) h)

/-! trystkeep_Ints -/
def trystkeep_Ints.b1 (R : Value → World → Prop) (N1 : Sl → Sl → Int → World → Prop) (a0 : Sl) (b1 : Sl) (i5 : Int) (w : World) : Prop :=
  cond (decide ((i5 : Int) < ((a0.len : Nat) : Int)))
  (0 ≤ (i5 : Int) ∧ i5 < ((a0.len : Nat) : Int) ∧ ∃ q_1 : Addr, a0.a = some q_1 ∧
  ∃ x_2 : Int, w.cell? (q_1.add (i5 : Int).toNat) = some (.int .i64 x_2) ∧
  0 ≤ (i5 : Int) ∧ i5 < ((b1.len : Nat) : Int) ∧ ∃ q_3 : Addr, b1.a = some q_3 ∧
  ∃ x_4 : Int, w.cell? (q_3.add (i5 : Int).toNat) = some (.int .i64 x_4) ∧
  cond ((x_2 : Int) != x_4)
  (R (.bool false) w.drew)
  ((let i5_4 : Int := (IntKind.i64.wrap (i5 + 1));
  N1 a0 b1 i5_4 w.drew)))
  (R (.bool true) w)

def trystkeep_Ints.l1 (R : Value → World → Prop) (a0 : Sl) (b1 : Sl) (i5 : Int) (w : World) : Prop :=
  ∃ (I : Int → World → Prop) (μ : Int → World → Nat), I i5 w ∧ ∀ s w, I s w → trystkeep_Ints.b1 R (fun a0' b1' i5' w' => (a0' = a0 ∧ b1' = b1 ∧ I i5' w') ∧ μ i5' w' < μ s w) a0 b1 s w

def trystkeep_Ints.main (R : Value → World → Prop) (a0 : Sl) (b1 : Sl) (w : World) : Prop :=
  cond ((((a0.len : Nat) : Int) : Int) != ((b1.len : Nat) : Int))
  (R (.bool false) w)
  (trystkeep_Ints.l1 R a0 b1 0 w)

def trystkeep_Ints.J0 (R : Value → World → Prop) (k : Nat) (fr : Fr) (w : World) : Prop :=
  cond (Nat.beq k 1) (dec [(0, .slice), (1, .slice), (5, (.int .i64))] fr fun x => trystkeep_Ints.l1 R x.1 x.2.1 x.2.2 w) (False)

set_option maxRecDepth 100000 in
theorem trystkeep_Ints.lift {R : Value → World → Prop} {a0 : Sl} {b1 : Sl} {w : World} (h : trystkeep_Ints.main R a0 b1 w) : CallsV Tryd.prog n_trystkeep_Ints #[.slice a0.a a0.len a0.cap, .slice b1.a b1.len b1.cap] w R :=
  liftCalls (c := (.seq (.leaf (cL (bd Tryd.f22))) (.seq (.seq (.leaf (cL (cL (cR (bd Tryd.f22))))) (.cnd (.tmp 10) (.seq (.leaf (cL (cT (cR (cL (cR (bd Tryd.f22))))))) (.leaf (cR (cT (cR (cL (cR (bd Tryd.f22)))))))) (.leaf (cE (cR (cL (cR (bd Tryd.f22)))))))) (.seq (.seq (.leaf (cL (cL (cR (cR (bd Tryd.f22)))))) (.block 0 (.loop 1 (.seq (.seq (.leaf (cL (cL (cB (cB (cR (cL (cR (cR (bd Tryd.f22)))))))))) (.cnd (.tmp 14) (.leaf (cT (cR (cL (cB (cB (cR (cL (cR (cR (bd Tryd.f22))))))))))) (.leaf (cE (cR (cL (cB (cB (cR (cL (cR (cR (bd Tryd.f22))))))))))))) (.seq (.block 1 (.seq (.leaf (cL (cB (cL (cR (cB (cB (cR (cL (cR (cR (bd Tryd.f22)))))))))))) (.cnd (.tmp 25) (.seq (.leaf (cL (cT (cR (cB (cL (cR (cB (cB (cR (cL (cR (cR (bd Tryd.f22)))))))))))))) (.leaf (cR (cT (cR (cB (cL (cR (cB (cB (cR (cL (cR (cR (bd Tryd.f22))))))))))))))) (.leaf (cE (cR (cB (cL (cR (cB (cB (cR (cL (cR (cR (bd Tryd.f22)))))))))))))))) (.leaf (cR (cR (cB (cB (cR (cL (cR (cR (bd Tryd.f22))))))))))))))) (.seq (.leaf (cL (cR (cR (cR (bd Tryd.f22)))))) (.leaf (cR (cR (cR (cR (bd Tryd.f22))))))))))) (J := trystkeep_Ints.J0 R) LfYtnnpkjhpeefnbaaDoor.mixed Tryd.func22 (by kernel_rfl) (by kernel_rfl) (mkSeq (mkSeq (mkSeq (mkSeq mkLeaf mkLeaf) (mkSeq (mkBlock (mkLoop (loopDef LfYtnnpkjhpeefnbaaDoor.mixed [(0, .slice), (1, .slice), (5, (.int .i64))] (by kernel_rfl) (fun M1 x w => trystkeep_Ints.b1 R (fun y0 y1 y2 w => M1 (y0, y1, y2) w) x.1 x.2.1 x.2.2 w) (fun M1 => fun _ _ _ => False) (fun _ _ _ => by kernel_rfl) (fun M1 => (mkSeq (mkSeq mkLeaf (mkBlock (mkSeq (mkCnd (mkSeq mkLeaf mkLeaf) mkLeaf) mkLeaf))) (mkSeq (mkCnd mkLeaf mkLeaf) mkLeaf))) (fun x w => trystkeep_Ints.l1 R x.1 x.2.1 x.2.2 w) (by rintro ⟨c0, c1, s0⟩ w ⟨I, μ, h0, h1⟩; refine ⟨fun y w => y.1 = c0 ∧ y.2.1 = c1 ∧ I y.2.2 w, fun y w => μ y.2.2 w, ⟨rfl, rfl, h0⟩, ?_⟩; rintro ⟨d0, d1, t0⟩ w ⟨e0, e1, hI⟩; dsimp only at e0 e1 hI; subst e0; subst e1; exact h1 _ _ hI) (fun _ _ => by kernel_rfl)))) mkLeaf)) (mkSeq (mkCnd (mkSeq mkLeaf mkLeaf) mkLeaf) mkLeaf)) mkLeaf) (kcast (by kernel_rfl) h)

/-! trystref15_Path -/
def trystref15_Path.b1 (R : Value → World → Prop) (N1 : Int → Sl → Int → World → Prop) (n1 : Int) (out5 : Sl) (x6 : Int) (w : World) : Prop :=
  CallsV Tryd.prog n_trystref15_Parent #[.int .i64 x6, .int .i64 n1] w (fun v_1 w1 =>
  ∃ x_2 : Int, ∃ b_3 : Bool, v_1 = .tuple #[.int .i64 x_2, .bool b_3] ∧
  cond (!b_3)
  (R (.slice out5.a out5.len out5.cap) w1)
  (let w2 := w1.alloc (.cells #[.int .i64 x_2] 3);
  ∃ (a_4 : Option Addr) (l_5 c_6 : Nat), ∃ w3 : World, (builtin .append #[23, 23] 23 #[] #[.slice out5.a out5.len out5.cap, .slice (some (newA w1)) 1 1]).run Tryd.prog w2 = .ok (.value (.slice a_4 l_5 c_6)) w3 ∧
  N1 n1 ⟨a_4, l_5, c_6⟩ x_2 w3))

def trystref15_Path.l1 (R : Value → World → Prop) (n1 : Int) (out5 : Sl) (x6 : Int) (w : World) : Prop :=
  ∃ (I : (Sl × Int) → World → Prop) (μ : (Sl × Int) → World → Nat), I (out5, x6) w ∧ ∀ s w, I s w → trystref15_Path.b1 R (fun n1' out5' x6' w' => (n1' = n1 ∧ I (out5', x6') w') ∧ μ (out5', x6') w' < μ s w) n1 s.1 s.2 w

def trystref15_Path.main (R : Value → World → Prop) (i0 : Int) (n1 : Int) (w : World) : Prop :=
  (let x6_6 : Int := (IntKind.i64.wrap (2 * i0));
  trystref15_Path.l1 R n1 ⟨none, 0, 0⟩ x6_6 w)

def trystref15_Path.J0 (R : Value → World → Prop) (k : Nat) (fr : Fr) (w : World) : Prop :=
  cond (Nat.beq k 1) (dec [(1, (.int .i64)), (5, .slice), (6, (.int .i64))] fr fun x => trystref15_Path.l1 R x.1 x.2.1 x.2.2 w) (False)

set_option maxRecDepth 100000 in
theorem trystref15_Path.lift {R : Value → World → Prop} {i0 : Int} {n1 : Int} {w : World} (h : trystref15_Path.main R i0 n1 w) : CallsV Tryd.prog n_trystref15_Path #[.int .i64 i0, .int .i64 n1] w R :=
  liftCalls (c := (.seq (.leaf (cL (bd Tryd.f23))) (.seq (.leaf (cL (cR (bd Tryd.f23)))) (.seq (.leaf (cL (cR (cR (bd Tryd.f23))))) (.block 0 (.loop 1 (.block 1 (.seq (.leaf (cL (cB (cB (cB (cR (cR (cR (bd Tryd.f23))))))))) (.seq (.seq (.leaf (cL (cL (cR (cB (cB (cB (cR (cR (cR (bd Tryd.f23))))))))))) (.cnd (.tmp 18) (.seq (.leaf (cL (cT (cR (cL (cR (cB (cB (cB (cR (cR (cR (bd Tryd.f23))))))))))))) (.leaf (cR (cT (cR (cL (cR (cB (cB (cB (cR (cR (cR (bd Tryd.f23)))))))))))))) (.leaf (cE (cR (cL (cR (cB (cB (cB (cR (cR (cR (bd Tryd.f23)))))))))))))) (.seq (.leaf (cL (cR (cR (cB (cB (cB (cR (cR (cR (bd Tryd.f23))))))))))) (.leaf (cR (cR (cR (cB (cB (cB (cR (cR (cR (bd Tryd.f23))))))))))))))))))))) (J := trystref15_Path.J0 R) LfYtnnpkjhpeefnbaaDoor.mixed Tryd.func23 (by kernel_rfl) (by kernel_rfl) (mkSeq (mkSeq (mkSeq (mkBlock (mkLoop (loopDef LfYtnnpkjhpeefnbaaDoor.mixed [(1, (.int .i64)), (5, .slice), (6, (.int .i64))] (by kernel_rfl) (fun M1 x w => trystref15_Path.b1 R (fun y0 y1 y2 w => M1 (y0, y1, y2) w) x.1 x.2.1 x.2.2 w) (fun M1 => fun _ _ _ => False) (fun _ _ _ => by kernel_rfl) (fun M1 => (mkBlock (mkSeq (mkSeq (mkSeq mkLeaf mkLeaf) (mkSeq (mkCnd (mkSeq mkLeaf mkLeaf) mkLeaf) mkLeaf)) mkLeaf))) (fun x w => trystref15_Path.l1 R x.1 x.2.1 x.2.2 w) (by rintro ⟨c0, s0⟩ w ⟨I, μ, h0, h1⟩; refine ⟨fun y w => y.1 = c0 ∧ I y.2 w, fun y w => μ y.2 w, ⟨rfl, h0⟩, ?_⟩; rintro ⟨d0, t0⟩ w ⟨e0, hI⟩; dsimp only at e0 hI; subst e0; exact h1 _ _ hI) (fun _ _ => by kernel_rfl)))) mkLeaf) mkLeaf) mkLeaf) (kcast (by kernel_rfl) h)

/-! bits_TrailingZeros64 -/
def bits_TrailingZeros64.main (R : Value → World → Prop) (x0 : Int) (w : World) : Prop :=
  cond ((x0 : Int) == 0)
  (R (.int .i64 64) w)
  (0 ≤ (58 : Int) ∧
  0 ≤ ((Int.fdiv (IntKind.u64.wrap ((Go.bits BinOp.and .u64 x0 (IntKind.u64.wrap (0 - x0))) * 285870213051353865)) (2 ^ (min (58 : Int).toNat IntKind.u64.bits))) : Int) ∧ (Int.fdiv (IntKind.u64.wrap ((Go.bits BinOp.and .u64 x0 (IntKind.u64.wrap (0 - x0))) * 285870213051353865)) (2 ^ (min (58 : Int).toNat IntKind.u64.bits))) < ((64 : Nat) : Int) ∧
  ∃ x_1 : Int, w.cell? ((⟨0, 0, none⟩ : Addr).add (ixOff ((Int.fdiv (IntKind.u64.wrap ((Go.bits BinOp.and .u64 x0 (IntKind.u64.wrap (0 - x0))) * 285870213051353865)) (2 ^ (min (58 : Int).toNat IntKind.u64.bits))) : Int).toNat 1)) = some (.int .u8 x_1) ∧
  R (.int .i64 (IntKind.i64.wrap x_1)) w)

def bits_TrailingZeros64.J0 (_ : Value → World → Prop) (_ : Nat) (_ : Fr) (_ : World) : Prop := False

set_option maxRecDepth 100000 in
theorem bits_TrailingZeros64.lift {R : Value → World → Prop} {x0 : Int} {w : World} (h : bits_TrailingZeros64.main R x0 w) : CallsV Tryd.prog n_bits_TrailingZeros64 #[.int .u64 x0] w R :=
  liftCalls (c := (.seq (.leaf (cL (bd Tryd.f24))) (.seq (.seq (.leaf (cL (cL (cR (bd Tryd.f24))))) (.cnd (.tmp 4) (.seq (.leaf (cL (cT (cR (cL (cR (bd Tryd.f24))))))) (.leaf (cR (cT (cR (cL (cR (bd Tryd.f24)))))))) (.leaf (cE (cR (cL (cR (bd Tryd.f24)))))))) (.seq (.leaf (cL (cR (cR (bd Tryd.f24))))) (.leaf (cR (cR (cR (bd Tryd.f24))))))))) (J := bits_TrailingZeros64.J0 R) LfYtnnpkjhpeefnbaaDoor.mixed Tryd.func24 (by kernel_rfl) (by kernel_rfl) (mkSeq (mkSeq (mkSeq mkLeaf mkLeaf) (mkSeq (mkCnd (mkSeq mkLeaf mkLeaf) mkLeaf) mkLeaf)) mkLeaf) (kcast (by kernel_rfl) h)

/-! nodes_child -/
def nodes_child.c1 (R : Value → World → Prop) (x0 : Int) (side1 : Int) (w : World) : Prop :=
  CallsV Tryd.prog n_nodes_Level #[.int .i64 x0] w (fun v_1 w1 =>
  ∃ x_2 : Int, v_1 = .int .i64 x_2 ∧
  0 ≤ ((IntKind.i64.wrap (x_2 - 1)) : Int) ∧
  (let t4_2 : Int := (IntKind.i64.wrap (x0 + (IntKind.i64.wrap (side1 * (IntKind.i64.wrap (1 * 2 ^ (min ((IntKind.i64.wrap (x_2 - 1)) : Int).toNat IntKind.i64.bits)))))));
  R (.tuple #[.int .i64 t4_2, .int .i64 0]) w1))

def nodes_child.main (R : Value → World → Prop) (x0 : Int) (side1 : Int) (w : World) : Prop :=
  cond (decide ((x0 : Int) < 0))
  (R (.tuple #[.int .i64 0, .int .i64 1]) w)
  (cond (decide ((x0 : Int) > 14))
  (R (.tuple #[.int .i64 0, .int .i64 1]) w)
  (CallsV Tryd.prog n_nodes_Level #[.int .i64 x0] w (fun v_4 w2 =>
  ∃ x_5 : Int, v_4 = .int .i64 x_5 ∧
  cond ((x_5 : Int) == 0)
  (R (.tuple #[.int .i64 0, .int .i64 1]) w2)
  (nodes_child.c1 R x0 side1 w2))))

def nodes_child.J0 (R : Value → World → Prop) (k : Nat) (fr : Fr) (w : World) : Prop :=
  cond (Nat.beq k 1) (dec [(0, (.int .i64)), (1, (.int .i64))] fr fun x => nodes_child.c1 R x.1 x.2 w) (False)

set_option maxRecDepth 100000 in
theorem nodes_child.lift {R : Value → World → Prop} {x0 : Int} {side1 : Int} {w : World} (h : nodes_child.main R x0 side1 w) : CallsV Tryd.prog n_nodes_child #[.int .i64 x0, .int .i64 side1] w R :=
  liftCalls (c := (.seq (.leaf (cL (bd Tryd.f25))) (.seq (.seq (.leaf (cL (cL (cR (bd Tryd.f25))))) (.cnd (.tmp 16) (.seq (.leaf (cL (cT (cR (cL (cR (bd Tryd.f25))))))) (.leaf (cR (cT (cR (cL (cR (bd Tryd.f25)))))))) (.leaf (cE (cR (cL (cR (bd Tryd.f25)))))))) (.cut 1 (.seq (.leaf (cL (cR (cR (bd Tryd.f25))))) (.leaf (cR (cR (cR (bd Tryd.f25)))))))))) (J := nodes_child.J0 R) LfYtnnpkjhpeefnbaaDoor.mixed Tryd.func25 (by kernel_rfl) (by kernel_rfl) (mkSeq (mkSeq (mkCut (cutDef [(0, (.int .i64)), (1, (.int .i64))] (fun x w => nodes_child.c1 R x.1 x.2 w) (fun _ _ => by kernel_rfl) (fun _ _ => by kernel_rfl)) (mkSeq mkLeaf mkLeaf)) (mkSeq (mkCnd (mkSeq mkLeaf mkLeaf) mkLeaf) mkLeaf)) mkLeaf) (kcast (by kernel_rfl) h)

end Go.Proofs.YtnnpkjhpeefnbaaDoor
