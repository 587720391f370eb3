/-
  What the code of these functions comes to, and that it suffices for the call. Written by a program of ours, for this claim.
-/
import Derived.Test.YtnnpkjhpeefnbaaProg
import Derived.Test.YtnnpkjhpeefnbaaLift
set_option linter.unusedVariables false
namespace Go.Proofs.Ytnnpkjhpeefnbaa
open Go.Lf
theorem LfYtnnpkjhpeefnbaa.mixed : Try.prog.follows .mixedOrders = true := by kernel_rfl
abbrev n_trystlaw22_SlotsMeet : Nat := 4
abbrev n_trystlaw22_SlotsAll : Nat := 5
abbrev n_trystlaw22_SlotsTurn : Nat := 6
abbrev n_trystlaw22_SlotsExact : Nat := 7
abbrev n_trystkeep_TwinInts : Nat := 17
abbrev n_trystlaw22_members : Nat := 18
abbrev n_slots_Partner : Nat := 19
abbrev n_trystlaw22_wakes : Nat := 20
abbrev n_trystkeep_Ints : Nat := 21
abbrev n_slots_Even : Nat := 22
abbrev n_trystref22_Members : Nat := 23
abbrev n_trystref22_Partner : Nat := 24
abbrev n_slots_right : Nat := 45
abbrev n_slices_Index_int : Nat := 46
/-! trystlaw22_SlotsMeet -/
def trystlaw22_SlotsMeet.c1 (R : Value → World → Prop) (l5 : Sl) (alone6 : Int) (w : World) : Prop :=
  (2 : Int) ≠ 0 ∧
  cond ((alone6 : Int) == (Int.tmod ((l5.len : Nat) : Int) 2))
  (CallsV Try.prog n_trystlaw22_wakes #[] w (fun v_1 w1 =>
  ∃ b_2 : Bool, v_1 = .bool b_2 ∧
  R (.bool b_2) w1))
  (R (.bool false) w)

def trystlaw22_SlotsMeet.c3 (R : Value → World → Prop) (N2 : Int → Sl → Int → Int → World → Prop) (round1 : Int) (l5 : Sl) (alone6 : Int) (i7 : Int) (x8 : Int) (w : World) : Prop :=
  cond (decide ((x8 : Int) < 0))
  ((let alone6_2 : Int := (IntKind.i64.wrap (alone6 + 1));
  (let i7_3 : Int := (IntKind.i64.wrap (i7 + 1));
  N2 round1 l5 alone6_2 i7_3 w)))
  (CallsV Try.prog n_slots_Partner #[.slice l5.a l5.len l5.cap, .int .i64 x8, .int .i64 round1] w (fun v_5 w2 =>
  ∃ x_6 : Int, ∃ x_7 : Int, v_5 = .tuple #[.int .i64 x_6, .int .i64 x_7] ∧
  cond ((x_7 : Int) != 0)
  (R (.bool false) w2)
  (0 ≤ (i7 : Int) ∧ i7 < ((l5.len : Nat) : Int) ∧ ∃ q_8 : Addr, l5.a = some q_8 ∧
  ∃ x_9 : Int, w2.cell? (q_8.add (i7 : Int).toNat) = some (.int .i64 x_9) ∧
  cond ((x_6 : Int) != x_9)
  (R (.bool false) w2)
  ((let i7_9 : Int := (IntKind.i64.wrap (i7 + 1));
  N2 round1 l5 alone6 i7_9 w2)))))

def trystlaw22_SlotsMeet.b2 (R : Value → World → Prop) (N2 : Int → Sl → Int → Int → World → Prop) (round1 : Int) (l5 : Sl) (alone6 : Int) (i7 : Int) (w : World) : Prop :=
  cond (decide ((i7 : Int) < ((l5.len : Nat) : Int)))
  (0 ≤ (i7 : Int) ∧ i7 < ((l5.len : Nat) : Int) ∧ ∃ q_11 : Addr, l5.a = some q_11 ∧
  ∃ x_12 : Int, w.cell? (q_11.add (i7 : Int).toNat) = some (.int .i64 x_12) ∧
  CallsV Try.prog n_slots_Partner #[.slice l5.a l5.len l5.cap, .int .i64 x_12, .int .i64 round1] w (fun v_13 w3 =>
  ∃ x_14 : Int, ∃ x_15 : Int, v_13 = .tuple #[.int .i64 x_14, .int .i64 x_15] ∧
  cond ((x_15 : Int) != 0)
  (R (.bool false) w3)
  (0 ≤ (i7 : Int) ∧ i7 < ((l5.len : Nat) : Int) ∧ ∃ q_16 : Addr, l5.a = some q_16 ∧
  ∃ x_17 : Int, w3.cell? (q_16.add (i7 : Int).toNat) = some (.int .i64 x_17) ∧
  cond ((x_14 : Int) == x_17)
  (R (.bool false) w3)
  (trystlaw22_SlotsMeet.c3 R N2 round1 l5 alone6 i7 x_14 w3))))
  (trystlaw22_SlotsMeet.c1 R l5 alone6 w)

def trystlaw22_SlotsMeet.l2 (R : Value → World → Prop) (round1 : Int) (l5 : Sl) (alone6 : Int) (i7 : Int) (w : World) : Prop :=
  ∃ (I : (Int × Int) → World → Prop) (μ : (Int × Int) → World → Nat), I (alone6, i7) w ∧ ∀ s w, I s w → trystlaw22_SlotsMeet.b2 R (fun round1' l5' alone6' i7' w' => (round1' = round1 ∧ l5' = l5 ∧ I (alone6', i7') w') ∧ μ (alone6', i7') w' < μ s w) round1 l5 s.1 s.2 w

def trystlaw22_SlotsMeet.main (R : Value → World → Prop) (bits0 : Int) (round1 : Int) (w : World) : Prop :=
  cond (decide ((round1 : Int) < 0))
  (R (.bool true) w)
  (CallsV Try.prog n_trystlaw22_members #[.int .i64 bits0] w (fun v_18 w4 =>
  ∃ (a_19 : Option Addr) (l_20 c_21 : Nat), v_18 = .slice a_19 l_20 c_21 ∧
  trystlaw22_SlotsMeet.l2 R round1 ⟨a_19, l_20, c_21⟩ 0 0 w4))

def trystlaw22_SlotsMeet.J2 (R : Value → World → Prop) (N2 : Int → Sl → Int → Int → World → Prop) (k : Nat) (fr : Fr) (w : World) : Prop :=
  cond (Nat.beq k 3) (dec [(1, (.int .i64)), (5, .slice), (6, (.int .i64)), (7, (.int .i64)), (8, (.int .i64))] fr fun x => trystlaw22_SlotsMeet.c3 R N2 x.1 x.2.1 x.2.2.1 x.2.2.2.1 x.2.2.2.2 w) (False)

def trystlaw22_SlotsMeet.J0 (R : Value → World → Prop) (k : Nat) (fr : Fr) (w : World) : Prop :=
  cond (Nat.beq k 2) (dec [(1, (.int .i64)), (5, .slice), (6, (.int .i64)), (7, (.int .i64))] fr fun x => trystlaw22_SlotsMeet.l2 R x.1 x.2.1 x.2.2.1 x.2.2.2 w) (cond (Nat.beq k 1) (dec [(5, .slice), (6, (.int .i64))] fr fun x => trystlaw22_SlotsMeet.c1 R x.1 x.2 w) (False))

set_option maxRecDepth 100000 in
theorem trystlaw22_SlotsMeet.lift {R : Value → World → Prop} {bits0 : Int} {round1 : Int} {w : World} (h : trystlaw22_SlotsMeet.main R bits0 round1 w) : CallsV Try.prog n_trystlaw22_SlotsMeet #[.int .i64 bits0, .int .i64 round1] w R :=
  liftCalls (c := (.seq (.leaf (cL (bd Try.f4))) (.seq (.seq (.leaf (cL (cL (cR (bd Try.f4))))) (.cnd (.tmp 12) (.seq (.leaf (cL (cT (cR (cL (cR (bd Try.f4))))))) (.leaf (cR (cT (cR (cL (cR (bd Try.f4)))))))) (.leaf (cE (cR (cL (cR (bd Try.f4)))))))) (.seq (.leaf (cL (cR (cR (bd Try.f4))))) (.seq (.leaf (cL (cR (cR (cR (bd Try.f4)))))) (.seq (.seq (.leaf (cL (cL (cR (cR (cR (cR (bd Try.f4)))))))) (.block 0 (.loop 2 (.seq (.seq (.leaf (cL (cL (cB (cB (cR (cL (cR (cR (cR (cR (bd Try.f4)))))))))))) (.cnd (.tmp 18) (.leaf (cT (cR (cL (cB (cB (cR (cL (cR (cR (cR (cR (bd Try.f4))))))))))))) (.leaf (cE (cR (cL (cB (cB (cR (cL (cR (cR (cR (cR (bd Try.f4))))))))))))))) (.seq (.block 1 (.seq (.leaf (cL (cB (cL (cR (cB (cB (cR (cL (cR (cR (cR (cR (bd Try.f4)))))))))))))) (.seq (.seq (.leaf (cL (cL (cR (cB (cL (cR (cB (cB (cR (cL (cR (cR (cR (cR (bd Try.f4)))))))))))))))) (.cnd (.tmp 40) (.seq (.leaf (cL (cT (cR (cL (cR (cB (cL (cR (cB (cB (cR (cL (cR (cR (cR (cR (bd Try.f4)))))))))))))))))) (.leaf (cR (cT (cR (cL (cR (cB (cL (cR (cB (cB (cR (cL (cR (cR (cR (cR (bd Try.f4))))))))))))))))))) (.leaf (cE (cR (cL (cR (cB (cL (cR (cB (cB (cR (cL (cR (cR (cR (cR (bd Try.f4))))))))))))))))))) (.cut 3 (.seq (.seq (.leaf (cL (cL (cR (cR (cB (cL (cR (cB (cB (cR (cL (cR (cR (cR (cR (bd Try.f4))))))))))))))))) (.cnd (.tmp 42) (.seq (.leaf (cL (cT (cR (cL (cR (cR (cB (cL (cR (cB (cB (cR (cL (cR (cR (cR (cR (bd Try.f4))))))))))))))))))) (.leaf (cR (cT (cR (cL (cR (cR (cB (cL (cR (cB (cB (cR (cL (cR (cR (cR (cR (bd Try.f4)))))))))))))))))))) (.leaf (cE (cR (cL (cR (cR (cB (cL (cR (cB (cB (cR (cL (cR (cR (cR (cR (bd Try.f4)))))))))))))))))))) (.seq (.leaf (cL (cR (cR (cR (cB (cL (cR (cB (cB (cR (cL (cR (cR (cR (cR (bd Try.f4))))))))))))))))) (.seq (.leaf (cL (cR (cR (cR (cR (cB (cL (cR (cB (cB (cR (cL (cR (cR (cR (cR (bd Try.f4)))))))))))))))))) (.cnd (.tmp 61) (.seq (.leaf (cL (cT (cR (cR (cR (cR (cR (cB (cL (cR (cB (cB (cR (cL (cR (cR (cR (cR (bd Try.f4)))))))))))))))))))) (.leaf (cR (cT (cR (cR (cR (cR (cR (cB (cL (cR (cB (cB (cR (cL (cR (cR (cR (cR (bd Try.f4))))))))))))))))))))) (.leaf (cE (cR (cR (cR (cR (cR (cB (cL (cR (cB (cB (cR (cL (cR (cR (cR (cR (bd Try.f4))))))))))))))))))))))))))) (.leaf (cR (cR (cB (cB (cR (cL (cR (cR (cR (cR (bd Try.f4))))))))))))))))) (.cut 1 (.seq (.leaf (cL (cR (cR (cR (cR (cR (bd Try.f4)))))))) (.leaf (cR (cR (cR (cR (cR (cR (bd Try.f4)))))))))))))))) (J := trystlaw22_SlotsMeet.J0 R) LfYtnnpkjhpeefnbaa.mixed Try.func4 (by kernel_rfl) (by kernel_rfl) (mkSeq (mkSeq (mkSeq (mkSeq (mkSeq (mkCut (cutDef [(5, .slice), (6, (.int .i64))] (fun x w => trystlaw22_SlotsMeet.c1 R x.1 x.2 w) (fun _ _ => by kernel_rfl) (fun _ _ => by kernel_rfl)) (mkSeq mkLeaf mkLeaf)) (mkSeq (mkBlock (mkLoop (loopDef LfYtnnpkjhpeefnbaa.mixed [(1, (.int .i64)), (5, .slice), (6, (.int .i64)), (7, (.int .i64))] (by kernel_rfl) (fun M2 x w => trystlaw22_SlotsMeet.b2 R (fun y0 y1 y2 y3 w => M2 (y0, y1, y2, y3) w) x.1 x.2.1 x.2.2.1 x.2.2.2 w) (fun M2 => trystlaw22_SlotsMeet.J2 R (fun y0 y1 y2 y3 w => M2 (y0, y1, y2, y3) w)) (fun _ _ _ => by kernel_rfl) (fun M2 => (mkSeq (mkSeq mkLeaf (mkBlock (mkSeq (mkSeq (mkCut (cutDef [(1, (.int .i64)), (5, .slice), (6, (.int .i64)), (7, (.int .i64)), (8, (.int .i64))] (fun x w => trystlaw22_SlotsMeet.c3 R (fun y0 y1 y2 y3 w => M2 (y0, y1, y2, y3) w) x.1 x.2.1 x.2.2.1 x.2.2.2.1 x.2.2.2.2 w) (fun _ _ => by kernel_rfl) (fun _ _ => by kernel_rfl)) (mkSeq (mkSeq (mkSeq (mkCnd (mkSeq mkLeaf mkLeaf) mkLeaf) mkLeaf) mkLeaf) (mkSeq (mkCnd (mkSeq mkLeaf mkLeaf) mkLeaf) mkLeaf))) (mkSeq (mkCnd (mkSeq mkLeaf mkLeaf) mkLeaf) mkLeaf)) mkLeaf))) (mkSeq (mkCnd mkLeaf mkLeaf) mkLeaf))) (fun x w => trystlaw22_SlotsMeet.l2 R x.1 x.2.1 x.2.2.1 x.2.2.2 w) (by rintro ⟨c0, c1, s0⟩ w ⟨I, μ, h0, h1⟩; refine ⟨fun y w => y.1 = c0 ∧ y.2.1 = c1 ∧ I y.2.2 w, fun y w => μ y.2.2 w, ⟨rfl, rfl, h0⟩, ?_⟩; rintro ⟨d0, d1, t0⟩ w ⟨e0, e1, hI⟩; dsimp only at e0 e1 hI; subst e0; subst e1; exact h1 _ _ hI) (fun _ _ => by kernel_rfl)))) mkLeaf)) mkLeaf) mkLeaf) (mkSeq (mkCnd (mkSeq mkLeaf mkLeaf) mkLeaf) mkLeaf)) mkLeaf) (kcast (by kernel_rfl) h)

/-! trystlaw22_SlotsAll -/
def trystlaw22_SlotsAll.c1 (R : Value → World → Prop) (w : World) : Prop :=
  CallsV Try.prog n_trystlaw22_wakes #[] w (fun v_1 w1 =>
  ∃ b_2 : Bool, v_1 = .bool b_2 ∧
  R (.bool b_2) w1)

def trystlaw22_SlotsAll.c4 (R : Value → World → Prop) (N2 : Int → Sl → Int → Int → World → Prop) (N3 : Int → Sl → Int → Int → Int → World → Prop) (round1 : Int) (l5 : Sl) (n6 : Int) (i7 : Int) (k8 : Int) (met9 : Int) (w : World) : Prop :=
  cond ((i7 : Int) == k8)
  (cond ((met9 : Int) != 0)
  (R (.bool false) w)
  (cond ((i7 : Int) != k8)
  (cond ((met9 : Int) != 1)
  (R (.bool false) w)
  ((let k8_2 : Int := (IntKind.i64.wrap (k8 + 1));
  N3 round1 l5 n6 i7 k8_2 w)))
  ((let k8_3 : Int := (IntKind.i64.wrap (k8 + 1));
  N3 round1 l5 n6 i7 k8_3 w))))
  (cond ((i7 : Int) != k8)
  (cond ((met9 : Int) != 1)
  (R (.bool false) w)
  ((let k8_4 : Int := (IntKind.i64.wrap (k8 + 1));
  N3 round1 l5 n6 i7 k8_4 w)))
  ((let k8_5 : Int := (IntKind.i64.wrap (k8 + 1));
  N3 round1 l5 n6 i7 k8_5 w)))

def trystlaw22_SlotsAll.b5 (R : Value → World → Prop) (N2 : Int → Sl → Int → Int → World → Prop) (N3 : Int → Sl → Int → Int → Int → World → Prop) (N5 : Int → Sl → Int → Int → Int → Int → Int → World → Prop) (round1 : Int) (l5 : Sl) (n6 : Int) (i7 : Int) (k8 : Int) (met9 : Int) (r10 : Int) (w : World) : Prop :=
  cond (decide ((r10 : Int) < n6))
  (0 ≤ (i7 : Int) ∧ i7 < ((l5.len : Nat) : Int) ∧ ∃ q_7 : Addr, l5.a = some q_7 ∧
  ∃ x_8 : Int, w.cell? (q_7.add (i7 : Int).toNat) = some (.int .i64 x_8) ∧
  CallsV Try.prog n_slots_Partner #[.slice l5.a l5.len l5.cap, .int .i64 x_8, .int .i64 (IntKind.i64.wrap (round1 + r10))] w (fun v_9 w2 =>
  ∃ x_10 : Int, ∃ x_11 : Int, v_9 = .tuple #[.int .i64 x_10, .int .i64 x_11] ∧
  cond ((x_11 : Int) != 0)
  (R (.bool false) w2)
  (0 ≤ (k8 : Int) ∧ k8 < ((l5.len : Nat) : Int) ∧ ∃ q_12 : Addr, l5.a = some q_12 ∧
  ∃ x_13 : Int, w2.cell? (q_12.add (k8 : Int).toNat) = some (.int .i64 x_13) ∧
  cond ((x_10 : Int) == x_13)
  ((let met9_13 : Int := (IntKind.i64.wrap (met9 + 1));
  (let r10_14 : Int := (IntKind.i64.wrap (r10 + 1));
  N5 round1 l5 n6 i7 k8 met9_13 r10_14 w2)))
  ((let r10_15 : Int := (IntKind.i64.wrap (r10 + 1));
  N5 round1 l5 n6 i7 k8 met9 r10_15 w2)))))
  (trystlaw22_SlotsAll.c4 R N2 N3 round1 l5 n6 i7 k8 met9 w)

def trystlaw22_SlotsAll.l5 (R : Value → World → Prop) (N2 : Int → Sl → Int → Int → World → Prop) (N3 : Int → Sl → Int → Int → Int → World → Prop) (round1 : Int) (l5 : Sl) (n6 : Int) (i7 : Int) (k8 : Int) (met9 : Int) (r10 : Int) (w : World) : Prop :=
  ∃ (I : (Int × Int) → World → Prop) (μ : (Int × Int) → World → Nat), I (met9, r10) w ∧ ∀ s w, I s w → trystlaw22_SlotsAll.b5 R N2 N3 (fun round1' l5' n6' i7' k8' met9' r10' w' => (round1' = round1 ∧ l5' = l5 ∧ n6' = n6 ∧ i7' = i7 ∧ k8' = k8 ∧ I (met9', r10') w') ∧ μ (met9', r10') w' < μ s w) round1 l5 n6 i7 k8 s.1 s.2 w

def trystlaw22_SlotsAll.b3 (R : Value → World → Prop) (N2 : Int → Sl → Int → Int → World → Prop) (N3 : Int → Sl → Int → Int → Int → World → Prop) (round1 : Int) (l5 : Sl) (n6 : Int) (i7 : Int) (k8 : Int) (w : World) : Prop :=
  cond (decide ((k8 : Int) < ((l5.len : Nat) : Int)))
  (trystlaw22_SlotsAll.l5 R N2 N3 round1 l5 n6 i7 k8 0 0 w)
  ((let i7_16 : Int := (IntKind.i64.wrap (i7 + 1));
  N2 round1 l5 n6 i7_16 w))

def trystlaw22_SlotsAll.l3 (R : Value → World → Prop) (N2 : Int → Sl → Int → Int → World → Prop) (round1 : Int) (l5 : Sl) (n6 : Int) (i7 : Int) (k8 : Int) (w : World) : Prop :=
  ∃ (I : Int → World → Prop) (μ : Int → World → Nat), I k8 w ∧ ∀ s w, I s w → trystlaw22_SlotsAll.b3 R N2 (fun round1' l5' n6' i7' k8' w' => (round1' = round1 ∧ l5' = l5 ∧ n6' = n6 ∧ i7' = i7 ∧ I k8' w') ∧ μ k8' w' < μ s w) round1 l5 n6 i7 s w

def trystlaw22_SlotsAll.b2 (R : Value → World → Prop) (N2 : Int → Sl → Int → Int → World → Prop) (round1 : Int) (l5 : Sl) (n6 : Int) (i7 : Int) (w : World) : Prop :=
  cond (decide ((i7 : Int) < ((l5.len : Nat) : Int)))
  (trystlaw22_SlotsAll.l3 R N2 round1 l5 n6 i7 0 w)
  (trystlaw22_SlotsAll.c1 R w)

def trystlaw22_SlotsAll.l2 (R : Value → World → Prop) (round1 : Int) (l5 : Sl) (n6 : Int) (i7 : Int) (w : World) : Prop :=
  ∃ (I : Int → World → Prop) (μ : Int → World → Nat), I i7 w ∧ ∀ s w, I s w → trystlaw22_SlotsAll.b2 R (fun round1' l5' n6' i7' w' => (round1' = round1 ∧ l5' = l5 ∧ n6' = n6 ∧ I i7' w') ∧ μ i7' w' < μ s w) round1 l5 n6 s w

def trystlaw22_SlotsAll.c6 (R : Value → World → Prop) (bits0 : Int) (round1 : Int) (w : World) : Prop :=
  CallsV Try.prog n_trystlaw22_members #[.int .i64 bits0] w (fun v_18 w3 =>
  ∃ (a_19 : Option Addr) (l_20 c_21 : Nat), v_18 = .slice a_19 l_20 c_21 ∧
  (2 : Int) ≠ 0 ∧
  (let n6_21 : Int := (IntKind.i64.wrap ((IntKind.i64.wrap (((l_20 : Nat) : Int) + (Int.tmod ((l_20 : Nat) : Int) 2))) - 1));
  trystlaw22_SlotsAll.l2 R round1 ⟨a_19, l_20, c_21⟩ n6_21 0 w3))

def trystlaw22_SlotsAll.main (R : Value → World → Prop) (bits0 : Int) (round1 : Int) (w : World) : Prop :=
  cond (decide ((round1 : Int) < 0))
  (R (.bool true) w)
  (cond (decide ((round1 : Int) > 1099511627776))
  (R (.bool true) w)
  (trystlaw22_SlotsAll.c6 R bits0 round1 w))

def trystlaw22_SlotsAll.J2 (R : Value → World → Prop) (N2 : Int → Sl → Int → Int → World → Prop) (k : Nat) (fr : Fr) (w : World) : Prop :=
  cond (Nat.beq k 3) (dec [(1, (.int .i64)), (5, .slice), (6, (.int .i64)), (7, (.int .i64)), (8, (.int .i64))] fr fun x => trystlaw22_SlotsAll.l3 R N2 x.1 x.2.1 x.2.2.1 x.2.2.2.1 x.2.2.2.2 w) (False)

def trystlaw22_SlotsAll.J3 (R : Value → World → Prop) (N2 : Int → Sl → Int → Int → World → Prop) (N3 : Int → Sl → Int → Int → Int → World → Prop) (k : Nat) (fr : Fr) (w : World) : Prop :=
  cond (Nat.beq k 5) (dec [(1, (.int .i64)), (5, .slice), (6, (.int .i64)), (7, (.int .i64)), (8, (.int .i64)), (9, (.int .i64)), (10, (.int .i64))] fr fun x => trystlaw22_SlotsAll.l5 R N2 N3 x.1 x.2.1 x.2.2.1 x.2.2.2.1 x.2.2.2.2.1 x.2.2.2.2.2.1 x.2.2.2.2.2.2 w) (cond (Nat.beq k 4) (dec [(1, (.int .i64)), (5, .slice), (6, (.int .i64)), (7, (.int .i64)), (8, (.int .i64)), (9, (.int .i64))] fr fun x => trystlaw22_SlotsAll.c4 R N2 N3 x.1 x.2.1 x.2.2.1 x.2.2.2.1 x.2.2.2.2.1 x.2.2.2.2.2 w) (False))

def trystlaw22_SlotsAll.J0 (R : Value → World → Prop) (k : Nat) (fr : Fr) (w : World) : Prop :=
  cond (Nat.beq k 6) (dec [(0, (.int .i64)), (1, (.int .i64))] fr fun x => trystlaw22_SlotsAll.c6 R x.1 x.2 w) (cond (Nat.beq k 2) (dec [(1, (.int .i64)), (5, .slice), (6, (.int .i64)), (7, (.int .i64))] fr fun x => trystlaw22_SlotsAll.l2 R x.1 x.2.1 x.2.2.1 x.2.2.2 w) (cond (Nat.beq k 1) (dec [] fr fun x => trystlaw22_SlotsAll.c1 R w) (False)))

set_option maxRecDepth 100000 in
theorem trystlaw22_SlotsAll.lift {R : Value → World → Prop} {bits0 : Int} {round1 : Int} {w : World} (h : trystlaw22_SlotsAll.main R bits0 round1 w) : CallsV Try.prog n_trystlaw22_SlotsAll #[.int .i64 bits0, .int .i64 round1] w R :=
  liftCalls (c := (.seq (.leaf (cL (bd Try.f5))) (.seq (.seq (.leaf (cL (cL (cR (bd Try.f5))))) (.cnd (.tmp 18) (.seq (.leaf (cL (cT (cR (cL (cR (bd Try.f5))))))) (.leaf (cR (cT (cR (cL (cR (bd Try.f5)))))))) (.leaf (cE (cR (cL (cR (bd Try.f5)))))))) (.cut 6 (.seq (.leaf (cL (cR (cR (bd Try.f5))))) (.seq (.leaf (cL (cR (cR (cR (bd Try.f5)))))) (.seq (.seq (.leaf (cL (cL (cR (cR (cR (cR (bd Try.f5)))))))) (.block 0 (.loop 2 (.seq (.seq (.leaf (cL (cL (cB (cB (cR (cL (cR (cR (cR (cR (bd Try.f5)))))))))))) (.cnd (.tmp 31) (.leaf (cT (cR (cL (cB (cB (cR (cL (cR (cR (cR (cR (bd Try.f5))))))))))))) (.leaf (cE (cR (cL (cB (cB (cR (cL (cR (cR (cR (cR (bd Try.f5))))))))))))))) (.seq (.block 1 (.seq (.leaf (cL (cB (cL (cR (cB (cB (cR (cL (cR (cR (cR (cR (bd Try.f5)))))))))))))) (.block 2 (.loop 3 (.seq (.seq (.leaf (cL (cL (cB (cB (cR (cB (cL (cR (cB (cB (cR (cL (cR (cR (cR (cR (bd Try.f5)))))))))))))))))) (.cnd (.tmp 37) (.leaf (cT (cR (cL (cB (cB (cR (cB (cL (cR (cB (cB (cR (cL (cR (cR (cR (cR (bd Try.f5))))))))))))))))))) (.leaf (cE (cR (cL (cB (cB (cR (cB (cL (cR (cB (cB (cR (cL (cR (cR (cR (cR (bd Try.f5))))))))))))))))))))) (.seq (.block 3 (.seq (.leaf (cL (cB (cL (cR (cB (cB (cR (cB (cL (cR (cB (cB (cR (cL (cR (cR (cR (cR (bd Try.f5)))))))))))))))))))) (.seq (.seq (.leaf (cL (cL (cR (cB (cL (cR (cB (cB (cR (cB (cL (cR (cB (cB (cR (cL (cR (cR (cR (cR (bd Try.f5)))))))))))))))))))))) (.block 4 (.loop 5 (.seq (.seq (.leaf (cL (cL (cB (cB (cR (cL (cR (cB (cL (cR (cB (cB (cR (cB (cL (cR (cB (cB (cR (cL (cR (cR (cR (cR (bd Try.f5)))))))))))))))))))))))))) (.cnd (.tmp 42) (.leaf (cT (cR (cL (cB (cB (cR (cL (cR (cB (cL (cR (cB (cB (cR (cB (cL (cR (cB (cB (cR (cL (cR (cR (cR (cR (bd Try.f5))))))))))))))))))))))))))) (.leaf (cE (cR (cL (cB (cB (cR (cL (cR (cB (cL (cR (cB (cB (cR (cB (cL (cR (cB (cB (cR (cL (cR (cR (cR (cR (bd Try.f5))))))))))))))))))))))))))))) (.seq (.block 5 (.seq (.leaf (cL (cB (cL (cR (cB (cB (cR (cL (cR (cB (cL (cR (cB (cB (cR (cB (cL (cR (cB (cB (cR (cL (cR (cR (cR (cR (bd Try.f5)))))))))))))))))))))))))))) (.seq (.seq (.leaf (cL (cL (cR (cB (cL (cR (cB (cB (cR (cL (cR (cB (cL (cR (cB (cB (cR (cB (cL (cR (cB (cB (cR (cL (cR (cR (cR (cR (bd Try.f5)))))))))))))))))))))))))))))) (.cnd (.tmp 58) (.seq (.leaf (cL (cT (cR (cL (cR (cB (cL (cR (cB (cB (cR (cL (cR (cB (cL (cR (cB (cB (cR (cB (cL (cR (cB (cB (cR (cL (cR (cR (cR (cR (bd Try.f5)))))))))))))))))))))))))))))))) (.leaf (cR (cT (cR (cL (cR (cB (cL (cR (cB (cB (cR (cL (cR (cB (cL (cR (cB (cB (cR (cB (cL (cR (cB (cB (cR (cL (cR (cR (cR (cR (bd Try.f5))))))))))))))))))))))))))))))))) (.leaf (cE (cR (cL (cR (cB (cL (cR (cB (cB (cR (cL (cR (cB (cL (cR (cB (cB (cR (cB (cL (cR (cB (cB (cR (cL (cR (cR (cR (cR (bd Try.f5))))))))))))))))))))))))))))))))) (.seq (.leaf (cL (cR (cR (cB (cL (cR (cB (cB (cR (cL (cR (cB (cL (cR (cB (cB (cR (cB (cL (cR (cB (cB (cR (cL (cR (cR (cR (cR (bd Try.f5)))))))))))))))))))))))))))))) (.cnd (.tmp 64) (.leaf (cT (cR (cR (cR (cB (cL (cR (cB (cB (cR (cL (cR (cB (cL (cR (cB (cB (cR (cB (cL (cR (cB (cB (cR (cL (cR (cR (cR (cR (bd Try.f5))))))))))))))))))))))))))))))) (.leaf (cE (cR (cR (cR (cB (cL (cR (cB (cB (cR (cL (cR (cB (cL (cR (cB (cB (cR (cB (cL (cR (cB (cB (cR (cL (cR (cR (cR (cR (bd Try.f5)))))))))))))))))))))))))))))))))))) (.leaf (cR (cR (cB (cB (cR (cL (cR (cB (cL (cR (cB (cB (cR (cB (cL (cR (cB (cB (cR (cL (cR (cR (cR (cR (bd Try.f5))))))))))))))))))))))))))))))) (.cut 4 (.seq (.leaf (cL (cR (cR (cB (cL (cR (cB (cB (cR (cB (cL (cR (cB (cB (cR (cL (cR (cR (cR (cR (bd Try.f5)))))))))))))))))))))) (.cnd (.tmp 82) (.seq (.leaf (cL (cT (cR (cR (cR (cB (cL (cR (cB (cB (cR (cB (cL (cR (cB (cB (cR (cL (cR (cR (cR (cR (bd Try.f5)))))))))))))))))))))))) (.leaf (cR (cT (cR (cR (cR (cB (cL (cR (cB (cB (cR (cB (cL (cR (cB (cB (cR (cL (cR (cR (cR (cR (bd Try.f5))))))))))))))))))))))))) (.leaf (cE (cR (cR (cR (cB (cL (cR (cB (cB (cR (cB (cL (cR (cB (cB (cR (cL (cR (cR (cR (cR (bd Try.f5))))))))))))))))))))))))))))) (.leaf (cR (cR (cB (cB (cR (cB (cL (cR (cB (cB (cR (cL (cR (cR (cR (cR (bd Try.f5)))))))))))))))))))))))) (.leaf (cR (cR (cB (cB (cR (cL (cR (cR (cR (cR (bd Try.f5))))))))))))))))) (.cut 1 (.seq (.leaf (cL (cR (cR (cR (cR (cR (bd Try.f5)))))))) (.leaf (cR (cR (cR (cR (cR (cR (bd Try.f5))))))))))))))))) (J := trystlaw22_SlotsAll.J0 R) LfYtnnpkjhpeefnbaa.mixed Try.func5 (by kernel_rfl) (by kernel_rfl) (mkSeq (mkSeq (mkCut (cutDef [(0, (.int .i64)), (1, (.int .i64))] (fun x w => trystlaw22_SlotsAll.c6 R x.1 x.2 w) (fun _ _ => by kernel_rfl) (fun _ _ => by kernel_rfl)) (mkSeq (mkSeq (mkSeq (mkCut (cutDef [] (fun x w => trystlaw22_SlotsAll.c1 R w) (fun _ _ => by kernel_rfl) (fun _ _ => by kernel_rfl)) (mkSeq mkLeaf mkLeaf)) (mkSeq (mkBlock (mkLoop (loopDef LfYtnnpkjhpeefnbaa.mixed [(1, (.int .i64)), (5, .slice), (6, (.int .i64)), (7, (.int .i64))] (by kernel_rfl) (fun M2 x w => trystlaw22_SlotsAll.b2 R (fun y0 y1 y2 y3 w => M2 (y0, y1, y2, y3) w) x.1 x.2.1 x.2.2.1 x.2.2.2 w) (fun M2 => trystlaw22_SlotsAll.J2 R (fun y0 y1 y2 y3 w => M2 (y0, y1, y2, y3) w)) (fun _ _ _ => by kernel_rfl) (fun M2 => (mkSeq (mkSeq mkLeaf (mkBlock (mkSeq (mkBlock (mkLoop (loopDef LfYtnnpkjhpeefnbaa.mixed [(1, (.int .i64)), (5, .slice), (6, (.int .i64)), (7, (.int .i64)), (8, (.int .i64))] (by kernel_rfl) (fun M3 x w => trystlaw22_SlotsAll.b3 R (fun y0 y1 y2 y3 w => M2 (y0, y1, y2, y3) w) (fun y0 y1 y2 y3 y4 w => M3 (y0, y1, y2, y3, y4) w) x.1 x.2.1 x.2.2.1 x.2.2.2.1 x.2.2.2.2 w) (fun M3 => trystlaw22_SlotsAll.J3 R (fun y0 y1 y2 y3 w => M2 (y0, y1, y2, y3) w) (fun y0 y1 y2 y3 y4 w => M3 (y0, y1, y2, y3, y4) w)) (fun _ _ _ => by kernel_rfl) (fun M3 => (mkSeq (mkSeq mkLeaf (mkBlock (mkSeq (mkSeq (mkCut (cutDef [(1, (.int .i64)), (5, .slice), (6, (.int .i64)), (7, (.int .i64)), (8, (.int .i64)), (9, (.int .i64))] (fun x w => trystlaw22_SlotsAll.c4 R (fun y0 y1 y2 y3 w => M2 (y0, y1, y2, y3) w) (fun y0 y1 y2 y3 y4 w => M3 (y0, y1, y2, y3, y4) w) x.1 x.2.1 x.2.2.1 x.2.2.2.1 x.2.2.2.2.1 x.2.2.2.2.2 w) (fun _ _ => by kernel_rfl) (fun _ _ => by kernel_rfl)) (mkSeq (mkCnd (mkSeq mkLeaf mkLeaf) mkLeaf) mkLeaf)) (mkSeq (mkBlock (mkLoop (loopDef LfYtnnpkjhpeefnbaa.mixed [(1, (.int .i64)), (5, .slice), (6, (.int .i64)), (7, (.int .i64)), (8, (.int .i64)), (9, (.int .i64)), (10, (.int .i64))] (by kernel_rfl) (fun M5 x w => trystlaw22_SlotsAll.b5 R (fun y0 y1 y2 y3 w => M2 (y0, y1, y2, y3) w) (fun y0 y1 y2 y3 y4 w => M3 (y0, y1, y2, y3, y4) w) (fun y0 y1 y2 y3 y4 y5 y6 w => M5 (y0, y1, y2, y3, y4, y5, y6) w) x.1 x.2.1 x.2.2.1 x.2.2.2.1 x.2.2.2.2.1 x.2.2.2.2.2.1 x.2.2.2.2.2.2 w) (fun M5 => fun _ _ _ => False) (fun _ _ _ => by kernel_rfl) (fun M5 => (mkSeq (mkSeq mkLeaf (mkBlock (mkSeq (mkSeq (mkSeq (mkCnd mkLeaf mkLeaf) mkLeaf) (mkSeq (mkCnd (mkSeq mkLeaf mkLeaf) mkLeaf) mkLeaf)) mkLeaf))) (mkSeq (mkCnd mkLeaf mkLeaf) mkLeaf))) (fun x w => trystlaw22_SlotsAll.l5 R (fun y0 y1 y2 y3 w => M2 (y0, y1, y2, y3) w) (fun y0 y1 y2 y3 y4 w => M3 (y0, y1, y2, y3, y4) w) x.1 x.2.1 x.2.2.1 x.2.2.2.1 x.2.2.2.2.1 x.2.2.2.2.2.1 x.2.2.2.2.2.2 w) (by rintro ⟨c0, c1, c2, c3, c4, s0⟩ w ⟨I, μ, h0, h1⟩; refine ⟨fun y w => y.1 = c0 ∧ y.2.1 = c1 ∧ y.2.2.1 = c2 ∧ y.2.2.2.1 = c3 ∧ y.2.2.2.2.1 = c4 ∧ I y.2.2.2.2.2 w, fun y w => μ y.2.2.2.2.2 w, ⟨rfl, rfl, rfl, rfl, rfl, h0⟩, ?_⟩; rintro ⟨d0, d1, d2, d3, d4, t0⟩ w ⟨e0, e1, e2, e3, e4, hI⟩; dsimp only at e0 e1 e2 e3 e4 hI; subst e0; subst e1; subst e2; subst e3; subst e4; exact h1 _ _ hI) (fun _ _ => by kernel_rfl)))) mkLeaf)) mkLeaf))) (mkSeq (mkCnd mkLeaf mkLeaf) mkLeaf))) (fun x w => trystlaw22_SlotsAll.l3 R (fun y0 y1 y2 y3 w => M2 (y0, y1, y2, y3) w) x.1 x.2.1 x.2.2.1 x.2.2.2.1 x.2.2.2.2 w) (by rintro ⟨c0, c1, c2, c3, s0⟩ w ⟨I, μ, h0, h1⟩; refine ⟨fun y w => y.1 = c0 ∧ y.2.1 = c1 ∧ y.2.2.1 = c2 ∧ y.2.2.2.1 = c3 ∧ I y.2.2.2.2 w, fun y w => μ y.2.2.2.2 w, ⟨rfl, rfl, rfl, rfl, h0⟩, ?_⟩; rintro ⟨d0, d1, d2, d3, t0⟩ w ⟨e0, e1, e2, e3, hI⟩; dsimp only at e0 e1 e2 e3 hI; subst e0; subst e1; subst e2; subst e3; exact h1 _ _ hI) (fun _ _ => by kernel_rfl)))) mkLeaf))) (mkSeq (mkCnd mkLeaf mkLeaf) mkLeaf))) (fun x w => trystlaw22_SlotsAll.l2 R x.1 x.2.1 x.2.2.1 x.2.2.2 w) (by rintro ⟨c0, c1, c2, s0⟩ w ⟨I, μ, h0, h1⟩; refine ⟨fun y w => y.1 = c0 ∧ y.2.1 = c1 ∧ y.2.2.1 = c2 ∧ I y.2.2.2 w, fun y w => μ y.2.2.2 w, ⟨rfl, rfl, rfl, h0⟩, ?_⟩; rintro ⟨d0, d1, d2, t0⟩ w ⟨e0, e1, e2, hI⟩; dsimp only at e0 e1 e2 hI; subst e0; subst e1; subst e2; exact h1 _ _ hI) (fun _ _ => by kernel_rfl)))) mkLeaf)) mkLeaf) mkLeaf)) (mkSeq (mkCnd (mkSeq mkLeaf mkLeaf) mkLeaf) mkLeaf)) mkLeaf) (kcast (by kernel_rfl) h)

/-! trystlaw22_SlotsTurn -/
def trystlaw22_SlotsTurn.c1 (R : Value → World → Prop) (w : World) : Prop :=
  CallsV Try.prog n_trystlaw22_wakes #[] w (fun v_1 w1 =>
  ∃ b_2 : Bool, v_1 = .bool b_2 ∧
  R (.bool b_2) w1)

def trystlaw22_SlotsTurn.c3 (R : Value → World → Prop) (N2 : Int → Sl → Int → Int → World → Prop) (round1 : Int) (l5 : Sl) (n6 : Int) (i7 : Int) (alone8 : Int) (w : World) : Prop :=
  (2 : Int) ≠ 0 ∧
  cond ((alone8 : Int) != (Int.tmod ((l5.len : Nat) : Int) 2))
  (R (.bool false) w)
  ((let i7_2 : Int := (IntKind.i64.wrap (i7 + 1));
  N2 round1 l5 n6 i7_2 w))

def trystlaw22_SlotsTurn.c5 (R : Value → World → Prop) (N2 : Int → Sl → Int → Int → World → Prop) (N4 : Int → Sl → Int → Int → Int → Int → World → Prop) (round1 : Int) (l5 : Sl) (n6 : Int) (i7 : Int) (alone8 : Int) (r9 : Int) (x10 : Int) (w : World) : Prop :=
  cond (decide ((x10 : Int) < 0))
  ((let alone8_3 : Int := (IntKind.i64.wrap (alone8 + 1));
  (let r9_4 : Int := (IntKind.i64.wrap (r9 + 1));
  N4 round1 l5 n6 i7 alone8_3 r9_4 w)))
  ((let r9_5 : Int := (IntKind.i64.wrap (r9 + 1));
  N4 round1 l5 n6 i7 alone8 r9_5 w))

def trystlaw22_SlotsTurn.b4 (R : Value → World → Prop) (N2 : Int → Sl → Int → Int → World → Prop) (N4 : Int → Sl → Int → Int → Int → Int → World → Prop) (round1 : Int) (l5 : Sl) (n6 : Int) (i7 : Int) (alone8 : Int) (r9 : Int) (w : World) : Prop :=
  cond (decide ((r9 : Int) < n6))
  (0 ≤ (i7 : Int) ∧ i7 < ((l5.len : Nat) : Int) ∧ ∃ q_7 : Addr, l5.a = some q_7 ∧
  ∃ x_8 : Int, w.cell? (q_7.add (i7 : Int).toNat) = some (.int .i64 x_8) ∧
  CallsV Try.prog n_slots_Partner #[.slice l5.a l5.len l5.cap, .int .i64 x_8, .int .i64 (IntKind.i64.wrap (round1 + r9))] w (fun v_9 w2 =>
  ∃ x_10 : Int, ∃ x_11 : Int, v_9 = .tuple #[.int .i64 x_10, .int .i64 x_11] ∧
  0 ≤ (i7 : Int) ∧ i7 < ((l5.len : Nat) : Int) ∧ ∃ q_12 : Addr, l5.a = some q_12 ∧
  ∃ x_13 : Int, w2.cell? (q_12.add (i7 : Int).toNat) = some (.int .i64 x_13) ∧
  CallsV Try.prog n_slots_Partner #[.slice l5.a l5.len l5.cap, .int .i64 x_13, .int .i64 (IntKind.i64.wrap ((IntKind.i64.wrap (round1 + r9)) + n6))] w2 (fun v_14 w3 =>
  ∃ x_15 : Int, ∃ x_16 : Int, v_14 = .tuple #[.int .i64 x_15, .int .i64 x_16] ∧
  cond ((x_11 : Int) != 0)
  (R (.bool false) w3)
  (cond ((x_16 : Int) != 0)
  (R (.bool false) w3)
  (cond ((x_10 : Int) != x_15)
  (R (.bool false) w3)
  (trystlaw22_SlotsTurn.c5 R N2 N4 round1 l5 n6 i7 alone8 r9 x_10 w3))))))
  (trystlaw22_SlotsTurn.c3 R N2 round1 l5 n6 i7 alone8 w)

def trystlaw22_SlotsTurn.l4 (R : Value → World → Prop) (N2 : Int → Sl → Int → Int → World → Prop) (round1 : Int) (l5 : Sl) (n6 : Int) (i7 : Int) (alone8 : Int) (r9 : Int) (w : World) : Prop :=
  ∃ (I : (Int × Int) → World → Prop) (μ : (Int × Int) → World → Nat), I (alone8, r9) w ∧ ∀ s w, I s w → trystlaw22_SlotsTurn.b4 R N2 (fun round1' l5' n6' i7' alone8' r9' w' => (round1' = round1 ∧ l5' = l5 ∧ n6' = n6 ∧ i7' = i7 ∧ I (alone8', r9') w') ∧ μ (alone8', r9') w' < μ s w) round1 l5 n6 i7 s.1 s.2 w

def trystlaw22_SlotsTurn.b2 (R : Value → World → Prop) (N2 : Int → Sl → Int → Int → World → Prop) (round1 : Int) (l5 : Sl) (n6 : Int) (i7 : Int) (w : World) : Prop :=
  cond (decide ((i7 : Int) < ((l5.len : Nat) : Int)))
  (trystlaw22_SlotsTurn.l4 R N2 round1 l5 n6 i7 0 0 w)
  (trystlaw22_SlotsTurn.c1 R w)

def trystlaw22_SlotsTurn.l2 (R : Value → World → Prop) (round1 : Int) (l5 : Sl) (n6 : Int) (i7 : Int) (w : World) : Prop :=
  ∃ (I : Int → World → Prop) (μ : Int → World → Nat), I i7 w ∧ ∀ s w, I s w → trystlaw22_SlotsTurn.b2 R (fun round1' l5' n6' i7' w' => (round1' = round1 ∧ l5' = l5 ∧ n6' = n6 ∧ I i7' w') ∧ μ i7' w' < μ s w) round1 l5 n6 s w

def trystlaw22_SlotsTurn.c6 (R : Value → World → Prop) (bits0 : Int) (round1 : Int) (w : World) : Prop :=
  CallsV Try.prog n_trystlaw22_members #[.int .i64 bits0] w (fun v_17 w4 =>
  ∃ (a_18 : Option Addr) (l_19 c_20 : Nat), v_17 = .slice a_18 l_19 c_20 ∧
  (2 : Int) ≠ 0 ∧
  (let n6_20 : Int := (IntKind.i64.wrap ((IntKind.i64.wrap (((l_19 : Nat) : Int) + (Int.tmod ((l_19 : Nat) : Int) 2))) - 1));
  trystlaw22_SlotsTurn.l2 R round1 ⟨a_18, l_19, c_20⟩ n6_20 0 w4))

def trystlaw22_SlotsTurn.main (R : Value → World → Prop) (bits0 : Int) (round1 : Int) (w : World) : Prop :=
  cond (decide ((round1 : Int) < 0))
  (R (.bool true) w)
  (cond (decide ((round1 : Int) > 1099511627776))
  (R (.bool true) w)
  (trystlaw22_SlotsTurn.c6 R bits0 round1 w))

def trystlaw22_SlotsTurn.J2 (R : Value → World → Prop) (N2 : Int → Sl → Int → Int → World → Prop) (k : Nat) (fr : Fr) (w : World) : Prop :=
  cond (Nat.beq k 4) (dec [(1, (.int .i64)), (5, .slice), (6, (.int .i64)), (7, (.int .i64)), (8, (.int .i64)), (9, (.int .i64))] fr fun x => trystlaw22_SlotsTurn.l4 R N2 x.1 x.2.1 x.2.2.1 x.2.2.2.1 x.2.2.2.2.1 x.2.2.2.2.2 w) (cond (Nat.beq k 3) (dec [(1, (.int .i64)), (5, .slice), (6, (.int .i64)), (7, (.int .i64)), (8, (.int .i64))] fr fun x => trystlaw22_SlotsTurn.c3 R N2 x.1 x.2.1 x.2.2.1 x.2.2.2.1 x.2.2.2.2 w) (False))

def trystlaw22_SlotsTurn.J4 (R : Value → World → Prop) (N2 : Int → Sl → Int → Int → World → Prop) (N4 : Int → Sl → Int → Int → Int → Int → World → Prop) (k : Nat) (fr : Fr) (w : World) : Prop :=
  cond (Nat.beq k 5) (dec [(1, (.int .i64)), (5, .slice), (6, (.int .i64)), (7, (.int .i64)), (8, (.int .i64)), (9, (.int .i64)), (10, (.int .i64))] fr fun x => trystlaw22_SlotsTurn.c5 R N2 N4 x.1 x.2.1 x.2.2.1 x.2.2.2.1 x.2.2.2.2.1 x.2.2.2.2.2.1 x.2.2.2.2.2.2 w) (False)

def trystlaw22_SlotsTurn.J0 (R : Value → World → Prop) (k : Nat) (fr : Fr) (w : World) : Prop :=
  cond (Nat.beq k 6) (dec [(0, (.int .i64)), (1, (.int .i64))] fr fun x => trystlaw22_SlotsTurn.c6 R x.1 x.2 w) (cond (Nat.beq k 2) (dec [(1, (.int .i64)), (5, .slice), (6, (.int .i64)), (7, (.int .i64))] fr fun x => trystlaw22_SlotsTurn.l2 R x.1 x.2.1 x.2.2.1 x.2.2.2 w) (cond (Nat.beq k 1) (dec [] fr fun x => trystlaw22_SlotsTurn.c1 R w) (False)))

set_option maxRecDepth 100000 in
theorem trystlaw22_SlotsTurn.lift {R : Value → World → Prop} {bits0 : Int} {round1 : Int} {w : World} (h : trystlaw22_SlotsTurn.main R bits0 round1 w) : CallsV Try.prog n_trystlaw22_SlotsTurn #[.int .i64 bits0, .int .i64 round1] w R :=
  liftCalls (c := (.seq (.leaf (cL (bd Try.f6))) (.seq (.seq (.leaf (cL (cL (cR (bd Try.f6))))) (.cnd (.tmp 19) (.seq (.leaf (cL (cT (cR (cL (cR (bd Try.f6))))))) (.leaf (cR (cT (cR (cL (cR (bd Try.f6)))))))) (.leaf (cE (cR (cL (cR (bd Try.f6)))))))) (.cut 6 (.seq (.leaf (cL (cR (cR (bd Try.f6))))) (.seq (.leaf (cL (cR (cR (cR (bd Try.f6)))))) (.seq (.seq (.leaf (cL (cL (cR (cR (cR (cR (bd Try.f6)))))))) (.block 0 (.loop 2 (.seq (.seq (.leaf (cL (cL (cB (cB (cR (cL (cR (cR (cR (cR (bd Try.f6)))))))))))) (.cnd (.tmp 32) (.leaf (cT (cR (cL (cB (cB (cR (cL (cR (cR (cR (cR (bd Try.f6))))))))))))) (.leaf (cE (cR (cL (cB (cB (cR (cL (cR (cR (cR (cR (bd Try.f6))))))))))))))) (.seq (.block 1 (.seq (.leaf (cL (cB (cL (cR (cB (cB (cR (cL (cR (cR (cR (cR (bd Try.f6)))))))))))))) (.seq (.seq (.leaf (cL (cL (cR (cB (cL (cR (cB (cB (cR (cL (cR (cR (cR (cR (bd Try.f6)))))))))))))))) (.block 2 (.loop 4 (.seq (.seq (.leaf (cL (cL (cB (cB (cR (cL (cR (cB (cL (cR (cB (cB (cR (cL (cR (cR (cR (cR (bd Try.f6)))))))))))))))))))) (.cnd (.tmp 37) (.leaf (cT (cR (cL (cB (cB (cR (cL (cR (cB (cL (cR (cB (cB (cR (cL (cR (cR (cR (cR (bd Try.f6))))))))))))))))))))) (.leaf (cE (cR (cL (cB (cB (cR (cL (cR (cB (cL (cR (cB (cB (cR (cL (cR (cR (cR (cR (bd Try.f6))))))))))))))))))))))) (.seq (.block 3 (.seq (.leaf (cL (cB (cL (cR (cB (cB (cR (cL (cR (cB (cL (cR (cB (cB (cR (cL (cR (cR (cR (cR (bd Try.f6)))))))))))))))))))))) (.seq (.leaf (cL (cR (cB (cL (cR (cB (cB (cR (cL (cR (cB (cL (cR (cB (cB (cR (cL (cR (cR (cR (cR (bd Try.f6))))))))))))))))))))))) (.seq (.seq (.leaf (cL (cL (cR (cR (cB (cL (cR (cB (cB (cR (cL (cR (cB (cL (cR (cB (cB (cR (cL (cR (cR (cR (cR (bd Try.f6))))))))))))))))))))))))) (.cnd (.tmp 76) (.seq (.leaf (cL (cT (cR (cL (cR (cR (cB (cL (cR (cB (cB (cR (cL (cR (cB (cL (cR (cB (cB (cR (cL (cR (cR (cR (cR (bd Try.f6))))))))))))))))))))))))))) (.leaf (cR (cT (cR (cL (cR (cR (cB (cL (cR (cB (cB (cR (cL (cR (cB (cL (cR (cB (cB (cR (cL (cR (cR (cR (cR (bd Try.f6)))))))))))))))))))))))))))) (.leaf (cE (cR (cL (cR (cR (cB (cL (cR (cB (cB (cR (cL (cR (cB (cL (cR (cB (cB (cR (cL (cR (cR (cR (cR (bd Try.f6)))))))))))))))))))))))))))) (.cut 5 (.seq (.leaf (cL (cR (cR (cR (cB (cL (cR (cB (cB (cR (cL (cR (cB (cL (cR (cB (cB (cR (cL (cR (cR (cR (cR (bd Try.f6))))))))))))))))))))))))) (.cnd (.tmp 78) (.leaf (cT (cR (cR (cR (cR (cB (cL (cR (cB (cB (cR (cL (cR (cB (cL (cR (cB (cB (cR (cL (cR (cR (cR (cR (bd Try.f6)))))))))))))))))))))))))) (.leaf (cE (cR (cR (cR (cR (cB (cL (cR (cB (cB (cR (cL (cR (cB (cL (cR (cB (cB (cR (cL (cR (cR (cR (cR (bd Try.f6))))))))))))))))))))))))))))))))) (.leaf (cR (cR (cB (cB (cR (cL (cR (cB (cL (cR (cB (cB (cR (cL (cR (cR (cR (cR (bd Try.f6))))))))))))))))))))))))) (.cut 3 (.seq (.leaf (cL (cR (cR (cB (cL (cR (cB (cB (cR (cL (cR (cR (cR (cR (bd Try.f6)))))))))))))))) (.cnd (.tmp 85) (.seq (.leaf (cL (cT (cR (cR (cR (cB (cL (cR (cB (cB (cR (cL (cR (cR (cR (cR (bd Try.f6)))))))))))))))))) (.leaf (cR (cT (cR (cR (cR (cB (cL (cR (cB (cB (cR (cL (cR (cR (cR (cR (bd Try.f6))))))))))))))))))) (.leaf (cE (cR (cR (cR (cB (cL (cR (cB (cB (cR (cL (cR (cR (cR (cR (bd Try.f6))))))))))))))))))))))) (.leaf (cR (cR (cB (cB (cR (cL (cR (cR (cR (cR (bd Try.f6))))))))))))))))) (.cut 1 (.seq (.leaf (cL (cR (cR (cR (cR (cR (bd Try.f6)))))))) (.leaf (cR (cR (cR (cR (cR (cR (bd Try.f6))))))))))))))))) (J := trystlaw22_SlotsTurn.J0 R) LfYtnnpkjhpeefnbaa.mixed Try.func6 (by kernel_rfl) (by kernel_rfl) (mkSeq (mkSeq (mkCut (cutDef [(0, (.int .i64)), (1, (.int .i64))] (fun x w => trystlaw22_SlotsTurn.c6 R x.1 x.2 w) (fun _ _ => by kernel_rfl) (fun _ _ => by kernel_rfl)) (mkSeq (mkSeq (mkSeq (mkCut (cutDef [] (fun x w => trystlaw22_SlotsTurn.c1 R w) (fun _ _ => by kernel_rfl) (fun _ _ => by kernel_rfl)) (mkSeq mkLeaf mkLeaf)) (mkSeq (mkBlock (mkLoop (loopDef LfYtnnpkjhpeefnbaa.mixed [(1, (.int .i64)), (5, .slice), (6, (.int .i64)), (7, (.int .i64))] (by kernel_rfl) (fun M2 x w => trystlaw22_SlotsTurn.b2 R (fun y0 y1 y2 y3 w => M2 (y0, y1, y2, y3) w) x.1 x.2.1 x.2.2.1 x.2.2.2 w) (fun M2 => trystlaw22_SlotsTurn.J2 R (fun y0 y1 y2 y3 w => M2 (y0, y1, y2, y3) w)) (fun _ _ _ => by kernel_rfl) (fun M2 => (mkSeq (mkSeq mkLeaf (mkBlock (mkSeq (mkSeq (mkCut (cutDef [(1, (.int .i64)), (5, .slice), (6, (.int .i64)), (7, (.int .i64)), (8, (.int .i64))] (fun x w => trystlaw22_SlotsTurn.c3 R (fun y0 y1 y2 y3 w => M2 (y0, y1, y2, y3) w) x.1 x.2.1 x.2.2.1 x.2.2.2.1 x.2.2.2.2 w) (fun _ _ => by kernel_rfl) (fun _ _ => by kernel_rfl)) (mkSeq (mkCnd (mkSeq mkLeaf mkLeaf) mkLeaf) mkLeaf)) (mkSeq (mkBlock (mkLoop (loopDef LfYtnnpkjhpeefnbaa.mixed [(1, (.int .i64)), (5, .slice), (6, (.int .i64)), (7, (.int .i64)), (8, (.int .i64)), (9, (.int .i64))] (by kernel_rfl) (fun M4 x w => trystlaw22_SlotsTurn.b4 R (fun y0 y1 y2 y3 w => M2 (y0, y1, y2, y3) w) (fun y0 y1 y2 y3 y4 y5 w => M4 (y0, y1, y2, y3, y4, y5) w) x.1 x.2.1 x.2.2.1 x.2.2.2.1 x.2.2.2.2.1 x.2.2.2.2.2 w) (fun M4 => trystlaw22_SlotsTurn.J4 R (fun y0 y1 y2 y3 w => M2 (y0, y1, y2, y3) w) (fun y0 y1 y2 y3 y4 y5 w => M4 (y0, y1, y2, y3, y4, y5) w)) (fun _ _ _ => by kernel_rfl) (fun M4 => (mkSeq (mkSeq mkLeaf (mkBlock (mkSeq (mkSeq (mkSeq (mkCut (cutDef [(1, (.int .i64)), (5, .slice), (6, (.int .i64)), (7, (.int .i64)), (8, (.int .i64)), (9, (.int .i64)), (10, (.int .i64))] (fun x w => trystlaw22_SlotsTurn.c5 R (fun y0 y1 y2 y3 w => M2 (y0, y1, y2, y3) w) (fun y0 y1 y2 y3 y4 y5 w => M4 (y0, y1, y2, y3, y4, y5) w) x.1 x.2.1 x.2.2.1 x.2.2.2.1 x.2.2.2.2.1 x.2.2.2.2.2.1 x.2.2.2.2.2.2 w) (fun _ _ => by kernel_rfl) (fun _ _ => by kernel_rfl)) (mkSeq (mkCnd mkLeaf mkLeaf) mkLeaf)) (mkSeq (mkCnd (mkSeq mkLeaf mkLeaf) mkLeaf) mkLeaf)) mkLeaf) mkLeaf))) (mkSeq (mkCnd mkLeaf mkLeaf) mkLeaf))) (fun x w => trystlaw22_SlotsTurn.l4 R (fun y0 y1 y2 y3 w => M2 (y0, y1, y2, y3) w) x.1 x.2.1 x.2.2.1 x.2.2.2.1 x.2.2.2.2.1 x.2.2.2.2.2 w) (by rintro ⟨c0, c1, c2, c3, s0⟩ w ⟨I, μ, h0, h1⟩; refine ⟨fun y w => y.1 = c0 ∧ y.2.1 = c1 ∧ y.2.2.1 = c2 ∧ y.2.2.2.1 = c3 ∧ I y.2.2.2.2 w, fun y w => μ y.2.2.2.2 w, ⟨rfl, rfl, rfl, rfl, h0⟩, ?_⟩; rintro ⟨d0, d1, d2, d3, t0⟩ w ⟨e0, e1, e2, e3, hI⟩; dsimp only at e0 e1 e2 e3 hI; subst e0; subst e1; subst e2; subst e3; exact h1 _ _ hI) (fun _ _ => by kernel_rfl)))) mkLeaf)) mkLeaf))) (mkSeq (mkCnd mkLeaf mkLeaf) mkLeaf))) (fun x w => trystlaw22_SlotsTurn.l2 R x.1 x.2.1 x.2.2.1 x.2.2.2 w) (by rintro ⟨c0, c1, c2, s0⟩ w ⟨I, μ, h0, h1⟩; refine ⟨fun y w => y.1 = c0 ∧ y.2.1 = c1 ∧ y.2.2.1 = c2 ∧ I y.2.2.2 w, fun y w => μ y.2.2.2 w, ⟨rfl, rfl, rfl, h0⟩, ?_⟩; rintro ⟨d0, d1, d2, t0⟩ w ⟨e0, e1, e2, hI⟩; dsimp only at e0 e1 e2 hI; subst e0; subst e1; subst e2; exact h1 _ _ hI) (fun _ _ => by kernel_rfl)))) mkLeaf)) mkLeaf) mkLeaf)) (mkSeq (mkCnd (mkSeq mkLeaf mkLeaf) mkLeaf) mkLeaf)) mkLeaf) (kcast (by kernel_rfl) h)

/-! trystlaw22_SlotsExact -/
def trystlaw22_SlotsExact.c1 (R : Value → World → Prop) (x8 : Int) (e9 : Int) (w : World) : Prop :=
  cond ((e9 : Int) == 8)
  (cond ((x8 : Int) == 0)
  (CallsV Try.prog n_trystlaw22_wakes #[] w (fun v_1 w1 =>
  ∃ b_2 : Bool, v_1 = .bool b_2 ∧
  R (.bool b_2) w1))
  (R (.bool false) w))
  (R (.bool false) w)

def trystlaw22_SlotsExact.b2 (R : Value → World → Prop) (N2 : Sl → Int → Int → Int → Int → Int → World → Prop) (l0 : Sl) (me1 : Int) (round2 : Int) (x8 : Int) (e9 : Int) (i10 : Int) (w : World) : Prop :=
  cond (decide ((i10 : Int) < ((l0.len : Nat) : Int)))
  (0 ≤ (i10 : Int) ∧ i10 < ((l0.len : Nat) : Int) ∧ ∃ q_3 : Addr, l0.a = some q_3 ∧
  ∃ x_4 : Int, w.cell? (q_3.add (i10 : Int).toNat) = some (.int .i64 x_4) ∧
  cond ((x_4 : Int) == me1)
  (cond ((e9 : Int) == 0)
  (CallsV Try.prog n_trystref22_Partner #[.slice l0.a l0.len l0.cap, .int .i64 i10, .int .i64 round2] w (fun v_5 w2 =>
  ∃ x_6 : Int, v_5 = .int .i64 x_6 ∧
  cond ((x8 : Int) == x_6)
  (CallsV Try.prog n_trystlaw22_wakes #[] w2 (fun v_7 w3 =>
  ∃ b_8 : Bool, v_7 = .bool b_8 ∧
  R (.bool b_8) w3))
  (R (.bool false) w2)))
  (R (.bool false) w))
  ((let i10_8 : Int := (IntKind.i64.wrap (i10 + 1));
  N2 l0 me1 round2 x8 e9 i10_8 w)))
  (trystlaw22_SlotsExact.c1 R x8 e9 w)

def trystlaw22_SlotsExact.l2 (R : Value → World → Prop) (l0 : Sl) (me1 : Int) (round2 : Int) (x8 : Int) (e9 : Int) (i10 : Int) (w : World) : Prop :=
  ∃ (I : Int → World → Prop) (μ : Int → World → Nat), I i10 w ∧ ∀ s w, I s w → trystlaw22_SlotsExact.b2 R (fun l0' me1' round2' x8' e9' i10' w' => (l0' = l0 ∧ me1' = me1 ∧ round2' = round2 ∧ x8' = x8 ∧ e9' = e9 ∧ I i10' w') ∧ μ i10' w' < μ s w) l0 me1 round2 x8 e9 s w

def trystlaw22_SlotsExact.c3 (R : Value → World → Prop) (l0 : Sl) (me1 : Int) (round2 : Int) (x8 : Int) (e9 : Int) (w : World) : Prop :=
  trystlaw22_SlotsExact.l2 R l0 me1 round2 x8 e9 0 w

def trystlaw22_SlotsExact.c4 (R : Value → World → Prop) (x8 : Int) (e9 : Int) (w : World) : Prop :=
  cond ((e9 : Int) == 1)
  (cond ((x8 : Int) == 0)
  (CallsV Try.prog n_trystlaw22_wakes #[] w (fun v_10 w4 =>
  ∃ b_11 : Bool, v_10 = .bool b_11 ∧
  R (.bool b_11) w4))
  (R (.bool false) w))
  (R (.bool false) w)

def trystlaw22_SlotsExact.c5 (R : Value → World → Prop) (l0 : Sl) (me1 : Int) (round2 : Int) (x8 : Int) (e9 : Int) (w : World) : Prop :=
  CallsV Try.prog n_trystref22_Members #[.slice l0.a l0.len l0.cap] w (fun v_12 w5 =>
  ∃ b_13 : Bool, v_12 = .bool b_13 ∧
  cond (!b_13)
  (trystlaw22_SlotsExact.c4 R x8 e9 w5)
  (cond (decide ((round2 : Int) < 0))
  (trystlaw22_SlotsExact.c4 R x8 e9 w5)
  (trystlaw22_SlotsExact.c3 R l0 me1 round2 x8 e9 w5)))

def trystlaw22_SlotsExact.main (R : Value → World → Prop) (l0 : Sl) (me1 : Int) (round2 : Int) (w : World) : Prop :=
  cond (decide ((((l0.len : Nat) : Int) : Int) > 50))
  (R (.bool true) w)
  (CallsV Try.prog n_trystkeep_TwinInts #[.slice l0.a l0.len l0.cap] w (fun v_14 w6 =>
  ∃ (a_15 : Option Addr) (l_16 c_17 : Nat), v_14 = .slice a_15 l_16 c_17 ∧
  CallsV Try.prog n_slots_Partner #[.slice a_15 l_16 c_17, .int .i64 me1, .int .i64 round2] w6 (fun v_18 w7 =>
  ∃ x_19 : Int, ∃ x_20 : Int, v_18 = .tuple #[.int .i64 x_19, .int .i64 x_20] ∧
  CallsV Try.prog n_trystkeep_Ints #[.slice a_15 l_16 c_17, .slice l0.a l0.len l0.cap] w7 (fun v_21 w8 =>
  ∃ b_22 : Bool, v_21 = .bool b_22 ∧
  cond (!b_22)
  (R (.bool false) w8)
  (CallsV Try.prog n_slots_Even #[.int .i64 round2] w8 (fun v_23 w9 =>
  ∃ b_24 : Bool, v_23 = .bool b_24 ∧
  (2 : Int) ≠ 0 ∧
  cond (!(b_24 == (((Int.tmod round2 2) : Int) == 0)))
  (R (.bool false) w9)
  (trystlaw22_SlotsExact.c5 R l0 me1 round2 x_19 x_20 w9)))))))

def trystlaw22_SlotsExact.J0 (R : Value → World → Prop) (k : Nat) (fr : Fr) (w : World) : Prop :=
  cond (Nat.beq k 5) (dec [(0, .slice), (1, (.int .i64)), (2, (.int .i64)), (8, (.int .i64)), (9, (.int .i64))] fr fun x => trystlaw22_SlotsExact.c5 R x.1 x.2.1 x.2.2.1 x.2.2.2.1 x.2.2.2.2 w) (cond (Nat.beq k 4) (dec [(8, (.int .i64)), (9, (.int .i64))] fr fun x => trystlaw22_SlotsExact.c4 R x.1 x.2 w) (cond (Nat.beq k 3) (dec [(0, .slice), (1, (.int .i64)), (2, (.int .i64)), (8, (.int .i64)), (9, (.int .i64))] fr fun x => trystlaw22_SlotsExact.c3 R x.1 x.2.1 x.2.2.1 x.2.2.2.1 x.2.2.2.2 w) (cond (Nat.beq k 2) (dec [(0, .slice), (1, (.int .i64)), (2, (.int .i64)), (8, (.int .i64)), (9, (.int .i64)), (10, (.int .i64))] fr fun x => trystlaw22_SlotsExact.l2 R x.1 x.2.1 x.2.2.1 x.2.2.2.1 x.2.2.2.2.1 x.2.2.2.2.2 w) (cond (Nat.beq k 1) (dec [(8, (.int .i64)), (9, (.int .i64))] fr fun x => trystlaw22_SlotsExact.c1 R x.1 x.2 w) (False)))))

set_option maxRecDepth 100000 in
theorem trystlaw22_SlotsExact.lift {R : Value → World → Prop} {l0 : Sl} {me1 : Int} {round2 : Int} {w : World} (h : trystlaw22_SlotsExact.main R l0 me1 round2 w) : CallsV Try.prog n_trystlaw22_SlotsExact #[.slice l0.a l0.len l0.cap, .int .i64 me1, .int .i64 round2] w R :=
  liftCalls (c := (.seq (.leaf (cL (bd Try.f7))) (.seq (.seq (.leaf (cL (cL (cR (bd Try.f7))))) (.cnd (.tmp 13) (.seq (.leaf (cL (cT (cR (cL (cR (bd Try.f7))))))) (.leaf (cR (cT (cR (cL (cR (bd Try.f7)))))))) (.leaf (cE (cR (cL (cR (bd Try.f7)))))))) (.seq (.leaf (cL (cR (cR (bd Try.f7))))) (.seq (.leaf (cL (cR (cR (cR (bd Try.f7)))))) (.seq (.seq (.leaf (cL (cL (cR (cR (cR (cR (bd Try.f7)))))))) (.cnd (.tmp 34) (.seq (.leaf (cL (cT (cR (cL (cR (cR (cR (cR (bd Try.f7)))))))))) (.leaf (cR (cT (cR (cL (cR (cR (cR (cR (bd Try.f7))))))))))) (.leaf (cE (cR (cL (cR (cR (cR (cR (bd Try.f7))))))))))) (.cut 5 (.seq (.seq (.leaf (cL (cL (cR (cR (cR (cR (cR (bd Try.f7))))))))) (.cnd (.tmp 41) (.cut 4 (.seq (.leaf (cL (cT (cR (cL (cR (cR (cR (cR (cR (bd Try.f7))))))))))) (.leaf (cR (cT (cR (cL (cR (cR (cR (cR (cR (bd Try.f7))))))))))))) (.leaf (cE (cR (cL (cR (cR (cR (cR (cR (bd Try.f7)))))))))))) (.cut 3 (.seq (.seq (.leaf (cL (cL (cR (cR (cR (cR (cR (cR (bd Try.f7)))))))))) (.block 0 (.loop 2 (.seq (.seq (.leaf (cL (cL (cB (cB (cR (cL (cR (cR (cR (cR (cR (cR (bd Try.f7)))))))))))))) (.cnd (.tmp 54) (.leaf (cT (cR (cL (cB (cB (cR (cL (cR (cR (cR (cR (cR (cR (bd Try.f7))))))))))))))) (.leaf (cE (cR (cL (cB (cB (cR (cL (cR (cR (cR (cR (cR (cR (bd Try.f7))))))))))))))))) (.seq (.block 1 (.seq (.leaf (cL (cB (cL (cR (cB (cB (cR (cL (cR (cR (cR (cR (cR (cR (bd Try.f7)))))))))))))))) (.cnd (.tmp 62) (.seq (.leaf (cL (cT (cR (cB (cL (cR (cB (cB (cR (cL (cR (cR (cR (cR (cR (cR (bd Try.f7)))))))))))))))))) (.leaf (cR (cT (cR (cB (cL (cR (cB (cB (cR (cL (cR (cR (cR (cR (cR (cR (bd Try.f7))))))))))))))))))) (.leaf (cE (cR (cB (cL (cR (cB (cB (cR (cL (cR (cR (cR (cR (cR (cR (bd Try.f7)))))))))))))))))))) (.leaf (cR (cR (cB (cB (cR (cL (cR (cR (cR (cR (cR (cR (bd Try.f7))))))))))))))))))) (.cut 1 (.seq (.leaf (cL (cR (cR (cR (cR (cR (cR (cR (bd Try.f7)))))))))) (.leaf (cR (cR (cR (cR (cR (cR (cR (cR (bd Try.f7)))))))))))))))))))))) (J := trystlaw22_SlotsExact.J0 R) LfYtnnpkjhpeefnbaa.mixed Try.func7 (by kernel_rfl) (by kernel_rfl) (mkSeq (mkSeq (mkSeq (mkSeq (mkSeq (mkCut (cutDef [(0, .slice), (1, (.int .i64)), (2, (.int .i64)), (8, (.int .i64)), (9, (.int .i64))] (fun x w => trystlaw22_SlotsExact.c5 R x.1 x.2.1 x.2.2.1 x.2.2.2.1 x.2.2.2.2 w) (fun _ _ => by kernel_rfl) (fun _ _ => by kernel_rfl)) (mkSeq (mkCut (cutDef [(0, .slice), (1, (.int .i64)), (2, (.int .i64)), (8, (.int .i64)), (9, (.int .i64))] (fun x w => trystlaw22_SlotsExact.c3 R x.1 x.2.1 x.2.2.1 x.2.2.2.1 x.2.2.2.2 w) (fun _ _ => by kernel_rfl) (fun _ _ => by kernel_rfl)) (mkSeq (mkCut (cutDef [(8, (.int .i64)), (9, (.int .i64))] (fun x w => trystlaw22_SlotsExact.c1 R x.1 x.2 w) (fun _ _ => by kernel_rfl) (fun _ _ => by kernel_rfl)) (mkSeq mkLeaf mkLeaf)) (mkSeq (mkBlock (mkLoop (loopDef LfYtnnpkjhpeefnbaa.mixed [(0, .slice), (1, (.int .i64)), (2, (.int .i64)), (8, (.int .i64)), (9, (.int .i64)), (10, (.int .i64))] (by kernel_rfl) (fun M2 x w => trystlaw22_SlotsExact.b2 R (fun y0 y1 y2 y3 y4 y5 w => M2 (y0, y1, y2, y3, y4, y5) w) x.1 x.2.1 x.2.2.1 x.2.2.2.1 x.2.2.2.2.1 x.2.2.2.2.2 w) (fun M2 => fun _ _ _ => False) (fun _ _ _ => by kernel_rfl) (fun M2 => (mkSeq (mkSeq mkLeaf (mkBlock (mkSeq (mkCnd (mkSeq mkLeaf mkLeaf) mkLeaf) mkLeaf))) (mkSeq (mkCnd mkLeaf mkLeaf) mkLeaf))) (fun x w => trystlaw22_SlotsExact.l2 R x.1 x.2.1 x.2.2.1 x.2.2.2.1 x.2.2.2.2.1 x.2.2.2.2.2 w) (by rintro ⟨c0, c1, c2, c3, c4, s0⟩ w ⟨I, μ, h0, h1⟩; refine ⟨fun y w => y.1 = c0 ∧ y.2.1 = c1 ∧ y.2.2.1 = c2 ∧ y.2.2.2.1 = c3 ∧ y.2.2.2.2.1 = c4 ∧ I y.2.2.2.2.2 w, fun y w => μ y.2.2.2.2.2 w, ⟨rfl, rfl, rfl, rfl, rfl, h0⟩, ?_⟩; rintro ⟨d0, d1, d2, d3, d4, t0⟩ w ⟨e0, e1, e2, e3, e4, hI⟩; dsimp only at e0 e1 e2 e3 e4 hI; subst e0; subst e1; subst e2; subst e3; subst e4; exact h1 _ _ hI) (fun _ _ => by kernel_rfl)))) mkLeaf))) (mkSeq (mkCnd (mkCut (cutDef [(8, (.int .i64)), (9, (.int .i64))] (fun x w => trystlaw22_SlotsExact.c4 R x.1 x.2 w) (fun _ _ => by kernel_rfl) (fun _ _ => by kernel_rfl)) (mkSeq mkLeaf mkLeaf)) mkLeaf) mkLeaf))) (mkSeq (mkCnd (mkSeq mkLeaf mkLeaf) mkLeaf) mkLeaf)) mkLeaf) mkLeaf) (mkSeq (mkCnd (mkSeq mkLeaf mkLeaf) mkLeaf) mkLeaf)) mkLeaf) (kcast (by kernel_rfl) h)

/-! trystkeep_TwinInts -/
def trystkeep_TwinInts.main (R : Value → World → Prop) (l0 : Sl) (w : World) : Prop :=
  ∃ (a_1 : Option Addr) (l_2 c_3 : Nat), ∃ w1 : World, (builtin .append #[23, 23] 23 #[] #[.slice none 0 0, .slice l0.a l0.len l0.cap]).run Try.prog w = .ok (.value (.slice a_1 l_2 c_3)) w1 ∧
  R (.slice a_1 l_2 c_3) w1

def trystkeep_TwinInts.J0 (_ : Value → World → Prop) (_ : Nat) (_ : Fr) (_ : World) : Prop := False

set_option maxRecDepth 100000 in
theorem trystkeep_TwinInts.lift {R : Value → World → Prop} {l0 : Sl} {w : World} (h : trystkeep_TwinInts.main R l0 w) : CallsV Try.prog n_trystkeep_TwinInts #[.slice l0.a l0.len l0.cap] w R :=
  liftCalls (c := (.seq (.leaf (cL (bd Try.f17))) (.seq (.leaf (cL (cR (bd Try.f17)))) (.seq (.leaf (cL (cR (cR (bd Try.f17))))) (.leaf (cR (cR (cR (bd Try.f17))))))))) (J := trystkeep_TwinInts.J0 R) LfYtnnpkjhpeefnbaa.mixed Try.func17 (by kernel_rfl) (by kernel_rfl) (mkSeq (mkSeq (mkSeq mkLeaf mkLeaf) mkLeaf) mkLeaf) (kcast (by kernel_rfl) h)

/-! trystlaw22_members -/
def trystlaw22_members.c1 (R : Value → World → Prop) (l3 : Sl) (w : World) : Prop :=
  cond ((((l3.len : Nat) : Int) : Int) == 0)
  (let w1 := w.alloc (.cells #[.int .i64 0] 3);
  ∃ (a_1 : Option Addr) (l_2 c_3 : Nat), ∃ w2 : World, (builtin .append #[23, 23] 23 #[] #[.slice l3.a l3.len l3.cap, .slice (some (newA w)) 1 1]).run Try.prog w1 = .ok (.value (.slice a_1 l_2 c_3)) w2 ∧
  R (.slice a_1 l_2 c_3) w2)
  (R (.slice l3.a l3.len l3.cap) w)

def trystlaw22_members.b2 (R : Value → World → Prop) (N2 : Int → Sl → Int → World → Prop) (bits0 : Int) (l3 : Sl) (i4 : Int) (w : World) : Prop :=
  cond (decide ((i4 : Int) < 8))
  (0 ≤ ((IntKind.u64.wrap i4) : Int) ∧
  cond (((Go.bits BinOp.and .i64 (Int.fdiv bits0 (2 ^ (min ((IntKind.u64.wrap i4) : Int).toNat IntKind.i64.bits))) 1) : Int) == 1)
  (let w3 := w.alloc (.cells #[.int .i64 i4] 3);
  ∃ (a_4 : Option Addr) (l_5 c_6 : Nat), ∃ w4 : World, (builtin .append #[23, 23] 23 #[] #[.slice l3.a l3.len l3.cap, .slice (some (newA w)) 1 1]).run Try.prog w3 = .ok (.value (.slice a_4 l_5 c_6)) w4 ∧
  (let i4_6 : Int := (IntKind.i64.wrap (i4 + 1));
  N2 bits0 ⟨a_4, l_5, c_6⟩ i4_6 w4))
  ((let i4_7 : Int := (IntKind.i64.wrap (i4 + 1));
  N2 bits0 l3 i4_7 w)))
  (trystlaw22_members.c1 R l3 w)

def trystlaw22_members.l2 (R : Value → World → Prop) (bits0 : Int) (l3 : Sl) (i4 : Int) (w : World) : Prop :=
  ∃ (I : (Sl × Int) → World → Prop) (μ : (Sl × Int) → World → Nat), I (l3, i4) w ∧ ∀ s w, I s w → trystlaw22_members.b2 R (fun bits0' l3' i4' w' => (bits0' = bits0 ∧ I (l3', i4') w') ∧ μ (l3', i4') w' < μ s w) bits0 s.1 s.2 w

def trystlaw22_members.main (R : Value → World → Prop) (bits0 : Int) (w : World) : Prop :=
  trystlaw22_members.l2 R bits0 ⟨none, 0, 0⟩ 0 w

def trystlaw22_members.J0 (R : Value → World → Prop) (k : Nat) (fr : Fr) (w : World) : Prop :=
  cond (Nat.beq k 2) (dec [(0, (.int .i64)), (3, .slice), (4, (.int .i64))] fr fun x => trystlaw22_members.l2 R x.1 x.2.1 x.2.2 w) (cond (Nat.beq k 1) (dec [(3, .slice)] fr fun x => trystlaw22_members.c1 R x w) (False))

set_option maxRecDepth 100000 in
theorem trystlaw22_members.lift {R : Value → World → Prop} {bits0 : Int} {w : World} (h : trystlaw22_members.main R bits0 w) : CallsV Try.prog n_trystlaw22_members #[.int .i64 bits0] w R :=
  liftCalls (c := (.seq (.leaf (cL (bd Try.f18))) (.seq (.leaf (cL (cR (bd Try.f18)))) (.seq (.seq (.leaf (cL (cL (cR (cR (bd Try.f18)))))) (.block 0 (.loop 2 (.seq (.seq (.leaf (cL (cL (cB (cB (cR (cL (cR (cR (bd Try.f18)))))))))) (.cnd (.tmp 6) (.leaf (cT (cR (cL (cB (cB (cR (cL (cR (cR (bd Try.f18))))))))))) (.leaf (cE (cR (cL (cB (cB (cR (cL (cR (cR (bd Try.f18))))))))))))) (.seq (.block 1 (.seq (.leaf (cL (cB (cL (cR (cB (cB (cR (cL (cR (cR (bd Try.f18)))))))))))) (.cnd (.tmp 14) (.leaf (cT (cR (cB (cL (cR (cB (cB (cR (cL (cR (cR (bd Try.f18))))))))))))) (.leaf (cE (cR (cB (cL (cR (cB (cB (cR (cL (cR (cR (bd Try.f18)))))))))))))))) (.leaf (cR (cR (cB (cB (cR (cL (cR (cR (bd Try.f18))))))))))))))) (.cut 1 (.seq (.seq (.leaf (cL (cL (cR (cR (cR (bd Try.f18))))))) (.cnd (.tmp 21) (.leaf (cT (cR (cL (cR (cR (cR (bd Try.f18)))))))) (.leaf (cE (cR (cL (cR (cR (cR (bd Try.f18)))))))))) (.seq (.leaf (cL (cR (cR (cR (cR (bd Try.f18))))))) (.leaf (cR (cR (cR (cR (cR (bd Try.f18)))))))))))))) (J := trystlaw22_members.J0 R) LfYtnnpkjhpeefnbaa.mixed Try.func18 (by kernel_rfl) (by kernel_rfl) (mkSeq (mkSeq (mkSeq (mkCut (cutDef [(3, .slice)] (fun x w => trystlaw22_members.c1 R x w) (fun _ _ => by kernel_rfl) (fun _ _ => by kernel_rfl)) (mkSeq (mkSeq mkLeaf mkLeaf) (mkSeq (mkCnd mkLeaf mkLeaf) mkLeaf))) (mkSeq (mkBlock (mkLoop (loopDef LfYtnnpkjhpeefnbaa.mixed [(0, (.int .i64)), (3, .slice), (4, (.int .i64))] (by kernel_rfl) (fun M2 x w => trystlaw22_members.b2 R (fun y0 y1 y2 w => M2 (y0, y1, y2) w) x.1 x.2.1 x.2.2 w) (fun M2 => fun _ _ _ => False) (fun _ _ _ => by kernel_rfl) (fun M2 => (mkSeq (mkSeq mkLeaf (mkBlock (mkSeq (mkCnd mkLeaf mkLeaf) mkLeaf))) (mkSeq (mkCnd mkLeaf mkLeaf) mkLeaf))) (fun x w => trystlaw22_members.l2 R x.1 x.2.1 x.2.2 w) (by rintro ⟨c0, s0⟩ w ⟨I, μ, h0, h1⟩; refine ⟨fun y w => y.1 = c0 ∧ I y.2 w, fun y w => μ y.2 w, ⟨rfl, h0⟩, ?_⟩; rintro ⟨d0, t0⟩ w ⟨e0, hI⟩; dsimp only at e0 hI; subst e0; exact h1 _ _ hI) (fun _ _ => by kernel_rfl)))) mkLeaf)) mkLeaf) mkLeaf) (kcast (by kernel_rfl) h)

/-! slots_Partner -/
def slots_Partner.c1 (R : Value → World → Prop) (members0 : Sl) (other12 : Int) (w : World) : Prop :=
  cond (decide ((other12 : Int) ≥ ((members0.len : Nat) : Int)))
  (R (.tuple #[.int .i64 (-1), .int .i64 0]) w)
  (0 ≤ (other12 : Int) ∧ other12 < ((members0.len : Nat) : Int) ∧ ∃ q_1 : Addr, members0.a = some q_1 ∧
  ∃ x_2 : Int, w.cell? (q_1.add (other12 : Int).toNat) = some (.int .i64 x_2) ∧
  R (.tuple #[.int .i64 x_2, .int .i64 0]) w)

def slots_Partner.b2 (R : Value → World → Prop) (N2 : Sl → Int → Int → Int → World → Prop) (members0 : Sl) (around10 : Int) (k11 : Int) (other12 : Int) (w : World) : Prop :=
  around10 ≠ 0 ∧
  cond (((Int.tmod (IntKind.i64.wrap (2 * other12)) around10) : Int) != k11)
  ((let other12_2 : Int := (IntKind.i64.wrap (other12 + 1));
  N2 members0 around10 k11 other12_2 w))
  (slots_Partner.c1 R members0 other12 w)

def slots_Partner.l2 (R : Value → World → Prop) (members0 : Sl) (around10 : Int) (k11 : Int) (other12 : Int) (w : World) : Prop :=
  ∃ (I : Int → World → Prop) (μ : Int → World → Nat), I other12 w ∧ ∀ s w, I s w → slots_Partner.b2 R (fun members0' around10' k11' other12' w' => (members0' = members0 ∧ around10' = around10 ∧ k11' = k11 ∧ I other12' w') ∧ μ other12' w' < μ s w) members0 around10 k11 s w

def slots_Partner.c3 (R : Value → World → Prop) (members0 : Sl) (me1 : Int) (round2 : Int) (w : World) : Prop :=
  CallsV Try.prog n_slices_Index_int #[.slice members0.a members0.len members0.cap, .int .i64 me1] w (fun v_4 w1 =>
  ∃ x_5 : Int, v_4 = .int .i64 x_5 ∧
  cond (decide ((x_5 : Int) < 0))
  (R (.tuple #[.int .i64 0, .int .i64 8]) w1)
  ((2 : Int) ≠ 0 ∧
  (let n9_5 : Int := (IntKind.i64.wrap (((members0.len : Nat) : Int) + (Int.tmod ((members0.len : Nat) : Int) 2)));
  (let around10_6 : Int := (IntKind.i64.wrap (n9_5 - 1));
  around10_6 ≠ 0 ∧
  (let k11_7 : Int := (Int.tmod round2 around10_6);
  around10_6 ≠ 0 ∧
  around10_6 ≠ 0 ∧
  (let other12_8 : Int := (Int.tmod (IntKind.i64.wrap ((Int.tmod (IntKind.i64.wrap (k11_7 - x_5)) around10_6) + around10_6)) around10_6);
  (let t45_9 : Bool := ((x_5 : Int) == around10_6);
  cond t45_9
  (slots_Partner.l2 R members0 around10_6 k11_7 0 w1)
  ((let t57_10 : Bool := ((other12_8 : Int) == x_5);
  cond t57_10
  (slots_Partner.c1 R members0 around10_6 w1)
  (slots_Partner.c1 R members0 other12_8 w1))))))))))

def slots_Partner.main (R : Value → World → Prop) (members0 : Sl) (me1 : Int) (round2 : Int) (w : World) : Prop :=
  CallsV Try.prog n_slots_right #[.slice members0.a members0.len members0.cap] w (fun v_12 w2 =>
  ∃ b_13 : Bool, v_12 = .bool b_13 ∧
  cond (!b_13)
  (R (.tuple #[.int .i64 0, .int .i64 1]) w2)
  (cond (decide ((round2 : Int) < 0))
  (R (.tuple #[.int .i64 0, .int .i64 1]) w2)
  (slots_Partner.c3 R members0 me1 round2 w2)))

def slots_Partner.J0 (R : Value → World → Prop) (k : Nat) (fr : Fr) (w : World) : Prop :=
  cond (Nat.beq k 3) (dec [(0, .slice), (1, (.int .i64)), (2, (.int .i64))] fr fun x => slots_Partner.c3 R x.1 x.2.1 x.2.2 w) (cond (Nat.beq k 2) (dec [(0, .slice), (10, (.int .i64)), (11, (.int .i64)), (12, (.int .i64))] fr fun x => slots_Partner.l2 R x.1 x.2.1 x.2.2.1 x.2.2.2 w) (cond (Nat.beq k 1) (dec [(0, .slice), (12, (.int .i64))] fr fun x => slots_Partner.c1 R x.1 x.2 w) (False)))

set_option maxRecDepth 100000 in
theorem slots_Partner.lift {R : Value → World → Prop} {members0 : Sl} {me1 : Int} {round2 : Int} {w : World} (h : slots_Partner.main R members0 me1 round2 w) : CallsV Try.prog n_slots_Partner #[.slice members0.a members0.len members0.cap, .int .i64 me1, .int .i64 round2] w R :=
  liftCalls (c := (.seq (.leaf (cL (bd Try.f19))) (.seq (.seq (.leaf (cL (cL (cR (bd Try.f19))))) (.cnd (.tmp 19) (.seq (.leaf (cL (cT (cR (cL (cR (bd Try.f19))))))) (.leaf (cR (cT (cR (cL (cR (bd Try.f19)))))))) (.leaf (cE (cR (cL (cR (bd Try.f19)))))))) (.cut 3 (.seq (.leaf (cL (cR (cR (bd Try.f19))))) (.seq (.seq (.leaf (cL (cL (cR (cR (cR (bd Try.f19))))))) (.cnd (.tmp 24) (.seq (.leaf (cL (cT (cR (cL (cR (cR (cR (bd Try.f19))))))))) (.leaf (cR (cT (cR (cL (cR (cR (cR (bd Try.f19)))))))))) (.leaf (cE (cR (cL (cR (cR (cR (bd Try.f19)))))))))) (.seq (.leaf (cL (cR (cR (cR (cR (bd Try.f19))))))) (.seq (.leaf (cL (cR (cR (cR (cR (cR (bd Try.f19)))))))) (.seq (.leaf (cL (cR (cR (cR (cR (cR (cR (bd Try.f19))))))))) (.seq (.leaf (cL (cR (cR (cR (cR (cR (cR (cR (bd Try.f19)))))))))) (.seq (.block 0 (.seq (.leaf (cL (cB (cL (cR (cR (cR (cR (cR (cR (cR (cR (bd Try.f19))))))))))))) (.cnd (.tmp 45) (.seq (.leaf (cL (cT (cR (cB (cL (cR (cR (cR (cR (cR (cR (cR (cR (bd Try.f19))))))))))))))) (.block 1 (.loop 2 (.seq (.seq (.leaf (cL (cL (cB (cB (cR (cT (cR (cB (cL (cR (cR (cR (cR (cR (cR (cR (cR (bd Try.f19))))))))))))))))))) (.cnd (.tmp 54) (.leaf (cT (cR (cL (cB (cB (cR (cT (cR (cB (cL (cR (cR (cR (cR (cR (cR (cR (cR (bd Try.f19)))))))))))))))))))) (.leaf (cE (cR (cL (cB (cB (cR (cT (cR (cB (cL (cR (cR (cR (cR (cR (cR (cR (cR (bd Try.f19)))))))))))))))))))))) (.block 2 (.leaf (cB (cR (cB (cB (cR (cT (cR (cB (cL (cR (cR (cR (cR (cR (cR (cR (cR (bd Try.f19)))))))))))))))))))))))) (.seq (.leaf (cL (cE (cR (cB (cL (cR (cR (cR (cR (cR (cR (cR (cR (bd Try.f19))))))))))))))) (.cnd (.tmp 57) (.leaf (cT (cR (cE (cR (cB (cL (cR (cR (cR (cR (cR (cR (cR (cR (bd Try.f19)))))))))))))))) (.leaf (cE (cR (cE (cR (cB (cL (cR (cR (cR (cR (cR (cR (cR (cR (bd Try.f19))))))))))))))))))))) (.cut 1 (.seq (.seq (.leaf (cL (cL (cR (cR (cR (cR (cR (cR (cR (cR (cR (bd Try.f19))))))))))))) (.cnd (.tmp 65) (.seq (.leaf (cL (cT (cR (cL (cR (cR (cR (cR (cR (cR (cR (cR (cR (bd Try.f19))))))))))))))) (.leaf (cR (cT (cR (cL (cR (cR (cR (cR (cR (cR (cR (cR (cR (bd Try.f19)))))))))))))))) (.leaf (cE (cR (cL (cR (cR (cR (cR (cR (cR (cR (cR (cR (bd Try.f19)))))))))))))))) (.seq (.leaf (cL (cR (cR (cR (cR (cR (cR (cR (cR (cR (cR (bd Try.f19))))))))))))) (.leaf (cR (cR (cR (cR (cR (cR (cR (cR (cR (cR (cR (bd Try.f19))))))))))))))))))))))))))) (J := slots_Partner.J0 R) LfYtnnpkjhpeefnbaa.mixed Try.func19 (by kernel_rfl) (by kernel_rfl) (mkSeq (mkSeq (mkCut (cutDef [(0, .slice), (1, (.int .i64)), (2, (.int .i64))] (fun x w => slots_Partner.c3 R x.1 x.2.1 x.2.2 w) (fun _ _ => by kernel_rfl) (fun _ _ => by kernel_rfl)) (mkSeq (mkSeq (mkSeq (mkSeq (mkSeq (mkSeq (mkSeq (mkCut (cutDef [(0, .slice), (12, (.int .i64))] (fun x w => slots_Partner.c1 R x.1 x.2 w) (fun _ _ => by kernel_rfl) (fun _ _ => by kernel_rfl)) (mkSeq (mkSeq mkLeaf mkLeaf) (mkSeq (mkCnd (mkSeq mkLeaf mkLeaf) mkLeaf) mkLeaf))) (mkBlock (mkSeq (mkCnd (mkSeq (mkBlock (mkLoop (loopDef LfYtnnpkjhpeefnbaa.mixed [(0, .slice), (10, (.int .i64)), (11, (.int .i64)), (12, (.int .i64))] (by kernel_rfl) (fun M2 x w => slots_Partner.b2 R (fun y0 y1 y2 y3 w => M2 (y0, y1, y2, y3) w) x.1 x.2.1 x.2.2.1 x.2.2.2 w) (fun M2 => fun _ _ _ => False) (fun _ _ _ => by kernel_rfl) (fun M2 => (mkSeq (mkBlock mkLeaf) (mkSeq (mkCnd mkLeaf mkLeaf) mkLeaf))) (fun x w => slots_Partner.l2 R x.1 x.2.1 x.2.2.1 x.2.2.2 w) (by rintro ⟨c0, c1, c2, s0⟩ w ⟨I, μ, h0, h1⟩; refine ⟨fun y w => y.1 = c0 ∧ y.2.1 = c1 ∧ y.2.2.1 = c2 ∧ I y.2.2.2 w, fun y w => μ y.2.2.2 w, ⟨rfl, rfl, rfl, h0⟩, ?_⟩; rintro ⟨d0, d1, d2, t0⟩ w ⟨e0, e1, e2, hI⟩; dsimp only at e0 e1 e2 hI; subst e0; subst e1; subst e2; exact h1 _ _ hI) (fun _ _ => by kernel_rfl)))) mkLeaf) (mkSeq (mkCnd mkLeaf mkLeaf) mkLeaf)) mkLeaf))) mkLeaf) mkLeaf) mkLeaf) mkLeaf) (mkSeq (mkCnd (mkSeq mkLeaf mkLeaf) mkLeaf) mkLeaf)) mkLeaf)) (mkSeq (mkCnd (mkSeq mkLeaf mkLeaf) mkLeaf) mkLeaf)) mkLeaf) (kcast (by kernel_rfl) h)

/-! trystlaw22_wakes -/
def trystlaw22_wakes.main (R : Value → World → Prop)  (w : World) : Prop :=
  let w1 := w.alloc (.cells #[.int .i64 0, .int .i64 1] 3);
  CallsV Try.prog n_slots_Partner #[.slice (some (newA w)) 2 2, .int .i64 0, .int .i64 7] w1 (fun v_1 w2 =>
  ∃ x_2 : Int, ∃ x_3 : Int, v_1 = .tuple #[.int .i64 x_2, .int .i64 x_3] ∧
  let w3 := w2.alloc (.cells #[.int .i64 3] 3);
  CallsV Try.prog n_slots_Partner #[.slice (some (newA w2)) 1 1, .int .i64 3, .int .i64 0] w3 (fun v_4 w4 =>
  ∃ x_5 : Int, ∃ x_6 : Int, v_4 = .tuple #[.int .i64 x_5, .int .i64 x_6] ∧
  cond ((x_3 : Int) == 0)
  (cond ((x_6 : Int) == 0)
  (cond ((x_2 : Int) == 1)
  (R (.bool ((x_5 : Int) == (-1))) w4)
  (R (.bool false) w4))
  (R (.bool false) w4))
  (R (.bool false) w4)))

def trystlaw22_wakes.J0 (_ : Value → World → Prop) (_ : Nat) (_ : Fr) (_ : World) : Prop := False

set_option maxRecDepth 100000 in
theorem trystlaw22_wakes.lift {R : Value → World → Prop}  {w : World} (h : trystlaw22_wakes.main R  w) : CallsV Try.prog n_trystlaw22_wakes #[] w R :=
  liftCalls (c := (.seq (.leaf (cL (bd Try.f20))) (.seq (.leaf (cL (cR (bd Try.f20)))) (.seq (.leaf (cL (cR (cR (bd Try.f20))))) (.seq (.leaf (cL (cR (cR (cR (bd Try.f20)))))) (.leaf (cR (cR (cR (cR (bd Try.f20))))))))))) (J := trystlaw22_wakes.J0 R) LfYtnnpkjhpeefnbaa.mixed Try.func20 (by kernel_rfl) (by kernel_rfl) (mkSeq (mkSeq (mkSeq (mkSeq mkLeaf mkLeaf) mkLeaf) mkLeaf) mkLeaf) (kcast (by kernel_rfl) h)

/-! trystkeep_Ints -/
def trystkeep_Ints.b1 (R : Value → World → Prop) (N1 : Sl → Sl → Int → World → Prop) (a0 : Sl) (b1 : Sl) (i5 : Int) (w : World) : Prop :=
  cond (decide ((i5 : Int) < ((a0.len : Nat) : Int)))
  (0 ≤ (i5 : Int) ∧ i5 < ((a0.len : Nat) : Int) ∧ ∃ q_1 : Addr, a0.a = some q_1 ∧
  ∃ x_2 : Int, w.cell? (q_1.add (i5 : Int).toNat) = some (.int .i64 x_2) ∧
  0 ≤ (i5 : Int) ∧ i5 < ((b1.len : Nat) : Int) ∧ ∃ q_3 : Addr, b1.a = some q_3 ∧
  ∃ x_4 : Int, w.cell? (q_3.add (i5 : Int).toNat) = some (.int .i64 x_4) ∧
  cond ((x_2 : Int) != x_4)
  (R (.bool false) w.drew)
  ((let i5_4 : Int := (IntKind.i64.wrap (i5 + 1));
  N1 a0 b1 i5_4 w.drew)))
  (R (.bool true) w)

def trystkeep_Ints.l1 (R : Value → World → Prop) (a0 : Sl) (b1 : Sl) (i5 : Int) (w : World) : Prop :=
  ∃ (I : Int → World → Prop) (μ : Int → World → Nat), I i5 w ∧ ∀ s w, I s w → trystkeep_Ints.b1 R (fun a0' b1' i5' w' => (a0' = a0 ∧ b1' = b1 ∧ I i5' w') ∧ μ i5' w' < μ s w) a0 b1 s w

def trystkeep_Ints.main (R : Value → World → Prop) (a0 : Sl) (b1 : Sl) (w : World) : Prop :=
  cond ((((a0.len : Nat) : Int) : Int) != ((b1.len : Nat) : Int))
  (R (.bool false) w)
  (trystkeep_Ints.l1 R a0 b1 0 w)

def trystkeep_Ints.J0 (R : Value → World → Prop) (k : Nat) (fr : Fr) (w : World) : Prop :=
  cond (Nat.beq k 1) (dec [(0, .slice), (1, .slice), (5, (.int .i64))] fr fun x => trystkeep_Ints.l1 R x.1 x.2.1 x.2.2 w) (False)

set_option maxRecDepth 100000 in
theorem trystkeep_Ints.lift {R : Value → World → Prop} {a0 : Sl} {b1 : Sl} {w : World} (h : trystkeep_Ints.main R a0 b1 w) : CallsV Try.prog n_trystkeep_Ints #[.slice a0.a a0.len a0.cap, .slice b1.a b1.len b1.cap] w R :=
  liftCalls (c := (.seq (.leaf (cL (bd Try.f21))) (.seq (.seq (.leaf (cL (cL (cR (bd Try.f21))))) (.cnd (.tmp 10) (.seq (.leaf (cL (cT (cR (cL (cR (bd Try.f21))))))) (.leaf (cR (cT (cR (cL (cR (bd Try.f21)))))))) (.leaf (cE (cR (cL (cR (bd Try.f21)))))))) (.seq (.seq (.leaf (cL (cL (cR (cR (bd Try.f21)))))) (.block 0 (.loop 1 (.seq (.seq (.leaf (cL (cL (cB (cB (cR (cL (cR (cR (bd Try.f21)))))))))) (.cnd (.tmp 14) (.leaf (cT (cR (cL (cB (cB (cR (cL (cR (cR (bd Try.f21))))))))))) (.leaf (cE (cR (cL (cB (cB (cR (cL (cR (cR (bd Try.f21))))))))))))) (.seq (.block 1 (.seq (.leaf (cL (cB (cL (cR (cB (cB (cR (cL (cR (cR (bd Try.f21)))))))))))) (.cnd (.tmp 25) (.seq (.leaf (cL (cT (cR (cB (cL (cR (cB (cB (cR (cL (cR (cR (bd Try.f21)))))))))))))) (.leaf (cR (cT (cR (cB (cL (cR (cB (cB (cR (cL (cR (cR (bd Try.f21))))))))))))))) (.leaf (cE (cR (cB (cL (cR (cB (cB (cR (cL (cR (cR (bd Try.f21)))))))))))))))) (.leaf (cR (cR (cB (cB (cR (cL (cR (cR (bd Try.f21))))))))))))))) (.seq (.leaf (cL (cR (cR (cR (bd Try.f21)))))) (.leaf (cR (cR (cR (cR (bd Try.f21))))))))))) (J := trystkeep_Ints.J0 R) LfYtnnpkjhpeefnbaa.mixed Try.func21 (by kernel_rfl) (by kernel_rfl) (mkSeq (mkSeq (mkSeq (mkSeq mkLeaf mkLeaf) (mkSeq (mkBlock (mkLoop (loopDef LfYtnnpkjhpeefnbaa.mixed [(0, .slice), (1, .slice), (5, (.int .i64))] (by kernel_rfl) (fun M1 x w => trystkeep_Ints.b1 R (fun y0 y1 y2 w => M1 (y0, y1, y2) w) x.1 x.2.1 x.2.2 w) (fun M1 => fun _ _ _ => False) (fun _ _ _ => by kernel_rfl) (fun M1 => (mkSeq (mkSeq mkLeaf (mkBlock (mkSeq (mkCnd (mkSeq mkLeaf mkLeaf) mkLeaf) mkLeaf))) (mkSeq (mkCnd mkLeaf mkLeaf) mkLeaf))) (fun x w => trystkeep_Ints.l1 R x.1 x.2.1 x.2.2 w) (by rintro ⟨c0, c1, s0⟩ w ⟨I, μ, h0, h1⟩; refine ⟨fun y w => y.1 = c0 ∧ y.2.1 = c1 ∧ I y.2.2 w, fun y w => μ y.2.2 w, ⟨rfl, rfl, h0⟩, ?_⟩; rintro ⟨d0, d1, t0⟩ w ⟨e0, e1, hI⟩; dsimp only at e0 e1 hI; subst e0; subst e1; exact h1 _ _ hI) (fun _ _ => by kernel_rfl)))) mkLeaf)) (mkSeq (mkCnd (mkSeq mkLeaf mkLeaf) mkLeaf) mkLeaf)) mkLeaf) (kcast (by kernel_rfl) h)

/-! slots_Even -/
def slots_Even.main (R : Value → World → Prop) (round0 : Int) (w : World) : Prop :=
  (2 : Int) ≠ 0 ∧
  (let t2_0 : Bool := (((Int.tmod round0 2) : Int) == 0);
  R (.bool t2_0) w)

def slots_Even.J0 (_ : Value → World → Prop) (_ : Nat) (_ : Fr) (_ : World) : Prop := False

set_option maxRecDepth 100000 in
theorem slots_Even.lift {R : Value → World → Prop} {round0 : Int} {w : World} (h : slots_Even.main R round0 w) : CallsV Try.prog n_slots_Even #[.int .i64 round0] w R :=
  liftCalls (c := (.seq (.leaf (cL (bd Try.f22))) (.seq (.leaf (cL (cR (bd Try.f22)))) (.leaf (cR (cR (bd Try.f22))))))) (J := slots_Even.J0 R) LfYtnnpkjhpeefnbaa.mixed Try.func22 (by kernel_rfl) (by kernel_rfl) (mkSeq (mkSeq mkLeaf mkLeaf) mkLeaf) (kcast (by kernel_rfl) h)

/-! trystref22_Members -/
def trystref22_Members.b1 (R : Value → World → Prop) (N1 : Sl → Int → World → Prop) (l0 : Sl) (i3 : Int) (w : World) : Prop :=
  cond (decide ((i3 : Int) < ((l0.len : Nat) : Int)))
  (0 ≤ (i3 : Int) ∧ i3 < ((l0.len : Nat) : Int) ∧ ∃ q_1 : Addr, l0.a = some q_1 ∧
  ∃ x_2 : Int, w.cell? (q_1.add (i3 : Int).toNat) = some (.int .i64 x_2) ∧
  cond (decide ((x_2 : Int) < 0))
  (R (.bool false) w.drew)
  (0 ≤ (i3 : Int) ∧ i3 < ((l0.len : Nat) : Int) ∧ ∃ q_3 : Addr, l0.a = some q_3 ∧
  ∃ x_4 : Int, w.cell? (q_3.add (i3 : Int).toNat) = some (.int .i64 x_4) ∧
  cond (decide ((x_4 : Int) ≥ 8))
  (R (.bool false) w.drew)
  (cond (decide ((i3 : Int) > 0))
  (0 ≤ (i3 : Int) ∧ i3 < ((l0.len : Nat) : Int) ∧ ∃ q_5 : Addr, l0.a = some q_5 ∧
  ∃ x_6 : Int, w.cell? (q_5.add (i3 : Int).toNat) = some (.int .i64 x_6) ∧
  0 ≤ ((IntKind.i64.wrap (i3 - 1)) : Int) ∧ (IntKind.i64.wrap (i3 - 1)) < ((l0.len : Nat) : Int) ∧ ∃ q_7 : Addr, l0.a = some q_7 ∧
  ∃ x_8 : Int, w.cell? (q_7.add ((IntKind.i64.wrap (i3 - 1)) : Int).toNat) = some (.int .i64 x_8) ∧
  cond (decide ((x_6 : Int) ≤ x_8))
  (R (.bool false) w.drew)
  ((let i3_8 : Int := (IntKind.i64.wrap (i3 + 1));
  N1 l0 i3_8 w.drew)))
  ((let i3_9 : Int := (IntKind.i64.wrap (i3 + 1));
  N1 l0 i3_9 w.drew)))))
  (R (.bool true) w)

def trystref22_Members.l1 (R : Value → World → Prop) (l0 : Sl) (i3 : Int) (w : World) : Prop :=
  ∃ (I : Int → World → Prop) (μ : Int → World → Nat), I i3 w ∧ ∀ s w, I s w → trystref22_Members.b1 R (fun l0' i3' w' => (l0' = l0 ∧ I i3' w') ∧ μ i3' w' < μ s w) l0 s w

def trystref22_Members.c2 (R : Value → World → Prop) (l0 : Sl) (w : World) : Prop :=
  trystref22_Members.l1 R l0 0 w

def trystref22_Members.main (R : Value → World → Prop) (l0 : Sl) (w : World) : Prop :=
  cond (decide ((((l0.len : Nat) : Int) : Int) < 1))
  (R (.bool false) w)
  (cond (decide ((((l0.len : Nat) : Int) : Int) > 8))
  (R (.bool false) w)
  (trystref22_Members.c2 R l0 w))

def trystref22_Members.J0 (R : Value → World → Prop) (k : Nat) (fr : Fr) (w : World) : Prop :=
  cond (Nat.beq k 2) (dec [(0, .slice)] fr fun x => trystref22_Members.c2 R x w) (cond (Nat.beq k 1) (dec [(0, .slice), (3, (.int .i64))] fr fun x => trystref22_Members.l1 R x.1 x.2 w) (False))

set_option maxRecDepth 100000 in
theorem trystref22_Members.lift {R : Value → World → Prop} {l0 : Sl} {w : World} (h : trystref22_Members.main R l0 w) : CallsV Try.prog n_trystref22_Members #[.slice l0.a l0.len l0.cap] w R :=
  liftCalls (c := (.seq (.leaf (cL (bd Try.f23))) (.seq (.seq (.leaf (cL (cL (cR (bd Try.f23))))) (.cnd (.tmp 11) (.seq (.leaf (cL (cT (cR (cL (cR (bd Try.f23))))))) (.leaf (cR (cT (cR (cL (cR (bd Try.f23)))))))) (.leaf (cE (cR (cL (cR (bd Try.f23)))))))) (.cut 2 (.seq (.seq (.leaf (cL (cL (cR (cR (bd Try.f23)))))) (.block 0 (.loop 1 (.seq (.seq (.leaf (cL (cL (cB (cB (cR (cL (cR (cR (bd Try.f23)))))))))) (.cnd (.tmp 15) (.leaf (cT (cR (cL (cB (cB (cR (cL (cR (cR (bd Try.f23))))))))))) (.leaf (cE (cR (cL (cB (cB (cR (cL (cR (cR (bd Try.f23))))))))))))) (.seq (.block 1 (.seq (.leaf (cL (cB (cL (cR (cB (cB (cR (cL (cR (cR (bd Try.f23)))))))))))) (.cnd (.tmp 45) (.seq (.leaf (cL (cT (cR (cB (cL (cR (cB (cB (cR (cL (cR (cR (bd Try.f23)))))))))))))) (.leaf (cR (cT (cR (cB (cL (cR (cB (cB (cR (cL (cR (cR (bd Try.f23))))))))))))))) (.leaf (cE (cR (cB (cL (cR (cB (cB (cR (cL (cR (cR (bd Try.f23)))))))))))))))) (.leaf (cR (cR (cB (cB (cR (cL (cR (cR (bd Try.f23))))))))))))))) (.seq (.leaf (cL (cR (cR (cR (bd Try.f23)))))) (.leaf (cR (cR (cR (cR (bd Try.f23)))))))))))) (J := trystref22_Members.J0 R) LfYtnnpkjhpeefnbaa.mixed Try.func23 (by kernel_rfl) (by kernel_rfl) (mkSeq (mkSeq (mkCut (cutDef [(0, .slice)] (fun x w => trystref22_Members.c2 R x w) (fun _ _ => by kernel_rfl) (fun _ _ => by kernel_rfl)) (mkSeq (mkSeq mkLeaf mkLeaf) (mkSeq (mkBlock (mkLoop (loopDef LfYtnnpkjhpeefnbaa.mixed [(0, .slice), (3, (.int .i64))] (by kernel_rfl) (fun M1 x w => trystref22_Members.b1 R (fun y0 y1 w => M1 (y0, y1) w) x.1 x.2 w) (fun M1 => fun _ _ _ => False) (fun _ _ _ => by kernel_rfl) (fun M1 => (mkSeq (mkSeq mkLeaf (mkBlock (mkSeq (mkCnd (mkSeq mkLeaf mkLeaf) mkLeaf) mkLeaf))) (mkSeq (mkCnd mkLeaf mkLeaf) mkLeaf))) (fun x w => trystref22_Members.l1 R x.1 x.2 w) (by rintro ⟨c0, s0⟩ w ⟨I, μ, h0, h1⟩; refine ⟨fun y w => y.1 = c0 ∧ I y.2 w, fun y w => μ y.2 w, ⟨rfl, h0⟩, ?_⟩; rintro ⟨d0, t0⟩ w ⟨e0, hI⟩; dsimp only at e0 hI; subst e0; exact h1 _ _ hI) (fun _ _ => by kernel_rfl)))) mkLeaf))) (mkSeq (mkCnd (mkSeq mkLeaf mkLeaf) mkLeaf) mkLeaf)) mkLeaf) (kcast (by kernel_rfl) h)

/-! trystref22_Partner -/
def trystref22_Partner.c2 (R : Value → World → Prop) (N1 : Sl → Int → Int → Int → Int → World → Prop) (l0 : Sl) (place1 : Int) (n7 : Int) (k8 : Int) (q9 : Int) (meet10 : Bool) (w : World) : Prop :=
  cond meet10
  (R (.int .i64 (-1)) w)
  ((let q9_0 : Int := (IntKind.i64.wrap (q9 + 1));
  N1 l0 place1 n7 k8 q9_0 w))

def trystref22_Partner.c3 (R : Value → World → Prop) (N1 : Sl → Int → Int → Int → Int → World → Prop) (l0 : Sl) (q9 : Int) (w : World) : Prop :=
  0 ≤ (q9 : Int) ∧ q9 < ((l0.len : Nat) : Int) ∧ ∃ q_2 : Addr, l0.a = some q_2 ∧
  ∃ x_3 : Int, w.cell? (q_2.add (q9 : Int).toNat) = some (.int .i64 x_3) ∧
  R (.int .i64 x_3) w

def trystref22_Partner.c4 (R : Value → World → Prop) (N1 : Sl → Int → Int → Int → Int → World → Prop) (l0 : Sl) (place1 : Int) (n7 : Int) (k8 : Int) (q9 : Int) (meet10 : Bool) (w : World) : Prop :=
  cond meet10
  (cond (decide ((q9 : Int) < ((l0.len : Nat) : Int)))
  (trystref22_Partner.c3 R N1 l0 q9 w)
  (trystref22_Partner.c2 R N1 l0 place1 n7 k8 q9 meet10 w))
  (trystref22_Partner.c2 R N1 l0 place1 n7 k8 q9 meet10 w)

def trystref22_Partner.c5 (R : Value → World → Prop) (N1 : Sl → Int → Int → Int → Int → World → Prop) (l0 : Sl) (place1 : Int) (n7 : Int) (k8 : Int) (q9 : Int) (meet10 : Bool) (w : World) : Prop :=
  cond ((place1 : Int) == (IntKind.i64.wrap (n7 - 1)))
  ((IntKind.i64.wrap (n7 - 1)) ≠ 0 ∧
  (let meet10_3 : Bool := (((Int.tmod (IntKind.i64.wrap (2 * q9)) (IntKind.i64.wrap (n7 - 1))) : Int) == k8);
  trystref22_Partner.c4 R N1 l0 place1 n7 k8 q9 meet10_3 w))
  (trystref22_Partner.c4 R N1 l0 place1 n7 k8 q9 meet10 w)

def trystref22_Partner.b1 (R : Value → World → Prop) (N1 : Sl → Int → Int → Int → Int → World → Prop) (l0 : Sl) (place1 : Int) (n7 : Int) (k8 : Int) (q9 : Int) (w : World) : Prop :=
  cond (decide ((q9 : Int) < n7))
  (cond ((q9 : Int) == place1)
  ((let q9_4 : Int := (IntKind.i64.wrap (q9 + 1));
  N1 l0 place1 n7 k8 q9_4 w))
  ((IntKind.i64.wrap (n7 - 1)) ≠ 0 ∧
  (let meet10_5 : Bool := (((Int.tmod (IntKind.i64.wrap (place1 + q9)) (IntKind.i64.wrap (n7 - 1))) : Int) == k8);
  cond ((q9 : Int) == (IntKind.i64.wrap (n7 - 1)))
  ((IntKind.i64.wrap (n7 - 1)) ≠ 0 ∧
  (let meet10_6 : Bool := (((Int.tmod (IntKind.i64.wrap (2 * place1)) (IntKind.i64.wrap (n7 - 1))) : Int) == k8);
  trystref22_Partner.c5 R N1 l0 place1 n7 k8 q9 meet10_6 w))
  (trystref22_Partner.c5 R N1 l0 place1 n7 k8 q9 meet10_5 w))))
  (R (.int .i64 (-1)) w)

def trystref22_Partner.l1 (R : Value → World → Prop) (l0 : Sl) (place1 : Int) (n7 : Int) (k8 : Int) (q9 : Int) (w : World) : Prop :=
  ∃ (I : Int → World → Prop) (μ : Int → World → Nat), I q9 w ∧ ∀ s w, I s w → trystref22_Partner.b1 R (fun l0' place1' n7' k8' q9' w' => (l0' = l0 ∧ place1' = place1 ∧ n7' = n7 ∧ k8' = k8 ∧ I q9' w') ∧ μ q9' w' < μ s w) l0 place1 n7 k8 s w

def trystref22_Partner.main (R : Value → World → Prop) (l0 : Sl) (place1 : Int) (round2 : Int) (w : World) : Prop :=
  (2 : Int) ≠ 0 ∧
  (let n7_7 : Int := (IntKind.i64.wrap (((l0.len : Nat) : Int) + (Int.tmod ((l0.len : Nat) : Int) 2)));
  (IntKind.i64.wrap (n7_7 - 1)) ≠ 0 ∧
  (let k8_8 : Int := (Int.tmod round2 (IntKind.i64.wrap (n7_7 - 1)));
  trystref22_Partner.l1 R l0 place1 n7_7 k8_8 0 w))

def trystref22_Partner.J1 (R : Value → World → Prop) (N1 : Sl → Int → Int → Int → Int → World → Prop) (k : Nat) (fr : Fr) (w : World) : Prop :=
  cond (Nat.beq k 5) (dec [(0, .slice), (1, (.int .i64)), (7, (.int .i64)), (8, (.int .i64)), (9, (.int .i64)), (10, .bool)] fr fun x => trystref22_Partner.c5 R N1 x.1 x.2.1 x.2.2.1 x.2.2.2.1 x.2.2.2.2.1 x.2.2.2.2.2 w) (cond (Nat.beq k 4) (dec [(0, .slice), (1, (.int .i64)), (7, (.int .i64)), (8, (.int .i64)), (9, (.int .i64)), (10, .bool)] fr fun x => trystref22_Partner.c4 R N1 x.1 x.2.1 x.2.2.1 x.2.2.2.1 x.2.2.2.2.1 x.2.2.2.2.2 w) (cond (Nat.beq k 3) (dec [(0, .slice), (9, (.int .i64))] fr fun x => trystref22_Partner.c3 R N1 x.1 x.2 w) (cond (Nat.beq k 2) (dec [(0, .slice), (1, (.int .i64)), (7, (.int .i64)), (8, (.int .i64)), (9, (.int .i64)), (10, .bool)] fr fun x => trystref22_Partner.c2 R N1 x.1 x.2.1 x.2.2.1 x.2.2.2.1 x.2.2.2.2.1 x.2.2.2.2.2 w) (False))))

def trystref22_Partner.J0 (R : Value → World → Prop) (k : Nat) (fr : Fr) (w : World) : Prop :=
  cond (Nat.beq k 1) (dec [(0, .slice), (1, (.int .i64)), (7, (.int .i64)), (8, (.int .i64)), (9, (.int .i64))] fr fun x => trystref22_Partner.l1 R x.1 x.2.1 x.2.2.1 x.2.2.2.1 x.2.2.2.2 w) (False)

set_option maxRecDepth 100000 in
theorem trystref22_Partner.lift {R : Value → World → Prop} {l0 : Sl} {place1 : Int} {round2 : Int} {w : World} (h : trystref22_Partner.main R l0 place1 round2 w) : CallsV Try.prog n_trystref22_Partner #[.slice l0.a l0.len l0.cap, .int .i64 place1, .int .i64 round2] w R :=
  liftCalls (c := (.seq (.leaf (cL (bd Try.f24))) (.seq (.leaf (cL (cR (bd Try.f24)))) (.seq (.leaf (cL (cR (cR (bd Try.f24))))) (.seq (.seq (.leaf (cL (cL (cR (cR (cR (bd Try.f24))))))) (.block 0 (.loop 1 (.seq (.seq (.leaf (cL (cL (cB (cB (cR (cL (cR (cR (cR (bd Try.f24))))))))))) (.cnd (.tmp 23) (.leaf (cT (cR (cL (cB (cB (cR (cL (cR (cR (cR (bd Try.f24)))))))))))) (.leaf (cE (cR (cL (cB (cB (cR (cL (cR (cR (cR (bd Try.f24)))))))))))))) (.seq (.block 1 (.seq (.seq (.leaf (cL (cL (cB (cL (cR (cB (cB (cR (cL (cR (cR (cR (bd Try.f24)))))))))))))) (.cnd (.tmp 28) (.leaf (cT (cR (cL (cB (cL (cR (cB (cB (cR (cL (cR (cR (cR (bd Try.f24))))))))))))))) (.leaf (cE (cR (cL (cB (cL (cR (cB (cB (cR (cL (cR (cR (cR (bd Try.f24))))))))))))))))) (.seq (.leaf (cL (cR (cB (cL (cR (cB (cB (cR (cL (cR (cR (cR (bd Try.f24)))))))))))))) (.seq (.seq (.leaf (cL (cL (cR (cR (cB (cL (cR (cB (cB (cR (cL (cR (cR (cR (bd Try.f24)))))))))))))))) (.cnd (.tmp 40) (.leaf (cT (cR (cL (cR (cR (cB (cL (cR (cB (cB (cR (cL (cR (cR (cR (bd Try.f24))))))))))))))))) (.leaf (cE (cR (cL (cR (cR (cB (cL (cR (cB (cB (cR (cL (cR (cR (cR (bd Try.f24))))))))))))))))))) (.cut 5 (.seq (.seq (.leaf (cL (cL (cR (cR (cR (cB (cL (cR (cB (cB (cR (cL (cR (cR (cR (bd Try.f24))))))))))))))))) (.cnd (.tmp 51) (.leaf (cT (cR (cL (cR (cR (cR (cB (cL (cR (cB (cB (cR (cL (cR (cR (cR (bd Try.f24)))))))))))))))))) (.leaf (cE (cR (cL (cR (cR (cR (cB (cL (cR (cB (cB (cR (cL (cR (cR (cR (bd Try.f24)))))))))))))))))))) (.cut 4 (.seq (.seq (.leaf (cL (cL (cR (cR (cR (cR (cB (cL (cR (cB (cB (cR (cL (cR (cR (cR (bd Try.f24)))))))))))))))))) (.cnd (.tmp 65) (.cut 3 (.seq (.leaf (cL (cT (cR (cL (cR (cR (cR (cR (cB (cL (cR (cB (cB (cR (cL (cR (cR (cR (bd Try.f24)))))))))))))))))))) (.leaf (cR (cT (cR (cL (cR (cR (cR (cR (cB (cL (cR (cB (cB (cR (cL (cR (cR (cR (bd Try.f24)))))))))))))))))))))) (.leaf (cE (cR (cL (cR (cR (cR (cR (cB (cL (cR (cB (cB (cR (cL (cR (cR (cR (bd Try.f24))))))))))))))))))))) (.cut 2 (.seq (.leaf (cL (cR (cR (cR (cR (cR (cB (cL (cR (cB (cB (cR (cL (cR (cR (cR (bd Try.f24)))))))))))))))))) (.cnd (.tmp 70) (.seq (.leaf (cL (cT (cR (cR (cR (cR (cR (cR (cB (cL (cR (cB (cB (cR (cL (cR (cR (cR (bd Try.f24)))))))))))))))))))) (.leaf (cR (cT (cR (cR (cR (cR (cR (cR (cB (cL (cR (cB (cB (cR (cL (cR (cR (cR (bd Try.f24))))))))))))))))))))) (.leaf (cE (cR (cR (cR (cR (cR (cR (cB (cL (cR (cB (cB (cR (cL (cR (cR (cR (bd Try.f24)))))))))))))))))))))))))))))) (.leaf (cR (cR (cB (cB (cR (cL (cR (cR (cR (bd Try.f24)))))))))))))))) (.seq (.leaf (cL (cR (cR (cR (cR (bd Try.f24))))))) (.leaf (cR (cR (cR (cR (cR (bd Try.f24))))))))))))) (J := trystref22_Partner.J0 R) LfYtnnpkjhpeefnbaa.mixed Try.func24 (by kernel_rfl) (by kernel_rfl) (mkSeq (mkSeq (mkSeq (mkSeq (mkSeq mkLeaf mkLeaf) (mkSeq (mkBlock (mkLoop (loopDef LfYtnnpkjhpeefnbaa.mixed [(0, .slice), (1, (.int .i64)), (7, (.int .i64)), (8, (.int .i64)), (9, (.int .i64))] (by kernel_rfl) (fun M1 x w => trystref22_Partner.b1 R (fun y0 y1 y2 y3 y4 w => M1 (y0, y1, y2, y3, y4) w) x.1 x.2.1 x.2.2.1 x.2.2.2.1 x.2.2.2.2 w) (fun M1 => trystref22_Partner.J1 R (fun y0 y1 y2 y3 y4 w => M1 (y0, y1, y2, y3, y4) w)) (fun _ _ _ => by kernel_rfl) (fun M1 => (mkSeq (mkSeq mkLeaf (mkBlock (mkSeq (mkSeq (mkSeq (mkCut (cutDef [(0, .slice), (1, (.int .i64)), (7, (.int .i64)), (8, (.int .i64)), (9, (.int .i64)), (10, .bool)] (fun x w => trystref22_Partner.c5 R (fun y0 y1 y2 y3 y4 w => M1 (y0, y1, y2, y3, y4) w) x.1 x.2.1 x.2.2.1 x.2.2.2.1 x.2.2.2.2.1 x.2.2.2.2.2 w) (fun _ _ => by kernel_rfl) (fun _ _ => by kernel_rfl)) (mkSeq (mkCut (cutDef [(0, .slice), (1, (.int .i64)), (7, (.int .i64)), (8, (.int .i64)), (9, (.int .i64)), (10, .bool)] (fun x w => trystref22_Partner.c4 R (fun y0 y1 y2 y3 y4 w => M1 (y0, y1, y2, y3, y4) w) x.1 x.2.1 x.2.2.1 x.2.2.2.1 x.2.2.2.2.1 x.2.2.2.2.2 w) (fun _ _ => by kernel_rfl) (fun _ _ => by kernel_rfl)) (mkSeq (mkCut (cutDef [(0, .slice), (1, (.int .i64)), (7, (.int .i64)), (8, (.int .i64)), (9, (.int .i64)), (10, .bool)] (fun x w => trystref22_Partner.c2 R (fun y0 y1 y2 y3 y4 w => M1 (y0, y1, y2, y3, y4) w) x.1 x.2.1 x.2.2.1 x.2.2.2.1 x.2.2.2.2.1 x.2.2.2.2.2 w) (fun _ _ => by kernel_rfl) (fun _ _ => by kernel_rfl)) (mkSeq (mkCnd (mkSeq mkLeaf mkLeaf) mkLeaf) mkLeaf)) (mkSeq (mkCnd (mkCut (cutDef [(0, .slice), (9, (.int .i64))] (fun x w => trystref22_Partner.c3 R (fun y0 y1 y2 y3 y4 w => M1 (y0, y1, y2, y3, y4) w) x.1 x.2 w) (fun _ _ => by kernel_rfl) (fun _ _ => by kernel_rfl)) (mkSeq mkLeaf mkLeaf)) mkLeaf) mkLeaf))) (mkSeq (mkCnd mkLeaf mkLeaf) mkLeaf))) (mkSeq (mkCnd mkLeaf mkLeaf) mkLeaf)) mkLeaf) (mkSeq (mkCnd mkLeaf mkLeaf) mkLeaf)))) (mkSeq (mkCnd mkLeaf mkLeaf) mkLeaf))) (fun x w => trystref22_Partner.l1 R x.1 x.2.1 x.2.2.1 x.2.2.2.1 x.2.2.2.2 w) (by rintro ⟨c0, c1, c2, c3, s0⟩ w ⟨I, μ, h0, h1⟩; refine ⟨fun y w => y.1 = c0 ∧ y.2.1 = c1 ∧ y.2.2.1 = c2 ∧ y.2.2.2.1 = c3 ∧ I y.2.2.2.2 w, fun y w => μ y.2.2.2.2 w, ⟨rfl, rfl, rfl, rfl, h0⟩, ?_⟩; rintro ⟨d0, d1, d2, d3, t0⟩ w ⟨e0, e1, e2, e3, hI⟩; dsimp only at e0 e1 e2 e3 hI; subst e0; subst e1; subst e2; subst e3; exact h1 _ _ hI) (fun _ _ => by kernel_rfl)))) mkLeaf)) mkLeaf) mkLeaf) mkLeaf) (kcast (by kernel_rfl) h)

/-! slots_right -/
def slots_right.b1 (R : Value → World → Prop) (N1 : Sl → Int → Int → Int → World → Prop) (t14 : Sl) (t15 : Int) (last3 : Int) (t16 : Int) (w : World) : Prop :=
  cond (decide ((t16 : Int) < t15))
  (0 ≤ (t16 : Int) ∧ t16 < ((t14.len : Nat) : Int) ∧ ∃ q_1 : Addr, t14.a = some q_1 ∧
  ∃ x_2 : Int, w.cell? (q_1.add (t16 : Int).toNat) = some (.int .i64 x_2) ∧
  cond (decide ((x_2 : Int) ≤ last3))
  (R (.bool false) w)
  (cond (decide ((x_2 : Int) ≥ 8))
  (R (.bool false) w)
  (N1 t14 t15 x_2 (IntKind.i64.wrap (t16 + 1)) w)))
  (R (.bool true) w)

def slots_right.l1 (R : Value → World → Prop) (t14 : Sl) (t15 : Int) (last3 : Int) (t16 : Int) (w : World) : Prop :=
  ∃ (I : (Int × Int) → World → Prop) (μ : (Int × Int) → World → Nat), I (last3, t16) w ∧ ∀ s w, I s w → slots_right.b1 R (fun t14' t15' last3' t16' w' => (t14' = t14 ∧ t15' = t15 ∧ I (last3', t16') w') ∧ μ (last3', t16') w' < μ s w) t14 t15 s.1 s.2 w

def slots_right.c2 (R : Value → World → Prop) (members0 : Sl) (w : World) : Prop :=
  slots_right.l1 R members0 ((members0.len : Nat) : Int) (-1) 0 w

def slots_right.main (R : Value → World → Prop) (members0 : Sl) (w : World) : Prop :=
  cond (decide ((((members0.len : Nat) : Int) : Int) < 1))
  (R (.bool false) w)
  (cond (decide ((((members0.len : Nat) : Int) : Int) > 8))
  (R (.bool false) w)
  (slots_right.c2 R members0 w))

def slots_right.J0 (R : Value → World → Prop) (k : Nat) (fr : Fr) (w : World) : Prop :=
  cond (Nat.beq k 2) (dec [(0, .slice)] fr fun x => slots_right.c2 R x w) (cond (Nat.beq k 1) (dec [(14, .slice), (15, (.int .i64)), (3, (.int .i64)), (16, (.int .i64))] fr fun x => slots_right.l1 R x.1 x.2.1 x.2.2.1 x.2.2.2 w) (False))

set_option maxRecDepth 100000 in
theorem slots_right.lift {R : Value → World → Prop} {members0 : Sl} {w : World} (h : slots_right.main R members0 w) : CallsV Try.prog n_slots_right #[.slice members0.a members0.len members0.cap] w R :=
  liftCalls (c := (.seq (.leaf (cL (bd Try.f45))) (.seq (.seq (.leaf (cL (cL (cR (bd Try.f45))))) (.cnd (.tmp 13) (.seq (.leaf (cL (cT (cR (cL (cR (bd Try.f45))))))) (.leaf (cR (cT (cR (cL (cR (bd Try.f45)))))))) (.leaf (cE (cR (cL (cR (bd Try.f45)))))))) (.cut 2 (.seq (.leaf (cL (cR (cR (bd Try.f45))))) (.seq (.seq (.leaf (cL (cL (cR (cR (cR (bd Try.f45))))))) (.block 0 (.loop 1 (.seq (.leaf (cL (cB (cB (cR (cL (cR (cR (cR (bd Try.f45)))))))))) (.seq (.cnd (.tmp 17) (.leaf (cT (cL (cR (cB (cB (cR (cL (cR (cR (cR (bd Try.f45)))))))))))) (.leaf (cE (cL (cR (cB (cB (cR (cL (cR (cR (cR (bd Try.f45))))))))))))) (.seq (.block 1 (.seq (.leaf (cL (cB (cL (cR (cR (cB (cB (cR (cL (cR (cR (cR (bd Try.f45)))))))))))))) (.seq (.seq (.leaf (cL (cL (cR (cB (cL (cR (cR (cB (cB (cR (cL (cR (cR (cR (bd Try.f45)))))))))))))))) (.cnd (.tmp 26) (.seq (.leaf (cL (cT (cR (cL (cR (cB (cL (cR (cR (cB (cB (cR (cL (cR (cR (cR (bd Try.f45)))))))))))))))))) (.leaf (cR (cT (cR (cL (cR (cB (cL (cR (cR (cB (cB (cR (cL (cR (cR (cR (bd Try.f45))))))))))))))))))) (.leaf (cE (cR (cL (cR (cB (cL (cR (cR (cB (cB (cR (cL (cR (cR (cR (bd Try.f45))))))))))))))))))) (.leaf (cR (cR (cB (cL (cR (cR (cB (cB (cR (cL (cR (cR (cR (bd Try.f45)))))))))))))))))) (.leaf (cR (cR (cR (cB (cB (cR (cL (cR (cR (cR (bd Try.f45)))))))))))))))))) (.seq (.leaf (cL (cR (cR (cR (cR (bd Try.f45))))))) (.leaf (cR (cR (cR (cR (cR (bd Try.f45)))))))))))))) (J := slots_right.J0 R) LfYtnnpkjhpeefnbaa.mixed Try.func45 (by kernel_rfl) (by kernel_rfl) (mkSeq (mkSeq (mkCut (cutDef [(0, .slice)] (fun x w => slots_right.c2 R x w) (fun _ _ => by kernel_rfl) (fun _ _ => by kernel_rfl)) (mkSeq (mkSeq (mkSeq mkLeaf mkLeaf) (mkSeq (mkBlock (mkLoop (loopDef LfYtnnpkjhpeefnbaa.mixed [(14, .slice), (15, (.int .i64)), (3, (.int .i64)), (16, (.int .i64))] (by kernel_rfl) (fun M1 x w => slots_right.b1 R (fun y0 y1 y2 y3 w => M1 (y0, y1, y2, y3) w) x.1 x.2.1 x.2.2.1 x.2.2.2 w) (fun M1 => fun _ _ _ => False) (fun _ _ _ => by kernel_rfl) (fun M1 => (mkSeq (mkSeq (mkSeq mkLeaf (mkBlock (mkSeq (mkSeq mkLeaf (mkSeq (mkCnd (mkSeq mkLeaf mkLeaf) mkLeaf) mkLeaf)) mkLeaf))) (mkCnd mkLeaf mkLeaf)) mkLeaf)) (fun x w => slots_right.l1 R x.1 x.2.1 x.2.2.1 x.2.2.2 w) (by rintro ⟨c0, c1, s0⟩ w ⟨I, μ, h0, h1⟩; refine ⟨fun y w => y.1 = c0 ∧ y.2.1 = c1 ∧ I y.2.2 w, fun y w => μ y.2.2 w, ⟨rfl, rfl, h0⟩, ?_⟩; rintro ⟨d0, d1, t0⟩ w ⟨e0, e1, hI⟩; dsimp only at e0 e1 hI; subst e0; subst e1; exact h1 _ _ hI) (fun _ _ => by kernel_rfl)))) mkLeaf)) mkLeaf)) (mkSeq (mkCnd (mkSeq mkLeaf mkLeaf) mkLeaf) mkLeaf)) mkLeaf) (kcast (by kernel_rfl) h)

/-! slices_Index_int -/
def slices_Index_int.b1 (R : Value → World → Prop) (N1 : Sl → Int → Int → Int → World → Prop) (s0 : Sl) (v1 : Int) (t7 : Int) (t8 : Int) (w : World) : Prop :=
  cond (decide ((t8 : Int) < t7))
  (0 ≤ (t8 : Int) ∧ t8 < ((s0.len : Nat) : Int) ∧ ∃ q_1 : Addr, s0.a = some q_1 ∧
  ∃ x_2 : Int, w.cell? (q_1.add (t8 : Int).toNat) = some (.int .i64 x_2) ∧
  cond ((v1 : Int) == x_2)
  (R (.int .i64 t8) w)
  (N1 s0 v1 t7 (IntKind.i64.wrap (t8 + 1)) w))
  (R (.int .i64 (-1)) w)

def slices_Index_int.l1 (R : Value → World → Prop) (s0 : Sl) (v1 : Int) (t7 : Int) (t8 : Int) (w : World) : Prop :=
  ∃ (I : Int → World → Prop) (μ : Int → World → Nat), I t8 w ∧ ∀ s w, I s w → slices_Index_int.b1 R (fun s0' v1' t7' t8' w' => (s0' = s0 ∧ v1' = v1 ∧ t7' = t7 ∧ I t8' w') ∧ μ t8' w' < μ s w) s0 v1 t7 s w

def slices_Index_int.main (R : Value → World → Prop) (s0 : Sl) (v1 : Int) (w : World) : Prop :=
  slices_Index_int.l1 R s0 v1 ((s0.len : Nat) : Int) 0 w

def slices_Index_int.J0 (R : Value → World → Prop) (k : Nat) (fr : Fr) (w : World) : Prop :=
  cond (Nat.beq k 1) (dec [(0, .slice), (1, (.int .i64)), (7, (.int .i64)), (8, (.int .i64))] fr fun x => slices_Index_int.l1 R x.1 x.2.1 x.2.2.1 x.2.2.2 w) (False)

set_option maxRecDepth 100000 in
theorem slices_Index_int.lift {R : Value → World → Prop} {s0 : Sl} {v1 : Int} {w : World} (h : slices_Index_int.main R s0 v1 w) : CallsV Try.prog n_slices_Index_int #[.slice s0.a s0.len s0.cap, .int .i64 v1] w R :=
  liftCalls (c := (.seq (.leaf (cL (bd Try.f46))) (.seq (.seq (.leaf (cL (cL (cR (bd Try.f46))))) (.block 0 (.loop 1 (.seq (.leaf (cL (cB (cB (cR (cL (cR (bd Try.f46)))))))) (.seq (.cnd (.tmp 9) (.leaf (cT (cL (cR (cB (cB (cR (cL (cR (bd Try.f46)))))))))) (.leaf (cE (cL (cR (cB (cB (cR (cL (cR (bd Try.f46))))))))))) (.seq (.block 1 (.seq (.leaf (cL (cB (cL (cR (cR (cB (cB (cR (cL (cR (bd Try.f46)))))))))))) (.seq (.leaf (cL (cR (cB (cL (cR (cR (cB (cB (cR (cL (cR (bd Try.f46))))))))))))) (.cnd (.tmp 16) (.seq (.leaf (cL (cT (cR (cR (cB (cL (cR (cR (cB (cB (cR (cL (cR (bd Try.f46))))))))))))))) (.leaf (cR (cT (cR (cR (cB (cL (cR (cR (cB (cB (cR (cL (cR (bd Try.f46)))))))))))))))) (.leaf (cE (cR (cR (cB (cL (cR (cR (cB (cB (cR (cL (cR (bd Try.f46)))))))))))))))))) (.leaf (cR (cR (cR (cB (cB (cR (cL (cR (bd Try.f46)))))))))))))))) (.seq (.leaf (cL (cR (cR (bd Try.f46))))) (.leaf (cR (cR (cR (bd Try.f46))))))))) (J := slices_Index_int.J0 R) LfYtnnpkjhpeefnbaa.mixed Try.func46 (by kernel_rfl) (by kernel_rfl) (mkSeq (mkSeq (mkSeq mkLeaf mkLeaf) (mkSeq (mkBlock (mkLoop (loopDef LfYtnnpkjhpeefnbaa.mixed [(0, .slice), (1, (.int .i64)), (7, (.int .i64)), (8, (.int .i64))] (by kernel_rfl) (fun M1 x w => slices_Index_int.b1 R (fun y0 y1 y2 y3 w => M1 (y0, y1, y2, y3) w) x.1 x.2.1 x.2.2.1 x.2.2.2 w) (fun M1 => fun _ _ _ => False) (fun _ _ _ => by kernel_rfl) (fun M1 => (mkSeq (mkSeq (mkSeq mkLeaf (mkBlock (mkSeq (mkSeq (mkCnd (mkSeq mkLeaf mkLeaf) mkLeaf) mkLeaf) mkLeaf))) (mkCnd mkLeaf mkLeaf)) mkLeaf)) (fun x w => slices_Index_int.l1 R x.1 x.2.1 x.2.2.1 x.2.2.2 w) (by rintro ⟨c0, c1, c2, s0⟩ w ⟨I, μ, h0, h1⟩; refine ⟨fun y w => y.1 = c0 ∧ y.2.1 = c1 ∧ y.2.2.1 = c2 ∧ I y.2.2.2 w, fun y w => μ y.2.2.2 w, ⟨rfl, rfl, rfl, h0⟩, ?_⟩; rintro ⟨d0, d1, d2, t0⟩ w ⟨e0, e1, e2, hI⟩; dsimp only at e0 e1 e2 hI; subst e0; subst e1; subst e2; exact h1 _ _ hI) (fun _ _ => by kernel_rfl)))) mkLeaf)) mkLeaf) (kcast (by kernel_rfl) h)

end Go.Proofs.Ytnnpkjhpeefnbaa
