/-
  What the code of these functions comes to, and that it suffices for the call. Written by a program of ours, for this claim.
-/
import Derived.Test.YtoclhecldmahiaaDoorM1Fns
set_option linter.unusedVariables false
set_option linter.unusedVariables false
namespace Go.Proofs.YtoclhecldmahiaaDoor
open Go.Lf
abbrev n_trystlaw24_ask : Nat := 54
abbrev n_trystlaw24_regs : Nat := 58
/-! trystlaw24_ask -/
def trystlaw24_ask.c1 (R : Value → World → Prop) (b0 : Option Addr) (x3 : Addr) (l6 : Sl) (w : World) : Prop :=
  ∃ x_1 : Int, w.cell? x3 = some (.int .i64 x_1) ∧
  cond ((x_1 : Int) == 72)
  (∃ S_2 : World → Prop, S_2 w.drew ∧
  0 ≤ (0 : Int) ∧ 0 < ((l6.len : Nat) : Int) ∧ ∃ q_3 : Addr, l6.a = some q_3 ∧
  ∃ x_4 : Int, (∀ x, S_2 x → x.cell? (q_3.add (0 : Int).toNat) = some (.int .i64 x_4)) ∧
  CallsV Tryd.prog n_trystref10_Arena_Word #[.pointer b0, .int .i64 72] w.drew (fun v_5 w1 =>
  ∃ x_6 : Int, v_5 = .int .i64 x_6 ∧
  S_2 w1 ∧
  let w2 := w1.alloc (.cells #[.int .i64 x_6, .int .i64 x_4] 3);
  CallsV Tryd.prog n_trystref10_Arena_Make #[.pointer b0, .int .i64 9, .int .i64 0, .slice (some (newA w1)) 2 2] w2 (fun v_7 w3 =>
  ∃ x_8 : Int, v_7 = .int .i64 x_8 ∧
  R (.int .i64 x_8) w3)))
  (∃ S_9 : World → Prop, S_9 w.drew ∧
  ∃ x_10 : Int, (∀ x, S_9 x → x.cell? x3 = some (.int .i64 x_10)) ∧
  0 ≤ (0 : Int) ∧ 0 < ((l6.len : Nat) : Int) ∧ ∃ q_11 : Addr, l6.a = some q_11 ∧
  ∃ x_12 : Int, (∀ x, S_9 x → x.cell? (q_11.add (0 : Int).toNat) = some (.int .i64 x_12)) ∧
  0 ≤ (1 : Int) ∧ 1 < ((l6.len : Nat) : Int) ∧ ∃ q_13 : Addr, l6.a = some q_13 ∧
  ∃ x_14 : Int, (∀ x, S_9 x → x.cell? (q_13.add (1 : Int).toNat) = some (.int .i64 x_14)) ∧
  CallsV Tryd.prog n_trystref10_Arena_Word #[.pointer b0, .int .i64 x_10] w.drew (fun v_15 w4 =>
  ∃ x_16 : Int, v_15 = .int .i64 x_16 ∧
  S_9 w4 ∧
  let w5 := w4.alloc (.cells #[.int .i64 x_16, .int .i64 x_12, .int .i64 x_14] 3);
  CallsV Tryd.prog n_trystref10_Arena_Make #[.pointer b0, .int .i64 9, .int .i64 0, .slice (some (newA w4)) 3 3] w5 (fun v_17 w6 =>
  ∃ x_18 : Int, v_17 = .int .i64 x_18 ∧
  R (.int .i64 x_18) w6)))

def trystlaw24_ask.c2 (R : Value → World → Prop) (l6 : Sl) (w : World) : Prop :=
  0 ≤ (0 : Int) ∧ 0 < ((l6.len : Nat) : Int) ∧ ∃ q_19 : Addr, l6.a = some q_19 ∧
  ∃ x_20 : Int, w.cell? (q_19.add (0 : Int).toNat) = some (.int .i64 x_20) ∧
  R (.int .i64 x_20) w

def trystlaw24_ask.main (R : Value → World → Prop) (b0 : Option Addr) (x1_0 : Int) (x1_1 : Int) (x1_2 : Int) (x1_3 : Bool) (w : World) : Prop :=
  let w7 := w.alloc (.cells #[.int .i64 x1_0, .int .i64 x1_1, .int .i64 x1_2, .bool x1_3] 68);
  ∃ q_21 : Addr, b0 = some q_21 ∧
  ∃ (a_22 : Option Addr) (l_23 c_24 : Nat), w7.cell? q_21 = some (.slice a_22 l_23 c_24) ∧
  ∃ x_25 : Int, w7.cell? ((newA w).add 1) = some (.int .i64 x_25) ∧
  ∃ x_26 : Int, w7.cell? ((newA w).add 2) = some (.int .i64 x_26) ∧
  let w8 := w7.alloc (.cells #[.int .i64 x_25, .int .i64 x_26] 3);
  CallsV Tryd.prog n_trystlaw10_Some #[.slice (some (newA w7)) 2 2, .int .i64 ((l_23 : Nat) : Int)] w8 (fun v_27 w9 =>
  ∃ (a_28 : Option Addr) (l_29 c_30 : Nat), v_27 = .slice a_28 l_29 c_30 ∧
  ∃ b_31 : Bool, w9.cell? ((newA w).add 3) = some (.bool b_31) ∧
  cond b_31
  (trystlaw24_ask.c2 R ⟨a_28, l_29, c_30⟩ w9)
  (∃ x_32 : Int, w9.cell? (newA w) = some (.int .i64 x_32) ∧
  cond (decide ((x_32 : Int) < 0))
  (trystlaw24_ask.c2 R ⟨a_28, l_29, c_30⟩ w9)
  (CallsV Tryd.prog n_trystref10_Arena_Has #[.pointer b0, .slice a_28 l_29 c_30] w9 (fun v_33 w10 =>
  ∃ b_34 : Bool, v_33 = .bool b_34 ∧
  cond (!b_34)
  (trystlaw24_ask.c2 R ⟨a_28, l_29, c_30⟩ w10)
  (trystlaw24_ask.c1 R b0 (newA w) ⟨a_28, l_29, c_30⟩ w10)))))

def trystlaw24_ask.J0 (R : Value → World → Prop) (k : Nat) (fr : Fr) (w : World) : Prop :=
  cond (Nat.beq k 2) (dec [(6, .slice)] fr fun x => trystlaw24_ask.c2 R x w) (cond (Nat.beq k 1) (dec [(0, .ptr), (3, .addr), (6, .slice)] fr fun x => trystlaw24_ask.c1 R x.1 x.2.1 x.2.2 w) (False))

set_option maxRecDepth 100000 in
theorem trystlaw24_ask.lift {R : Value → World → Prop} {b0 : Option Addr} {x1_0 : Int} {x1_1 : Int} {x1_2 : Int} {x1_3 : Bool} {w : World} (h : trystlaw24_ask.main R b0 x1_0 x1_1 x1_2 x1_3 w) : CallsV Tryd.prog n_trystlaw24_ask #[.pointer b0, .agg #[.int .i64 x1_0, .int .i64 x1_1, .int .i64 x1_2, .bool x1_3]] w R :=
  liftCalls (c := (.seq (.leaf (cL (bd Tryd.f54))) (.seq (.leaf (cL (cR (bd Tryd.f54)))) (.seq (.leaf (cL (cR (cR (bd Tryd.f54))))) (.seq (.seq (.leaf (cL (cL (cR (cR (cR (bd Tryd.f54))))))) (.cnd (.tmp 31) (.cut 2 (.seq (.leaf (cL (cT (cR (cL (cR (cR (cR (bd Tryd.f54))))))))) (.leaf (cR (cT (cR (cL (cR (cR (cR (bd Tryd.f54))))))))))) (.leaf (cE (cR (cL (cR (cR (cR (bd Tryd.f54)))))))))) (.cut 1 (.seq (.seq (.leaf (cL (cL (cR (cR (cR (cR (bd Tryd.f54)))))))) (.cnd (.tmp 37) (.seq (.leaf (cL (cT (cR (cL (cR (cR (cR (cR (bd Tryd.f54)))))))))) (.leaf (cR (cT (cR (cL (cR (cR (cR (cR (bd Tryd.f54))))))))))) (.leaf (cE (cR (cL (cR (cR (cR (cR (bd Tryd.f54))))))))))) (.seq (.leaf (cL (cR (cR (cR (cR (cR (bd Tryd.f54)))))))) (.leaf (cR (cR (cR (cR (cR (cR (bd Tryd.f54)))))))))))))))) (J := trystlaw24_ask.J0 R) LfYtoclhecldmahiaaDoor.mixed Tryd.func54 (by kernel_rfl) (by kernel_rfl) (mkSeq (mkSeq (mkSeq (mkSeq (mkCut (cutDef [(0, .ptr), (3, .addr), (6, .slice)] (fun x w => trystlaw24_ask.c1 R x.1 x.2.1 x.2.2 w) (fun _ _ => by kernel_rfl) (fun _ _ => by kernel_rfl)) (mkSeq (mkSeq mkLeaf mkLeaf) (mkSeq (mkCnd (mkSeq mkLeaf mkLeaf) mkLeaf) mkLeaf))) (mkSeq (mkCnd (mkCut (cutDef [(6, .slice)] (fun x w => trystlaw24_ask.c2 R x w) (fun _ _ => by kernel_rfl) (fun _ _ => by kernel_rfl)) (mkSeq mkLeaf mkLeaf)) mkLeaf) mkLeaf)) mkLeaf) mkLeaf) mkLeaf) (kcast (by kernel_rfl) h)

/-! trystlaw24_regs -/
def trystlaw24_regs.b1 (R : Value → World → Prop) (N1 : Option Addr → Sl → Sl → Int → World → Prop) (p0 : Option Addr) (l1 : Sl) (out5 : Sl) (i6 : Int) (w : World) : Prop :=
  cond (decide ((i6 : Int) < ((l1.len : Nat) : Int)))
  (∃ S_1 : World → Prop, S_1 w.drew ∧
  0 ≤ (i6 : Int) ∧ i6 < ((l1.len : Nat) : Int) ∧ ∃ q_2 : Addr, l1.a = some q_2 ∧
  ∃ x_3 : Int, (∀ x, S_1 x → x.cell? (q_2.add ((i6 : Int).toNat * 2)) = some (.int .i64 x_3)) ∧
  0 ≤ (i6 : Int) ∧ i6 < ((l1.len : Nat) : Int) ∧ ∃ q_4 : Addr, l1.a = some q_4 ∧
  ∃ x_5 : Int, (∀ x, S_1 x → x.cell? ((q_4.add ((i6 : Int).toNat * 2)).add 1) = some (.int .i64 x_5)) ∧
  CallsV Tryd.prog n_trystlaw10_Pair_T #[.pointer p0, .int .i64 x_3] w.drew (fun v_6 w1 =>
  ∃ x_7 : Int, v_6 = .int .i64 x_7 ∧
  S_1 w1 ∧
  CallsV Tryd.prog n_trystlaw10_Pair_T #[.pointer p0, .int .i64 x_5] w1 (fun v_8 w2 =>
  ∃ x_9 : Int, v_8 = .int .i64 x_9 ∧
  let w3 := w2.alloc (.cells #[.int .i64 x_7, .int .i64 x_9] 72);
  ∃ (a_10 : Option Addr) (l_11 c_12 : Nat), ∃ w4 : World, (builtin .append #[57, 57] 57 #[] #[.slice out5.a out5.len out5.cap, .slice (some (newA w2)) 1 1]).run Tryd.prog w3 = .ok (.value (.slice a_10 l_11 c_12)) w4 ∧
  (let i6_12 : Int := (IntKind.i64.wrap (i6 + 1));
  N1 p0 l1 ⟨a_10, l_11, c_12⟩ i6_12 w4))))
  (R (.slice out5.a out5.len out5.cap) w)

def trystlaw24_regs.l1 (R : Value → World → Prop) (p0 : Option Addr) (l1 : Sl) (out5 : Sl) (i6 : Int) (w : World) : Prop :=
  ∃ (I : (Sl × Int) → World → Prop) (μ : (Sl × Int) → World → Nat), I (out5, i6) w ∧ ∀ s w, I s w → trystlaw24_regs.b1 R (fun p0' l1' out5' i6' w' => (p0' = p0 ∧ l1' = l1 ∧ I (out5', i6') w') ∧ μ (out5', i6') w' < μ s w) p0 l1 s.1 s.2 w

def trystlaw24_regs.main (R : Value → World → Prop) (p0 : Option Addr) (l1 : Sl) (w : World) : Prop :=
  trystlaw24_regs.l1 R p0 l1 ⟨none, 0, 0⟩ 0 w

def trystlaw24_regs.J0 (R : Value → World → Prop) (k : Nat) (fr : Fr) (w : World) : Prop :=
  cond (Nat.beq k 1) (dec [(0, .ptr), (1, .slice), (5, .slice), (6, (.int .i64))] fr fun x => trystlaw24_regs.l1 R x.1 x.2.1 x.2.2.1 x.2.2.2 w) (False)

set_option maxRecDepth 100000 in
theorem trystlaw24_regs.lift {R : Value → World → Prop} {p0 : Option Addr} {l1 : Sl} {w : World} (h : trystlaw24_regs.main R p0 l1 w) : CallsV Tryd.prog n_trystlaw24_regs #[.pointer p0, .slice l1.a l1.len l1.cap] w R :=
  liftCalls (c := (.seq (.leaf (cL (bd Tryd.f58))) (.seq (.leaf (cL (cR (bd Tryd.f58)))) (.seq (.seq (.leaf (cL (cL (cR (cR (bd Tryd.f58)))))) (.block 0 (.loop 1 (.seq (.seq (.leaf (cL (cL (cB (cB (cR (cL (cR (cR (bd Tryd.f58)))))))))) (.cnd (.tmp 10) (.leaf (cT (cR (cL (cB (cB (cR (cL (cR (cR (bd Tryd.f58))))))))))) (.leaf (cE (cR (cL (cB (cB (cR (cL (cR (cR (bd Tryd.f58))))))))))))) (.seq (.block 1 (.leaf (cB (cL (cR (cB (cB (cR (cL (cR (cR (bd Tryd.f58)))))))))))) (.leaf (cR (cR (cB (cB (cR (cL (cR (cR (bd Tryd.f58))))))))))))))) (.seq (.leaf (cL (cR (cR (cR (bd Tryd.f58)))))) (.leaf (cR (cR (cR (cR (bd Tryd.f58))))))))))) (J := trystlaw24_regs.J0 R) LfYtoclhecldmahiaaDoor.mixed Tryd.func58 (by kernel_rfl) (by kernel_rfl) (mkSeq (mkSeq (mkSeq (mkSeq mkLeaf mkLeaf) (mkSeq (mkBlock (mkLoop (loopDef LfYtoclhecldmahiaaDoor.mixed [(0, .ptr), (1, .slice), (5, .slice), (6, (.int .i64))] (by kernel_rfl) (fun M1 x w => trystlaw24_regs.b1 R (fun y0 y1 y2 y3 w => M1 (y0, y1, y2, y3) w) x.1 x.2.1 x.2.2.1 x.2.2.2 w) (fun M1 => fun _ _ _ => False) (fun _ _ _ => by kernel_rfl) (fun M1 => (mkSeq (mkSeq mkLeaf (mkBlock mkLeaf)) (mkSeq (mkCnd mkLeaf mkLeaf) mkLeaf))) (fun x w => trystlaw24_regs.l1 R x.1 x.2.1 x.2.2.1 x.2.2.2 w) (by rintro ⟨c0, c1, s0⟩ w ⟨I, μ, h0, h1⟩; refine ⟨fun y w => y.1 = c0 ∧ y.2.1 = c1 ∧ I y.2.2 w, fun y w => μ y.2.2 w, ⟨rfl, rfl, h0⟩, ?_⟩; rintro ⟨d0, d1, t0⟩ w ⟨e0, e1, hI⟩; dsimp only at e0 e1 hI; subst e0; subst e1; exact h1 _ _ hI) (fun _ _ => by kernel_rfl)))) mkLeaf)) mkLeaf) mkLeaf) (kcast (by kernel_rfl) h)

end Go.Proofs.YtoclhecldmahiaaDoor
