/-
  What the code of these functions comes to, and that it suffices for the call. Written by a program of ours, for this claim.
-/
import Derived.Test.YtoclhecldmahiaaDoorM2Fns
set_option linter.unusedVariables false
set_option linter.unusedVariables false
namespace Go.Proofs.YtoclhecldmahiaaDoor
open Go.Lf
abbrev n_trystlaw24_perm : Nat := 88
abbrev n_trystlaw24_state : Nat := 89
abbrev n_trystkeep_TwinPerms : Nat := 91
abbrev n_trystkeep_Mix : Nat := 93
abbrev n_trystref22_Perm : Nat := 94
/-! trystlaw24_perm -/
def trystlaw24_perm.c2 (R : Value → World → Prop) (N1 : Sl → Int → Sl → Int → World → Prop) (l0 : Sl) (n1 : Int) (out7 : Sl) (i9 : Int) (w : World) : Prop :=
  0 ≤ (i9 : Int) ∧ i9 < ((l0.len : Nat) : Int) ∧ ∃ q_1 : Addr, l0.a = some q_1 ∧
  ∃ x_2 : Int, w.cell? (q_1.add (i9 : Int).toNat) = some (.int .i64 x_2) ∧
  (IntKind.u64.wrap n1) ≠ 0 ∧
  (let k10_2 : Int := (IntKind.i64.wrap (Int.tmod (IntKind.u64.wrap x_2) (IntKind.u64.wrap n1)));
  ∃ S_4 : World → Prop, S_4 w.drew ∧
  0 ≤ (k10_2 : Int) ∧ k10_2 < ((out7.len : Nat) : Int) ∧ ∃ q_5 : Addr, out7.a = some q_5 ∧
  ∃ x_6 : Int, (∀ x, S_4 x → x.cell? (q_5.add (k10_2 : Int).toNat) = some (.int .i64 x_6)) ∧
  0 ≤ (i9 : Int) ∧ i9 < ((out7.len : Nat) : Int) ∧ ∃ q_7 : Addr, out7.a = some q_7 ∧
  ∃ x_8 : Int, (∀ x, S_4 x → x.cell? (q_7.add (i9 : Int).toNat) = some (.int .i64 x_8)) ∧
  0 ≤ (i9 : Int) ∧ i9 < ((out7.len : Nat) : Int) ∧ ∃ q_9 : Addr, out7.a = some q_9 ∧
  Wr w.drew (q_9.add (i9 : Int).toNat) ∧
  (let w1 := w.drew.setCell (q_9.add (i9 : Int).toNat) (.int .i64 x_6);
  0 ≤ (k10_2 : Int) ∧ k10_2 < ((out7.len : Nat) : Int) ∧ ∃ q_10 : Addr, out7.a = some q_10 ∧
  Wr w1 (q_10.add (k10_2 : Int).toNat) ∧
  (let w2 := w1.setCell (q_10.add (k10_2 : Int).toNat) (.int .i64 x_8);
  (let i9_10 : Int := (IntKind.i64.wrap (i9 + 1));
  N1 l0 n1 out7 i9_10 w2))))

def trystlaw24_perm.b1 (R : Value → World → Prop) (N1 : Sl → Int → Sl → Int → World → Prop) (l0 : Sl) (n1 : Int) (out7 : Sl) (i9 : Int) (w : World) : Prop :=
  cond (decide ((i9 : Int) < n1))
  (cond (decide ((i9 : Int) < ((l0.len : Nat) : Int)))
  (trystlaw24_perm.c2 R N1 l0 n1 out7 i9 w)
  (R (.slice out7.a out7.len out7.cap) w))
  (R (.slice out7.a out7.len out7.cap) w)

def trystlaw24_perm.l1 (R : Value → World → Prop) (l0 : Sl) (n1 : Int) (out7 : Sl) (i9 : Int) (w : World) : Prop :=
  ∃ (I : Int → World → Prop) (μ : Int → World → Nat), I i9 w ∧ ∀ s w, I s w → trystlaw24_perm.b1 R (fun l0' n1' out7' i9' w' => (l0' = l0 ∧ n1' = n1 ∧ out7' = out7 ∧ I i9' w') ∧ μ i9' w' < μ s w) l0 n1 out7 s w

def trystlaw24_perm.c3 (R : Value → World → Prop) (l0 : Sl) (n1 : Int) (out7 : Sl) (w : World) : Prop :=
  trystlaw24_perm.l1 R l0 n1 out7 0 w

def trystlaw24_perm.b4 (R : Value → World → Prop) (N4 : Sl → Int → Sl → Int → World → Prop) (l0 : Sl) (n1 : Int) (out7 : Sl) (i8 : Int) (w : World) : Prop :=
  cond (decide ((i8 : Int) < n1))
  (let w3 := w.alloc (.cells #[.int .i64 i8] 3);
  ∃ (a_12 : Option Addr) (l_13 c_14 : Nat), ∃ w4 : World, (builtin .append #[29, 29] 29 #[] #[.slice out7.a out7.len out7.cap, .slice (some (newA w)) 1 1]).run Tryd.prog w3 = .ok (.value (.slice a_12 l_13 c_14)) w4 ∧
  (let i8_14 : Int := (IntKind.i64.wrap (i8 + 1));
  N4 l0 n1 ⟨a_12, l_13, c_14⟩ i8_14 w4))
  (trystlaw24_perm.c3 R l0 n1 out7 w)

def trystlaw24_perm.l4 (R : Value → World → Prop) (l0 : Sl) (n1 : Int) (out7 : Sl) (i8 : Int) (w : World) : Prop :=
  ∃ (I : (Sl × Int) → World → Prop) (μ : (Sl × Int) → World → Nat), I (out7, i8) w ∧ ∀ s w, I s w → trystlaw24_perm.b4 R (fun l0' n1' out7' i8' w' => (l0' = l0 ∧ n1' = n1 ∧ I (out7', i8') w') ∧ μ (out7', i8') w' < μ s w) l0 n1 s.1 s.2 w

def trystlaw24_perm.main (R : Value → World → Prop) (l0 : Sl) (n1 : Int) (raw2 : Bool) (w : World) : Prop :=
  cond raw2
  (CallsV Tryd.prog n_trystkeep_TwinInts #[.slice l0.a l0.len l0.cap] w (fun v_16 w5 =>
  ∃ (a_17 : Option Addr) (l_18 c_19 : Nat), v_16 = .slice a_17 l_18 c_19 ∧
  R (.slice a_17 l_18 c_19) w5))
  (trystlaw24_perm.l4 R l0 n1 ⟨none, 0, 0⟩ 0 w)

def trystlaw24_perm.J1 (R : Value → World → Prop) (N1 : Sl → Int → Sl → Int → World → Prop) (k : Nat) (fr : Fr) (w : World) : Prop :=
  cond (Nat.beq k 2) (dec [(0, .slice), (1, (.int .i64)), (7, .slice), (9, (.int .i64))] fr fun x => trystlaw24_perm.c2 R N1 x.1 x.2.1 x.2.2.1 x.2.2.2 w) (False)

def trystlaw24_perm.J0 (R : Value → World → Prop) (k : Nat) (fr : Fr) (w : World) : Prop :=
  cond (Nat.beq k 4) (dec [(0, .slice), (1, (.int .i64)), (7, .slice), (8, (.int .i64))] fr fun x => trystlaw24_perm.l4 R x.1 x.2.1 x.2.2.1 x.2.2.2 w) (cond (Nat.beq k 3) (dec [(0, .slice), (1, (.int .i64)), (7, .slice)] fr fun x => trystlaw24_perm.c3 R x.1 x.2.1 x.2.2 w) (cond (Nat.beq k 1) (dec [(0, .slice), (1, (.int .i64)), (7, .slice), (9, (.int .i64))] fr fun x => trystlaw24_perm.l1 R x.1 x.2.1 x.2.2.1 x.2.2.2 w) (False)))

set_option maxRecDepth 100000 in
theorem trystlaw24_perm.lift {R : Value → World → Prop} {l0 : Sl} {n1 : Int} {raw2 : Bool} {w : World} (h : trystlaw24_perm.main R l0 n1 raw2 w) : CallsV Tryd.prog n_trystlaw24_perm #[.slice l0.a l0.len l0.cap, .int .i64 n1, .bool raw2] w R :=
  liftCalls (c := (.seq (.leaf (cL (bd Tryd.f88))) (.seq (.seq (.leaf (cL (cL (cR (bd Tryd.f88))))) (.cnd (.tmp 11) (.seq (.leaf (cL (cT (cR (cL (cR (bd Tryd.f88))))))) (.leaf (cR (cT (cR (cL (cR (bd Tryd.f88)))))))) (.leaf (cE (cR (cL (cR (bd Tryd.f88)))))))) (.seq (.leaf (cL (cR (cR (bd Tryd.f88))))) (.seq (.seq (.leaf (cL (cL (cR (cR (cR (bd Tryd.f88))))))) (.block 0 (.loop 4 (.seq (.seq (.leaf (cL (cL (cB (cB (cR (cL (cR (cR (cR (bd Tryd.f88))))))))))) (.cnd (.tmp 16) (.leaf (cT (cR (cL (cB (cB (cR (cL (cR (cR (cR (bd Tryd.f88)))))))))))) (.leaf (cE (cR (cL (cB (cB (cR (cL (cR (cR (cR (bd Tryd.f88)))))))))))))) (.seq (.block 1 (.leaf (cB (cL (cR (cB (cB (cR (cL (cR (cR (cR (bd Tryd.f88))))))))))))) (.leaf (cR (cR (cB (cB (cR (cL (cR (cR (cR (bd Tryd.f88)))))))))))))))) (.cut 3 (.seq (.seq (.leaf (cL (cL (cR (cR (cR (cR (bd Tryd.f88)))))))) (.block 2 (.loop 1 (.seq (.seq (.leaf (cL (cL (cB (cB (cR (cL (cR (cR (cR (cR (bd Tryd.f88)))))))))))) (.cnd (.tmp 31) (.leaf (cT (cR (cL (cB (cB (cR (cL (cR (cR (cR (cR (bd Tryd.f88))))))))))))) (.leaf (cE (cR (cL (cB (cB (cR (cL (cR (cR (cR (cR (bd Tryd.f88))))))))))))))) (.cut 2 (.seq (.block 3 (.seq (.leaf (cL (cB (cL (cR (cB (cB (cR (cL (cR (cR (cR (cR (bd Tryd.f88)))))))))))))) (.leaf (cR (cB (cL (cR (cB (cB (cR (cL (cR (cR (cR (cR (bd Tryd.f88)))))))))))))))) (.leaf (cR (cR (cB (cB (cR (cL (cR (cR (cR (cR (bd Tryd.f88)))))))))))))))))) (.seq (.leaf (cL (cR (cR (cR (cR (cR (bd Tryd.f88)))))))) (.leaf (cR (cR (cR (cR (cR (cR (bd Tryd.f88)))))))))))))))) (J := trystlaw24_perm.J0 R) LfYtoclhecldmahiaaDoor.mixed Tryd.func88 (by kernel_rfl) (by kernel_rfl) (mkSeq (mkSeq (mkSeq (mkSeq (mkCut (cutDef [(0, .slice), (1, (.int .i64)), (7, .slice)] (fun x w => trystlaw24_perm.c3 R x.1 x.2.1 x.2.2 w) (fun _ _ => by kernel_rfl) (fun _ _ => by kernel_rfl)) (mkSeq (mkSeq mkLeaf mkLeaf) (mkSeq (mkBlock (mkLoop (loopDef LfYtoclhecldmahiaaDoor.mixed [(0, .slice), (1, (.int .i64)), (7, .slice), (9, (.int .i64))] (by kernel_rfl) (fun M1 x w => trystlaw24_perm.b1 R (fun y0 y1 y2 y3 w => M1 (y0, y1, y2, y3) w) x.1 x.2.1 x.2.2.1 x.2.2.2 w) (fun M1 => trystlaw24_perm.J1 R (fun y0 y1 y2 y3 w => M1 (y0, y1, y2, y3) w)) (fun _ _ _ => by kernel_rfl) (fun M1 => (mkSeq (mkCut (cutDef [(0, .slice), (1, (.int .i64)), (7, .slice), (9, (.int .i64))] (fun x w => trystlaw24_perm.c2 R (fun y0 y1 y2 y3 w => M1 (y0, y1, y2, y3) w) x.1 x.2.1 x.2.2.1 x.2.2.2 w) (fun _ _ => by kernel_rfl) (fun _ _ => by kernel_rfl)) (mkSeq mkLeaf (mkBlock (mkSeq mkLeaf mkLeaf)))) (mkSeq (mkCnd mkLeaf mkLeaf) mkLeaf))) (fun x w => trystlaw24_perm.l1 R x.1 x.2.1 x.2.2.1 x.2.2.2 w) (by rintro ⟨c0, c1, c2, s0⟩ w ⟨I, μ, h0, h1⟩; refine ⟨fun y w => y.1 = c0 ∧ y.2.1 = c1 ∧ y.2.2.1 = c2 ∧ I y.2.2.2 w, fun y w => μ y.2.2.2 w, ⟨rfl, rfl, rfl, h0⟩, ?_⟩; rintro ⟨d0, d1, d2, t0⟩ w ⟨e0, e1, e2, hI⟩; dsimp only at e0 e1 e2 hI; subst e0; subst e1; subst e2; exact h1 _ _ hI) (fun _ _ => by kernel_rfl)))) mkLeaf))) (mkSeq (mkBlock (mkLoop (loopDef LfYtoclhecldmahiaaDoor.mixed [(0, .slice), (1, (.int .i64)), (7, .slice), (8, (.int .i64))] (by kernel_rfl) (fun M4 x w => trystlaw24_perm.b4 R (fun y0 y1 y2 y3 w => M4 (y0, y1, y2, y3) w) x.1 x.2.1 x.2.2.1 x.2.2.2 w) (fun M4 => fun _ _ _ => False) (fun _ _ _ => by kernel_rfl) (fun M4 => (mkSeq (mkSeq mkLeaf (mkBlock mkLeaf)) (mkSeq (mkCnd mkLeaf mkLeaf) mkLeaf))) (fun x w => trystlaw24_perm.l4 R x.1 x.2.1 x.2.2.1 x.2.2.2 w) (by rintro ⟨c0, c1, s0⟩ w ⟨I, μ, h0, h1⟩; refine ⟨fun y w => y.1 = c0 ∧ y.2.1 = c1 ∧ I y.2.2 w, fun y w => μ y.2.2 w, ⟨rfl, rfl, h0⟩, ?_⟩; rintro ⟨d0, d1, t0⟩ w ⟨e0, e1, hI⟩; dsimp only at e0 e1 hI; subst e0; subst e1; exact h1 _ _ hI) (fun _ _ => by kernel_rfl)))) mkLeaf)) mkLeaf) (mkSeq (mkCnd (mkSeq mkLeaf mkLeaf) mkLeaf) mkLeaf)) mkLeaf) (kcast (by kernel_rfl) h)

/-! trystlaw24_state -/
def trystlaw24_state.c1 (R : Value → World → Prop) (t4 : Addr) (out5 : Addr) (w : World) : Prop :=
  ∃ (a_1 : Option Addr) (l_2 c_3 : Nat), w.cell? out5 = some (.slice a_1 l_2 c_3) ∧
  ∃ (a_4 : Option Addr) (l_5 c_6 : Nat), w.cell? (out5.add 1) = some (.slice a_4 l_5 c_6) ∧
  ∃ (a_7 : Option Addr) (l_8 c_9 : Nat), w.cell? (out5.add 2) = some (.slice a_7 l_8 c_9) ∧
  ∃ (a_10 : Option Addr) (l_11 c_12 : Nat), w.cell? (out5.add 3) = some (.slice a_10 l_11 c_12) ∧
  (∀ j, j < 4 → Wr w (t4.add j)) ∧
  (let w1 := setCells t4 [.slice a_1 l_2 c_3, .slice a_4 l_5 c_6, .slice a_7 l_8 c_9, .slice a_10 l_11 c_12] 0 w;
  ∃ (a_13 : Option Addr) (l_14 c_15 : Nat), w1.cell? t4 = some (.slice a_13 l_14 c_15) ∧
  ∃ (a_16 : Option Addr) (l_17 c_18 : Nat), w1.cell? (t4.add 1) = some (.slice a_16 l_17 c_18) ∧
  ∃ (a_19 : Option Addr) (l_20 c_21 : Nat), w1.cell? (t4.add 2) = some (.slice a_19 l_20 c_21) ∧
  ∃ (a_22 : Option Addr) (l_23 c_24 : Nat), w1.cell? (t4.add 3) = some (.slice a_22 l_23 c_24) ∧
  R (.agg #[.slice a_13 l_14 c_15, .slice a_16 l_17 c_18, .slice a_19 l_20 c_21, .slice a_22 l_23 c_24]) w1)

def trystlaw24_state.b2 (R : Value → World → Prop) (N2 : Option Addr → Addr → Addr → Addr → Int → World → Prop) (p0 : Option Addr) (m3 : Addr) (t4 : Addr) (out5 : Addr) (i6 : Int) (w : World) : Prop :=
  cond (decide ((i6 : Int) < 3))
  (0 ≤ (i6 : Int) ∧ i6 < ((3 : Nat) : Int) ∧
  ∃ (a_25 : Option Addr) (l_26 c_27 : Nat), w.cell? ((m3.add 1).add (i6 : Int).toNat) = some (.slice a_25 l_26 c_27) ∧
  CallsV Tryd.prog n_trystlaw10_Pair_Ts #[.pointer p0, .slice a_25 l_26 c_27] w (fun v_28 w2 =>
  ∃ (a_29 : Option Addr) (l_30 c_31 : Nat), v_28 = .slice a_29 l_30 c_31 ∧
  0 ≤ (i6 : Int) ∧ i6 < ((3 : Nat) : Int) ∧
  Wr w2 ((out5.add 1).add (i6 : Int).toNat) ∧
  (let w3 := w2.setCell ((out5.add 1).add (i6 : Int).toNat) (.slice a_29 l_30 c_31);
  (let i6_31 : Int := (IntKind.i64.wrap (i6 + 1));
  N2 p0 m3 t4 out5 i6_31 w3))))
  (trystlaw24_state.c1 R t4 out5 w)

def trystlaw24_state.l2 (R : Value → World → Prop) (p0 : Option Addr) (m3 : Addr) (t4 : Addr) (out5 : Addr) (i6 : Int) (w : World) : Prop :=
  ∃ (I : Int → World → Prop) (μ : Int → World → Nat), I i6 w ∧ ∀ s w, I s w → trystlaw24_state.b2 R (fun p0' m3' t4' out5' i6' w' => (p0' = p0 ∧ m3' = m3 ∧ t4' = t4 ∧ out5' = out5 ∧ I i6' w') ∧ μ i6' w' < μ s w) p0 m3 t4 out5 s w

def trystlaw24_state.main (R : Value → World → Prop) (p0 : Option Addr) (m1_0 : Sl) (m1_1 : Sl) (m1_2 : Sl) (m1_3 : Sl) (w : World) : Prop :=
  let w4 := w.alloc (.cells #[.slice m1_0.a m1_0.len m1_0.cap, .slice m1_1.a m1_1.len m1_1.cap, .slice m1_2.a m1_2.len m1_2.cap, .slice m1_3.a m1_3.len m1_3.cap] 127);
  let w5 := w4.alloc (.cells #[.slice none 0 0, .slice none 0 0, .slice none 0 0, .slice none 0 0] 127);
  let w6 := w5.alloc (.cells #[.slice none 0 0, .slice none 0 0, .slice none 0 0, .slice none 0 0] 127);
  ∃ (a_33 : Option Addr) (l_34 c_35 : Nat), w6.cell? (newA w) = some (.slice a_33 l_34 c_35) ∧
  CallsV Tryd.prog n_trystlaw24_regs #[.pointer p0, .slice a_33 l_34 c_35] w6 (fun v_36 w7 =>
  ∃ (a_37 : Option Addr) (l_38 c_39 : Nat), v_36 = .slice a_37 l_38 c_39 ∧
  Wr w7 (newA w5) ∧
  (let w8 := w7.setCell (newA w5) (.slice a_37 l_38 c_39);
  trystlaw24_state.l2 R p0 (newA w) (newA w4) (newA w5) 0 w8))

def trystlaw24_state.J0 (R : Value → World → Prop) (k : Nat) (fr : Fr) (w : World) : Prop :=
  cond (Nat.beq k 2) (dec [(0, .ptr), (3, .addr), (4, .addr), (5, .addr), (6, (.int .i64))] fr fun x => trystlaw24_state.l2 R x.1 x.2.1 x.2.2.1 x.2.2.2.1 x.2.2.2.2 w) (cond (Nat.beq k 1) (dec [(4, .addr), (5, .addr)] fr fun x => trystlaw24_state.c1 R x.1 x.2 w) (False))

set_option maxRecDepth 100000 in
theorem trystlaw24_state.lift {R : Value → World → Prop} {p0 : Option Addr} {m1_0 : Sl} {m1_1 : Sl} {m1_2 : Sl} {m1_3 : Sl} {w : World} (h : trystlaw24_state.main R p0 m1_0 m1_1 m1_2 m1_3 w) : CallsV Tryd.prog n_trystlaw24_state #[.pointer p0, .agg #[.slice m1_0.a m1_0.len m1_0.cap, .slice m1_1.a m1_1.len m1_1.cap, .slice m1_2.a m1_2.len m1_2.cap, .slice m1_3.a m1_3.len m1_3.cap]] w R :=
  liftCalls (c := (.seq (.leaf (cL (bd Tryd.f89))) (.seq (.leaf (cL (cR (bd Tryd.f89)))) (.seq (.leaf (cL (cR (cR (bd Tryd.f89))))) (.seq (.seq (.leaf (cL (cL (cR (cR (cR (bd Tryd.f89))))))) (.block 0 (.loop 2 (.seq (.seq (.leaf (cL (cL (cB (cB (cR (cL (cR (cR (cR (bd Tryd.f89))))))))))) (.cnd (.tmp 13) (.leaf (cT (cR (cL (cB (cB (cR (cL (cR (cR (cR (bd Tryd.f89)))))))))))) (.leaf (cE (cR (cL (cB (cB (cR (cL (cR (cR (cR (bd Tryd.f89)))))))))))))) (.seq (.block 1 (.leaf (cB (cL (cR (cB (cB (cR (cL (cR (cR (cR (bd Tryd.f89))))))))))))) (.leaf (cR (cR (cB (cB (cR (cL (cR (cR (cR (bd Tryd.f89)))))))))))))))) (.cut 1 (.seq (.leaf (cL (cR (cR (cR (cR (bd Tryd.f89))))))) (.leaf (cR (cR (cR (cR (cR (bd Tryd.f89)))))))))))))) (J := trystlaw24_state.J0 R) LfYtoclhecldmahiaaDoor.mixed Tryd.func89 (by kernel_rfl) (by kernel_rfl) (mkSeq (mkSeq (mkSeq (mkSeq (mkCut (cutDef [(4, .addr), (5, .addr)] (fun x w => trystlaw24_state.c1 R x.1 x.2 w) (fun _ _ => by kernel_rfl) (fun _ _ => by kernel_rfl)) (mkSeq mkLeaf mkLeaf)) (mkSeq (mkBlock (mkLoop (loopDef LfYtoclhecldmahiaaDoor.mixed [(0, .ptr), (3, .addr), (4, .addr), (5, .addr), (6, (.int .i64))] (by kernel_rfl) (fun M2 x w => trystlaw24_state.b2 R (fun y0 y1 y2 y3 y4 w => M2 (y0, y1, y2, y3, y4) w) x.1 x.2.1 x.2.2.1 x.2.2.2.1 x.2.2.2.2 w) (fun M2 => fun _ _ _ => False) (fun _ _ _ => by kernel_rfl) (fun M2 => (mkSeq (mkSeq mkLeaf (mkBlock mkLeaf)) (mkSeq (mkCnd mkLeaf mkLeaf) mkLeaf))) (fun x w => trystlaw24_state.l2 R x.1 x.2.1 x.2.2.1 x.2.2.2.1 x.2.2.2.2 w) (by rintro ⟨c0, c1, c2, c3, s0⟩ w ⟨I, μ, h0, h1⟩; refine ⟨fun y w => y.1 = c0 ∧ y.2.1 = c1 ∧ y.2.2.1 = c2 ∧ y.2.2.2.1 = c3 ∧ I y.2.2.2.2 w, fun y w => μ y.2.2.2.2 w, ⟨rfl, rfl, rfl, rfl, h0⟩, ?_⟩; rintro ⟨d0, d1, d2, d3, t0⟩ w ⟨e0, e1, e2, e3, hI⟩; dsimp only at e0 e1 e2 e3 hI; subst e0; subst e1; subst e2; subst e3; exact h1 _ _ hI) (fun _ _ => by kernel_rfl)))) mkLeaf)) mkLeaf) mkLeaf) mkLeaf) (kcast (by kernel_rfl) h)

/-! trystkeep_TwinPerms -/
def trystkeep_TwinPerms.b1 (R : Value → World → Prop) (N1 : Sl → Sl → Int → World → Prop) (l0 : Sl) (out3 : Sl) (i4 : Int) (w : World) : Prop :=
  cond (decide ((i4 : Int) < ((l0.len : Nat) : Int)))
  (0 ≤ (i4 : Int) ∧ i4 < ((l0.len : Nat) : Int) ∧ ∃ q_1 : Addr, l0.a = some q_1 ∧
  ∃ (a_2 : Option Addr) (l_3 c_4 : Nat), w.cell? (q_1.add (i4 : Int).toNat) = some (.slice a_2 l_3 c_4) ∧
  CallsV Tryd.prog n_trystkeep_TwinInts #[.slice a_2 l_3 c_4] w (fun v_5 w1 =>
  ∃ (a_6 : Option Addr) (l_7 c_8 : Nat), v_5 = .slice a_6 l_7 c_8 ∧
  let w2 := w1.alloc (.cells #[.slice a_6 l_7 c_8] 29);
  ∃ (a_9 : Option Addr) (l_10 c_11 : Nat), ∃ w3 : World, (builtin .append #[128, 128] 128 #[] #[.slice out3.a out3.len out3.cap, .slice (some (newA w1)) 1 1]).run Tryd.prog w2 = .ok (.value (.slice a_9 l_10 c_11)) w3 ∧
  (let i4_11 : Int := (IntKind.i64.wrap (i4 + 1));
  N1 l0 ⟨a_9, l_10, c_11⟩ i4_11 w3)))
  (R (.slice out3.a out3.len out3.cap) w)

def trystkeep_TwinPerms.l1 (R : Value → World → Prop) (l0 : Sl) (out3 : Sl) (i4 : Int) (w : World) : Prop :=
  ∃ (I : (Sl × Int) → World → Prop) (μ : (Sl × Int) → World → Nat), I (out3, i4) w ∧ ∀ s w, I s w → trystkeep_TwinPerms.b1 R (fun l0' out3' i4' w' => (l0' = l0 ∧ I (out3', i4') w') ∧ μ (out3', i4') w' < μ s w) l0 s.1 s.2 w

def trystkeep_TwinPerms.main (R : Value → World → Prop) (l0 : Sl) (w : World) : Prop :=
  trystkeep_TwinPerms.l1 R l0 ⟨none, 0, 0⟩ 0 w

def trystkeep_TwinPerms.J0 (R : Value → World → Prop) (k : Nat) (fr : Fr) (w : World) : Prop :=
  cond (Nat.beq k 1) (dec [(0, .slice), (3, .slice), (4, (.int .i64))] fr fun x => trystkeep_TwinPerms.l1 R x.1 x.2.1 x.2.2 w) (False)

set_option maxRecDepth 100000 in
theorem trystkeep_TwinPerms.lift {R : Value → World → Prop} {l0 : Sl} {w : World} (h : trystkeep_TwinPerms.main R l0 w) : CallsV Tryd.prog n_trystkeep_TwinPerms #[.slice l0.a l0.len l0.cap] w R :=
  liftCalls (c := (.seq (.leaf (cL (bd Tryd.f91))) (.seq (.leaf (cL (cR (bd Tryd.f91)))) (.seq (.seq (.leaf (cL (cL (cR (cR (bd Tryd.f91)))))) (.block 0 (.loop 1 (.seq (.seq (.leaf (cL (cL (cB (cB (cR (cL (cR (cR (bd Tryd.f91)))))))))) (.cnd (.tmp 8) (.leaf (cT (cR (cL (cB (cB (cR (cL (cR (cR (bd Tryd.f91))))))))))) (.leaf (cE (cR (cL (cB (cB (cR (cL (cR (cR (bd Tryd.f91))))))))))))) (.seq (.block 1 (.leaf (cB (cL (cR (cB (cB (cR (cL (cR (cR (bd Tryd.f91)))))))))))) (.leaf (cR (cR (cB (cB (cR (cL (cR (cR (bd Tryd.f91))))))))))))))) (.seq (.leaf (cL (cR (cR (cR (bd Tryd.f91)))))) (.leaf (cR (cR (cR (cR (bd Tryd.f91))))))))))) (J := trystkeep_TwinPerms.J0 R) LfYtoclhecldmahiaaDoor.mixed Tryd.func91 (by kernel_rfl) (by kernel_rfl) (mkSeq (mkSeq (mkSeq (mkSeq mkLeaf mkLeaf) (mkSeq (mkBlock (mkLoop (loopDef LfYtoclhecldmahiaaDoor.mixed [(0, .slice), (3, .slice), (4, (.int .i64))] (by kernel_rfl) (fun M1 x w => trystkeep_TwinPerms.b1 R (fun y0 y1 y2 w => M1 (y0, y1, y2) w) x.1 x.2.1 x.2.2 w) (fun M1 => fun _ _ _ => False) (fun _ _ _ => by kernel_rfl) (fun M1 => (mkSeq (mkSeq mkLeaf (mkBlock mkLeaf)) (mkSeq (mkCnd mkLeaf mkLeaf) mkLeaf))) (fun x w => trystkeep_TwinPerms.l1 R x.1 x.2.1 x.2.2 w) (by rintro ⟨c0, s0⟩ w ⟨I, μ, h0, h1⟩; refine ⟨fun y w => y.1 = c0 ∧ I y.2 w, fun y w => μ y.2 w, ⟨rfl, h0⟩, ?_⟩; rintro ⟨d0, t0⟩ w ⟨e0, hI⟩; dsimp only at e0 hI; subst e0; exact h1 _ _ hI) (fun _ _ => by kernel_rfl)))) mkLeaf)) mkLeaf) mkLeaf) (kcast (by kernel_rfl) h)

/-! trystkeep_Mix -/
def trystkeep_Mix.c1 (R : Value → World → Prop) (a2 : Addr) (b3 : Addr) (w : World) : Prop :=
  ∃ (a_1 : Option Addr) (l_2 c_3 : Nat), w.cell? a2 = some (.slice a_1 l_2 c_3) ∧
  ∃ (a_4 : Option Addr) (l_5 c_6 : Nat), w.cell? b3 = some (.slice a_4 l_5 c_6) ∧
  CallsV Tryd.prog n_trystkeep_Regs #[.slice a_1 l_2 c_3, .slice a_4 l_5 c_6] w (fun v_7 w1 =>
  ∃ b_8 : Bool, v_7 = .bool b_8 ∧
  R (.bool b_8) w1)

def trystkeep_Mix.b2 (R : Value → World → Prop) (N2 : Addr → Addr → Int → World → Prop) (a2 : Addr) (b3 : Addr) (i5 : Int) (w : World) : Prop :=
  cond (decide ((i5 : Int) < 3))
  (∃ S_9 : World → Prop, S_9 w.drew ∧
  0 ≤ (i5 : Int) ∧ i5 < ((3 : Nat) : Int) ∧
  ∃ (a_10 : Option Addr) (l_11 c_12 : Nat), (∀ x, S_9 x → x.cell? ((a2.add 1).add (i5 : Int).toNat) = some (.slice a_10 l_11 c_12)) ∧
  0 ≤ (i5 : Int) ∧ i5 < ((3 : Nat) : Int) ∧
  ∃ (a_13 : Option Addr) (l_14 c_15 : Nat), (∀ x, S_9 x → x.cell? ((b3.add 1).add (i5 : Int).toNat) = some (.slice a_13 l_14 c_15)) ∧
  CallsV Tryd.prog n_trystkeep_Ints #[.slice a_10 l_11 c_12, .slice a_13 l_14 c_15] w.drew (fun v_16 w2 =>
  ∃ b_17 : Bool, v_16 = .bool b_17 ∧
  cond (!b_17)
  (R (.bool false) w2)
  ((let i5_17 : Int := (IntKind.i64.wrap (i5 + 1));
  N2 a2 b3 i5_17 w2))))
  (trystkeep_Mix.c1 R a2 b3 w)

def trystkeep_Mix.l2 (R : Value → World → Prop) (a2 : Addr) (b3 : Addr) (i5 : Int) (w : World) : Prop :=
  ∃ (I : Int → World → Prop) (μ : Int → World → Nat), I i5 w ∧ ∀ s w, I s w → trystkeep_Mix.b2 R (fun a2' b3' i5' w' => (a2' = a2 ∧ b3' = b3 ∧ I i5' w') ∧ μ i5' w' < μ s w) a2 b3 s w

def trystkeep_Mix.main (R : Value → World → Prop) (a0_0 : Sl) (a0_1 : Sl) (a0_2 : Sl) (a0_3 : Sl) (b1_0 : Sl) (b1_1 : Sl) (b1_2 : Sl) (b1_3 : Sl) (w : World) : Prop :=
  let w3 := w.alloc (.cells #[.slice a0_0.a a0_0.len a0_0.cap, .slice a0_1.a a0_1.len a0_1.cap, .slice a0_2.a a0_2.len a0_2.cap, .slice a0_3.a a0_3.len a0_3.cap] 127);
  let w4 := w3.alloc (.cells #[.slice b1_0.a b1_0.len b1_0.cap, .slice b1_1.a b1_1.len b1_1.cap, .slice b1_2.a b1_2.len b1_2.cap, .slice b1_3.a b1_3.len b1_3.cap] 127);
  trystkeep_Mix.l2 R (newA w) (newA w3) 0 w4

def trystkeep_Mix.J0 (R : Value → World → Prop) (k : Nat) (fr : Fr) (w : World) : Prop :=
  cond (Nat.beq k 2) (dec [(2, .addr), (3, .addr), (5, (.int .i64))] fr fun x => trystkeep_Mix.l2 R x.1 x.2.1 x.2.2 w) (cond (Nat.beq k 1) (dec [(2, .addr), (3, .addr)] fr fun x => trystkeep_Mix.c1 R x.1 x.2 w) (False))

set_option maxRecDepth 100000 in
theorem trystkeep_Mix.lift {R : Value → World → Prop} {a0_0 : Sl} {a0_1 : Sl} {a0_2 : Sl} {a0_3 : Sl} {b1_0 : Sl} {b1_1 : Sl} {b1_2 : Sl} {b1_3 : Sl} {w : World} (h : trystkeep_Mix.main R a0_0 a0_1 a0_2 a0_3 b1_0 b1_1 b1_2 b1_3 w) : CallsV Tryd.prog n_trystkeep_Mix #[.agg #[.slice a0_0.a a0_0.len a0_0.cap, .slice a0_1.a a0_1.len a0_1.cap, .slice a0_2.a a0_2.len a0_2.cap, .slice a0_3.a a0_3.len a0_3.cap], .agg #[.slice b1_0.a b1_0.len b1_0.cap, .slice b1_1.a b1_1.len b1_1.cap, .slice b1_2.a b1_2.len b1_2.cap, .slice b1_3.a b1_3.len b1_3.cap]] w R :=
  liftCalls (c := (.seq (.leaf (cL (bd Tryd.f93))) (.seq (.seq (.leaf (cL (cL (cR (bd Tryd.f93))))) (.block 0 (.loop 2 (.seq (.seq (.leaf (cL (cL (cB (cB (cR (cL (cR (bd Tryd.f93))))))))) (.cnd (.tmp 7) (.leaf (cT (cR (cL (cB (cB (cR (cL (cR (bd Tryd.f93)))))))))) (.leaf (cE (cR (cL (cB (cB (cR (cL (cR (bd Tryd.f93)))))))))))) (.seq (.block 1 (.seq (.leaf (cL (cB (cL (cR (cB (cB (cR (cL (cR (bd Tryd.f93))))))))))) (.cnd (.tmp 19) (.seq (.leaf (cL (cT (cR (cB (cL (cR (cB (cB (cR (cL (cR (bd Tryd.f93))))))))))))) (.leaf (cR (cT (cR (cB (cL (cR (cB (cB (cR (cL (cR (bd Tryd.f93)))))))))))))) (.leaf (cE (cR (cB (cL (cR (cB (cB (cR (cL (cR (bd Tryd.f93))))))))))))))) (.leaf (cR (cR (cB (cB (cR (cL (cR (bd Tryd.f93)))))))))))))) (.cut 1 (.seq (.leaf (cL (cR (cR (bd Tryd.f93))))) (.leaf (cR (cR (cR (bd Tryd.f93)))))))))) (J := trystkeep_Mix.J0 R) LfYtoclhecldmahiaaDoor.mixed Tryd.func93 (by kernel_rfl) (by kernel_rfl) (mkSeq (mkSeq (mkCut (cutDef [(2, .addr), (3, .addr)] (fun x w => trystkeep_Mix.c1 R x.1 x.2 w) (fun _ _ => by kernel_rfl) (fun _ _ => by kernel_rfl)) (mkSeq mkLeaf mkLeaf)) (mkSeq (mkBlock (mkLoop (loopDef LfYtoclhecldmahiaaDoor.mixed [(2, .addr), (3, .addr), (5, (.int .i64))] (by kernel_rfl) (fun M2 x w => trystkeep_Mix.b2 R (fun y0 y1 y2 w => M2 (y0, y1, y2) w) x.1 x.2.1 x.2.2 w) (fun M2 => fun _ _ _ => False) (fun _ _ _ => by kernel_rfl) (fun M2 => (mkSeq (mkSeq mkLeaf (mkBlock (mkSeq (mkCnd (mkSeq mkLeaf mkLeaf) mkLeaf) mkLeaf))) (mkSeq (mkCnd mkLeaf mkLeaf) mkLeaf))) (fun x w => trystkeep_Mix.l2 R x.1 x.2.1 x.2.2 w) (by rintro ⟨c0, c1, s0⟩ w ⟨I, μ, h0, h1⟩; refine ⟨fun y w => y.1 = c0 ∧ y.2.1 = c1 ∧ I y.2.2 w, fun y w => μ y.2.2 w, ⟨rfl, rfl, h0⟩, ?_⟩; rintro ⟨d0, d1, t0⟩ w ⟨e0, e1, hI⟩; dsimp only at e0 e1 hI; subst e0; subst e1; exact h1 _ _ hI) (fun _ _ => by kernel_rfl)))) mkLeaf)) mkLeaf) (kcast (by kernel_rfl) h)

/-! trystref22_Perm -/
def trystref22_Perm.c2 (R : Value → World → Prop) (N1 : Sl → Int → Sl → Int → World → Prop) (l0 : Sl) (n1 : Int) (seen5 : Sl) (i6 : Int) (w : World) : Prop :=
  0 ≤ (i6 : Int) ∧ i6 < ((l0.len : Nat) : Int) ∧ ∃ q_1 : Addr, l0.a = some q_1 ∧
  ∃ x_2 : Int, w.cell? (q_1.add (i6 : Int).toNat) = some (.int .i64 x_2) ∧
  0 ≤ (x_2 : Int) ∧ x_2 < ((seen5.len : Nat) : Int) ∧ ∃ q_3 : Addr, seen5.a = some q_3 ∧
  Wr w (q_3.add (x_2 : Int).toNat) ∧
  (let w1 := w.setCell (q_3.add (x_2 : Int).toNat) (.bool true);
  (let i6_3 : Int := (IntKind.i64.wrap (i6 + 1));
  N1 l0 n1 seen5 i6_3 w1))

def trystref22_Perm.b1 (R : Value → World → Prop) (N1 : Sl → Int → Sl → Int → World → Prop) (l0 : Sl) (n1 : Int) (seen5 : Sl) (i6 : Int) (w : World) : Prop :=
  cond (decide ((i6 : Int) < n1))
  (0 ≤ (i6 : Int) ∧ i6 < ((l0.len : Nat) : Int) ∧ ∃ q_5 : Addr, l0.a = some q_5 ∧
  ∃ x_6 : Int, w.cell? (q_5.add (i6 : Int).toNat) = some (.int .i64 x_6) ∧
  cond (decide ((x_6 : Int) < 0))
  (R (.bool false) w)
  (0 ≤ (i6 : Int) ∧ i6 < ((l0.len : Nat) : Int) ∧ ∃ q_7 : Addr, l0.a = some q_7 ∧
  ∃ x_8 : Int, w.cell? (q_7.add (i6 : Int).toNat) = some (.int .i64 x_8) ∧
  cond (decide ((x_8 : Int) ≥ n1))
  (R (.bool false) w)
  (0 ≤ (i6 : Int) ∧ i6 < ((l0.len : Nat) : Int) ∧ ∃ q_9 : Addr, l0.a = some q_9 ∧
  ∃ x_10 : Int, w.cell? (q_9.add (i6 : Int).toNat) = some (.int .i64 x_10) ∧
  0 ≤ (x_10 : Int) ∧ x_10 < ((seen5.len : Nat) : Int) ∧ ∃ q_11 : Addr, seen5.a = some q_11 ∧
  ∃ b_12 : Bool, w.cell? (q_11.add (x_10 : Int).toNat) = some (.bool b_12) ∧
  cond b_12
  (R (.bool false) w)
  (trystref22_Perm.c2 R N1 l0 n1 seen5 i6 w))))
  (R (.bool true) w)

def trystref22_Perm.l1 (R : Value → World → Prop) (l0 : Sl) (n1 : Int) (seen5 : Sl) (i6 : Int) (w : World) : Prop :=
  ∃ (I : Int → World → Prop) (μ : Int → World → Nat), I i6 w ∧ ∀ s w, I s w → trystref22_Perm.b1 R (fun l0' n1' seen5' i6' w' => (l0' = l0 ∧ n1' = n1 ∧ seen5' = seen5 ∧ I i6' w') ∧ μ i6' w' < μ s w) l0 n1 seen5 s w

def trystref22_Perm.main (R : Value → World → Prop) (l0 : Sl) (n1 : Int) (w : World) : Prop :=
  cond ((((l0.len : Nat) : Int) : Int) != n1)
  (R (.bool false) w)
  (0 ≤ (n1 : Int) ∧ (n1 : Int) ≤ n1 ∧ (1 : Int) * n1 ≤ 281474976710656 ∧ (n1 : Int) ≤ 9223372036854775807 ∧
  (let w2 := w.alloc (.cells ((Array.range ((n1 : Int).toNat * 1)).map ((#[.bool false] : Array Value)[· % (#[.bool false] : Array Value).size]!)) 4);
  trystref22_Perm.l1 R l0 n1 ⟨(some (newA w)), (n1 : Int).toNat, (n1 : Int).toNat⟩ 0 w2))

def trystref22_Perm.J1 (R : Value → World → Prop) (N1 : Sl → Int → Sl → Int → World → Prop) (k : Nat) (fr : Fr) (w : World) : Prop :=
  cond (Nat.beq k 2) (dec [(0, .slice), (1, (.int .i64)), (5, .slice), (6, (.int .i64))] fr fun x => trystref22_Perm.c2 R N1 x.1 x.2.1 x.2.2.1 x.2.2.2 w) (False)

def trystref22_Perm.J0 (R : Value → World → Prop) (k : Nat) (fr : Fr) (w : World) : Prop :=
  cond (Nat.beq k 1) (dec [(0, .slice), (1, (.int .i64)), (5, .slice), (6, (.int .i64))] fr fun x => trystref22_Perm.l1 R x.1 x.2.1 x.2.2.1 x.2.2.2 w) (False)

set_option maxRecDepth 100000 in
theorem trystref22_Perm.lift {R : Value → World → Prop} {l0 : Sl} {n1 : Int} {w : World} (h : trystref22_Perm.main R l0 n1 w) : CallsV Tryd.prog n_trystref22_Perm #[.slice l0.a l0.len l0.cap, .int .i64 n1] w R :=
  liftCalls (c := (.seq (.leaf (cL (bd Tryd.f94))) (.seq (.seq (.leaf (cL (cL (cR (bd Tryd.f94))))) (.cnd (.tmp 10) (.seq (.leaf (cL (cT (cR (cL (cR (bd Tryd.f94))))))) (.leaf (cR (cT (cR (cL (cR (bd Tryd.f94)))))))) (.leaf (cE (cR (cL (cR (bd Tryd.f94)))))))) (.seq (.leaf (cL (cR (cR (bd Tryd.f94))))) (.seq (.seq (.leaf (cL (cL (cR (cR (cR (bd Tryd.f94))))))) (.block 0 (.loop 1 (.seq (.seq (.leaf (cL (cL (cB (cB (cR (cL (cR (cR (cR (bd Tryd.f94))))))))))) (.cnd (.tmp 15) (.leaf (cT (cR (cL (cB (cB (cR (cL (cR (cR (cR (bd Tryd.f94)))))))))))) (.leaf (cE (cR (cL (cB (cB (cR (cL (cR (cR (cR (bd Tryd.f94)))))))))))))) (.seq (.block 1 (.seq (.seq (.leaf (cL (cL (cB (cL (cR (cB (cB (cR (cL (cR (cR (cR (bd Tryd.f94)))))))))))))) (.cnd (.tmp 39) (.seq (.leaf (cL (cT (cR (cL (cB (cL (cR (cB (cB (cR (cL (cR (cR (cR (bd Tryd.f94)))))))))))))))) (.leaf (cR (cT (cR (cL (cB (cL (cR (cB (cB (cR (cL (cR (cR (cR (bd Tryd.f94))))))))))))))))) (.leaf (cE (cR (cL (cB (cL (cR (cB (cB (cR (cL (cR (cR (cR (bd Tryd.f94))))))))))))))))) (.cut 2 (.leaf (cR (cB (cL (cR (cB (cB (cR (cL (cR (cR (cR (bd Tryd.f94)))))))))))))))) (.leaf (cR (cR (cB (cB (cR (cL (cR (cR (cR (bd Tryd.f94)))))))))))))))) (.seq (.leaf (cL (cR (cR (cR (cR (bd Tryd.f94))))))) (.leaf (cR (cR (cR (cR (cR (bd Tryd.f94))))))))))))) (J := trystref22_Perm.J0 R) LfYtoclhecldmahiaaDoor.mixed Tryd.func94 (by kernel_rfl) (by kernel_rfl) (mkSeq (mkSeq (mkSeq (mkSeq (mkSeq mkLeaf mkLeaf) (mkSeq (mkBlock (mkLoop (loopDef LfYtoclhecldmahiaaDoor.mixed [(0, .slice), (1, (.int .i64)), (5, .slice), (6, (.int .i64))] (by kernel_rfl) (fun M1 x w => trystref22_Perm.b1 R (fun y0 y1 y2 y3 w => M1 (y0, y1, y2, y3) w) x.1 x.2.1 x.2.2.1 x.2.2.2 w) (fun M1 => trystref22_Perm.J1 R (fun y0 y1 y2 y3 w => M1 (y0, y1, y2, y3) w)) (fun _ _ _ => by kernel_rfl) (fun M1 => (mkSeq (mkSeq mkLeaf (mkBlock (mkSeq (mkCut (cutDef [(0, .slice), (1, (.int .i64)), (5, .slice), (6, (.int .i64))] (fun x w => trystref22_Perm.c2 R (fun y0 y1 y2 y3 w => M1 (y0, y1, y2, y3) w) x.1 x.2.1 x.2.2.1 x.2.2.2 w) (fun _ _ => by kernel_rfl) (fun _ _ => by kernel_rfl)) mkLeaf) (mkSeq (mkCnd (mkSeq mkLeaf mkLeaf) mkLeaf) mkLeaf)))) (mkSeq (mkCnd mkLeaf mkLeaf) mkLeaf))) (fun x w => trystref22_Perm.l1 R x.1 x.2.1 x.2.2.1 x.2.2.2 w) (by rintro ⟨c0, c1, c2, s0⟩ w ⟨I, μ, h0, h1⟩; refine ⟨fun y w => y.1 = c0 ∧ y.2.1 = c1 ∧ y.2.2.1 = c2 ∧ I y.2.2.2 w, fun y w => μ y.2.2.2 w, ⟨rfl, rfl, rfl, h0⟩, ?_⟩; rintro ⟨d0, d1, d2, t0⟩ w ⟨e0, e1, e2, hI⟩; dsimp only at e0 e1 e2 hI; subst e0; subst e1; subst e2; exact h1 _ _ hI) (fun _ _ => by kernel_rfl)))) mkLeaf)) mkLeaf) (mkSeq (mkCnd (mkSeq mkLeaf mkLeaf) mkLeaf) mkLeaf)) mkLeaf) (kcast (by kernel_rfl) h)

end Go.Proofs.YtoclhecldmahiaaDoor
