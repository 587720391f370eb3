/-
  What the code of these functions comes to, and that it suffices for the call. Written by a program of ours, for this claim.
-/
import Derived.Test.YtoclhecldmahiaaDoorOcFns
set_option linter.unusedVariables false
set_option linter.unusedVariables false
namespace Go.Proofs.YtoclhecldmahiaaDoor
open Go.Lf
abbrev n_mix_Do : Nat := 51
abbrev n_trystlaw24_wakes : Nat := 53
abbrev n_trystkeep_TwinRegs : Nat := 55
abbrev n_trystref22_Do : Nat := 62
abbrev n_trystkeep_TwinMix : Nat := 90
abbrev n_mix_Round : Nat := 92
abbrev n_trystref22_Round : Nat := 95
abbrev n_mix_has : Nat := 111
abbrev n_slices_Clone_Reg : Nat := 112
abbrev n_mix_requestOf : Nat := 113
abbrev n_mix_last_answer : Nat := 114
abbrev n_trystref22_payload : Nat := 115
abbrev n_trystref22_value : Nat := 116
abbrev n_mix_wrong : Nat := 132
abbrev n_mix_servers_round : Nat := 133
abbrev n_trystref22_server : Nat := 134
abbrev n_slices_ContainsFunc_Reg : Nat := 138
abbrev n_mix_has_1 : Nat := 139
abbrev n_mix_last_answer_1 : Nat := 140
abbrev n_slices_IndexFunc_Reg : Nat := 141
abbrev n_mix_last_answer_2 : Nat := 142
abbrev n_mix_last_met : Nat := 143
abbrev n_mix_permutation : Nat := 151
abbrev n_slices_Contains_int : Nat := 152
abbrev n_trystref22_has : Nat := 153
abbrev n_slices_Index_int : Nat := 155
/-! mix_Do -/
def mix_Do.c1 (R : Value → World → Prop) (out7 : Sl) (s10 : Option Addr) (w : World) : Prop :=
  ∃ q_1 : Addr, s10 = some q_1 ∧
  ∃ (a_2 : Option Addr) (l_3 c_4 : Nat), w.cell? q_1 = some (.slice a_2 l_3 c_4) ∧
  R (.tuple #[.slice a_2 l_3 c_4, .slice out7.a out7.len out7.cap, .int .i64 0]) w

def mix_Do.b2 (R : Value → World → Prop) (N2 : Option Addr → Int → Sl → Int → World → Prop) (s10 : Option Addr) (t62 : Int) (out7 : Sl) (t63 : Int) (w : World) : Prop :=
  cond (decide ((t63 : Int) < t62))
  (CallsV Tryd.prog n_mix_last_answer #[.pointer s10, .int .i64 t63] w (fun v_5 w1 =>
  ∃ x_6 : Int, v_5 = .int .i64 x_6 ∧
  let w2 := w1.alloc (.cells #[.int .i64 x_6] 3);
  ∃ (a_7 : Option Addr) (l_8 c_9 : Nat), ∃ w3 : World, (builtin .append #[29, 29] 29 #[] #[.slice out7.a out7.len out7.cap, .slice (some (newA w1)) 1 1]).run Tryd.prog w2 = .ok (.value (.slice a_7 l_8 c_9)) w3 ∧
  N2 s10 t62 ⟨a_7, l_8, c_9⟩ (IntKind.i64.wrap (t63 + 1)) w3))
  (mix_Do.c1 R out7 s10 w)

def mix_Do.l2 (R : Value → World → Prop) (s10 : Option Addr) (t62 : Int) (out7 : Sl) (t63 : Int) (w : World) : Prop :=
  ∃ (I : (Sl × Int) → World → Prop) (μ : (Sl × Int) → World → Nat), I (out7, t63) w ∧ ∀ s w, I s w → mix_Do.b2 R (fun s10' t62' out7' t63' w' => (s10' = s10 ∧ t62' = t62 ∧ I (out7', t63') w') ∧ μ (out7', t63') w' < μ s w) s10 t62 s.1 s.2 w

def mix_Do.c3 (R : Value → World → Prop) (l2 : Sl) (out7 : Sl) (s10 : Option Addr) (w : World) : Prop :=
  mix_Do.l2 R s10 ((l2.len : Nat) : Int) out7 0 w

def mix_Do.b4 (R : Value → World → Prop) (N4 : Option Addr → Sl → Sl → Option Addr → Sl → Int → Int → World → Prop) (a0 : Option Addr) (l2 : Sl) (out7 : Sl) (s10 : Option Addr) (t42 : Sl) (t43 : Int) (t44 : Int) (w : World) : Prop :=
  cond (decide ((t44 : Int) < t43))
  (0 ≤ (t44 : Int) ∧ t44 < ((t42.len : Nat) : Int) ∧ ∃ q_10 : Addr, t42.a = some q_10 ∧
  ∃ x_11 : Int, w.cell? (q_10.add (t44 : Int).toNat) = some (.int .i64 x_11) ∧
  ∃ S_12 : World → Prop, S_12 w.drew ∧
  ∃ q_13 : Addr, s10 = some q_13 ∧
  ∃ (a_14 : Option Addr) (l_15 c_16 : Nat), (∀ x, S_12 x → x.cell? (q_13.add 1) = some (.slice a_14 l_15 c_16)) ∧
  CallsV Tryd.prog n_mix_requestOf #[.pointer a0, .int .i64 x_11] w.drew (fun v_17 w4 =>
  ∃ x_18 : Int, ∃ (a_19 : Option Addr) (l_20 c_21 : Nat), v_17 = .agg #[.int .i64 x_18, .slice a_19 l_20 c_21] ∧
  S_12 w4 ∧
  let w5 := w4.alloc (.cells #[.int .i64 x_18, .slice a_19 l_20 c_21] 170);
  S_12 w5 ∧
  ∃ (a_22 : Option Addr) (l_23 c_24 : Nat), ∃ w6 : World, (builtin .append #[166, 166] 166 #[] #[.slice a_14 l_15 c_16, .slice (some (newA w4)) 1 1]).run Tryd.prog w5 = .ok (.value (.slice a_22 l_23 c_24)) w6 ∧
  ∃ q_25 : Addr, s10 = some q_25 ∧
  Wr w6 (q_25.add 1) ∧
  (let w7 := w6.setCell (q_25.add 1) (.slice a_22 l_23 c_24);
  N4 a0 l2 out7 s10 t42 t43 (IntKind.i64.wrap (t44 + 1)) w7)))
  (mix_Do.c3 R l2 out7 s10 w)

def mix_Do.l4 (R : Value → World → Prop) (a0 : Option Addr) (l2 : Sl) (out7 : Sl) (s10 : Option Addr) (t42 : Sl) (t43 : Int) (t44 : Int) (w : World) : Prop :=
  ∃ (I : Int → World → Prop) (μ : Int → World → Nat), I t44 w ∧ ∀ s w, I s w → mix_Do.b4 R (fun a0' l2' out7' s10' t42' t43' t44' w' => (a0' = a0 ∧ l2' = l2 ∧ out7' = out7 ∧ s10' = s10 ∧ t42' = t42 ∧ t43' = t43 ∧ I t44' w') ∧ μ t44' w' < μ s w) a0 l2 out7 s10 t42 t43 s w

def mix_Do.c5 (R : Value → World → Prop) (a0 : Option Addr) (regs1 : Sl) (l2 : Sl) (out7 : Sl) (w : World) : Prop :=
  CallsV Tryd.prog n_term_Arena_Make #[.pointer a0, .int .i64 2, .int .i64 0, .slice none 0 0] w (fun v_26 w8 =>
  ∃ x_27 : Int, ∃ x_28 : Int, v_26 = .tuple #[.int .i64 x_27, .int .i64 x_28] ∧
  cond ((x_28 : Int) != 0)
  (R (.tuple #[.slice none 0 0, .slice none 0 0, .int .i64 x_28]) w8)
  (CallsV Tryd.prog n_slices_Clone_Reg #[.slice regs1.a regs1.len regs1.cap] w8 (fun v_29 w9 =>
  ∃ (a_30 : Option Addr) (l_31 c_32 : Nat), v_29 = .slice a_30 l_31 c_32 ∧
  let w10 := w9.alloc (.cells #[.slice a_30 l_31 c_32, .slice none 0 0, .int .i64 x_27] 168);
  mix_Do.l4 R a0 l2 out7 (some (newA w9)) l2 ((l2.len : Nat) : Int) 0 w10)))

def mix_Do.c6 (R : Value → World → Prop) (a0 : Option Addr) (regs1 : Sl) (l2 : Sl) (out7 : Sl) (w : World) : Prop :=
  (let t25_32 : Bool := (decide ((((l2.len : Nat) : Int) : Int) > 100));
  cond t25_32
  (R (.tuple #[.slice none 0 0, .slice none 0 0, .int .i64 2]) w)
  (mix_Do.c5 R a0 regs1 l2 out7 w))

def mix_Do.main (R : Value → World → Prop) (a0 : Option Addr) (regs1 : Sl) (l2 : Sl) (w : World) : Prop :=
  CallsV Tryd.prog n_mix_has #[.pointer a0, .slice regs1.a regs1.len regs1.cap] w (fun v_34 w11 =>
  ∃ b_35 : Bool, v_34 = .bool b_35 ∧
  cond (!b_35)
  (R (.tuple #[.slice none 0 0, .slice none 0 0, .int .i64 8]) w11)
  (CallsV Tryd.prog n_term_Arena_Has #[.pointer a0, .slice l2.a l2.len l2.cap] w11 (fun v_36 w12 =>
  ∃ b_37 : Bool, v_36 = .bool b_37 ∧
  cond (!b_37)
  (R (.tuple #[.slice none 0 0, .slice none 0 0, .int .i64 8]) w12)
  (mix_Do.c6 R a0 regs1 l2 ⟨none, 0, 0⟩ w12))))

def mix_Do.J0 (R : Value → World → Prop) (k : Nat) (fr : Fr) (w : World) : Prop :=
  cond (Nat.beq k 6) (dec [(0, .ptr), (1, .slice), (2, .slice), (7, .slice)] fr fun x => mix_Do.c6 R x.1 x.2.1 x.2.2.1 x.2.2.2 w) (cond (Nat.beq k 5) (dec [(0, .ptr), (1, .slice), (2, .slice), (7, .slice)] fr fun x => mix_Do.c5 R x.1 x.2.1 x.2.2.1 x.2.2.2 w) (cond (Nat.beq k 4) (dec [(0, .ptr), (2, .slice), (7, .slice), (10, .ptr), (42, .slice), (43, (.int .i64)), (44, (.int .i64))] fr fun x => mix_Do.l4 R x.1 x.2.1 x.2.2.1 x.2.2.2.1 x.2.2.2.2.1 x.2.2.2.2.2.1 x.2.2.2.2.2.2 w) (cond (Nat.beq k 3) (dec [(2, .slice), (7, .slice), (10, .ptr)] fr fun x => mix_Do.c3 R x.1 x.2.1 x.2.2 w) (cond (Nat.beq k 2) (dec [(10, .ptr), (62, (.int .i64)), (7, .slice), (63, (.int .i64))] fr fun x => mix_Do.l2 R x.1 x.2.1 x.2.2.1 x.2.2.2 w) (cond (Nat.beq k 1) (dec [(7, .slice), (10, .ptr)] fr fun x => mix_Do.c1 R x.1 x.2 w) (False))))))

set_option maxRecDepth 100000 in
theorem mix_Do.lift {R : Value → World → Prop} {a0 : Option Addr} {regs1 : Sl} {l2 : Sl} {w : World} (h : mix_Do.main R a0 regs1 l2 w) : CallsV Tryd.prog n_mix_Do #[.pointer a0, .slice regs1.a regs1.len regs1.cap, .slice l2.a l2.len l2.cap] w R :=
  liftCalls (c := (.seq (.leaf (cL (bd Tryd.f51))) (.seq (.block 0 (.seq (.leaf (cL (cB (cL (cR (bd Tryd.f51)))))) (.cnd (.tmp 14) (.seq (.leaf (cL (cT (cR (cB (cL (cR (bd Tryd.f51)))))))) (.leaf (cR (cT (cR (cB (cL (cR (bd Tryd.f51))))))))) (.cut 6 (.seq (.leaf (cL (cE (cR (cB (cL (cR (bd Tryd.f51)))))))) (.cnd (.tmp 25) (.seq (.leaf (cL (cT (cR (cE (cR (cB (cL (cR (bd Tryd.f51)))))))))) (.leaf (cR (cT (cR (cE (cR (cB (cL (cR (bd Tryd.f51))))))))))) (.leaf (cE (cR (cE (cR (cB (cL (cR (bd Tryd.f51))))))))))))))) (.cut 5 (.seq (.leaf (cL (cR (cR (bd Tryd.f51))))) (.seq (.seq (.leaf (cL (cL (cR (cR (cR (bd Tryd.f51))))))) (.cnd (.tmp 35) (.seq (.leaf (cL (cT (cR (cL (cR (cR (cR (bd Tryd.f51))))))))) (.leaf (cR (cT (cR (cL (cR (cR (cR (bd Tryd.f51)))))))))) (.leaf (cE (cR (cL (cR (cR (cR (bd Tryd.f51)))))))))) (.seq (.leaf (cL (cR (cR (cR (cR (bd Tryd.f51))))))) (.seq (.seq (.leaf (cL (cL (cR (cR (cR (cR (cR (bd Tryd.f51))))))))) (.block 1 (.loop 4 (.seq (.leaf (cL (cB (cB (cR (cL (cR (cR (cR (cR (cR (bd Tryd.f51)))))))))))) (.seq (.cnd (.tmp 45) (.leaf (cT (cL (cR (cB (cB (cR (cL (cR (cR (cR (cR (cR (bd Tryd.f51)))))))))))))) (.leaf (cE (cL (cR (cB (cB (cR (cL (cR (cR (cR (cR (cR (bd Tryd.f51))))))))))))))) (.seq (.block 2 (.seq (.leaf (cL (cB (cL (cR (cR (cB (cB (cR (cL (cR (cR (cR (cR (cR (bd Tryd.f51)))))))))))))))) (.leaf (cR (cB (cL (cR (cR (cB (cB (cR (cL (cR (cR (cR (cR (cR (bd Tryd.f51)))))))))))))))))) (.leaf (cR (cR (cR (cB (cB (cR (cL (cR (cR (cR (cR (cR (bd Tryd.f51)))))))))))))))))))) (.cut 3 (.seq (.seq (.leaf (cL (cL (cR (cR (cR (cR (cR (cR (bd Tryd.f51)))))))))) (.block 3 (.loop 2 (.seq (.leaf (cL (cB (cB (cR (cL (cR (cR (cR (cR (cR (cR (bd Tryd.f51))))))))))))) (.seq (.cnd (.tmp 64) (.leaf (cT (cL (cR (cB (cB (cR (cL (cR (cR (cR (cR (cR (cR (bd Tryd.f51))))))))))))))) (.leaf (cE (cL (cR (cB (cB (cR (cL (cR (cR (cR (cR (cR (cR (bd Tryd.f51)))))))))))))))) (.seq (.block 4 (.seq (.leaf (cL (cB (cL (cR (cR (cB (cB (cR (cL (cR (cR (cR (cR (cR (cR (bd Tryd.f51))))))))))))))))) (.leaf (cR (cB (cL (cR (cR (cB (cB (cR (cL (cR (cR (cR (cR (cR (cR (bd Tryd.f51))))))))))))))))))) (.leaf (cR (cR (cR (cB (cB (cR (cL (cR (cR (cR (cR (cR (cR (bd Tryd.f51))))))))))))))))))))) (.cut 1 (.seq (.leaf (cL (cR (cR (cR (cR (cR (cR (cR (bd Tryd.f51)))))))))) (.leaf (cR (cR (cR (cR (cR (cR (cR (cR (bd Tryd.f51)))))))))))))))))))))) (J := mix_Do.J0 R) LfYtoclhecldmahiaaDoor.mixed Tryd.func51 (by kernel_rfl) (by kernel_rfl) (mkSeq (mkSeq (mkCut (cutDef [(0, .ptr), (1, .slice), (2, .slice), (7, .slice)] (fun x w => mix_Do.c5 R x.1 x.2.1 x.2.2.1 x.2.2.2 w) (fun _ _ => by kernel_rfl) (fun _ _ => by kernel_rfl)) (mkSeq (mkSeq (mkSeq (mkSeq (mkCut (cutDef [(2, .slice), (7, .slice), (10, .ptr)] (fun x w => mix_Do.c3 R x.1 x.2.1 x.2.2 w) (fun _ _ => by kernel_rfl) (fun _ _ => by kernel_rfl)) (mkSeq (mkCut (cutDef [(7, .slice), (10, .ptr)] (fun x w => mix_Do.c1 R x.1 x.2 w) (fun _ _ => by kernel_rfl) (fun _ _ => by kernel_rfl)) (mkSeq mkLeaf mkLeaf)) (mkSeq (mkBlock (mkLoop (loopDef LfYtoclhecldmahiaaDoor.mixed [(10, .ptr), (62, (.int .i64)), (7, .slice), (63, (.int .i64))] (by kernel_rfl) (fun M2 x w => mix_Do.b2 R (fun y0 y1 y2 y3 w => M2 (y0, y1, y2, y3) w) x.1 x.2.1 x.2.2.1 x.2.2.2 w) (fun M2 => fun _ _ _ => False) (fun _ _ _ => by kernel_rfl) (fun M2 => (mkSeq (mkSeq (mkSeq mkLeaf (mkBlock (mkSeq mkLeaf mkLeaf))) (mkCnd mkLeaf mkLeaf)) mkLeaf)) (fun x w => mix_Do.l2 R x.1 x.2.1 x.2.2.1 x.2.2.2 w) (by rintro ⟨c0, c1, s0⟩ w ⟨I, μ, h0, h1⟩; refine ⟨fun y w => y.1 = c0 ∧ y.2.1 = c1 ∧ I y.2.2 w, fun y w => μ y.2.2 w, ⟨rfl, rfl, h0⟩, ?_⟩; rintro ⟨d0, d1, t0⟩ w ⟨e0, e1, hI⟩; dsimp only at e0 e1 hI; subst e0; subst e1; exact h1 _ _ hI) (fun _ _ => by kernel_rfl)))) mkLeaf))) (mkSeq (mkBlock (mkLoop (loopDef LfYtoclhecldmahiaaDoor.mixed [(0, .ptr), (2, .slice), (7, .slice), (10, .ptr), (42, .slice), (43, (.int .i64)), (44, (.int .i64))] (by kernel_rfl) (fun M4 x w => mix_Do.b4 R (fun y0 y1 y2 y3 y4 y5 y6 w => M4 (y0, y1, y2, y3, y4, y5, y6) w) x.1 x.2.1 x.2.2.1 x.2.2.2.1 x.2.2.2.2.1 x.2.2.2.2.2.1 x.2.2.2.2.2.2 w) (fun M4 => fun _ _ _ => False) (fun _ _ _ => by kernel_rfl) (fun M4 => (mkSeq (mkSeq (mkSeq mkLeaf (mkBlock (mkSeq mkLeaf mkLeaf))) (mkCnd mkLeaf mkLeaf)) mkLeaf)) (fun x w => mix_Do.l4 R x.1 x.2.1 x.2.2.1 x.2.2.2.1 x.2.2.2.2.1 x.2.2.2.2.2.1 x.2.2.2.2.2.2 w) (by rintro ⟨c0, c1, c2, c3, c4, c5, s0⟩ w ⟨I, μ, h0, h1⟩; refine ⟨fun y w => y.1 = c0 ∧ y.2.1 = c1 ∧ y.2.2.1 = c2 ∧ y.2.2.2.1 = c3 ∧ y.2.2.2.2.1 = c4 ∧ y.2.2.2.2.2.1 = c5 ∧ I y.2.2.2.2.2.2 w, fun y w => μ y.2.2.2.2.2.2 w, ⟨rfl, rfl, rfl, rfl, rfl, rfl, h0⟩, ?_⟩; rintro ⟨d0, d1, d2, d3, d4, d5, t0⟩ w ⟨e0, e1, e2, e3, e4, e5, hI⟩; dsimp only at e0 e1 e2 e3 e4 e5 hI; subst e0; subst e1; subst e2; subst e3; subst e4; subst e5; exact h1 _ _ hI) (fun _ _ => by kernel_rfl)))) mkLeaf)) mkLeaf) (mkSeq (mkCnd (mkSeq mkLeaf mkLeaf) mkLeaf) mkLeaf)) mkLeaf)) (mkBlock (mkSeq (mkCnd (mkSeq mkLeaf mkLeaf) (mkCut (cutDef [(0, .ptr), (1, .slice), (2, .slice), (7, .slice)] (fun x w => mix_Do.c6 R x.1 x.2.1 x.2.2.1 x.2.2.2 w) (fun _ _ => by kernel_rfl) (fun _ _ => by kernel_rfl)) (mkSeq (mkCnd (mkSeq mkLeaf mkLeaf) mkLeaf) mkLeaf))) mkLeaf))) mkLeaf) (kcast (by kernel_rfl) h)

/-! trystlaw24_wakes -/
def trystlaw24_wakes.main (R : Value → World → Prop)  (w : World) : Prop :=
  CallsV Tryd.prog n_term_New #[] w (fun v_1 w1 =>
  ∃ p_2 : Option Addr, v_1 = .pointer p_2 ∧
  cond ((p_2).isNone)
  (R (.bool false) w1)
  (CallsV Tryd.prog n_term_Arena_Make #[.pointer p_2, .int .i64 2, .int .i64 73, .slice none 0 0] w1 (fun v_3 w2 =>
  ∃ x_4 : Int, ∃ x_5 : Int, v_3 = .tuple #[.int .i64 x_4, .int .i64 x_5] ∧
  CallsV Tryd.prog n_term_Arena_Make #[.pointer p_2, .int .i64 1, .int .i64 1, .slice none 0 0] w2 (fun v_6 w3 =>
  ∃ x_7 : Int, ∃ x_8 : Int, v_6 = .tuple #[.int .i64 x_7, .int .i64 x_8] ∧
  CallsV Tryd.prog n_term_Arena_Make #[.pointer p_2, .int .i64 1, .int .i64 2, .slice none 0 0] w3 (fun v_9 w4 =>
  ∃ x_10 : Int, ∃ x_11 : Int, v_9 = .tuple #[.int .i64 x_10, .int .i64 x_11] ∧
  CallsV Tryd.prog n_term_Arena_Make #[.pointer p_2, .int .i64 1, .int .i64 3, .slice none 0 0] w4 (fun v_12 w5 =>
  ∃ x_13 : Int, ∃ x_14 : Int, v_12 = .tuple #[.int .i64 x_13, .int .i64 x_14] ∧
  let w6 := w5.alloc (.cells #[.int .i64 x_4, .int .i64 x_7, .int .i64 x_10] 3);
  CallsV Tryd.prog n_term_Arena_Make #[.pointer p_2, .int .i64 9, .int .i64 0, .slice (some (newA w5)) 3 3] w6 (fun v_15 w7 =>
  ∃ x_16 : Int, ∃ x_17 : Int, v_15 = .tuple #[.int .i64 x_16, .int .i64 x_17] ∧
  let w8 := w7.alloc (.cells #[.int .i64 x_4, .int .i64 x_7, .int .i64 x_13] 3);
  CallsV Tryd.prog n_term_Arena_Make #[.pointer p_2, .int .i64 9, .int .i64 0, .slice (some (newA w7)) 3 3] w8 (fun v_18 w9 =>
  ∃ x_19 : Int, ∃ x_20 : Int, v_18 = .tuple #[.int .i64 x_19, .int .i64 x_20] ∧
  let w10 := w9.alloc (.cells #[.int .i64 x_16, .int .i64 x_19] 3);
  CallsV Tryd.prog n_mix_Do #[.pointer p_2, .slice none 0 0, .slice (some (newA w9)) 2 2] w10 (fun v_21 w11 =>
  ∃ (a_22 : Option Addr) (l_23 c_24 : Nat), ∃ (a_25 : Option Addr) (l_26 c_27 : Nat), ∃ x_28 : Int, v_21 = .tuple #[.slice a_22 l_23 c_24, .slice a_25 l_26 c_27, .int .i64 x_28] ∧
  cond ((x_28 : Int) == 0)
  (cond ((((l_26 : Nat) : Int) : Int) == 2)
  (0 ≤ (0 : Int) ∧ 0 < ((l_26 : Nat) : Int) ∧ ∃ q_29 : Addr, a_25 = some q_29 ∧
  ∃ x_30 : Int, w11.cell? (q_29.add (0 : Int).toNat) = some (.int .i64 x_30) ∧
  cond ((x_30 : Int) == x_13)
  (0 ≤ (1 : Int) ∧ 1 < ((l_26 : Nat) : Int) ∧ ∃ q_31 : Addr, a_25 = some q_31 ∧
  ∃ x_32 : Int, w11.cell? (q_31.add (1 : Int).toNat) = some (.int .i64 x_32) ∧
  R (.bool ((x_32 : Int) == x_10)) w11)
  (R (.bool false) w11))
  (R (.bool false) w11))
  (R (.bool false) w11))))))))))

def trystlaw24_wakes.J0 (_ : Value → World → Prop) (_ : Nat) (_ : Fr) (_ : World) : Prop := False

set_option maxRecDepth 100000 in
theorem trystlaw24_wakes.lift {R : Value → World → Prop}  {w : World} (h : trystlaw24_wakes.main R  w) : CallsV Tryd.prog n_trystlaw24_wakes #[] w R :=
  liftCalls (c := (.seq (.leaf (cL (bd Tryd.f53))) (.seq (.leaf (cL (cR (bd Tryd.f53)))) (.seq (.seq (.leaf (cL (cL (cR (cR (bd Tryd.f53)))))) (.cnd (.tmp 19) (.seq (.leaf (cL (cT (cR (cL (cR (cR (bd Tryd.f53)))))))) (.leaf (cR (cT (cR (cL (cR (cR (bd Tryd.f53))))))))) (.leaf (cE (cR (cL (cR (cR (bd Tryd.f53))))))))) (.seq (.leaf (cL (cR (cR (cR (bd Tryd.f53)))))) (.seq (.leaf (cL (cR (cR (cR (cR (bd Tryd.f53))))))) (.seq (.leaf (cL (cR (cR (cR (cR (cR (bd Tryd.f53)))))))) (.seq (.leaf (cL (cR (cR (cR (cR (cR (cR (bd Tryd.f53))))))))) (.seq (.leaf (cL (cR (cR (cR (cR (cR (cR (cR (bd Tryd.f53)))))))))) (.seq (.leaf (cL (cR (cR (cR (cR (cR (cR (cR (cR (bd Tryd.f53))))))))))) (.seq (.leaf (cL (cR (cR (cR (cR (cR (cR (cR (cR (cR (bd Tryd.f53)))))))))))) (.seq (.leaf (cL (cR (cR (cR (cR (cR (cR (cR (cR (cR (cR (bd Tryd.f53))))))))))))) (.leaf (cR (cR (cR (cR (cR (cR (cR (cR (cR (cR (cR (bd Tryd.f53))))))))))))))))))))))))) (J := trystlaw24_wakes.J0 R) LfYtoclhecldmahiaaDoor.mixed Tryd.func53 (by kernel_rfl) (by kernel_rfl) (mkSeq (mkSeq (mkSeq (mkSeq (mkSeq (mkSeq (mkSeq (mkSeq (mkSeq (mkSeq (mkSeq mkLeaf mkLeaf) mkLeaf) mkLeaf) mkLeaf) mkLeaf) mkLeaf) mkLeaf) mkLeaf) (mkSeq (mkCnd (mkSeq mkLeaf mkLeaf) mkLeaf) mkLeaf)) mkLeaf) mkLeaf) (kcast (by kernel_rfl) h)

/-! trystkeep_TwinRegs -/
def trystkeep_TwinRegs.main (R : Value → World → Prop) (l0 : Sl) (w : World) : Prop :=
  ∃ (a_1 : Option Addr) (l_2 c_3 : Nat), ∃ w1 : World, (builtin .append #[57, 57] 57 #[] #[.slice none 0 0, .slice l0.a l0.len l0.cap]).run Tryd.prog w = .ok (.value (.slice a_1 l_2 c_3)) w1 ∧
  R (.slice a_1 l_2 c_3) w1

def trystkeep_TwinRegs.J0 (_ : Value → World → Prop) (_ : Nat) (_ : Fr) (_ : World) : Prop := False

set_option maxRecDepth 100000 in
theorem trystkeep_TwinRegs.lift {R : Value → World → Prop} {l0 : Sl} {w : World} (h : trystkeep_TwinRegs.main R l0 w) : CallsV Tryd.prog n_trystkeep_TwinRegs #[.slice l0.a l0.len l0.cap] w R :=
  liftCalls (c := (.seq (.leaf (cL (bd Tryd.f55))) (.seq (.leaf (cL (cR (bd Tryd.f55)))) (.seq (.leaf (cL (cR (cR (bd Tryd.f55))))) (.leaf (cR (cR (cR (bd Tryd.f55))))))))) (J := trystkeep_TwinRegs.J0 R) LfYtoclhecldmahiaaDoor.mixed Tryd.func55 (by kernel_rfl) (by kernel_rfl) (mkSeq (mkSeq (mkSeq mkLeaf mkLeaf) mkLeaf) mkLeaf) (kcast (by kernel_rfl) h)

/-! trystref22_Do -/
def trystref22_Do.c1 (R : Value → World → Prop) (next8 : Sl) (out9 : Sl) (w : World) : Prop :=
  R (.tuple #[.slice next8.a next8.len next8.cap, .slice out9.a out9.len out9.cap]) w

def trystref22_Do.c3 (R : Value → World → Prop) (N2 : Option Addr → Sl → Sl → Sl → Int → World → Prop) (a0 : Option Addr) (l2 : Sl) (next8 : Sl) (out9 : Sl) (i10 : Int) (answer13 : Int) (w : World) : Prop :=
  let w1 := w.alloc (.cells #[.int .i64 answer13] 3);
  ∃ (a_1 : Option Addr) (l_2 c_3 : Nat), ∃ w2 : World, (builtin .append #[29, 29] 29 #[] #[.slice out9.a out9.len out9.cap, .slice (some (newA w)) 1 1]).run Tryd.prog w1 = .ok (.value (.slice a_1 l_2 c_3)) w2 ∧
  (let i10_3 : Int := (IntKind.i64.wrap (i10 + 1));
  N2 a0 l2 next8 ⟨a_1, l_2, c_3⟩ i10_3 w2)

def trystref22_Do.c4 (R : Value → World → Prop) (N2 : Option Addr → Sl → Sl → Sl → Int → World → Prop) (a0 : Option Addr) (l2 : Sl) (next8 : Sl) (out9 : Sl) (i10 : Int) (answer13 : Int) (v14 : Int) (ok15 : Bool) (w : World) : Prop :=
  cond ok15
  (trystref22_Do.c3 R N2 a0 l2 next8 out9 i10 v14 w)
  (trystref22_Do.c3 R N2 a0 l2 next8 out9 i10 answer13 w)

def trystref22_Do.c5 (R : Value → World → Prop) (N2 : Option Addr → Sl → Sl → Sl → Int → World → Prop) (a0 : Option Addr) (l2 : Sl) (next8 : Sl) (out9 : Sl) (i10 : Int) (x11 : Sl) (answer13 : Int) (w : World) : Prop :=
  ∃ S_5 : World → Prop, S_5 w.drew ∧
  0 ≤ (0 : Int) ∧ 0 < ((x11.len : Nat) : Int) ∧ ∃ q_6 : Addr, x11.a = some q_6 ∧
  ∃ x_7 : Int, (∀ x, S_5 x → x.cell? (q_6.add (0 : Int).toNat) = some (.int .i64 x_7)) ∧
  0 ≤ (1 : Int) ∧ 1 < ((x11.len : Nat) : Int) ∧ ∃ q_8 : Addr, x11.a = some q_8 ∧
  ∃ x_9 : Int, (∀ x, S_5 x → x.cell? (q_8.add (1 : Int).toNat) = some (.int .i64 x_9)) ∧
  let w3 := w.drew.alloc (.cells #[.int .i64 x_7, .int .i64 x_9] 72);
  ∃ (a_10 : Option Addr) (l_11 c_12 : Nat), ∃ w4 : World, (builtin .append #[57, 57] 57 #[] #[.slice next8.a next8.len next8.cap, .slice (some (newA w.drew)) 1 1]).run Tryd.prog w3 = .ok (.value (.slice a_10 l_11 c_12)) w4 ∧
  0 ≤ (1 : Int) ∧ 1 < ((x11.len : Nat) : Int) ∧ ∃ q_13 : Addr, x11.a = some q_13 ∧
  ∃ x_14 : Int, w4.cell? (q_13.add (1 : Int).toNat) = some (.int .i64 x_14) ∧
  trystref22_Do.c4 R N2 a0 l2 ⟨a_10, l_11, c_12⟩ out9 i10 answer13 x_14 true w4

def trystref22_Do.c10 (R : Value → World → Prop) (N2 : Option Addr → Sl → Sl → Sl → Int → World → Prop) (a0 : Option Addr) (l2 : Sl) (next8 : Sl) (out9 : Sl) (i10 : Int) (x11 : Sl) (kind12 : Int) (answer13 : Int) (w : World) : Prop :=
  0 ≤ (0 : Int) ∧ 0 < ((x11.len : Nat) : Int) ∧ ∃ q_15 : Addr, x11.a = some q_15 ∧
  ∃ x_16 : Int, w.cell? (q_15.add (0 : Int).toNat) = some (.int .i64 x_16) ∧
  CallsV Tryd.prog n_trystref22_value #[.slice next8.a next8.len next8.cap, .int .i64 x_16] w (fun v_17 w5 =>
  ∃ x_18 : Int, ∃ b_19 : Bool, v_17 = .tuple #[.int .i64 x_18, .bool b_19] ∧
  cond (!b_19)
  (cond ((kind12 : Int) == 71)
  (trystref22_Do.c5 R N2 a0 l2 next8 out9 i10 x11 answer13 w5)
  (trystref22_Do.c4 R N2 a0 l2 next8 out9 i10 answer13 x_18 b_19 w5))
  (trystref22_Do.c4 R N2 a0 l2 next8 out9 i10 answer13 x_18 b_19 w5))

def trystref22_Do.c6 (R : Value → World → Prop) (N2 : Option Addr → Sl → Sl → Sl → Int → World → Prop) (a0 : Option Addr) (l2 : Sl) (next8 : Sl) (out9 : Sl) (i10 : Int) (answer13 : Int) (others16 : Int) (c17 : Int) (w : World) : Prop :=
  cond ((others16 : Int) == 1)
  (trystref22_Do.c3 R N2 a0 l2 next8 out9 i10 c17 w)
  (trystref22_Do.c3 R N2 a0 l2 next8 out9 i10 answer13 w)

def trystref22_Do.c8 (R : Value → World → Prop) (N2 : Option Addr → Sl → Sl → Sl → Int → World → Prop) (N7 : Option Addr → Sl → Sl → Sl → Int → Sl → Int → Int → Int → Int → World → Prop) (a0 : Option Addr) (l2 : Sl) (next8 : Sl) (out9 : Sl) (i10 : Int) (x11 : Sl) (answer13 : Int) (others16 : Int) (k18 : Int) (y19 : Sl) (w : World) : Prop :=
  0 ≤ (1 : Int) ∧ 1 < ((y19.len : Nat) : Int) ∧ ∃ q_20 : Addr, y19.a = some q_20 ∧
  ∃ x_21 : Int, w.cell? (q_20.add (1 : Int).toNat) = some (.int .i64 x_21) ∧
  (let others16_21 : Int := (IntKind.i64.wrap (others16 + 1));
  (let k18_22 : Int := (IntKind.i64.wrap (k18 + 1));
  N7 a0 l2 next8 out9 i10 x11 answer13 others16_21 x_21 k18_22 w.drew))

def trystref22_Do.b7 (R : Value → World → Prop) (N2 : Option Addr → Sl → Sl → Sl → Int → World → Prop) (N7 : Option Addr → Sl → Sl → Sl → Int → Sl → Int → Int → Int → Int → World → Prop) (a0 : Option Addr) (l2 : Sl) (next8 : Sl) (out9 : Sl) (i10 : Int) (x11 : Sl) (answer13 : Int) (others16 : Int) (c17 : Int) (k18 : Int) (w : World) : Prop :=
  cond (decide ((k18 : Int) < ((l2.len : Nat) : Int)))
  (0 ≤ (k18 : Int) ∧ k18 < ((l2.len : Nat) : Int) ∧ ∃ q_24 : Addr, l2.a = some q_24 ∧
  ∃ x_25 : Int, w.cell? (q_24.add (k18 : Int).toNat) = some (.int .i64 x_25) ∧
  CallsV Tryd.prog n_trystref22_payload #[.pointer a0, .int .i64 x_25] w (fun v_26 w6 =>
  ∃ (a_27 : Option Addr) (l_28 c_29 : Nat), ∃ x_30 : Int, v_26 = .tuple #[.slice a_27 l_28 c_29, .int .i64 x_30] ∧
  cond ((k18 : Int) != i10)
  (cond ((x_30 : Int) == 73)
  (cond ((((l_28 : Nat) : Int) : Int) == 2)
  (0 ≤ (0 : Int) ∧ 0 < ((l_28 : Nat) : Int) ∧ ∃ q_31 : Addr, a_27 = some q_31 ∧
  ∃ x_32 : Int, w6.cell? (q_31.add (0 : Int).toNat) = some (.int .i64 x_32) ∧
  0 ≤ (0 : Int) ∧ 0 < ((x11.len : Nat) : Int) ∧ ∃ q_33 : Addr, x11.a = some q_33 ∧
  ∃ x_34 : Int, w6.cell? (q_33.add (0 : Int).toNat) = some (.int .i64 x_34) ∧
  cond ((x_32 : Int) == x_34)
  (trystref22_Do.c8 R N2 N7 a0 l2 next8 out9 i10 x11 answer13 others16 k18 ⟨a_27, l_28, c_29⟩ w6.drew)
  ((let k18_34 : Int := (IntKind.i64.wrap (k18 + 1));
  N7 a0 l2 next8 out9 i10 x11 answer13 others16 c17 k18_34 w6.drew)))
  ((let k18_35 : Int := (IntKind.i64.wrap (k18 + 1));
  N7 a0 l2 next8 out9 i10 x11 answer13 others16 c17 k18_35 w6.drew)))
  ((let k18_36 : Int := (IntKind.i64.wrap (k18 + 1));
  N7 a0 l2 next8 out9 i10 x11 answer13 others16 c17 k18_36 w6.drew)))
  ((let k18_37 : Int := (IntKind.i64.wrap (k18 + 1));
  N7 a0 l2 next8 out9 i10 x11 answer13 others16 c17 k18_37 w6.drew))))
  (trystref22_Do.c6 R N2 a0 l2 next8 out9 i10 answer13 others16 c17 w)

def trystref22_Do.l7 (R : Value → World → Prop) (N2 : Option Addr → Sl → Sl → Sl → Int → World → Prop) (a0 : Option Addr) (l2 : Sl) (next8 : Sl) (out9 : Sl) (i10 : Int) (x11 : Sl) (answer13 : Int) (others16 : Int) (c17 : Int) (k18 : Int) (w : World) : Prop :=
  ∃ (I : (Int × Int × Int) → World → Prop) (μ : (Int × Int × Int) → World → Nat), I (others16, c17, k18) w ∧ ∀ s w, I s w → trystref22_Do.b7 R N2 (fun a0' l2' next8' out9' i10' x11' answer13' others16' c17' k18' w' => (a0' = a0 ∧ l2' = l2 ∧ next8' = next8 ∧ out9' = out9 ∧ i10' = i10 ∧ x11' = x11 ∧ answer13' = answer13 ∧ I (others16', c17', k18') w') ∧ μ (others16', c17', k18') w' < μ s w) a0 l2 next8 out9 i10 x11 answer13 s.1 s.2.1 s.2.2 w

def trystref22_Do.c9 (R : Value → World → Prop) (N2 : Option Addr → Sl → Sl → Sl → Int → World → Prop) (a0 : Option Addr) (l2 : Sl) (next8 : Sl) (out9 : Sl) (i10 : Int) (x11 : Sl) (answer13 : Int) (w : World) : Prop :=
  trystref22_Do.l7 R N2 a0 l2 next8 out9 i10 x11 answer13 0 0 0 w

def trystref22_Do.c11 (R : Value → World → Prop) (N2 : Option Addr → Sl → Sl → Sl → Int → World → Prop) (a0 : Option Addr) (l2 : Sl) (next8 : Sl) (out9 : Sl) (i10 : Int) (x11 : Sl) (kind12 : Int) (answer13 : Int) (w : World) : Prop :=
  cond ((kind12 : Int) == 73)
  ((let t86_38 : Bool := ((((x11.len : Nat) : Int) : Int) == 2);
  cond t86_38
  (trystref22_Do.c9 R N2 a0 l2 next8 out9 i10 x11 answer13 w)
  (trystref22_Do.c3 R N2 a0 l2 next8 out9 i10 answer13 w)))
  (trystref22_Do.c3 R N2 a0 l2 next8 out9 i10 answer13 w)

def trystref22_Do.b2 (R : Value → World → Prop) (N2 : Option Addr → Sl → Sl → Sl → Int → World → Prop) (a0 : Option Addr) (l2 : Sl) (next8 : Sl) (out9 : Sl) (i10 : Int) (w : World) : Prop :=
  cond (decide ((i10 : Int) < ((l2.len : Nat) : Int)))
  (0 ≤ (i10 : Int) ∧ i10 < ((l2.len : Nat) : Int) ∧ ∃ q_40 : Addr, l2.a = some q_40 ∧
  ∃ x_41 : Int, w.cell? (q_40.add (i10 : Int).toNat) = some (.int .i64 x_41) ∧
  CallsV Tryd.prog n_trystref22_payload #[.pointer a0, .int .i64 x_41] w (fun v_42 w7 =>
  ∃ (a_43 : Option Addr) (l_44 c_45 : Nat), ∃ x_46 : Int, v_42 = .tuple #[.slice a_43 l_44 c_45, .int .i64 x_46] ∧
  CallsV Tryd.prog n_trystref10_Arena_Word #[.pointer a0, .int .i64 0] w7 (fun v_47 w8 =>
  ∃ x_48 : Int, v_47 = .int .i64 x_48 ∧
  cond ((x_46 : Int) == 71)
  (cond ((((l_44 : Nat) : Int) : Int) == 2)
  (trystref22_Do.c10 R N2 a0 l2 next8 out9 i10 ⟨a_43, l_44, c_45⟩ x_46 x_48 w8)
  (cond ((x_46 : Int) == 72)
  ((let t40_48 : Bool := ((((l_44 : Nat) : Int) : Int) == 1);
  cond t40_48
  (trystref22_Do.c10 R N2 a0 l2 next8 out9 i10 ⟨a_43, l_44, c_45⟩ x_46 x_48 w8)
  (trystref22_Do.c11 R N2 a0 l2 next8 out9 i10 ⟨a_43, l_44, c_45⟩ x_46 x_48 w8)))
  (trystref22_Do.c11 R N2 a0 l2 next8 out9 i10 ⟨a_43, l_44, c_45⟩ x_46 x_48 w8)))
  (cond ((x_46 : Int) == 72)
  ((let t40_49 : Bool := ((((l_44 : Nat) : Int) : Int) == 1);
  cond t40_49
  (trystref22_Do.c10 R N2 a0 l2 next8 out9 i10 ⟨a_43, l_44, c_45⟩ x_46 x_48 w8)
  (trystref22_Do.c11 R N2 a0 l2 next8 out9 i10 ⟨a_43, l_44, c_45⟩ x_46 x_48 w8)))
  (trystref22_Do.c11 R N2 a0 l2 next8 out9 i10 ⟨a_43, l_44, c_45⟩ x_46 x_48 w8)))))
  (trystref22_Do.c1 R next8 out9 w)

def trystref22_Do.l2 (R : Value → World → Prop) (a0 : Option Addr) (l2 : Sl) (next8 : Sl) (out9 : Sl) (i10 : Int) (w : World) : Prop :=
  ∃ (I : (Sl × Sl × Int) → World → Prop) (μ : (Sl × Sl × Int) → World → Nat), I (next8, out9, i10) w ∧ ∀ s w, I s w → trystref22_Do.b2 R (fun a0' l2' next8' out9' i10' w' => (a0' = a0 ∧ l2' = l2 ∧ I (next8', out9', i10') w') ∧ μ (next8', out9', i10') w' < μ s w) a0 l2 s.1 s.2.1 s.2.2 w

def trystref22_Do.main (R : Value → World → Prop) (a0 : Option Addr) (regs1 : Sl) (l2 : Sl) (w : World) : Prop :=
  CallsV Tryd.prog n_trystkeep_TwinRegs #[.slice regs1.a regs1.len regs1.cap] w (fun v_51 w9 =>
  ∃ (a_52 : Option Addr) (l_53 c_54 : Nat), v_51 = .slice a_52 l_53 c_54 ∧
  trystref22_Do.l2 R a0 l2 ⟨a_52, l_53, c_54⟩ ⟨none, 0, 0⟩ 0 w9)

def trystref22_Do.J2 (R : Value → World → Prop) (N2 : Option Addr → Sl → Sl → Sl → Int → World → Prop) (k : Nat) (fr : Fr) (w : World) : Prop :=
  cond (Nat.beq k 10) (dec [(0, .ptr), (2, .slice), (8, .slice), (9, .slice), (10, (.int .i64)), (11, .slice), (12, (.int .i64)), (13, (.int .i64))] fr fun x => trystref22_Do.c10 R N2 x.1 x.2.1 x.2.2.1 x.2.2.2.1 x.2.2.2.2.1 x.2.2.2.2.2.1 x.2.2.2.2.2.2.1 x.2.2.2.2.2.2.2 w) (cond (Nat.beq k 5) (dec [(0, .ptr), (2, .slice), (8, .slice), (9, .slice), (10, (.int .i64)), (11, .slice), (13, (.int .i64))] fr fun x => trystref22_Do.c5 R N2 x.1 x.2.1 x.2.2.1 x.2.2.2.1 x.2.2.2.2.1 x.2.2.2.2.2.1 x.2.2.2.2.2.2 w) (cond (Nat.beq k 4) (dec [(0, .ptr), (2, .slice), (8, .slice), (9, .slice), (10, (.int .i64)), (13, (.int .i64)), (14, (.int .i64)), (15, .bool)] fr fun x => trystref22_Do.c4 R N2 x.1 x.2.1 x.2.2.1 x.2.2.2.1 x.2.2.2.2.1 x.2.2.2.2.2.1 x.2.2.2.2.2.2.1 x.2.2.2.2.2.2.2 w) (cond (Nat.beq k 11) (dec [(0, .ptr), (2, .slice), (8, .slice), (9, .slice), (10, (.int .i64)), (11, .slice), (12, (.int .i64)), (13, (.int .i64))] fr fun x => trystref22_Do.c11 R N2 x.1 x.2.1 x.2.2.1 x.2.2.2.1 x.2.2.2.2.1 x.2.2.2.2.2.1 x.2.2.2.2.2.2.1 x.2.2.2.2.2.2.2 w) (cond (Nat.beq k 9) (dec [(0, .ptr), (2, .slice), (8, .slice), (9, .slice), (10, (.int .i64)), (11, .slice), (13, (.int .i64))] fr fun x => trystref22_Do.c9 R N2 x.1 x.2.1 x.2.2.1 x.2.2.2.1 x.2.2.2.2.1 x.2.2.2.2.2.1 x.2.2.2.2.2.2 w) (cond (Nat.beq k 7) (dec [(0, .ptr), (2, .slice), (8, .slice), (9, .slice), (10, (.int .i64)), (11, .slice), (13, (.int .i64)), (16, (.int .i64)), (17, (.int .i64)), (18, (.int .i64))] fr fun x => trystref22_Do.l7 R N2 x.1 x.2.1 x.2.2.1 x.2.2.2.1 x.2.2.2.2.1 x.2.2.2.2.2.1 x.2.2.2.2.2.2.1 x.2.2.2.2.2.2.2.1 x.2.2.2.2.2.2.2.2.1 x.2.2.2.2.2.2.2.2.2 w) (cond (Nat.beq k 6) (dec [(0, .ptr), (2, .slice), (8, .slice), (9, .slice), (10, (.int .i64)), (13, (.int .i64)), (16, (.int .i64)), (17, (.int .i64))] fr fun x => trystref22_Do.c6 R N2 x.1 x.2.1 x.2.2.1 x.2.2.2.1 x.2.2.2.2.1 x.2.2.2.2.2.1 x.2.2.2.2.2.2.1 x.2.2.2.2.2.2.2 w) (cond (Nat.beq k 3) (dec [(0, .ptr), (2, .slice), (8, .slice), (9, .slice), (10, (.int .i64)), (13, (.int .i64))] fr fun x => trystref22_Do.c3 R N2 x.1 x.2.1 x.2.2.1 x.2.2.2.1 x.2.2.2.2.1 x.2.2.2.2.2 w) (False))))))))

def trystref22_Do.J7 (R : Value → World → Prop) (N2 : Option Addr → Sl → Sl → Sl → Int → World → Prop) (N7 : Option Addr → Sl → Sl → Sl → Int → Sl → Int → Int → Int → Int → World → Prop) (k : Nat) (fr : Fr) (w : World) : Prop :=
  cond (Nat.beq k 8) (dec [(0, .ptr), (2, .slice), (8, .slice), (9, .slice), (10, (.int .i64)), (11, .slice), (13, (.int .i64)), (16, (.int .i64)), (18, (.int .i64)), (19, .slice)] fr fun x => trystref22_Do.c8 R N2 N7 x.1 x.2.1 x.2.2.1 x.2.2.2.1 x.2.2.2.2.1 x.2.2.2.2.2.1 x.2.2.2.2.2.2.1 x.2.2.2.2.2.2.2.1 x.2.2.2.2.2.2.2.2.1 x.2.2.2.2.2.2.2.2.2 w) (False)

def trystref22_Do.J0 (R : Value → World → Prop) (k : Nat) (fr : Fr) (w : World) : Prop :=
  cond (Nat.beq k 2) (dec [(0, .ptr), (2, .slice), (8, .slice), (9, .slice), (10, (.int .i64))] fr fun x => trystref22_Do.l2 R x.1 x.2.1 x.2.2.1 x.2.2.2.1 x.2.2.2.2 w) (cond (Nat.beq k 1) (dec [(8, .slice), (9, .slice)] fr fun x => trystref22_Do.c1 R x.1 x.2 w) (False))

set_option maxRecDepth 100000 in
theorem trystref22_Do.lift {R : Value → World → Prop} {a0 : Option Addr} {regs1 : Sl} {l2 : Sl} {w : World} (h : trystref22_Do.main R a0 regs1 l2 w) : CallsV Tryd.prog n_trystref22_Do #[.pointer a0, .slice regs1.a regs1.len regs1.cap, .slice l2.a l2.len l2.cap] w R :=
  liftCalls (c := (.seq (.leaf (cL (bd Tryd.f62))) (.seq (.leaf (cL (cR (bd Tryd.f62)))) (.seq (.leaf (cL (cR (cR (bd Tryd.f62))))) (.seq (.seq (.leaf (cL (cL (cR (cR (cR (bd Tryd.f62))))))) (.block 0 (.loop 2 (.seq (.seq (.leaf (cL (cL (cB (cB (cR (cL (cR (cR (cR (bd Tryd.f62))))))))))) (.cnd (.tmp 26) (.leaf (cT (cR (cL (cB (cB (cR (cL (cR (cR (cR (bd Tryd.f62)))))))))))) (.leaf (cE (cR (cL (cB (cB (cR (cL (cR (cR (cR (bd Tryd.f62)))))))))))))) (.seq (.block 1 (.seq (.leaf (cL (cB (cL (cR (cB (cB (cR (cL (cR (cR (cR (bd Tryd.f62))))))))))))) (.seq (.leaf (cL (cR (cB (cL (cR (cB (cB (cR (cL (cR (cR (cR (bd Tryd.f62)))))))))))))) (.seq (.block 2 (.seq (.leaf (cL (cB (cL (cR (cR (cB (cL (cR (cB (cB (cR (cL (cR (cR (cR (bd Tryd.f62))))))))))))))))) (.cnd (.tmp 40) (.cut 10 (.seq (.leaf (cL (cT (cR (cB (cL (cR (cR (cB (cL (cR (cB (cB (cR (cL (cR (cR (cR (bd Tryd.f62))))))))))))))))))) (.seq (.seq (.leaf (cL (cL (cR (cT (cR (cB (cL (cR (cR (cB (cL (cR (cB (cB (cR (cL (cR (cR (cR (bd Tryd.f62))))))))))))))))))))) (.cnd (.tmp 70) (.cut 5 (.seq (.leaf (cL (cT (cR (cL (cR (cT (cR (cB (cL (cR (cR (cB (cL (cR (cB (cB (cR (cL (cR (cR (cR (bd Tryd.f62))))))))))))))))))))))) (.leaf (cR (cT (cR (cL (cR (cT (cR (cB (cL (cR (cR (cB (cL (cR (cB (cB (cR (cL (cR (cR (cR (bd Tryd.f62))))))))))))))))))))))))) (.leaf (cE (cR (cL (cR (cT (cR (cB (cL (cR (cR (cB (cL (cR (cB (cB (cR (cL (cR (cR (cR (bd Tryd.f62)))))))))))))))))))))))) (.cut 4 (.seq (.leaf (cL (cR (cR (cT (cR (cB (cL (cR (cR (cB (cL (cR (cB (cB (cR (cL (cR (cR (cR (bd Tryd.f62))))))))))))))))))))) (.cnd (.tmp 84) (.leaf (cT (cR (cR (cR (cT (cR (cB (cL (cR (cR (cB (cL (cR (cB (cB (cR (cL (cR (cR (cR (bd Tryd.f62)))))))))))))))))))))) (.leaf (cE (cR (cR (cR (cT (cR (cB (cL (cR (cR (cB (cL (cR (cB (cB (cR (cL (cR (cR (cR (bd Tryd.f62)))))))))))))))))))))))))))) (.cut 11 (.seq (.leaf (cL (cE (cR (cB (cL (cR (cR (cB (cL (cR (cB (cB (cR (cL (cR (cR (cR (bd Tryd.f62))))))))))))))))))) (.cnd (.tmp 86) (.cut 9 (.seq (.leaf (cL (cT (cR (cE (cR (cB (cL (cR (cR (cB (cL (cR (cB (cB (cR (cL (cR (cR (cR (bd Tryd.f62))))))))))))))))))))) (.seq (.seq (.leaf (cL (cL (cR (cT (cR (cE (cR (cB (cL (cR (cR (cB (cL (cR (cB (cB (cR (cL (cR (cR (cR (bd Tryd.f62))))))))))))))))))))))) (.block 3 (.loop 7 (.seq (.seq (.leaf (cL (cL (cB (cB (cR (cL (cR (cT (cR (cE (cR (cB (cL (cR (cR (cB (cL (cR (cB (cB (cR (cL (cR (cR (cR (bd Tryd.f62))))))))))))))))))))))))))) (.cnd (.tmp 97) (.leaf (cT (cR (cL (cB (cB (cR (cL (cR (cT (cR (cE (cR (cB (cL (cR (cR (cB (cL (cR (cB (cB (cR (cL (cR (cR (cR (bd Tryd.f62)))))))))))))))))))))))))))) (.leaf (cE (cR (cL (cB (cB (cR (cL (cR (cT (cR (cE (cR (cB (cL (cR (cR (cB (cL (cR (cB (cB (cR (cL (cR (cR (cR (bd Tryd.f62)))))))))))))))))))))))))))))) (.seq (.block 4 (.seq (.leaf (cL (cB (cL (cR (cB (cB (cR (cL (cR (cT (cR (cE (cR (cB (cL (cR (cR (cB (cL (cR (cB (cB (cR (cL (cR (cR (cR (bd Tryd.f62))))))))))))))))))))))))))))) (.seq (.leaf (cL (cR (cB (cL (cR (cB (cB (cR (cL (cR (cT (cR (cE (cR (cB (cL (cR (cR (cB (cL (cR (cB (cB (cR (cL (cR (cR (cR (bd Tryd.f62)))))))))))))))))))))))))))))) (.cnd (.tmp 129) (.cut 8 (.leaf (cT (cR (cR (cB (cL (cR (cB (cB (cR (cL (cR (cT (cR (cE (cR (cB (cL (cR (cR (cB (cL (cR (cB (cB (cR (cL (cR (cR (cR (bd Tryd.f62)))))))))))))))))))))))))))))))) (.leaf (cE (cR (cR (cB (cL (cR (cB (cB (cR (cL (cR (cT (cR (cE (cR (cB (cL (cR (cR (cB (cL (cR (cB (cB (cR (cL (cR (cR (cR (bd Tryd.f62))))))))))))))))))))))))))))))))))) (.leaf (cR (cR (cB (cB (cR (cL (cR (cT (cR (cE (cR (cB (cL (cR (cR (cB (cL (cR (cB (cB (cR (cL (cR (cR (cR (bd Tryd.f62)))))))))))))))))))))))))))))))) (.cut 6 (.seq (.leaf (cL (cR (cR (cT (cR (cE (cR (cB (cL (cR (cR (cB (cL (cR (cB (cB (cR (cL (cR (cR (cR (bd Tryd.f62))))))))))))))))))))))) (.cnd (.tmp 136) (.leaf (cT (cR (cR (cR (cT (cR (cE (cR (cB (cL (cR (cR (cB (cL (cR (cB (cB (cR (cL (cR (cR (cR (bd Tryd.f62)))))))))))))))))))))))) (.leaf (cE (cR (cR (cR (cT (cR (cE (cR (cB (cL (cR (cR (cB (cL (cR (cB (cB (cR (cL (cR (cR (cR (bd Tryd.f62)))))))))))))))))))))))))))))) (.leaf (cE (cR (cE (cR (cB (cL (cR (cR (cB (cL (cR (cB (cB (cR (cL (cR (cR (cR (bd Tryd.f62)))))))))))))))))))))))))) (.cut 3 (.leaf (cR (cR (cR (cB (cL (cR (cB (cB (cR (cL (cR (cR (cR (bd Tryd.f62)))))))))))))))))))) (.leaf (cR (cR (cB (cB (cR (cL (cR (cR (cR (bd Tryd.f62)))))))))))))))) (.cut 1 (.seq (.leaf (cL (cR (cR (cR (cR (bd Tryd.f62))))))) (.leaf (cR (cR (cR (cR (cR (bd Tryd.f62)))))))))))))) (J := trystref22_Do.J0 R) LfYtoclhecldmahiaaDoor.mixed Tryd.func62 (by kernel_rfl) (by kernel_rfl) (mkSeq (mkSeq (mkSeq (mkSeq (mkCut (cutDef [(8, .slice), (9, .slice)] (fun x w => trystref22_Do.c1 R x.1 x.2 w) (fun _ _ => by kernel_rfl) (fun _ _ => by kernel_rfl)) (mkSeq mkLeaf mkLeaf)) (mkSeq (mkBlock (mkLoop (loopDef LfYtoclhecldmahiaaDoor.mixed [(0, .ptr), (2, .slice), (8, .slice), (9, .slice), (10, (.int .i64))] (by kernel_rfl) (fun M2 x w => trystref22_Do.b2 R (fun y0 y1 y2 y3 y4 w => M2 (y0, y1, y2, y3, y4) w) x.1 x.2.1 x.2.2.1 x.2.2.2.1 x.2.2.2.2 w) (fun M2 => trystref22_Do.J2 R (fun y0 y1 y2 y3 y4 w => M2 (y0, y1, y2, y3, y4) w)) (fun _ _ _ => by kernel_rfl) (fun M2 => (mkSeq (mkSeq mkLeaf (mkBlock (mkSeq (mkSeq (mkSeq (mkCut (cutDef [(0, .ptr), (2, .slice), (8, .slice), (9, .slice), (10, (.int .i64)), (13, (.int .i64))] (fun x w => trystref22_Do.c3 R (fun y0 y1 y2 y3 y4 w => M2 (y0, y1, y2, y3, y4) w) x.1 x.2.1 x.2.2.1 x.2.2.2.1 x.2.2.2.2.1 x.2.2.2.2.2 w) (fun _ _ => by kernel_rfl) (fun _ _ => by kernel_rfl)) mkLeaf) (mkBlock (mkSeq (mkCnd (mkCut (cutDef [(0, .ptr), (2, .slice), (8, .slice), (9, .slice), (10, (.int .i64)), (11, .slice), (12, (.int .i64)), (13, (.int .i64))] (fun x w => trystref22_Do.c10 R (fun y0 y1 y2 y3 y4 w => M2 (y0, y1, y2, y3, y4) w) x.1 x.2.1 x.2.2.1 x.2.2.2.1 x.2.2.2.2.1 x.2.2.2.2.2.1 x.2.2.2.2.2.2.1 x.2.2.2.2.2.2.2 w) (fun _ _ => by kernel_rfl) (fun _ _ => by kernel_rfl)) (mkSeq (mkSeq (mkCut (cutDef [(0, .ptr), (2, .slice), (8, .slice), (9, .slice), (10, (.int .i64)), (13, (.int .i64)), (14, (.int .i64)), (15, .bool)] (fun x w => trystref22_Do.c4 R (fun y0 y1 y2 y3 y4 w => M2 (y0, y1, y2, y3, y4) w) x.1 x.2.1 x.2.2.1 x.2.2.2.1 x.2.2.2.2.1 x.2.2.2.2.2.1 x.2.2.2.2.2.2.1 x.2.2.2.2.2.2.2 w) (fun _ _ => by kernel_rfl) (fun _ _ => by kernel_rfl)) (mkSeq (mkCnd mkLeaf mkLeaf) mkLeaf)) (mkSeq (mkCnd (mkCut (cutDef [(0, .ptr), (2, .slice), (8, .slice), (9, .slice), (10, (.int .i64)), (11, .slice), (13, (.int .i64))] (fun x w => trystref22_Do.c5 R (fun y0 y1 y2 y3 y4 w => M2 (y0, y1, y2, y3, y4) w) x.1 x.2.1 x.2.2.1 x.2.2.2.1 x.2.2.2.2.1 x.2.2.2.2.2.1 x.2.2.2.2.2.2 w) (fun _ _ => by kernel_rfl) (fun _ _ => by kernel_rfl)) (mkSeq mkLeaf mkLeaf)) mkLeaf) mkLeaf)) mkLeaf)) (mkCut (cutDef [(0, .ptr), (2, .slice), (8, .slice), (9, .slice), (10, (.int .i64)), (11, .slice), (12, (.int .i64)), (13, (.int .i64))] (fun x w => trystref22_Do.c11 R (fun y0 y1 y2 y3 y4 w => M2 (y0, y1, y2, y3, y4) w) x.1 x.2.1 x.2.2.1 x.2.2.2.1 x.2.2.2.2.1 x.2.2.2.2.2.1 x.2.2.2.2.2.2.1 x.2.2.2.2.2.2.2 w) (fun _ _ => by kernel_rfl) (fun _ _ => by kernel_rfl)) (mkSeq (mkCnd (mkCut (cutDef [(0, .ptr), (2, .slice), (8, .slice), (9, .slice), (10, (.int .i64)), (11, .slice), (13, (.int .i64))] (fun x w => trystref22_Do.c9 R (fun y0 y1 y2 y3 y4 w => M2 (y0, y1, y2, y3, y4) w) x.1 x.2.1 x.2.2.1 x.2.2.2.1 x.2.2.2.2.1 x.2.2.2.2.2.1 x.2.2.2.2.2.2 w) (fun _ _ => by kernel_rfl) (fun _ _ => by kernel_rfl)) (mkSeq (mkSeq (mkCut (cutDef [(0, .ptr), (2, .slice), (8, .slice), (9, .slice), (10, (.int .i64)), (13, (.int .i64)), (16, (.int .i64)), (17, (.int .i64))] (fun x w => trystref22_Do.c6 R (fun y0 y1 y2 y3 y4 w => M2 (y0, y1, y2, y3, y4) w) x.1 x.2.1 x.2.2.1 x.2.2.2.1 x.2.2.2.2.1 x.2.2.2.2.2.1 x.2.2.2.2.2.2.1 x.2.2.2.2.2.2.2 w) (fun _ _ => by kernel_rfl) (fun _ _ => by kernel_rfl)) (mkSeq (mkCnd mkLeaf mkLeaf) mkLeaf)) (mkSeq (mkBlock (mkLoop (loopDef LfYtoclhecldmahiaaDoor.mixed [(0, .ptr), (2, .slice), (8, .slice), (9, .slice), (10, (.int .i64)), (11, .slice), (13, (.int .i64)), (16, (.int .i64)), (17, (.int .i64)), (18, (.int .i64))] (by kernel_rfl) (fun M7 x w => trystref22_Do.b7 R (fun y0 y1 y2 y3 y4 w => M2 (y0, y1, y2, y3, y4) w) (fun y0 y1 y2 y3 y4 y5 y6 y7 y8 y9 w => M7 (y0, y1, y2, y3, y4, y5, y6, y7, y8, y9) w) x.1 x.2.1 x.2.2.1 x.2.2.2.1 x.2.2.2.2.1 x.2.2.2.2.2.1 x.2.2.2.2.2.2.1 x.2.2.2.2.2.2.2.1 x.2.2.2.2.2.2.2.2.1 x.2.2.2.2.2.2.2.2.2 w) (fun M7 => trystref22_Do.J7 R (fun y0 y1 y2 y3 y4 w => M2 (y0, y1, y2, y3, y4) w) (fun y0 y1 y2 y3 y4 y5 y6 y7 y8 y9 w => M7 (y0, y1, y2, y3, y4, y5, y6, y7, y8, y9) w)) (fun _ _ _ => by kernel_rfl) (fun M7 => (mkSeq (mkSeq mkLeaf (mkBlock (mkSeq (mkSeq (mkCnd (mkCut (cutDef [(0, .ptr), (2, .slice), (8, .slice), (9, .slice), (10, (.int .i64)), (11, .slice), (13, (.int .i64)), (16, (.int .i64)), (18, (.int .i64)), (19, .slice)] (fun x w => trystref22_Do.c8 R (fun y0 y1 y2 y3 y4 w => M2 (y0, y1, y2, y3, y4) w) (fun y0 y1 y2 y3 y4 y5 y6 y7 y8 y9 w => M7 (y0, y1, y2, y3, y4, y5, y6, y7, y8, y9) w) x.1 x.2.1 x.2.2.1 x.2.2.2.1 x.2.2.2.2.1 x.2.2.2.2.2.1 x.2.2.2.2.2.2.1 x.2.2.2.2.2.2.2.1 x.2.2.2.2.2.2.2.2.1 x.2.2.2.2.2.2.2.2.2 w) (fun _ _ => by kernel_rfl) (fun _ _ => by kernel_rfl)) mkLeaf) mkLeaf) mkLeaf) mkLeaf))) (mkSeq (mkCnd mkLeaf mkLeaf) mkLeaf))) (fun x w => trystref22_Do.l7 R (fun y0 y1 y2 y3 y4 w => M2 (y0, y1, y2, y3, y4) w) x.1 x.2.1 x.2.2.1 x.2.2.2.1 x.2.2.2.2.1 x.2.2.2.2.2.1 x.2.2.2.2.2.2.1 x.2.2.2.2.2.2.2.1 x.2.2.2.2.2.2.2.2.1 x.2.2.2.2.2.2.2.2.2 w) (by rintro ⟨c0, c1, c2, c3, c4, c5, c6, s0⟩ w ⟨I, μ, h0, h1⟩; refine ⟨fun y w => y.1 = c0 ∧ y.2.1 = c1 ∧ y.2.2.1 = c2 ∧ y.2.2.2.1 = c3 ∧ y.2.2.2.2.1 = c4 ∧ y.2.2.2.2.2.1 = c5 ∧ y.2.2.2.2.2.2.1 = c6 ∧ I y.2.2.2.2.2.2.2 w, fun y w => μ y.2.2.2.2.2.2.2 w, ⟨rfl, rfl, rfl, rfl, rfl, rfl, rfl, h0⟩, ?_⟩; rintro ⟨d0, d1, d2, d3, d4, d5, d6, t0⟩ w ⟨e0, e1, e2, e3, e4, e5, e6, hI⟩; dsimp only at e0 e1 e2 e3 e4 e5 e6 hI; subst e0; subst e1; subst e2; subst e3; subst e4; subst e5; subst e6; exact h1 _ _ hI) (fun _ _ => by kernel_rfl)))) mkLeaf)) mkLeaf)) mkLeaf) mkLeaf))) mkLeaf))) mkLeaf) mkLeaf))) (mkSeq (mkCnd mkLeaf mkLeaf) mkLeaf))) (fun x w => trystref22_Do.l2 R x.1 x.2.1 x.2.2.1 x.2.2.2.1 x.2.2.2.2 w) (by rintro ⟨c0, c1, s0⟩ w ⟨I, μ, h0, h1⟩; refine ⟨fun y w => y.1 = c0 ∧ y.2.1 = c1 ∧ I y.2.2 w, fun y w => μ y.2.2 w, ⟨rfl, rfl, h0⟩, ?_⟩; rintro ⟨d0, d1, t0⟩ w ⟨e0, e1, hI⟩; dsimp only at e0 e1 hI; subst e0; subst e1; exact h1 _ _ hI) (fun _ _ => by kernel_rfl)))) mkLeaf)) mkLeaf) mkLeaf) mkLeaf) (kcast (by kernel_rfl) h)

/-! trystkeep_TwinMix -/
def trystkeep_TwinMix.c1 (R : Value → World → Prop) (t2 : Addr) (out3 : Addr) (w : World) : Prop :=
  ∃ (a_1 : Option Addr) (l_2 c_3 : Nat), w.cell? out3 = some (.slice a_1 l_2 c_3) ∧
  ∃ (a_4 : Option Addr) (l_5 c_6 : Nat), w.cell? (out3.add 1) = some (.slice a_4 l_5 c_6) ∧
  ∃ (a_7 : Option Addr) (l_8 c_9 : Nat), w.cell? (out3.add 2) = some (.slice a_7 l_8 c_9) ∧
  ∃ (a_10 : Option Addr) (l_11 c_12 : Nat), w.cell? (out3.add 3) = some (.slice a_10 l_11 c_12) ∧
  (∀ j, j < 4 → Wr w (t2.add j)) ∧
  (let w1 := setCells t2 [.slice a_1 l_2 c_3, .slice a_4 l_5 c_6, .slice a_7 l_8 c_9, .slice a_10 l_11 c_12] 0 w;
  ∃ (a_13 : Option Addr) (l_14 c_15 : Nat), w1.cell? t2 = some (.slice a_13 l_14 c_15) ∧
  ∃ (a_16 : Option Addr) (l_17 c_18 : Nat), w1.cell? (t2.add 1) = some (.slice a_16 l_17 c_18) ∧
  ∃ (a_19 : Option Addr) (l_20 c_21 : Nat), w1.cell? (t2.add 2) = some (.slice a_19 l_20 c_21) ∧
  ∃ (a_22 : Option Addr) (l_23 c_24 : Nat), w1.cell? (t2.add 3) = some (.slice a_22 l_23 c_24) ∧
  R (.agg #[.slice a_13 l_14 c_15, .slice a_16 l_17 c_18, .slice a_19 l_20 c_21, .slice a_22 l_23 c_24]) w1)

def trystkeep_TwinMix.b2 (R : Value → World → Prop) (N2 : Addr → Addr → Addr → Int → World → Prop) (m1 : Addr) (t2 : Addr) (out3 : Addr) (i4 : Int) (w : World) : Prop :=
  cond (decide ((i4 : Int) < 3))
  (0 ≤ (i4 : Int) ∧ i4 < ((3 : Nat) : Int) ∧
  ∃ (a_25 : Option Addr) (l_26 c_27 : Nat), w.cell? ((m1.add 1).add (i4 : Int).toNat) = some (.slice a_25 l_26 c_27) ∧
  CallsV Tryd.prog n_trystkeep_TwinInts #[.slice a_25 l_26 c_27] w (fun v_28 w2 =>
  ∃ (a_29 : Option Addr) (l_30 c_31 : Nat), v_28 = .slice a_29 l_30 c_31 ∧
  0 ≤ (i4 : Int) ∧ i4 < ((3 : Nat) : Int) ∧
  Wr w2 ((out3.add 1).add (i4 : Int).toNat) ∧
  (let w3 := w2.setCell ((out3.add 1).add (i4 : Int).toNat) (.slice a_29 l_30 c_31);
  (let i4_31 : Int := (IntKind.i64.wrap (i4 + 1));
  N2 m1 t2 out3 i4_31 w3))))
  (trystkeep_TwinMix.c1 R t2 out3 w)

def trystkeep_TwinMix.l2 (R : Value → World → Prop) (m1 : Addr) (t2 : Addr) (out3 : Addr) (i4 : Int) (w : World) : Prop :=
  ∃ (I : Int → World → Prop) (μ : Int → World → Nat), I i4 w ∧ ∀ s w, I s w → trystkeep_TwinMix.b2 R (fun m1' t2' out3' i4' w' => (m1' = m1 ∧ t2' = t2 ∧ out3' = out3 ∧ I i4' w') ∧ μ i4' w' < μ s w) m1 t2 out3 s w

def trystkeep_TwinMix.main (R : Value → World → Prop) (m0_0 : Sl) (m0_1 : Sl) (m0_2 : Sl) (m0_3 : Sl) (w : World) : Prop :=
  let w4 := w.alloc (.cells #[.slice m0_0.a m0_0.len m0_0.cap, .slice m0_1.a m0_1.len m0_1.cap, .slice m0_2.a m0_2.len m0_2.cap, .slice m0_3.a m0_3.len m0_3.cap] 127);
  let w5 := w4.alloc (.cells #[.slice none 0 0, .slice none 0 0, .slice none 0 0, .slice none 0 0] 127);
  let w6 := w5.alloc (.cells #[.slice none 0 0, .slice none 0 0, .slice none 0 0, .slice none 0 0] 127);
  ∃ (a_33 : Option Addr) (l_34 c_35 : Nat), w6.cell? (newA w) = some (.slice a_33 l_34 c_35) ∧
  CallsV Tryd.prog n_trystkeep_TwinRegs #[.slice a_33 l_34 c_35] w6 (fun v_36 w7 =>
  ∃ (a_37 : Option Addr) (l_38 c_39 : Nat), v_36 = .slice a_37 l_38 c_39 ∧
  Wr w7 (newA w5) ∧
  (let w8 := w7.setCell (newA w5) (.slice a_37 l_38 c_39);
  trystkeep_TwinMix.l2 R (newA w) (newA w4) (newA w5) 0 w8))

def trystkeep_TwinMix.J0 (R : Value → World → Prop) (k : Nat) (fr : Fr) (w : World) : Prop :=
  cond (Nat.beq k 2) (dec [(1, .addr), (2, .addr), (3, .addr), (4, (.int .i64))] fr fun x => trystkeep_TwinMix.l2 R x.1 x.2.1 x.2.2.1 x.2.2.2 w) (cond (Nat.beq k 1) (dec [(2, .addr), (3, .addr)] fr fun x => trystkeep_TwinMix.c1 R x.1 x.2 w) (False))

set_option maxRecDepth 100000 in
theorem trystkeep_TwinMix.lift {R : Value → World → Prop} {m0_0 : Sl} {m0_1 : Sl} {m0_2 : Sl} {m0_3 : Sl} {w : World} (h : trystkeep_TwinMix.main R m0_0 m0_1 m0_2 m0_3 w) : CallsV Tryd.prog n_trystkeep_TwinMix #[.agg #[.slice m0_0.a m0_0.len m0_0.cap, .slice m0_1.a m0_1.len m0_1.cap, .slice m0_2.a m0_2.len m0_2.cap, .slice m0_3.a m0_3.len m0_3.cap]] w R :=
  liftCalls (c := (.seq (.leaf (cL (bd Tryd.f90))) (.seq (.leaf (cL (cR (bd Tryd.f90)))) (.seq (.leaf (cL (cR (cR (bd Tryd.f90))))) (.seq (.seq (.leaf (cL (cL (cR (cR (cR (bd Tryd.f90))))))) (.block 0 (.loop 2 (.seq (.seq (.leaf (cL (cL (cB (cB (cR (cL (cR (cR (cR (bd Tryd.f90))))))))))) (.cnd (.tmp 10) (.leaf (cT (cR (cL (cB (cB (cR (cL (cR (cR (cR (bd Tryd.f90)))))))))))) (.leaf (cE (cR (cL (cB (cB (cR (cL (cR (cR (cR (bd Tryd.f90)))))))))))))) (.seq (.block 1 (.leaf (cB (cL (cR (cB (cB (cR (cL (cR (cR (cR (bd Tryd.f90))))))))))))) (.leaf (cR (cR (cB (cB (cR (cL (cR (cR (cR (bd Tryd.f90)))))))))))))))) (.cut 1 (.seq (.leaf (cL (cR (cR (cR (cR (bd Tryd.f90))))))) (.leaf (cR (cR (cR (cR (cR (bd Tryd.f90)))))))))))))) (J := trystkeep_TwinMix.J0 R) LfYtoclhecldmahiaaDoor.mixed Tryd.func90 (by kernel_rfl) (by kernel_rfl) (mkSeq (mkSeq (mkSeq (mkSeq (mkCut (cutDef [(2, .addr), (3, .addr)] (fun x w => trystkeep_TwinMix.c1 R x.1 x.2 w) (fun _ _ => by kernel_rfl) (fun _ _ => by kernel_rfl)) (mkSeq mkLeaf mkLeaf)) (mkSeq (mkBlock (mkLoop (loopDef LfYtoclhecldmahiaaDoor.mixed [(1, .addr), (2, .addr), (3, .addr), (4, (.int .i64))] (by kernel_rfl) (fun M2 x w => trystkeep_TwinMix.b2 R (fun y0 y1 y2 y3 w => M2 (y0, y1, y2, y3) w) x.1 x.2.1 x.2.2.1 x.2.2.2 w) (fun M2 => fun _ _ _ => False) (fun _ _ _ => by kernel_rfl) (fun M2 => (mkSeq (mkSeq mkLeaf (mkBlock mkLeaf)) (mkSeq (mkCnd mkLeaf mkLeaf) mkLeaf))) (fun x w => trystkeep_TwinMix.l2 R x.1 x.2.1 x.2.2.1 x.2.2.2 w) (by rintro ⟨c0, c1, c2, s0⟩ w ⟨I, μ, h0, h1⟩; refine ⟨fun y w => y.1 = c0 ∧ y.2.1 = c1 ∧ y.2.2.1 = c2 ∧ I y.2.2.2 w, fun y w => μ y.2.2.2 w, ⟨rfl, rfl, rfl, h0⟩, ?_⟩; rintro ⟨d0, d1, d2, t0⟩ w ⟨e0, e1, e2, hI⟩; dsimp only at e0 e1 e2 hI; subst e0; subst e1; subst e2; exact h1 _ _ hI) (fun _ _ => by kernel_rfl)))) mkLeaf)) mkLeaf) mkLeaf) mkLeaf) (kcast (by kernel_rfl) h)

/-! mix_Round -/
def mix_Round.c1 (R : Value → World → Prop) (in3 : Sl) (next10 : Addr) (x14 : Option Addr) (w : World) : Prop :=
  CallsV Tryd.prog n_mix_servers_round #[.pointer x14, .int .i64 0, .slice in3.a in3.len in3.cap] w (fun v_1 w1 =>
  ∃ (a_2 : Option Addr) (l_3 c_4 : Nat), ∃ x_5 : Int, v_1 = .tuple #[.slice a_2 l_3 c_4, .int .i64 x_5] ∧
  cond ((x_5 : Int) != 0)
  ((∀ j, j < 4 → Wr w1 (next10.add j)) ∧
  (let w2 := setCells next10 [.slice none 0 0, .slice none 0 0, .slice none 0 0, .slice none 0 0] 0 w1;
  ∃ (a_6 : Option Addr) (l_7 c_8 : Nat), w2.cell? next10 = some (.slice a_6 l_7 c_8) ∧
  ∃ (a_9 : Option Addr) (l_10 c_11 : Nat), w2.cell? (next10.add 1) = some (.slice a_9 l_10 c_11) ∧
  ∃ (a_12 : Option Addr) (l_13 c_14 : Nat), w2.cell? (next10.add 2) = some (.slice a_12 l_13 c_14) ∧
  ∃ (a_15 : Option Addr) (l_16 c_17 : Nat), w2.cell? (next10.add 3) = some (.slice a_15 l_16 c_17) ∧
  R (.tuple #[.agg #[.slice a_6 l_7 c_8, .slice a_9 l_10 c_11, .slice a_12 l_13 c_14, .slice a_15 l_16 c_17], .slice none 0 0, .int .i64 x_5]) w2))
  (∃ q_18 : Addr, x14 = some q_18 ∧
  ∃ (a_19 : Option Addr) (l_20 c_21 : Nat), w1.cell? (q_18.add 1) = some (.slice a_19 l_20 c_21) ∧
  ∃ (a_22 : Option Addr) (l_23 c_24 : Nat), w1.cell? ((q_18.add 1).add 1) = some (.slice a_22 l_23 c_24) ∧
  ∃ (a_25 : Option Addr) (l_26 c_27 : Nat), w1.cell? ((q_18.add 1).add 2) = some (.slice a_25 l_26 c_27) ∧
  ∃ (a_28 : Option Addr) (l_29 c_30 : Nat), w1.cell? ((q_18.add 1).add 3) = some (.slice a_28 l_29 c_30) ∧
  (∀ j, j < 4 → Wr w1 (next10.add j)) ∧
  (let w3 := setCells next10 [.slice a_19 l_20 c_21, .slice a_22 l_23 c_24, .slice a_25 l_26 c_27, .slice a_28 l_29 c_30] 0 w1;
  ∃ (a_31 : Option Addr) (l_32 c_33 : Nat), w3.cell? next10 = some (.slice a_31 l_32 c_33) ∧
  ∃ (a_34 : Option Addr) (l_35 c_36 : Nat), w3.cell? (next10.add 1) = some (.slice a_34 l_35 c_36) ∧
  ∃ (a_37 : Option Addr) (l_38 c_39 : Nat), w3.cell? (next10.add 2) = some (.slice a_37 l_38 c_39) ∧
  ∃ (a_40 : Option Addr) (l_41 c_42 : Nat), w3.cell? (next10.add 3) = some (.slice a_40 l_41 c_42) ∧
  R (.tuple #[.agg #[.slice a_31 l_32 c_33, .slice a_34 l_35 c_36, .slice a_37 l_38 c_39, .slice a_40 l_41 c_42], .slice a_2 l_3 c_4, .int .i64 0]) w3)))

def mix_Round.b2 (R : Value → World → Prop) (N2 : Sl → Addr → Addr → Option Addr → Int → World → Prop) (in3 : Sl) (st6 : Addr) (next10 : Addr) (x14 : Option Addr) (t48 : Int) (w : World) : Prop :=
  cond (decide ((t48 : Int) < 3))
  (∃ S_43 : World → Prop, S_43 w.drew ∧
  0 ≤ (t48 : Int) ∧ t48 < ((3 : Nat) : Int) ∧
  ∃ (a_44 : Option Addr) (l_45 c_46 : Nat), (∀ x, S_43 x → x.cell? ((st6.add 1).add (t48 : Int).toNat) = some (.slice a_44 l_45 c_46)) ∧
  ∃ q_47 : Addr, x14 = some q_47 ∧
  CallsV Tryd.prog n_slices_Clone_int #[.slice a_44 l_45 c_46] w.drew (fun v_48 w4 =>
  ∃ (a_49 : Option Addr) (l_50 c_51 : Nat), v_48 = .slice a_49 l_50 c_51 ∧
  0 ≤ (t48 : Int) ∧ t48 < ((3 : Nat) : Int) ∧
  Wr w4 (((q_47.add 1).add 1).add (t48 : Int).toNat) ∧
  (let w5 := w4.setCell (((q_47.add 1).add 1).add (t48 : Int).toNat) (.slice a_49 l_50 c_51);
  N2 in3 st6 next10 x14 (IntKind.i64.wrap (t48 + 1)) w5)))
  (mix_Round.c1 R in3 next10 x14 w)

def mix_Round.l2 (R : Value → World → Prop) (in3 : Sl) (st6 : Addr) (next10 : Addr) (x14 : Option Addr) (t48 : Int) (w : World) : Prop :=
  ∃ (I : Int → World → Prop) (μ : Int → World → Nat), I t48 w ∧ ∀ s w, I s w → mix_Round.b2 R (fun in3' st6' next10' x14' t48' w' => (in3' = in3 ∧ st6' = st6 ∧ next10' = next10 ∧ x14' = x14 ∧ I t48' w') ∧ μ t48' w' < μ s w) in3 st6 next10 x14 s w

def mix_Round.main (R : Value → World → Prop) (a0 : Option Addr) (st1_0 : Sl) (st1_1 : Sl) (st1_2 : Sl) (st1_3 : Sl) (secrets2 : Sl) (in3 : Sl) (perms4 : Sl) (w : World) : Prop :=
  let w6 := w.alloc (.cells #[.slice st1_0.a st1_0.len st1_0.cap, .slice st1_1.a st1_1.len st1_1.cap, .slice st1_2.a st1_2.len st1_2.cap, .slice st1_3.a st1_3.len st1_3.cap] 127);
  let w7 := w6.alloc (.cells #[.slice none 0 0, .slice none 0 0, .slice none 0 0, .slice none 0 0] 127);
  ∃ (a_52 : Option Addr) (l_53 c_54 : Nat), w7.cell? (newA w) = some (.slice a_52 l_53 c_54) ∧
  ∃ (a_55 : Option Addr) (l_56 c_57 : Nat), w7.cell? ((newA w).add 1) = some (.slice a_55 l_56 c_57) ∧
  ∃ (a_58 : Option Addr) (l_59 c_60 : Nat), w7.cell? ((newA w).add 2) = some (.slice a_58 l_59 c_60) ∧
  ∃ (a_61 : Option Addr) (l_62 c_63 : Nat), w7.cell? ((newA w).add 3) = some (.slice a_61 l_62 c_63) ∧
  CallsV Tryd.prog n_mix_wrong #[.pointer a0, .agg #[.slice a_52 l_53 c_54, .slice a_55 l_56 c_57, .slice a_58 l_59 c_60, .slice a_61 l_62 c_63], .slice secrets2.a secrets2.len secrets2.cap, .slice in3.a in3.len in3.cap, .slice perms4.a perms4.len perms4.cap] w7 (fun v_64 w8 =>
  ∃ x_65 : Int, v_64 = .int .i64 x_65 ∧
  cond ((x_65 : Int) != 0)
  ((∀ j, j < 4 → Wr w8 ((newA w6).add j)) ∧
  (let w9 := setCells (newA w6) [.slice none 0 0, .slice none 0 0, .slice none 0 0, .slice none 0 0] 0 w8;
  ∃ (a_66 : Option Addr) (l_67 c_68 : Nat), w9.cell? (newA w6) = some (.slice a_66 l_67 c_68) ∧
  ∃ (a_69 : Option Addr) (l_70 c_71 : Nat), w9.cell? ((newA w6).add 1) = some (.slice a_69 l_70 c_71) ∧
  ∃ (a_72 : Option Addr) (l_73 c_74 : Nat), w9.cell? ((newA w6).add 2) = some (.slice a_72 l_73 c_74) ∧
  ∃ (a_75 : Option Addr) (l_76 c_77 : Nat), w9.cell? ((newA w6).add 3) = some (.slice a_75 l_76 c_77) ∧
  R (.tuple #[.agg #[.slice a_66 l_67 c_68, .slice a_69 l_70 c_71, .slice a_72 l_73 c_74, .slice a_75 l_76 c_77], .slice none 0 0, .int .i64 x_65]) w9))
  (CallsV Tryd.prog n_term_Arena_Make #[.pointer a0, .int .i64 2, .int .i64 0, .slice none 0 0] w8 (fun v_78 w10 =>
  ∃ x_79 : Int, ∃ x_80 : Int, v_78 = .tuple #[.int .i64 x_79, .int .i64 x_80] ∧
  cond ((x_80 : Int) != 0)
  ((∀ j, j < 4 → Wr w10 ((newA w6).add j)) ∧
  (let w11 := setCells (newA w6) [.slice none 0 0, .slice none 0 0, .slice none 0 0, .slice none 0 0] 0 w10;
  ∃ (a_81 : Option Addr) (l_82 c_83 : Nat), w11.cell? (newA w6) = some (.slice a_81 l_82 c_83) ∧
  ∃ (a_84 : Option Addr) (l_85 c_86 : Nat), w11.cell? ((newA w6).add 1) = some (.slice a_84 l_85 c_86) ∧
  ∃ (a_87 : Option Addr) (l_88 c_89 : Nat), w11.cell? ((newA w6).add 2) = some (.slice a_87 l_88 c_89) ∧
  ∃ (a_90 : Option Addr) (l_91 c_92 : Nat), w11.cell? ((newA w6).add 3) = some (.slice a_90 l_91 c_92) ∧
  R (.tuple #[.agg #[.slice a_81 l_82 c_83, .slice a_84 l_85 c_86, .slice a_87 l_88 c_89, .slice a_90 l_91 c_92], .slice none 0 0, .int .i64 x_80]) w11))
  (let w12 := w10.alloc (.cells #[.pointer a0, .slice none 0 0, .slice none 0 0, .slice none 0 0, .slice none 0 0, .slice secrets2.a secrets2.len secrets2.cap, .slice perms4.a perms4.len perms4.cap, .int .i64 x_79] 193);
  ∃ (a_93 : Option Addr) (l_94 c_95 : Nat), w12.cell? (newA w) = some (.slice a_93 l_94 c_95) ∧
  CallsV Tryd.prog n_slices_Clone_Reg #[.slice a_93 l_94 c_95] w12 (fun v_96 w13 =>
  ∃ (a_97 : Option Addr) (l_98 c_99 : Nat), v_96 = .slice a_97 l_98 c_99 ∧
  ∃ q_100 : Addr, some (newA w10) = some q_100 ∧
  Wr w13 (q_100.add 1) ∧
  (let w14 := w13.setCell (q_100.add 1) (.slice a_97 l_98 c_99);
  mix_Round.l2 R in3 (newA w) (newA w6) (some (newA w10)) 0 w14))))))

def mix_Round.J0 (R : Value → World → Prop) (k : Nat) (fr : Fr) (w : World) : Prop :=
  cond (Nat.beq k 2) (dec [(3, .slice), (6, .addr), (10, .addr), (14, .ptr), (48, (.int .i64))] fr fun x => mix_Round.l2 R x.1 x.2.1 x.2.2.1 x.2.2.2.1 x.2.2.2.2 w) (cond (Nat.beq k 1) (dec [(3, .slice), (10, .addr), (14, .ptr)] fr fun x => mix_Round.c1 R x.1 x.2.1 x.2.2 w) (False))

set_option maxRecDepth 100000 in
theorem mix_Round.lift {R : Value → World → Prop} {a0 : Option Addr} {st1_0 : Sl} {st1_1 : Sl} {st1_2 : Sl} {st1_3 : Sl} {secrets2 : Sl} {in3 : Sl} {perms4 : Sl} {w : World} (h : mix_Round.main R a0 st1_0 st1_1 st1_2 st1_3 secrets2 in3 perms4 w) : CallsV Tryd.prog n_mix_Round #[.pointer a0, .agg #[.slice st1_0.a st1_0.len st1_0.cap, .slice st1_1.a st1_1.len st1_1.cap, .slice st1_2.a st1_2.len st1_2.cap, .slice st1_3.a st1_3.len st1_3.cap], .slice secrets2.a secrets2.len secrets2.cap, .slice in3.a in3.len in3.cap, .slice perms4.a perms4.len perms4.cap] w R :=
  liftCalls (c := (.seq (.leaf (cL (bd Tryd.f92))) (.seq (.leaf (cL (cR (bd Tryd.f92)))) (.seq (.seq (.leaf (cL (cL (cR (cR (bd Tryd.f92)))))) (.cnd (.tmp 23) (.seq (.leaf (cL (cT (cR (cL (cR (cR (bd Tryd.f92)))))))) (.leaf (cR (cT (cR (cL (cR (cR (bd Tryd.f92))))))))) (.leaf (cE (cR (cL (cR (cR (bd Tryd.f92))))))))) (.seq (.leaf (cL (cR (cR (cR (bd Tryd.f92)))))) (.seq (.seq (.leaf (cL (cL (cR (cR (cR (cR (bd Tryd.f92)))))))) (.cnd (.tmp 32) (.seq (.leaf (cL (cT (cR (cL (cR (cR (cR (cR (bd Tryd.f92)))))))))) (.leaf (cR (cT (cR (cL (cR (cR (cR (cR (bd Tryd.f92))))))))))) (.leaf (cE (cR (cL (cR (cR (cR (cR (bd Tryd.f92))))))))))) (.seq (.leaf (cL (cR (cR (cR (cR (cR (bd Tryd.f92)))))))) (.seq (.leaf (cL (cR (cR (cR (cR (cR (cR (bd Tryd.f92))))))))) (.seq (.seq (.leaf (cL (cL (cR (cR (cR (cR (cR (cR (cR (bd Tryd.f92))))))))))) (.block 0 (.loop 2 (.seq (.leaf (cL (cB (cB (cR (cL (cR (cR (cR (cR (cR (cR (cR (bd Tryd.f92)))))))))))))) (.seq (.cnd (.tmp 49) (.leaf (cT (cL (cR (cB (cB (cR (cL (cR (cR (cR (cR (cR (cR (cR (bd Tryd.f92)))))))))))))))) (.leaf (cE (cL (cR (cB (cB (cR (cL (cR (cR (cR (cR (cR (cR (cR (bd Tryd.f92))))))))))))))))) (.seq (.block 1 (.seq (.leaf (cL (cB (cL (cR (cR (cB (cB (cR (cL (cR (cR (cR (cR (cR (cR (cR (bd Tryd.f92)))))))))))))))))) (.leaf (cR (cB (cL (cR (cR (cB (cB (cR (cL (cR (cR (cR (cR (cR (cR (cR (bd Tryd.f92)))))))))))))))))))) (.leaf (cR (cR (cR (cB (cB (cR (cL (cR (cR (cR (cR (cR (cR (cR (bd Tryd.f92)))))))))))))))))))))) (.cut 1 (.seq (.leaf (cL (cR (cR (cR (cR (cR (cR (cR (cR (bd Tryd.f92))))))))))) (.seq (.seq (.leaf (cL (cL (cR (cR (cR (cR (cR (cR (cR (cR (cR (bd Tryd.f92))))))))))))) (.cnd (.tmp 70) (.seq (.leaf (cL (cT (cR (cL (cR (cR (cR (cR (cR (cR (cR (cR (cR (bd Tryd.f92))))))))))))))) (.leaf (cR (cT (cR (cL (cR (cR (cR (cR (cR (cR (cR (cR (cR (bd Tryd.f92)))))))))))))))) (.leaf (cE (cR (cL (cR (cR (cR (cR (cR (cR (cR (cR (cR (bd Tryd.f92)))))))))))))))) (.seq (.leaf (cL (cR (cR (cR (cR (cR (cR (cR (cR (cR (cR (bd Tryd.f92))))))))))))) (.leaf (cR (cR (cR (cR (cR (cR (cR (cR (cR (cR (cR (bd Tryd.f92)))))))))))))))))))))))))) (J := mix_Round.J0 R) LfYtoclhecldmahiaaDoor.mixed Tryd.func92 (by kernel_rfl) (by kernel_rfl) (mkSeq (mkSeq (mkSeq (mkSeq (mkSeq (mkSeq (mkSeq (mkSeq (mkCut (cutDef [(3, .slice), (10, .addr), (14, .ptr)] (fun x w => mix_Round.c1 R x.1 x.2.1 x.2.2 w) (fun _ _ => by kernel_rfl) (fun _ _ => by kernel_rfl)) (mkSeq (mkSeq (mkSeq mkLeaf mkLeaf) (mkSeq (mkCnd (mkSeq mkLeaf mkLeaf) mkLeaf) mkLeaf)) mkLeaf)) (mkSeq (mkBlock (mkLoop (loopDef LfYtoclhecldmahiaaDoor.mixed [(3, .slice), (6, .addr), (10, .addr), (14, .ptr), (48, (.int .i64))] (by kernel_rfl) (fun M2 x w => mix_Round.b2 R (fun y0 y1 y2 y3 y4 w => M2 (y0, y1, y2, y3, y4) w) x.1 x.2.1 x.2.2.1 x.2.2.2.1 x.2.2.2.2 w) (fun M2 => fun _ _ _ => False) (fun _ _ _ => by kernel_rfl) (fun M2 => (mkSeq (mkSeq (mkSeq mkLeaf (mkBlock (mkSeq mkLeaf mkLeaf))) (mkCnd mkLeaf mkLeaf)) mkLeaf)) (fun x w => mix_Round.l2 R x.1 x.2.1 x.2.2.1 x.2.2.2.1 x.2.2.2.2 w) (by rintro ⟨c0, c1, c2, c3, s0⟩ w ⟨I, μ, h0, h1⟩; refine ⟨fun y w => y.1 = c0 ∧ y.2.1 = c1 ∧ y.2.2.1 = c2 ∧ y.2.2.2.1 = c3 ∧ I y.2.2.2.2 w, fun y w => μ y.2.2.2.2 w, ⟨rfl, rfl, rfl, rfl, h0⟩, ?_⟩; rintro ⟨d0, d1, d2, d3, t0⟩ w ⟨e0, e1, e2, e3, hI⟩; dsimp only at e0 e1 e2 e3 hI; subst e0; subst e1; subst e2; subst e3; exact h1 _ _ hI) (fun _ _ => by kernel_rfl)))) mkLeaf)) mkLeaf) mkLeaf) (mkSeq (mkCnd (mkSeq mkLeaf mkLeaf) mkLeaf) mkLeaf)) mkLeaf) (mkSeq (mkCnd (mkSeq mkLeaf mkLeaf) mkLeaf) mkLeaf)) mkLeaf) mkLeaf) (kcast (by kernel_rfl) h)

/-! trystref22_Round -/
def trystref22_Round.main (R : Value → World → Prop) (a0 : Option Addr) (st1_0 : Sl) (st1_1 : Sl) (st1_2 : Sl) (st1_3 : Sl) (secrets2 : Sl) (in3 : Sl) (perms4 : Sl) (w : World) : Prop :=
  let w1 := w.alloc (.cells #[.slice st1_0.a st1_0.len st1_0.cap, .slice st1_1.a st1_1.len st1_1.cap, .slice st1_2.a st1_2.len st1_2.cap, .slice st1_3.a st1_3.len st1_3.cap] 127);
  let w2 := w1.alloc (.cells #[.slice none 0 0, .slice none 0 0, .slice none 0 0, .slice none 0 0] 127);
  ∃ (a_1 : Option Addr) (l_2 c_3 : Nat), w2.cell? (newA w) = some (.slice a_1 l_2 c_3) ∧
  ∃ (a_4 : Option Addr) (l_5 c_6 : Nat), w2.cell? ((newA w).add 1) = some (.slice a_4 l_5 c_6) ∧
  ∃ (a_7 : Option Addr) (l_8 c_9 : Nat), w2.cell? ((newA w).add 2) = some (.slice a_7 l_8 c_9) ∧
  ∃ (a_10 : Option Addr) (l_11 c_12 : Nat), w2.cell? ((newA w).add 3) = some (.slice a_10 l_11 c_12) ∧
  CallsV Tryd.prog n_trystkeep_TwinMix #[.agg #[.slice a_1 l_2 c_3, .slice a_4 l_5 c_6, .slice a_7 l_8 c_9, .slice a_10 l_11 c_12]] w2 (fun v_13 w3 =>
  ∃ (a_14 : Option Addr) (l_15 c_16 : Nat), ∃ (a_17 : Option Addr) (l_18 c_19 : Nat), ∃ (a_20 : Option Addr) (l_21 c_22 : Nat), ∃ (a_23 : Option Addr) (l_24 c_25 : Nat), v_13 = .agg #[.slice a_14 l_15 c_16, .slice a_17 l_18 c_19, .slice a_20 l_21 c_22, .slice a_23 l_24 c_25] ∧
  let w4 := w3.alloc (.cells #[.slice none 0 0, .slice none 0 0, .slice none 0 0, .slice none 0 0] 127);
  (∀ j, j < 4 → Wr w4 ((newA w3).add j)) ∧
  (let w5 := setCells (newA w3) [.slice a_14 l_15 c_16, .slice a_17 l_18 c_19, .slice a_20 l_21 c_22, .slice a_23 l_24 c_25] 0 w4;
  CallsV Tryd.prog n_trystref22_server #[.pointer a0, .pointer (some (newA w3)), .int .i64 0, .slice secrets2.a secrets2.len secrets2.cap, .slice in3.a in3.len in3.cap, .slice perms4.a perms4.len perms4.cap] w5 (fun v_26 w6 =>
  ∃ (a_27 : Option Addr) (l_28 c_29 : Nat), v_26 = .slice a_27 l_28 c_29 ∧
  ∃ (a_30 : Option Addr) (l_31 c_32 : Nat), w6.cell? (newA w3) = some (.slice a_30 l_31 c_32) ∧
  ∃ (a_33 : Option Addr) (l_34 c_35 : Nat), w6.cell? ((newA w3).add 1) = some (.slice a_33 l_34 c_35) ∧
  ∃ (a_36 : Option Addr) (l_37 c_38 : Nat), w6.cell? ((newA w3).add 2) = some (.slice a_36 l_37 c_38) ∧
  ∃ (a_39 : Option Addr) (l_40 c_41 : Nat), w6.cell? ((newA w3).add 3) = some (.slice a_39 l_40 c_41) ∧
  (∀ j, j < 4 → Wr w6 ((newA w1).add j)) ∧
  (let w7 := setCells (newA w1) [.slice a_30 l_31 c_32, .slice a_33 l_34 c_35, .slice a_36 l_37 c_38, .slice a_39 l_40 c_41] 0 w6;
  ∃ (a_42 : Option Addr) (l_43 c_44 : Nat), w7.cell? (newA w1) = some (.slice a_42 l_43 c_44) ∧
  ∃ (a_45 : Option Addr) (l_46 c_47 : Nat), w7.cell? ((newA w1).add 1) = some (.slice a_45 l_46 c_47) ∧
  ∃ (a_48 : Option Addr) (l_49 c_50 : Nat), w7.cell? ((newA w1).add 2) = some (.slice a_48 l_49 c_50) ∧
  ∃ (a_51 : Option Addr) (l_52 c_53 : Nat), w7.cell? ((newA w1).add 3) = some (.slice a_51 l_52 c_53) ∧
  R (.tuple #[.agg #[.slice a_42 l_43 c_44, .slice a_45 l_46 c_47, .slice a_48 l_49 c_50, .slice a_51 l_52 c_53], .slice a_27 l_28 c_29]) w7))))

def trystref22_Round.J0 (_ : Value → World → Prop) (_ : Nat) (_ : Fr) (_ : World) : Prop := False

set_option maxRecDepth 100000 in
theorem trystref22_Round.lift {R : Value → World → Prop} {a0 : Option Addr} {st1_0 : Sl} {st1_1 : Sl} {st1_2 : Sl} {st1_3 : Sl} {secrets2 : Sl} {in3 : Sl} {perms4 : Sl} {w : World} (h : trystref22_Round.main R a0 st1_0 st1_1 st1_2 st1_3 secrets2 in3 perms4 w) : CallsV Tryd.prog n_trystref22_Round #[.pointer a0, .agg #[.slice st1_0.a st1_0.len st1_0.cap, .slice st1_1.a st1_1.len st1_1.cap, .slice st1_2.a st1_2.len st1_2.cap, .slice st1_3.a st1_3.len st1_3.cap], .slice secrets2.a secrets2.len secrets2.cap, .slice in3.a in3.len in3.cap, .slice perms4.a perms4.len perms4.cap] w R :=
  liftCalls (c := (.seq (.leaf (cL (bd Tryd.f95))) (.seq (.leaf (cL (cR (bd Tryd.f95)))) (.seq (.leaf (cL (cR (cR (bd Tryd.f95))))) (.seq (.leaf (cL (cR (cR (cR (bd Tryd.f95)))))) (.leaf (cR (cR (cR (cR (bd Tryd.f95))))))))))) (J := trystref22_Round.J0 R) LfYtoclhecldmahiaaDoor.mixed Tryd.func95 (by kernel_rfl) (by kernel_rfl) (mkSeq (mkSeq (mkSeq (mkSeq mkLeaf mkLeaf) mkLeaf) mkLeaf) mkLeaf) (kcast (by kernel_rfl) h)

/-! mix_has -/
def mix_has.main (R : Value → World → Prop) (a0 : Option Addr) (regs1 : Sl) (w : World) : Prop :=
  let w1 := w.alloc (.cells #[.pointer a0] 27);
  CallsV Tryd.prog n_slices_ContainsFunc_Reg #[.slice regs1.a regs1.len regs1.cap, .func (.func n_mix_has_1) #[] #[.pointer (some (newA w))]] w1 (fun v_1 w2 =>
  ∃ b_2 : Bool, v_1 = .bool b_2 ∧
  R (.bool (!b_2)) w2)

def mix_has.J0 (_ : Value → World → Prop) (_ : Nat) (_ : Fr) (_ : World) : Prop := False

set_option maxRecDepth 100000 in
theorem mix_has.lift {R : Value → World → Prop} {a0 : Option Addr} {regs1 : Sl} {w : World} (h : mix_has.main R a0 regs1 w) : CallsV Tryd.prog n_mix_has #[.pointer a0, .slice regs1.a regs1.len regs1.cap] w R :=
  liftCalls (c := (.seq (.leaf (cL (bd Tryd.f111))) (.seq (.leaf (cL (cR (bd Tryd.f111)))) (.leaf (cR (cR (bd Tryd.f111))))))) (J := mix_has.J0 R) LfYtoclhecldmahiaaDoor.mixed Tryd.func111 (by kernel_rfl) (by kernel_rfl) (mkSeq (mkSeq mkLeaf mkLeaf) mkLeaf) (kcast (by kernel_rfl) h)

/-! slices_Clone_Reg -/
def slices_Clone_Reg.main (R : Value → World → Prop) (s0 : Sl) (w : World) : Prop :=
  cond ((s0.a).isNone)
  (R (.slice none 0 0) w)
  (let w1 := w.alloc (.cells #[] 72);
  ∃ (a_1 : Option Addr) (l_2 c_3 : Nat), ∃ w2 : World, (builtin .append #[57, 57] 57 #[] #[.slice (some (newA w)) 0 0, .slice s0.a s0.len s0.cap]).run Tryd.prog w1 = .ok (.value (.slice a_1 l_2 c_3)) w2 ∧
  R (.slice a_1 l_2 c_3) w2)

def slices_Clone_Reg.J0 (_ : Value → World → Prop) (_ : Nat) (_ : Fr) (_ : World) : Prop := False

set_option maxRecDepth 100000 in
theorem slices_Clone_Reg.lift {R : Value → World → Prop} {s0 : Sl} {w : World} (h : slices_Clone_Reg.main R s0 w) : CallsV Tryd.prog n_slices_Clone_Reg #[.slice s0.a s0.len s0.cap] w R :=
  liftCalls (c := (.seq (.leaf (cL (bd Tryd.f112))) (.seq (.seq (.leaf (cL (cL (cR (bd Tryd.f112))))) (.cnd (.tmp 4) (.seq (.leaf (cL (cT (cR (cL (cR (bd Tryd.f112))))))) (.leaf (cR (cT (cR (cL (cR (bd Tryd.f112)))))))) (.leaf (cE (cR (cL (cR (bd Tryd.f112)))))))) (.seq (.leaf (cL (cR (cR (bd Tryd.f112))))) (.leaf (cR (cR (cR (bd Tryd.f112))))))))) (J := slices_Clone_Reg.J0 R) LfYtoclhecldmahiaaDoor.mixed Tryd.func112 (by kernel_rfl) (by kernel_rfl) (mkSeq (mkSeq (mkSeq mkLeaf mkLeaf) (mkSeq (mkCnd (mkSeq mkLeaf mkLeaf) mkLeaf) mkLeaf)) mkLeaf) (kcast (by kernel_rfl) h)

/-! mix_requestOf -/
def mix_requestOf.c1 (R : Value → World → Prop) (t4 : Addr) (r6 : Addr) (w : World) : Prop :=
  ∃ x_1 : Int, w.cell? r6 = some (.int .i64 x_1) ∧
  ∃ (a_2 : Option Addr) (l_3 c_4 : Nat), w.cell? (r6.add 1) = some (.slice a_2 l_3 c_4) ∧
  (∀ j, j < 2 → Wr w (t4.add j)) ∧
  (let w1 := setCells t4 [.int .i64 x_1, .slice a_2 l_3 c_4] 0 w;
  ∃ x_5 : Int, w1.cell? t4 = some (.int .i64 x_5) ∧
  ∃ (a_6 : Option Addr) (l_7 c_8 : Nat), w1.cell? (t4.add 1) = some (.slice a_6 l_7 c_8) ∧
  R (.agg #[.int .i64 x_5, .slice a_6 l_7 c_8]) w1)

def mix_requestOf.c2 (R : Value → World → Prop) (t4 : Addr) (r6 : Addr) (want7 : Int) (w : World) : Prop :=
  ∃ x_9 : Int, w.cell? r6 = some (.int .i64 x_9) ∧
  cond (decide ((x_9 : Int) < 71))
  ((∀ j, j < 2 → Wr w (t4.add j)) ∧
  (let w2 := setCells t4 [.int .i64 0, .slice none 0 0] 0 w;
  ∃ x_10 : Int, w2.cell? t4 = some (.int .i64 x_10) ∧
  ∃ (a_11 : Option Addr) (l_12 c_13 : Nat), w2.cell? (t4.add 1) = some (.slice a_11 l_12 c_13) ∧
  R (.agg #[.int .i64 x_10, .slice a_11 l_12 c_13]) w2))
  (∃ x_14 : Int, w.cell? r6 = some (.int .i64 x_14) ∧
  cond (decide ((x_14 : Int) > 73))
  ((∀ j, j < 2 → Wr w (t4.add j)) ∧
  (let w3 := setCells t4 [.int .i64 0, .slice none 0 0] 0 w;
  ∃ x_15 : Int, w3.cell? t4 = some (.int .i64 x_15) ∧
  ∃ (a_16 : Option Addr) (l_17 c_18 : Nat), w3.cell? (t4.add 1) = some (.slice a_16 l_17 c_18) ∧
  R (.agg #[.int .i64 x_15, .slice a_16 l_17 c_18]) w3))
  (∃ (a_19 : Option Addr) (l_20 c_21 : Nat), w.cell? (r6.add 1) = some (.slice a_19 l_20 c_21) ∧
  cond ((((l_20 : Nat) : Int) : Int) != want7)
  ((∀ j, j < 2 → Wr w (t4.add j)) ∧
  (let w4 := setCells t4 [.int .i64 0, .slice none 0 0] 0 w;
  ∃ x_22 : Int, w4.cell? t4 = some (.int .i64 x_22) ∧
  ∃ (a_23 : Option Addr) (l_24 c_25 : Nat), w4.cell? (t4.add 1) = some (.slice a_23 l_24 c_25) ∧
  R (.agg #[.int .i64 x_22, .slice a_23 l_24 c_25]) w4))
  (mix_requestOf.c1 R t4 r6 w)))

def mix_requestOf.c3 (R : Value → World → Prop) (a0 : Option Addr) (t4 : Addr) (t5 : Addr) (w : World) : Prop :=
  ∃ S_26 : World → Prop, S_26 w.drew ∧
  ∃ (a_27 : Option Addr) (l_28 c_29 : Nat), (∀ x, S_26 x → x.cell? (t5.add 2) = some (.slice a_27 l_28 c_29)) ∧
  0 ≤ (0 : Int) ∧ 0 < ((l_28 : Nat) : Int) ∧ ∃ q_30 : Addr, a_27 = some q_30 ∧
  ∃ x_31 : Int, (∀ x, S_26 x → x.cell? (q_30.add (0 : Int).toNat) = some (.int .i64 x_31)) ∧
  ∃ (a_32 : Option Addr) (l_33 c_34 : Nat), (∀ x, S_26 x → x.cell? (t5.add 2) = some (.slice a_32 l_33 c_34)) ∧
  0 ≤ (1 : Int) ∧ (1 : Int) ≤ ((l_33 : Nat) : Int) ∧ (((l_33 : Nat) : Int) : Int) ≤ ((c_34 : Nat) : Int) ∧ (((c_34 : Nat) : Int) : Int) ≤ ((c_34 : Nat) : Int) ∧
  (CallsV Tryd.prog n_term_Arena_At #[.pointer a0, .int .i64 x_31] w.drew (fun v_35 w5 =>
  ∃ x_36 : Int, ∃ x_37 : Int, ∃ (a_38 : Option Addr) (l_39 c_40 : Nat), v_35 = .agg #[.int .i64 x_36, .int .i64 x_37, .slice a_38 l_39 c_40] ∧
  S_26 w5 ∧
  let w6 := w5.alloc (.cells #[.int .i64 0, .slice none 0 0] 170);
  S_26 w6 ∧
  (∀ j, j < 2 → Wr w6 ((newA w5).add j)) ∧
  (let w7 := setCells (newA w5) [.int .i64 x_37, .slice (if ((((c_34 : Nat) : Int) : Int)).toNat = ((1 : Int)).toNat then a_32 else (a_32).map (·.add ((1 : Int)).toNat)) (((((l_33 : Nat) : Int) : Int)).toNat - ((1 : Int)).toNat) (((((c_34 : Nat) : Int) : Int)).toNat - ((1 : Int)).toNat)] 0 w6;
  ∃ x_41 : Int, w7.cell? (newA w5) = some (.int .i64 x_41) ∧
  cond ((x_41 : Int) == 72)
  (mix_requestOf.c2 R t4 (newA w5) 1 w7)
  (mix_requestOf.c2 R t4 (newA w5) 2 w7)))) ∧
  (let w8 := w.drew.alloc (.cells #[.int .i64 0, .slice none 0 0] 170);
  S_26 w8 ∧
  CallsV Tryd.prog n_term_Arena_At #[.pointer a0, .int .i64 x_31] w8 (fun v_42 w9 =>
  ∃ x_43 : Int, ∃ x_44 : Int, ∃ (a_45 : Option Addr) (l_46 c_47 : Nat), v_42 = .agg #[.int .i64 x_43, .int .i64 x_44, .slice a_45 l_46 c_47] ∧
  S_26 w9 ∧
  (∀ j, j < 2 → Wr w9 ((newA w.drew).add j)) ∧
  (let w10 := setCells (newA w.drew) [.int .i64 x_44, .slice (if ((((c_34 : Nat) : Int) : Int)).toNat = ((1 : Int)).toNat then a_32 else (a_32).map (·.add ((1 : Int)).toNat)) (((((l_33 : Nat) : Int) : Int)).toNat - ((1 : Int)).toNat) (((((c_34 : Nat) : Int) : Int)).toNat - ((1 : Int)).toNat)] 0 w9;
  ∃ x_48 : Int, w10.cell? (newA w.drew) = some (.int .i64 x_48) ∧
  cond ((x_48 : Int) == 72)
  (mix_requestOf.c2 R t4 (newA w.drew) 1 w10)
  (mix_requestOf.c2 R t4 (newA w.drew) 2 w10))))

def mix_requestOf.main (R : Value → World → Prop) (a0 : Option Addr) (i1 : Int) (w : World) : Prop :=
  let w11 := w.alloc (.cells #[.int .i64 0, .slice none 0 0] 170);
  CallsV Tryd.prog n_term_Arena_At #[.pointer a0, .int .i64 i1] w11 (fun v_49 w12 =>
  ∃ x_50 : Int, ∃ x_51 : Int, ∃ (a_52 : Option Addr) (l_53 c_54 : Nat), v_49 = .agg #[.int .i64 x_50, .int .i64 x_51, .slice a_52 l_53 c_54] ∧
  let w13 := w12.alloc (.cells #[.int .i64 0, .int .i64 0, .slice none 0 0] 98);
  (∀ j, j < 3 → Wr w13 ((newA w12).add j)) ∧
  (let w14 := setCells (newA w12) [.int .i64 x_50, .int .i64 x_51, .slice a_52 l_53 c_54] 0 w13;
  ∃ x_55 : Int, w14.cell? (newA w12) = some (.int .i64 x_55) ∧
  cond ((x_55 : Int) != 9)
  ((∀ j, j < 2 → Wr w14 ((newA w).add j)) ∧
  (let w15 := setCells (newA w) [.int .i64 0, .slice none 0 0] 0 w14;
  ∃ x_56 : Int, w15.cell? (newA w) = some (.int .i64 x_56) ∧
  ∃ (a_57 : Option Addr) (l_58 c_59 : Nat), w15.cell? ((newA w).add 1) = some (.slice a_57 l_58 c_59) ∧
  R (.agg #[.int .i64 x_56, .slice a_57 l_58 c_59]) w15))
  (∃ (a_60 : Option Addr) (l_61 c_62 : Nat), w14.cell? ((newA w12).add 2) = some (.slice a_60 l_61 c_62) ∧
  cond (decide ((((l_61 : Nat) : Int) : Int) < 2))
  ((∀ j, j < 2 → Wr w14 ((newA w).add j)) ∧
  (let w16 := setCells (newA w) [.int .i64 0, .slice none 0 0] 0 w14;
  ∃ x_63 : Int, w16.cell? (newA w) = some (.int .i64 x_63) ∧
  ∃ (a_64 : Option Addr) (l_65 c_66 : Nat), w16.cell? ((newA w).add 1) = some (.slice a_64 l_65 c_66) ∧
  R (.agg #[.int .i64 x_63, .slice a_64 l_65 c_66]) w16))
  (∃ (a_67 : Option Addr) (l_68 c_69 : Nat), w14.cell? ((newA w12).add 2) = some (.slice a_67 l_68 c_69) ∧
  0 ≤ (0 : Int) ∧ 0 < ((l_68 : Nat) : Int) ∧ ∃ q_70 : Addr, a_67 = some q_70 ∧
  ∃ x_71 : Int, w14.cell? (q_70.add (0 : Int).toNat) = some (.int .i64 x_71) ∧
  CallsV Tryd.prog n_term_Arena_At #[.pointer a0, .int .i64 x_71] w14 (fun v_72 w17 =>
  ∃ x_73 : Int, ∃ x_74 : Int, ∃ (a_75 : Option Addr) (l_76 c_77 : Nat), v_72 = .agg #[.int .i64 x_73, .int .i64 x_74, .slice a_75 l_76 c_77] ∧
  cond ((x_73 : Int) != 2)
  ((∀ j, j < 2 → Wr w17 ((newA w).add j)) ∧
  (let w18 := setCells (newA w) [.int .i64 0, .slice none 0 0] 0 w17;
  ∃ x_78 : Int, w18.cell? (newA w) = some (.int .i64 x_78) ∧
  ∃ (a_79 : Option Addr) (l_80 c_81 : Nat), w18.cell? ((newA w).add 1) = some (.slice a_79 l_80 c_81) ∧
  R (.agg #[.int .i64 x_78, .slice a_79 l_80 c_81]) w18))
  (mix_requestOf.c3 R a0 (newA w) (newA w12) w17))))))

def mix_requestOf.J0 (R : Value → World → Prop) (k : Nat) (fr : Fr) (w : World) : Prop :=
  cond (Nat.beq k 3) (dec [(0, .ptr), (4, .addr), (5, .addr)] fr fun x => mix_requestOf.c3 R x.1 x.2.1 x.2.2 w) (cond (Nat.beq k 2) (dec [(4, .addr), (6, .addr), (7, (.int .i64))] fr fun x => mix_requestOf.c2 R x.1 x.2.1 x.2.2 w) (cond (Nat.beq k 1) (dec [(4, .addr), (6, .addr)] fr fun x => mix_requestOf.c1 R x.1 x.2 w) (False)))

set_option maxRecDepth 100000 in
theorem mix_requestOf.lift {R : Value → World → Prop} {a0 : Option Addr} {i1 : Int} {w : World} (h : mix_requestOf.main R a0 i1 w) : CallsV Tryd.prog n_mix_requestOf #[.pointer a0, .int .i64 i1] w R :=
  liftCalls (c := (.seq (.leaf (cL (bd Tryd.f113))) (.seq (.leaf (cL (cR (bd Tryd.f113)))) (.seq (.seq (.leaf (cL (cL (cR (cR (bd Tryd.f113)))))) (.cnd (.tmp 29) (.seq (.leaf (cL (cT (cR (cL (cR (cR (bd Tryd.f113)))))))) (.leaf (cR (cT (cR (cL (cR (cR (bd Tryd.f113))))))))) (.leaf (cE (cR (cL (cR (cR (bd Tryd.f113))))))))) (.cut 3 (.seq (.leaf (cL (cR (cR (cR (bd Tryd.f113)))))) (.seq (.leaf (cL (cR (cR (cR (cR (bd Tryd.f113))))))) (.seq (.seq (.leaf (cL (cL (cR (cR (cR (cR (cR (bd Tryd.f113))))))))) (.cnd (.tmp 44) (.leaf (cT (cR (cL (cR (cR (cR (cR (cR (bd Tryd.f113)))))))))) (.leaf (cE (cR (cL (cR (cR (cR (cR (cR (bd Tryd.f113)))))))))))) (.cut 2 (.seq (.seq (.leaf (cL (cL (cR (cR (cR (cR (cR (cR (bd Tryd.f113)))))))))) (.cnd (.tmp 59) (.seq (.leaf (cL (cT (cR (cL (cR (cR (cR (cR (cR (cR (bd Tryd.f113)))))))))))) (.leaf (cR (cT (cR (cL (cR (cR (cR (cR (cR (cR (bd Tryd.f113))))))))))))) (.leaf (cE (cR (cL (cR (cR (cR (cR (cR (cR (bd Tryd.f113))))))))))))) (.cut 1 (.seq (.leaf (cL (cR (cR (cR (cR (cR (cR (cR (bd Tryd.f113)))))))))) (.leaf (cR (cR (cR (cR (cR (cR (cR (cR (bd Tryd.f113)))))))))))))))))))))) (J := mix_requestOf.J0 R) LfYtoclhecldmahiaaDoor.mixed Tryd.func113 (by kernel_rfl) (by kernel_rfl) (mkSeq (mkSeq (mkSeq (mkCut (cutDef [(0, .ptr), (4, .addr), (5, .addr)] (fun x w => mix_requestOf.c3 R x.1 x.2.1 x.2.2 w) (fun _ _ => by kernel_rfl) (fun _ _ => by kernel_rfl)) (mkSeq (mkSeq (mkSeq (mkCut (cutDef [(4, .addr), (6, .addr), (7, (.int .i64))] (fun x w => mix_requestOf.c2 R x.1 x.2.1 x.2.2 w) (fun _ _ => by kernel_rfl) (fun _ _ => by kernel_rfl)) (mkSeq (mkCut (cutDef [(4, .addr), (6, .addr)] (fun x w => mix_requestOf.c1 R x.1 x.2 w) (fun _ _ => by kernel_rfl) (fun _ _ => by kernel_rfl)) (mkSeq mkLeaf mkLeaf)) (mkSeq (mkCnd (mkSeq mkLeaf mkLeaf) mkLeaf) mkLeaf))) (mkSeq (mkCnd mkLeaf mkLeaf) mkLeaf)) mkLeaf) mkLeaf)) (mkSeq (mkCnd (mkSeq mkLeaf mkLeaf) mkLeaf) mkLeaf)) mkLeaf) mkLeaf) (kcast (by kernel_rfl) h)

/-! mix_last_answer -/
def mix_last_answer.c1 (R : Value → World → Prop) (s0 : Option Addr) (w : World) : Prop :=
  ∃ q_1 : Addr, s0 = some q_1 ∧
  ∃ x_2 : Int, w.cell? (q_1.add 2) = some (.int .i64 x_2) ∧
  R (.int .i64 x_2) w

def mix_last_answer.c2 (R : Value → World → Prop) (s0 : Option Addr) (k1 : Int) (w : World) : Prop :=
  CallsV Tryd.prog n_mix_last_met #[.pointer s0, .int .i64 k1] w (fun v_3 w1 =>
  ∃ x_4 : Int, v_3 = .int .i64 x_4 ∧
  R (.int .i64 x_4) w1)

def mix_last_answer.c3 (R : Value → World → Prop) (s0 : Option Addr) (r5 : Addr) (w : World) : Prop :=
  ∃ q_5 : Addr, s0 = some q_5 ∧
  ∃ (a_6 : Option Addr) (l_7 c_8 : Nat), w.cell? q_5 = some (.slice a_6 l_7 c_8) ∧
  CallsV Tryd.prog n_slices_IndexFunc_Reg #[.slice a_6 l_7 c_8, .func (.func n_mix_last_answer_2) #[] #[.pointer (some r5)]] w (fun v_9 w2 =>
  ∃ x_10 : Int, v_9 = .int .i64 x_10 ∧
  cond (decide ((x_10 : Int) < 0))
  (∃ q_11 : Addr, s0 = some q_11 ∧
  ∃ x_12 : Int, w2.cell? (q_11.add 2) = some (.int .i64 x_12) ∧
  R (.int .i64 x_12) w2)
  (∃ q_13 : Addr, s0 = some q_13 ∧
  ∃ (a_14 : Option Addr) (l_15 c_16 : Nat), w2.cell? q_13 = some (.slice a_14 l_15 c_16) ∧
  0 ≤ (x_10 : Int) ∧ x_10 < ((l_15 : Nat) : Int) ∧ ∃ q_17 : Addr, a_14 = some q_17 ∧
  ∃ x_18 : Int, w2.cell? ((q_17.add ((x_10 : Int).toNat * 2)).add 1) = some (.int .i64 x_18) ∧
  R (.int .i64 x_18) w2))

def mix_last_answer.c4 (R : Value → World → Prop) (s0 : Option Addr) (r5 : Addr) (w : World) : Prop :=
  ∃ q_19 : Addr, s0 = some q_19 ∧
  ∃ (a_20 : Option Addr) (l_21 c_22 : Nat), w.cell? q_19 = some (.slice a_20 l_21 c_22) ∧
  CallsV Tryd.prog n_slices_ContainsFunc_Reg #[.slice a_20 l_21 c_22, .func (.func n_mix_last_answer_1) #[] #[.pointer (some r5)]] w (fun v_23 w3 =>
  ∃ b_24 : Bool, v_23 = .bool b_24 ∧
  cond (!b_24)
  (∃ S_25 : World → Prop, S_25 w3.drew ∧
  ∃ q_26 : Addr, s0 = some q_26 ∧
  ∃ (a_27 : Option Addr) (l_28 c_29 : Nat), (∀ x, S_25 x → x.cell? q_26 = some (.slice a_27 l_28 c_29)) ∧
  ∃ (a_30 : Option Addr) (l_31 c_32 : Nat), (∀ x, S_25 x → x.cell? (r5.add 1) = some (.slice a_30 l_31 c_32)) ∧
  0 ≤ (0 : Int) ∧ 0 < ((l_31 : Nat) : Int) ∧ ∃ q_33 : Addr, a_30 = some q_33 ∧
  ∃ x_34 : Int, (∀ x, S_25 x → x.cell? (q_33.add (0 : Int).toNat) = some (.int .i64 x_34)) ∧
  ∃ (a_35 : Option Addr) (l_36 c_37 : Nat), (∀ x, S_25 x → x.cell? (r5.add 1) = some (.slice a_35 l_36 c_37)) ∧
  0 ≤ (1 : Int) ∧ 1 < ((l_36 : Nat) : Int) ∧ ∃ q_38 : Addr, a_35 = some q_38 ∧
  ∃ x_39 : Int, (∀ x, S_25 x → x.cell? (q_38.add (1 : Int).toNat) = some (.int .i64 x_39)) ∧
  let w4 := w3.drew.alloc (.cells #[.int .i64 x_34, .int .i64 x_39] 72);
  S_25 w4 ∧
  ∃ (a_40 : Option Addr) (l_41 c_42 : Nat), ∃ w5 : World, (builtin .append #[57, 57] 57 #[] #[.slice a_27 l_28 c_29, .slice (some (newA w3.drew)) 1 1]).run Tryd.prog w4 = .ok (.value (.slice a_40 l_41 c_42)) w5 ∧
  ∃ q_43 : Addr, s0 = some q_43 ∧
  Wr w5 q_43 ∧
  (let w6 := w5.setCell q_43 (.slice a_40 l_41 c_42);
  mix_last_answer.c3 R s0 r5 w6))
  (mix_last_answer.c3 R s0 r5 w3))

def mix_last_answer.main (R : Value → World → Prop) (s0 : Option Addr) (k1 : Int) (w : World) : Prop :=
  ∃ q_44 : Addr, s0 = some q_44 ∧
  ∃ (a_45 : Option Addr) (l_46 c_47 : Nat), w.cell? (q_44.add 1) = some (.slice a_45 l_46 c_47) ∧
  0 ≤ (k1 : Int) ∧ k1 < ((l_46 : Nat) : Int) ∧ ∃ q_48 : Addr, a_45 = some q_48 ∧
  ∃ x_49 : Int, w.cell? (q_48.add ((k1 : Int).toNat * 2)) = some (.int .i64 x_49) ∧
  ∃ (a_50 : Option Addr) (l_51 c_52 : Nat), w.cell? ((q_48.add ((k1 : Int).toNat * 2)).add 1) = some (.slice a_50 l_51 c_52) ∧
  let w7 := w.alloc (.cells #[.int .i64 0, .slice none 0 0] 170);
  (∀ j, j < 2 → Wr w7 ((newA w).add j)) ∧
  (let w8 := setCells (newA w) [.int .i64 x_49, .slice a_50 l_51 c_52] 0 w7;
  ∃ x_53 : Int, w8.cell? (newA w) = some (.int .i64 x_53) ∧
  cond ((x_53 : Int) == 71)
  (mix_last_answer.c4 R s0 (newA w) w8)
  (cond ((x_53 : Int) == 72)
  (mix_last_answer.c3 R s0 (newA w) w8)
  (cond ((x_53 : Int) == 73)
  (mix_last_answer.c2 R s0 k1 w8)
  (mix_last_answer.c1 R s0 w8))))

def mix_last_answer.J0 (R : Value → World → Prop) (k : Nat) (fr : Fr) (w : World) : Prop :=
  cond (Nat.beq k 4) (dec [(0, .ptr), (5, .addr)] fr fun x => mix_last_answer.c4 R x.1 x.2 w) (cond (Nat.beq k 3) (dec [(0, .ptr), (5, .addr)] fr fun x => mix_last_answer.c3 R x.1 x.2 w) (cond (Nat.beq k 2) (dec [(0, .ptr), (1, (.int .i64))] fr fun x => mix_last_answer.c2 R x.1 x.2 w) (cond (Nat.beq k 1) (dec [(0, .ptr)] fr fun x => mix_last_answer.c1 R x w) (False))))

set_option maxRecDepth 100000 in
theorem mix_last_answer.lift {R : Value → World → Prop} {s0 : Option Addr} {k1 : Int} {w : World} (h : mix_last_answer.main R s0 k1 w) : CallsV Tryd.prog n_mix_last_answer #[.pointer s0, .int .i64 k1] w R :=
  liftCalls (c := (.seq (.leaf (cL (bd Tryd.f114))) (.seq (.leaf (cL (cR (bd Tryd.f114)))) (.seq (.seq (.leaf (cL (cL (cR (cR (bd Tryd.f114)))))) (.block 0 (.seq (.block 3 (.seq (.block 2 (.seq (.block 1 (.seq (.seq (.seq (.leaf (cL (cL (cL (cB (cL (cB (cL (cB (cL (cB (cR (cL (cR (cR (bd Tryd.f114)))))))))))))))) (.cnd (.tmp 16) (.leaf (cT (cR (cL (cL (cB (cL (cB (cL (cB (cL (cB (cR (cL (cR (cR (bd Tryd.f114))))))))))))))))) (.leaf (cE (cR (cL (cL (cB (cL (cB (cL (cB (cL (cB (cR (cL (cR (cR (bd Tryd.f114))))))))))))))))))) (.seq (.seq (.leaf (cL (cL (cR (cL (cB (cL (cB (cL (cB (cL (cB (cR (cL (cR (cR (bd Tryd.f114))))))))))))))))) (.cnd (.tmp 18) (.leaf (cT (cR (cL (cR (cL (cB (cL (cB (cL (cB (cL (cB (cR (cL (cR (cR (bd Tryd.f114)))))))))))))))))) (.leaf (cE (cR (cL (cR (cL (cB (cL (cB (cL (cB (cL (cB (cR (cL (cR (cR (bd Tryd.f114)))))))))))))))))))) (.seq (.leaf (cL (cR (cR (cL (cB (cL (cB (cL (cB (cL (cB (cR (cL (cR (cR (bd Tryd.f114))))))))))))))))) (.cnd (.tmp 20) (.leaf (cT (cR (cR (cR (cL (cB (cL (cB (cL (cB (cL (cB (cR (cL (cR (cR (bd Tryd.f114)))))))))))))))))) (.leaf (cE (cR (cR (cR (cL (cB (cL (cB (cL (cB (cL (cB (cR (cL (cR (cR (bd Tryd.f114)))))))))))))))))))))) (.leaf (cR (cB (cL (cB (cL (cB (cL (cB (cR (cL (cR (cR (bd Tryd.f114)))))))))))))))) (.cut 4 (.seq (.leaf (cL (cR (cB (cL (cB (cL (cB (cR (cL (cR (cR (bd Tryd.f114))))))))))))) (.cnd (.tmp 28) (.leaf (cT (cR (cR (cB (cL (cB (cL (cB (cR (cL (cR (cR (bd Tryd.f114)))))))))))))) (.leaf (cE (cR (cR (cB (cL (cB (cL (cB (cR (cL (cR (cR (bd Tryd.f114))))))))))))))))))) (.cut 3 (.seq (.seq (.leaf (cL (cL (cR (cB (cL (cB (cR (cL (cR (cR (bd Tryd.f114)))))))))))) (.seq (.seq (.leaf (cL (cL (cR (cL (cR (cB (cL (cB (cR (cL (cR (cR (bd Tryd.f114)))))))))))))) (.cnd (.tmp 54) (.seq (.leaf (cL (cT (cR (cL (cR (cL (cR (cB (cL (cB (cR (cL (cR (cR (bd Tryd.f114)))))))))))))))) (.leaf (cR (cT (cR (cL (cR (cL (cR (cB (cL (cB (cR (cL (cR (cR (bd Tryd.f114))))))))))))))))) (.leaf (cE (cR (cL (cR (cL (cR (cB (cL (cB (cR (cL (cR (cR (bd Tryd.f114))))))))))))))))) (.seq (.leaf (cL (cR (cR (cL (cR (cB (cL (cB (cR (cL (cR (cR (bd Tryd.f114)))))))))))))) (.leaf (cR (cR (cR (cL (cR (cB (cL (cB (cR (cL (cR (cR (bd Tryd.f114))))))))))))))))) (.leaf (cR (cR (cB (cL (cB (cR (cL (cR (cR (bd Tryd.f114))))))))))))))) (.cut 2 (.seq (.seq (.leaf (cL (cL (cR (cB (cR (cL (cR (cR (bd Tryd.f114)))))))))) (.leaf (cR (cL (cR (cB (cR (cL (cR (cR (bd Tryd.f114))))))))))) (.leaf (cR (cR (cB (cR (cL (cR (cR (bd Tryd.f114)))))))))))))) (.cut 1 (.seq (.leaf (cL (cR (cR (cR (bd Tryd.f114)))))) (.leaf (cR (cR (cR (cR (bd Tryd.f114)))))))))))) (J := mix_last_answer.J0 R) LfYtoclhecldmahiaaDoor.mixed Tryd.func114 (by kernel_rfl) (by kernel_rfl) (mkSeq (mkSeq (mkSeq (mkCut (cutDef [(0, .ptr)] (fun x w => mix_last_answer.c1 R x w) (fun _ _ => by kernel_rfl) (fun _ _ => by kernel_rfl)) (mkSeq mkLeaf mkLeaf)) (mkSeq (mkBlock (mkSeq (mkCut (cutDef [(0, .ptr), (1, (.int .i64))] (fun x w => mix_last_answer.c2 R x.1 x.2 w) (fun _ _ => by kernel_rfl) (fun _ _ => by kernel_rfl)) (mkSeq mkLeaf (mkSeq mkLeaf mkLeaf))) (mkBlock (mkSeq (mkCut (cutDef [(0, .ptr), (5, .addr)] (fun x w => mix_last_answer.c3 R x.1 x.2 w) (fun _ _ => by kernel_rfl) (fun _ _ => by kernel_rfl)) (mkSeq mkLeaf (mkSeq (mkSeq (mkSeq mkLeaf mkLeaf) (mkSeq (mkCnd (mkSeq mkLeaf mkLeaf) mkLeaf) mkLeaf)) mkLeaf))) (mkBlock (mkSeq (mkCut (cutDef [(0, .ptr), (5, .addr)] (fun x w => mix_last_answer.c4 R x.1 x.2 w) (fun _ _ => by kernel_rfl) (fun _ _ => by kernel_rfl)) (mkSeq (mkCnd mkLeaf mkLeaf) mkLeaf)) (mkBlock (mkSeq mkLeaf (mkSeq (mkSeq (mkSeq (mkCnd mkLeaf mkLeaf) mkLeaf) (mkSeq (mkCnd mkLeaf mkLeaf) mkLeaf)) (mkSeq (mkCnd mkLeaf mkLeaf) mkLeaf)))))))))) mkLeaf)) mkLeaf) mkLeaf) (kcast (by kernel_rfl) h)

/-! trystref22_payload -/
def trystref22_payload.c1 (R : Value → World → Prop) (a0 : Option Addr) (t6 : Addr) (w : World) : Prop :=
  ∃ (a_1 : Option Addr) (l_2 c_3 : Nat), w.cell? (t6.add 2) = some (.slice a_1 l_2 c_3) ∧
  0 ≤ (1 : Int) ∧ (1 : Int) ≤ ((l_2 : Nat) : Int) ∧ (((l_2 : Nat) : Int) : Int) ≤ ((c_3 : Nat) : Int) ∧ (((c_3 : Nat) : Int) : Int) ≤ ((c_3 : Nat) : Int) ∧
  ∃ q_4 : Addr, a0 = some q_4 ∧
  ∃ (a_5 : Option Addr) (l_6 c_7 : Nat), w.cell? q_4 = some (.slice a_5 l_6 c_7) ∧
  ∃ (a_8 : Option Addr) (l_9 c_10 : Nat), w.cell? (t6.add 2) = some (.slice a_8 l_9 c_10) ∧
  0 ≤ (0 : Int) ∧ 0 < ((l_9 : Nat) : Int) ∧ ∃ q_11 : Addr, a_8 = some q_11 ∧
  ∃ x_12 : Int, w.cell? (q_11.add (0 : Int).toNat) = some (.int .i64 x_12) ∧
  0 ≤ (x_12 : Int) ∧ x_12 < ((l_6 : Nat) : Int) ∧ ∃ q_13 : Addr, a_5 = some q_13 ∧
  ∃ x_14 : Int, w.cell? ((q_13.add ((x_12 : Int).toNat * 3)).add 1) = some (.int .i64 x_14) ∧
  R (.tuple #[.slice (if ((((c_3 : Nat) : Int) : Int)).toNat = ((1 : Int)).toNat then a_1 else (a_1).map (·.add ((1 : Int)).toNat)) (((((l_2 : Nat) : Int) : Int)).toNat - ((1 : Int)).toNat) (((((c_3 : Nat) : Int) : Int)).toNat - ((1 : Int)).toNat), .int .i64 x_14]) w.drew

def trystref22_payload.main (R : Value → World → Prop) (a0 : Option Addr) (i1 : Int) (w : World) : Prop :=
  ∃ q_15 : Addr, a0 = some q_15 ∧
  ∃ (a_16 : Option Addr) (l_17 c_18 : Nat), w.cell? q_15 = some (.slice a_16 l_17 c_18) ∧
  0 ≤ (i1 : Int) ∧ i1 < ((l_17 : Nat) : Int) ∧ ∃ q_19 : Addr, a_16 = some q_19 ∧
  ∃ x_20 : Int, w.cell? (q_19.add ((i1 : Int).toNat * 3)) = some (.int .i64 x_20) ∧
  ∃ x_21 : Int, w.cell? ((q_19.add ((i1 : Int).toNat * 3)).add 1) = some (.int .i64 x_21) ∧
  ∃ (a_22 : Option Addr) (l_23 c_24 : Nat), w.cell? ((q_19.add ((i1 : Int).toNat * 3)).add 2) = some (.slice a_22 l_23 c_24) ∧
  let w1 := w.alloc (.cells #[.int .i64 0, .int .i64 0, .slice none 0 0] 98);
  (∀ j, j < 3 → Wr w1 ((newA w).add j)) ∧
  (let w2 := setCells (newA w) [.int .i64 x_20, .int .i64 x_21, .slice a_22 l_23 c_24] 0 w1;
  ∃ x_25 : Int, w2.cell? (newA w) = some (.int .i64 x_25) ∧
  cond ((x_25 : Int) != 9)
  (R (.tuple #[.slice none 0 0, .int .i64 0]) w2.drew)
  (∃ (a_26 : Option Addr) (l_27 c_28 : Nat), w2.cell? ((newA w).add 2) = some (.slice a_26 l_27 c_28) ∧
  cond (decide ((((l_27 : Nat) : Int) : Int) < 1))
  (R (.tuple #[.slice none 0 0, .int .i64 0]) w2.drew)
  (∃ q_29 : Addr, a0 = some q_29 ∧
  ∃ (a_30 : Option Addr) (l_31 c_32 : Nat), w2.cell? q_29 = some (.slice a_30 l_31 c_32) ∧
  ∃ (a_33 : Option Addr) (l_34 c_35 : Nat), w2.cell? ((newA w).add 2) = some (.slice a_33 l_34 c_35) ∧
  0 ≤ (0 : Int) ∧ 0 < ((l_34 : Nat) : Int) ∧ ∃ q_36 : Addr, a_33 = some q_36 ∧
  ∃ x_37 : Int, w2.cell? (q_36.add (0 : Int).toNat) = some (.int .i64 x_37) ∧
  0 ≤ (x_37 : Int) ∧ x_37 < ((l_31 : Nat) : Int) ∧ ∃ q_38 : Addr, a_30 = some q_38 ∧
  ∃ x_39 : Int, w2.cell? (q_38.add ((x_37 : Int).toNat * 3)) = some (.int .i64 x_39) ∧
  cond ((x_39 : Int) != 2)
  (R (.tuple #[.slice none 0 0, .int .i64 0]) w2.drew)
  (trystref22_payload.c1 R a0 (newA w) w2.drew))))

def trystref22_payload.J0 (R : Value → World → Prop) (k : Nat) (fr : Fr) (w : World) : Prop :=
  cond (Nat.beq k 1) (dec [(0, .ptr), (6, .addr)] fr fun x => trystref22_payload.c1 R x.1 x.2 w) (False)

set_option maxRecDepth 100000 in
theorem trystref22_payload.lift {R : Value → World → Prop} {a0 : Option Addr} {i1 : Int} {w : World} (h : trystref22_payload.main R a0 i1 w) : CallsV Tryd.prog n_trystref22_payload #[.pointer a0, .int .i64 i1] w R :=
  liftCalls (c := (.seq (.leaf (cL (bd Tryd.f115))) (.seq (.leaf (cL (cR (bd Tryd.f115)))) (.seq (.seq (.leaf (cL (cL (cR (cR (bd Tryd.f115)))))) (.cnd (.tmp 36) (.seq (.leaf (cL (cT (cR (cL (cR (cR (bd Tryd.f115)))))))) (.leaf (cR (cT (cR (cL (cR (cR (bd Tryd.f115))))))))) (.leaf (cE (cR (cL (cR (cR (bd Tryd.f115))))))))) (.cut 1 (.seq (.leaf (cL (cR (cR (cR (bd Tryd.f115)))))) (.leaf (cR (cR (cR (cR (bd Tryd.f115)))))))))))) (J := trystref22_payload.J0 R) LfYtoclhecldmahiaaDoor.mixed Tryd.func115 (by kernel_rfl) (by kernel_rfl) (mkSeq (mkSeq (mkSeq (mkCut (cutDef [(0, .ptr), (6, .addr)] (fun x w => trystref22_payload.c1 R x.1 x.2 w) (fun _ _ => by kernel_rfl) (fun _ _ => by kernel_rfl)) (mkSeq mkLeaf mkLeaf)) (mkSeq (mkCnd (mkSeq mkLeaf mkLeaf) mkLeaf) mkLeaf)) mkLeaf) mkLeaf) (kcast (by kernel_rfl) h)

/-! trystref22_value -/
def trystref22_value.b1 (R : Value → World → Prop) (N1 : Sl → Int → Int → World → Prop) (regs0 : Sl) (id1 : Int) (i6 : Int) (w : World) : Prop :=
  cond (decide ((i6 : Int) < ((regs0.len : Nat) : Int)))
  (0 ≤ (i6 : Int) ∧ i6 < ((regs0.len : Nat) : Int) ∧ ∃ q_1 : Addr, regs0.a = some q_1 ∧
  ∃ x_2 : Int, w.cell? (q_1.add ((i6 : Int).toNat * 2)) = some (.int .i64 x_2) ∧
  cond ((x_2 : Int) == id1)
  (0 ≤ (i6 : Int) ∧ i6 < ((regs0.len : Nat) : Int) ∧ ∃ q_3 : Addr, regs0.a = some q_3 ∧
  ∃ x_4 : Int, w.cell? ((q_3.add ((i6 : Int).toNat * 2)).add 1) = some (.int .i64 x_4) ∧
  R (.tuple #[.int .i64 x_4, .bool true]) w)
  ((let i6_4 : Int := (IntKind.i64.wrap (i6 + 1));
  N1 regs0 id1 i6_4 w)))
  (R (.tuple #[.int .i64 0, .bool false]) w)

def trystref22_value.l1 (R : Value → World → Prop) (regs0 : Sl) (id1 : Int) (i6 : Int) (w : World) : Prop :=
  ∃ (I : Int → World → Prop) (μ : Int → World → Nat), I i6 w ∧ ∀ s w, I s w → trystref22_value.b1 R (fun regs0' id1' i6' w' => (regs0' = regs0 ∧ id1' = id1 ∧ I i6' w') ∧ μ i6' w' < μ s w) regs0 id1 s w

def trystref22_value.main (R : Value → World → Prop) (regs0 : Sl) (id1 : Int) (w : World) : Prop :=
  trystref22_value.l1 R regs0 id1 0 w

def trystref22_value.J0 (R : Value → World → Prop) (k : Nat) (fr : Fr) (w : World) : Prop :=
  cond (Nat.beq k 1) (dec [(0, .slice), (1, (.int .i64)), (6, (.int .i64))] fr fun x => trystref22_value.l1 R x.1 x.2.1 x.2.2 w) (False)

set_option maxRecDepth 100000 in
theorem trystref22_value.lift {R : Value → World → Prop} {regs0 : Sl} {id1 : Int} {w : World} (h : trystref22_value.main R regs0 id1 w) : CallsV Tryd.prog n_trystref22_value #[.slice regs0.a regs0.len regs0.cap, .int .i64 id1] w R :=
  liftCalls (c := (.seq (.leaf (cL (bd Tryd.f116))) (.seq (.seq (.leaf (cL (cL (cR (bd Tryd.f116))))) (.block 0 (.loop 1 (.seq (.seq (.leaf (cL (cL (cB (cB (cR (cL (cR (bd Tryd.f116))))))))) (.cnd (.tmp 10) (.leaf (cT (cR (cL (cB (cB (cR (cL (cR (bd Tryd.f116)))))))))) (.leaf (cE (cR (cL (cB (cB (cR (cL (cR (bd Tryd.f116)))))))))))) (.seq (.block 1 (.seq (.leaf (cL (cB (cL (cR (cB (cB (cR (cL (cR (bd Tryd.f116))))))))))) (.cnd (.tmp 19) (.seq (.leaf (cL (cT (cR (cB (cL (cR (cB (cB (cR (cL (cR (bd Tryd.f116))))))))))))) (.leaf (cR (cT (cR (cB (cL (cR (cB (cB (cR (cL (cR (bd Tryd.f116)))))))))))))) (.leaf (cE (cR (cB (cL (cR (cB (cB (cR (cL (cR (bd Tryd.f116))))))))))))))) (.leaf (cR (cR (cB (cB (cR (cL (cR (bd Tryd.f116)))))))))))))) (.seq (.leaf (cL (cR (cR (bd Tryd.f116))))) (.leaf (cR (cR (cR (bd Tryd.f116))))))))) (J := trystref22_value.J0 R) LfYtoclhecldmahiaaDoor.mixed Tryd.func116 (by kernel_rfl) (by kernel_rfl) (mkSeq (mkSeq (mkSeq mkLeaf mkLeaf) (mkSeq (mkBlock (mkLoop (loopDef LfYtoclhecldmahiaaDoor.mixed [(0, .slice), (1, (.int .i64)), (6, (.int .i64))] (by kernel_rfl) (fun M1 x w => trystref22_value.b1 R (fun y0 y1 y2 w => M1 (y0, y1, y2) w) x.1 x.2.1 x.2.2 w) (fun M1 => fun _ _ _ => False) (fun _ _ _ => by kernel_rfl) (fun M1 => (mkSeq (mkSeq mkLeaf (mkBlock (mkSeq (mkCnd (mkSeq mkLeaf mkLeaf) mkLeaf) mkLeaf))) (mkSeq (mkCnd mkLeaf mkLeaf) mkLeaf))) (fun x w => trystref22_value.l1 R x.1 x.2.1 x.2.2 w) (by rintro ⟨c0, c1, s0⟩ w ⟨I, μ, h0, h1⟩; refine ⟨fun y w => y.1 = c0 ∧ y.2.1 = c1 ∧ I y.2.2 w, fun y w => μ y.2.2 w, ⟨rfl, rfl, h0⟩, ?_⟩; rintro ⟨d0, d1, t0⟩ w ⟨e0, e1, hI⟩; dsimp only at e0 e1 hI; subst e0; subst e1; exact h1 _ _ hI) (fun _ _ => by kernel_rfl)))) mkLeaf)) mkLeaf) (kcast (by kernel_rfl) h)

/-! mix_wrong -/
def mix_wrong.c1 (R : Value → World → Prop) (there13 : Bool) (w : World) : Prop :=
  cond (!there13)
  (R (.int .i64 8) w)
  (R (.int .i64 0) w)

def mix_wrong.b2 (R : Value → World → Prop) (N2 : Option Addr → (Sl × Sl × Sl) → Bool → Int → World → Prop) (a0 : Option Addr) (t56 : Sl × Sl × Sl) (there13 : Bool) (t57 : Int) (w : World) : Prop :=
  cond (decide ((t57 : Int) < 3))
  (0 ≤ (t57 : Int) ∧ t57 < ((3 : Nat) : Int) ∧ ∃ (a_1 : Option Addr) (l_2 c_3 : Nat), (#[.slice t56.1.a t56.1.len t56.1.cap, .slice t56.2.1.a t56.2.1.len t56.2.1.cap, .slice t56.2.2.a t56.2.2.len t56.2.2.cap] : Array Value)[(t57 : Int).toNat]? = some (.slice a_1 l_2 c_3) ∧
  cond there13
  (CallsV Tryd.prog n_term_Arena_Has #[.pointer a0, .slice a_1 l_2 c_3] w (fun v_4 w1 =>
  ∃ b_5 : Bool, v_4 = .bool b_5 ∧
  N2 a0 (⟨t56.1.a, t56.1.len, t56.1.cap⟩, ⟨t56.2.1.a, t56.2.1.len, t56.2.1.cap⟩, ⟨t56.2.2.a, t56.2.2.len, t56.2.2.cap⟩) b_5 (IntKind.i64.wrap (t57 + 1)) w1))
  (N2 a0 (⟨t56.1.a, t56.1.len, t56.1.cap⟩, ⟨t56.2.1.a, t56.2.1.len, t56.2.1.cap⟩, ⟨t56.2.2.a, t56.2.2.len, t56.2.2.cap⟩) false (IntKind.i64.wrap (t57 + 1)) w))
  (mix_wrong.c1 R there13 w)

def mix_wrong.l2 (R : Value → World → Prop) (a0 : Option Addr) (t56 : Sl × Sl × Sl) (there13 : Bool) (t57 : Int) (w : World) : Prop :=
  ∃ (I : (Bool × Int) → World → Prop) (μ : (Bool × Int) → World → Nat), I (there13, t57) w ∧ ∀ s w, I s w → mix_wrong.b2 R (fun a0' t56' there13' t57' w' => (a0' = a0 ∧ t56' = t56 ∧ I (there13', t57') w') ∧ μ (there13', t57') w' < μ s w) a0 t56 s.1 s.2 w

def mix_wrong.c3 (R : Value → World → Prop) (a0 : Option Addr) (st6 : Addr) (there13 : Bool) (w : World) : Prop :=
  ∃ (a_6 : Option Addr) (l_7 c_8 : Nat), w.cell? (st6.add 1) = some (.slice a_6 l_7 c_8) ∧
  ∃ (a_9 : Option Addr) (l_10 c_11 : Nat), w.cell? ((st6.add 1).add 1) = some (.slice a_9 l_10 c_11) ∧
  ∃ (a_12 : Option Addr) (l_13 c_14 : Nat), w.cell? ((st6.add 1).add 2) = some (.slice a_12 l_13 c_14) ∧
  mix_wrong.l2 R a0 (⟨a_6, l_7, c_8⟩, ⟨a_9, l_10, c_11⟩, ⟨a_12, l_13, c_14⟩) there13 0 w

def mix_wrong.c4 (R : Value → World → Prop) (a0 : Option Addr) (secrets2 : Sl) (in3 : Sl) (st6 : Addr) (w : World) : Prop :=
  ∃ (a_15 : Option Addr) (l_16 c_17 : Nat), w.cell? st6 = some (.slice a_15 l_16 c_17) ∧
  CallsV Tryd.prog n_mix_has #[.pointer a0, .slice a_15 l_16 c_17] w (fun v_18 w2 =>
  ∃ b_19 : Bool, v_18 = .bool b_19 ∧
  cond b_19
  (CallsV Tryd.prog n_term_Arena_Has #[.pointer a0, .slice secrets2.a secrets2.len secrets2.cap] w2 (fun v_20 w3 =>
  ∃ b_21 : Bool, v_20 = .bool b_21 ∧
  cond b_21
  (CallsV Tryd.prog n_term_Arena_Has #[.pointer a0, .slice in3.a in3.len in3.cap] w3 (fun v_22 w4 =>
  ∃ b_23 : Bool, v_22 = .bool b_23 ∧
  mix_wrong.c3 R a0 st6 b_23 w4))
  (mix_wrong.c3 R a0 st6 false w3)))
  (mix_wrong.c3 R a0 st6 false w2))

def mix_wrong.b5 (R : Value → World → Prop) (N5 : Option Addr → Sl → Sl → Addr → Sl → Int → Int → World → Prop) (a0 : Option Addr) (secrets2 : Sl) (in3 : Sl) (st6 : Addr) (t29 : Sl) (t30 : Int) (t31 : Int) (w : World) : Prop :=
  cond (decide ((t31 : Int) < t30))
  (0 ≤ (t31 : Int) ∧ t31 < ((t29.len : Nat) : Int) ∧ ∃ q_24 : Addr, t29.a = some q_24 ∧
  ∃ (a_25 : Option Addr) (l_26 c_27 : Nat), w.cell? (q_24.add (t31 : Int).toNat) = some (.slice a_25 l_26 c_27) ∧
  CallsV Tryd.prog n_mix_permutation #[.slice a_25 l_26 c_27, .int .i64 ((in3.len : Nat) : Int)] w (fun v_28 w5 =>
  ∃ b_29 : Bool, v_28 = .bool b_29 ∧
  cond (!b_29)
  (R (.int .i64 1) w5)
  (N5 a0 secrets2 in3 st6 t29 t30 (IntKind.i64.wrap (t31 + 1)) w5)))
  (mix_wrong.c4 R a0 secrets2 in3 st6 w)

def mix_wrong.l5 (R : Value → World → Prop) (a0 : Option Addr) (secrets2 : Sl) (in3 : Sl) (st6 : Addr) (t29 : Sl) (t30 : Int) (t31 : Int) (w : World) : Prop :=
  ∃ (I : Int → World → Prop) (μ : Int → World → Nat), I t31 w ∧ ∀ s w, I s w → mix_wrong.b5 R (fun a0' secrets2' in3' st6' t29' t30' t31' w' => (a0' = a0 ∧ secrets2' = secrets2 ∧ in3' = in3 ∧ st6' = st6 ∧ t29' = t29 ∧ t30' = t30 ∧ I t31' w') ∧ μ t31' w' < μ s w) a0 secrets2 in3 st6 t29 t30 s w

def mix_wrong.c6 (R : Value → World → Prop) (a0 : Option Addr) (secrets2 : Sl) (in3 : Sl) (perms4 : Sl) (st6 : Addr) (w : World) : Prop :=
  mix_wrong.l5 R a0 secrets2 in3 st6 perms4 ((perms4.len : Nat) : Int) 0 w

def mix_wrong.main (R : Value → World → Prop) (a0 : Option Addr) (st1_0 : Sl) (st1_1 : Sl) (st1_2 : Sl) (st1_3 : Sl) (secrets2 : Sl) (in3 : Sl) (perms4 : Sl) (w : World) : Prop :=
  let w6 := w.alloc (.cells #[.slice st1_0.a st1_0.len st1_0.cap, .slice st1_1.a st1_1.len st1_1.cap, .slice st1_2.a st1_2.len st1_2.cap, .slice st1_3.a st1_3.len st1_3.cap] 127);
  cond ((((secrets2.len : Nat) : Int) : Int) != 3)
  (R (.int .i64 2) w6)
  (cond ((((perms4.len : Nat) : Int) : Int) != 3)
  (R (.int .i64 2) w6)
  (cond (decide ((((in3.len : Nat) : Int) : Int) > 100))
  (R (.int .i64 2) w6)
  (mix_wrong.c6 R a0 secrets2 in3 perms4 (newA w) w6)))

def mix_wrong.J0 (R : Value → World → Prop) (k : Nat) (fr : Fr) (w : World) : Prop :=
  cond (Nat.beq k 6) (dec [(0, .ptr), (2, .slice), (3, .slice), (4, .slice), (6, .addr)] fr fun x => mix_wrong.c6 R x.1 x.2.1 x.2.2.1 x.2.2.2.1 x.2.2.2.2 w) (cond (Nat.beq k 5) (dec [(0, .ptr), (2, .slice), (3, .slice), (6, .addr), (29, .slice), (30, (.int .i64)), (31, (.int .i64))] fr fun x => mix_wrong.l5 R x.1 x.2.1 x.2.2.1 x.2.2.2.1 x.2.2.2.2.1 x.2.2.2.2.2.1 x.2.2.2.2.2.2 w) (cond (Nat.beq k 4) (dec [(0, .ptr), (2, .slice), (3, .slice), (6, .addr)] fr fun x => mix_wrong.c4 R x.1 x.2.1 x.2.2.1 x.2.2.2 w) (cond (Nat.beq k 3) (dec [(0, .ptr), (6, .addr), (13, .bool)] fr fun x => mix_wrong.c3 R x.1 x.2.1 x.2.2 w) (cond (Nat.beq k 2) (dec [(0, .ptr), (56, (.agg [.slice, .slice, .slice])), (13, .bool), (57, (.int .i64))] fr fun x => mix_wrong.l2 R x.1 x.2.1 x.2.2.1 x.2.2.2 w) (cond (Nat.beq k 1) (dec [(13, .bool)] fr fun x => mix_wrong.c1 R x w) (False))))))

set_option maxRecDepth 100000 in
theorem mix_wrong.lift {R : Value → World → Prop} {a0 : Option Addr} {st1_0 : Sl} {st1_1 : Sl} {st1_2 : Sl} {st1_3 : Sl} {secrets2 : Sl} {in3 : Sl} {perms4 : Sl} {w : World} (h : mix_wrong.main R a0 st1_0 st1_1 st1_2 st1_3 secrets2 in3 perms4 w) : CallsV Tryd.prog n_mix_wrong #[.pointer a0, .agg #[.slice st1_0.a st1_0.len st1_0.cap, .slice st1_1.a st1_1.len st1_1.cap, .slice st1_2.a st1_2.len st1_2.cap, .slice st1_3.a st1_3.len st1_3.cap], .slice secrets2.a secrets2.len secrets2.cap, .slice in3.a in3.len in3.cap, .slice perms4.a perms4.len perms4.cap] w R :=
  liftCalls (c := (.seq (.leaf (cL (bd Tryd.f132))) (.seq (.seq (.leaf (cL (cL (cR (bd Tryd.f132))))) (.cnd (.tmp 28) (.seq (.leaf (cL (cT (cR (cL (cR (bd Tryd.f132))))))) (.leaf (cR (cT (cR (cL (cR (bd Tryd.f132)))))))) (.leaf (cE (cR (cL (cR (bd Tryd.f132)))))))) (.cut 6 (.seq (.seq (.leaf (cL (cL (cR (cR (bd Tryd.f132)))))) (.block 0 (.loop 5 (.seq (.leaf (cL (cB (cB (cR (cL (cR (cR (bd Tryd.f132))))))))) (.seq (.cnd (.tmp 32) (.leaf (cT (cL (cR (cB (cB (cR (cL (cR (cR (bd Tryd.f132))))))))))) (.leaf (cE (cL (cR (cB (cB (cR (cL (cR (cR (bd Tryd.f132)))))))))))) (.seq (.block 1 (.seq (.leaf (cL (cB (cL (cR (cR (cB (cB (cR (cL (cR (cR (bd Tryd.f132))))))))))))) (.seq (.leaf (cL (cR (cB (cL (cR (cR (cB (cB (cR (cL (cR (cR (bd Tryd.f132)))))))))))))) (.cnd (.tmp 39) (.seq (.leaf (cL (cT (cR (cR (cB (cL (cR (cR (cB (cB (cR (cL (cR (cR (bd Tryd.f132)))))))))))))))) (.leaf (cR (cT (cR (cR (cB (cL (cR (cR (cB (cB (cR (cL (cR (cR (bd Tryd.f132))))))))))))))))) (.leaf (cE (cR (cR (cB (cL (cR (cR (cB (cB (cR (cL (cR (cR (bd Tryd.f132))))))))))))))))))) (.leaf (cR (cR (cR (cB (cB (cR (cL (cR (cR (bd Tryd.f132))))))))))))))))) (.cut 4 (.seq (.leaf (cL (cR (cR (cR (bd Tryd.f132)))))) (.cut 3 (.seq (.seq (.leaf (cL (cL (cR (cR (cR (cR (bd Tryd.f132)))))))) (.block 2 (.loop 2 (.seq (.leaf (cL (cB (cB (cR (cL (cR (cR (cR (cR (bd Tryd.f132))))))))))) (.seq (.cnd (.tmp 58) (.leaf (cT (cL (cR (cB (cB (cR (cL (cR (cR (cR (cR (bd Tryd.f132))))))))))))) (.leaf (cE (cL (cR (cB (cB (cR (cL (cR (cR (cR (cR (bd Tryd.f132)))))))))))))) (.seq (.block 3 (.seq (.leaf (cL (cB (cL (cR (cR (cB (cB (cR (cL (cR (cR (cR (cR (bd Tryd.f132))))))))))))))) (.leaf (cR (cB (cL (cR (cR (cB (cB (cR (cL (cR (cR (cR (cR (bd Tryd.f132))))))))))))))))) (.leaf (cR (cR (cR (cB (cB (cR (cL (cR (cR (cR (cR (bd Tryd.f132))))))))))))))))))) (.cut 1 (.seq (.seq (.leaf (cL (cL (cR (cR (cR (cR (cR (bd Tryd.f132))))))))) (.cnd (.tmp 68) (.seq (.leaf (cL (cT (cR (cL (cR (cR (cR (cR (cR (bd Tryd.f132))))))))))) (.leaf (cR (cT (cR (cL (cR (cR (cR (cR (cR (bd Tryd.f132)))))))))))) (.leaf (cE (cR (cL (cR (cR (cR (cR (cR (bd Tryd.f132)))))))))))) (.seq (.leaf (cL (cR (cR (cR (cR (cR (cR (bd Tryd.f132))))))))) (.leaf (cR (cR (cR (cR (cR (cR (cR (bd Tryd.f132))))))))))))))))))))) (J := mix_wrong.J0 R) LfYtoclhecldmahiaaDoor.mixed Tryd.func132 (by kernel_rfl) (by kernel_rfl) (mkSeq (mkSeq (mkCut (cutDef [(0, .ptr), (2, .slice), (3, .slice), (4, .slice), (6, .addr)] (fun x w => mix_wrong.c6 R x.1 x.2.1 x.2.2.1 x.2.2.2.1 x.2.2.2.2 w) (fun _ _ => by kernel_rfl) (fun _ _ => by kernel_rfl)) (mkSeq (mkCut (cutDef [(0, .ptr), (2, .slice), (3, .slice), (6, .addr)] (fun x w => mix_wrong.c4 R x.1 x.2.1 x.2.2.1 x.2.2.2 w) (fun _ _ => by kernel_rfl) (fun _ _ => by kernel_rfl)) (mkSeq (mkCut (cutDef [(0, .ptr), (6, .addr), (13, .bool)] (fun x w => mix_wrong.c3 R x.1 x.2.1 x.2.2 w) (fun _ _ => by kernel_rfl) (fun _ _ => by kernel_rfl)) (mkSeq (mkCut (cutDef [(13, .bool)] (fun x w => mix_wrong.c1 R x w) (fun _ _ => by kernel_rfl) (fun _ _ => by kernel_rfl)) (mkSeq (mkSeq mkLeaf mkLeaf) (mkSeq (mkCnd (mkSeq mkLeaf mkLeaf) mkLeaf) mkLeaf))) (mkSeq (mkBlock (mkLoop (loopDef LfYtoclhecldmahiaaDoor.mixed [(0, .ptr), (56, (.agg [.slice, .slice, .slice])), (13, .bool), (57, (.int .i64))] (by kernel_rfl) (fun M2 x w => mix_wrong.b2 R (fun y0 y1 y2 y3 w => M2 (y0, y1, y2, y3) w) x.1 x.2.1 x.2.2.1 x.2.2.2 w) (fun M2 => fun _ _ _ => False) (fun _ _ _ => by kernel_rfl) (fun M2 => (mkSeq (mkSeq (mkSeq mkLeaf (mkBlock (mkSeq mkLeaf mkLeaf))) (mkCnd mkLeaf mkLeaf)) mkLeaf)) (fun x w => mix_wrong.l2 R x.1 x.2.1 x.2.2.1 x.2.2.2 w) (by rintro ⟨c0, c1, s0⟩ w ⟨I, μ, h0, h1⟩; refine ⟨fun y w => y.1 = c0 ∧ y.2.1 = c1 ∧ I y.2.2 w, fun y w => μ y.2.2 w, ⟨rfl, rfl, h0⟩, ?_⟩; rintro ⟨d0, d1, t0⟩ w ⟨e0, e1, hI⟩; dsimp only at e0 e1 hI; subst e0; subst e1; exact h1 _ _ hI) (fun _ _ => by kernel_rfl)))) mkLeaf))) mkLeaf)) (mkSeq (mkBlock (mkLoop (loopDef LfYtoclhecldmahiaaDoor.mixed [(0, .ptr), (2, .slice), (3, .slice), (6, .addr), (29, .slice), (30, (.int .i64)), (31, (.int .i64))] (by kernel_rfl) (fun M5 x w => mix_wrong.b5 R (fun y0 y1 y2 y3 y4 y5 y6 w => M5 (y0, y1, y2, y3, y4, y5, y6) w) x.1 x.2.1 x.2.2.1 x.2.2.2.1 x.2.2.2.2.1 x.2.2.2.2.2.1 x.2.2.2.2.2.2 w) (fun M5 => fun _ _ _ => False) (fun _ _ _ => by kernel_rfl) (fun M5 => (mkSeq (mkSeq (mkSeq mkLeaf (mkBlock (mkSeq (mkSeq (mkCnd (mkSeq mkLeaf mkLeaf) mkLeaf) mkLeaf) mkLeaf))) (mkCnd mkLeaf mkLeaf)) mkLeaf)) (fun x w => mix_wrong.l5 R x.1 x.2.1 x.2.2.1 x.2.2.2.1 x.2.2.2.2.1 x.2.2.2.2.2.1 x.2.2.2.2.2.2 w) (by rintro ⟨c0, c1, c2, c3, c4, c5, s0⟩ w ⟨I, μ, h0, h1⟩; refine ⟨fun y w => y.1 = c0 ∧ y.2.1 = c1 ∧ y.2.2.1 = c2 ∧ y.2.2.2.1 = c3 ∧ y.2.2.2.2.1 = c4 ∧ y.2.2.2.2.2.1 = c5 ∧ I y.2.2.2.2.2.2 w, fun y w => μ y.2.2.2.2.2.2 w, ⟨rfl, rfl, rfl, rfl, rfl, rfl, h0⟩, ?_⟩; rintro ⟨d0, d1, d2, d3, d4, d5, t0⟩ w ⟨e0, e1, e2, e3, e4, e5, hI⟩; dsimp only at e0 e1 e2 e3 e4 e5 hI; subst e0; subst e1; subst e2; subst e3; subst e4; subst e5; exact h1 _ _ hI) (fun _ _ => by kernel_rfl)))) mkLeaf))) (mkSeq (mkCnd (mkSeq mkLeaf mkLeaf) mkLeaf) mkLeaf)) mkLeaf) (kcast (by kernel_rfl) h)

/-! mix_servers_round -/
def mix_servers_round.c2 (R : Value → World → Prop) (N1 : Option Addr → Int → Sl → Sl → Int → Sl → Int → World → Prop) (x0 : Option Addr) (s1 : Int) (back18 : Sl) (out20 : Sl) (answer23 : Int) (t155 : Sl) (t156 : Int) (t157 : Int) (w : World) : Prop :=
  let w1 := w.alloc (.cells #[.int .i64 answer23] 3);
  ∃ (a_1 : Option Addr) (l_2 c_3 : Nat), ∃ w2 : World, (builtin .append #[29, 29] 29 #[] #[.slice out20.a out20.len out20.cap, .slice (some (newA w)) 1 1]).run Tryd.prog w1 = .ok (.value (.slice a_1 l_2 c_3)) w2 ∧
  N1 x0 s1 back18 t155 t156 ⟨a_1, l_2, c_3⟩ (IntKind.i64.wrap (t157 + 1)) w2

def mix_servers_round.b1 (R : Value → World → Prop) (N1 : Option Addr → Int → Sl → Sl → Int → Sl → Int → World → Prop) (x0 : Option Addr) (s1 : Int) (back18 : Sl) (t155 : Sl) (t156 : Int) (out20 : Sl) (t157 : Int) (w : World) : Prop :=
  cond (decide ((t157 : Int) < t156))
  (0 ≤ (t157 : Int) ∧ t157 < ((t155.len : Nat) : Int) ∧ ∃ q_4 : Addr, t155.a = some q_4 ∧
  ∃ x_5 : Int, w.cell? (q_4.add (t157 : Int).toNat) = some (.int .i64 x_5) ∧
  ∃ q_6 : Addr, x0 = some q_6 ∧
  ∃ x_7 : Int, w.cell? (q_6.add 7) = some (.int .i64 x_7) ∧
  cond (decide ((x_5 : Int) ≥ 0))
  (∃ S_8 : World → Prop, S_8 w.drew ∧
  ∃ q_9 : Addr, x0 = some q_9 ∧
  ∃ p_10 : Option Addr, (∀ x, S_8 x → x.cell? q_9 = some (.pointer p_10)) ∧
  ∃ q_11 : Addr, x0 = some q_11 ∧
  ∃ (a_12 : Option Addr) (l_13 c_14 : Nat), (∀ x, S_8 x → x.cell? (q_11.add 6) = some (.slice a_12 l_13 c_14)) ∧
  0 ≤ (s1 : Int) ∧ s1 < ((l_13 : Nat) : Int) ∧ ∃ q_15 : Addr, a_12 = some q_15 ∧
  ∃ (a_16 : Option Addr) (l_17 c_18 : Nat), (∀ x, S_8 x → x.cell? (q_15.add (s1 : Int).toNat) = some (.slice a_16 l_17 c_18)) ∧
  0 ≤ (t157 : Int) ∧ t157 < ((l_17 : Nat) : Int) ∧ ∃ q_19 : Addr, a_16 = some q_19 ∧
  ∃ x_20 : Int, (∀ x, S_8 x → x.cell? (q_19.add (t157 : Int).toNat) = some (.int .i64 x_20)) ∧
  0 ≤ (x_20 : Int) ∧ x_20 < ((back18.len : Nat) : Int) ∧ ∃ q_21 : Addr, back18.a = some q_21 ∧
  ∃ x_22 : Int, (∀ x, S_8 x → x.cell? (q_21.add (x_20 : Int).toNat) = some (.int .i64 x_22)) ∧
  CallsV Tryd.prog n_onion_Back #[.pointer p_10, .int .i64 x_5, .int .i64 x_22] w.drew (fun v_23 w3 =>
  ∃ x_24 : Int, ∃ x_25 : Int, v_23 = .tuple #[.int .i64 x_24, .int .i64 x_25] ∧
  cond ((x_25 : Int) != 0)
  (R (.tuple #[.slice none 0 0, .int .i64 x_25]) w3)
  (mix_servers_round.c2 R N1 x0 s1 back18 out20 x_24 t155 t156 t157 w3)))
  (mix_servers_round.c2 R N1 x0 s1 back18 out20 x_7 t155 t156 t157 w))
  (R (.tuple #[.slice out20.a out20.len out20.cap, .int .i64 0]) w)

def mix_servers_round.l1 (R : Value → World → Prop) (x0 : Option Addr) (s1 : Int) (back18 : Sl) (t155 : Sl) (t156 : Int) (out20 : Sl) (t157 : Int) (w : World) : Prop :=
  ∃ (I : (Sl × Int) → World → Prop) (μ : (Sl × Int) → World → Nat), I (out20, t157) w ∧ ∀ s w, I s w → mix_servers_round.b1 R (fun x0' s1' back18' t155' t156' out20' t157' w' => (x0' = x0 ∧ s1' = s1 ∧ back18' = back18 ∧ t155' = t155 ∧ t156' = t156 ∧ I (out20', t157') w') ∧ μ (out20', t157') w' < μ s w) x0 s1 back18 t155 t156 s.1 s.2 w

def mix_servers_round.c3 (R : Value → World → Prop) (x0 : Option Addr) (s1 : Int) (on11 : Sl) (keys12 : Sl) (w : World) : Prop :=
  CallsV Tryd.prog n_mix_servers_round #[.pointer x0, .int .i64 (IntKind.i64.wrap (s1 + 1)), .slice on11.a on11.len on11.cap] w (fun v_26 w4 =>
  ∃ (a_27 : Option Addr) (l_28 c_29 : Nat), ∃ x_30 : Int, v_26 = .tuple #[.slice a_27 l_28 c_29, .int .i64 x_30] ∧
  cond ((x_30 : Int) != 0)
  (R (.tuple #[.slice none 0 0, .int .i64 x_30]) w4)
  (mix_servers_round.l1 R x0 s1 ⟨a_27, l_28, c_29⟩ keys12 ((keys12.len : Nat) : Int) ⟨none, 0, 0⟩ 0 w4))

def mix_servers_round.c5 (R : Value → World → Prop) (N4 : Option Addr → Int → Sl → Sl → Sl → Int → Int → World → Prop) (x0 : Option Addr) (s1 : Int) (on11 : Sl) (keys12 : Sl) (i13 : Int) (t14 : Int) (inner15 : Int) (key16 : Int) (t54 : Sl) (t55 : Int) (t56 : Int) (w : World) : Prop :=
  ∃ S_31 : World → Prop, S_31 w.drew ∧
  ∃ q_32 : Addr, x0 = some q_32 ∧
  0 ≤ (s1 : Int) ∧ s1 < ((3 : Nat) : Int) ∧
  ∃ (a_33 : Option Addr) (l_34 c_35 : Nat), (∀ x, S_31 x → x.cell? (((q_32.add 1).add 1).add (s1 : Int).toNat) = some (.slice a_33 l_34 c_35)) ∧
  ∃ q_36 : Addr, x0 = some q_36 ∧
  let w5 := w.drew.alloc (.cells #[.int .i64 t14] 3);
  S_31 w5 ∧
  ∃ (a_37 : Option Addr) (l_38 c_39 : Nat), ∃ w6 : World, (builtin .append #[29, 29] 29 #[] #[.slice a_33 l_34 c_35, .slice (some (newA w.drew)) 1 1]).run Tryd.prog w5 = .ok (.value (.slice a_37 l_38 c_39)) w6 ∧
  0 ≤ (s1 : Int) ∧ s1 < ((3 : Nat) : Int) ∧
  Wr w6 (((q_36.add 1).add 1).add (s1 : Int).toNat) ∧
  (let w7 := w6.setCell (((q_36.add 1).add 1).add (s1 : Int).toNat) (.slice a_37 l_38 c_39);
  ∃ q_40 : Addr, x0 = some q_40 ∧
  ∃ (a_41 : Option Addr) (l_42 c_43 : Nat), w7.cell? (q_40.add 6) = some (.slice a_41 l_42 c_43) ∧
  0 ≤ (s1 : Int) ∧ s1 < ((l_42 : Nat) : Int) ∧ ∃ q_44 : Addr, a_41 = some q_44 ∧
  ∃ (a_45 : Option Addr) (l_46 c_47 : Nat), w7.cell? (q_44.add (s1 : Int).toNat) = some (.slice a_45 l_46 c_47) ∧
  0 ≤ (i13 : Int) ∧ i13 < ((l_46 : Nat) : Int) ∧ ∃ q_48 : Addr, a_45 = some q_48 ∧
  ∃ x_49 : Int, w7.cell? (q_48.add (i13 : Int).toNat) = some (.int .i64 x_49) ∧
  0 ≤ (x_49 : Int) ∧ x_49 < ((on11.len : Nat) : Int) ∧ ∃ q_50 : Addr, on11.a = some q_50 ∧
  Wr w7 (q_50.add (x_49 : Int).toNat) ∧
  (let w8 := w7.setCell (q_50.add (x_49 : Int).toNat) (.int .i64 inner15);
  0 ≤ (i13 : Int) ∧ i13 < ((keys12.len : Nat) : Int) ∧ ∃ q_51 : Addr, keys12.a = some q_51 ∧
  Wr w8 (q_51.add (i13 : Int).toNat) ∧
  (let w9 := w8.setCell (q_51.add (i13 : Int).toNat) (.int .i64 key16);
  N4 x0 s1 on11 keys12 t54 t55 (IntKind.i64.wrap (t56 + 1)) w9)))

def mix_servers_round.c6 (R : Value → World → Prop) (N4 : Option Addr → Int → Sl → Sl → Sl → Int → Int → World → Prop) (x0 : Option Addr) (s1 : Int) (on11 : Sl) (keys12 : Sl) (i13 : Int) (t54 : Sl) (t55 : Int) (t56 : Int) (w : World) : Prop :=
  ∃ S_52 : World → Prop, S_52 w.drew ∧
  ∃ q_53 : Addr, x0 = some q_53 ∧
  ∃ (a_54 : Option Addr) (l_55 c_56 : Nat), (∀ x, S_52 x → x.cell? (q_53.add 6) = some (.slice a_54 l_55 c_56)) ∧
  0 ≤ (s1 : Int) ∧ s1 < ((l_55 : Nat) : Int) ∧ ∃ q_57 : Addr, a_54 = some q_57 ∧
  ∃ (a_58 : Option Addr) (l_59 c_60 : Nat), (∀ x, S_52 x → x.cell? (q_57.add (s1 : Int).toNat) = some (.slice a_58 l_59 c_60)) ∧
  0 ≤ (i13 : Int) ∧ i13 < ((l_59 : Nat) : Int) ∧ ∃ q_61 : Addr, a_58 = some q_61 ∧
  ∃ x_62 : Int, (∀ x, S_52 x → x.cell? (q_61.add (i13 : Int).toNat) = some (.int .i64 x_62)) ∧
  ∃ q_63 : Addr, x0 = some q_63 ∧
  ∃ x_64 : Int, (∀ x, S_52 x → x.cell? (q_63.add 7) = some (.int .i64 x_64)) ∧
  0 ≤ (x_62 : Int) ∧ x_62 < ((on11.len : Nat) : Int) ∧ ∃ q_65 : Addr, on11.a = some q_65 ∧
  Wr w.drew (q_65.add (x_62 : Int).toNat) ∧
  (let w10 := w.drew.setCell (q_65.add (x_62 : Int).toNat) (.int .i64 x_64);
  0 ≤ (i13 : Int) ∧ i13 < ((keys12.len : Nat) : Int) ∧ ∃ q_66 : Addr, keys12.a = some q_66 ∧
  Wr w10 (q_66.add (i13 : Int).toNat) ∧
  (let w11 := w10.setCell (q_66.add (i13 : Int).toNat) (.int .i64 (-1));
  N4 x0 s1 on11 keys12 t54 t55 (IntKind.i64.wrap (t56 + 1)) w11))

def mix_servers_round.b4 (R : Value → World → Prop) (N4 : Option Addr → Int → Sl → Sl → Sl → Int → Int → World → Prop) (x0 : Option Addr) (s1 : Int) (on11 : Sl) (keys12 : Sl) (t54 : Sl) (t55 : Int) (t56 : Int) (w : World) : Prop :=
  cond (decide ((t56 : Int) < t55))
  (0 ≤ (t56 : Int) ∧ t56 < ((t54.len : Nat) : Int) ∧ ∃ q_67 : Addr, t54.a = some q_67 ∧
  ∃ x_68 : Int, w.cell? (q_67.add (t56 : Int).toNat) = some (.int .i64 x_68) ∧
  ∃ S_69 : World → Prop, S_69 w.drew ∧
  ∃ q_70 : Addr, x0 = some q_70 ∧
  ∃ p_71 : Option Addr, (∀ x, S_69 x → x.cell? q_70 = some (.pointer p_71)) ∧
  ∃ q_72 : Addr, x0 = some q_72 ∧
  ∃ (a_73 : Option Addr) (l_74 c_75 : Nat), (∀ x, S_69 x → x.cell? (q_72.add 5) = some (.slice a_73 l_74 c_75)) ∧
  0 ≤ (s1 : Int) ∧ s1 < ((l_74 : Nat) : Int) ∧ ∃ q_76 : Addr, a_73 = some q_76 ∧
  ∃ x_77 : Int, (∀ x, S_69 x → x.cell? (q_76.add (s1 : Int).toNat) = some (.int .i64 x_77)) ∧
  CallsV Tryd.prog n_onion_Peel #[.pointer p_71, .int .i64 x_77, .int .i64 x_68] w.drew (fun v_78 w12 =>
  ∃ x_79 : Int, ∃ x_80 : Int, ∃ x_81 : Int, v_78 = .tuple #[.int .i64 x_79, .int .i64 x_80, .int .i64 x_81] ∧
  cond ((x_81 : Int) != 0)
  (mix_servers_round.c6 R N4 x0 s1 on11 keys12 t56 t54 t55 t56 w12)
  (∃ q_82 : Addr, x0 = some q_82 ∧
  0 ≤ (s1 : Int) ∧ s1 < ((3 : Nat) : Int) ∧
  ∃ (a_83 : Option Addr) (l_84 c_85 : Nat), w12.cell? (((q_82.add 1).add 1).add (s1 : Int).toNat) = some (.slice a_83 l_84 c_85) ∧
  CallsV Tryd.prog n_slices_Contains_int #[.slice a_83 l_84 c_85, .int .i64 x_68] w12 (fun v_86 w13 =>
  ∃ b_87 : Bool, v_86 = .bool b_87 ∧
  cond b_87
  (mix_servers_round.c6 R N4 x0 s1 on11 keys12 t56 t54 t55 t56 w13)
  (mix_servers_round.c5 R N4 x0 s1 on11 keys12 t56 x_68 x_79 x_80 t54 t55 t56 w13)))))
  (mix_servers_round.c3 R x0 s1 on11 keys12 w)

def mix_servers_round.l4 (R : Value → World → Prop) (x0 : Option Addr) (s1 : Int) (on11 : Sl) (keys12 : Sl) (t54 : Sl) (t55 : Int) (t56 : Int) (w : World) : Prop :=
  ∃ (I : Int → World → Prop) (μ : Int → World → Nat), I t56 w ∧ ∀ s w, I s w → mix_servers_round.b4 R (fun x0' s1' on11' keys12' t54' t55' t56' w' => (x0' = x0 ∧ s1' = s1 ∧ on11' = on11 ∧ keys12' = keys12 ∧ t54' = t54 ∧ t55' = t55 ∧ I t56' w') ∧ μ t56' w' < μ s w) x0 s1 on11 keys12 t54 t55 s w

def mix_servers_round.main (R : Value → World → Prop) (x0 : Option Addr) (s1 : Int) (in2 : Sl) (w : World) : Prop :=
  cond ((s1 : Int) == 3)
  (∃ S_88 : World → Prop, S_88 w.drew ∧
  ∃ q_89 : Addr, x0 = some q_89 ∧
  ∃ p_90 : Option Addr, (∀ x, S_88 x → x.cell? q_89 = some (.pointer p_90)) ∧
  ∃ q_91 : Addr, x0 = some q_91 ∧
  ∃ (a_92 : Option Addr) (l_93 c_94 : Nat), (∀ x, S_88 x → x.cell? (q_91.add 1) = some (.slice a_92 l_93 c_94)) ∧
  CallsV Tryd.prog n_mix_Do #[.pointer p_90, .slice a_92 l_93 c_94, .slice in2.a in2.len in2.cap] w.drew (fun v_95 w14 =>
  ∃ (a_96 : Option Addr) (l_97 c_98 : Nat), ∃ (a_99 : Option Addr) (l_100 c_101 : Nat), ∃ x_102 : Int, v_95 = .tuple #[.slice a_96 l_97 c_98, .slice a_99 l_100 c_101, .int .i64 x_102] ∧
  ∃ q_103 : Addr, x0 = some q_103 ∧
  Wr w14 (q_103.add 1) ∧
  (let w15 := w14.setCell (q_103.add 1) (.slice a_96 l_97 c_98);
  R (.tuple #[.slice a_99 l_100 c_101, .int .i64 x_102]) w15)))
  (∃ S_104 : World → Prop, S_104 w.drew ∧
  (0 ≤ (((in2.len : Nat) : Int) : Int) ∧ (((in2.len : Nat) : Int) : Int) ≤ ((in2.len : Nat) : Int) ∧ (8 : Int) * ((in2.len : Nat) : Int) ≤ 281474976710656 ∧ (((in2.len : Nat) : Int) : Int) ≤ 9223372036854775807 ∧
  (let w16 := w.drew.alloc (.cells ((Array.range ((((in2.len : Nat) : Int) : Int).toNat * 1)).map ((#[.int .i64 0] : Array Value)[· % (#[.int .i64 0] : Array Value).size]!)) 3);
  0 ≤ (((in2.len : Nat) : Int) : Int) ∧ (((in2.len : Nat) : Int) : Int) ≤ ((in2.len : Nat) : Int) ∧ (8 : Int) * ((in2.len : Nat) : Int) ≤ 281474976710656 ∧ (((in2.len : Nat) : Int) : Int) ≤ 9223372036854775807 ∧
  (let w17 := w16.alloc (.cells ((Array.range ((((in2.len : Nat) : Int) : Int).toNat * 1)).map ((#[.int .i64 0] : Array Value)[· % (#[.int .i64 0] : Array Value).size]!)) 3);
  mix_servers_round.l4 R x0 s1 ⟨(some (newA w.drew)), (((in2.len : Nat) : Int) : Int).toNat, (((in2.len : Nat) : Int) : Int).toNat⟩ ⟨(some (newA w16)), (((in2.len : Nat) : Int) : Int).toNat, (((in2.len : Nat) : Int) : Int).toNat⟩ in2 ((in2.len : Nat) : Int) 0 w17))) ∧
  (0 ≤ (((in2.len : Nat) : Int) : Int) ∧ (((in2.len : Nat) : Int) : Int) ≤ ((in2.len : Nat) : Int) ∧ (8 : Int) * ((in2.len : Nat) : Int) ≤ 281474976710656 ∧ (((in2.len : Nat) : Int) : Int) ≤ 9223372036854775807 ∧
  (let w18 := w.drew.alloc (.cells ((Array.range ((((in2.len : Nat) : Int) : Int).toNat * 1)).map ((#[.int .i64 0] : Array Value)[· % (#[.int .i64 0] : Array Value).size]!)) 3);
  0 ≤ (((in2.len : Nat) : Int) : Int) ∧ (((in2.len : Nat) : Int) : Int) ≤ ((in2.len : Nat) : Int) ∧ (8 : Int) * ((in2.len : Nat) : Int) ≤ 281474976710656 ∧ (((in2.len : Nat) : Int) : Int) ≤ 9223372036854775807 ∧
  (let w19 := w18.alloc (.cells ((Array.range ((((in2.len : Nat) : Int) : Int).toNat * 1)).map ((#[.int .i64 0] : Array Value)[· % (#[.int .i64 0] : Array Value).size]!)) 3);
  mix_servers_round.l4 R x0 s1 ⟨(some (newA w18)), (((in2.len : Nat) : Int) : Int).toNat, (((in2.len : Nat) : Int) : Int).toNat⟩ ⟨(some (newA w.drew)), (((in2.len : Nat) : Int) : Int).toNat, (((in2.len : Nat) : Int) : Int).toNat⟩ in2 ((in2.len : Nat) : Int) 0 w19))))

def mix_servers_round.J1 (R : Value → World → Prop) (N1 : Option Addr → Int → Sl → Sl → Int → Sl → Int → World → Prop) (k : Nat) (fr : Fr) (w : World) : Prop :=
  cond (Nat.beq k 2) (dec [(0, .ptr), (1, (.int .i64)), (18, .slice), (20, .slice), (23, (.int .i64)), (155, .slice), (156, (.int .i64)), (157, (.int .i64))] fr fun x => mix_servers_round.c2 R N1 x.1 x.2.1 x.2.2.1 x.2.2.2.1 x.2.2.2.2.1 x.2.2.2.2.2.1 x.2.2.2.2.2.2.1 x.2.2.2.2.2.2.2 w) (False)

def mix_servers_round.J4 (R : Value → World → Prop) (N4 : Option Addr → Int → Sl → Sl → Sl → Int → Int → World → Prop) (k : Nat) (fr : Fr) (w : World) : Prop :=
  cond (Nat.beq k 6) (dec [(0, .ptr), (1, (.int .i64)), (11, .slice), (12, .slice), (13, (.int .i64)), (54, .slice), (55, (.int .i64)), (56, (.int .i64))] fr fun x => mix_servers_round.c6 R N4 x.1 x.2.1 x.2.2.1 x.2.2.2.1 x.2.2.2.2.1 x.2.2.2.2.2.1 x.2.2.2.2.2.2.1 x.2.2.2.2.2.2.2 w) (cond (Nat.beq k 5) (dec [(0, .ptr), (1, (.int .i64)), (11, .slice), (12, .slice), (13, (.int .i64)), (14, (.int .i64)), (15, (.int .i64)), (16, (.int .i64)), (54, .slice), (55, (.int .i64)), (56, (.int .i64))] fr fun x => mix_servers_round.c5 R N4 x.1 x.2.1 x.2.2.1 x.2.2.2.1 x.2.2.2.2.1 x.2.2.2.2.2.1 x.2.2.2.2.2.2.1 x.2.2.2.2.2.2.2.1 x.2.2.2.2.2.2.2.2.1 x.2.2.2.2.2.2.2.2.2.1 x.2.2.2.2.2.2.2.2.2.2 w) (False))

def mix_servers_round.J0 (R : Value → World → Prop) (k : Nat) (fr : Fr) (w : World) : Prop :=
  cond (Nat.beq k 4) (dec [(0, .ptr), (1, (.int .i64)), (11, .slice), (12, .slice), (54, .slice), (55, (.int .i64)), (56, (.int .i64))] fr fun x => mix_servers_round.l4 R x.1 x.2.1 x.2.2.1 x.2.2.2.1 x.2.2.2.2.1 x.2.2.2.2.2.1 x.2.2.2.2.2.2 w) (cond (Nat.beq k 3) (dec [(0, .ptr), (1, (.int .i64)), (11, .slice), (12, .slice)] fr fun x => mix_servers_round.c3 R x.1 x.2.1 x.2.2.1 x.2.2.2 w) (cond (Nat.beq k 1) (dec [(0, .ptr), (1, (.int .i64)), (18, .slice), (155, .slice), (156, (.int .i64)), (20, .slice), (157, (.int .i64))] fr fun x => mix_servers_round.l1 R x.1 x.2.1 x.2.2.1 x.2.2.2.1 x.2.2.2.2.1 x.2.2.2.2.2.1 x.2.2.2.2.2.2 w) (False)))

set_option maxRecDepth 100000 in
theorem mix_servers_round.lift {R : Value → World → Prop} {x0 : Option Addr} {s1 : Int} {in2 : Sl} {w : World} (h : mix_servers_round.main R x0 s1 in2 w) : CallsV Tryd.prog n_mix_servers_round #[.pointer x0, .int .i64 s1, .slice in2.a in2.len in2.cap] w R :=
  liftCalls (c := (.seq (.leaf (cL (bd Tryd.f133))) (.seq (.seq (.leaf (cL (cL (cR (bd Tryd.f133))))) (.cnd (.tmp 25) (.seq (.leaf (cL (cT (cR (cL (cR (bd Tryd.f133))))))) (.seq (.leaf (cL (cR (cT (cR (cL (cR (bd Tryd.f133)))))))) (.seq (.leaf (cL (cR (cR (cT (cR (cL (cR (bd Tryd.f133))))))))) (.leaf (cR (cR (cR (cT (cR (cL (cR (bd Tryd.f133)))))))))))) (.leaf (cE (cR (cL (cR (bd Tryd.f133)))))))) (.seq (.leaf (cL (cR (cR (bd Tryd.f133))))) (.seq (.seq (.leaf (cL (cL (cR (cR (cR (bd Tryd.f133))))))) (.block 0 (.loop 4 (.seq (.leaf (cL (cB (cB (cR (cL (cR (cR (cR (bd Tryd.f133)))))))))) (.seq (.cnd (.tmp 57) (.leaf (cT (cL (cR (cB (cB (cR (cL (cR (cR (cR (bd Tryd.f133)))))))))))) (.leaf (cE (cL (cR (cB (cB (cR (cL (cR (cR (cR (bd Tryd.f133))))))))))))) (.seq (.block 1 (.seq (.leaf (cL (cB (cL (cR (cR (cB (cB (cR (cL (cR (cR (cR (bd Tryd.f133)))))))))))))) (.seq (.leaf (cL (cR (cB (cL (cR (cR (cB (cB (cR (cL (cR (cR (cR (bd Tryd.f133))))))))))))))) (.seq (.seq (.leaf (cL (cL (cR (cR (cB (cL (cR (cR (cB (cB (cR (cL (cR (cR (cR (bd Tryd.f133))))))))))))))))) (.cnd (.tmp 90) (.cut 6 (.seq (.leaf (cL (cT (cR (cL (cR (cR (cB (cL (cR (cR (cB (cB (cR (cL (cR (cR (cR (bd Tryd.f133))))))))))))))))))) (.leaf (cR (cT (cR (cL (cR (cR (cB (cL (cR (cR (cB (cB (cR (cL (cR (cR (cR (bd Tryd.f133))))))))))))))))))))) (.leaf (cE (cR (cL (cR (cR (cB (cL (cR (cR (cB (cB (cR (cL (cR (cR (cR (bd Tryd.f133)))))))))))))))))))) (.cut 5 (.seq (.leaf (cL (cR (cR (cR (cB (cL (cR (cR (cB (cB (cR (cL (cR (cR (cR (bd Tryd.f133))))))))))))))))) (.leaf (cR (cR (cR (cR (cB (cL (cR (cR (cB (cB (cR (cL (cR (cR (cR (bd Tryd.f133))))))))))))))))))))))) (.leaf (cR (cR (cR (cB (cB (cR (cL (cR (cR (cR (bd Tryd.f133)))))))))))))))))) (.cut 3 (.seq (.leaf (cL (cR (cR (cR (cR (bd Tryd.f133))))))) (.seq (.seq (.leaf (cL (cL (cR (cR (cR (cR (cR (bd Tryd.f133))))))))) (.cnd (.tmp 153) (.seq (.leaf (cL (cT (cR (cL (cR (cR (cR (cR (cR (bd Tryd.f133))))))))))) (.leaf (cR (cT (cR (cL (cR (cR (cR (cR (cR (bd Tryd.f133)))))))))))) (.leaf (cE (cR (cL (cR (cR (cR (cR (cR (bd Tryd.f133)))))))))))) (.seq (.leaf (cL (cR (cR (cR (cR (cR (cR (bd Tryd.f133))))))))) (.seq (.seq (.leaf (cL (cL (cR (cR (cR (cR (cR (cR (cR (bd Tryd.f133))))))))))) (.block 2 (.loop 1 (.seq (.leaf (cL (cB (cB (cR (cL (cR (cR (cR (cR (cR (cR (cR (bd Tryd.f133)))))))))))))) (.seq (.cnd (.tmp 158) (.leaf (cT (cL (cR (cB (cB (cR (cL (cR (cR (cR (cR (cR (cR (cR (bd Tryd.f133)))))))))))))))) (.leaf (cE (cL (cR (cB (cB (cR (cL (cR (cR (cR (cR (cR (cR (cR (bd Tryd.f133))))))))))))))))) (.seq (.block 3 (.seq (.leaf (cL (cB (cL (cR (cR (cB (cB (cR (cL (cR (cR (cR (cR (cR (cR (cR (bd Tryd.f133)))))))))))))))))) (.seq (.leaf (cL (cR (cB (cL (cR (cR (cB (cB (cR (cL (cR (cR (cR (cR (cR (cR (cR (bd Tryd.f133))))))))))))))))))) (.seq (.seq (.leaf (cL (cL (cR (cR (cB (cL (cR (cR (cB (cB (cR (cL (cR (cR (cR (cR (cR (cR (cR (bd Tryd.f133))))))))))))))))))))) (.cnd (.tmp 167) (.seq (.leaf (cL (cT (cR (cL (cR (cR (cB (cL (cR (cR (cB (cB (cR (cL (cR (cR (cR (cR (cR (cR (cR (bd Tryd.f133))))))))))))))))))))))) (.seq (.leaf (cL (cR (cT (cR (cL (cR (cR (cB (cL (cR (cR (cB (cB (cR (cL (cR (cR (cR (cR (cR (cR (cR (bd Tryd.f133)))))))))))))))))))))))) (.cnd (.tmp 191) (.seq (.leaf (cL (cT (cR (cR (cT (cR (cL (cR (cR (cB (cL (cR (cR (cB (cB (cR (cL (cR (cR (cR (cR (cR (cR (cR (bd Tryd.f133)))))))))))))))))))))))))) (.leaf (cR (cT (cR (cR (cT (cR (cL (cR (cR (cB (cL (cR (cR (cB (cB (cR (cL (cR (cR (cR (cR (cR (cR (cR (bd Tryd.f133))))))))))))))))))))))))))) (.leaf (cE (cR (cR (cT (cR (cL (cR (cR (cB (cL (cR (cR (cB (cB (cR (cL (cR (cR (cR (cR (cR (cR (cR (bd Tryd.f133)))))))))))))))))))))))))))) (.leaf (cE (cR (cL (cR (cR (cB (cL (cR (cR (cB (cB (cR (cL (cR (cR (cR (cR (cR (cR (cR (bd Tryd.f133)))))))))))))))))))))))) (.cut 2 (.leaf (cR (cR (cR (cB (cL (cR (cR (cB (cB (cR (cL (cR (cR (cR (cR (cR (cR (cR (bd Tryd.f133))))))))))))))))))))))))) (.leaf (cR (cR (cR (cB (cB (cR (cL (cR (cR (cR (cR (cR (cR (cR (bd Tryd.f133)))))))))))))))))))))) (.seq (.leaf (cL (cR (cR (cR (cR (cR (cR (cR (cR (bd Tryd.f133))))))))))) (.leaf (cR (cR (cR (cR (cR (cR (cR (cR (cR (bd Tryd.f133)))))))))))))))))))))) (J := mix_servers_round.J0 R) LfYtoclhecldmahiaaDoor.mixed Tryd.func133 (by kernel_rfl) (by kernel_rfl) (mkSeq (mkSeq (mkSeq (mkSeq (mkCut (cutDef [(0, .ptr), (1, (.int .i64)), (11, .slice), (12, .slice)] (fun x w => mix_servers_round.c3 R x.1 x.2.1 x.2.2.1 x.2.2.2 w) (fun _ _ => by kernel_rfl) (fun _ _ => by kernel_rfl)) (mkSeq (mkSeq (mkSeq (mkSeq (mkSeq mkLeaf mkLeaf) (mkSeq (mkBlock (mkLoop (loopDef LfYtoclhecldmahiaaDoor.mixed [(0, .ptr), (1, (.int .i64)), (18, .slice), (155, .slice), (156, (.int .i64)), (20, .slice), (157, (.int .i64))] (by kernel_rfl) (fun M1 x w => mix_servers_round.b1 R (fun y0 y1 y2 y3 y4 y5 y6 w => M1 (y0, y1, y2, y3, y4, y5, y6) w) x.1 x.2.1 x.2.2.1 x.2.2.2.1 x.2.2.2.2.1 x.2.2.2.2.2.1 x.2.2.2.2.2.2 w) (fun M1 => mix_servers_round.J1 R (fun y0 y1 y2 y3 y4 y5 y6 w => M1 (y0, y1, y2, y3, y4, y5, y6) w)) (fun _ _ _ => by kernel_rfl) (fun M1 => (mkSeq (mkSeq (mkSeq mkLeaf (mkBlock (mkSeq (mkSeq (mkSeq (mkCut (cutDef [(0, .ptr), (1, (.int .i64)), (18, .slice), (20, .slice), (23, (.int .i64)), (155, .slice), (156, (.int .i64)), (157, (.int .i64))] (fun x w => mix_servers_round.c2 R (fun y0 y1 y2 y3 y4 y5 y6 w => M1 (y0, y1, y2, y3, y4, y5, y6) w) x.1 x.2.1 x.2.2.1 x.2.2.2.1 x.2.2.2.2.1 x.2.2.2.2.2.1 x.2.2.2.2.2.2.1 x.2.2.2.2.2.2.2 w) (fun _ _ => by kernel_rfl) (fun _ _ => by kernel_rfl)) mkLeaf) (mkSeq (mkCnd (mkSeq (mkSeq (mkCnd (mkSeq mkLeaf mkLeaf) mkLeaf) mkLeaf) mkLeaf) mkLeaf) mkLeaf)) mkLeaf) mkLeaf))) (mkCnd mkLeaf mkLeaf)) mkLeaf)) (fun x w => mix_servers_round.l1 R x.1 x.2.1 x.2.2.1 x.2.2.2.1 x.2.2.2.2.1 x.2.2.2.2.2.1 x.2.2.2.2.2.2 w) (by rintro ⟨c0, c1, c2, c3, c4, s0⟩ w ⟨I, μ, h0, h1⟩; refine ⟨fun y w => y.1 = c0 ∧ y.2.1 = c1 ∧ y.2.2.1 = c2 ∧ y.2.2.2.1 = c3 ∧ y.2.2.2.2.1 = c4 ∧ I y.2.2.2.2.2 w, fun y w => μ y.2.2.2.2.2 w, ⟨rfl, rfl, rfl, rfl, rfl, h0⟩, ?_⟩; rintro ⟨d0, d1, d2, d3, d4, t0⟩ w ⟨e0, e1, e2, e3, e4, hI⟩; dsimp only at e0 e1 e2 e3 e4 hI; subst e0; subst e1; subst e2; subst e3; subst e4; exact h1 _ _ hI) (fun _ _ => by kernel_rfl)))) mkLeaf)) mkLeaf) (mkSeq (mkCnd (mkSeq mkLeaf mkLeaf) mkLeaf) mkLeaf)) mkLeaf)) (mkSeq (mkBlock (mkLoop (loopDef LfYtoclhecldmahiaaDoor.mixed [(0, .ptr), (1, (.int .i64)), (11, .slice), (12, .slice), (54, .slice), (55, (.int .i64)), (56, (.int .i64))] (by kernel_rfl) (fun M4 x w => mix_servers_round.b4 R (fun y0 y1 y2 y3 y4 y5 y6 w => M4 (y0, y1, y2, y3, y4, y5, y6) w) x.1 x.2.1 x.2.2.1 x.2.2.2.1 x.2.2.2.2.1 x.2.2.2.2.2.1 x.2.2.2.2.2.2 w) (fun M4 => mix_servers_round.J4 R (fun y0 y1 y2 y3 y4 y5 y6 w => M4 (y0, y1, y2, y3, y4, y5, y6) w)) (fun _ _ _ => by kernel_rfl) (fun M4 => (mkSeq (mkSeq (mkSeq mkLeaf (mkBlock (mkSeq (mkSeq (mkSeq (mkCut (cutDef [(0, .ptr), (1, (.int .i64)), (11, .slice), (12, .slice), (13, (.int .i64)), (14, (.int .i64)), (15, (.int .i64)), (16, (.int .i64)), (54, .slice), (55, (.int .i64)), (56, (.int .i64))] (fun x w => mix_servers_round.c5 R (fun y0 y1 y2 y3 y4 y5 y6 w => M4 (y0, y1, y2, y3, y4, y5, y6) w) x.1 x.2.1 x.2.2.1 x.2.2.2.1 x.2.2.2.2.1 x.2.2.2.2.2.1 x.2.2.2.2.2.2.1 x.2.2.2.2.2.2.2.1 x.2.2.2.2.2.2.2.2.1 x.2.2.2.2.2.2.2.2.2.1 x.2.2.2.2.2.2.2.2.2.2 w) (fun _ _ => by kernel_rfl) (fun _ _ => by kernel_rfl)) (mkSeq mkLeaf mkLeaf)) (mkSeq (mkCnd (mkCut (cutDef [(0, .ptr), (1, (.int .i64)), (11, .slice), (12, .slice), (13, (.int .i64)), (54, .slice), (55, (.int .i64)), (56, (.int .i64))] (fun x w => mix_servers_round.c6 R (fun y0 y1 y2 y3 y4 y5 y6 w => M4 (y0, y1, y2, y3, y4, y5, y6) w) x.1 x.2.1 x.2.2.1 x.2.2.2.1 x.2.2.2.2.1 x.2.2.2.2.2.1 x.2.2.2.2.2.2.1 x.2.2.2.2.2.2.2 w) (fun _ _ => by kernel_rfl) (fun _ _ => by kernel_rfl)) (mkSeq mkLeaf mkLeaf)) mkLeaf) mkLeaf)) mkLeaf) mkLeaf))) (mkCnd mkLeaf mkLeaf)) mkLeaf)) (fun x w => mix_servers_round.l4 R x.1 x.2.1 x.2.2.1 x.2.2.2.1 x.2.2.2.2.1 x.2.2.2.2.2.1 x.2.2.2.2.2.2 w) (by rintro ⟨c0, c1, c2, c3, c4, c5, s0⟩ w ⟨I, μ, h0, h1⟩; refine ⟨fun y w => y.1 = c0 ∧ y.2.1 = c1 ∧ y.2.2.1 = c2 ∧ y.2.2.2.1 = c3 ∧ y.2.2.2.2.1 = c4 ∧ y.2.2.2.2.2.1 = c5 ∧ I y.2.2.2.2.2.2 w, fun y w => μ y.2.2.2.2.2.2 w, ⟨rfl, rfl, rfl, rfl, rfl, rfl, h0⟩, ?_⟩; rintro ⟨d0, d1, d2, d3, d4, d5, t0⟩ w ⟨e0, e1, e2, e3, e4, e5, hI⟩; dsimp only at e0 e1 e2 e3 e4 e5 hI; subst e0; subst e1; subst e2; subst e3; subst e4; subst e5; exact h1 _ _ hI) (fun _ _ => by kernel_rfl)))) mkLeaf)) mkLeaf) (mkSeq (mkCnd (mkSeq (mkSeq (mkSeq mkLeaf mkLeaf) mkLeaf) mkLeaf) mkLeaf) mkLeaf)) mkLeaf) (kcast (by kernel_rfl) h)

/-! trystref22_server -/
def trystref22_server.b1 (R : Value → World → Prop) (N1 : Option Addr → Int → Sl → Sl → Sl → Sl → Sl → Sl → Int → World → Prop) (a0 : Option Addr) (s2 : Int) (in4 : Sl) (perms5 : Sl) (keys14 : Sl) (good15 : Sl) (back20 : Sl) (out21 : Sl) (i22 : Int) (w : World) : Prop :=
  cond (decide ((i22 : Int) < ((in4.len : Nat) : Int)))
  (CallsV Tryd.prog n_trystref10_Arena_Word #[.pointer a0, .int .i64 0] w (fun v_1 w1 =>
  ∃ x_2 : Int, v_1 = .int .i64 x_2 ∧
  0 ≤ (i22 : Int) ∧ i22 < ((out21.len : Nat) : Int) ∧ ∃ q_3 : Addr, out21.a = some q_3 ∧
  Wr w1 (q_3.add (i22 : Int).toNat) ∧
  (let w2 := w1.setCell (q_3.add (i22 : Int).toNat) (.int .i64 x_2);
  0 ≤ (i22 : Int) ∧ i22 < ((good15.len : Nat) : Int) ∧ ∃ q_4 : Addr, good15.a = some q_4 ∧
  ∃ b_5 : Bool, w2.cell? (q_4.add (i22 : Int).toNat) = some (.bool b_5) ∧
  cond b_5
  (∃ S_6 : World → Prop, S_6 w2.drew ∧
  0 ≤ (i22 : Int) ∧ i22 < ((keys14.len : Nat) : Int) ∧ ∃ q_7 : Addr, keys14.a = some q_7 ∧
  ∃ x_8 : Int, (∀ x, S_6 x → x.cell? (q_7.add (i22 : Int).toNat) = some (.int .i64 x_8)) ∧
  0 ≤ (s2 : Int) ∧ s2 < ((perms5.len : Nat) : Int) ∧ ∃ q_9 : Addr, perms5.a = some q_9 ∧
  ∃ (a_10 : Option Addr) (l_11 c_12 : Nat), (∀ x, S_6 x → x.cell? (q_9.add (s2 : Int).toNat) = some (.slice a_10 l_11 c_12)) ∧
  0 ≤ (i22 : Int) ∧ i22 < ((l_11 : Nat) : Int) ∧ ∃ q_13 : Addr, a_10 = some q_13 ∧
  ∃ x_14 : Int, (∀ x, S_6 x → x.cell? (q_13.add (i22 : Int).toNat) = some (.int .i64 x_14)) ∧
  0 ≤ (x_14 : Int) ∧ x_14 < ((back20.len : Nat) : Int) ∧ ∃ q_15 : Addr, back20.a = some q_15 ∧
  ∃ x_16 : Int, (∀ x, S_6 x → x.cell? (q_15.add (x_14 : Int).toNat) = some (.int .i64 x_16)) ∧
  let w3 := w2.drew.alloc (.cells #[.int .i64 x_8, .int .i64 x_16] 3);
  CallsV Tryd.prog n_trystref10_Arena_Make #[.pointer a0, .int .i64 6, .int .i64 0, .slice (some (newA w2.drew)) 2 2] w3 (fun v_17 w4 =>
  ∃ x_18 : Int, v_17 = .int .i64 x_18 ∧
  0 ≤ (i22 : Int) ∧ i22 < ((out21.len : Nat) : Int) ∧ ∃ q_19 : Addr, out21.a = some q_19 ∧
  Wr w4 (q_19.add (i22 : Int).toNat) ∧
  (let w5 := w4.setCell (q_19.add (i22 : Int).toNat) (.int .i64 x_18);
  (let i22_19 : Int := (IntKind.i64.wrap (i22 + 1));
  N1 a0 s2 in4 perms5 keys14 good15 back20 out21 i22_19 w5))))
  ((let i22_20 : Int := (IntKind.i64.wrap (i22 + 1));
  N1 a0 s2 in4 perms5 keys14 good15 back20 out21 i22_20 w2)))))
  (R (.slice out21.a out21.len out21.cap) w)

def trystref22_server.l1 (R : Value → World → Prop) (a0 : Option Addr) (s2 : Int) (in4 : Sl) (perms5 : Sl) (keys14 : Sl) (good15 : Sl) (back20 : Sl) (out21 : Sl) (i22 : Int) (w : World) : Prop :=
  ∃ (I : Int → World → Prop) (μ : Int → World → Nat), I i22 w ∧ ∀ s w, I s w → trystref22_server.b1 R (fun a0' s2' in4' perms5' keys14' good15' back20' out21' i22' w' => (a0' = a0 ∧ s2' = s2 ∧ in4' = in4 ∧ perms5' = perms5 ∧ keys14' = keys14 ∧ good15' = good15 ∧ back20' = back20 ∧ out21' = out21 ∧ I i22' w') ∧ μ i22' w' < μ s w) a0 s2 in4 perms5 keys14 good15 back20 out21 s w

def trystref22_server.c2 (R : Value → World → Prop) (a0 : Option Addr) (s2 : Int) (in4 : Sl) (perms5 : Sl) (keys14 : Sl) (good15 : Sl) (back20 : Sl) (w : World) : Prop :=
  0 ≤ (((in4.len : Nat) : Int) : Int) ∧ (((in4.len : Nat) : Int) : Int) ≤ ((in4.len : Nat) : Int) ∧ (8 : Int) * ((in4.len : Nat) : Int) ≤ 281474976710656 ∧ (((in4.len : Nat) : Int) : Int) ≤ 9223372036854775807 ∧
  (let w6 := w.alloc (.cells ((Array.range ((((in4.len : Nat) : Int) : Int).toNat * 1)).map ((#[.int .i64 0] : Array Value)[· % (#[.int .i64 0] : Array Value).size]!)) 3);
  trystref22_server.l1 R a0 s2 in4 perms5 keys14 good15 back20 ⟨(some (newA w)), (((in4.len : Nat) : Int) : Int).toNat, (((in4.len : Nat) : Int) : Int).toNat⟩ 0 w6)

def trystref22_server.c3 (R : Value → World → Prop) (a0 : Option Addr) (st1 : Option Addr) (s2 : Int) (secrets3 : Sl) (in4 : Sl) (perms5 : Sl) (list13 : Sl) (keys14 : Sl) (good15 : Sl) (w : World) : Prop :=
  cond ((s2 : Int) == 2)
  (∃ q_22 : Addr, st1 = some q_22 ∧
  ∃ (a_23 : Option Addr) (l_24 c_25 : Nat), w.cell? q_22 = some (.slice a_23 l_24 c_25) ∧
  CallsV Tryd.prog n_trystref22_Do #[.pointer a0, .slice a_23 l_24 c_25, .slice list13.a list13.len list13.cap] w (fun v_26 w7 =>
  ∃ (a_27 : Option Addr) (l_28 c_29 : Nat), ∃ (a_30 : Option Addr) (l_31 c_32 : Nat), v_26 = .tuple #[.slice a_27 l_28 c_29, .slice a_30 l_31 c_32] ∧
  ∃ q_33 : Addr, st1 = some q_33 ∧
  Wr w7 q_33 ∧
  (let w8 := w7.setCell q_33 (.slice a_27 l_28 c_29);
  trystref22_server.c2 R a0 s2 in4 perms5 keys14 good15 ⟨a_30, l_31, c_32⟩ w8)))
  (CallsV Tryd.prog n_trystref22_server #[.pointer a0, .pointer st1, .int .i64 (IntKind.i64.wrap (s2 + 1)), .slice secrets3.a secrets3.len secrets3.cap, .slice list13.a list13.len list13.cap, .slice perms5.a perms5.len perms5.cap] w (fun v_34 w9 =>
  ∃ (a_35 : Option Addr) (l_36 c_37 : Nat), v_34 = .slice a_35 l_36 c_37 ∧
  trystref22_server.c2 R a0 s2 in4 perms5 keys14 good15 ⟨a_35, l_36, c_37⟩ w9))

def trystref22_server.c5 (R : Value → World → Prop) (N4 : Option Addr → Option Addr → Int → Sl → Sl → Sl → Sl → Sl → Sl → Int → World → Prop) (a0 : Option Addr) (st1 : Option Addr) (s2 : Int) (secrets3 : Sl) (in4 : Sl) (perms5 : Sl) (list13 : Sl) (keys14 : Sl) (good15 : Sl) (i16 : Int) (inner17 : Int) (w : World) : Prop :=
  0 ≤ (s2 : Int) ∧ s2 < ((perms5.len : Nat) : Int) ∧ ∃ q_38 : Addr, perms5.a = some q_38 ∧
  ∃ (a_39 : Option Addr) (l_40 c_41 : Nat), w.cell? (q_38.add (s2 : Int).toNat) = some (.slice a_39 l_40 c_41) ∧
  0 ≤ (i16 : Int) ∧ i16 < ((l_40 : Nat) : Int) ∧ ∃ q_42 : Addr, a_39 = some q_42 ∧
  ∃ x_43 : Int, w.cell? (q_42.add (i16 : Int).toNat) = some (.int .i64 x_43) ∧
  0 ≤ (x_43 : Int) ∧ x_43 < ((list13.len : Nat) : Int) ∧ ∃ q_44 : Addr, list13.a = some q_44 ∧
  Wr w (q_44.add (x_43 : Int).toNat) ∧
  (let w10 := w.setCell (q_44.add (x_43 : Int).toNat) (.int .i64 inner17);
  (let i16_44 : Int := (IntKind.i64.wrap (i16 + 1));
  N4 a0 st1 s2 secrets3 in4 perms5 list13 keys14 good15 i16_44 w10))

def trystref22_server.c6 (R : Value → World → Prop) (N4 : Option Addr → Option Addr → Int → Sl → Sl → Sl → Sl → Sl → Sl → Int → World → Prop) (a0 : Option Addr) (st1 : Option Addr) (s2 : Int) (secrets3 : Sl) (in4 : Sl) (perms5 : Sl) (list13 : Sl) (keys14 : Sl) (good15 : Sl) (i16 : Int) (inner17 : Int) (key18 : Int) (w : World) : Prop :=
  0 ≤ (i16 : Int) ∧ i16 < ((good15.len : Nat) : Int) ∧ ∃ q_46 : Addr, good15.a = some q_46 ∧
  Wr w (q_46.add (i16 : Int).toNat) ∧
  (let w11 := w.setCell (q_46.add (i16 : Int).toNat) (.bool true);
  ∃ S_47 : World → Prop, S_47 w11.drew ∧
  ∃ q_48 : Addr, st1 = some q_48 ∧
  0 ≤ (s2 : Int) ∧ s2 < ((3 : Nat) : Int) ∧
  ∃ (a_49 : Option Addr) (l_50 c_51 : Nat), (∀ x, S_47 x → x.cell? ((q_48.add 1).add (s2 : Int).toNat) = some (.slice a_49 l_50 c_51)) ∧
  0 ≤ (i16 : Int) ∧ i16 < ((in4.len : Nat) : Int) ∧ ∃ q_52 : Addr, in4.a = some q_52 ∧
  ∃ x_53 : Int, (∀ x, S_47 x → x.cell? (q_52.add (i16 : Int).toNat) = some (.int .i64 x_53)) ∧
  ∃ q_54 : Addr, st1 = some q_54 ∧
  let w12 := w11.drew.alloc (.cells #[.int .i64 x_53] 3);
  S_47 w12 ∧
  ∃ (a_55 : Option Addr) (l_56 c_57 : Nat), ∃ w13 : World, (builtin .append #[29, 29] 29 #[] #[.slice a_49 l_50 c_51, .slice (some (newA w11.drew)) 1 1]).run Tryd.prog w12 = .ok (.value (.slice a_55 l_56 c_57)) w13 ∧
  0 ≤ (s2 : Int) ∧ s2 < ((3 : Nat) : Int) ∧
  Wr w13 ((q_54.add 1).add (s2 : Int).toNat) ∧
  (let w14 := w13.setCell ((q_54.add 1).add (s2 : Int).toNat) (.slice a_55 l_56 c_57);
  0 ≤ (i16 : Int) ∧ i16 < ((keys14.len : Nat) : Int) ∧ ∃ q_58 : Addr, keys14.a = some q_58 ∧
  Wr w14 (q_58.add (i16 : Int).toNat) ∧
  (let w15 := w14.setCell (q_58.add (i16 : Int).toNat) (.int .i64 key18);
  trystref22_server.c5 R N4 a0 st1 s2 secrets3 in4 perms5 list13 keys14 good15 i16 inner17 w15)))

def trystref22_server.b4 (R : Value → World → Prop) (N4 : Option Addr → Option Addr → Int → Sl → Sl → Sl → Sl → Sl → Sl → Int → World → Prop) (a0 : Option Addr) (st1 : Option Addr) (s2 : Int) (secrets3 : Sl) (in4 : Sl) (perms5 : Sl) (list13 : Sl) (keys14 : Sl) (good15 : Sl) (i16 : Int) (w : World) : Prop :=
  cond (decide ((i16 : Int) < ((in4.len : Nat) : Int)))
  (∃ S_59 : World → Prop, S_59 w.drew ∧
  0 ≤ (s2 : Int) ∧ s2 < ((secrets3.len : Nat) : Int) ∧ ∃ q_60 : Addr, secrets3.a = some q_60 ∧
  ∃ x_61 : Int, (∀ x, S_59 x → x.cell? (q_60.add (s2 : Int).toNat) = some (.int .i64 x_61)) ∧
  0 ≤ (i16 : Int) ∧ i16 < ((in4.len : Nat) : Int) ∧ ∃ q_62 : Addr, in4.a = some q_62 ∧
  ∃ x_63 : Int, (∀ x, S_59 x → x.cell? (q_62.add (i16 : Int).toNat) = some (.int .i64 x_63)) ∧
  CallsV Tryd.prog n_trystref22_Peel #[.pointer a0, .int .i64 x_61, .int .i64 x_63] w.drew (fun v_64 w16 =>
  ∃ x_65 : Int, ∃ x_66 : Int, ∃ x_67 : Int, v_64 = .tuple #[.int .i64 x_65, .int .i64 x_66, .int .i64 x_67] ∧
  ∃ S_68 : World → Prop, S_68 w16.drew ∧
  cond ((x_67 : Int) == 0)
  (∃ q_69 : Addr, st1 = some q_69 ∧
  0 ≤ (s2 : Int) ∧ s2 < ((3 : Nat) : Int) ∧
  ∃ (a_70 : Option Addr) (l_71 c_72 : Nat), (∀ x, S_68 x → x.cell? ((q_69.add 1).add (s2 : Int).toNat) = some (.slice a_70 l_71 c_72)) ∧
  0 ≤ (i16 : Int) ∧ i16 < ((in4.len : Nat) : Int) ∧ ∃ q_73 : Addr, in4.a = some q_73 ∧
  ∃ x_74 : Int, (∀ x, S_68 x → x.cell? (q_73.add (i16 : Int).toNat) = some (.int .i64 x_74)) ∧
  CallsV Tryd.prog n_trystref22_has #[.slice a_70 l_71 c_72, .int .i64 x_74] w16.drew (fun v_75 w17 =>
  ∃ b_76 : Bool, v_75 = .bool b_76 ∧
  cond (!b_76)
  (trystref22_server.c6 R N4 a0 st1 s2 secrets3 in4 perms5 list13 keys14 good15 i16 x_65 x_66 w17)
  (CallsV Tryd.prog n_trystref10_Arena_Word #[.pointer a0, .int .i64 0] w17 (fun v_77 w18 =>
  ∃ x_78 : Int, v_77 = .int .i64 x_78 ∧
  trystref22_server.c5 R N4 a0 st1 s2 secrets3 in4 perms5 list13 keys14 good15 i16 x_78 w18))))
  (CallsV Tryd.prog n_trystref10_Arena_Word #[.pointer a0, .int .i64 0] w16.drew (fun v_79 w19 =>
  ∃ x_80 : Int, v_79 = .int .i64 x_80 ∧
  trystref22_server.c5 R N4 a0 st1 s2 secrets3 in4 perms5 list13 keys14 good15 i16 x_80 w19))))
  (trystref22_server.c3 R a0 st1 s2 secrets3 in4 perms5 list13 keys14 good15 w)

def trystref22_server.l4 (R : Value → World → Prop) (a0 : Option Addr) (st1 : Option Addr) (s2 : Int) (secrets3 : Sl) (in4 : Sl) (perms5 : Sl) (list13 : Sl) (keys14 : Sl) (good15 : Sl) (i16 : Int) (w : World) : Prop :=
  ∃ (I : Int → World → Prop) (μ : Int → World → Nat), I i16 w ∧ ∀ s w, I s w → trystref22_server.b4 R (fun a0' st1' s2' secrets3' in4' perms5' list13' keys14' good15' i16' w' => (a0' = a0 ∧ st1' = st1 ∧ s2' = s2 ∧ secrets3' = secrets3 ∧ in4' = in4 ∧ perms5' = perms5 ∧ list13' = list13 ∧ keys14' = keys14 ∧ good15' = good15 ∧ I i16' w') ∧ μ i16' w' < μ s w) a0 st1 s2 secrets3 in4 perms5 list13 keys14 good15 s w

def trystref22_server.main (R : Value → World → Prop) (a0 : Option Addr) (st1 : Option Addr) (s2 : Int) (secrets3 : Sl) (in4 : Sl) (perms5 : Sl) (w : World) : Prop :=
  0 ≤ (((in4.len : Nat) : Int) : Int) ∧ (((in4.len : Nat) : Int) : Int) ≤ ((in4.len : Nat) : Int) ∧ (8 : Int) * ((in4.len : Nat) : Int) ≤ 281474976710656 ∧ (((in4.len : Nat) : Int) : Int) ≤ 9223372036854775807 ∧
  (let w20 := w.alloc (.cells ((Array.range ((((in4.len : Nat) : Int) : Int).toNat * 1)).map ((#[.int .i64 0] : Array Value)[· % (#[.int .i64 0] : Array Value).size]!)) 3);
  0 ≤ (((in4.len : Nat) : Int) : Int) ∧ (((in4.len : Nat) : Int) : Int) ≤ ((in4.len : Nat) : Int) ∧ (8 : Int) * ((in4.len : Nat) : Int) ≤ 281474976710656 ∧ (((in4.len : Nat) : Int) : Int) ≤ 9223372036854775807 ∧
  (let w21 := w20.alloc (.cells ((Array.range ((((in4.len : Nat) : Int) : Int).toNat * 1)).map ((#[.int .i64 0] : Array Value)[· % (#[.int .i64 0] : Array Value).size]!)) 3);
  0 ≤ (((in4.len : Nat) : Int) : Int) ∧ (((in4.len : Nat) : Int) : Int) ≤ ((in4.len : Nat) : Int) ∧ (1 : Int) * ((in4.len : Nat) : Int) ≤ 281474976710656 ∧ (((in4.len : Nat) : Int) : Int) ≤ 9223372036854775807 ∧
  (let w22 := w21.alloc (.cells ((Array.range ((((in4.len : Nat) : Int) : Int).toNat * 1)).map ((#[.bool false] : Array Value)[· % (#[.bool false] : Array Value).size]!)) 4);
  trystref22_server.l4 R a0 st1 s2 secrets3 in4 perms5 ⟨(some (newA w)), (((in4.len : Nat) : Int) : Int).toNat, (((in4.len : Nat) : Int) : Int).toNat⟩ ⟨(some (newA w20)), (((in4.len : Nat) : Int) : Int).toNat, (((in4.len : Nat) : Int) : Int).toNat⟩ ⟨(some (newA w21)), (((in4.len : Nat) : Int) : Int).toNat, (((in4.len : Nat) : Int) : Int).toNat⟩ 0 w22)))

def trystref22_server.J4 (R : Value → World → Prop) (N4 : Option Addr → Option Addr → Int → Sl → Sl → Sl → Sl → Sl → Sl → Int → World → Prop) (k : Nat) (fr : Fr) (w : World) : Prop :=
  cond (Nat.beq k 6) (dec [(0, .ptr), (1, .ptr), (2, (.int .i64)), (3, .slice), (4, .slice), (5, .slice), (13, .slice), (14, .slice), (15, .slice), (16, (.int .i64)), (17, (.int .i64)), (18, (.int .i64))] fr fun x => trystref22_server.c6 R N4 x.1 x.2.1 x.2.2.1 x.2.2.2.1 x.2.2.2.2.1 x.2.2.2.2.2.1 x.2.2.2.2.2.2.1 x.2.2.2.2.2.2.2.1 x.2.2.2.2.2.2.2.2.1 x.2.2.2.2.2.2.2.2.2.1 x.2.2.2.2.2.2.2.2.2.2.1 x.2.2.2.2.2.2.2.2.2.2.2 w) (cond (Nat.beq k 5) (dec [(0, .ptr), (1, .ptr), (2, (.int .i64)), (3, .slice), (4, .slice), (5, .slice), (13, .slice), (14, .slice), (15, .slice), (16, (.int .i64)), (17, (.int .i64))] fr fun x => trystref22_server.c5 R N4 x.1 x.2.1 x.2.2.1 x.2.2.2.1 x.2.2.2.2.1 x.2.2.2.2.2.1 x.2.2.2.2.2.2.1 x.2.2.2.2.2.2.2.1 x.2.2.2.2.2.2.2.2.1 x.2.2.2.2.2.2.2.2.2.1 x.2.2.2.2.2.2.2.2.2.2 w) (False))

def trystref22_server.J0 (R : Value → World → Prop) (k : Nat) (fr : Fr) (w : World) : Prop :=
  cond (Nat.beq k 4) (dec [(0, .ptr), (1, .ptr), (2, (.int .i64)), (3, .slice), (4, .slice), (5, .slice), (13, .slice), (14, .slice), (15, .slice), (16, (.int .i64))] fr fun x => trystref22_server.l4 R x.1 x.2.1 x.2.2.1 x.2.2.2.1 x.2.2.2.2.1 x.2.2.2.2.2.1 x.2.2.2.2.2.2.1 x.2.2.2.2.2.2.2.1 x.2.2.2.2.2.2.2.2.1 x.2.2.2.2.2.2.2.2.2 w) (cond (Nat.beq k 3) (dec [(0, .ptr), (1, .ptr), (2, (.int .i64)), (3, .slice), (4, .slice), (5, .slice), (13, .slice), (14, .slice), (15, .slice)] fr fun x => trystref22_server.c3 R x.1 x.2.1 x.2.2.1 x.2.2.2.1 x.2.2.2.2.1 x.2.2.2.2.2.1 x.2.2.2.2.2.2.1 x.2.2.2.2.2.2.2.1 x.2.2.2.2.2.2.2.2 w) (cond (Nat.beq k 2) (dec [(0, .ptr), (2, (.int .i64)), (4, .slice), (5, .slice), (14, .slice), (15, .slice), (20, .slice)] fr fun x => trystref22_server.c2 R x.1 x.2.1 x.2.2.1 x.2.2.2.1 x.2.2.2.2.1 x.2.2.2.2.2.1 x.2.2.2.2.2.2 w) (cond (Nat.beq k 1) (dec [(0, .ptr), (2, (.int .i64)), (4, .slice), (5, .slice), (14, .slice), (15, .slice), (20, .slice), (21, .slice), (22, (.int .i64))] fr fun x => trystref22_server.l1 R x.1 x.2.1 x.2.2.1 x.2.2.2.1 x.2.2.2.2.1 x.2.2.2.2.2.1 x.2.2.2.2.2.2.1 x.2.2.2.2.2.2.2.1 x.2.2.2.2.2.2.2.2 w) (False))))

set_option maxRecDepth 100000 in
theorem trystref22_server.lift {R : Value → World → Prop} {a0 : Option Addr} {st1 : Option Addr} {s2 : Int} {secrets3 : Sl} {in4 : Sl} {perms5 : Sl} {w : World} (h : trystref22_server.main R a0 st1 s2 secrets3 in4 perms5 w) : CallsV Tryd.prog n_trystref22_server #[.pointer a0, .pointer st1, .int .i64 s2, .slice secrets3.a secrets3.len secrets3.cap, .slice in4.a in4.len in4.cap, .slice perms5.a perms5.len perms5.cap] w R :=
  liftCalls (c := (.seq (.leaf (cL (bd Tryd.f134))) (.seq (.leaf (cL (cR (bd Tryd.f134)))) (.seq (.leaf (cL (cR (cR (bd Tryd.f134))))) (.seq (.leaf (cL (cR (cR (cR (bd Tryd.f134)))))) (.seq (.seq (.leaf (cL (cL (cR (cR (cR (cR (bd Tryd.f134)))))))) (.block 0 (.loop 4 (.seq (.seq (.leaf (cL (cL (cB (cB (cR (cL (cR (cR (cR (cR (bd Tryd.f134)))))))))))) (.cnd (.tmp 35) (.leaf (cT (cR (cL (cB (cB (cR (cL (cR (cR (cR (cR (bd Tryd.f134))))))))))))) (.leaf (cE (cR (cL (cB (cB (cR (cL (cR (cR (cR (cR (bd Tryd.f134))))))))))))))) (.seq (.block 1 (.seq (.leaf (cL (cB (cL (cR (cB (cB (cR (cL (cR (cR (cR (cR (bd Tryd.f134)))))))))))))) (.seq (.seq (.leaf (cL (cL (cR (cB (cL (cR (cB (cB (cR (cL (cR (cR (cR (cR (bd Tryd.f134)))))))))))))))) (.cnd (.tmp 67) (.cut 6 (.seq (.leaf (cL (cT (cR (cL (cR (cB (cL (cR (cB (cB (cR (cL (cR (cR (cR (cR (bd Tryd.f134)))))))))))))))))) (.seq (.leaf (cL (cR (cT (cR (cL (cR (cB (cL (cR (cB (cB (cR (cL (cR (cR (cR (cR (bd Tryd.f134))))))))))))))))))) (.leaf (cR (cR (cT (cR (cL (cR (cB (cL (cR (cB (cB (cR (cL (cR (cR (cR (cR (bd Tryd.f134)))))))))))))))))))))) (.leaf (cE (cR (cL (cR (cB (cL (cR (cB (cB (cR (cL (cR (cR (cR (cR (bd Tryd.f134))))))))))))))))))) (.cut 5 (.leaf (cR (cR (cB (cL (cR (cB (cB (cR (cL (cR (cR (cR (cR (bd Tryd.f134))))))))))))))))))) (.leaf (cR (cR (cB (cB (cR (cL (cR (cR (cR (cR (bd Tryd.f134))))))))))))))))) (.cut 3 (.seq (.leaf (cL (cR (cR (cR (cR (cR (bd Tryd.f134)))))))) (.seq (.seq (.leaf (cL (cL (cR (cR (cR (cR (cR (cR (bd Tryd.f134)))))))))) (.cnd (.tmp 105) (.leaf (cT (cR (cL (cR (cR (cR (cR (cR (cR (bd Tryd.f134))))))))))) (.leaf (cE (cR (cL (cR (cR (cR (cR (cR (cR (bd Tryd.f134))))))))))))) (.cut 2 (.seq (.leaf (cL (cR (cR (cR (cR (cR (cR (cR (bd Tryd.f134)))))))))) (.seq (.seq (.leaf (cL (cL (cR (cR (cR (cR (cR (cR (cR (cR (bd Tryd.f134)))))))))))) (.block 2 (.loop 1 (.seq (.seq (.leaf (cL (cL (cB (cB (cR (cL (cR (cR (cR (cR (cR (cR (cR (cR (bd Tryd.f134)))))))))))))))) (.cnd (.tmp 133) (.leaf (cT (cR (cL (cB (cB (cR (cL (cR (cR (cR (cR (cR (cR (cR (cR (bd Tryd.f134))))))))))))))))) (.leaf (cE (cR (cL (cB (cB (cR (cL (cR (cR (cR (cR (cR (cR (cR (cR (bd Tryd.f134))))))))))))))))))) (.seq (.block 3 (.seq (.leaf (cL (cB (cL (cR (cB (cB (cR (cL (cR (cR (cR (cR (cR (cR (cR (cR (bd Tryd.f134)))))))))))))))))) (.seq (.leaf (cL (cR (cB (cL (cR (cB (cB (cR (cL (cR (cR (cR (cR (cR (cR (cR (cR (bd Tryd.f134))))))))))))))))))) (.cnd (.tmp 144) (.leaf (cT (cR (cR (cB (cL (cR (cB (cB (cR (cL (cR (cR (cR (cR (cR (cR (cR (cR (bd Tryd.f134)))))))))))))))))))) (.leaf (cE (cR (cR (cB (cL (cR (cB (cB (cR (cL (cR (cR (cR (cR (cR (cR (cR (cR (bd Tryd.f134)))))))))))))))))))))))) (.leaf (cR (cR (cB (cB (cR (cL (cR (cR (cR (cR (cR (cR (cR (cR (bd Tryd.f134))))))))))))))))))))) (.seq (.leaf (cL (cR (cR (cR (cR (cR (cR (cR (cR (cR (bd Tryd.f134)))))))))))) (.leaf (cR (cR (cR (cR (cR (cR (cR (cR (cR (cR (bd Tryd.f134))))))))))))))))))))))))) (J := trystref22_server.J0 R) LfYtoclhecldmahiaaDoor.mixed Tryd.func134 (by kernel_rfl) (by kernel_rfl) (mkSeq (mkSeq (mkSeq (mkSeq (mkSeq (mkCut (cutDef [(0, .ptr), (1, .ptr), (2, (.int .i64)), (3, .slice), (4, .slice), (5, .slice), (13, .slice), (14, .slice), (15, .slice)] (fun x w => trystref22_server.c3 R x.1 x.2.1 x.2.2.1 x.2.2.2.1 x.2.2.2.2.1 x.2.2.2.2.2.1 x.2.2.2.2.2.2.1 x.2.2.2.2.2.2.2.1 x.2.2.2.2.2.2.2.2 w) (fun _ _ => by kernel_rfl) (fun _ _ => by kernel_rfl)) (mkSeq (mkSeq (mkCut (cutDef [(0, .ptr), (2, (.int .i64)), (4, .slice), (5, .slice), (14, .slice), (15, .slice), (20, .slice)] (fun x w => trystref22_server.c2 R x.1 x.2.1 x.2.2.1 x.2.2.2.1 x.2.2.2.2.1 x.2.2.2.2.2.1 x.2.2.2.2.2.2 w) (fun _ _ => by kernel_rfl) (fun _ _ => by kernel_rfl)) (mkSeq (mkSeq (mkSeq mkLeaf mkLeaf) (mkSeq (mkBlock (mkLoop (loopDef LfYtoclhecldmahiaaDoor.mixed [(0, .ptr), (2, (.int .i64)), (4, .slice), (5, .slice), (14, .slice), (15, .slice), (20, .slice), (21, .slice), (22, (.int .i64))] (by kernel_rfl) (fun M1 x w => trystref22_server.b1 R (fun y0 y1 y2 y3 y4 y5 y6 y7 y8 w => M1 (y0, y1, y2, y3, y4, y5, y6, y7, y8) w) x.1 x.2.1 x.2.2.1 x.2.2.2.1 x.2.2.2.2.1 x.2.2.2.2.2.1 x.2.2.2.2.2.2.1 x.2.2.2.2.2.2.2.1 x.2.2.2.2.2.2.2.2 w) (fun M1 => fun _ _ _ => False) (fun _ _ _ => by kernel_rfl) (fun M1 => (mkSeq (mkSeq mkLeaf (mkBlock (mkSeq (mkSeq (mkCnd mkLeaf mkLeaf) mkLeaf) mkLeaf))) (mkSeq (mkCnd mkLeaf mkLeaf) mkLeaf))) (fun x w => trystref22_server.l1 R x.1 x.2.1 x.2.2.1 x.2.2.2.1 x.2.2.2.2.1 x.2.2.2.2.2.1 x.2.2.2.2.2.2.1 x.2.2.2.2.2.2.2.1 x.2.2.2.2.2.2.2.2 w) (by rintro ⟨c0, c1, c2, c3, c4, c5, c6, c7, s0⟩ w ⟨I, μ, h0, h1⟩; refine ⟨fun y w => y.1 = c0 ∧ y.2.1 = c1 ∧ y.2.2.1 = c2 ∧ y.2.2.2.1 = c3 ∧ y.2.2.2.2.1 = c4 ∧ y.2.2.2.2.2.1 = c5 ∧ y.2.2.2.2.2.2.1 = c6 ∧ y.2.2.2.2.2.2.2.1 = c7 ∧ I y.2.2.2.2.2.2.2.2 w, fun y w => μ y.2.2.2.2.2.2.2.2 w, ⟨rfl, rfl, rfl, rfl, rfl, rfl, rfl, rfl, h0⟩, ?_⟩; rintro ⟨d0, d1, d2, d3, d4, d5, d6, d7, t0⟩ w ⟨e0, e1, e2, e3, e4, e5, e6, e7, hI⟩; dsimp only at e0 e1 e2 e3 e4 e5 e6 e7 hI; subst e0; subst e1; subst e2; subst e3; subst e4; subst e5; subst e6; subst e7; exact h1 _ _ hI) (fun _ _ => by kernel_rfl)))) mkLeaf)) mkLeaf)) (mkSeq (mkCnd mkLeaf mkLeaf) mkLeaf)) mkLeaf)) (mkSeq (mkBlock (mkLoop (loopDef LfYtoclhecldmahiaaDoor.mixed [(0, .ptr), (1, .ptr), (2, (.int .i64)), (3, .slice), (4, .slice), (5, .slice), (13, .slice), (14, .slice), (15, .slice), (16, (.int .i64))] (by kernel_rfl) (fun M4 x w => trystref22_server.b4 R (fun y0 y1 y2 y3 y4 y5 y6 y7 y8 y9 w => M4 (y0, y1, y2, y3, y4, y5, y6, y7, y8, y9) w) x.1 x.2.1 x.2.2.1 x.2.2.2.1 x.2.2.2.2.1 x.2.2.2.2.2.1 x.2.2.2.2.2.2.1 x.2.2.2.2.2.2.2.1 x.2.2.2.2.2.2.2.2.1 x.2.2.2.2.2.2.2.2.2 w) (fun M4 => trystref22_server.J4 R (fun y0 y1 y2 y3 y4 y5 y6 y7 y8 y9 w => M4 (y0, y1, y2, y3, y4, y5, y6, y7, y8, y9) w)) (fun _ _ _ => by kernel_rfl) (fun M4 => (mkSeq (mkSeq mkLeaf (mkBlock (mkSeq (mkSeq (mkCut (cutDef [(0, .ptr), (1, .ptr), (2, (.int .i64)), (3, .slice), (4, .slice), (5, .slice), (13, .slice), (14, .slice), (15, .slice), (16, (.int .i64)), (17, (.int .i64))] (fun x w => trystref22_server.c5 R (fun y0 y1 y2 y3 y4 y5 y6 y7 y8 y9 w => M4 (y0, y1, y2, y3, y4, y5, y6, y7, y8, y9) w) x.1 x.2.1 x.2.2.1 x.2.2.2.1 x.2.2.2.2.1 x.2.2.2.2.2.1 x.2.2.2.2.2.2.1 x.2.2.2.2.2.2.2.1 x.2.2.2.2.2.2.2.2.1 x.2.2.2.2.2.2.2.2.2.1 x.2.2.2.2.2.2.2.2.2.2 w) (fun _ _ => by kernel_rfl) (fun _ _ => by kernel_rfl)) mkLeaf) (mkSeq (mkCnd (mkCut (cutDef [(0, .ptr), (1, .ptr), (2, (.int .i64)), (3, .slice), (4, .slice), (5, .slice), (13, .slice), (14, .slice), (15, .slice), (16, (.int .i64)), (17, (.int .i64)), (18, (.int .i64))] (fun x w => trystref22_server.c6 R (fun y0 y1 y2 y3 y4 y5 y6 y7 y8 y9 w => M4 (y0, y1, y2, y3, y4, y5, y6, y7, y8, y9) w) x.1 x.2.1 x.2.2.1 x.2.2.2.1 x.2.2.2.2.1 x.2.2.2.2.2.1 x.2.2.2.2.2.2.1 x.2.2.2.2.2.2.2.1 x.2.2.2.2.2.2.2.2.1 x.2.2.2.2.2.2.2.2.2.1 x.2.2.2.2.2.2.2.2.2.2.1 x.2.2.2.2.2.2.2.2.2.2.2 w) (fun _ _ => by kernel_rfl) (fun _ _ => by kernel_rfl)) (mkSeq (mkSeq mkLeaf mkLeaf) mkLeaf)) mkLeaf) mkLeaf)) mkLeaf))) (mkSeq (mkCnd mkLeaf mkLeaf) mkLeaf))) (fun x w => trystref22_server.l4 R x.1 x.2.1 x.2.2.1 x.2.2.2.1 x.2.2.2.2.1 x.2.2.2.2.2.1 x.2.2.2.2.2.2.1 x.2.2.2.2.2.2.2.1 x.2.2.2.2.2.2.2.2.1 x.2.2.2.2.2.2.2.2.2 w) (by rintro ⟨c0, c1, c2, c3, c4, c5, c6, c7, c8, s0⟩ w ⟨I, μ, h0, h1⟩; refine ⟨fun y w => y.1 = c0 ∧ y.2.1 = c1 ∧ y.2.2.1 = c2 ∧ y.2.2.2.1 = c3 ∧ y.2.2.2.2.1 = c4 ∧ y.2.2.2.2.2.1 = c5 ∧ y.2.2.2.2.2.2.1 = c6 ∧ y.2.2.2.2.2.2.2.1 = c7 ∧ y.2.2.2.2.2.2.2.2.1 = c8 ∧ I y.2.2.2.2.2.2.2.2.2 w, fun y w => μ y.2.2.2.2.2.2.2.2.2 w, ⟨rfl, rfl, rfl, rfl, rfl, rfl, rfl, rfl, rfl, h0⟩, ?_⟩; rintro ⟨d0, d1, d2, d3, d4, d5, d6, d7, d8, t0⟩ w ⟨e0, e1, e2, e3, e4, e5, e6, e7, e8, hI⟩; dsimp only at e0 e1 e2 e3 e4 e5 e6 e7 e8 hI; subst e0; subst e1; subst e2; subst e3; subst e4; subst e5; subst e6; subst e7; subst e8; exact h1 _ _ hI) (fun _ _ => by kernel_rfl)))) mkLeaf)) mkLeaf) mkLeaf) mkLeaf) mkLeaf) (kcast (by kernel_rfl) h)

/-! slices_ContainsFunc_Reg -/
def slices_ContainsFunc_Reg__mix_has_1.main (R : Value → World → Prop) (s0 : Sl) (cap1_0 : Addr) (w : World) : Prop :=
  CallsV Tryd.prog n_slices_IndexFunc_Reg #[.slice s0.a s0.len s0.cap, .func (.func n_mix_has_1) #[] #[.pointer (some cap1_0)]] w (fun v_1 w1 =>
  ∃ x_2 : Int, v_1 = .int .i64 x_2 ∧
  (let t4_2 : Bool := (decide ((x_2 : Int) ≥ 0));
  R (.bool t4_2) w1))

def slices_ContainsFunc_Reg__mix_has_1.J0 (_ : Value → World → Prop) (_ : Nat) (_ : Fr) (_ : World) : Prop := False

set_option maxRecDepth 100000 in
theorem slices_ContainsFunc_Reg__mix_has_1.lift {R : Value → World → Prop} {s0 : Sl} {cap1_0 : Addr} {w : World} (h : slices_ContainsFunc_Reg__mix_has_1.main R s0 cap1_0 w) : CallsV Tryd.prog n_slices_ContainsFunc_Reg #[.slice s0.a s0.len s0.cap, .func (.func n_mix_has_1) #[] #[.pointer (some cap1_0)]] w R :=
  liftCalls (c := (.seq (.leaf (cL (bd Tryd.f138))) (.seq (.leaf (cL (cR (bd Tryd.f138)))) (.leaf (cR (cR (bd Tryd.f138))))))) (J := slices_ContainsFunc_Reg__mix_has_1.J0 R) LfYtoclhecldmahiaaDoor.mixed Tryd.func138 (by kernel_rfl) (by kernel_rfl) (mkSeq (mkSeq mkLeaf mkLeaf) mkLeaf) (kcast (by kernel_rfl) h)

/-! slices_ContainsFunc_Reg -/
def slices_ContainsFunc_Reg__mix_last_answer_1.main (R : Value → World → Prop) (s0 : Sl) (cap1_0 : Addr) (w : World) : Prop :=
  CallsV Tryd.prog n_slices_IndexFunc_Reg #[.slice s0.a s0.len s0.cap, .func (.func n_mix_last_answer_1) #[] #[.pointer (some cap1_0)]] w (fun v_1 w1 =>
  ∃ x_2 : Int, v_1 = .int .i64 x_2 ∧
  (let t4_2 : Bool := (decide ((x_2 : Int) ≥ 0));
  R (.bool t4_2) w1))

def slices_ContainsFunc_Reg__mix_last_answer_1.J0 (_ : Value → World → Prop) (_ : Nat) (_ : Fr) (_ : World) : Prop := False

set_option maxRecDepth 100000 in
theorem slices_ContainsFunc_Reg__mix_last_answer_1.lift {R : Value → World → Prop} {s0 : Sl} {cap1_0 : Addr} {w : World} (h : slices_ContainsFunc_Reg__mix_last_answer_1.main R s0 cap1_0 w) : CallsV Tryd.prog n_slices_ContainsFunc_Reg #[.slice s0.a s0.len s0.cap, .func (.func n_mix_last_answer_1) #[] #[.pointer (some cap1_0)]] w R :=
  liftCalls (c := (.seq (.leaf (cL (bd Tryd.f138))) (.seq (.leaf (cL (cR (bd Tryd.f138)))) (.leaf (cR (cR (bd Tryd.f138))))))) (J := slices_ContainsFunc_Reg__mix_last_answer_1.J0 R) LfYtoclhecldmahiaaDoor.mixed Tryd.func138 (by kernel_rfl) (by kernel_rfl) (mkSeq (mkSeq mkLeaf mkLeaf) mkLeaf) (kcast (by kernel_rfl) h)

/-! mix_has_1 -/
def mix_has_1.main (R : Value → World → Prop) (g0_0 : Int) (g0_1 : Int) (t1 : Addr) (w : World) : Prop :=
  let w1 := w.alloc (.cells #[.int .i64 g0_0, .int .i64 g0_1] 72);
  ∃ p_1 : Option Addr, w1.cell? t1 = some (.pointer p_1) ∧
  ∃ x_2 : Int, w1.cell? (newA w) = some (.int .i64 x_2) ∧
  ∃ x_3 : Int, w1.cell? ((newA w).add 1) = some (.int .i64 x_3) ∧
  let w2 := w1.alloc (.cells #[.int .i64 x_2, .int .i64 x_3] 3);
  CallsV Tryd.prog n_term_Arena_Has #[.pointer p_1, .slice (some (newA w1)) 2 2] w2 (fun v_4 w3 =>
  ∃ b_5 : Bool, v_4 = .bool b_5 ∧
  R (.bool (!b_5)) w3)

def mix_has_1.J0 (_ : Value → World → Prop) (_ : Nat) (_ : Fr) (_ : World) : Prop := False

set_option maxRecDepth 100000 in
theorem mix_has_1.lift {R : Value → World → Prop} {g0_0 : Int} {g0_1 : Int} {t1 : Addr} {w : World} (h : mix_has_1.main R g0_0 g0_1 t1 w) : CallsV Tryd.prog n_mix_has_1 #[.agg #[.int .i64 g0_0, .int .i64 g0_1], .pointer (some t1)] w R :=
  liftCalls (c := (.seq (.leaf (cL (bd Tryd.f139))) (.seq (.leaf (cL (cR (bd Tryd.f139)))) (.leaf (cR (cR (bd Tryd.f139))))))) (J := mix_has_1.J0 R) LfYtoclhecldmahiaaDoor.mixed Tryd.func139 (by kernel_rfl) (by kernel_rfl) (mkSeq (mkSeq mkLeaf mkLeaf) mkLeaf) (kcast (by kernel_rfl) h)

/-! mix_last_answer_1 -/
def mix_last_answer_1.main (R : Value → World → Prop) (g0_0 : Int) (g0_1 : Int) (t1 : Addr) (w : World) : Prop :=
  let w1 := w.alloc (.cells #[.int .i64 g0_0, .int .i64 g0_1] 72);
  ∃ x_1 : Int, w1.cell? (newA w) = some (.int .i64 x_1) ∧
  ∃ (a_2 : Option Addr) (l_3 c_4 : Nat), w1.cell? (t1.add 1) = some (.slice a_2 l_3 c_4) ∧
  0 ≤ (0 : Int) ∧ 0 < ((l_3 : Nat) : Int) ∧ ∃ q_5 : Addr, a_2 = some q_5 ∧
  ∃ x_6 : Int, w1.cell? (q_5.add (0 : Int).toNat) = some (.int .i64 x_6) ∧
  R (.bool ((x_1 : Int) == x_6)) w1.drew

def mix_last_answer_1.J0 (_ : Value → World → Prop) (_ : Nat) (_ : Fr) (_ : World) : Prop := False

set_option maxRecDepth 100000 in
theorem mix_last_answer_1.lift {R : Value → World → Prop} {g0_0 : Int} {g0_1 : Int} {t1 : Addr} {w : World} (h : mix_last_answer_1.main R g0_0 g0_1 t1 w) : CallsV Tryd.prog n_mix_last_answer_1 #[.agg #[.int .i64 g0_0, .int .i64 g0_1], .pointer (some t1)] w R :=
  liftCalls (c := (.seq (.leaf (cL (bd Tryd.f140))) (.seq (.leaf (cL (cR (bd Tryd.f140)))) (.leaf (cR (cR (bd Tryd.f140))))))) (J := mix_last_answer_1.J0 R) LfYtoclhecldmahiaaDoor.mixed Tryd.func140 (by kernel_rfl) (by kernel_rfl) (mkSeq (mkSeq mkLeaf mkLeaf) mkLeaf) (kcast (by kernel_rfl) h)

/-! slices_IndexFunc_Reg -/
def slices_IndexFunc_Reg__mix_has_1.b1 (R : Value → World → Prop) (N1 : Sl → Addr → Int → Int → World → Prop) (s0 : Sl) (f1 : Addr) (t7 : Int) (t8 : Int) (w : World) : Prop :=
  cond (decide ((t8 : Int) < t7))
  (0 ≤ (t8 : Int) ∧ t8 < ((s0.len : Nat) : Int) ∧ ∃ q_1 : Addr, s0.a = some q_1 ∧
  ∃ x_2 : Int, w.cell? (q_1.add ((t8 : Int).toNat * 2)) = some (.int .i64 x_2) ∧
  ∃ x_3 : Int, w.cell? ((q_1.add ((t8 : Int).toNat * 2)).add 1) = some (.int .i64 x_3) ∧
  CallsV Tryd.prog n_mix_has_1 #[.agg #[.int .i64 x_2, .int .i64 x_3], .pointer (some f1)] w (fun v_4 w1 =>
  ∃ b_5 : Bool, v_4 = .bool b_5 ∧
  cond b_5
  (R (.int .i64 t8) w1)
  (N1 s0 f1 t7 (IntKind.i64.wrap (t8 + 1)) w1)))
  (R (.int .i64 (-1)) w)

def slices_IndexFunc_Reg__mix_has_1.l1 (R : Value → World → Prop) (s0 : Sl) (f1 : Addr) (t7 : Int) (t8 : Int) (w : World) : Prop :=
  ∃ (I : Int → World → Prop) (μ : Int → World → Nat), I t8 w ∧ ∀ s w, I s w → slices_IndexFunc_Reg__mix_has_1.b1 R (fun s0' f1' t7' t8' w' => (s0' = s0 ∧ f1' = f1 ∧ t7' = t7 ∧ I t8' w') ∧ μ t8' w' < μ s w) s0 f1 t7 s w

def slices_IndexFunc_Reg__mix_has_1.main (R : Value → World → Prop) (s0 : Sl) (cap1_0 : Addr) (w : World) : Prop :=
  slices_IndexFunc_Reg__mix_has_1.l1 R s0 cap1_0 ((s0.len : Nat) : Int) 0 w

def slices_IndexFunc_Reg__mix_has_1.J0 (R : Value → World → Prop) (k : Nat) (fr : Fr) (w : World) : Prop :=
  cond (Nat.beq k 1) (dec [(0, .slice), (1, (.fn n_mix_has_1 1)), (7, (.int .i64)), (8, (.int .i64))] fr fun x => slices_IndexFunc_Reg__mix_has_1.l1 R x.1 x.2.1 x.2.2.1 x.2.2.2 w) (False)

set_option maxRecDepth 100000 in
theorem slices_IndexFunc_Reg__mix_has_1.lift {R : Value → World → Prop} {s0 : Sl} {cap1_0 : Addr} {w : World} (h : slices_IndexFunc_Reg__mix_has_1.main R s0 cap1_0 w) : CallsV Tryd.prog n_slices_IndexFunc_Reg #[.slice s0.a s0.len s0.cap, .func (.func n_mix_has_1) #[] #[.pointer (some cap1_0)]] w R :=
  liftCalls (c := (.seq (.leaf (cL (bd Tryd.f141))) (.seq (.seq (.leaf (cL (cL (cR (bd Tryd.f141))))) (.block 0 (.loop 1 (.seq (.leaf (cL (cB (cB (cR (cL (cR (bd Tryd.f141)))))))) (.seq (.cnd (.tmp 9) (.leaf (cT (cL (cR (cB (cB (cR (cL (cR (bd Tryd.f141)))))))))) (.leaf (cE (cL (cR (cB (cB (cR (cL (cR (bd Tryd.f141))))))))))) (.seq (.block 1 (.seq (.leaf (cL (cB (cL (cR (cR (cB (cB (cR (cL (cR (bd Tryd.f141)))))))))))) (.seq (.leaf (cL (cR (cB (cL (cR (cR (cB (cB (cR (cL (cR (bd Tryd.f141))))))))))))) (.cnd (.tmp 16) (.seq (.leaf (cL (cT (cR (cR (cB (cL (cR (cR (cB (cB (cR (cL (cR (bd Tryd.f141))))))))))))))) (.leaf (cR (cT (cR (cR (cB (cL (cR (cR (cB (cB (cR (cL (cR (bd Tryd.f141)))))))))))))))) (.leaf (cE (cR (cR (cB (cL (cR (cR (cB (cB (cR (cL (cR (bd Tryd.f141)))))))))))))))))) (.leaf (cR (cR (cR (cB (cB (cR (cL (cR (bd Tryd.f141)))))))))))))))) (.seq (.leaf (cL (cR (cR (bd Tryd.f141))))) (.leaf (cR (cR (cR (bd Tryd.f141))))))))) (J := slices_IndexFunc_Reg__mix_has_1.J0 R) LfYtoclhecldmahiaaDoor.mixed Tryd.func141 (by kernel_rfl) (by kernel_rfl) (mkSeq (mkSeq (mkSeq mkLeaf mkLeaf) (mkSeq (mkBlock (mkLoop (loopDef LfYtoclhecldmahiaaDoor.mixed [(0, .slice), (1, (.fn n_mix_has_1 1)), (7, (.int .i64)), (8, (.int .i64))] (by kernel_rfl) (fun M1 x w => slices_IndexFunc_Reg__mix_has_1.b1 R (fun y0 y1 y2 y3 w => M1 (y0, y1, y2, y3) w) x.1 x.2.1 x.2.2.1 x.2.2.2 w) (fun M1 => fun _ _ _ => False) (fun _ _ _ => by kernel_rfl) (fun M1 => (mkSeq (mkSeq (mkSeq mkLeaf (mkBlock (mkSeq (mkSeq (mkCnd (mkSeq mkLeaf mkLeaf) mkLeaf) mkLeaf) mkLeaf))) (mkCnd mkLeaf mkLeaf)) mkLeaf)) (fun x w => slices_IndexFunc_Reg__mix_has_1.l1 R x.1 x.2.1 x.2.2.1 x.2.2.2 w) (by rintro ⟨c0, c1, c2, s0⟩ w ⟨I, μ, h0, h1⟩; refine ⟨fun y w => y.1 = c0 ∧ y.2.1 = c1 ∧ y.2.2.1 = c2 ∧ I y.2.2.2 w, fun y w => μ y.2.2.2 w, ⟨rfl, rfl, rfl, h0⟩, ?_⟩; rintro ⟨d0, d1, d2, t0⟩ w ⟨e0, e1, e2, hI⟩; dsimp only at e0 e1 e2 hI; subst e0; subst e1; subst e2; exact h1 _ _ hI) (fun _ _ => by kernel_rfl)))) mkLeaf)) mkLeaf) (kcast (by kernel_rfl) h)

/-! slices_IndexFunc_Reg -/
def slices_IndexFunc_Reg__mix_last_answer_1.b1 (R : Value → World → Prop) (N1 : Sl → Addr → Int → Int → World → Prop) (s0 : Sl) (f1 : Addr) (t7 : Int) (t8 : Int) (w : World) : Prop :=
  cond (decide ((t8 : Int) < t7))
  (0 ≤ (t8 : Int) ∧ t8 < ((s0.len : Nat) : Int) ∧ ∃ q_1 : Addr, s0.a = some q_1 ∧
  ∃ x_2 : Int, w.cell? (q_1.add ((t8 : Int).toNat * 2)) = some (.int .i64 x_2) ∧
  ∃ x_3 : Int, w.cell? ((q_1.add ((t8 : Int).toNat * 2)).add 1) = some (.int .i64 x_3) ∧
  CallsV Tryd.prog n_mix_last_answer_1 #[.agg #[.int .i64 x_2, .int .i64 x_3], .pointer (some f1)] w (fun v_4 w1 =>
  ∃ b_5 : Bool, v_4 = .bool b_5 ∧
  cond b_5
  (R (.int .i64 t8) w1)
  (N1 s0 f1 t7 (IntKind.i64.wrap (t8 + 1)) w1)))
  (R (.int .i64 (-1)) w)

def slices_IndexFunc_Reg__mix_last_answer_1.l1 (R : Value → World → Prop) (s0 : Sl) (f1 : Addr) (t7 : Int) (t8 : Int) (w : World) : Prop :=
  ∃ (I : Int → World → Prop) (μ : Int → World → Nat), I t8 w ∧ ∀ s w, I s w → slices_IndexFunc_Reg__mix_last_answer_1.b1 R (fun s0' f1' t7' t8' w' => (s0' = s0 ∧ f1' = f1 ∧ t7' = t7 ∧ I t8' w') ∧ μ t8' w' < μ s w) s0 f1 t7 s w

def slices_IndexFunc_Reg__mix_last_answer_1.main (R : Value → World → Prop) (s0 : Sl) (cap1_0 : Addr) (w : World) : Prop :=
  slices_IndexFunc_Reg__mix_last_answer_1.l1 R s0 cap1_0 ((s0.len : Nat) : Int) 0 w

def slices_IndexFunc_Reg__mix_last_answer_1.J0 (R : Value → World → Prop) (k : Nat) (fr : Fr) (w : World) : Prop :=
  cond (Nat.beq k 1) (dec [(0, .slice), (1, (.fn n_mix_last_answer_1 1)), (7, (.int .i64)), (8, (.int .i64))] fr fun x => slices_IndexFunc_Reg__mix_last_answer_1.l1 R x.1 x.2.1 x.2.2.1 x.2.2.2 w) (False)

set_option maxRecDepth 100000 in
theorem slices_IndexFunc_Reg__mix_last_answer_1.lift {R : Value → World → Prop} {s0 : Sl} {cap1_0 : Addr} {w : World} (h : slices_IndexFunc_Reg__mix_last_answer_1.main R s0 cap1_0 w) : CallsV Tryd.prog n_slices_IndexFunc_Reg #[.slice s0.a s0.len s0.cap, .func (.func n_mix_last_answer_1) #[] #[.pointer (some cap1_0)]] w R :=
  liftCalls (c := (.seq (.leaf (cL (bd Tryd.f141))) (.seq (.seq (.leaf (cL (cL (cR (bd Tryd.f141))))) (.block 0 (.loop 1 (.seq (.leaf (cL (cB (cB (cR (cL (cR (bd Tryd.f141)))))))) (.seq (.cnd (.tmp 9) (.leaf (cT (cL (cR (cB (cB (cR (cL (cR (bd Tryd.f141)))))))))) (.leaf (cE (cL (cR (cB (cB (cR (cL (cR (bd Tryd.f141))))))))))) (.seq (.block 1 (.seq (.leaf (cL (cB (cL (cR (cR (cB (cB (cR (cL (cR (bd Tryd.f141)))))))))))) (.seq (.leaf (cL (cR (cB (cL (cR (cR (cB (cB (cR (cL (cR (bd Tryd.f141))))))))))))) (.cnd (.tmp 16) (.seq (.leaf (cL (cT (cR (cR (cB (cL (cR (cR (cB (cB (cR (cL (cR (bd Tryd.f141))))))))))))))) (.leaf (cR (cT (cR (cR (cB (cL (cR (cR (cB (cB (cR (cL (cR (bd Tryd.f141)))))))))))))))) (.leaf (cE (cR (cR (cB (cL (cR (cR (cB (cB (cR (cL (cR (bd Tryd.f141)))))))))))))))))) (.leaf (cR (cR (cR (cB (cB (cR (cL (cR (bd Tryd.f141)))))))))))))))) (.seq (.leaf (cL (cR (cR (bd Tryd.f141))))) (.leaf (cR (cR (cR (bd Tryd.f141))))))))) (J := slices_IndexFunc_Reg__mix_last_answer_1.J0 R) LfYtoclhecldmahiaaDoor.mixed Tryd.func141 (by kernel_rfl) (by kernel_rfl) (mkSeq (mkSeq (mkSeq mkLeaf mkLeaf) (mkSeq (mkBlock (mkLoop (loopDef LfYtoclhecldmahiaaDoor.mixed [(0, .slice), (1, (.fn n_mix_last_answer_1 1)), (7, (.int .i64)), (8, (.int .i64))] (by kernel_rfl) (fun M1 x w => slices_IndexFunc_Reg__mix_last_answer_1.b1 R (fun y0 y1 y2 y3 w => M1 (y0, y1, y2, y3) w) x.1 x.2.1 x.2.2.1 x.2.2.2 w) (fun M1 => fun _ _ _ => False) (fun _ _ _ => by kernel_rfl) (fun M1 => (mkSeq (mkSeq (mkSeq mkLeaf (mkBlock (mkSeq (mkSeq (mkCnd (mkSeq mkLeaf mkLeaf) mkLeaf) mkLeaf) mkLeaf))) (mkCnd mkLeaf mkLeaf)) mkLeaf)) (fun x w => slices_IndexFunc_Reg__mix_last_answer_1.l1 R x.1 x.2.1 x.2.2.1 x.2.2.2 w) (by rintro ⟨c0, c1, c2, s0⟩ w ⟨I, μ, h0, h1⟩; refine ⟨fun y w => y.1 = c0 ∧ y.2.1 = c1 ∧ y.2.2.1 = c2 ∧ I y.2.2.2 w, fun y w => μ y.2.2.2 w, ⟨rfl, rfl, rfl, h0⟩, ?_⟩; rintro ⟨d0, d1, d2, t0⟩ w ⟨e0, e1, e2, hI⟩; dsimp only at e0 e1 e2 hI; subst e0; subst e1; subst e2; exact h1 _ _ hI) (fun _ _ => by kernel_rfl)))) mkLeaf)) mkLeaf) (kcast (by kernel_rfl) h)

/-! slices_IndexFunc_Reg -/
def slices_IndexFunc_Reg__mix_last_answer_2.b1 (R : Value → World → Prop) (N1 : Sl → Addr → Int → Int → World → Prop) (s0 : Sl) (f1 : Addr) (t7 : Int) (t8 : Int) (w : World) : Prop :=
  cond (decide ((t8 : Int) < t7))
  (0 ≤ (t8 : Int) ∧ t8 < ((s0.len : Nat) : Int) ∧ ∃ q_1 : Addr, s0.a = some q_1 ∧
  ∃ x_2 : Int, w.cell? (q_1.add ((t8 : Int).toNat * 2)) = some (.int .i64 x_2) ∧
  ∃ x_3 : Int, w.cell? ((q_1.add ((t8 : Int).toNat * 2)).add 1) = some (.int .i64 x_3) ∧
  CallsV Tryd.prog n_mix_last_answer_2 #[.agg #[.int .i64 x_2, .int .i64 x_3], .pointer (some f1)] w (fun v_4 w1 =>
  ∃ b_5 : Bool, v_4 = .bool b_5 ∧
  cond b_5
  (R (.int .i64 t8) w1)
  (N1 s0 f1 t7 (IntKind.i64.wrap (t8 + 1)) w1)))
  (R (.int .i64 (-1)) w)

def slices_IndexFunc_Reg__mix_last_answer_2.l1 (R : Value → World → Prop) (s0 : Sl) (f1 : Addr) (t7 : Int) (t8 : Int) (w : World) : Prop :=
  ∃ (I : Int → World → Prop) (μ : Int → World → Nat), I t8 w ∧ ∀ s w, I s w → slices_IndexFunc_Reg__mix_last_answer_2.b1 R (fun s0' f1' t7' t8' w' => (s0' = s0 ∧ f1' = f1 ∧ t7' = t7 ∧ I t8' w') ∧ μ t8' w' < μ s w) s0 f1 t7 s w

def slices_IndexFunc_Reg__mix_last_answer_2.main (R : Value → World → Prop) (s0 : Sl) (cap1_0 : Addr) (w : World) : Prop :=
  slices_IndexFunc_Reg__mix_last_answer_2.l1 R s0 cap1_0 ((s0.len : Nat) : Int) 0 w

def slices_IndexFunc_Reg__mix_last_answer_2.J0 (R : Value → World → Prop) (k : Nat) (fr : Fr) (w : World) : Prop :=
  cond (Nat.beq k 1) (dec [(0, .slice), (1, (.fn n_mix_last_answer_2 1)), (7, (.int .i64)), (8, (.int .i64))] fr fun x => slices_IndexFunc_Reg__mix_last_answer_2.l1 R x.1 x.2.1 x.2.2.1 x.2.2.2 w) (False)

set_option maxRecDepth 100000 in
theorem slices_IndexFunc_Reg__mix_last_answer_2.lift {R : Value → World → Prop} {s0 : Sl} {cap1_0 : Addr} {w : World} (h : slices_IndexFunc_Reg__mix_last_answer_2.main R s0 cap1_0 w) : CallsV Tryd.prog n_slices_IndexFunc_Reg #[.slice s0.a s0.len s0.cap, .func (.func n_mix_last_answer_2) #[] #[.pointer (some cap1_0)]] w R :=
  liftCalls (c := (.seq (.leaf (cL (bd Tryd.f141))) (.seq (.seq (.leaf (cL (cL (cR (bd Tryd.f141))))) (.block 0 (.loop 1 (.seq (.leaf (cL (cB (cB (cR (cL (cR (bd Tryd.f141)))))))) (.seq (.cnd (.tmp 9) (.leaf (cT (cL (cR (cB (cB (cR (cL (cR (bd Tryd.f141)))))))))) (.leaf (cE (cL (cR (cB (cB (cR (cL (cR (bd Tryd.f141))))))))))) (.seq (.block 1 (.seq (.leaf (cL (cB (cL (cR (cR (cB (cB (cR (cL (cR (bd Tryd.f141)))))))))))) (.seq (.leaf (cL (cR (cB (cL (cR (cR (cB (cB (cR (cL (cR (bd Tryd.f141))))))))))))) (.cnd (.tmp 16) (.seq (.leaf (cL (cT (cR (cR (cB (cL (cR (cR (cB (cB (cR (cL (cR (bd Tryd.f141))))))))))))))) (.leaf (cR (cT (cR (cR (cB (cL (cR (cR (cB (cB (cR (cL (cR (bd Tryd.f141)))))))))))))))) (.leaf (cE (cR (cR (cB (cL (cR (cR (cB (cB (cR (cL (cR (bd Tryd.f141)))))))))))))))))) (.leaf (cR (cR (cR (cB (cB (cR (cL (cR (bd Tryd.f141)))))))))))))))) (.seq (.leaf (cL (cR (cR (bd Tryd.f141))))) (.leaf (cR (cR (cR (bd Tryd.f141))))))))) (J := slices_IndexFunc_Reg__mix_last_answer_2.J0 R) LfYtoclhecldmahiaaDoor.mixed Tryd.func141 (by kernel_rfl) (by kernel_rfl) (mkSeq (mkSeq (mkSeq mkLeaf mkLeaf) (mkSeq (mkBlock (mkLoop (loopDef LfYtoclhecldmahiaaDoor.mixed [(0, .slice), (1, (.fn n_mix_last_answer_2 1)), (7, (.int .i64)), (8, (.int .i64))] (by kernel_rfl) (fun M1 x w => slices_IndexFunc_Reg__mix_last_answer_2.b1 R (fun y0 y1 y2 y3 w => M1 (y0, y1, y2, y3) w) x.1 x.2.1 x.2.2.1 x.2.2.2 w) (fun M1 => fun _ _ _ => False) (fun _ _ _ => by kernel_rfl) (fun M1 => (mkSeq (mkSeq (mkSeq mkLeaf (mkBlock (mkSeq (mkSeq (mkCnd (mkSeq mkLeaf mkLeaf) mkLeaf) mkLeaf) mkLeaf))) (mkCnd mkLeaf mkLeaf)) mkLeaf)) (fun x w => slices_IndexFunc_Reg__mix_last_answer_2.l1 R x.1 x.2.1 x.2.2.1 x.2.2.2 w) (by rintro ⟨c0, c1, c2, s0⟩ w ⟨I, μ, h0, h1⟩; refine ⟨fun y w => y.1 = c0 ∧ y.2.1 = c1 ∧ y.2.2.1 = c2 ∧ I y.2.2.2 w, fun y w => μ y.2.2.2 w, ⟨rfl, rfl, rfl, h0⟩, ?_⟩; rintro ⟨d0, d1, d2, t0⟩ w ⟨e0, e1, e2, hI⟩; dsimp only at e0 e1 e2 hI; subst e0; subst e1; subst e2; exact h1 _ _ hI) (fun _ _ => by kernel_rfl)))) mkLeaf)) mkLeaf) (kcast (by kernel_rfl) h)

/-! mix_last_answer_2 -/
def mix_last_answer_2.main (R : Value → World → Prop) (g0_0 : Int) (g0_1 : Int) (t1 : Addr) (w : World) : Prop :=
  let w1 := w.alloc (.cells #[.int .i64 g0_0, .int .i64 g0_1] 72);
  ∃ x_1 : Int, w1.cell? (newA w) = some (.int .i64 x_1) ∧
  ∃ (a_2 : Option Addr) (l_3 c_4 : Nat), w1.cell? (t1.add 1) = some (.slice a_2 l_3 c_4) ∧
  0 ≤ (0 : Int) ∧ 0 < ((l_3 : Nat) : Int) ∧ ∃ q_5 : Addr, a_2 = some q_5 ∧
  ∃ x_6 : Int, w1.cell? (q_5.add (0 : Int).toNat) = some (.int .i64 x_6) ∧
  R (.bool ((x_1 : Int) == x_6)) w1.drew

def mix_last_answer_2.J0 (_ : Value → World → Prop) (_ : Nat) (_ : Fr) (_ : World) : Prop := False

set_option maxRecDepth 100000 in
theorem mix_last_answer_2.lift {R : Value → World → Prop} {g0_0 : Int} {g0_1 : Int} {t1 : Addr} {w : World} (h : mix_last_answer_2.main R g0_0 g0_1 t1 w) : CallsV Tryd.prog n_mix_last_answer_2 #[.agg #[.int .i64 g0_0, .int .i64 g0_1], .pointer (some t1)] w R :=
  liftCalls (c := (.seq (.leaf (cL (bd Tryd.f142))) (.seq (.leaf (cL (cR (bd Tryd.f142)))) (.leaf (cR (cR (bd Tryd.f142))))))) (J := mix_last_answer_2.J0 R) LfYtoclhecldmahiaaDoor.mixed Tryd.func142 (by kernel_rfl) (by kernel_rfl) (mkSeq (mkSeq mkLeaf mkLeaf) mkLeaf) (kcast (by kernel_rfl) h)

/-! mix_last_met -/
def mix_last_met.c1 (R : Value → World → Prop) (s0 : Option Addr) (others5 : Int) (out6 : Int) (w : World) : Prop :=
  cond ((others5 : Int) != 1)
  (∃ q_1 : Addr, s0 = some q_1 ∧
  ∃ x_2 : Int, w.cell? (q_1.add 2) = some (.int .i64 x_2) ∧
  R (.int .i64 x_2) w)
  (R (.int .i64 out6) w)

def mix_last_met.c3 (R : Value → World → Prop) (N2 : Option Addr → Int → Sl → Int → Int → Int → Int → World → Prop) (s0 : Option Addr) (k1 : Int) (others5 : Int) (r8 : Addr) (t16 : Sl) (t17 : Int) (t18 : Int) (w : World) : Prop :=
  (let others5_2 : Int := (IntKind.i64.wrap (others5 + 1));
  ∃ (a_4 : Option Addr) (l_5 c_6 : Nat), w.cell? (r8.add 1) = some (.slice a_4 l_5 c_6) ∧
  0 ≤ (1 : Int) ∧ 1 < ((l_5 : Nat) : Int) ∧ ∃ q_7 : Addr, a_4 = some q_7 ∧
  ∃ x_8 : Int, w.cell? (q_7.add (1 : Int).toNat) = some (.int .i64 x_8) ∧
  N2 s0 k1 t16 t17 others5_2 x_8 (IntKind.i64.wrap (t18 + 1)) w)

def mix_last_met.b2 (R : Value → World → Prop) (N2 : Option Addr → Int → Sl → Int → Int → Int → Int → World → Prop) (s0 : Option Addr) (k1 : Int) (t16 : Sl) (t17 : Int) (others5 : Int) (out6 : Int) (t18 : Int) (w : World) : Prop :=
  cond (decide ((t18 : Int) < t17))
  (0 ≤ (t18 : Int) ∧ t18 < ((t16.len : Nat) : Int) ∧ ∃ q_9 : Addr, t16.a = some q_9 ∧
  ∃ x_10 : Int, w.cell? (q_9.add ((t18 : Int).toNat * 2)) = some (.int .i64 x_10) ∧
  ∃ (a_11 : Option Addr) (l_12 c_13 : Nat), w.cell? ((q_9.add ((t18 : Int).toNat * 2)).add 1) = some (.slice a_11 l_12 c_13) ∧
  let w1 := w.alloc (.cells #[.int .i64 0, .slice none 0 0] 170);
  (∀ j, j < 2 → Wr w1 ((newA w).add j)) ∧
  (let w2 := setCells (newA w) [.int .i64 x_10, .slice a_11 l_12 c_13] 0 w1;
  cond ((t18 : Int) != k1)
  (∃ x_14 : Int, w2.cell? (newA w) = some (.int .i64 x_14) ∧
  cond ((x_14 : Int) == 73)
  (∃ (a_15 : Option Addr) (l_16 c_17 : Nat), w2.cell? ((newA w).add 1) = some (.slice a_15 l_16 c_17) ∧
  0 ≤ (0 : Int) ∧ 0 < ((l_16 : Nat) : Int) ∧ ∃ q_18 : Addr, a_15 = some q_18 ∧
  ∃ x_19 : Int, w2.cell? (q_18.add (0 : Int).toNat) = some (.int .i64 x_19) ∧
  ∃ q_20 : Addr, s0 = some q_20 ∧
  ∃ (a_21 : Option Addr) (l_22 c_23 : Nat), w2.cell? (q_20.add 1) = some (.slice a_21 l_22 c_23) ∧
  0 ≤ (k1 : Int) ∧ k1 < ((l_22 : Nat) : Int) ∧ ∃ q_24 : Addr, a_21 = some q_24 ∧
  ∃ (a_25 : Option Addr) (l_26 c_27 : Nat), w2.cell? ((q_24.add ((k1 : Int).toNat * 2)).add 1) = some (.slice a_25 l_26 c_27) ∧
  0 ≤ (0 : Int) ∧ 0 < ((l_26 : Nat) : Int) ∧ ∃ q_28 : Addr, a_25 = some q_28 ∧
  ∃ x_29 : Int, w2.cell? (q_28.add (0 : Int).toNat) = some (.int .i64 x_29) ∧
  cond ((x_19 : Int) == x_29)
  (mix_last_met.c3 R N2 s0 k1 others5 (newA w) t16 t17 t18 w2.drew)
  (N2 s0 k1 t16 t17 others5 out6 (IntKind.i64.wrap (t18 + 1)) w2.drew))
  (N2 s0 k1 t16 t17 others5 out6 (IntKind.i64.wrap (t18 + 1)) w2.drew))
  (N2 s0 k1 t16 t17 others5 out6 (IntKind.i64.wrap (t18 + 1)) w2.drew)))
  (mix_last_met.c1 R s0 others5 out6 w)

def mix_last_met.l2 (R : Value → World → Prop) (s0 : Option Addr) (k1 : Int) (t16 : Sl) (t17 : Int) (others5 : Int) (out6 : Int) (t18 : Int) (w : World) : Prop :=
  ∃ (I : (Int × Int × Int) → World → Prop) (μ : (Int × Int × Int) → World → Nat), I (others5, out6, t18) w ∧ ∀ s w, I s w → mix_last_met.b2 R (fun s0' k1' t16' t17' others5' out6' t18' w' => (s0' = s0 ∧ k1' = k1 ∧ t16' = t16 ∧ t17' = t17 ∧ I (others5', out6', t18') w') ∧ μ (others5', out6', t18') w' < μ s w) s0 k1 t16 t17 s.1 s.2.1 s.2.2 w

def mix_last_met.main (R : Value → World → Prop) (s0 : Option Addr) (k1 : Int) (w : World) : Prop :=
  ∃ q_30 : Addr, s0 = some q_30 ∧
  ∃ x_31 : Int, w.cell? (q_30.add 2) = some (.int .i64 x_31) ∧
  ∃ q_32 : Addr, s0 = some q_32 ∧
  ∃ (a_33 : Option Addr) (l_34 c_35 : Nat), w.drew.cell? (q_32.add 1) = some (.slice a_33 l_34 c_35) ∧
  mix_last_met.l2 R s0 k1 ⟨a_33, l_34, c_35⟩ ((l_34 : Nat) : Int) 0 x_31 0 w.drew

def mix_last_met.J2 (R : Value → World → Prop) (N2 : Option Addr → Int → Sl → Int → Int → Int → Int → World → Prop) (k : Nat) (fr : Fr) (w : World) : Prop :=
  cond (Nat.beq k 3) (dec [(0, .ptr), (1, (.int .i64)), (5, (.int .i64)), (8, .addr), (16, .slice), (17, (.int .i64)), (18, (.int .i64))] fr fun x => mix_last_met.c3 R N2 x.1 x.2.1 x.2.2.1 x.2.2.2.1 x.2.2.2.2.1 x.2.2.2.2.2.1 x.2.2.2.2.2.2 w) (False)

def mix_last_met.J0 (R : Value → World → Prop) (k : Nat) (fr : Fr) (w : World) : Prop :=
  cond (Nat.beq k 2) (dec [(0, .ptr), (1, (.int .i64)), (16, .slice), (17, (.int .i64)), (5, (.int .i64)), (6, (.int .i64)), (18, (.int .i64))] fr fun x => mix_last_met.l2 R x.1 x.2.1 x.2.2.1 x.2.2.2.1 x.2.2.2.2.1 x.2.2.2.2.2.1 x.2.2.2.2.2.2 w) (cond (Nat.beq k 1) (dec [(0, .ptr), (5, (.int .i64)), (6, (.int .i64))] fr fun x => mix_last_met.c1 R x.1 x.2.1 x.2.2 w) (False))

set_option maxRecDepth 100000 in
theorem mix_last_met.lift {R : Value → World → Prop} {s0 : Option Addr} {k1 : Int} {w : World} (h : mix_last_met.main R s0 k1 w) : CallsV Tryd.prog n_mix_last_met #[.pointer s0, .int .i64 k1] w R :=
  liftCalls (c := (.seq (.leaf (cL (bd Tryd.f143))) (.seq (.leaf (cL (cR (bd Tryd.f143)))) (.seq (.seq (.leaf (cL (cL (cR (cR (bd Tryd.f143)))))) (.block 0 (.loop 2 (.seq (.leaf (cL (cB (cB (cR (cL (cR (cR (bd Tryd.f143))))))))) (.seq (.cnd (.tmp 19) (.leaf (cT (cL (cR (cB (cB (cR (cL (cR (cR (bd Tryd.f143))))))))))) (.leaf (cE (cL (cR (cB (cB (cR (cL (cR (cR (bd Tryd.f143)))))))))))) (.seq (.block 1 (.seq (.leaf (cL (cB (cL (cR (cR (cB (cB (cR (cL (cR (cR (bd Tryd.f143))))))))))))) (.seq (.leaf (cL (cR (cB (cL (cR (cR (cB (cB (cR (cL (cR (cR (bd Tryd.f143)))))))))))))) (.cnd (.tmp 47) (.cut 3 (.seq (.leaf (cL (cT (cR (cR (cB (cL (cR (cR (cB (cB (cR (cL (cR (cR (bd Tryd.f143)))))))))))))))) (.leaf (cR (cT (cR (cR (cB (cL (cR (cR (cB (cB (cR (cL (cR (cR (bd Tryd.f143)))))))))))))))))) (.leaf (cE (cR (cR (cB (cL (cR (cR (cB (cB (cR (cL (cR (cR (bd Tryd.f143))))))))))))))))))) (.leaf (cR (cR (cR (cB (cB (cR (cL (cR (cR (bd Tryd.f143))))))))))))))))) (.cut 1 (.seq (.seq (.leaf (cL (cL (cR (cR (cR (bd Tryd.f143))))))) (.cnd (.tmp 56) (.seq (.leaf (cL (cT (cR (cL (cR (cR (cR (bd Tryd.f143))))))))) (.leaf (cR (cT (cR (cL (cR (cR (cR (bd Tryd.f143)))))))))) (.leaf (cE (cR (cL (cR (cR (cR (bd Tryd.f143)))))))))) (.seq (.leaf (cL (cR (cR (cR (cR (bd Tryd.f143))))))) (.leaf (cR (cR (cR (cR (cR (bd Tryd.f143)))))))))))))) (J := mix_last_met.J0 R) LfYtoclhecldmahiaaDoor.mixed Tryd.func143 (by kernel_rfl) (by kernel_rfl) (mkSeq (mkSeq (mkSeq (mkCut (cutDef [(0, .ptr), (5, (.int .i64)), (6, (.int .i64))] (fun x w => mix_last_met.c1 R x.1 x.2.1 x.2.2 w) (fun _ _ => by kernel_rfl) (fun _ _ => by kernel_rfl)) (mkSeq (mkSeq mkLeaf mkLeaf) (mkSeq (mkCnd (mkSeq mkLeaf mkLeaf) mkLeaf) mkLeaf))) (mkSeq (mkBlock (mkLoop (loopDef LfYtoclhecldmahiaaDoor.mixed [(0, .ptr), (1, (.int .i64)), (16, .slice), (17, (.int .i64)), (5, (.int .i64)), (6, (.int .i64)), (18, (.int .i64))] (by kernel_rfl) (fun M2 x w => mix_last_met.b2 R (fun y0 y1 y2 y3 y4 y5 y6 w => M2 (y0, y1, y2, y3, y4, y5, y6) w) x.1 x.2.1 x.2.2.1 x.2.2.2.1 x.2.2.2.2.1 x.2.2.2.2.2.1 x.2.2.2.2.2.2 w) (fun M2 => mix_last_met.J2 R (fun y0 y1 y2 y3 y4 y5 y6 w => M2 (y0, y1, y2, y3, y4, y5, y6) w)) (fun _ _ _ => by kernel_rfl) (fun M2 => (mkSeq (mkSeq (mkSeq mkLeaf (mkBlock (mkSeq (mkSeq (mkCnd (mkCut (cutDef [(0, .ptr), (1, (.int .i64)), (5, (.int .i64)), (8, .addr), (16, .slice), (17, (.int .i64)), (18, (.int .i64))] (fun x w => mix_last_met.c3 R (fun y0 y1 y2 y3 y4 y5 y6 w => M2 (y0, y1, y2, y3, y4, y5, y6) w) x.1 x.2.1 x.2.2.1 x.2.2.2.1 x.2.2.2.2.1 x.2.2.2.2.2.1 x.2.2.2.2.2.2 w) (fun _ _ => by kernel_rfl) (fun _ _ => by kernel_rfl)) (mkSeq mkLeaf mkLeaf)) mkLeaf) mkLeaf) mkLeaf))) (mkCnd mkLeaf mkLeaf)) mkLeaf)) (fun x w => mix_last_met.l2 R x.1 x.2.1 x.2.2.1 x.2.2.2.1 x.2.2.2.2.1 x.2.2.2.2.2.1 x.2.2.2.2.2.2 w) (by rintro ⟨c0, c1, c2, c3, s0⟩ w ⟨I, μ, h0, h1⟩; refine ⟨fun y w => y.1 = c0 ∧ y.2.1 = c1 ∧ y.2.2.1 = c2 ∧ y.2.2.2.1 = c3 ∧ I y.2.2.2.2 w, fun y w => μ y.2.2.2.2 w, ⟨rfl, rfl, rfl, rfl, h0⟩, ?_⟩; rintro ⟨d0, d1, d2, d3, t0⟩ w ⟨e0, e1, e2, e3, hI⟩; dsimp only at e0 e1 e2 e3 hI; subst e0; subst e1; subst e2; subst e3; exact h1 _ _ hI) (fun _ _ => by kernel_rfl)))) mkLeaf)) mkLeaf) mkLeaf) (kcast (by kernel_rfl) h)

/-! mix_permutation -/
def mix_permutation.c1 (R : Value → World → Prop) (l0 : Sl) (n1 : Int) (w : World) : Prop :=
  (let t4_0 : Bool := ((((l0.len : Nat) : Int) : Int) == n1);
  R (.bool t4_0) w)

def mix_permutation.c3 (R : Value → World → Prop) (N2 : Sl → Int → Sl → Sl → Int → Int → World → Prop) (l0 : Sl) (n1 : Int) (seen5 : Sl) (x7 : Int) (t10 : Sl) (t11 : Int) (t12 : Int) (w : World) : Prop :=
  0 ≤ (x7 : Int) ∧ x7 < ((seen5.len : Nat) : Int) ∧ ∃ q_2 : Addr, seen5.a = some q_2 ∧
  Wr w (q_2.add (x7 : Int).toNat) ∧
  (let w1 := w.setCell (q_2.add (x7 : Int).toNat) (.bool true);
  N2 l0 n1 seen5 t10 t11 (IntKind.i64.wrap (t12 + 1)) w1)

def mix_permutation.b2 (R : Value → World → Prop) (N2 : Sl → Int → Sl → Sl → Int → Int → World → Prop) (l0 : Sl) (n1 : Int) (seen5 : Sl) (t10 : Sl) (t11 : Int) (t12 : Int) (w : World) : Prop :=
  cond (decide ((t12 : Int) < t11))
  (0 ≤ (t12 : Int) ∧ t12 < ((t10.len : Nat) : Int) ∧ ∃ q_3 : Addr, t10.a = some q_3 ∧
  ∃ x_4 : Int, w.cell? (q_3.add (t12 : Int).toNat) = some (.int .i64 x_4) ∧
  cond (decide ((x_4 : Int) < 0))
  (R (.bool false) w)
  (cond (decide ((x_4 : Int) ≥ n1))
  (R (.bool false) w)
  (0 ≤ (x_4 : Int) ∧ x_4 < ((seen5.len : Nat) : Int) ∧ ∃ q_5 : Addr, seen5.a = some q_5 ∧
  ∃ b_6 : Bool, w.cell? (q_5.add (x_4 : Int).toNat) = some (.bool b_6) ∧
  cond b_6
  (R (.bool false) w)
  (mix_permutation.c3 R N2 l0 n1 seen5 x_4 t10 t11 t12 w))))
  (mix_permutation.c1 R l0 n1 w)

def mix_permutation.l2 (R : Value → World → Prop) (l0 : Sl) (n1 : Int) (seen5 : Sl) (t10 : Sl) (t11 : Int) (t12 : Int) (w : World) : Prop :=
  ∃ (I : Int → World → Prop) (μ : Int → World → Nat), I t12 w ∧ ∀ s w, I s w → mix_permutation.b2 R (fun l0' n1' seen5' t10' t11' t12' w' => (l0' = l0 ∧ n1' = n1 ∧ seen5' = seen5 ∧ t10' = t10 ∧ t11' = t11 ∧ I t12' w') ∧ μ t12' w' < μ s w) l0 n1 seen5 t10 t11 s w

def mix_permutation.main (R : Value → World → Prop) (l0 : Sl) (n1 : Int) (w : World) : Prop :=
  0 ≤ (n1 : Int) ∧ (n1 : Int) ≤ n1 ∧ (1 : Int) * n1 ≤ 281474976710656 ∧ (n1 : Int) ≤ 9223372036854775807 ∧
  (let w2 := w.alloc (.cells ((Array.range ((n1 : Int).toNat * 1)).map ((#[.bool false] : Array Value)[· % (#[.bool false] : Array Value).size]!)) 4);
  mix_permutation.l2 R l0 n1 ⟨(some (newA w)), (n1 : Int).toNat, (n1 : Int).toNat⟩ l0 ((l0.len : Nat) : Int) 0 w2)

def mix_permutation.J2 (R : Value → World → Prop) (N2 : Sl → Int → Sl → Sl → Int → Int → World → Prop) (k : Nat) (fr : Fr) (w : World) : Prop :=
  cond (Nat.beq k 3) (dec [(0, .slice), (1, (.int .i64)), (5, .slice), (7, (.int .i64)), (10, .slice), (11, (.int .i64)), (12, (.int .i64))] fr fun x => mix_permutation.c3 R N2 x.1 x.2.1 x.2.2.1 x.2.2.2.1 x.2.2.2.2.1 x.2.2.2.2.2.1 x.2.2.2.2.2.2 w) (False)

def mix_permutation.J0 (R : Value → World → Prop) (k : Nat) (fr : Fr) (w : World) : Prop :=
  cond (Nat.beq k 2) (dec [(0, .slice), (1, (.int .i64)), (5, .slice), (10, .slice), (11, (.int .i64)), (12, (.int .i64))] fr fun x => mix_permutation.l2 R x.1 x.2.1 x.2.2.1 x.2.2.2.1 x.2.2.2.2.1 x.2.2.2.2.2 w) (cond (Nat.beq k 1) (dec [(0, .slice), (1, (.int .i64))] fr fun x => mix_permutation.c1 R x.1 x.2 w) (False))

set_option maxRecDepth 100000 in
theorem mix_permutation.lift {R : Value → World → Prop} {l0 : Sl} {n1 : Int} {w : World} (h : mix_permutation.main R l0 n1 w) : CallsV Tryd.prog n_mix_permutation #[.slice l0.a l0.len l0.cap, .int .i64 n1] w R :=
  liftCalls (c := (.seq (.leaf (cL (bd Tryd.f151))) (.seq (.leaf (cL (cR (bd Tryd.f151)))) (.seq (.seq (.leaf (cL (cL (cR (cR (bd Tryd.f151)))))) (.block 0 (.loop 2 (.seq (.leaf (cL (cB (cB (cR (cL (cR (cR (bd Tryd.f151))))))))) (.seq (.cnd (.tmp 13) (.leaf (cT (cL (cR (cB (cB (cR (cL (cR (cR (bd Tryd.f151))))))))))) (.leaf (cE (cL (cR (cB (cB (cR (cL (cR (cR (bd Tryd.f151)))))))))))) (.seq (.block 1 (.seq (.leaf (cL (cB (cL (cR (cR (cB (cB (cR (cL (cR (cR (bd Tryd.f151))))))))))))) (.seq (.seq (.leaf (cL (cL (cR (cB (cL (cR (cR (cB (cB (cR (cL (cR (cR (bd Tryd.f151))))))))))))))) (.cnd (.tmp 28) (.seq (.leaf (cL (cT (cR (cL (cR (cB (cL (cR (cR (cB (cB (cR (cL (cR (cR (bd Tryd.f151))))))))))))))))) (.leaf (cR (cT (cR (cL (cR (cB (cL (cR (cR (cB (cB (cR (cL (cR (cR (bd Tryd.f151)))))))))))))))))) (.leaf (cE (cR (cL (cR (cB (cL (cR (cR (cB (cB (cR (cL (cR (cR (bd Tryd.f151)))))))))))))))))) (.cut 3 (.leaf (cR (cR (cB (cL (cR (cR (cB (cB (cR (cL (cR (cR (bd Tryd.f151)))))))))))))))))) (.leaf (cR (cR (cR (cB (cB (cR (cL (cR (cR (bd Tryd.f151))))))))))))))))) (.cut 1 (.seq (.leaf (cL (cR (cR (cR (bd Tryd.f151)))))) (.leaf (cR (cR (cR (cR (bd Tryd.f151)))))))))))) (J := mix_permutation.J0 R) LfYtoclhecldmahiaaDoor.mixed Tryd.func151 (by kernel_rfl) (by kernel_rfl) (mkSeq (mkSeq (mkSeq (mkCut (cutDef [(0, .slice), (1, (.int .i64))] (fun x w => mix_permutation.c1 R x.1 x.2 w) (fun _ _ => by kernel_rfl) (fun _ _ => by kernel_rfl)) (mkSeq mkLeaf mkLeaf)) (mkSeq (mkBlock (mkLoop (loopDef LfYtoclhecldmahiaaDoor.mixed [(0, .slice), (1, (.int .i64)), (5, .slice), (10, .slice), (11, (.int .i64)), (12, (.int .i64))] (by kernel_rfl) (fun M2 x w => mix_permutation.b2 R (fun y0 y1 y2 y3 y4 y5 w => M2 (y0, y1, y2, y3, y4, y5) w) x.1 x.2.1 x.2.2.1 x.2.2.2.1 x.2.2.2.2.1 x.2.2.2.2.2 w) (fun M2 => mix_permutation.J2 R (fun y0 y1 y2 y3 y4 y5 w => M2 (y0, y1, y2, y3, y4, y5) w)) (fun _ _ _ => by kernel_rfl) (fun M2 => (mkSeq (mkSeq (mkSeq mkLeaf (mkBlock (mkSeq (mkSeq (mkCut (cutDef [(0, .slice), (1, (.int .i64)), (5, .slice), (7, (.int .i64)), (10, .slice), (11, (.int .i64)), (12, (.int .i64))] (fun x w => mix_permutation.c3 R (fun y0 y1 y2 y3 y4 y5 w => M2 (y0, y1, y2, y3, y4, y5) w) x.1 x.2.1 x.2.2.1 x.2.2.2.1 x.2.2.2.2.1 x.2.2.2.2.2.1 x.2.2.2.2.2.2 w) (fun _ _ => by kernel_rfl) (fun _ _ => by kernel_rfl)) mkLeaf) (mkSeq (mkCnd (mkSeq mkLeaf mkLeaf) mkLeaf) mkLeaf)) mkLeaf))) (mkCnd mkLeaf mkLeaf)) mkLeaf)) (fun x w => mix_permutation.l2 R x.1 x.2.1 x.2.2.1 x.2.2.2.1 x.2.2.2.2.1 x.2.2.2.2.2 w) (by rintro ⟨c0, c1, c2, c3, c4, s0⟩ w ⟨I, μ, h0, h1⟩; refine ⟨fun y w => y.1 = c0 ∧ y.2.1 = c1 ∧ y.2.2.1 = c2 ∧ y.2.2.2.1 = c3 ∧ y.2.2.2.2.1 = c4 ∧ I y.2.2.2.2.2 w, fun y w => μ y.2.2.2.2.2 w, ⟨rfl, rfl, rfl, rfl, rfl, h0⟩, ?_⟩; rintro ⟨d0, d1, d2, d3, d4, t0⟩ w ⟨e0, e1, e2, e3, e4, hI⟩; dsimp only at e0 e1 e2 e3 e4 hI; subst e0; subst e1; subst e2; subst e3; subst e4; exact h1 _ _ hI) (fun _ _ => by kernel_rfl)))) mkLeaf)) mkLeaf) mkLeaf) (kcast (by kernel_rfl) h)

/-! slices_Contains_int -/
def slices_Contains_int.main (R : Value → World → Prop) (s0 : Sl) (v1 : Int) (w : World) : Prop :=
  CallsV Tryd.prog n_slices_Index_int #[.slice s0.a s0.len s0.cap, .int .i64 v1] w (fun v_1 w1 =>
  ∃ x_2 : Int, v_1 = .int .i64 x_2 ∧
  (let t4_2 : Bool := (decide ((x_2 : Int) ≥ 0));
  R (.bool t4_2) w1))

def slices_Contains_int.J0 (_ : Value → World → Prop) (_ : Nat) (_ : Fr) (_ : World) : Prop := False

set_option maxRecDepth 100000 in
theorem slices_Contains_int.lift {R : Value → World → Prop} {s0 : Sl} {v1 : Int} {w : World} (h : slices_Contains_int.main R s0 v1 w) : CallsV Tryd.prog n_slices_Contains_int #[.slice s0.a s0.len s0.cap, .int .i64 v1] w R :=
  liftCalls (c := (.seq (.leaf (cL (bd Tryd.f152))) (.seq (.leaf (cL (cR (bd Tryd.f152)))) (.leaf (cR (cR (bd Tryd.f152))))))) (J := slices_Contains_int.J0 R) LfYtoclhecldmahiaaDoor.mixed Tryd.func152 (by kernel_rfl) (by kernel_rfl) (mkSeq (mkSeq mkLeaf mkLeaf) mkLeaf) (kcast (by kernel_rfl) h)

/-! trystref22_has -/
def trystref22_has.b1 (R : Value → World → Prop) (N1 : Sl → Int → Int → World → Prop) (l0 : Sl) (x1 : Int) (i5 : Int) (w : World) : Prop :=
  cond (decide ((i5 : Int) < ((l0.len : Nat) : Int)))
  (0 ≤ (i5 : Int) ∧ i5 < ((l0.len : Nat) : Int) ∧ ∃ q_1 : Addr, l0.a = some q_1 ∧
  ∃ x_2 : Int, w.cell? (q_1.add (i5 : Int).toNat) = some (.int .i64 x_2) ∧
  cond ((x_2 : Int) == x1)
  (R (.bool true) w)
  ((let i5_2 : Int := (IntKind.i64.wrap (i5 + 1));
  N1 l0 x1 i5_2 w)))
  (R (.bool false) w)

def trystref22_has.l1 (R : Value → World → Prop) (l0 : Sl) (x1 : Int) (i5 : Int) (w : World) : Prop :=
  ∃ (I : Int → World → Prop) (μ : Int → World → Nat), I i5 w ∧ ∀ s w, I s w → trystref22_has.b1 R (fun l0' x1' i5' w' => (l0' = l0 ∧ x1' = x1 ∧ I i5' w') ∧ μ i5' w' < μ s w) l0 x1 s w

def trystref22_has.main (R : Value → World → Prop) (l0 : Sl) (x1 : Int) (w : World) : Prop :=
  trystref22_has.l1 R l0 x1 0 w

def trystref22_has.J0 (R : Value → World → Prop) (k : Nat) (fr : Fr) (w : World) : Prop :=
  cond (Nat.beq k 1) (dec [(0, .slice), (1, (.int .i64)), (5, (.int .i64))] fr fun x => trystref22_has.l1 R x.1 x.2.1 x.2.2 w) (False)

set_option maxRecDepth 100000 in
theorem trystref22_has.lift {R : Value → World → Prop} {l0 : Sl} {x1 : Int} {w : World} (h : trystref22_has.main R l0 x1 w) : CallsV Tryd.prog n_trystref22_has #[.slice l0.a l0.len l0.cap, .int .i64 x1] w R :=
  liftCalls (c := (.seq (.leaf (cL (bd Tryd.f153))) (.seq (.seq (.leaf (cL (cL (cR (bd Tryd.f153))))) (.block 0 (.loop 1 (.seq (.seq (.leaf (cL (cL (cB (cB (cR (cL (cR (bd Tryd.f153))))))))) (.cnd (.tmp 9) (.leaf (cT (cR (cL (cB (cB (cR (cL (cR (bd Tryd.f153)))))))))) (.leaf (cE (cR (cL (cB (cB (cR (cL (cR (bd Tryd.f153)))))))))))) (.seq (.block 1 (.seq (.leaf (cL (cB (cL (cR (cB (cB (cR (cL (cR (bd Tryd.f153))))))))))) (.cnd (.tmp 17) (.seq (.leaf (cL (cT (cR (cB (cL (cR (cB (cB (cR (cL (cR (bd Tryd.f153))))))))))))) (.leaf (cR (cT (cR (cB (cL (cR (cB (cB (cR (cL (cR (bd Tryd.f153)))))))))))))) (.leaf (cE (cR (cB (cL (cR (cB (cB (cR (cL (cR (bd Tryd.f153))))))))))))))) (.leaf (cR (cR (cB (cB (cR (cL (cR (bd Tryd.f153)))))))))))))) (.seq (.leaf (cL (cR (cR (bd Tryd.f153))))) (.leaf (cR (cR (cR (bd Tryd.f153))))))))) (J := trystref22_has.J0 R) LfYtoclhecldmahiaaDoor.mixed Tryd.func153 (by kernel_rfl) (by kernel_rfl) (mkSeq (mkSeq (mkSeq mkLeaf mkLeaf) (mkSeq (mkBlock (mkLoop (loopDef LfYtoclhecldmahiaaDoor.mixed [(0, .slice), (1, (.int .i64)), (5, (.int .i64))] (by kernel_rfl) (fun M1 x w => trystref22_has.b1 R (fun y0 y1 y2 w => M1 (y0, y1, y2) w) x.1 x.2.1 x.2.2 w) (fun M1 => fun _ _ _ => False) (fun _ _ _ => by kernel_rfl) (fun M1 => (mkSeq (mkSeq mkLeaf (mkBlock (mkSeq (mkCnd (mkSeq mkLeaf mkLeaf) mkLeaf) mkLeaf))) (mkSeq (mkCnd mkLeaf mkLeaf) mkLeaf))) (fun x w => trystref22_has.l1 R x.1 x.2.1 x.2.2 w) (by rintro ⟨c0, c1, s0⟩ w ⟨I, μ, h0, h1⟩; refine ⟨fun y w => y.1 = c0 ∧ y.2.1 = c1 ∧ I y.2.2 w, fun y w => μ y.2.2 w, ⟨rfl, rfl, h0⟩, ?_⟩; rintro ⟨d0, d1, t0⟩ w ⟨e0, e1, hI⟩; dsimp only at e0 e1 hI; subst e0; subst e1; exact h1 _ _ hI) (fun _ _ => by kernel_rfl)))) mkLeaf)) mkLeaf) (kcast (by kernel_rfl) h)

/-! slices_Index_int -/
def slices_Index_int.b1 (R : Value → World → Prop) (N1 : Sl → Int → Int → Int → World → Prop) (s0 : Sl) (v1 : Int) (t7 : Int) (t8 : Int) (w : World) : Prop :=
  cond (decide ((t8 : Int) < t7))
  (0 ≤ (t8 : Int) ∧ t8 < ((s0.len : Nat) : Int) ∧ ∃ q_1 : Addr, s0.a = some q_1 ∧
  ∃ x_2 : Int, w.cell? (q_1.add (t8 : Int).toNat) = some (.int .i64 x_2) ∧
  cond ((v1 : Int) == x_2)
  (R (.int .i64 t8) w)
  (N1 s0 v1 t7 (IntKind.i64.wrap (t8 + 1)) w))
  (R (.int .i64 (-1)) w)

def slices_Index_int.l1 (R : Value → World → Prop) (s0 : Sl) (v1 : Int) (t7 : Int) (t8 : Int) (w : World) : Prop :=
  ∃ (I : Int → World → Prop) (μ : Int → World → Nat), I t8 w ∧ ∀ s w, I s w → slices_Index_int.b1 R (fun s0' v1' t7' t8' w' => (s0' = s0 ∧ v1' = v1 ∧ t7' = t7 ∧ I t8' w') ∧ μ t8' w' < μ s w) s0 v1 t7 s w

def slices_Index_int.main (R : Value → World → Prop) (s0 : Sl) (v1 : Int) (w : World) : Prop :=
  slices_Index_int.l1 R s0 v1 ((s0.len : Nat) : Int) 0 w

def slices_Index_int.J0 (R : Value → World → Prop) (k : Nat) (fr : Fr) (w : World) : Prop :=
  cond (Nat.beq k 1) (dec [(0, .slice), (1, (.int .i64)), (7, (.int .i64)), (8, (.int .i64))] fr fun x => slices_Index_int.l1 R x.1 x.2.1 x.2.2.1 x.2.2.2 w) (False)

set_option maxRecDepth 100000 in
theorem slices_Index_int.lift {R : Value → World → Prop} {s0 : Sl} {v1 : Int} {w : World} (h : slices_Index_int.main R s0 v1 w) : CallsV Tryd.prog n_slices_Index_int #[.slice s0.a s0.len s0.cap, .int .i64 v1] w R :=
  liftCalls (c := (.seq (.leaf (cL (bd Tryd.f155))) (.seq (.seq (.leaf (cL (cL (cR (bd Tryd.f155))))) (.block 0 (.loop 1 (.seq (.leaf (cL (cB (cB (cR (cL (cR (bd Tryd.f155)))))))) (.seq (.cnd (.tmp 9) (.leaf (cT (cL (cR (cB (cB (cR (cL (cR (bd Tryd.f155)))))))))) (.leaf (cE (cL (cR (cB (cB (cR (cL (cR (bd Tryd.f155))))))))))) (.seq (.block 1 (.seq (.leaf (cL (cB (cL (cR (cR (cB (cB (cR (cL (cR (bd Tryd.f155)))))))))))) (.seq (.leaf (cL (cR (cB (cL (cR (cR (cB (cB (cR (cL (cR (bd Tryd.f155))))))))))))) (.cnd (.tmp 16) (.seq (.leaf (cL (cT (cR (cR (cB (cL (cR (cR (cB (cB (cR (cL (cR (bd Tryd.f155))))))))))))))) (.leaf (cR (cT (cR (cR (cB (cL (cR (cR (cB (cB (cR (cL (cR (bd Tryd.f155)))))))))))))))) (.leaf (cE (cR (cR (cB (cL (cR (cR (cB (cB (cR (cL (cR (bd Tryd.f155)))))))))))))))))) (.leaf (cR (cR (cR (cB (cB (cR (cL (cR (bd Tryd.f155)))))))))))))))) (.seq (.leaf (cL (cR (cR (bd Tryd.f155))))) (.leaf (cR (cR (cR (bd Tryd.f155))))))))) (J := slices_Index_int.J0 R) LfYtoclhecldmahiaaDoor.mixed Tryd.func155 (by kernel_rfl) (by kernel_rfl) (mkSeq (mkSeq (mkSeq mkLeaf mkLeaf) (mkSeq (mkBlock (mkLoop (loopDef LfYtoclhecldmahiaaDoor.mixed [(0, .slice), (1, (.int .i64)), (7, (.int .i64)), (8, (.int .i64))] (by kernel_rfl) (fun M1 x w => slices_Index_int.b1 R (fun y0 y1 y2 y3 w => M1 (y0, y1, y2, y3) w) x.1 x.2.1 x.2.2.1 x.2.2.2 w) (fun M1 => fun _ _ _ => False) (fun _ _ _ => by kernel_rfl) (fun M1 => (mkSeq (mkSeq (mkSeq mkLeaf (mkBlock (mkSeq (mkSeq (mkCnd (mkSeq mkLeaf mkLeaf) mkLeaf) mkLeaf) mkLeaf))) (mkCnd mkLeaf mkLeaf)) mkLeaf)) (fun x w => slices_Index_int.l1 R x.1 x.2.1 x.2.2.1 x.2.2.2 w) (by rintro ⟨c0, c1, c2, s0⟩ w ⟨I, μ, h0, h1⟩; refine ⟨fun y w => y.1 = c0 ∧ y.2.1 = c1 ∧ y.2.2.1 = c2 ∧ I y.2.2.2 w, fun y w => μ y.2.2.2 w, ⟨rfl, rfl, rfl, h0⟩, ?_⟩; rintro ⟨d0, d1, d2, t0⟩ w ⟨e0, e1, e2, hI⟩; dsimp only at e0 e1 e2 hI; subst e0; subst e1; subst e2; exact h1 _ _ hI) (fun _ _ => by kernel_rfl)))) mkLeaf)) mkLeaf) (kcast (by kernel_rfl) h)

end Go.Proofs.YtoclhecldmahiaaDoor
