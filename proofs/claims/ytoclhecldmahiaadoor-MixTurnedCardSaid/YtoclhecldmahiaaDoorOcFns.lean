/-
  What the code of these functions comes to, and that it suffices for the call. Written by a program of ours, for this claim.
-/
import Derived.Test.YtoclhecldmahiaaDoorTmFns
set_option linter.unusedVariables false
set_option linter.unusedVariables false
namespace Go.Proofs.YtoclhecldmahiaaDoor
open Go.Lf
abbrev n_onion_Wrap : Nat := 48
abbrev n_onion_Peel : Nat := 49
abbrev n_trystlaw23_wakes : Nat := 50
abbrev n_trystref22_Wrap : Nat := 66
abbrev n_trystref22_Peel : Nat := 67
abbrev n_onion_Back : Nat := 68
abbrev n_onion_Read : Nat := 69
abbrev n_trystref22_Read : Nat := 70
abbrev n_onion_Keys : Nat := 109
/-! onion_Wrap -/
def onion_Wrap.c1 (R : Value → World → Prop) (onion8 : Int) (keys9 : Sl) (e10 : Int) (w : World) : Prop :=
  cond ((e10 : Int) != 0)
  (R (.tuple #[.int .i64 0, .slice none 0 0, .int .i64 e10]) w)
  (R (.tuple #[.int .i64 onion8, .slice keys9.a keys9.len keys9.cap, .int .i64 0]) w)

def onion_Wrap.c3 (R : Value → World → Prop) (N2 : Option Addr → Sl → Int → Sl → Int → Int → Int → World → Prop) (a0 : Option Addr) (pubs1 : Sl) (secret2 : Int) (onion8 : Int) (keys9 : Sl) (s13 : Int) (w : World) : Prop :=
  let w1 := w.alloc (.cells #[.int .i64 secret2] 3);
  CallsV Tryd.prog n_term_Arena_Make #[.pointer a0, .int .i64 4, .int .i64 (IntKind.i64.wrap (60 + s13)), .slice (some (newA w)) 1 1] w1 (fun v_1 w2 =>
  ∃ x_2 : Int, ∃ x_3 : Int, v_1 = .tuple #[.int .i64 x_2, .int .i64 x_3] ∧
  cond ((x_3 : Int) == 0)
  (∃ S_4 : World → Prop, S_4 w2.drew ∧
  0 ≤ (s13 : Int) ∧ s13 < ((pubs1.len : Nat) : Int) ∧ ∃ q_5 : Addr, pubs1.a = some q_5 ∧
  ∃ x_6 : Int, (∀ x, S_4 x → x.cell? (q_5.add (s13 : Int).toNat) = some (.int .i64 x_6)) ∧
  0 ≤ (s13 : Int) ∧ s13 < ((keys9.len : Nat) : Int) ∧ ∃ q_7 : Addr, keys9.a = some q_7 ∧
  ∃ x_8 : Int, (∀ x, S_4 x → x.cell? (q_7.add (s13 : Int).toNat) = some (.int .i64 x_8)) ∧
  let w3 := w2.drew.alloc (.cells #[.int .i64 x_6, .int .i64 x_2, .int .i64 onion8, .int .i64 x_8] 3);
  CallsV Tryd.prog n_term_Arena_Make #[.pointer a0, .int .i64 7, .int .i64 0, .slice (some (newA w2.drew)) 4 4] w3 (fun v_9 w4 =>
  ∃ x_10 : Int, ∃ x_11 : Int, v_9 = .tuple #[.int .i64 x_10, .int .i64 x_11] ∧
  (let s13_11 : Int := (IntKind.i64.wrap (s13 - 1));
  N2 a0 pubs1 secret2 keys9 x_10 x_11 s13_11 w4)))
  ((let s13_12 : Int := (IntKind.i64.wrap (s13 - 1));
  N2 a0 pubs1 secret2 keys9 onion8 x_3 s13_12 w2)))

def onion_Wrap.b2 (R : Value → World → Prop) (N2 : Option Addr → Sl → Int → Sl → Int → Int → Int → World → Prop) (a0 : Option Addr) (pubs1 : Sl) (secret2 : Int) (keys9 : Sl) (onion8 : Int) (e10 : Int) (s13 : Int) (w : World) : Prop :=
  cond (decide ((s13 : Int) ≥ 0))
  (cond ((e10 : Int) == 0)
  (onion_Wrap.c3 R N2 a0 pubs1 secret2 onion8 keys9 s13 w)
  (onion_Wrap.c1 R onion8 keys9 e10 w))
  (onion_Wrap.c1 R onion8 keys9 e10 w)

def onion_Wrap.l2 (R : Value → World → Prop) (a0 : Option Addr) (pubs1 : Sl) (secret2 : Int) (keys9 : Sl) (onion8 : Int) (e10 : Int) (s13 : Int) (w : World) : Prop :=
  ∃ (I : (Int × Int × Int) → World → Prop) (μ : (Int × Int × Int) → World → Nat), I (onion8, e10, s13) w ∧ ∀ s w, I s w → onion_Wrap.b2 R (fun a0' pubs1' secret2' keys9' onion8' e10' s13' w' => (a0' = a0 ∧ pubs1' = pubs1 ∧ secret2' = secret2 ∧ keys9' = keys9 ∧ I (onion8', e10', s13') w') ∧ μ (onion8', e10', s13') w' < μ s w) a0 pubs1 secret2 keys9 s.1 s.2.1 s.2.2 w

def onion_Wrap.c4 (R : Value → World → Prop) (a0 : Option Addr) (pubs1 : Sl) (secret2 : Int) (payload3 : Int) (w : World) : Prop :=
  CallsV Tryd.prog n_onion_Keys #[.pointer a0, .int .i64 secret2] w (fun v_14 w5 =>
  ∃ (a_15 : Option Addr) (l_16 c_17 : Nat), ∃ x_18 : Int, v_14 = .tuple #[.slice a_15 l_16 c_17, .int .i64 x_18] ∧
  onion_Wrap.l2 R a0 pubs1 secret2 ⟨a_15, l_16, c_17⟩ payload3 x_18 2 w5)

def onion_Wrap.b5 (R : Value → World → Prop) (N5 : Option Addr → Sl → Int → Int → Sl → Int → Int → World → Prop) (a0 : Option Addr) (pubs1 : Sl) (secret2 : Int) (payload3 : Int) (t32 : Sl) (t33 : Int) (t34 : Int) (w : World) : Prop :=
  cond (decide ((t34 : Int) < t33))
  (0 ≤ (t34 : Int) ∧ t34 < ((t32.len : Nat) : Int) ∧ ∃ q_19 : Addr, t32.a = some q_19 ∧
  ∃ x_20 : Int, w.cell? (q_19.add (t34 : Int).toNat) = some (.int .i64 x_20) ∧
  CallsV Tryd.prog n_term_Arena_At #[.pointer a0, .int .i64 x_20] w (fun v_21 w6 =>
  ∃ x_22 : Int, ∃ x_23 : Int, ∃ (a_24 : Option Addr) (l_25 c_26 : Nat), v_21 = .agg #[.int .i64 x_22, .int .i64 x_23, .slice a_24 l_25 c_26] ∧
  cond ((x_22 : Int) != 5)
  (R (.tuple #[.int .i64 0, .slice none 0 0, .int .i64 6]) w6)
  (N5 a0 pubs1 secret2 payload3 t32 t33 (IntKind.i64.wrap (t34 + 1)) w6)))
  (onion_Wrap.c4 R a0 pubs1 secret2 payload3 w)

def onion_Wrap.l5 (R : Value → World → Prop) (a0 : Option Addr) (pubs1 : Sl) (secret2 : Int) (payload3 : Int) (t32 : Sl) (t33 : Int) (t34 : Int) (w : World) : Prop :=
  ∃ (I : Int → World → Prop) (μ : Int → World → Nat), I t34 w ∧ ∀ s w, I s w → onion_Wrap.b5 R (fun a0' pubs1' secret2' payload3' t32' t33' t34' w' => (a0' = a0 ∧ pubs1' = pubs1 ∧ secret2' = secret2 ∧ payload3' = payload3 ∧ t32' = t32 ∧ t33' = t33 ∧ I t34' w') ∧ μ t34' w' < μ s w) a0 pubs1 secret2 payload3 t32 t33 s w

def onion_Wrap.c6 (R : Value → World → Prop) (a0 : Option Addr) (pubs1 : Sl) (secret2 : Int) (payload3 : Int) (w : World) : Prop :=
  onion_Wrap.l5 R a0 pubs1 secret2 payload3 pubs1 ((pubs1.len : Nat) : Int) 0 w

def onion_Wrap.main (R : Value → World → Prop) (a0 : Option Addr) (pubs1 : Sl) (secret2 : Int) (payload3 : Int) (w : World) : Prop :=
  (let t15_26 : Bool := ((((pubs1.len : Nat) : Int) : Int) != 3);
  cond t15_26
  (R (.tuple #[.int .i64 0, .slice none 0 0, .int .i64 2]) w)
  (CallsV Tryd.prog n_term_Arena_Has #[.pointer a0, .slice pubs1.a pubs1.len pubs1.cap] w (fun v_28 w7 =>
  ∃ b_29 : Bool, v_28 = .bool b_29 ∧
  cond (!b_29)
  (R (.tuple #[.int .i64 0, .slice none 0 0, .int .i64 8]) w7)
  (let w8 := w7.alloc (.cells #[.int .i64 secret2, .int .i64 payload3] 3);
  CallsV Tryd.prog n_term_Arena_Has #[.pointer a0, .slice (some (newA w7)) 2 2] w8 (fun v_30 w9 =>
  ∃ b_31 : Bool, v_30 = .bool b_31 ∧
  cond (!b_31)
  (R (.tuple #[.int .i64 0, .slice none 0 0, .int .i64 8]) w9)
  (onion_Wrap.c6 R a0 pubs1 secret2 payload3 w9))))))

def onion_Wrap.J2 (R : Value → World → Prop) (N2 : Option Addr → Sl → Int → Sl → Int → Int → Int → World → Prop) (k : Nat) (fr : Fr) (w : World) : Prop :=
  cond (Nat.beq k 3) (dec [(0, .ptr), (1, .slice), (2, (.int .i64)), (8, (.int .i64)), (9, .slice), (13, (.int .i64))] fr fun x => onion_Wrap.c3 R N2 x.1 x.2.1 x.2.2.1 x.2.2.2.1 x.2.2.2.2.1 x.2.2.2.2.2 w) (False)

def onion_Wrap.J0 (R : Value → World → Prop) (k : Nat) (fr : Fr) (w : World) : Prop :=
  cond (Nat.beq k 6) (dec [(0, .ptr), (1, .slice), (2, (.int .i64)), (3, (.int .i64))] fr fun x => onion_Wrap.c6 R x.1 x.2.1 x.2.2.1 x.2.2.2 w) (cond (Nat.beq k 5) (dec [(0, .ptr), (1, .slice), (2, (.int .i64)), (3, (.int .i64)), (32, .slice), (33, (.int .i64)), (34, (.int .i64))] fr fun x => onion_Wrap.l5 R x.1 x.2.1 x.2.2.1 x.2.2.2.1 x.2.2.2.2.1 x.2.2.2.2.2.1 x.2.2.2.2.2.2 w) (cond (Nat.beq k 4) (dec [(0, .ptr), (1, .slice), (2, (.int .i64)), (3, (.int .i64))] fr fun x => onion_Wrap.c4 R x.1 x.2.1 x.2.2.1 x.2.2.2 w) (cond (Nat.beq k 2) (dec [(0, .ptr), (1, .slice), (2, (.int .i64)), (9, .slice), (8, (.int .i64)), (10, (.int .i64)), (13, (.int .i64))] fr fun x => onion_Wrap.l2 R x.1 x.2.1 x.2.2.1 x.2.2.2.1 x.2.2.2.2.1 x.2.2.2.2.2.1 x.2.2.2.2.2.2 w) (cond (Nat.beq k 1) (dec [(8, (.int .i64)), (9, .slice), (10, (.int .i64))] fr fun x => onion_Wrap.c1 R x.1 x.2.1 x.2.2 w) (False)))))

set_option maxRecDepth 100000 in
theorem onion_Wrap.lift {R : Value → World → Prop} {a0 : Option Addr} {pubs1 : Sl} {secret2 : Int} {payload3 : Int} {w : World} (h : onion_Wrap.main R a0 pubs1 secret2 payload3 w) : CallsV Tryd.prog n_onion_Wrap #[.pointer a0, .slice pubs1.a pubs1.len pubs1.cap, .int .i64 secret2, .int .i64 payload3] w R :=
  liftCalls (c := (.seq (.leaf (cL (bd Tryd.f48))) (.seq (.block 0 (.seq (.leaf (cL (cB (cL (cR (bd Tryd.f48)))))) (.cnd (.tmp 15) (.seq (.leaf (cL (cT (cR (cB (cL (cR (bd Tryd.f48)))))))) (.leaf (cR (cT (cR (cB (cL (cR (bd Tryd.f48))))))))) (.seq (.leaf (cL (cE (cR (cB (cL (cR (bd Tryd.f48)))))))) (.cnd (.tmp 19) (.seq (.leaf (cL (cT (cR (cE (cR (cB (cL (cR (bd Tryd.f48)))))))))) (.leaf (cR (cT (cR (cE (cR (cB (cL (cR (bd Tryd.f48))))))))))) (.leaf (cE (cR (cE (cR (cB (cL (cR (bd Tryd.f48)))))))))))))) (.cut 6 (.seq (.seq (.leaf (cL (cL (cR (cR (bd Tryd.f48)))))) (.block 1 (.loop 5 (.seq (.leaf (cL (cB (cB (cR (cL (cR (cR (bd Tryd.f48))))))))) (.seq (.cnd (.tmp 35) (.leaf (cT (cL (cR (cB (cB (cR (cL (cR (cR (bd Tryd.f48))))))))))) (.leaf (cE (cL (cR (cB (cB (cR (cL (cR (cR (bd Tryd.f48)))))))))))) (.seq (.block 2 (.seq (.leaf (cL (cB (cL (cR (cR (cB (cB (cR (cL (cR (cR (bd Tryd.f48))))))))))))) (.seq (.leaf (cL (cR (cB (cL (cR (cR (cB (cB (cR (cL (cR (cR (bd Tryd.f48)))))))))))))) (.cnd (.tmp 42) (.seq (.leaf (cL (cT (cR (cR (cB (cL (cR (cR (cB (cB (cR (cL (cR (cR (bd Tryd.f48)))))))))))))))) (.leaf (cR (cT (cR (cR (cB (cL (cR (cR (cB (cB (cR (cL (cR (cR (bd Tryd.f48))))))))))))))))) (.leaf (cE (cR (cR (cB (cL (cR (cR (cB (cB (cR (cL (cR (cR (bd Tryd.f48))))))))))))))))))) (.leaf (cR (cR (cR (cB (cB (cR (cL (cR (cR (bd Tryd.f48))))))))))))))))) (.cut 4 (.seq (.leaf (cL (cR (cR (cR (bd Tryd.f48)))))) (.seq (.leaf (cL (cR (cR (cR (cR (bd Tryd.f48))))))) (.seq (.seq (.leaf (cL (cL (cR (cR (cR (cR (cR (bd Tryd.f48))))))))) (.block 3 (.loop 2 (.seq (.seq (.leaf (cL (cL (cB (cB (cR (cL (cR (cR (cR (cR (cR (bd Tryd.f48))))))))))))) (.cnd (.tmp 56) (.leaf (cT (cR (cL (cB (cB (cR (cL (cR (cR (cR (cR (cR (bd Tryd.f48)))))))))))))) (.leaf (cE (cR (cL (cB (cB (cR (cL (cR (cR (cR (cR (cR (bd Tryd.f48)))))))))))))))) (.cut 3 (.seq (.block 4 (.seq (.leaf (cL (cB (cL (cR (cB (cB (cR (cL (cR (cR (cR (cR (cR (bd Tryd.f48))))))))))))))) (.seq (.leaf (cL (cR (cB (cL (cR (cB (cB (cR (cL (cR (cR (cR (cR (cR (bd Tryd.f48)))))))))))))))) (.seq (.leaf (cL (cR (cR (cB (cL (cR (cB (cB (cR (cL (cR (cR (cR (cR (cR (bd Tryd.f48))))))))))))))))) (.cnd (.tmp 69) (.leaf (cT (cR (cR (cR (cB (cL (cR (cB (cB (cR (cL (cR (cR (cR (cR (cR (bd Tryd.f48)))))))))))))))))) (.leaf (cE (cR (cR (cR (cB (cL (cR (cB (cB (cR (cL (cR (cR (cR (cR (cR (bd Tryd.f48))))))))))))))))))))))) (.leaf (cR (cR (cB (cB (cR (cL (cR (cR (cR (cR (cR (bd Tryd.f48))))))))))))))))))) (.cut 1 (.seq (.seq (.leaf (cL (cL (cR (cR (cR (cR (cR (cR (bd Tryd.f48)))))))))) (.cnd (.tmp 87) (.seq (.leaf (cL (cT (cR (cL (cR (cR (cR (cR (cR (cR (bd Tryd.f48)))))))))))) (.leaf (cR (cT (cR (cL (cR (cR (cR (cR (cR (cR (bd Tryd.f48))))))))))))) (.leaf (cE (cR (cL (cR (cR (cR (cR (cR (cR (bd Tryd.f48))))))))))))) (.seq (.leaf (cL (cR (cR (cR (cR (cR (cR (cR (bd Tryd.f48)))))))))) (.leaf (cR (cR (cR (cR (cR (cR (cR (cR (bd Tryd.f48)))))))))))))))))))))) (J := onion_Wrap.J0 R) LfYtoclhecldmahiaaDoor.mixed Tryd.func48 (by kernel_rfl) (by kernel_rfl) (mkSeq (mkSeq (mkCut (cutDef [(0, .ptr), (1, .slice), (2, (.int .i64)), (3, (.int .i64))] (fun x w => onion_Wrap.c6 R x.1 x.2.1 x.2.2.1 x.2.2.2 w) (fun _ _ => by kernel_rfl) (fun _ _ => by kernel_rfl)) (mkSeq (mkCut (cutDef [(0, .ptr), (1, .slice), (2, (.int .i64)), (3, (.int .i64))] (fun x w => onion_Wrap.c4 R x.1 x.2.1 x.2.2.1 x.2.2.2 w) (fun _ _ => by kernel_rfl) (fun _ _ => by kernel_rfl)) (mkSeq (mkSeq (mkSeq (mkCut (cutDef [(8, (.int .i64)), (9, .slice), (10, (.int .i64))] (fun x w => onion_Wrap.c1 R x.1 x.2.1 x.2.2 w) (fun _ _ => by kernel_rfl) (fun _ _ => by kernel_rfl)) (mkSeq (mkSeq mkLeaf mkLeaf) (mkSeq (mkCnd (mkSeq mkLeaf mkLeaf) mkLeaf) mkLeaf))) (mkSeq (mkBlock (mkLoop (loopDef LfYtoclhecldmahiaaDoor.mixed [(0, .ptr), (1, .slice), (2, (.int .i64)), (9, .slice), (8, (.int .i64)), (10, (.int .i64)), (13, (.int .i64))] (by kernel_rfl) (fun M2 x w => onion_Wrap.b2 R (fun y0 y1 y2 y3 y4 y5 y6 w => M2 (y0, y1, y2, y3, y4, y5, y6) w) x.1 x.2.1 x.2.2.1 x.2.2.2.1 x.2.2.2.2.1 x.2.2.2.2.2.1 x.2.2.2.2.2.2 w) (fun M2 => onion_Wrap.J2 R (fun y0 y1 y2 y3 y4 y5 y6 w => M2 (y0, y1, y2, y3, y4, y5, y6) w)) (fun _ _ _ => by kernel_rfl) (fun M2 => (mkSeq (mkCut (cutDef [(0, .ptr), (1, .slice), (2, (.int .i64)), (8, (.int .i64)), (9, .slice), (13, (.int .i64))] (fun x w => onion_Wrap.c3 R (fun y0 y1 y2 y3 y4 y5 y6 w => M2 (y0, y1, y2, y3, y4, y5, y6) w) x.1 x.2.1 x.2.2.1 x.2.2.2.1 x.2.2.2.2.1 x.2.2.2.2.2 w) (fun _ _ => by kernel_rfl) (fun _ _ => by kernel_rfl)) (mkSeq mkLeaf (mkBlock (mkSeq (mkSeq (mkSeq (mkCnd mkLeaf mkLeaf) mkLeaf) mkLeaf) mkLeaf)))) (mkSeq (mkCnd mkLeaf mkLeaf) mkLeaf))) (fun x w => onion_Wrap.l2 R x.1 x.2.1 x.2.2.1 x.2.2.2.1 x.2.2.2.2.1 x.2.2.2.2.2.1 x.2.2.2.2.2.2 w) (by rintro ⟨c0, c1, c2, c3, s0⟩ w ⟨I, μ, h0, h1⟩; refine ⟨fun y w => y.1 = c0 ∧ y.2.1 = c1 ∧ y.2.2.1 = c2 ∧ y.2.2.2.1 = c3 ∧ I y.2.2.2.2 w, fun y w => μ y.2.2.2.2 w, ⟨rfl, rfl, rfl, rfl, h0⟩, ?_⟩; rintro ⟨d0, d1, d2, d3, t0⟩ w ⟨e0, e1, e2, e3, hI⟩; dsimp only at e0 e1 e2 e3 hI; subst e0; subst e1; subst e2; subst e3; exact h1 _ _ hI) (fun _ _ => by kernel_rfl)))) mkLeaf)) mkLeaf) mkLeaf)) (mkSeq (mkBlock (mkLoop (loopDef LfYtoclhecldmahiaaDoor.mixed [(0, .ptr), (1, .slice), (2, (.int .i64)), (3, (.int .i64)), (32, .slice), (33, (.int .i64)), (34, (.int .i64))] (by kernel_rfl) (fun M5 x w => onion_Wrap.b5 R (fun y0 y1 y2 y3 y4 y5 y6 w => M5 (y0, y1, y2, y3, y4, y5, y6) w) x.1 x.2.1 x.2.2.1 x.2.2.2.1 x.2.2.2.2.1 x.2.2.2.2.2.1 x.2.2.2.2.2.2 w) (fun M5 => fun _ _ _ => False) (fun _ _ _ => by kernel_rfl) (fun M5 => (mkSeq (mkSeq (mkSeq mkLeaf (mkBlock (mkSeq (mkSeq (mkCnd (mkSeq mkLeaf mkLeaf) mkLeaf) mkLeaf) mkLeaf))) (mkCnd mkLeaf mkLeaf)) mkLeaf)) (fun x w => onion_Wrap.l5 R x.1 x.2.1 x.2.2.1 x.2.2.2.1 x.2.2.2.2.1 x.2.2.2.2.2.1 x.2.2.2.2.2.2 w) (by rintro ⟨c0, c1, c2, c3, c4, c5, s0⟩ w ⟨I, μ, h0, h1⟩; refine ⟨fun y w => y.1 = c0 ∧ y.2.1 = c1 ∧ y.2.2.1 = c2 ∧ y.2.2.2.1 = c3 ∧ y.2.2.2.2.1 = c4 ∧ y.2.2.2.2.2.1 = c5 ∧ I y.2.2.2.2.2.2 w, fun y w => μ y.2.2.2.2.2.2 w, ⟨rfl, rfl, rfl, rfl, rfl, rfl, h0⟩, ?_⟩; rintro ⟨d0, d1, d2, d3, d4, d5, t0⟩ w ⟨e0, e1, e2, e3, e4, e5, hI⟩; dsimp only at e0 e1 e2 e3 e4 e5 hI; subst e0; subst e1; subst e2; subst e3; subst e4; subst e5; exact h1 _ _ hI) (fun _ _ => by kernel_rfl)))) mkLeaf))) (mkBlock (mkSeq (mkCnd (mkSeq mkLeaf mkLeaf) (mkSeq (mkCnd (mkSeq mkLeaf mkLeaf) mkLeaf) mkLeaf)) mkLeaf))) mkLeaf) (kcast (by kernel_rfl) h)

/-! onion_Peel -/
def onion_Peel.main (R : Value → World → Prop) (a0 : Option Addr) (secret1 : Int) (onion2 : Int) (w : World) : Prop :=
  CallsV Tryd.prog n_term_Arena_Unbox #[.pointer a0, .int .i64 onion2, .int .i64 secret1] w (fun v_1 w1 =>
  ∃ (a_2 : Option Addr) (l_3 c_4 : Nat), ∃ x_5 : Int, v_1 = .tuple #[.slice a_2 l_3 c_4, .int .i64 x_5] ∧
  cond ((x_5 : Int) != 0)
  (R (.tuple #[.int .i64 0, .int .i64 0, .int .i64 x_5]) w1)
  ((let t21_5 : Bool := ((((l_3 : Nat) : Int) : Int) != 2);
  cond t21_5
  (R (.tuple #[.int .i64 0, .int .i64 0, .int .i64 6]) w1)
  (0 ≤ (0 : Int) ∧ 0 < ((l_3 : Nat) : Int) ∧ ∃ q_7 : Addr, a_2 = some q_7 ∧
  ∃ x_8 : Int, w1.cell? (q_7.add (0 : Int).toNat) = some (.int .i64 x_8) ∧
  0 ≤ (1 : Int) ∧ 1 < ((l_3 : Nat) : Int) ∧ ∃ q_9 : Addr, a_2 = some q_9 ∧
  ∃ x_10 : Int, w1.cell? (q_9.add (1 : Int).toNat) = some (.int .i64 x_10) ∧
  R (.tuple #[.int .i64 x_8, .int .i64 x_10, .int .i64 0]) w1.drew))))

def onion_Peel.J0 (_ : Value → World → Prop) (_ : Nat) (_ : Fr) (_ : World) : Prop := False

set_option maxRecDepth 100000 in
theorem onion_Peel.lift {R : Value → World → Prop} {a0 : Option Addr} {secret1 : Int} {onion2 : Int} {w : World} (h : onion_Peel.main R a0 secret1 onion2 w) : CallsV Tryd.prog n_onion_Peel #[.pointer a0, .int .i64 secret1, .int .i64 onion2] w R :=
  liftCalls (c := (.seq (.leaf (cL (bd Tryd.f49))) (.seq (.leaf (cL (cR (bd Tryd.f49)))) (.seq (.block 0 (.seq (.leaf (cL (cB (cL (cR (cR (bd Tryd.f49))))))) (.cnd (.tmp 17) (.seq (.leaf (cL (cT (cR (cB (cL (cR (cR (bd Tryd.f49))))))))) (.leaf (cR (cT (cR (cB (cL (cR (cR (bd Tryd.f49)))))))))) (.seq (.leaf (cL (cE (cR (cB (cL (cR (cR (bd Tryd.f49))))))))) (.cnd (.tmp 21) (.seq (.leaf (cL (cT (cR (cE (cR (cB (cL (cR (cR (bd Tryd.f49))))))))))) (.leaf (cR (cT (cR (cE (cR (cB (cL (cR (cR (bd Tryd.f49)))))))))))) (.leaf (cE (cR (cE (cR (cB (cL (cR (cR (bd Tryd.f49))))))))))))))) (.seq (.leaf (cL (cR (cR (cR (bd Tryd.f49)))))) (.leaf (cR (cR (cR (cR (bd Tryd.f49))))))))))) (J := onion_Peel.J0 R) LfYtoclhecldmahiaaDoor.mixed Tryd.func49 (by kernel_rfl) (by kernel_rfl) (mkSeq (mkSeq (mkSeq (mkSeq mkLeaf mkLeaf) (mkBlock (mkSeq (mkCnd (mkSeq mkLeaf mkLeaf) (mkSeq (mkCnd (mkSeq mkLeaf mkLeaf) mkLeaf) mkLeaf)) mkLeaf))) mkLeaf) mkLeaf) (kcast (by kernel_rfl) h)

/-! trystlaw23_wakes -/
def trystlaw23_wakes.main (R : Value → World → Prop)  (w : World) : Prop :=
  CallsV Tryd.prog n_term_New #[] w (fun v_1 w1 =>
  ∃ p_2 : Option Addr, v_1 = .pointer p_2 ∧
  cond ((p_2).isNone)
  (R (.bool false) w1)
  (CallsV Tryd.prog n_term_Arena_Make #[.pointer p_2, .int .i64 1, .int .i64 1, .slice none 0 0] w1 (fun v_3 w2 =>
  ∃ x_4 : Int, ∃ x_5 : Int, v_3 = .tuple #[.int .i64 x_4, .int .i64 x_5] ∧
  let w3 := w2.alloc (.cells #[.int .i64 x_4] 3);
  CallsV Tryd.prog n_term_Arena_Make #[.pointer p_2, .int .i64 5, .int .i64 0, .slice (some (newA w2)) 1 1] w3 (fun v_6 w4 =>
  ∃ x_7 : Int, ∃ x_8 : Int, v_6 = .tuple #[.int .i64 x_7, .int .i64 x_8] ∧
  CallsV Tryd.prog n_term_Arena_Make #[.pointer p_2, .int .i64 2, .int .i64 5, .slice none 0 0] w4 (fun v_9 w5 =>
  ∃ x_10 : Int, ∃ x_11 : Int, v_9 = .tuple #[.int .i64 x_10, .int .i64 x_11] ∧
  let w6 := w5.alloc (.cells #[.int .i64 x_7, .int .i64 x_7, .int .i64 x_7] 3);
  CallsV Tryd.prog n_onion_Wrap #[.pointer p_2, .slice (some (newA w5)) 3 3, .int .i64 x_4, .int .i64 x_10] w6 (fun v_12 w7 =>
  ∃ x_13 : Int, ∃ (a_14 : Option Addr) (l_15 c_16 : Nat), ∃ x_17 : Int, v_12 = .tuple #[.int .i64 x_13, .slice a_14 l_15 c_16, .int .i64 x_17] ∧
  CallsV Tryd.prog n_onion_Peel #[.pointer p_2, .int .i64 x_4, .int .i64 x_13] w7 (fun v_18 w8 =>
  ∃ x_19 : Int, ∃ x_20 : Int, ∃ x_21 : Int, v_18 = .tuple #[.int .i64 x_19, .int .i64 x_20, .int .i64 x_21] ∧
  cond ((x_17 : Int) == 0)
  (cond ((x_21 : Int) == 0)
  (cond ((((l_15 : Nat) : Int) : Int) == 3)
  (0 ≤ (0 : Int) ∧ 0 < ((l_15 : Nat) : Int) ∧ ∃ q_22 : Addr, a_14 = some q_22 ∧
  ∃ x_23 : Int, w8.cell? (q_22.add (0 : Int).toNat) = some (.int .i64 x_23) ∧
  cond ((x_20 : Int) == x_23)
  (R (.bool ((x_19 : Int) != x_10)) w8)
  (R (.bool false) w8))
  (R (.bool false) w8))
  (R (.bool false) w8))
  (R (.bool false) w8))))))))

def trystlaw23_wakes.J0 (_ : Value → World → Prop) (_ : Nat) (_ : Fr) (_ : World) : Prop := False

set_option maxRecDepth 100000 in
theorem trystlaw23_wakes.lift {R : Value → World → Prop}  {w : World} (h : trystlaw23_wakes.main R  w) : CallsV Tryd.prog n_trystlaw23_wakes #[] w R :=
  liftCalls (c := (.seq (.leaf (cL (bd Tryd.f50))) (.seq (.leaf (cL (cR (bd Tryd.f50)))) (.seq (.seq (.leaf (cL (cL (cR (cR (bd Tryd.f50)))))) (.cnd (.tmp 16) (.seq (.leaf (cL (cT (cR (cL (cR (cR (bd Tryd.f50)))))))) (.leaf (cR (cT (cR (cL (cR (cR (bd Tryd.f50))))))))) (.leaf (cE (cR (cL (cR (cR (bd Tryd.f50))))))))) (.seq (.leaf (cL (cR (cR (cR (bd Tryd.f50)))))) (.seq (.leaf (cL (cR (cR (cR (cR (bd Tryd.f50))))))) (.seq (.leaf (cL (cR (cR (cR (cR (cR (bd Tryd.f50)))))))) (.seq (.leaf (cL (cR (cR (cR (cR (cR (cR (bd Tryd.f50))))))))) (.seq (.leaf (cL (cR (cR (cR (cR (cR (cR (cR (bd Tryd.f50)))))))))) (.seq (.leaf (cL (cR (cR (cR (cR (cR (cR (cR (cR (bd Tryd.f50))))))))))) (.leaf (cR (cR (cR (cR (cR (cR (cR (cR (cR (bd Tryd.f50))))))))))))))))))))) (J := trystlaw23_wakes.J0 R) LfYtoclhecldmahiaaDoor.mixed Tryd.func50 (by kernel_rfl) (by kernel_rfl) (mkSeq (mkSeq (mkSeq (mkSeq (mkSeq (mkSeq (mkSeq (mkSeq (mkSeq mkLeaf mkLeaf) mkLeaf) mkLeaf) mkLeaf) mkLeaf) mkLeaf) (mkSeq (mkCnd (mkSeq mkLeaf mkLeaf) mkLeaf) mkLeaf)) mkLeaf) mkLeaf) (kcast (by kernel_rfl) h)

/-! trystref22_Wrap -/
def trystref22_Wrap.c1 (R : Value → World → Prop) (keys10 : Sl) (x12 : Int) (w : World) : Prop :=
  R (.tuple #[.int .i64 x12, .slice keys10.a keys10.len keys10.cap]) w

def trystref22_Wrap.b2 (R : Value → World → Prop) (N2 : Option Addr → Sl → Int → Sl → Int → Int → World → Prop) (a0 : Option Addr) (pubs1 : Sl) (secret2 : Int) (keys10 : Sl) (x12 : Int) (s13 : Int) (w : World) : Prop :=
  cond (decide ((s13 : Int) ≥ 0))
  (∃ S_1 : World → Prop, S_1 w.drew ∧
  0 ≤ (s13 : Int) ∧ s13 < ((pubs1.len : Nat) : Int) ∧ ∃ q_2 : Addr, pubs1.a = some q_2 ∧
  ∃ x_3 : Int, (∀ x, S_1 x → x.cell? (q_2.add (s13 : Int).toNat) = some (.int .i64 x_3)) ∧
  0 ≤ (s13 : Int) ∧ s13 < ((keys10.len : Nat) : Int) ∧ ∃ q_4 : Addr, keys10.a = some q_4 ∧
  ∃ x_5 : Int, (∀ x, S_1 x → x.cell? (q_4.add (s13 : Int).toNat) = some (.int .i64 x_5)) ∧
  CallsV Tryd.prog n_trystref10_Arena_Kdf #[.pointer a0, .int .i64 secret2, .int .i64 (IntKind.i64.wrap (60 + s13))] w.drew (fun v_6 w1 =>
  ∃ x_7 : Int, v_6 = .int .i64 x_7 ∧
  S_1 w1 ∧
  let w2 := w1.alloc (.cells #[.int .i64 x_3, .int .i64 x_7, .int .i64 x12, .int .i64 x_5] 3);
  CallsV Tryd.prog n_trystref10_Arena_Make #[.pointer a0, .int .i64 7, .int .i64 0, .slice (some (newA w1)) 4 4] w2 (fun v_8 w3 =>
  ∃ x_9 : Int, v_8 = .int .i64 x_9 ∧
  (let s13_9 : Int := (IntKind.i64.wrap (s13 - 1));
  N2 a0 pubs1 secret2 keys10 x_9 s13_9 w3))))
  (trystref22_Wrap.c1 R keys10 x12 w)

def trystref22_Wrap.l2 (R : Value → World → Prop) (a0 : Option Addr) (pubs1 : Sl) (secret2 : Int) (keys10 : Sl) (x12 : Int) (s13 : Int) (w : World) : Prop :=
  ∃ (I : (Int × Int) → World → Prop) (μ : (Int × Int) → World → Nat), I (x12, s13) w ∧ ∀ s w, I s w → trystref22_Wrap.b2 R (fun a0' pubs1' secret2' keys10' x12' s13' w' => (a0' = a0 ∧ pubs1' = pubs1 ∧ secret2' = secret2 ∧ keys10' = keys10 ∧ I (x12', s13') w') ∧ μ (x12', s13') w' < μ s w) a0 pubs1 secret2 keys10 s.1 s.2 w

def trystref22_Wrap.c3 (R : Value → World → Prop) (a0 : Option Addr) (pubs1 : Sl) (secret2 : Int) (payload3 : Int) (keys10 : Sl) (w : World) : Prop :=
  trystref22_Wrap.l2 R a0 pubs1 secret2 keys10 payload3 2 w

def trystref22_Wrap.b4 (R : Value → World → Prop) (N4 : Option Addr → Sl → Int → Int → Sl → Int → World → Prop) (a0 : Option Addr) (pubs1 : Sl) (secret2 : Int) (payload3 : Int) (keys10 : Sl) (s11 : Int) (w : World) : Prop :=
  cond (decide ((s11 : Int) < 3))
  (CallsV Tryd.prog n_trystref10_Arena_Kdf #[.pointer a0, .int .i64 secret2, .int .i64 (IntKind.i64.wrap (50 + s11))] w (fun v_11 w4 =>
  ∃ x_12 : Int, v_11 = .int .i64 x_12 ∧
  let w5 := w4.alloc (.cells #[.int .i64 x_12] 3);
  ∃ (a_13 : Option Addr) (l_14 c_15 : Nat), ∃ w6 : World, (builtin .append #[29, 29] 29 #[] #[.slice keys10.a keys10.len keys10.cap, .slice (some (newA w4)) 1 1]).run Tryd.prog w5 = .ok (.value (.slice a_13 l_14 c_15)) w6 ∧
  (let s11_15 : Int := (IntKind.i64.wrap (s11 + 1));
  N4 a0 pubs1 secret2 payload3 ⟨a_13, l_14, c_15⟩ s11_15 w6)))
  (trystref22_Wrap.c3 R a0 pubs1 secret2 payload3 keys10 w)

def trystref22_Wrap.l4 (R : Value → World → Prop) (a0 : Option Addr) (pubs1 : Sl) (secret2 : Int) (payload3 : Int) (keys10 : Sl) (s11 : Int) (w : World) : Prop :=
  ∃ (I : (Sl × Int) → World → Prop) (μ : (Sl × Int) → World → Nat), I (keys10, s11) w ∧ ∀ s w, I s w → trystref22_Wrap.b4 R (fun a0' pubs1' secret2' payload3' keys10' s11' w' => (a0' = a0 ∧ pubs1' = pubs1 ∧ secret2' = secret2 ∧ payload3' = payload3 ∧ I (keys10', s11') w') ∧ μ (keys10', s11') w' < μ s w) a0 pubs1 secret2 payload3 s.1 s.2 w

def trystref22_Wrap.main (R : Value → World → Prop) (a0 : Option Addr) (pubs1 : Sl) (secret2 : Int) (payload3 : Int) (w : World) : Prop :=
  trystref22_Wrap.l4 R a0 pubs1 secret2 payload3 ⟨none, 0, 0⟩ 0 w

def trystref22_Wrap.J0 (R : Value → World → Prop) (k : Nat) (fr : Fr) (w : World) : Prop :=
  cond (Nat.beq k 4) (dec [(0, .ptr), (1, .slice), (2, (.int .i64)), (3, (.int .i64)), (10, .slice), (11, (.int .i64))] fr fun x => trystref22_Wrap.l4 R x.1 x.2.1 x.2.2.1 x.2.2.2.1 x.2.2.2.2.1 x.2.2.2.2.2 w) (cond (Nat.beq k 3) (dec [(0, .ptr), (1, .slice), (2, (.int .i64)), (3, (.int .i64)), (10, .slice)] fr fun x => trystref22_Wrap.c3 R x.1 x.2.1 x.2.2.1 x.2.2.2.1 x.2.2.2.2 w) (cond (Nat.beq k 2) (dec [(0, .ptr), (1, .slice), (2, (.int .i64)), (10, .slice), (12, (.int .i64)), (13, (.int .i64))] fr fun x => trystref22_Wrap.l2 R x.1 x.2.1 x.2.2.1 x.2.2.2.1 x.2.2.2.2.1 x.2.2.2.2.2 w) (cond (Nat.beq k 1) (dec [(10, .slice), (12, (.int .i64))] fr fun x => trystref22_Wrap.c1 R x.1 x.2 w) (False))))

set_option maxRecDepth 100000 in
theorem trystref22_Wrap.lift {R : Value → World → Prop} {a0 : Option Addr} {pubs1 : Sl} {secret2 : Int} {payload3 : Int} {w : World} (h : trystref22_Wrap.main R a0 pubs1 secret2 payload3 w) : CallsV Tryd.prog n_trystref22_Wrap #[.pointer a0, .slice pubs1.a pubs1.len pubs1.cap, .int .i64 secret2, .int .i64 payload3] w R :=
  liftCalls (c := (.seq (.leaf (cL (bd Tryd.f66))) (.seq (.leaf (cL (cR (bd Tryd.f66)))) (.seq (.seq (.leaf (cL (cL (cR (cR (bd Tryd.f66)))))) (.block 0 (.loop 4 (.seq (.seq (.leaf (cL (cL (cB (cB (cR (cL (cR (cR (bd Tryd.f66)))))))))) (.cnd (.tmp 15) (.leaf (cT (cR (cL (cB (cB (cR (cL (cR (cR (bd Tryd.f66))))))))))) (.leaf (cE (cR (cL (cB (cB (cR (cL (cR (cR (bd Tryd.f66))))))))))))) (.seq (.block 1 (.leaf (cB (cL (cR (cB (cB (cR (cL (cR (cR (bd Tryd.f66)))))))))))) (.leaf (cR (cR (cB (cB (cR (cL (cR (cR (bd Tryd.f66))))))))))))))) (.cut 3 (.seq (.leaf (cL (cR (cR (cR (bd Tryd.f66)))))) (.seq (.seq (.leaf (cL (cL (cR (cR (cR (cR (bd Tryd.f66)))))))) (.block 2 (.loop 2 (.seq (.seq (.leaf (cL (cL (cB (cB (cR (cL (cR (cR (cR (cR (bd Tryd.f66)))))))))))) (.cnd (.tmp 28) (.leaf (cT (cR (cL (cB (cB (cR (cL (cR (cR (cR (cR (bd Tryd.f66))))))))))))) (.leaf (cE (cR (cL (cB (cB (cR (cL (cR (cR (cR (cR (bd Tryd.f66))))))))))))))) (.seq (.block 3 (.leaf (cB (cL (cR (cB (cB (cR (cL (cR (cR (cR (cR (bd Tryd.f66)))))))))))))) (.leaf (cR (cR (cB (cB (cR (cL (cR (cR (cR (cR (bd Tryd.f66))))))))))))))))) (.cut 1 (.seq (.leaf (cL (cR (cR (cR (cR (cR (bd Tryd.f66)))))))) (.leaf (cR (cR (cR (cR (cR (cR (bd Tryd.f66))))))))))))))))) (J := trystref22_Wrap.J0 R) LfYtoclhecldmahiaaDoor.mixed Tryd.func66 (by kernel_rfl) (by kernel_rfl) (mkSeq (mkSeq (mkSeq (mkCut (cutDef [(0, .ptr), (1, .slice), (2, (.int .i64)), (3, (.int .i64)), (10, .slice)] (fun x w => trystref22_Wrap.c3 R x.1 x.2.1 x.2.2.1 x.2.2.2.1 x.2.2.2.2 w) (fun _ _ => by kernel_rfl) (fun _ _ => by kernel_rfl)) (mkSeq (mkSeq (mkCut (cutDef [(10, .slice), (12, (.int .i64))] (fun x w => trystref22_Wrap.c1 R x.1 x.2 w) (fun _ _ => by kernel_rfl) (fun _ _ => by kernel_rfl)) (mkSeq mkLeaf mkLeaf)) (mkSeq (mkBlock (mkLoop (loopDef LfYtoclhecldmahiaaDoor.mixed [(0, .ptr), (1, .slice), (2, (.int .i64)), (10, .slice), (12, (.int .i64)), (13, (.int .i64))] (by kernel_rfl) (fun M2 x w => trystref22_Wrap.b2 R (fun y0 y1 y2 y3 y4 y5 w => M2 (y0, y1, y2, y3, y4, y5) w) x.1 x.2.1 x.2.2.1 x.2.2.2.1 x.2.2.2.2.1 x.2.2.2.2.2 w) (fun M2 => fun _ _ _ => False) (fun _ _ _ => by kernel_rfl) (fun M2 => (mkSeq (mkSeq mkLeaf (mkBlock mkLeaf)) (mkSeq (mkCnd mkLeaf mkLeaf) mkLeaf))) (fun x w => trystref22_Wrap.l2 R x.1 x.2.1 x.2.2.1 x.2.2.2.1 x.2.2.2.2.1 x.2.2.2.2.2 w) (by rintro ⟨c0, c1, c2, c3, s0⟩ w ⟨I, μ, h0, h1⟩; refine ⟨fun y w => y.1 = c0 ∧ y.2.1 = c1 ∧ y.2.2.1 = c2 ∧ y.2.2.2.1 = c3 ∧ I y.2.2.2.2 w, fun y w => μ y.2.2.2.2 w, ⟨rfl, rfl, rfl, rfl, h0⟩, ?_⟩; rintro ⟨d0, d1, d2, d3, t0⟩ w ⟨e0, e1, e2, e3, hI⟩; dsimp only at e0 e1 e2 e3 hI; subst e0; subst e1; subst e2; subst e3; exact h1 _ _ hI) (fun _ _ => by kernel_rfl)))) mkLeaf)) mkLeaf)) (mkSeq (mkBlock (mkLoop (loopDef LfYtoclhecldmahiaaDoor.mixed [(0, .ptr), (1, .slice), (2, (.int .i64)), (3, (.int .i64)), (10, .slice), (11, (.int .i64))] (by kernel_rfl) (fun M4 x w => trystref22_Wrap.b4 R (fun y0 y1 y2 y3 y4 y5 w => M4 (y0, y1, y2, y3, y4, y5) w) x.1 x.2.1 x.2.2.1 x.2.2.2.1 x.2.2.2.2.1 x.2.2.2.2.2 w) (fun M4 => fun _ _ _ => False) (fun _ _ _ => by kernel_rfl) (fun M4 => (mkSeq (mkSeq mkLeaf (mkBlock mkLeaf)) (mkSeq (mkCnd mkLeaf mkLeaf) mkLeaf))) (fun x w => trystref22_Wrap.l4 R x.1 x.2.1 x.2.2.1 x.2.2.2.1 x.2.2.2.2.1 x.2.2.2.2.2 w) (by rintro ⟨c0, c1, c2, c3, s0⟩ w ⟨I, μ, h0, h1⟩; refine ⟨fun y w => y.1 = c0 ∧ y.2.1 = c1 ∧ y.2.2.1 = c2 ∧ y.2.2.2.1 = c3 ∧ I y.2.2.2.2 w, fun y w => μ y.2.2.2.2 w, ⟨rfl, rfl, rfl, rfl, h0⟩, ?_⟩; rintro ⟨d0, d1, d2, d3, t0⟩ w ⟨e0, e1, e2, e3, hI⟩; dsimp only at e0 e1 e2 e3 hI; subst e0; subst e1; subst e2; subst e3; exact h1 _ _ hI) (fun _ _ => by kernel_rfl)))) mkLeaf)) mkLeaf) mkLeaf) (kcast (by kernel_rfl) h)

/-! trystref22_Peel -/
def trystref22_Peel.main (R : Value → World → Prop) (a0 : Option Addr) (secret1 : Int) (onion2 : Int) (w : World) : Prop :=
  CallsV Tryd.prog n_trystref10_Arena_Unbox #[.pointer a0, .int .i64 onion2, .int .i64 secret1] w (fun v_1 w1 =>
  ∃ (a_2 : Option Addr) (l_3 c_4 : Nat), ∃ x_5 : Int, v_1 = .tuple #[.slice a_2 l_3 c_4, .int .i64 x_5] ∧
  cond ((x_5 : Int) != 0)
  (R (.tuple #[.int .i64 0, .int .i64 0, .int .i64 x_5]) w1)
  (cond ((((l_3 : Nat) : Int) : Int) != 2)
  (R (.tuple #[.int .i64 0, .int .i64 0, .int .i64 6]) w1)
  (0 ≤ (0 : Int) ∧ 0 < ((l_3 : Nat) : Int) ∧ ∃ q_6 : Addr, a_2 = some q_6 ∧
  ∃ x_7 : Int, w1.cell? (q_6.add (0 : Int).toNat) = some (.int .i64 x_7) ∧
  0 ≤ (1 : Int) ∧ 1 < ((l_3 : Nat) : Int) ∧ ∃ q_8 : Addr, a_2 = some q_8 ∧
  ∃ x_9 : Int, w1.cell? (q_8.add (1 : Int).toNat) = some (.int .i64 x_9) ∧
  R (.tuple #[.int .i64 x_7, .int .i64 x_9, .int .i64 0]) w1.drew)))

def trystref22_Peel.J0 (_ : Value → World → Prop) (_ : Nat) (_ : Fr) (_ : World) : Prop := False

set_option maxRecDepth 100000 in
theorem trystref22_Peel.lift {R : Value → World → Prop} {a0 : Option Addr} {secret1 : Int} {onion2 : Int} {w : World} (h : trystref22_Peel.main R a0 secret1 onion2 w) : CallsV Tryd.prog n_trystref22_Peel #[.pointer a0, .int .i64 secret1, .int .i64 onion2] w R :=
  liftCalls (c := (.seq (.leaf (cL (bd Tryd.f67))) (.seq (.leaf (cL (cR (bd Tryd.f67)))) (.seq (.seq (.leaf (cL (cL (cR (cR (bd Tryd.f67)))))) (.cnd (.tmp 19) (.seq (.leaf (cL (cT (cR (cL (cR (cR (bd Tryd.f67)))))))) (.leaf (cR (cT (cR (cL (cR (cR (bd Tryd.f67))))))))) (.leaf (cE (cR (cL (cR (cR (bd Tryd.f67))))))))) (.seq (.seq (.leaf (cL (cL (cR (cR (cR (bd Tryd.f67))))))) (.cnd (.tmp 23) (.seq (.leaf (cL (cT (cR (cL (cR (cR (cR (bd Tryd.f67))))))))) (.leaf (cR (cT (cR (cL (cR (cR (cR (bd Tryd.f67)))))))))) (.leaf (cE (cR (cL (cR (cR (cR (bd Tryd.f67)))))))))) (.seq (.leaf (cL (cR (cR (cR (cR (bd Tryd.f67))))))) (.leaf (cR (cR (cR (cR (cR (bd Tryd.f67))))))))))))) (J := trystref22_Peel.J0 R) LfYtoclhecldmahiaaDoor.mixed Tryd.func67 (by kernel_rfl) (by kernel_rfl) (mkSeq (mkSeq (mkSeq (mkSeq (mkSeq mkLeaf mkLeaf) (mkSeq (mkCnd (mkSeq mkLeaf mkLeaf) mkLeaf) mkLeaf)) (mkSeq (mkCnd (mkSeq mkLeaf mkLeaf) mkLeaf) mkLeaf)) mkLeaf) mkLeaf) (kcast (by kernel_rfl) h)

/-! onion_Back -/
def onion_Back.main (R : Value → World → Prop) (a0 : Option Addr) (key1 : Int) (answer2 : Int) (w : World) : Prop :=
  let w1 := w.alloc (.cells #[.int .i64 key1, .int .i64 answer2] 3);
  CallsV Tryd.prog n_term_Arena_Make #[.pointer a0, .int .i64 6, .int .i64 0, .slice (some (newA w)) 2 2] w1 (fun v_1 w2 =>
  ∃ x_2 : Int, ∃ x_3 : Int, v_1 = .tuple #[.int .i64 x_2, .int .i64 x_3] ∧
  R (.tuple #[.int .i64 x_2, .int .i64 x_3]) w2)

def onion_Back.J0 (_ : Value → World → Prop) (_ : Nat) (_ : Fr) (_ : World) : Prop := False

set_option maxRecDepth 100000 in
theorem onion_Back.lift {R : Value → World → Prop} {a0 : Option Addr} {key1 : Int} {answer2 : Int} {w : World} (h : onion_Back.main R a0 key1 answer2 w) : CallsV Tryd.prog n_onion_Back #[.pointer a0, .int .i64 key1, .int .i64 answer2] w R :=
  liftCalls (c := (.seq (.leaf (cL (bd Tryd.f68))) (.seq (.leaf (cL (cR (bd Tryd.f68)))) (.leaf (cR (cR (bd Tryd.f68))))))) (J := onion_Back.J0 R) LfYtoclhecldmahiaaDoor.mixed Tryd.func68 (by kernel_rfl) (by kernel_rfl) (mkSeq (mkSeq mkLeaf mkLeaf) mkLeaf) (kcast (by kernel_rfl) h)

/-! onion_Read -/
def onion_Read.b1 (R : Value → World → Prop) (N1 : Option Addr → Sl → Int → Int → Int → World → Prop) (a0 : Option Addr) (t28 : Sl) (t29 : Int) (answer2 : Int) (t30 : Int) (w : World) : Prop :=
  cond (decide ((t30 : Int) < t29))
  (0 ≤ (t30 : Int) ∧ t30 < ((t28.len : Nat) : Int) ∧ ∃ q_1 : Addr, t28.a = some q_1 ∧
  ∃ x_2 : Int, w.cell? (q_1.add (t30 : Int).toNat) = some (.int .i64 x_2) ∧
  CallsV Tryd.prog n_term_Arena_Open #[.pointer a0, .int .i64 answer2, .int .i64 x_2] w (fun v_3 w1 =>
  ∃ (a_4 : Option Addr) (l_5 c_6 : Nat), ∃ x_7 : Int, v_3 = .tuple #[.slice a_4 l_5 c_6, .int .i64 x_7] ∧
  cond ((x_7 : Int) != 0)
  (R (.tuple #[.int .i64 0, .int .i64 x_7]) w1)
  ((let t45_7 : Bool := ((((l_5 : Nat) : Int) : Int) != 1);
  cond t45_7
  (R (.tuple #[.int .i64 0, .int .i64 6]) w1)
  (0 ≤ (0 : Int) ∧ 0 < ((l_5 : Nat) : Int) ∧ ∃ q_9 : Addr, a_4 = some q_9 ∧
  ∃ x_10 : Int, w1.cell? (q_9.add (0 : Int).toNat) = some (.int .i64 x_10) ∧
  N1 a0 t28 t29 x_10 (IntKind.i64.wrap (t30 + 1)) w1)))))
  (R (.tuple #[.int .i64 answer2, .int .i64 0]) w)

def onion_Read.l1 (R : Value → World → Prop) (a0 : Option Addr) (t28 : Sl) (t29 : Int) (answer2 : Int) (t30 : Int) (w : World) : Prop :=
  ∃ (I : (Int × Int) → World → Prop) (μ : (Int × Int) → World → Nat), I (answer2, t30) w ∧ ∀ s w, I s w → onion_Read.b1 R (fun a0' t28' t29' answer2' t30' w' => (a0' = a0 ∧ t28' = t28 ∧ t29' = t29 ∧ I (answer2', t30') w') ∧ μ (answer2', t30') w' < μ s w) a0 t28 t29 s.1 s.2 w

def onion_Read.c2 (R : Value → World → Prop) (a0 : Option Addr) (keys1 : Sl) (answer2 : Int) (w : World) : Prop :=
  onion_Read.l1 R a0 keys1 ((keys1.len : Nat) : Int) answer2 0 w

def onion_Read.main (R : Value → World → Prop) (a0 : Option Addr) (keys1 : Sl) (answer2 : Int) (w : World) : Prop :=
  (let t12_10 : Bool := ((((keys1.len : Nat) : Int) : Int) != 3);
  cond t12_10
  (R (.tuple #[.int .i64 0, .int .i64 2]) w)
  (CallsV Tryd.prog n_term_Arena_Has #[.pointer a0, .slice keys1.a keys1.len keys1.cap] w (fun v_12 w2 =>
  ∃ b_13 : Bool, v_12 = .bool b_13 ∧
  cond (!b_13)
  (R (.tuple #[.int .i64 0, .int .i64 8]) w2)
  (let w3 := w2.alloc (.cells #[.int .i64 answer2] 3);
  CallsV Tryd.prog n_term_Arena_Has #[.pointer a0, .slice (some (newA w2)) 1 1] w3 (fun v_14 w4 =>
  ∃ b_15 : Bool, v_14 = .bool b_15 ∧
  cond (!b_15)
  (R (.tuple #[.int .i64 0, .int .i64 8]) w4)
  (onion_Read.c2 R a0 keys1 answer2 w4))))))

def onion_Read.J0 (R : Value → World → Prop) (k : Nat) (fr : Fr) (w : World) : Prop :=
  cond (Nat.beq k 2) (dec [(0, .ptr), (1, .slice), (2, (.int .i64))] fr fun x => onion_Read.c2 R x.1 x.2.1 x.2.2 w) (cond (Nat.beq k 1) (dec [(0, .ptr), (28, .slice), (29, (.int .i64)), (2, (.int .i64)), (30, (.int .i64))] fr fun x => onion_Read.l1 R x.1 x.2.1 x.2.2.1 x.2.2.2.1 x.2.2.2.2 w) (False))

set_option maxRecDepth 100000 in
theorem onion_Read.lift {R : Value → World → Prop} {a0 : Option Addr} {keys1 : Sl} {answer2 : Int} {w : World} (h : onion_Read.main R a0 keys1 answer2 w) : CallsV Tryd.prog n_onion_Read #[.pointer a0, .slice keys1.a keys1.len keys1.cap, .int .i64 answer2] w R :=
  liftCalls (c := (.seq (.leaf (cL (bd Tryd.f69))) (.seq (.block 0 (.seq (.leaf (cL (cB (cL (cR (bd Tryd.f69)))))) (.cnd (.tmp 12) (.seq (.leaf (cL (cT (cR (cB (cL (cR (bd Tryd.f69)))))))) (.leaf (cR (cT (cR (cB (cL (cR (bd Tryd.f69))))))))) (.seq (.leaf (cL (cE (cR (cB (cL (cR (bd Tryd.f69)))))))) (.cnd (.tmp 16) (.seq (.leaf (cL (cT (cR (cE (cR (cB (cL (cR (bd Tryd.f69)))))))))) (.leaf (cR (cT (cR (cE (cR (cB (cL (cR (bd Tryd.f69))))))))))) (.leaf (cE (cR (cE (cR (cB (cL (cR (bd Tryd.f69)))))))))))))) (.cut 2 (.seq (.seq (.leaf (cL (cL (cR (cR (bd Tryd.f69)))))) (.block 1 (.loop 1 (.seq (.leaf (cL (cB (cB (cR (cL (cR (cR (bd Tryd.f69))))))))) (.seq (.cnd (.tmp 31) (.leaf (cT (cL (cR (cB (cB (cR (cL (cR (cR (bd Tryd.f69))))))))))) (.leaf (cE (cL (cR (cB (cB (cR (cL (cR (cR (bd Tryd.f69)))))))))))) (.seq (.block 2 (.seq (.leaf (cL (cB (cL (cR (cR (cB (cB (cR (cL (cR (cR (bd Tryd.f69))))))))))))) (.seq (.leaf (cL (cR (cB (cL (cR (cR (cB (cB (cR (cL (cR (cR (bd Tryd.f69)))))))))))))) (.seq (.block 3 (.seq (.leaf (cL (cB (cL (cR (cR (cB (cL (cR (cR (cB (cB (cR (cL (cR (cR (bd Tryd.f69))))))))))))))))) (.cnd (.tmp 41) (.seq (.leaf (cL (cT (cR (cB (cL (cR (cR (cB (cL (cR (cR (cB (cB (cR (cL (cR (cR (bd Tryd.f69))))))))))))))))))) (.leaf (cR (cT (cR (cB (cL (cR (cR (cB (cL (cR (cR (cB (cB (cR (cL (cR (cR (bd Tryd.f69)))))))))))))))))))) (.seq (.leaf (cL (cE (cR (cB (cL (cR (cR (cB (cL (cR (cR (cB (cB (cR (cL (cR (cR (bd Tryd.f69))))))))))))))))))) (.cnd (.tmp 45) (.seq (.leaf (cL (cT (cR (cE (cR (cB (cL (cR (cR (cB (cL (cR (cR (cB (cB (cR (cL (cR (cR (bd Tryd.f69))))))))))))))))))))) (.leaf (cR (cT (cR (cE (cR (cB (cL (cR (cR (cB (cL (cR (cR (cB (cB (cR (cL (cR (cR (bd Tryd.f69)))))))))))))))))))))) (.leaf (cE (cR (cE (cR (cB (cL (cR (cR (cB (cL (cR (cR (cB (cB (cR (cL (cR (cR (bd Tryd.f69))))))))))))))))))))))))) (.leaf (cR (cR (cR (cB (cL (cR (cR (cB (cB (cR (cL (cR (cR (bd Tryd.f69))))))))))))))))))) (.leaf (cR (cR (cR (cB (cB (cR (cL (cR (cR (bd Tryd.f69))))))))))))))))) (.seq (.leaf (cL (cR (cR (cR (bd Tryd.f69)))))) (.leaf (cR (cR (cR (cR (bd Tryd.f69)))))))))))) (J := onion_Read.J0 R) LfYtoclhecldmahiaaDoor.mixed Tryd.func69 (by kernel_rfl) (by kernel_rfl) (mkSeq (mkSeq (mkCut (cutDef [(0, .ptr), (1, .slice), (2, (.int .i64))] (fun x w => onion_Read.c2 R x.1 x.2.1 x.2.2 w) (fun _ _ => by kernel_rfl) (fun _ _ => by kernel_rfl)) (mkSeq (mkSeq mkLeaf mkLeaf) (mkSeq (mkBlock (mkLoop (loopDef LfYtoclhecldmahiaaDoor.mixed [(0, .ptr), (28, .slice), (29, (.int .i64)), (2, (.int .i64)), (30, (.int .i64))] (by kernel_rfl) (fun M1 x w => onion_Read.b1 R (fun y0 y1 y2 y3 y4 w => M1 (y0, y1, y2, y3, y4) w) x.1 x.2.1 x.2.2.1 x.2.2.2.1 x.2.2.2.2 w) (fun M1 => fun _ _ _ => False) (fun _ _ _ => by kernel_rfl) (fun M1 => (mkSeq (mkSeq (mkSeq mkLeaf (mkBlock (mkSeq (mkSeq (mkSeq mkLeaf (mkBlock (mkSeq (mkCnd (mkSeq mkLeaf mkLeaf) (mkSeq (mkCnd (mkSeq mkLeaf mkLeaf) mkLeaf) mkLeaf)) mkLeaf))) mkLeaf) mkLeaf))) (mkCnd mkLeaf mkLeaf)) mkLeaf)) (fun x w => onion_Read.l1 R x.1 x.2.1 x.2.2.1 x.2.2.2.1 x.2.2.2.2 w) (by rintro ⟨c0, c1, c2, s0⟩ w ⟨I, μ, h0, h1⟩; refine ⟨fun y w => y.1 = c0 ∧ y.2.1 = c1 ∧ y.2.2.1 = c2 ∧ I y.2.2.2 w, fun y w => μ y.2.2.2 w, ⟨rfl, rfl, rfl, h0⟩, ?_⟩; rintro ⟨d0, d1, d2, t0⟩ w ⟨e0, e1, e2, hI⟩; dsimp only at e0 e1 e2 hI; subst e0; subst e1; subst e2; exact h1 _ _ hI) (fun _ _ => by kernel_rfl)))) mkLeaf))) (mkBlock (mkSeq (mkCnd (mkSeq mkLeaf mkLeaf) (mkSeq (mkCnd (mkSeq mkLeaf mkLeaf) mkLeaf) mkLeaf)) mkLeaf))) mkLeaf) (kcast (by kernel_rfl) h)

/-! trystref22_Read -/
def trystref22_Read.b1 (R : Value → World → Prop) (N1 : Option Addr → Sl → Int → Int → World → Prop) (a0 : Option Addr) (keys1 : Sl) (x2 : Int) (i8 : Int) (w : World) : Prop :=
  cond (decide ((i8 : Int) < ((keys1.len : Nat) : Int)))
  (0 ≤ (i8 : Int) ∧ i8 < ((keys1.len : Nat) : Int) ∧ ∃ q_1 : Addr, keys1.a = some q_1 ∧
  ∃ x_2 : Int, w.cell? (q_1.add (i8 : Int).toNat) = some (.int .i64 x_2) ∧
  CallsV Tryd.prog n_trystref10_Arena_Open #[.pointer a0, .int .i64 x2, .int .i64 x_2] w (fun v_3 w1 =>
  ∃ (a_4 : Option Addr) (l_5 c_6 : Nat), ∃ x_7 : Int, v_3 = .tuple #[.slice a_4 l_5 c_6, .int .i64 x_7] ∧
  cond ((x_7 : Int) != 0)
  (R (.tuple #[.int .i64 0, .int .i64 x_7]) w1)
  (cond ((((l_5 : Nat) : Int) : Int) != 1)
  (R (.tuple #[.int .i64 0, .int .i64 6]) w1)
  (0 ≤ (0 : Int) ∧ 0 < ((l_5 : Nat) : Int) ∧ ∃ q_8 : Addr, a_4 = some q_8 ∧
  ∃ x_9 : Int, w1.cell? (q_8.add (0 : Int).toNat) = some (.int .i64 x_9) ∧
  (let i8_9 : Int := (IntKind.i64.wrap (i8 + 1));
  N1 a0 keys1 x_9 i8_9 w1)))))
  (R (.tuple #[.int .i64 x2, .int .i64 0]) w)

def trystref22_Read.l1 (R : Value → World → Prop) (a0 : Option Addr) (keys1 : Sl) (x2 : Int) (i8 : Int) (w : World) : Prop :=
  ∃ (I : (Int × Int) → World → Prop) (μ : (Int × Int) → World → Nat), I (x2, i8) w ∧ ∀ s w, I s w → trystref22_Read.b1 R (fun a0' keys1' x2' i8' w' => (a0' = a0 ∧ keys1' = keys1 ∧ I (x2', i8') w') ∧ μ (x2', i8') w' < μ s w) a0 keys1 s.1 s.2 w

def trystref22_Read.main (R : Value → World → Prop) (a0 : Option Addr) (keys1 : Sl) (x2 : Int) (w : World) : Prop :=
  trystref22_Read.l1 R a0 keys1 x2 0 w

def trystref22_Read.J0 (R : Value → World → Prop) (k : Nat) (fr : Fr) (w : World) : Prop :=
  cond (Nat.beq k 1) (dec [(0, .ptr), (1, .slice), (2, (.int .i64)), (8, (.int .i64))] fr fun x => trystref22_Read.l1 R x.1 x.2.1 x.2.2.1 x.2.2.2 w) (False)

set_option maxRecDepth 100000 in
theorem trystref22_Read.lift {R : Value → World → Prop} {a0 : Option Addr} {keys1 : Sl} {x2 : Int} {w : World} (h : trystref22_Read.main R a0 keys1 x2 w) : CallsV Tryd.prog n_trystref22_Read #[.pointer a0, .slice keys1.a keys1.len keys1.cap, .int .i64 x2] w R :=
  liftCalls (c := (.seq (.leaf (cL (bd Tryd.f70))) (.seq (.seq (.leaf (cL (cL (cR (bd Tryd.f70))))) (.block 0 (.loop 1 (.seq (.seq (.leaf (cL (cL (cB (cB (cR (cL (cR (bd Tryd.f70))))))))) (.cnd (.tmp 14) (.leaf (cT (cR (cL (cB (cB (cR (cL (cR (bd Tryd.f70)))))))))) (.leaf (cE (cR (cL (cB (cB (cR (cL (cR (bd Tryd.f70)))))))))))) (.seq (.block 1 (.seq (.leaf (cL (cB (cL (cR (cB (cB (cR (cL (cR (bd Tryd.f70))))))))))) (.seq (.seq (.leaf (cL (cL (cR (cB (cL (cR (cB (cB (cR (cL (cR (bd Tryd.f70))))))))))))) (.cnd (.tmp 28) (.seq (.leaf (cL (cT (cR (cL (cR (cB (cL (cR (cB (cB (cR (cL (cR (bd Tryd.f70))))))))))))))) (.leaf (cR (cT (cR (cL (cR (cB (cL (cR (cB (cB (cR (cL (cR (bd Tryd.f70)))))))))))))))) (.leaf (cE (cR (cL (cR (cB (cL (cR (cB (cB (cR (cL (cR (bd Tryd.f70)))))))))))))))) (.seq (.seq (.leaf (cL (cL (cR (cR (cB (cL (cR (cB (cB (cR (cL (cR (bd Tryd.f70)))))))))))))) (.cnd (.tmp 32) (.seq (.leaf (cL (cT (cR (cL (cR (cR (cB (cL (cR (cB (cB (cR (cL (cR (bd Tryd.f70)))))))))))))))) (.leaf (cR (cT (cR (cL (cR (cR (cB (cL (cR (cB (cB (cR (cL (cR (bd Tryd.f70))))))))))))))))) (.leaf (cE (cR (cL (cR (cR (cB (cL (cR (cB (cB (cR (cL (cR (bd Tryd.f70))))))))))))))))) (.leaf (cR (cR (cR (cB (cL (cR (cB (cB (cR (cL (cR (bd Tryd.f70))))))))))))))))) (.leaf (cR (cR (cB (cB (cR (cL (cR (bd Tryd.f70)))))))))))))) (.seq (.leaf (cL (cR (cR (bd Tryd.f70))))) (.leaf (cR (cR (cR (bd Tryd.f70))))))))) (J := trystref22_Read.J0 R) LfYtoclhecldmahiaaDoor.mixed Tryd.func70 (by kernel_rfl) (by kernel_rfl) (mkSeq (mkSeq (mkSeq mkLeaf mkLeaf) (mkSeq (mkBlock (mkLoop (loopDef LfYtoclhecldmahiaaDoor.mixed [(0, .ptr), (1, .slice), (2, (.int .i64)), (8, (.int .i64))] (by kernel_rfl) (fun M1 x w => trystref22_Read.b1 R (fun y0 y1 y2 y3 w => M1 (y0, y1, y2, y3) w) x.1 x.2.1 x.2.2.1 x.2.2.2 w) (fun M1 => fun _ _ _ => False) (fun _ _ _ => by kernel_rfl) (fun M1 => (mkSeq (mkSeq mkLeaf (mkBlock (mkSeq (mkSeq (mkSeq mkLeaf (mkSeq (mkCnd (mkSeq mkLeaf mkLeaf) mkLeaf) mkLeaf)) (mkSeq (mkCnd (mkSeq mkLeaf mkLeaf) mkLeaf) mkLeaf)) mkLeaf))) (mkSeq (mkCnd mkLeaf mkLeaf) mkLeaf))) (fun x w => trystref22_Read.l1 R x.1 x.2.1 x.2.2.1 x.2.2.2 w) (by rintro ⟨c0, c1, s0⟩ w ⟨I, μ, h0, h1⟩; refine ⟨fun y w => y.1 = c0 ∧ y.2.1 = c1 ∧ I y.2.2 w, fun y w => μ y.2.2 w, ⟨rfl, rfl, h0⟩, ?_⟩; rintro ⟨d0, d1, t0⟩ w ⟨e0, e1, hI⟩; dsimp only at e0 e1 hI; subst e0; subst e1; exact h1 _ _ hI) (fun _ _ => by kernel_rfl)))) mkLeaf)) mkLeaf) (kcast (by kernel_rfl) h)

/-! onion_Keys -/
def onion_Keys.b1 (R : Value → World → Prop) (N1 : Option Addr → Int → Sl → Int → World → Prop) (a0 : Option Addr) (secret1 : Int) (keys6 : Sl) (t10 : Int) (w : World) : Prop :=
  cond (decide ((t10 : Int) < 3))
  (let w1 := w.alloc (.cells #[.int .i64 secret1] 3);
  CallsV Tryd.prog n_term_Arena_Make #[.pointer a0, .int .i64 4, .int .i64 (IntKind.i64.wrap (50 + t10)), .slice (some (newA w)) 1 1] w1 (fun v_1 w2 =>
  ∃ x_2 : Int, ∃ x_3 : Int, v_1 = .tuple #[.int .i64 x_2, .int .i64 x_3] ∧
  cond ((x_3 : Int) != 0)
  (R (.tuple #[.slice none 0 0, .int .i64 x_3]) w2)
  (let w3 := w2.alloc (.cells #[.int .i64 x_2] 3);
  ∃ (a_4 : Option Addr) (l_5 c_6 : Nat), ∃ w4 : World, (builtin .append #[29, 29] 29 #[] #[.slice keys6.a keys6.len keys6.cap, .slice (some (newA w2)) 1 1]).run Tryd.prog w3 = .ok (.value (.slice a_4 l_5 c_6)) w4 ∧
  N1 a0 secret1 ⟨a_4, l_5, c_6⟩ (IntKind.i64.wrap (t10 + 1)) w4)))
  (R (.tuple #[.slice keys6.a keys6.len keys6.cap, .int .i64 0]) w)

def onion_Keys.l1 (R : Value → World → Prop) (a0 : Option Addr) (secret1 : Int) (keys6 : Sl) (t10 : Int) (w : World) : Prop :=
  ∃ (I : (Sl × Int) → World → Prop) (μ : (Sl × Int) → World → Nat), I (keys6, t10) w ∧ ∀ s w, I s w → onion_Keys.b1 R (fun a0' secret1' keys6' t10' w' => (a0' = a0 ∧ secret1' = secret1 ∧ I (keys6', t10') w') ∧ μ (keys6', t10') w' < μ s w) a0 secret1 s.1 s.2 w

def onion_Keys.main (R : Value → World → Prop) (a0 : Option Addr) (secret1 : Int) (w : World) : Prop :=
  onion_Keys.l1 R a0 secret1 ⟨none, 0, 0⟩ 0 w

def onion_Keys.J0 (R : Value → World → Prop) (k : Nat) (fr : Fr) (w : World) : Prop :=
  cond (Nat.beq k 1) (dec [(0, .ptr), (1, (.int .i64)), (6, .slice), (10, (.int .i64))] fr fun x => onion_Keys.l1 R x.1 x.2.1 x.2.2.1 x.2.2.2 w) (False)

set_option maxRecDepth 100000 in
theorem onion_Keys.lift {R : Value → World → Prop} {a0 : Option Addr} {secret1 : Int} {w : World} (h : onion_Keys.main R a0 secret1 w) : CallsV Tryd.prog n_onion_Keys #[.pointer a0, .int .i64 secret1] w R :=
  liftCalls (c := (.seq (.leaf (cL (bd Tryd.f109))) (.seq (.leaf (cL (cR (bd Tryd.f109)))) (.seq (.seq (.leaf (cL (cL (cR (cR (bd Tryd.f109)))))) (.block 0 (.loop 1 (.seq (.leaf (cL (cB (cB (cR (cL (cR (cR (bd Tryd.f109))))))))) (.seq (.cnd (.tmp 11) (.leaf (cT (cL (cR (cB (cB (cR (cL (cR (cR (bd Tryd.f109))))))))))) (.leaf (cE (cL (cR (cB (cB (cR (cL (cR (cR (bd Tryd.f109)))))))))))) (.seq (.block 1 (.seq (.leaf (cL (cB (cL (cR (cR (cB (cB (cR (cL (cR (cR (bd Tryd.f109))))))))))))) (.seq (.leaf (cL (cR (cB (cL (cR (cR (cB (cB (cR (cL (cR (cR (bd Tryd.f109)))))))))))))) (.seq (.seq (.leaf (cL (cL (cR (cR (cB (cL (cR (cR (cB (cB (cR (cL (cR (cR (bd Tryd.f109)))))))))))))))) (.cnd (.tmp 23) (.seq (.leaf (cL (cT (cR (cL (cR (cR (cB (cL (cR (cR (cB (cB (cR (cL (cR (cR (bd Tryd.f109)))))))))))))))))) (.leaf (cR (cT (cR (cL (cR (cR (cB (cL (cR (cR (cB (cB (cR (cL (cR (cR (bd Tryd.f109))))))))))))))))))) (.leaf (cE (cR (cL (cR (cR (cB (cL (cR (cR (cB (cB (cR (cL (cR (cR (bd Tryd.f109))))))))))))))))))) (.leaf (cR (cR (cR (cB (cL (cR (cR (cB (cB (cR (cL (cR (cR (bd Tryd.f109))))))))))))))))))) (.leaf (cR (cR (cR (cB (cB (cR (cL (cR (cR (bd Tryd.f109))))))))))))))))) (.seq (.leaf (cL (cR (cR (cR (bd Tryd.f109)))))) (.leaf (cR (cR (cR (cR (bd Tryd.f109))))))))))) (J := onion_Keys.J0 R) LfYtoclhecldmahiaaDoor.mixed Tryd.func109 (by kernel_rfl) (by kernel_rfl) (mkSeq (mkSeq (mkSeq (mkSeq mkLeaf mkLeaf) (mkSeq (mkBlock (mkLoop (loopDef LfYtoclhecldmahiaaDoor.mixed [(0, .ptr), (1, (.int .i64)), (6, .slice), (10, (.int .i64))] (by kernel_rfl) (fun M1 x w => onion_Keys.b1 R (fun y0 y1 y2 y3 w => M1 (y0, y1, y2, y3) w) x.1 x.2.1 x.2.2.1 x.2.2.2 w) (fun M1 => fun _ _ _ => False) (fun _ _ _ => by kernel_rfl) (fun M1 => (mkSeq (mkSeq (mkSeq mkLeaf (mkBlock (mkSeq (mkSeq (mkSeq mkLeaf (mkSeq (mkCnd (mkSeq mkLeaf mkLeaf) mkLeaf) mkLeaf)) mkLeaf) mkLeaf))) (mkCnd mkLeaf mkLeaf)) mkLeaf)) (fun x w => onion_Keys.l1 R x.1 x.2.1 x.2.2.1 x.2.2.2 w) (by rintro ⟨c0, c1, s0⟩ w ⟨I, μ, h0, h1⟩; refine ⟨fun y w => y.1 = c0 ∧ y.2.1 = c1 ∧ I y.2.2 w, fun y w => μ y.2.2 w, ⟨rfl, rfl, h0⟩, ?_⟩; rintro ⟨d0, d1, t0⟩ w ⟨e0, e1, hI⟩; dsimp only at e0 e1 hI; subst e0; subst e1; exact h1 _ _ hI) (fun _ _ => by kernel_rfl)))) mkLeaf)) mkLeaf) mkLeaf) (kcast (by kernel_rfl) h)

end Go.Proofs.YtoclhecldmahiaaDoor
