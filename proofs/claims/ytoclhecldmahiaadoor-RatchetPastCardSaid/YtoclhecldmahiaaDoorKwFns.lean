/-
  What the code of these functions comes to, and that it suffices for the call. Written by a program of ours, for this claim.
-/
import Derived.Test.YtoclhecldmahiaaDoorTmFns
set_option linter.unusedVariables false
set_option linter.unusedVariables false
namespace Go.Proofs.YtoclhecldmahiaaDoor
open Go.Lf
abbrev n_trystlaw11_KnowSecrets : Nat := 11
abbrev n_trystlaw11_KnowMade : Nat := 12
abbrev n_trystlaw11_KnowNests : Nat := 13
abbrev n_know_Is : Nat := 72
abbrev n_trystlaw11_wakes : Nat := 73
abbrev n_know_All : Nat := 74
abbrev n_know_newKnower : Nat := 120
abbrev n_know_knower_learn : Nat := 121
abbrev n_know_knower_follow : Nat := 122
abbrev n_know_knower_inside : Nat := 144
abbrev n_know_knower_opens : Nat := 145
/-! trystlaw11_KnowSecrets -/
def trystlaw11_KnowSecrets.c1 (R : Value → World → Prop) (a7 : Option Addr) (s8 : Int) (some14 : Sl) (w : World) : Prop :=
  let w1 := w.alloc (.cells #[.int .i64 s8] 3);
  CallsV Tryd.prog n_term_Arena_Make #[.pointer a7, .int .i64 4, .int .i64 1048576, .slice (some (newA w)) 1 1] w1 (fun v_1 w2 =>
  ∃ x_2 : Int, ∃ x_3 : Int, v_1 = .tuple #[.int .i64 x_2, .int .i64 x_3] ∧
  cond ((x_3 : Int) != 0)
  (R (.bool false) w2)
  (CallsV Tryd.prog n_know_Is #[.pointer a7, .slice some14.a some14.len some14.cap, .int .i64 s8] w2 (fun v_4 w3 =>
  ∃ b_5 : Bool, ∃ x_6 : Int, v_4 = .tuple #[.bool b_5, .int .i64 x_6] ∧
  CallsV Tryd.prog n_know_Is #[.pointer a7, .slice some14.a some14.len some14.cap, .int .i64 x_2] w3 (fun v_7 w4 =>
  ∃ b_8 : Bool, ∃ x_9 : Int, v_7 = .tuple #[.bool b_8, .int .i64 x_9] ∧
  let w5 := w4.alloc (.cells #[.int .i64 s8] 3);
  ∃ (a_10 : Option Addr) (l_11 c_12 : Nat), ∃ w6 : World, (builtin .append #[29, 29] 29 #[] #[.slice some14.a some14.len some14.cap, .slice (some (newA w4)) 1 1]).run Tryd.prog w5 = .ok (.value (.slice a_10 l_11 c_12)) w6 ∧
  CallsV Tryd.prog n_know_Is #[.pointer a7, .slice a_10 l_11 c_12, .int .i64 x_2] w6 (fun v_13 w7 =>
  ∃ b_14 : Bool, ∃ x_15 : Int, v_13 = .tuple #[.bool b_14, .int .i64 x_15] ∧
  cond ((x_6 : Int) == 0)
  (cond ((x_9 : Int) == 0)
  (cond ((x_15 : Int) == 0)
  (cond (!b_5)
  (cond (!b_8)
  (cond b_14
  (CallsV Tryd.prog n_trystlaw11_wakes #[] w7 (fun v_16 w8 =>
  ∃ b_17 : Bool, v_16 = .bool b_17 ∧
  R (.bool b_17) w8))
  (R (.bool false) w7))
  (R (.bool false) w7))
  (R (.bool false) w7))
  (R (.bool false) w7))
  (R (.bool false) w7))
  (R (.bool false) w7))))))

def trystlaw11_KnowSecrets.c3 (R : Value → World → Prop) (N2 : Sl → Option Addr → Int → Sl → Sl → Int → World → Prop) (kinds2 : Sl) (a7 : Option Addr) (s8 : Int) (in10 : Sl) (some14 : Sl) (i15 : Int) (x16 : Int) (e17 : Int) (w : World) : Prop :=
  cond ((e17 : Int) != 0)
  (R (.bool false) w)
  (let w9 := w.alloc (.cells #[.int .i64 x16] 3);
  ∃ (a_18 : Option Addr) (l_19 c_20 : Nat), ∃ w10 : World, (builtin .append #[29, 29] 29 #[] #[.slice some14.a some14.len some14.cap, .slice (some (newA w)) 1 1]).run Tryd.prog w9 = .ok (.value (.slice a_18 l_19 c_20)) w10 ∧
  (let i15_20 : Int := (IntKind.i64.wrap (i15 + 1));
  N2 kinds2 a7 s8 in10 ⟨a_18, l_19, c_20⟩ i15_20 w10))

def trystlaw11_KnowSecrets.b2 (R : Value → World → Prop) (N2 : Sl → Option Addr → Int → Sl → Sl → Int → World → Prop) (kinds2 : Sl) (a7 : Option Addr) (s8 : Int) (in10 : Sl) (some14 : Sl) (i15 : Int) (w : World) : Prop :=
  cond (decide ((i15 : Int) < ((kinds2.len : Nat) : Int)))
  (let w11 := w.alloc (.cells #[.int .i64 s8] 3);
  ∃ (a_22 : Option Addr) (l_23 c_24 : Nat), ∃ w12 : World, (builtin .append #[29, 29] 29 #[] #[.slice (some (newA w)) 1 1, .slice in10.a in10.len in10.cap]).run Tryd.prog w11 = .ok (.value (.slice a_22 l_23 c_24)) w12 ∧
  0 ≤ (i15 : Int) ∧ i15 < ((kinds2.len : Nat) : Int) ∧ ∃ q_25 : Addr, kinds2.a = some q_25 ∧
  ∃ x_26 : Int, w12.cell? (q_25.add (i15 : Int).toNat) = some (.int .i64 x_26) ∧
  (5 : Int) ≠ 0 ∧
  (let t92_26 : Bool := (((Int.tmod (IntKind.u64.wrap x_26) 5) : Int) == 0);
  cond t92_26
  (CallsV Tryd.prog n_term_Arena_Make #[.pointer a7, .int .i64 3, .int .i64 0, .slice a_22 l_23 c_24] w12 (fun v_28 w13 =>
  ∃ x_29 : Int, ∃ x_30 : Int, v_28 = .tuple #[.int .i64 x_29, .int .i64 x_30] ∧
  trystlaw11_KnowSecrets.c3 R N2 kinds2 a7 s8 in10 some14 i15 x_29 x_30 w13))
  ((let t100_30 : Bool := (((Int.tmod (IntKind.u64.wrap x_26) 5) : Int) == 1);
  cond t100_30
  (let w14 := w12.alloc (.cells #[.int .i64 s8] 3);
  CallsV Tryd.prog n_term_Arena_Make #[.pointer a7, .int .i64 4, .int .i64 i15, .slice (some (newA w12)) 1 1] w14 (fun v_32 w15 =>
  ∃ x_33 : Int, ∃ x_34 : Int, v_32 = .tuple #[.int .i64 x_33, .int .i64 x_34] ∧
  trystlaw11_KnowSecrets.c3 R N2 kinds2 a7 s8 in10 some14 i15 x_33 x_34 w15))
  ((let t110_34 : Bool := (((Int.tmod (IntKind.u64.wrap x_26) 5) : Int) == 2);
  cond t110_34
  (let w16 := w12.alloc (.cells #[.int .i64 s8] 3);
  CallsV Tryd.prog n_term_Arena_Make #[.pointer a7, .int .i64 5, .int .i64 0, .slice (some (newA w12)) 1 1] w16 (fun v_36 w17 =>
  ∃ x_37 : Int, ∃ x_38 : Int, v_36 = .tuple #[.int .i64 x_37, .int .i64 x_38] ∧
  trystlaw11_KnowSecrets.c3 R N2 kinds2 a7 s8 in10 some14 i15 x_37 x_38 w17))
  ((let t119_38 : Bool := (((Int.tmod (IntKind.u64.wrap x_26) 5) : Int) == 3);
  cond t119_38
  (CallsV Tryd.prog n_term_Arena_Make #[.pointer a7, .int .i64 6, .int .i64 0, .slice a_22 l_23 c_24] w12 (fun v_40 w18 =>
  ∃ x_41 : Int, ∃ x_42 : Int, v_40 = .tuple #[.int .i64 x_41, .int .i64 x_42] ∧
  trystlaw11_KnowSecrets.c3 R N2 kinds2 a7 s8 in10 some14 i15 x_41 x_42 w18))
  (CallsV Tryd.prog n_term_Arena_Make #[.pointer a7, .int .i64 8, .int .i64 0, .slice a_22 l_23 c_24] w12 (fun v_43 w19 =>
  ∃ x_44 : Int, ∃ x_45 : Int, v_43 = .tuple #[.int .i64 x_44, .int .i64 x_45] ∧
  trystlaw11_KnowSecrets.c3 R N2 kinds2 a7 s8 in10 some14 i15 x_44 x_45 w19))))))))))
  (trystlaw11_KnowSecrets.c1 R a7 s8 some14 w)

def trystlaw11_KnowSecrets.l2 (R : Value → World → Prop) (kinds2 : Sl) (a7 : Option Addr) (s8 : Int) (in10 : Sl) (some14 : Sl) (i15 : Int) (w : World) : Prop :=
  ∃ (I : (Sl × Int) → World → Prop) (μ : (Sl × Int) → World → Nat), I (some14, i15) w ∧ ∀ s w, I s w → trystlaw11_KnowSecrets.b2 R (fun kinds2' a7' s8' in10' some14' i15' w' => (kinds2' = kinds2 ∧ a7' = a7 ∧ s8' = s8 ∧ in10' = in10 ∧ I (some14', i15') w') ∧ μ (some14', i15') w' < μ s w) kinds2 a7 s8 in10 s.1 s.2 w

def trystlaw11_KnowSecrets.c4 (R : Value → World → Prop) (kinds2 : Sl) (a7 : Option Addr) (s8 : Int) (in10 : Sl) (w : World) : Prop :=
  trystlaw11_KnowSecrets.l2 R kinds2 a7 s8 in10 ⟨none, 0, 0⟩ 0 w

def trystlaw11_KnowSecrets.b5 (R : Value → World → Prop) (N5 : Sl → Sl → Option Addr → Int → Sl → Int → World → Prop) (words1 : Sl) (kinds2 : Sl) (a7 : Option Addr) (s8 : Int) (in10 : Sl) (i11 : Int) (w : World) : Prop :=
  cond (decide ((i11 : Int) < ((words1.len : Nat) : Int)))
  (0 ≤ (i11 : Int) ∧ i11 < ((words1.len : Nat) : Int) ∧ ∃ q_46 : Addr, words1.a = some q_46 ∧
  ∃ x_47 : Int, w.cell? (q_46.add (i11 : Int).toNat) = some (.int .i64 x_47) ∧
  CallsV Tryd.prog n_term_Arena_Make #[.pointer a7, .int .i64 2, .int .i64 (if 0 > x_47 then 0 else x_47), .slice none 0 0] w (fun v_48 w20 =>
  ∃ x_49 : Int, ∃ x_50 : Int, v_48 = .tuple #[.int .i64 x_49, .int .i64 x_50] ∧
  cond ((x_50 : Int) != 0)
  (R (.bool false) w20)
  (let w21 := w20.alloc (.cells #[.int .i64 x_49] 3);
  ∃ (a_51 : Option Addr) (l_52 c_53 : Nat), ∃ w22 : World, (builtin .append #[29, 29] 29 #[] #[.slice in10.a in10.len in10.cap, .slice (some (newA w20)) 1 1]).run Tryd.prog w21 = .ok (.value (.slice a_51 l_52 c_53)) w22 ∧
  (let i11_53 : Int := (IntKind.i64.wrap (i11 + 1));
  N5 words1 kinds2 a7 s8 ⟨a_51, l_52, c_53⟩ i11_53 w22))))
  (trystlaw11_KnowSecrets.c4 R kinds2 a7 s8 in10 w)

def trystlaw11_KnowSecrets.l5 (R : Value → World → Prop) (words1 : Sl) (kinds2 : Sl) (a7 : Option Addr) (s8 : Int) (in10 : Sl) (i11 : Int) (w : World) : Prop :=
  ∃ (I : (Sl × Int) → World → Prop) (μ : (Sl × Int) → World → Nat), I (in10, i11) w ∧ ∀ s w, I s w → trystlaw11_KnowSecrets.b5 R (fun words1' kinds2' a7' s8' in10' i11' w' => (words1' = words1 ∧ kinds2' = kinds2 ∧ a7' = a7 ∧ s8' = s8 ∧ I (in10', i11') w') ∧ μ (in10', i11') w' < μ s w) words1 kinds2 a7 s8 s.1 s.2 w

def trystlaw11_KnowSecrets.c6 (R : Value → World → Prop) (n0 : Int) (words1 : Sl) (kinds2 : Sl) (w : World) : Prop :=
  CallsV Tryd.prog n_term_New #[] w (fun v_55 w23 =>
  ∃ p_56 : Option Addr, v_55 = .pointer p_56 ∧
  cond ((p_56).isNone)
  (R (.bool false) w23)
  (CallsV Tryd.prog n_term_Arena_Make #[.pointer p_56, .int .i64 1, .int .i64 n0, .slice none 0 0] w23 (fun v_57 w24 =>
  ∃ x_58 : Int, ∃ x_59 : Int, v_57 = .tuple #[.int .i64 x_58, .int .i64 x_59] ∧
  cond ((x_59 : Int) != 0)
  (R (.bool false) w24)
  (trystlaw11_KnowSecrets.l5 R words1 kinds2 p_56 x_58 ⟨none, 0, 0⟩ 0 w24))))

def trystlaw11_KnowSecrets.main (R : Value → World → Prop) (n0 : Int) (words1 : Sl) (kinds2 : Sl) (w : World) : Prop :=
  cond (decide ((n0 : Int) < 0))
  (R (.bool true) w)
  (cond (decide ((((words1.len : Nat) : Int) : Int) > 20))
  (R (.bool true) w)
  (cond (decide ((((kinds2.len : Nat) : Int) : Int) > 30))
  (R (.bool true) w)
  (trystlaw11_KnowSecrets.c6 R n0 words1 kinds2 w)))

def trystlaw11_KnowSecrets.J2 (R : Value → World → Prop) (N2 : Sl → Option Addr → Int → Sl → Sl → Int → World → Prop) (k : Nat) (fr : Fr) (w : World) : Prop :=
  cond (Nat.beq k 3) (dec [(2, .slice), (7, .ptr), (8, (.int .i64)), (10, .slice), (14, .slice), (15, (.int .i64)), (16, (.int .i64)), (17, (.int .i64))] fr fun x => trystlaw11_KnowSecrets.c3 R N2 x.1 x.2.1 x.2.2.1 x.2.2.2.1 x.2.2.2.2.1 x.2.2.2.2.2.1 x.2.2.2.2.2.2.1 x.2.2.2.2.2.2.2 w) (False)

def trystlaw11_KnowSecrets.J0 (R : Value → World → Prop) (k : Nat) (fr : Fr) (w : World) : Prop :=
  cond (Nat.beq k 6) (dec [(0, (.int .i64)), (1, .slice), (2, .slice)] fr fun x => trystlaw11_KnowSecrets.c6 R x.1 x.2.1 x.2.2 w) (cond (Nat.beq k 5) (dec [(1, .slice), (2, .slice), (7, .ptr), (8, (.int .i64)), (10, .slice), (11, (.int .i64))] fr fun x => trystlaw11_KnowSecrets.l5 R x.1 x.2.1 x.2.2.1 x.2.2.2.1 x.2.2.2.2.1 x.2.2.2.2.2 w) (cond (Nat.beq k 4) (dec [(2, .slice), (7, .ptr), (8, (.int .i64)), (10, .slice)] fr fun x => trystlaw11_KnowSecrets.c4 R x.1 x.2.1 x.2.2.1 x.2.2.2 w) (cond (Nat.beq k 2) (dec [(2, .slice), (7, .ptr), (8, (.int .i64)), (10, .slice), (14, .slice), (15, (.int .i64))] fr fun x => trystlaw11_KnowSecrets.l2 R x.1 x.2.1 x.2.2.1 x.2.2.2.1 x.2.2.2.2.1 x.2.2.2.2.2 w) (cond (Nat.beq k 1) (dec [(7, .ptr), (8, (.int .i64)), (14, .slice)] fr fun x => trystlaw11_KnowSecrets.c1 R x.1 x.2.1 x.2.2 w) (False)))))

set_option maxRecDepth 100000 in
theorem trystlaw11_KnowSecrets.lift {R : Value → World → Prop} {n0 : Int} {words1 : Sl} {kinds2 : Sl} {w : World} (h : trystlaw11_KnowSecrets.main R n0 words1 kinds2 w) : CallsV Tryd.prog n_trystlaw11_KnowSecrets #[.int .i64 n0, .slice words1.a words1.len words1.cap, .slice kinds2.a kinds2.len kinds2.cap] w R :=
  liftCalls (c := (.seq (.leaf (cL (bd Tryd.f11))) (.seq (.seq (.leaf (cL (cL (cR (bd Tryd.f11))))) (.cnd (.tmp 36) (.seq (.leaf (cL (cT (cR (cL (cR (bd Tryd.f11))))))) (.leaf (cR (cT (cR (cL (cR (bd Tryd.f11)))))))) (.leaf (cE (cR (cL (cR (bd Tryd.f11)))))))) (.cut 6 (.seq (.leaf (cL (cR (cR (bd Tryd.f11))))) (.seq (.seq (.leaf (cL (cL (cR (cR (cR (bd Tryd.f11))))))) (.cnd (.tmp 39) (.seq (.leaf (cL (cT (cR (cL (cR (cR (cR (bd Tryd.f11))))))))) (.leaf (cR (cT (cR (cL (cR (cR (cR (bd Tryd.f11)))))))))) (.leaf (cE (cR (cL (cR (cR (cR (bd Tryd.f11)))))))))) (.seq (.leaf (cL (cR (cR (cR (cR (bd Tryd.f11))))))) (.seq (.seq (.leaf (cL (cL (cR (cR (cR (cR (cR (bd Tryd.f11))))))))) (.cnd (.tmp 47) (.seq (.leaf (cL (cT (cR (cL (cR (cR (cR (cR (cR (bd Tryd.f11))))))))))) (.leaf (cR (cT (cR (cL (cR (cR (cR (cR (cR (bd Tryd.f11)))))))))))) (.leaf (cE (cR (cL (cR (cR (cR (cR (cR (bd Tryd.f11)))))))))))) (.seq (.leaf (cL (cR (cR (cR (cR (cR (cR (bd Tryd.f11))))))))) (.seq (.seq (.leaf (cL (cL (cR (cR (cR (cR (cR (cR (cR (bd Tryd.f11))))))))))) (.block 0 (.loop 5 (.seq (.seq (.leaf (cL (cL (cB (cB (cR (cL (cR (cR (cR (cR (cR (cR (cR (bd Tryd.f11))))))))))))))) (.cnd (.tmp 51) (.leaf (cT (cR (cL (cB (cB (cR (cL (cR (cR (cR (cR (cR (cR (cR (bd Tryd.f11)))))))))))))))) (.leaf (cE (cR (cL (cB (cB (cR (cL (cR (cR (cR (cR (cR (cR (cR (bd Tryd.f11)))))))))))))))))) (.seq (.block 1 (.seq (.leaf (cL (cB (cL (cR (cB (cB (cR (cL (cR (cR (cR (cR (cR (cR (cR (bd Tryd.f11))))))))))))))))) (.seq (.seq (.leaf (cL (cL (cR (cB (cL (cR (cB (cB (cR (cL (cR (cR (cR (cR (cR (cR (cR (bd Tryd.f11))))))))))))))))))) (.cnd (.tmp 65) (.seq (.leaf (cL (cT (cR (cL (cR (cB (cL (cR (cB (cB (cR (cL (cR (cR (cR (cR (cR (cR (cR (bd Tryd.f11))))))))))))))))))))) (.leaf (cR (cT (cR (cL (cR (cB (cL (cR (cB (cB (cR (cL (cR (cR (cR (cR (cR (cR (cR (bd Tryd.f11)))))))))))))))))))))) (.leaf (cE (cR (cL (cR (cB (cL (cR (cB (cB (cR (cL (cR (cR (cR (cR (cR (cR (cR (bd Tryd.f11)))))))))))))))))))))) (.leaf (cR (cR (cB (cL (cR (cB (cB (cR (cL (cR (cR (cR (cR (cR (cR (cR (bd Tryd.f11))))))))))))))))))))) (.leaf (cR (cR (cB (cB (cR (cL (cR (cR (cR (cR (cR (cR (cR (bd Tryd.f11)))))))))))))))))))) (.cut 4 (.seq (.leaf (cL (cR (cR (cR (cR (cR (cR (cR (cR (bd Tryd.f11))))))))))) (.seq (.seq (.leaf (cL (cL (cR (cR (cR (cR (cR (cR (cR (cR (cR (bd Tryd.f11))))))))))))) (.block 2 (.loop 2 (.seq (.seq (.leaf (cL (cL (cB (cB (cR (cL (cR (cR (cR (cR (cR (cR (cR (cR (cR (bd Tryd.f11))))))))))))))))) (.cnd (.tmp 73) (.leaf (cT (cR (cL (cB (cB (cR (cL (cR (cR (cR (cR (cR (cR (cR (cR (cR (bd Tryd.f11)))))))))))))))))) (.leaf (cE (cR (cL (cB (cB (cR (cL (cR (cR (cR (cR (cR (cR (cR (cR (cR (bd Tryd.f11)))))))))))))))))))) (.seq (.block 3 (.seq (.leaf (cL (cB (cL (cR (cB (cB (cR (cL (cR (cR (cR (cR (cR (cR (cR (cR (cR (bd Tryd.f11))))))))))))))))))) (.seq (.leaf (cL (cR (cB (cL (cR (cB (cB (cR (cL (cR (cR (cR (cR (cR (cR (cR (cR (cR (bd Tryd.f11)))))))))))))))))))) (.seq (.seq (.leaf (cL (cL (cR (cR (cB (cL (cR (cB (cB (cR (cL (cR (cR (cR (cR (cR (cR (cR (cR (cR (bd Tryd.f11)))))))))))))))))))))) (.block 4 (.seq (.leaf (cL (cB (cR (cL (cR (cR (cB (cL (cR (cB (cB (cR (cL (cR (cR (cR (cR (cR (cR (cR (cR (cR (bd Tryd.f11)))))))))))))))))))))))) (.cnd (.tmp 92) (.leaf (cT (cR (cB (cR (cL (cR (cR (cB (cL (cR (cB (cB (cR (cL (cR (cR (cR (cR (cR (cR (cR (cR (cR (bd Tryd.f11))))))))))))))))))))))))) (.seq (.leaf (cL (cE (cR (cB (cR (cL (cR (cR (cB (cL (cR (cB (cB (cR (cL (cR (cR (cR (cR (cR (cR (cR (cR (cR (bd Tryd.f11)))))))))))))))))))))))))) (.cnd (.tmp 100) (.leaf (cT (cR (cE (cR (cB (cR (cL (cR (cR (cB (cL (cR (cB (cB (cR (cL (cR (cR (cR (cR (cR (cR (cR (cR (cR (bd Tryd.f11))))))))))))))))))))))))))) (.seq (.leaf (cL (cE (cR (cE (cR (cB (cR (cL (cR (cR (cB (cL (cR (cB (cB (cR (cL (cR (cR (cR (cR (cR (cR (cR (cR (cR (bd Tryd.f11)))))))))))))))))))))))))))) (.cnd (.tmp 110) (.leaf (cT (cR (cE (cR (cE (cR (cB (cR (cL (cR (cR (cB (cL (cR (cB (cB (cR (cL (cR (cR (cR (cR (cR (cR (cR (cR (cR (bd Tryd.f11))))))))))))))))))))))))))))) (.seq (.leaf (cL (cE (cR (cE (cR (cE (cR (cB (cR (cL (cR (cR (cB (cL (cR (cB (cB (cR (cL (cR (cR (cR (cR (cR (cR (cR (cR (cR (bd Tryd.f11)))))))))))))))))))))))))))))) (.cnd (.tmp 119) (.leaf (cT (cR (cE (cR (cE (cR (cE (cR (cB (cR (cL (cR (cR (cB (cL (cR (cB (cB (cR (cL (cR (cR (cR (cR (cR (cR (cR (cR (cR (bd Tryd.f11))))))))))))))))))))))))))))))) (.leaf (cE (cR (cE (cR (cE (cR (cE (cR (cB (cR (cL (cR (cR (cB (cL (cR (cB (cB (cR (cL (cR (cR (cR (cR (cR (cR (cR (cR (cR (bd Tryd.f11))))))))))))))))))))))))))))))))))))))))) (.cut 3 (.seq (.seq (.leaf (cL (cL (cR (cR (cR (cB (cL (cR (cB (cB (cR (cL (cR (cR (cR (cR (cR (cR (cR (cR (cR (bd Tryd.f11))))))))))))))))))))))) (.cnd (.tmp 128) (.seq (.leaf (cL (cT (cR (cL (cR (cR (cR (cB (cL (cR (cB (cB (cR (cL (cR (cR (cR (cR (cR (cR (cR (cR (cR (bd Tryd.f11))))))))))))))))))))))))) (.leaf (cR (cT (cR (cL (cR (cR (cR (cB (cL (cR (cB (cB (cR (cL (cR (cR (cR (cR (cR (cR (cR (cR (cR (bd Tryd.f11)))))))))))))))))))))))))) (.leaf (cE (cR (cL (cR (cR (cR (cB (cL (cR (cB (cB (cR (cL (cR (cR (cR (cR (cR (cR (cR (cR (cR (bd Tryd.f11)))))))))))))))))))))))))) (.leaf (cR (cR (cR (cR (cB (cL (cR (cB (cB (cR (cL (cR (cR (cR (cR (cR (cR (cR (cR (cR (bd Tryd.f11)))))))))))))))))))))))))))) (.leaf (cR (cR (cB (cB (cR (cL (cR (cR (cR (cR (cR (cR (cR (cR (cR (bd Tryd.f11)))))))))))))))))))))) (.cut 1 (.seq (.leaf (cL (cR (cR (cR (cR (cR (cR (cR (cR (cR (cR (bd Tryd.f11))))))))))))) (.seq (.seq (.leaf (cL (cL (cR (cR (cR (cR (cR (cR (cR (cR (cR (cR (cR (bd Tryd.f11))))))))))))))) (.cnd (.tmp 141) (.seq (.leaf (cL (cT (cR (cL (cR (cR (cR (cR (cR (cR (cR (cR (cR (cR (cR (bd Tryd.f11))))))))))))))))) (.leaf (cR (cT (cR (cL (cR (cR (cR (cR (cR (cR (cR (cR (cR (cR (cR (bd Tryd.f11)))))))))))))))))) (.leaf (cE (cR (cL (cR (cR (cR (cR (cR (cR (cR (cR (cR (cR (cR (bd Tryd.f11)))))))))))))))))) (.seq (.leaf (cL (cR (cR (cR (cR (cR (cR (cR (cR (cR (cR (cR (cR (bd Tryd.f11))))))))))))))) (.seq (.leaf (cL (cR (cR (cR (cR (cR (cR (cR (cR (cR (cR (cR (cR (cR (bd Tryd.f11)))))))))))))))) (.seq (.leaf (cL (cR (cR (cR (cR (cR (cR (cR (cR (cR (cR (cR (cR (cR (cR (bd Tryd.f11))))))))))))))))) (.seq (.leaf (cL (cR (cR (cR (cR (cR (cR (cR (cR (cR (cR (cR (cR (cR (cR (cR (bd Tryd.f11)))))))))))))))))) (.leaf (cR (cR (cR (cR (cR (cR (cR (cR (cR (cR (cR (cR (cR (cR (cR (cR (bd Tryd.f11)))))))))))))))))))))))))))))))))))))) (J := trystlaw11_KnowSecrets.J0 R) LfYtoclhecldmahiaaDoor.mixed Tryd.func11 (by kernel_rfl) (by kernel_rfl) (mkSeq (mkSeq (mkCut (cutDef [(0, (.int .i64)), (1, .slice), (2, .slice)] (fun x w => trystlaw11_KnowSecrets.c6 R x.1 x.2.1 x.2.2 w) (fun _ _ => by kernel_rfl) (fun _ _ => by kernel_rfl)) (mkSeq (mkSeq (mkSeq (mkSeq (mkSeq (mkSeq (mkCut (cutDef [(2, .slice), (7, .ptr), (8, (.int .i64)), (10, .slice)] (fun x w => trystlaw11_KnowSecrets.c4 R x.1 x.2.1 x.2.2.1 x.2.2.2 w) (fun _ _ => by kernel_rfl) (fun _ _ => by kernel_rfl)) (mkSeq (mkSeq (mkCut (cutDef [(7, .ptr), (8, (.int .i64)), (14, .slice)] (fun x w => trystlaw11_KnowSecrets.c1 R x.1 x.2.1 x.2.2 w) (fun _ _ => by kernel_rfl) (fun _ _ => by kernel_rfl)) (mkSeq (mkSeq (mkSeq (mkSeq (mkSeq (mkSeq mkLeaf mkLeaf) mkLeaf) mkLeaf) mkLeaf) (mkSeq (mkCnd (mkSeq mkLeaf mkLeaf) mkLeaf) mkLeaf)) mkLeaf)) (mkSeq (mkBlock (mkLoop (loopDef LfYtoclhecldmahiaaDoor.mixed [(2, .slice), (7, .ptr), (8, (.int .i64)), (10, .slice), (14, .slice), (15, (.int .i64))] (by kernel_rfl) (fun M2 x w => trystlaw11_KnowSecrets.b2 R (fun y0 y1 y2 y3 y4 y5 w => M2 (y0, y1, y2, y3, y4, y5) w) x.1 x.2.1 x.2.2.1 x.2.2.2.1 x.2.2.2.2.1 x.2.2.2.2.2 w) (fun M2 => trystlaw11_KnowSecrets.J2 R (fun y0 y1 y2 y3 y4 y5 w => M2 (y0, y1, y2, y3, y4, y5) w)) (fun _ _ _ => by kernel_rfl) (fun M2 => (mkSeq (mkSeq mkLeaf (mkBlock (mkSeq (mkSeq (mkSeq (mkCut (cutDef [(2, .slice), (7, .ptr), (8, (.int .i64)), (10, .slice), (14, .slice), (15, (.int .i64)), (16, (.int .i64)), (17, (.int .i64))] (fun x w => trystlaw11_KnowSecrets.c3 R (fun y0 y1 y2 y3 y4 y5 w => M2 (y0, y1, y2, y3, y4, y5) w) x.1 x.2.1 x.2.2.1 x.2.2.2.1 x.2.2.2.2.1 x.2.2.2.2.2.1 x.2.2.2.2.2.2.1 x.2.2.2.2.2.2.2 w) (fun _ _ => by kernel_rfl) (fun _ _ => by kernel_rfl)) (mkSeq mkLeaf (mkSeq (mkCnd (mkSeq mkLeaf mkLeaf) mkLeaf) mkLeaf))) (mkSeq (mkBlock (mkSeq (mkCnd mkLeaf (mkSeq (mkCnd mkLeaf (mkSeq (mkCnd mkLeaf (mkSeq (mkCnd mkLeaf mkLeaf) mkLeaf)) mkLeaf)) mkLeaf)) mkLeaf)) mkLeaf)) mkLeaf) mkLeaf))) (mkSeq (mkCnd mkLeaf mkLeaf) mkLeaf))) (fun x w => trystlaw11_KnowSecrets.l2 R x.1 x.2.1 x.2.2.1 x.2.2.2.1 x.2.2.2.2.1 x.2.2.2.2.2 w) (by rintro ⟨c0, c1, c2, c3, s0⟩ w ⟨I, μ, h0, h1⟩; refine ⟨fun y w => y.1 = c0 ∧ y.2.1 = c1 ∧ y.2.2.1 = c2 ∧ y.2.2.2.1 = c3 ∧ I y.2.2.2.2 w, fun y w => μ y.2.2.2.2 w, ⟨rfl, rfl, rfl, rfl, h0⟩, ?_⟩; rintro ⟨d0, d1, d2, d3, t0⟩ w ⟨e0, e1, e2, e3, hI⟩; dsimp only at e0 e1 e2 e3 hI; subst e0; subst e1; subst e2; subst e3; exact h1 _ _ hI) (fun _ _ => by kernel_rfl)))) mkLeaf)) mkLeaf)) (mkSeq (mkBlock (mkLoop (loopDef LfYtoclhecldmahiaaDoor.mixed [(1, .slice), (2, .slice), (7, .ptr), (8, (.int .i64)), (10, .slice), (11, (.int .i64))] (by kernel_rfl) (fun M5 x w => trystlaw11_KnowSecrets.b5 R (fun y0 y1 y2 y3 y4 y5 w => M5 (y0, y1, y2, y3, y4, y5) w) x.1 x.2.1 x.2.2.1 x.2.2.2.1 x.2.2.2.2.1 x.2.2.2.2.2 w) (fun M5 => fun _ _ _ => False) (fun _ _ _ => by kernel_rfl) (fun M5 => (mkSeq (mkSeq mkLeaf (mkBlock (mkSeq (mkSeq mkLeaf (mkSeq (mkCnd (mkSeq mkLeaf mkLeaf) mkLeaf) mkLeaf)) mkLeaf))) (mkSeq (mkCnd mkLeaf mkLeaf) mkLeaf))) (fun x w => trystlaw11_KnowSecrets.l5 R x.1 x.2.1 x.2.2.1 x.2.2.2.1 x.2.2.2.2.1 x.2.2.2.2.2 w) (by rintro ⟨c0, c1, c2, c3, s0⟩ w ⟨I, μ, h0, h1⟩; refine ⟨fun y w => y.1 = c0 ∧ y.2.1 = c1 ∧ y.2.2.1 = c2 ∧ y.2.2.2.1 = c3 ∧ I y.2.2.2.2 w, fun y w => μ y.2.2.2.2 w, ⟨rfl, rfl, rfl, rfl, h0⟩, ?_⟩; rintro ⟨d0, d1, d2, d3, t0⟩ w ⟨e0, e1, e2, e3, hI⟩; dsimp only at e0 e1 e2 e3 hI; subst e0; subst e1; subst e2; subst e3; exact h1 _ _ hI) (fun _ _ => by kernel_rfl)))) mkLeaf)) mkLeaf) (mkSeq (mkCnd (mkSeq mkLeaf mkLeaf) mkLeaf) mkLeaf)) mkLeaf) (mkSeq (mkCnd (mkSeq mkLeaf mkLeaf) mkLeaf) mkLeaf)) mkLeaf)) (mkSeq (mkCnd (mkSeq mkLeaf mkLeaf) mkLeaf) mkLeaf)) mkLeaf) (kcast (by kernel_rfl) h)

/-! trystlaw11_KnowMade -/
def trystlaw11_KnowMade.c1 (R : Value → World → Prop) (w : World) : Prop :=
  CallsV Tryd.prog n_trystlaw11_wakes #[] w (fun v_1 w1 =>
  ∃ b_2 : Bool, v_1 = .bool b_2 ∧
  R (.bool b_2) w1)

def trystlaw11_KnowMade.b2 (R : Value → World → Prop) (N2 : Sl → Sl → Sl → Int → World → Prop) (plain7 : Sl) (x11 : Sl) (y13 : Sl) (i15 : Int) (w : World) : Prop :=
  cond (decide ((i15 : Int) < ((x11.len : Nat) : Int)))
  (0 ≤ (i15 : Int) ∧ i15 < ((x11.len : Nat) : Int) ∧ ∃ q_3 : Addr, x11.a = some q_3 ∧
  ∃ b_4 : Bool, w.cell? (q_3.add (i15 : Int).toNat) = some (.bool b_4) ∧
  cond (!b_4)
  (R (.bool false) w.drew)
  (0 ≤ (i15 : Int) ∧ i15 < ((y13.len : Nat) : Int) ∧ ∃ q_5 : Addr, y13.a = some q_5 ∧
  ∃ b_6 : Bool, w.cell? (q_5.add (i15 : Int).toNat) = some (.bool b_6) ∧
  0 ≤ (i15 : Int) ∧ i15 < ((plain7.len : Nat) : Int) ∧ ∃ q_7 : Addr, plain7.a = some q_7 ∧
  ∃ b_8 : Bool, w.cell? (q_7.add (i15 : Int).toNat) = some (.bool b_8) ∧
  cond (!(b_6 == b_8))
  (R (.bool false) w.drew)
  ((let i15_8 : Int := (IntKind.i64.wrap (i15 + 1));
  N2 plain7 x11 y13 i15_8 w.drew))))
  (trystlaw11_KnowMade.c1 R w)

def trystlaw11_KnowMade.l2 (R : Value → World → Prop) (plain7 : Sl) (x11 : Sl) (y13 : Sl) (i15 : Int) (w : World) : Prop :=
  ∃ (I : Int → World → Prop) (μ : Int → World → Nat), I i15 w ∧ ∀ s w, I s w → trystlaw11_KnowMade.b2 R (fun plain7' x11' y13' i15' w' => (plain7' = plain7 ∧ x11' = x11 ∧ y13' = y13 ∧ I i15' w') ∧ μ i15' w' < μ s w) plain7 x11 y13 s w

def trystlaw11_KnowMade.c3 (R : Value → World → Prop) (plain7 : Sl) (x11 : Sl) (y13 : Sl) (w : World) : Prop :=
  trystlaw11_KnowMade.l2 R plain7 x11 y13 0 w

def trystlaw11_KnowMade.c4 (R : Value → World → Prop) (a3 : Option Addr) (b4 : Option Addr) (atoms6 : Sl) (plain7 : Sl) (w : World) : Prop :=
  CallsV Tryd.prog n_know_All #[.pointer a3, .slice atoms6.a atoms6.len atoms6.cap] w (fun v_10 w2 =>
  ∃ (a_11 : Option Addr) (l_12 c_13 : Nat), ∃ x_14 : Int, v_10 = .tuple #[.slice a_11 l_12 c_13, .int .i64 x_14] ∧
  CallsV Tryd.prog n_know_All #[.pointer a3, .slice none 0 0] w2 (fun v_15 w3 =>
  ∃ (a_16 : Option Addr) (l_17 c_18 : Nat), ∃ x_19 : Int, v_15 = .tuple #[.slice a_16 l_17 c_18, .int .i64 x_19] ∧
  cond ((x_14 : Int) != 0)
  (R (.bool false) w3)
  (cond ((x_19 : Int) != 0)
  (R (.bool false) w3)
  (∃ q_20 : Addr, b4 = some q_20 ∧
  ∃ (a_21 : Option Addr) (l_22 c_23 : Nat), w3.cell? q_20 = some (.slice a_21 l_22 c_23) ∧
  cond ((((l_12 : Nat) : Int) : Int) != ((l_22 : Nat) : Int))
  (R (.bool false) w3)
  (∃ q_24 : Addr, b4 = some q_24 ∧
  ∃ (a_25 : Option Addr) (l_26 c_27 : Nat), w3.cell? q_24 = some (.slice a_25 l_26 c_27) ∧
  cond ((((l_17 : Nat) : Int) : Int) != ((l_26 : Nat) : Int))
  (R (.bool false) w3)
  (trystlaw11_KnowMade.c3 R plain7 ⟨a_11, l_12, c_13⟩ ⟨a_16, l_17, c_18⟩ w3))))))

def trystlaw11_KnowMade.c6 (R : Value → World → Prop) (N5 : Option Addr → Option Addr → Sl → Sl → Int → World → Prop) (a3 : Option Addr) (b4 : Option Addr) (atoms6 : Sl) (plain7 : Sl) (i8 : Int) (t9 : Addr) (w : World) : Prop :=
  ∃ x_28 : Int, w.cell? t9 = some (.int .i64 x_28) ∧
  cond ((x_28 : Int) == 1)
  (let w4 := w.alloc (.cells #[.int .i64 i8] 3);
  ∃ (a_29 : Option Addr) (l_30 c_31 : Nat), ∃ w5 : World, (builtin .append #[29, 29] 29 #[] #[.slice atoms6.a atoms6.len atoms6.cap, .slice (some (newA w)) 1 1]).run Tryd.prog w4 = .ok (.value (.slice a_29 l_30 c_31)) w5 ∧
  (let i8_31 : Int := (IntKind.i64.wrap (i8 + 1));
  N5 a3 b4 plain7 ⟨a_29, l_30, c_31⟩ i8_31 w5))
  ((let i8_32 : Int := (IntKind.i64.wrap (i8 + 1));
  N5 a3 b4 plain7 atoms6 i8_32 w))

def trystlaw11_KnowMade.b7 (R : Value → World → Prop) (N5 : Option Addr → Option Addr → Sl → Sl → Int → World → Prop) (N7 : Option Addr → Option Addr → Sl → Sl → Int → Addr → Int → World → Prop) (a3 : Option Addr) (b4 : Option Addr) (atoms6 : Sl) (plain7 : Sl) (i8 : Int) (t9 : Addr) (k10 : Int) (w : World) : Prop :=
  ∃ (a_34 : Option Addr) (l_35 c_36 : Nat), w.cell? (t9.add 2) = some (.slice a_34 l_35 c_36) ∧
  cond (decide ((k10 : Int) < ((l_35 : Nat) : Int)))
  (0 ≤ (i8 : Int) ∧ i8 < ((plain7.len : Nat) : Int) ∧ ∃ q_37 : Addr, plain7.a = some q_37 ∧
  ∃ b_38 : Bool, w.cell? (q_37.add (i8 : Int).toNat) = some (.bool b_38) ∧
  cond b_38
  (∃ (a_39 : Option Addr) (l_40 c_41 : Nat), w.cell? (t9.add 2) = some (.slice a_39 l_40 c_41) ∧
  0 ≤ (k10 : Int) ∧ k10 < ((l_40 : Nat) : Int) ∧ ∃ q_42 : Addr, a_39 = some q_42 ∧
  ∃ x_43 : Int, w.cell? (q_42.add (k10 : Int).toNat) = some (.int .i64 x_43) ∧
  0 ≤ (x_43 : Int) ∧ x_43 < ((plain7.len : Nat) : Int) ∧ ∃ q_44 : Addr, plain7.a = some q_44 ∧
  ∃ b_45 : Bool, w.cell? (q_44.add (x_43 : Int).toNat) = some (.bool b_45) ∧
  0 ≤ (i8 : Int) ∧ i8 < ((plain7.len : Nat) : Int) ∧ ∃ q_46 : Addr, plain7.a = some q_46 ∧
  Wr w (q_46.add (i8 : Int).toNat) ∧
  (let w6 := w.setCell (q_46.add (i8 : Int).toNat) (.bool b_45);
  (let k10_46 : Int := (IntKind.i64.wrap (k10 + 1));
  N7 a3 b4 atoms6 plain7 i8 t9 k10_46 w6)))
  (0 ≤ (i8 : Int) ∧ i8 < ((plain7.len : Nat) : Int) ∧ ∃ q_48 : Addr, plain7.a = some q_48 ∧
  Wr w (q_48.add (i8 : Int).toNat) ∧
  (let w7 := w.setCell (q_48.add (i8 : Int).toNat) (.bool false);
  (let k10_48 : Int := (IntKind.i64.wrap (k10 + 1));
  N7 a3 b4 atoms6 plain7 i8 t9 k10_48 w7))))
  (trystlaw11_KnowMade.c6 R N5 a3 b4 atoms6 plain7 i8 t9 w)

def trystlaw11_KnowMade.l7 (R : Value → World → Prop) (N5 : Option Addr → Option Addr → Sl → Sl → Int → World → Prop) (a3 : Option Addr) (b4 : Option Addr) (atoms6 : Sl) (plain7 : Sl) (i8 : Int) (t9 : Addr) (k10 : Int) (w : World) : Prop :=
  ∃ (I : Int → World → Prop) (μ : Int → World → Nat), I k10 w ∧ ∀ s w, I s w → trystlaw11_KnowMade.b7 R N5 (fun a3' b4' atoms6' plain7' i8' t9' k10' w' => (a3' = a3 ∧ b4' = b4 ∧ atoms6' = atoms6 ∧ plain7' = plain7 ∧ i8' = i8 ∧ t9' = t9 ∧ I k10' w') ∧ μ k10' w' < μ s w) a3 b4 atoms6 plain7 i8 t9 s w

def trystlaw11_KnowMade.b5 (R : Value → World → Prop) (N5 : Option Addr → Option Addr → Sl → Sl → Int → World → Prop) (a3 : Option Addr) (b4 : Option Addr) (plain7 : Sl) (atoms6 : Sl) (i8 : Int) (w : World) : Prop :=
  ∃ q_50 : Addr, b4 = some q_50 ∧
  ∃ (a_51 : Option Addr) (l_52 c_53 : Nat), w.cell? q_50 = some (.slice a_51 l_52 c_53) ∧
  cond (decide ((i8 : Int) < ((l_52 : Nat) : Int)))
  (∃ q_54 : Addr, b4 = some q_54 ∧
  ∃ (a_55 : Option Addr) (l_56 c_57 : Nat), w.cell? q_54 = some (.slice a_55 l_56 c_57) ∧
  0 ≤ (i8 : Int) ∧ i8 < ((l_56 : Nat) : Int) ∧ ∃ q_58 : Addr, a_55 = some q_58 ∧
  ∃ x_59 : Int, w.cell? (q_58.add ((i8 : Int).toNat * 3)) = some (.int .i64 x_59) ∧
  ∃ x_60 : Int, w.cell? ((q_58.add ((i8 : Int).toNat * 3)).add 1) = some (.int .i64 x_60) ∧
  ∃ (a_61 : Option Addr) (l_62 c_63 : Nat), w.cell? ((q_58.add ((i8 : Int).toNat * 3)).add 2) = some (.slice a_61 l_62 c_63) ∧
  let w8 := w.alloc (.cells #[.int .i64 0, .int .i64 0, .slice none 0 0] 98);
  (∀ j, j < 3 → Wr w8 ((newA w).add j)) ∧
  (let w9 := setCells (newA w) [.int .i64 x_59, .int .i64 x_60, .slice a_61 l_62 c_63] 0 w8;
  ∃ x_64 : Int, w9.cell? (newA w) = some (.int .i64 x_64) ∧
  0 ≤ (i8 : Int) ∧ i8 < ((plain7.len : Nat) : Int) ∧ ∃ q_65 : Addr, plain7.a = some q_65 ∧
  Wr w9 (q_65.add (i8 : Int).toNat) ∧
  (let w10 := w9.setCell (q_65.add (i8 : Int).toNat) (.bool ((x_64 : Int) != 1));
  trystlaw11_KnowMade.l7 R N5 a3 b4 atoms6 plain7 i8 (newA w) 0 w10)))
  (trystlaw11_KnowMade.c4 R a3 b4 atoms6 plain7 w)

def trystlaw11_KnowMade.l5 (R : Value → World → Prop) (a3 : Option Addr) (b4 : Option Addr) (plain7 : Sl) (atoms6 : Sl) (i8 : Int) (w : World) : Prop :=
  ∃ (I : (Sl × Int) → World → Prop) (μ : (Sl × Int) → World → Nat), I (atoms6, i8) w ∧ ∀ s w, I s w → trystlaw11_KnowMade.b5 R (fun a3' b4' plain7' atoms6' i8' w' => (a3' = a3 ∧ b4' = b4 ∧ plain7' = plain7 ∧ I (atoms6', i8') w') ∧ μ (atoms6', i8') w' < μ s w) a3 b4 plain7 s.1 s.2 w

def trystlaw11_KnowMade.main (R : Value → World → Prop) (l0 : Sl) (w : World) : Prop :=
  CallsV Tryd.prog n_trystlaw10_Heavy #[.slice l0.a l0.len l0.cap] w (fun v_66 w11 =>
  ∃ b_67 : Bool, v_66 = .bool b_67 ∧
  cond b_67
  (R (.bool true) w11)
  (CallsV Tryd.prog n_trystlaw10_Build #[.slice l0.a l0.len l0.cap] w11 (fun v_68 w12 =>
  ∃ p_69 : Option Addr, ∃ p_70 : Option Addr, ∃ b_71 : Bool, v_68 = .tuple #[.pointer p_69, .pointer p_70, .bool b_71] ∧
  cond (!b_71)
  (R (.bool false) w12)
  (∃ q_72 : Addr, p_70 = some q_72 ∧
  ∃ (a_73 : Option Addr) (l_74 c_75 : Nat), w12.cell? q_72 = some (.slice a_73 l_74 c_75) ∧
  0 ≤ (((l_74 : Nat) : Int) : Int) ∧ (((l_74 : Nat) : Int) : Int) ≤ ((l_74 : Nat) : Int) ∧ (1 : Int) * ((l_74 : Nat) : Int) ≤ 281474976710656 ∧ (((l_74 : Nat) : Int) : Int) ≤ 9223372036854775807 ∧
  (let w13 := w12.alloc (.cells ((Array.range ((((l_74 : Nat) : Int) : Int).toNat * 1)).map ((#[.bool false] : Array Value)[· % (#[.bool false] : Array Value).size]!)) 4);
  trystlaw11_KnowMade.l5 R p_69 p_70 ⟨(some (newA w12)), (((l_74 : Nat) : Int) : Int).toNat, (((l_74 : Nat) : Int) : Int).toNat⟩ ⟨none, 0, 0⟩ 0 w13)))))

def trystlaw11_KnowMade.J5 (R : Value → World → Prop) (N5 : Option Addr → Option Addr → Sl → Sl → Int → World → Prop) (k : Nat) (fr : Fr) (w : World) : Prop :=
  cond (Nat.beq k 7) (dec [(3, .ptr), (4, .ptr), (6, .slice), (7, .slice), (8, (.int .i64)), (9, .addr), (10, (.int .i64))] fr fun x => trystlaw11_KnowMade.l7 R N5 x.1 x.2.1 x.2.2.1 x.2.2.2.1 x.2.2.2.2.1 x.2.2.2.2.2.1 x.2.2.2.2.2.2 w) (cond (Nat.beq k 6) (dec [(3, .ptr), (4, .ptr), (6, .slice), (7, .slice), (8, (.int .i64)), (9, .addr)] fr fun x => trystlaw11_KnowMade.c6 R N5 x.1 x.2.1 x.2.2.1 x.2.2.2.1 x.2.2.2.2.1 x.2.2.2.2.2 w) (False))

def trystlaw11_KnowMade.J0 (R : Value → World → Prop) (k : Nat) (fr : Fr) (w : World) : Prop :=
  cond (Nat.beq k 5) (dec [(3, .ptr), (4, .ptr), (7, .slice), (6, .slice), (8, (.int .i64))] fr fun x => trystlaw11_KnowMade.l5 R x.1 x.2.1 x.2.2.1 x.2.2.2.1 x.2.2.2.2 w) (cond (Nat.beq k 4) (dec [(3, .ptr), (4, .ptr), (6, .slice), (7, .slice)] fr fun x => trystlaw11_KnowMade.c4 R x.1 x.2.1 x.2.2.1 x.2.2.2 w) (cond (Nat.beq k 3) (dec [(7, .slice), (11, .slice), (13, .slice)] fr fun x => trystlaw11_KnowMade.c3 R x.1 x.2.1 x.2.2 w) (cond (Nat.beq k 2) (dec [(7, .slice), (11, .slice), (13, .slice), (15, (.int .i64))] fr fun x => trystlaw11_KnowMade.l2 R x.1 x.2.1 x.2.2.1 x.2.2.2 w) (cond (Nat.beq k 1) (dec [] fr fun x => trystlaw11_KnowMade.c1 R w) (False)))))

set_option maxRecDepth 100000 in
theorem trystlaw11_KnowMade.lift {R : Value → World → Prop} {l0 : Sl} {w : World} (h : trystlaw11_KnowMade.main R l0 w) : CallsV Tryd.prog n_trystlaw11_KnowMade #[.slice l0.a l0.len l0.cap] w R :=
  liftCalls (c := (.seq (.leaf (cL (bd Tryd.f12))) (.seq (.seq (.leaf (cL (cL (cR (bd Tryd.f12))))) (.cnd (.tmp 17) (.seq (.leaf (cL (cT (cR (cL (cR (bd Tryd.f12))))))) (.leaf (cR (cT (cR (cL (cR (bd Tryd.f12)))))))) (.leaf (cE (cR (cL (cR (bd Tryd.f12)))))))) (.seq (.leaf (cL (cR (cR (bd Tryd.f12))))) (.seq (.seq (.leaf (cL (cL (cR (cR (cR (bd Tryd.f12))))))) (.cnd (.tmp 25) (.seq (.leaf (cL (cT (cR (cL (cR (cR (cR (bd Tryd.f12))))))))) (.leaf (cR (cT (cR (cL (cR (cR (cR (bd Tryd.f12)))))))))) (.leaf (cE (cR (cL (cR (cR (cR (bd Tryd.f12)))))))))) (.seq (.leaf (cL (cR (cR (cR (cR (bd Tryd.f12))))))) (.seq (.leaf (cL (cR (cR (cR (cR (cR (bd Tryd.f12)))))))) (.seq (.seq (.leaf (cL (cL (cR (cR (cR (cR (cR (cR (bd Tryd.f12)))))))))) (.block 0 (.loop 5 (.seq (.seq (.leaf (cL (cL (cB (cB (cR (cL (cR (cR (cR (cR (cR (cR (bd Tryd.f12)))))))))))))) (.cnd (.tmp 38) (.leaf (cT (cR (cL (cB (cB (cR (cL (cR (cR (cR (cR (cR (cR (bd Tryd.f12))))))))))))))) (.leaf (cE (cR (cL (cB (cB (cR (cL (cR (cR (cR (cR (cR (cR (bd Tryd.f12))))))))))))))))) (.seq (.block 1 (.seq (.leaf (cL (cB (cL (cR (cB (cB (cR (cL (cR (cR (cR (cR (cR (cR (bd Tryd.f12)))))))))))))))) (.seq (.leaf (cL (cR (cB (cL (cR (cB (cB (cR (cL (cR (cR (cR (cR (cR (cR (bd Tryd.f12))))))))))))))))) (.seq (.seq (.leaf (cL (cL (cR (cR (cB (cL (cR (cB (cB (cR (cL (cR (cR (cR (cR (cR (cR (bd Tryd.f12))))))))))))))))))) (.block 2 (.loop 7 (.seq (.seq (.leaf (cL (cL (cB (cB (cR (cL (cR (cR (cB (cL (cR (cB (cB (cR (cL (cR (cR (cR (cR (cR (cR (bd Tryd.f12))))))))))))))))))))))) (.cnd (.tmp 58) (.leaf (cT (cR (cL (cB (cB (cR (cL (cR (cR (cB (cL (cR (cB (cB (cR (cL (cR (cR (cR (cR (cR (cR (bd Tryd.f12)))))))))))))))))))))))) (.leaf (cE (cR (cL (cB (cB (cR (cL (cR (cR (cB (cL (cR (cB (cB (cR (cL (cR (cR (cR (cR (cR (cR (bd Tryd.f12)))))))))))))))))))))))))) (.seq (.block 3 (.leaf (cB (cL (cR (cB (cB (cR (cL (cR (cR (cB (cL (cR (cB (cB (cR (cL (cR (cR (cR (cR (cR (cR (bd Tryd.f12))))))))))))))))))))))))) (.leaf (cR (cR (cB (cB (cR (cL (cR (cR (cB (cL (cR (cB (cB (cR (cL (cR (cR (cR (cR (cR (cR (bd Tryd.f12)))))))))))))))))))))))))))) (.cut 6 (.seq (.leaf (cL (cR (cR (cR (cB (cL (cR (cB (cB (cR (cL (cR (cR (cR (cR (cR (cR (bd Tryd.f12))))))))))))))))))) (.cnd (.tmp 80) (.leaf (cT (cR (cR (cR (cR (cB (cL (cR (cB (cB (cR (cL (cR (cR (cR (cR (cR (cR (bd Tryd.f12)))))))))))))))))))) (.leaf (cE (cR (cR (cR (cR (cB (cL (cR (cB (cB (cR (cL (cR (cR (cR (cR (cR (cR (bd Tryd.f12))))))))))))))))))))))))))) (.leaf (cR (cR (cB (cB (cR (cL (cR (cR (cR (cR (cR (cR (bd Tryd.f12))))))))))))))))))) (.cut 4 (.seq (.leaf (cL (cR (cR (cR (cR (cR (cR (cR (bd Tryd.f12)))))))))) (.seq (.leaf (cL (cR (cR (cR (cR (cR (cR (cR (cR (bd Tryd.f12))))))))))) (.seq (.seq (.leaf (cL (cL (cR (cR (cR (cR (cR (cR (cR (cR (cR (bd Tryd.f12))))))))))))) (.cnd (.tmp 121) (.seq (.leaf (cL (cT (cR (cL (cR (cR (cR (cR (cR (cR (cR (cR (cR (bd Tryd.f12))))))))))))))) (.leaf (cR (cT (cR (cL (cR (cR (cR (cR (cR (cR (cR (cR (cR (bd Tryd.f12)))))))))))))))) (.leaf (cE (cR (cL (cR (cR (cR (cR (cR (cR (cR (cR (cR (bd Tryd.f12)))))))))))))))) (.cut 3 (.seq (.seq (.leaf (cL (cL (cR (cR (cR (cR (cR (cR (cR (cR (cR (cR (bd Tryd.f12)))))))))))))) (.block 4 (.loop 2 (.seq (.seq (.leaf (cL (cL (cB (cB (cR (cL (cR (cR (cR (cR (cR (cR (cR (cR (cR (cR (bd Tryd.f12)))))))))))))))))) (.cnd (.tmp 125) (.leaf (cT (cR (cL (cB (cB (cR (cL (cR (cR (cR (cR (cR (cR (cR (cR (cR (cR (bd Tryd.f12))))))))))))))))))) (.leaf (cE (cR (cL (cB (cB (cR (cL (cR (cR (cR (cR (cR (cR (cR (cR (cR (cR (bd Tryd.f12))))))))))))))))))))) (.seq (.block 5 (.seq (.leaf (cL (cB (cL (cR (cB (cB (cR (cL (cR (cR (cR (cR (cR (cR (cR (cR (cR (cR (bd Tryd.f12)))))))))))))))))))) (.cnd (.tmp 143) (.seq (.leaf (cL (cT (cR (cB (cL (cR (cB (cB (cR (cL (cR (cR (cR (cR (cR (cR (cR (cR (cR (cR (bd Tryd.f12)))))))))))))))))))))) (.leaf (cR (cT (cR (cB (cL (cR (cB (cB (cR (cL (cR (cR (cR (cR (cR (cR (cR (cR (cR (cR (bd Tryd.f12))))))))))))))))))))))) (.leaf (cE (cR (cB (cL (cR (cB (cB (cR (cL (cR (cR (cR (cR (cR (cR (cR (cR (cR (cR (bd Tryd.f12)))))))))))))))))))))))) (.leaf (cR (cR (cB (cB (cR (cL (cR (cR (cR (cR (cR (cR (cR (cR (cR (cR (bd Tryd.f12))))))))))))))))))))))) (.cut 1 (.seq (.leaf (cL (cR (cR (cR (cR (cR (cR (cR (cR (cR (cR (cR (bd Tryd.f12)))))))))))))) (.leaf (cR (cR (cR (cR (cR (cR (cR (cR (cR (cR (cR (cR (bd Tryd.f12)))))))))))))))))))))))))))))) (J := trystlaw11_KnowMade.J0 R) LfYtoclhecldmahiaaDoor.mixed Tryd.func12 (by kernel_rfl) (by kernel_rfl) (mkSeq (mkSeq (mkSeq (mkSeq (mkSeq (mkSeq (mkSeq (mkCut (cutDef [(3, .ptr), (4, .ptr), (6, .slice), (7, .slice)] (fun x w => trystlaw11_KnowMade.c4 R x.1 x.2.1 x.2.2.1 x.2.2.2 w) (fun _ _ => by kernel_rfl) (fun _ _ => by kernel_rfl)) (mkSeq (mkSeq (mkSeq (mkCut (cutDef [(7, .slice), (11, .slice), (13, .slice)] (fun x w => trystlaw11_KnowMade.c3 R x.1 x.2.1 x.2.2 w) (fun _ _ => by kernel_rfl) (fun _ _ => by kernel_rfl)) (mkSeq (mkCut (cutDef [] (fun x w => trystlaw11_KnowMade.c1 R w) (fun _ _ => by kernel_rfl) (fun _ _ => by kernel_rfl)) (mkSeq mkLeaf mkLeaf)) (mkSeq (mkBlock (mkLoop (loopDef LfYtoclhecldmahiaaDoor.mixed [(7, .slice), (11, .slice), (13, .slice), (15, (.int .i64))] (by kernel_rfl) (fun M2 x w => trystlaw11_KnowMade.b2 R (fun y0 y1 y2 y3 w => M2 (y0, y1, y2, y3) w) x.1 x.2.1 x.2.2.1 x.2.2.2 w) (fun M2 => fun _ _ _ => False) (fun _ _ _ => by kernel_rfl) (fun M2 => (mkSeq (mkSeq mkLeaf (mkBlock (mkSeq (mkCnd (mkSeq mkLeaf mkLeaf) mkLeaf) mkLeaf))) (mkSeq (mkCnd mkLeaf mkLeaf) mkLeaf))) (fun x w => trystlaw11_KnowMade.l2 R x.1 x.2.1 x.2.2.1 x.2.2.2 w) (by rintro ⟨c0, c1, c2, s0⟩ w ⟨I, μ, h0, h1⟩; refine ⟨fun y w => y.1 = c0 ∧ y.2.1 = c1 ∧ y.2.2.1 = c2 ∧ I y.2.2.2 w, fun y w => μ y.2.2.2 w, ⟨rfl, rfl, rfl, h0⟩, ?_⟩; rintro ⟨d0, d1, d2, t0⟩ w ⟨e0, e1, e2, hI⟩; dsimp only at e0 e1 e2 hI; subst e0; subst e1; subst e2; exact h1 _ _ hI) (fun _ _ => by kernel_rfl)))) mkLeaf))) (mkSeq (mkCnd (mkSeq mkLeaf mkLeaf) mkLeaf) mkLeaf)) mkLeaf) mkLeaf)) (mkSeq (mkBlock (mkLoop (loopDef LfYtoclhecldmahiaaDoor.mixed [(3, .ptr), (4, .ptr), (7, .slice), (6, .slice), (8, (.int .i64))] (by kernel_rfl) (fun M5 x w => trystlaw11_KnowMade.b5 R (fun y0 y1 y2 y3 y4 w => M5 (y0, y1, y2, y3, y4) w) x.1 x.2.1 x.2.2.1 x.2.2.2.1 x.2.2.2.2 w) (fun M5 => trystlaw11_KnowMade.J5 R (fun y0 y1 y2 y3 y4 w => M5 (y0, y1, y2, y3, y4) w)) (fun _ _ _ => by kernel_rfl) (fun M5 => (mkSeq (mkSeq mkLeaf (mkBlock (mkSeq (mkSeq (mkSeq (mkCut (cutDef [(3, .ptr), (4, .ptr), (6, .slice), (7, .slice), (8, (.int .i64)), (9, .addr)] (fun x w => trystlaw11_KnowMade.c6 R (fun y0 y1 y2 y3 y4 w => M5 (y0, y1, y2, y3, y4) w) x.1 x.2.1 x.2.2.1 x.2.2.2.1 x.2.2.2.2.1 x.2.2.2.2.2 w) (fun _ _ => by kernel_rfl) (fun _ _ => by kernel_rfl)) (mkSeq (mkCnd mkLeaf mkLeaf) mkLeaf)) (mkSeq (mkBlock (mkLoop (loopDef LfYtoclhecldmahiaaDoor.mixed [(3, .ptr), (4, .ptr), (6, .slice), (7, .slice), (8, (.int .i64)), (9, .addr), (10, (.int .i64))] (by kernel_rfl) (fun M7 x w => trystlaw11_KnowMade.b7 R (fun y0 y1 y2 y3 y4 w => M5 (y0, y1, y2, y3, y4) w) (fun y0 y1 y2 y3 y4 y5 y6 w => M7 (y0, y1, y2, y3, y4, y5, y6) w) x.1 x.2.1 x.2.2.1 x.2.2.2.1 x.2.2.2.2.1 x.2.2.2.2.2.1 x.2.2.2.2.2.2 w) (fun M7 => fun _ _ _ => False) (fun _ _ _ => by kernel_rfl) (fun M7 => (mkSeq (mkSeq mkLeaf (mkBlock mkLeaf)) (mkSeq (mkCnd mkLeaf mkLeaf) mkLeaf))) (fun x w => trystlaw11_KnowMade.l7 R (fun y0 y1 y2 y3 y4 w => M5 (y0, y1, y2, y3, y4) w) x.1 x.2.1 x.2.2.1 x.2.2.2.1 x.2.2.2.2.1 x.2.2.2.2.2.1 x.2.2.2.2.2.2 w) (by rintro ⟨c0, c1, c2, c3, c4, c5, s0⟩ w ⟨I, μ, h0, h1⟩; refine ⟨fun y w => y.1 = c0 ∧ y.2.1 = c1 ∧ y.2.2.1 = c2 ∧ y.2.2.2.1 = c3 ∧ y.2.2.2.2.1 = c4 ∧ y.2.2.2.2.2.1 = c5 ∧ I y.2.2.2.2.2.2 w, fun y w => μ y.2.2.2.2.2.2 w, ⟨rfl, rfl, rfl, rfl, rfl, rfl, h0⟩, ?_⟩; rintro ⟨d0, d1, d2, d3, d4, d5, t0⟩ w ⟨e0, e1, e2, e3, e4, e5, hI⟩; dsimp only at e0 e1 e2 e3 e4 e5 hI; subst e0; subst e1; subst e2; subst e3; subst e4; subst e5; exact h1 _ _ hI) (fun _ _ => by kernel_rfl)))) mkLeaf)) mkLeaf) mkLeaf))) (mkSeq (mkCnd mkLeaf mkLeaf) mkLeaf))) (fun x w => trystlaw11_KnowMade.l5 R x.1 x.2.1 x.2.2.1 x.2.2.2.1 x.2.2.2.2 w) (by rintro ⟨c0, c1, c2, s0⟩ w ⟨I, μ, h0, h1⟩; refine ⟨fun y w => y.1 = c0 ∧ y.2.1 = c1 ∧ y.2.2.1 = c2 ∧ I y.2.2.2 w, fun y w => μ y.2.2.2 w, ⟨rfl, rfl, rfl, h0⟩, ?_⟩; rintro ⟨d0, d1, d2, t0⟩ w ⟨e0, e1, e2, hI⟩; dsimp only at e0 e1 e2 hI; subst e0; subst e1; subst e2; exact h1 _ _ hI) (fun _ _ => by kernel_rfl)))) mkLeaf)) mkLeaf) mkLeaf) (mkSeq (mkCnd (mkSeq mkLeaf mkLeaf) mkLeaf) mkLeaf)) mkLeaf) (mkSeq (mkCnd (mkSeq mkLeaf mkLeaf) mkLeaf) mkLeaf)) mkLeaf) (kcast (by kernel_rfl) h)

/-! trystlaw11_KnowNests -/
def trystlaw11_KnowNests.c1 (R : Value → World → Prop) (a5 : Option Addr) (x6 : Int) (in8 : Int) (some9 : Sl) (all10 : Bool) (w : World) : Prop :=
  let w1 := w.alloc (.cells #[.int .i64 in8] 3);
  ∃ (a_1 : Option Addr) (l_2 c_3 : Nat), ∃ w2 : World, (builtin .append #[29, 29] 29 #[] #[.slice some9.a some9.len some9.cap, .slice (some (newA w)) 1 1]).run Tryd.prog w1 = .ok (.value (.slice a_1 l_2 c_3)) w2 ∧
  CallsV Tryd.prog n_know_Is #[.pointer a5, .slice a_1 l_2 c_3, .int .i64 x6] w2 (fun v_4 w3 =>
  ∃ b_5 : Bool, ∃ x_6 : Int, v_4 = .tuple #[.bool b_5, .int .i64 x_6] ∧
  cond ((x_6 : Int) == 0)
  (cond (b_5 == all10)
  (CallsV Tryd.prog n_trystlaw11_wakes #[] w3 (fun v_7 w4 =>
  ∃ b_8 : Bool, v_7 = .bool b_8 ∧
  R (.bool b_8) w4))
  (R (.bool false) w3))
  (R (.bool false) w3))

def trystlaw11_KnowNests.c3 (R : Value → World → Prop) (N2 : Sl → Sl → Option Addr → Int → Int → Int → Sl → Bool → Int → World → Prop) (kinds0 : Sl) (have1 : Sl) (a5 : Option Addr) (x6 : Int) (e7 : Int) (in8 : Int) (some9 : Sl) (all10 : Bool) (i11 : Int) (k12 : Int) (w : World) : Prop :=
  let w5 := w.alloc (.cells #[.int .i64 k12] 3);
  ∃ (a_9 : Option Addr) (l_10 c_11 : Nat), ∃ w6 : World, (builtin .append #[29, 29] 29 #[] #[.slice some9.a some9.len some9.cap, .slice (some (newA w)) 1 1]).run Tryd.prog w5 = .ok (.value (.slice a_9 l_10 c_11)) w6 ∧
  (let i11_11 : Int := (IntKind.i64.wrap (i11 + 1));
  N2 kinds0 have1 a5 x6 e7 in8 ⟨a_9, l_10, c_11⟩ all10 i11_11 w6)

def trystlaw11_KnowNests.c4 (R : Value → World → Prop) (N2 : Sl → Sl → Option Addr → Int → Int → Int → Sl → Bool → Int → World → Prop) (kinds0 : Sl) (have1 : Sl) (a5 : Option Addr) (x6 : Int) (e7 : Int) (in8 : Int) (some9 : Sl) (all10 : Bool) (i11 : Int) (needs18 : Bool) (w : World) : Prop :=
  cond needs18
  ((let i11_12 : Int := (IntKind.i64.wrap (i11 + 1));
  N2 kinds0 have1 a5 x6 e7 in8 some9 false i11_12 w))
  ((let i11_13 : Int := (IntKind.i64.wrap (i11 + 1));
  N2 kinds0 have1 a5 x6 e7 in8 some9 all10 i11_13 w))

def trystlaw11_KnowNests.c5 (R : Value → World → Prop) (N2 : Sl → Sl → Option Addr → Int → Int → Int → Sl → Bool → Int → World → Prop) (kinds0 : Sl) (have1 : Sl) (a5 : Option Addr) (x6 : Int) (e7 : Int) (in8 : Int) (some9 : Sl) (all10 : Bool) (i11 : Int) (k12 : Int) (needs18 : Bool) (w : World) : Prop :=
  cond ((e7 : Int) != 0)
  (R (.bool false) w)
  (cond (decide ((i11 : Int) < ((have1.len : Nat) : Int)))
  (0 ≤ (i11 : Int) ∧ i11 < ((have1.len : Nat) : Int) ∧ ∃ q_15 : Addr, have1.a = some q_15 ∧
  ∃ b_16 : Bool, w.cell? (q_15.add (i11 : Int).toNat) = some (.bool b_16) ∧
  cond b_16
  (trystlaw11_KnowNests.c3 R N2 kinds0 have1 a5 x6 e7 in8 some9 all10 i11 k12 w)
  (trystlaw11_KnowNests.c4 R N2 kinds0 have1 a5 x6 e7 in8 some9 all10 i11 needs18 w))
  (trystlaw11_KnowNests.c4 R N2 kinds0 have1 a5 x6 e7 in8 some9 all10 i11 needs18 w))

def trystlaw11_KnowNests.c6 (R : Value → World → Prop) (N2 : Sl → Sl → Option Addr → Int → Int → Int → Sl → Bool → Int → World → Prop) (kinds0 : Sl) (have1 : Sl) (a5 : Option Addr) (x6 : Int) (in8 : Int) (some9 : Sl) (all10 : Bool) (i11 : Int) (k12 : Int) (p14 : Int) (d16 : Int) (w : World) : Prop :=
  0 ≤ (i11 : Int) ∧ i11 < ((kinds0.len : Nat) : Int) ∧ ∃ q_17 : Addr, kinds0.a = some q_17 ∧
  ∃ x_18 : Int, w.cell? (q_17.add (i11 : Int).toNat) = some (.int .i64 x_18) ∧
  (4 : Int) ≠ 0 ∧
  (let t92_18 : Bool := (((Int.tmod (IntKind.u64.wrap x_18) 4) : Int) == 0);
  cond t92_18
  (let w7 := w.alloc (.cells #[.int .i64 k12, .int .i64 in8] 3);
  CallsV Tryd.prog n_term_Arena_Make #[.pointer a5, .int .i64 6, .int .i64 0, .slice (some (newA w)) 2 2] w7 (fun v_20 w8 =>
  ∃ x_21 : Int, ∃ x_22 : Int, v_20 = .tuple #[.int .i64 x_21, .int .i64 x_22] ∧
  trystlaw11_KnowNests.c5 R N2 kinds0 have1 a5 x6 x_22 x_21 some9 all10 i11 k12 true w8))
  ((let t102_22 : Bool := (((Int.tmod (IntKind.u64.wrap x_18) 4) : Int) == 1);
  cond t102_22
  (let w9 := w.alloc (.cells #[.int .i64 p14, .int .i64 d16, .int .i64 in8] 3);
  CallsV Tryd.prog n_term_Arena_Make #[.pointer a5, .int .i64 7, .int .i64 0, .slice (some (newA w)) 3 3] w9 (fun v_24 w10 =>
  ∃ x_25 : Int, ∃ x_26 : Int, v_24 = .tuple #[.int .i64 x_25, .int .i64 x_26] ∧
  trystlaw11_KnowNests.c5 R N2 kinds0 have1 a5 x6 x_26 x_25 some9 all10 i11 k12 true w10))
  ((let t113_26 : Bool := (((Int.tmod (IntKind.u64.wrap x_18) 4) : Int) == 2);
  cond t113_26
  (let w11 := w.alloc (.cells #[.int .i64 k12, .int .i64 in8] 3);
  CallsV Tryd.prog n_term_Arena_Make #[.pointer a5, .int .i64 8, .int .i64 0, .slice (some (newA w)) 2 2] w11 (fun v_28 w12 =>
  ∃ x_29 : Int, ∃ x_30 : Int, v_28 = .tuple #[.int .i64 x_29, .int .i64 x_30] ∧
  trystlaw11_KnowNests.c5 R N2 kinds0 have1 a5 x6 x_30 x_29 some9 all10 i11 k12 false w12))
  (let w13 := w.alloc (.cells #[.int .i64 d16, .int .i64 in8] 3);
  CallsV Tryd.prog n_term_Arena_Make #[.pointer a5, .int .i64 9, .int .i64 0, .slice (some (newA w)) 2 2] w13 (fun v_31 w14 =>
  ∃ x_32 : Int, ∃ x_33 : Int, v_31 = .tuple #[.int .i64 x_32, .int .i64 x_33] ∧
  trystlaw11_KnowNests.c5 R N2 kinds0 have1 a5 x6 x_33 x_32 some9 all10 i11 k12 false w14)))))))

def trystlaw11_KnowNests.b2 (R : Value → World → Prop) (N2 : Sl → Sl → Option Addr → Int → Int → Int → Sl → Bool → Int → World → Prop) (kinds0 : Sl) (have1 : Sl) (a5 : Option Addr) (x6 : Int) (e7 : Int) (in8 : Int) (some9 : Sl) (all10 : Bool) (i11 : Int) (w : World) : Prop :=
  cond (decide ((i11 : Int) < ((kinds0.len : Nat) : Int)))
  (CallsV Tryd.prog n_term_Arena_Make #[.pointer a5, .int .i64 1, .int .i64 (IntKind.i64.wrap (100 + i11)), .slice none 0 0] w (fun v_34 w15 =>
  ∃ x_35 : Int, ∃ x_36 : Int, v_34 = .tuple #[.int .i64 x_35, .int .i64 x_36] ∧
  let w16 := w15.alloc (.cells #[.int .i64 x_35] 3);
  CallsV Tryd.prog n_term_Arena_Make #[.pointer a5, .int .i64 5, .int .i64 0, .slice (some (newA w15)) 1 1] w16 (fun v_37 w17 =>
  ∃ x_38 : Int, ∃ x_39 : Int, v_37 = .tuple #[.int .i64 x_38, .int .i64 x_39] ∧
  CallsV Tryd.prog n_term_Arena_Make #[.pointer a5, .int .i64 1, .int .i64 (IntKind.i64.wrap (1000 + i11)), .slice none 0 0] w17 (fun v_40 w18 =>
  ∃ x_41 : Int, ∃ x_42 : Int, v_40 = .tuple #[.int .i64 x_41, .int .i64 x_42] ∧
  cond ((e7 : Int) != 0)
  (R (.bool false) w18)
  (cond ((x_36 : Int) != 0)
  (R (.bool false) w18)
  (cond ((x_39 : Int) != 0)
  (R (.bool false) w18)
  (cond ((x_42 : Int) != 0)
  (R (.bool false) w18)
  (trystlaw11_KnowNests.c6 R N2 kinds0 have1 a5 x6 in8 some9 all10 i11 x_35 x_38 x_41 w18))))))))
  (trystlaw11_KnowNests.c1 R a5 x6 in8 some9 all10 w)

def trystlaw11_KnowNests.l2 (R : Value → World → Prop) (kinds0 : Sl) (have1 : Sl) (a5 : Option Addr) (x6 : Int) (e7 : Int) (in8 : Int) (some9 : Sl) (all10 : Bool) (i11 : Int) (w : World) : Prop :=
  ∃ (I : (Int × Int × Sl × Bool × Int) → World → Prop) (μ : (Int × Int × Sl × Bool × Int) → World → Nat), I (e7, in8, some9, all10, i11) w ∧ ∀ s w, I s w → trystlaw11_KnowNests.b2 R (fun kinds0' have1' a5' x6' e7' in8' some9' all10' i11' w' => (kinds0' = kinds0 ∧ have1' = have1 ∧ a5' = a5 ∧ x6' = x6 ∧ I (e7', in8', some9', all10', i11') w') ∧ μ (e7', in8', some9', all10', i11') w' < μ s w) kinds0 have1 a5 x6 s.1 s.2.1 s.2.2.1 s.2.2.2.1 s.2.2.2.2 w

def trystlaw11_KnowNests.c7 (R : Value → World → Prop) (kinds0 : Sl) (have1 : Sl) (w : World) : Prop :=
  CallsV Tryd.prog n_term_New #[] w (fun v_43 w19 =>
  ∃ p_44 : Option Addr, v_43 = .pointer p_44 ∧
  cond ((p_44).isNone)
  (R (.bool false) w19)
  (CallsV Tryd.prog n_term_Arena_Make #[.pointer p_44, .int .i64 1, .int .i64 0, .slice none 0 0] w19 (fun v_45 w20 =>
  ∃ x_46 : Int, ∃ x_47 : Int, v_45 = .tuple #[.int .i64 x_46, .int .i64 x_47] ∧
  trystlaw11_KnowNests.l2 R kinds0 have1 p_44 x_46 x_47 x_46 ⟨none, 0, 0⟩ true 0 w20)))

def trystlaw11_KnowNests.main (R : Value → World → Prop) (kinds0 : Sl) (have1 : Sl) (w : World) : Prop :=
  cond (decide ((((kinds0.len : Nat) : Int) : Int) > 40))
  (R (.bool true) w)
  (cond (decide ((((have1.len : Nat) : Int) : Int) > 100))
  (R (.bool true) w)
  (trystlaw11_KnowNests.c7 R kinds0 have1 w))

def trystlaw11_KnowNests.J2 (R : Value → World → Prop) (N2 : Sl → Sl → Option Addr → Int → Int → Int → Sl → Bool → Int → World → Prop) (k : Nat) (fr : Fr) (w : World) : Prop :=
  cond (Nat.beq k 6) (dec [(0, .slice), (1, .slice), (5, .ptr), (6, (.int .i64)), (8, (.int .i64)), (9, .slice), (10, .bool), (11, (.int .i64)), (12, (.int .i64)), (14, (.int .i64)), (16, (.int .i64))] fr fun x => trystlaw11_KnowNests.c6 R N2 x.1 x.2.1 x.2.2.1 x.2.2.2.1 x.2.2.2.2.1 x.2.2.2.2.2.1 x.2.2.2.2.2.2.1 x.2.2.2.2.2.2.2.1 x.2.2.2.2.2.2.2.2.1 x.2.2.2.2.2.2.2.2.2.1 x.2.2.2.2.2.2.2.2.2.2 w) (cond (Nat.beq k 5) (dec [(0, .slice), (1, .slice), (5, .ptr), (6, (.int .i64)), (7, (.int .i64)), (8, (.int .i64)), (9, .slice), (10, .bool), (11, (.int .i64)), (12, (.int .i64)), (18, .bool)] fr fun x => trystlaw11_KnowNests.c5 R N2 x.1 x.2.1 x.2.2.1 x.2.2.2.1 x.2.2.2.2.1 x.2.2.2.2.2.1 x.2.2.2.2.2.2.1 x.2.2.2.2.2.2.2.1 x.2.2.2.2.2.2.2.2.1 x.2.2.2.2.2.2.2.2.2.1 x.2.2.2.2.2.2.2.2.2.2 w) (cond (Nat.beq k 3) (dec [(0, .slice), (1, .slice), (5, .ptr), (6, (.int .i64)), (7, (.int .i64)), (8, (.int .i64)), (9, .slice), (10, .bool), (11, (.int .i64)), (12, (.int .i64))] fr fun x => trystlaw11_KnowNests.c3 R N2 x.1 x.2.1 x.2.2.1 x.2.2.2.1 x.2.2.2.2.1 x.2.2.2.2.2.1 x.2.2.2.2.2.2.1 x.2.2.2.2.2.2.2.1 x.2.2.2.2.2.2.2.2.1 x.2.2.2.2.2.2.2.2.2 w) (cond (Nat.beq k 4) (dec [(0, .slice), (1, .slice), (5, .ptr), (6, (.int .i64)), (7, (.int .i64)), (8, (.int .i64)), (9, .slice), (10, .bool), (11, (.int .i64)), (18, .bool)] fr fun x => trystlaw11_KnowNests.c4 R N2 x.1 x.2.1 x.2.2.1 x.2.2.2.1 x.2.2.2.2.1 x.2.2.2.2.2.1 x.2.2.2.2.2.2.1 x.2.2.2.2.2.2.2.1 x.2.2.2.2.2.2.2.2.1 x.2.2.2.2.2.2.2.2.2 w) (False))))

def trystlaw11_KnowNests.J0 (R : Value → World → Prop) (k : Nat) (fr : Fr) (w : World) : Prop :=
  cond (Nat.beq k 7) (dec [(0, .slice), (1, .slice)] fr fun x => trystlaw11_KnowNests.c7 R x.1 x.2 w) (cond (Nat.beq k 2) (dec [(0, .slice), (1, .slice), (5, .ptr), (6, (.int .i64)), (7, (.int .i64)), (8, (.int .i64)), (9, .slice), (10, .bool), (11, (.int .i64))] fr fun x => trystlaw11_KnowNests.l2 R x.1 x.2.1 x.2.2.1 x.2.2.2.1 x.2.2.2.2.1 x.2.2.2.2.2.1 x.2.2.2.2.2.2.1 x.2.2.2.2.2.2.2.1 x.2.2.2.2.2.2.2.2 w) (cond (Nat.beq k 1) (dec [(5, .ptr), (6, (.int .i64)), (8, (.int .i64)), (9, .slice), (10, .bool)] fr fun x => trystlaw11_KnowNests.c1 R x.1 x.2.1 x.2.2.1 x.2.2.2.1 x.2.2.2.2 w) (False)))

set_option maxRecDepth 100000 in
theorem trystlaw11_KnowNests.lift {R : Value → World → Prop} {kinds0 : Sl} {have1 : Sl} {w : World} (h : trystlaw11_KnowNests.main R kinds0 have1 w) : CallsV Tryd.prog n_trystlaw11_KnowNests #[.slice kinds0.a kinds0.len kinds0.cap, .slice have1.a have1.len have1.cap] w R :=
  liftCalls (c := (.seq (.leaf (cL (bd Tryd.f13))) (.seq (.seq (.leaf (cL (cL (cR (bd Tryd.f13))))) (.cnd (.tmp 27) (.seq (.leaf (cL (cT (cR (cL (cR (bd Tryd.f13))))))) (.leaf (cR (cT (cR (cL (cR (bd Tryd.f13)))))))) (.leaf (cE (cR (cL (cR (bd Tryd.f13)))))))) (.cut 7 (.seq (.leaf (cL (cR (cR (bd Tryd.f13))))) (.seq (.seq (.leaf (cL (cL (cR (cR (cR (bd Tryd.f13))))))) (.cnd (.tmp 30) (.seq (.leaf (cL (cT (cR (cL (cR (cR (cR (bd Tryd.f13))))))))) (.leaf (cR (cT (cR (cL (cR (cR (cR (bd Tryd.f13)))))))))) (.leaf (cE (cR (cL (cR (cR (cR (bd Tryd.f13)))))))))) (.seq (.leaf (cL (cR (cR (cR (cR (bd Tryd.f13))))))) (.seq (.leaf (cL (cR (cR (cR (cR (cR (bd Tryd.f13)))))))) (.seq (.leaf (cL (cR (cR (cR (cR (cR (cR (bd Tryd.f13))))))))) (.seq (.leaf (cL (cR (cR (cR (cR (cR (cR (cR (bd Tryd.f13)))))))))) (.seq (.seq (.leaf (cL (cL (cR (cR (cR (cR (cR (cR (cR (cR (bd Tryd.f13)))))))))))) (.block 0 (.loop 2 (.seq (.seq (.leaf (cL (cL (cB (cB (cR (cL (cR (cR (cR (cR (cR (cR (cR (cR (bd Tryd.f13)))))))))))))))) (.cnd (.tmp 40) (.leaf (cT (cR (cL (cB (cB (cR (cL (cR (cR (cR (cR (cR (cR (cR (cR (bd Tryd.f13))))))))))))))))) (.leaf (cE (cR (cL (cB (cB (cR (cL (cR (cR (cR (cR (cR (cR (cR (cR (bd Tryd.f13))))))))))))))))))) (.seq (.block 1 (.seq (.leaf (cL (cB (cL (cR (cB (cB (cR (cL (cR (cR (cR (cR (cR (cR (cR (cR (bd Tryd.f13)))))))))))))))))) (.seq (.leaf (cL (cR (cB (cL (cR (cB (cB (cR (cL (cR (cR (cR (cR (cR (cR (cR (cR (bd Tryd.f13))))))))))))))))))) (.seq (.leaf (cL (cR (cR (cB (cL (cR (cB (cB (cR (cL (cR (cR (cR (cR (cR (cR (cR (cR (bd Tryd.f13)))))))))))))))))))) (.seq (.seq (.leaf (cL (cL (cR (cR (cR (cB (cL (cR (cB (cB (cR (cL (cR (cR (cR (cR (cR (cR (cR (cR (bd Tryd.f13)))))))))))))))))))))) (.cnd (.tmp 77) (.seq (.leaf (cL (cT (cR (cL (cR (cR (cR (cB (cL (cR (cB (cB (cR (cL (cR (cR (cR (cR (cR (cR (cR (cR (bd Tryd.f13)))))))))))))))))))))))) (.leaf (cR (cT (cR (cL (cR (cR (cR (cB (cL (cR (cB (cB (cR (cL (cR (cR (cR (cR (cR (cR (cR (cR (bd Tryd.f13))))))))))))))))))))))))) (.leaf (cE (cR (cL (cR (cR (cR (cB (cL (cR (cB (cB (cR (cL (cR (cR (cR (cR (cR (cR (cR (cR (bd Tryd.f13))))))))))))))))))))))))) (.cut 6 (.seq (.leaf (cL (cR (cR (cR (cR (cB (cL (cR (cB (cB (cR (cL (cR (cR (cR (cR (cR (cR (cR (cR (bd Tryd.f13)))))))))))))))))))))) (.seq (.seq (.leaf (cL (cL (cR (cR (cR (cR (cR (cB (cL (cR (cB (cB (cR (cL (cR (cR (cR (cR (cR (cR (cR (cR (bd Tryd.f13)))))))))))))))))))))))) (.block 2 (.seq (.leaf (cL (cB (cR (cL (cR (cR (cR (cR (cR (cB (cL (cR (cB (cB (cR (cL (cR (cR (cR (cR (cR (cR (cR (cR (bd Tryd.f13)))))))))))))))))))))))))) (.cnd (.tmp 92) (.leaf (cT (cR (cB (cR (cL (cR (cR (cR (cR (cR (cB (cL (cR (cB (cB (cR (cL (cR (cR (cR (cR (cR (cR (cR (cR (bd Tryd.f13))))))))))))))))))))))))))) (.seq (.leaf (cL (cE (cR (cB (cR (cL (cR (cR (cR (cR (cR (cB (cL (cR (cB (cB (cR (cL (cR (cR (cR (cR (cR (cR (cR (cR (bd Tryd.f13)))))))))))))))))))))))))))) (.cnd (.tmp 102) (.leaf (cT (cR (cE (cR (cB (cR (cL (cR (cR (cR (cR (cR (cB (cL (cR (cB (cB (cR (cL (cR (cR (cR (cR (cR (cR (cR (cR (bd Tryd.f13))))))))))))))))))))))))))))) (.seq (.leaf (cL (cE (cR (cE (cR (cB (cR (cL (cR (cR (cR (cR (cR (cB (cL (cR (cB (cB (cR (cL (cR (cR (cR (cR (cR (cR (cR (cR (bd Tryd.f13)))))))))))))))))))))))))))))) (.cnd (.tmp 113) (.seq (.leaf (cL (cT (cR (cE (cR (cE (cR (cB (cR (cL (cR (cR (cR (cR (cR (cB (cL (cR (cB (cB (cR (cL (cR (cR (cR (cR (cR (cR (cR (cR (bd Tryd.f13)))))))))))))))))))))))))))))))) (.leaf (cR (cT (cR (cE (cR (cE (cR (cB (cR (cL (cR (cR (cR (cR (cR (cB (cL (cR (cB (cB (cR (cL (cR (cR (cR (cR (cR (cR (cR (cR (bd Tryd.f13))))))))))))))))))))))))))))))))) (.seq (.leaf (cL (cE (cR (cE (cR (cE (cR (cB (cR (cL (cR (cR (cR (cR (cR (cB (cL (cR (cB (cB (cR (cL (cR (cR (cR (cR (cR (cR (cR (cR (bd Tryd.f13)))))))))))))))))))))))))))))))) (.leaf (cR (cE (cR (cE (cR (cE (cR (cB (cR (cL (cR (cR (cR (cR (cR (cB (cL (cR (cB (cB (cR (cL (cR (cR (cR (cR (cR (cR (cR (cR (bd Tryd.f13))))))))))))))))))))))))))))))))))))))))) (.cut 5 (.seq (.seq (.leaf (cL (cL (cR (cR (cR (cR (cR (cR (cB (cL (cR (cB (cB (cR (cL (cR (cR (cR (cR (cR (cR (cR (cR (bd Tryd.f13))))))))))))))))))))))))) (.cnd (.tmp 124) (.seq (.leaf (cL (cT (cR (cL (cR (cR (cR (cR (cR (cR (cB (cL (cR (cB (cB (cR (cL (cR (cR (cR (cR (cR (cR (cR (cR (bd Tryd.f13))))))))))))))))))))))))))) (.leaf (cR (cT (cR (cL (cR (cR (cR (cR (cR (cR (cB (cL (cR (cB (cB (cR (cL (cR (cR (cR (cR (cR (cR (cR (cR (bd Tryd.f13)))))))))))))))))))))))))))) (.leaf (cE (cR (cL (cR (cR (cR (cR (cR (cR (cB (cL (cR (cB (cB (cR (cL (cR (cR (cR (cR (cR (cR (cR (cR (bd Tryd.f13)))))))))))))))))))))))))))) (.seq (.leaf (cL (cR (cR (cR (cR (cR (cR (cR (cB (cL (cR (cB (cB (cR (cL (cR (cR (cR (cR (cR (cR (cR (cR (bd Tryd.f13))))))))))))))))))))))))) (.cnd (.tmp 134) (.cut 3 (.leaf (cT (cR (cR (cR (cR (cR (cR (cR (cR (cB (cL (cR (cB (cB (cR (cL (cR (cR (cR (cR (cR (cR (cR (cR (bd Tryd.f13))))))))))))))))))))))))))) (.cut 4 (.seq (.leaf (cL (cE (cR (cR (cR (cR (cR (cR (cR (cR (cB (cL (cR (cB (cB (cR (cL (cR (cR (cR (cR (cR (cR (cR (cR (bd Tryd.f13))))))))))))))))))))))))))) (.cnd (.tmp 139) (.leaf (cT (cR (cE (cR (cR (cR (cR (cR (cR (cR (cR (cB (cL (cR (cB (cB (cR (cL (cR (cR (cR (cR (cR (cR (cR (cR (bd Tryd.f13)))))))))))))))))))))))))))) (.leaf (cE (cR (cE (cR (cR (cR (cR (cR (cR (cR (cR (cB (cL (cR (cB (cB (cR (cL (cR (cR (cR (cR (cR (cR (cR (cR (bd Tryd.f13))))))))))))))))))))))))))))))))))))))))))) (.leaf (cR (cR (cB (cB (cR (cL (cR (cR (cR (cR (cR (cR (cR (cR (bd Tryd.f13))))))))))))))))))))) (.cut 1 (.seq (.leaf (cL (cR (cR (cR (cR (cR (cR (cR (cR (cR (bd Tryd.f13)))))))))))) (.seq (.leaf (cL (cR (cR (cR (cR (cR (cR (cR (cR (cR (cR (bd Tryd.f13))))))))))))) (.leaf (cR (cR (cR (cR (cR (cR (cR (cR (cR (cR (cR (bd Tryd.f13))))))))))))))))))))))))))) (J := trystlaw11_KnowNests.J0 R) LfYtoclhecldmahiaaDoor.mixed Tryd.func13 (by kernel_rfl) (by kernel_rfl) (mkSeq (mkSeq (mkCut (cutDef [(0, .slice), (1, .slice)] (fun x w => trystlaw11_KnowNests.c7 R x.1 x.2 w) (fun _ _ => by kernel_rfl) (fun _ _ => by kernel_rfl)) (mkSeq (mkSeq (mkSeq (mkSeq (mkSeq (mkSeq (mkSeq (mkCut (cutDef [(5, .ptr), (6, (.int .i64)), (8, (.int .i64)), (9, .slice), (10, .bool)] (fun x w => trystlaw11_KnowNests.c1 R x.1 x.2.1 x.2.2.1 x.2.2.2.1 x.2.2.2.2 w) (fun _ _ => by kernel_rfl) (fun _ _ => by kernel_rfl)) (mkSeq (mkSeq mkLeaf mkLeaf) mkLeaf)) (mkSeq (mkBlock (mkLoop (loopDef LfYtoclhecldmahiaaDoor.mixed [(0, .slice), (1, .slice), (5, .ptr), (6, (.int .i64)), (7, (.int .i64)), (8, (.int .i64)), (9, .slice), (10, .bool), (11, (.int .i64))] (by kernel_rfl) (fun M2 x w => trystlaw11_KnowNests.b2 R (fun y0 y1 y2 y3 y4 y5 y6 y7 y8 w => M2 (y0, y1, y2, y3, y4, y5, y6, y7, y8) w) x.1 x.2.1 x.2.2.1 x.2.2.2.1 x.2.2.2.2.1 x.2.2.2.2.2.1 x.2.2.2.2.2.2.1 x.2.2.2.2.2.2.2.1 x.2.2.2.2.2.2.2.2 w) (fun M2 => trystlaw11_KnowNests.J2 R (fun y0 y1 y2 y3 y4 y5 y6 y7 y8 w => M2 (y0, y1, y2, y3, y4, y5, y6, y7, y8) w)) (fun _ _ _ => by kernel_rfl) (fun M2 => (mkSeq (mkSeq mkLeaf (mkBlock (mkSeq (mkSeq (mkSeq (mkSeq (mkCut (cutDef [(0, .slice), (1, .slice), (5, .ptr), (6, (.int .i64)), (8, (.int .i64)), (9, .slice), (10, .bool), (11, (.int .i64)), (12, (.int .i64)), (14, (.int .i64)), (16, (.int .i64))] (fun x w => trystlaw11_KnowNests.c6 R (fun y0 y1 y2 y3 y4 y5 y6 y7 y8 w => M2 (y0, y1, y2, y3, y4, y5, y6, y7, y8) w) x.1 x.2.1 x.2.2.1 x.2.2.2.1 x.2.2.2.2.1 x.2.2.2.2.2.1 x.2.2.2.2.2.2.1 x.2.2.2.2.2.2.2.1 x.2.2.2.2.2.2.2.2.1 x.2.2.2.2.2.2.2.2.2.1 x.2.2.2.2.2.2.2.2.2.2 w) (fun _ _ => by kernel_rfl) (fun _ _ => by kernel_rfl)) (mkSeq (mkSeq (mkCut (cutDef [(0, .slice), (1, .slice), (5, .ptr), (6, (.int .i64)), (7, (.int .i64)), (8, (.int .i64)), (9, .slice), (10, .bool), (11, (.int .i64)), (12, (.int .i64)), (18, .bool)] (fun x w => trystlaw11_KnowNests.c5 R (fun y0 y1 y2 y3 y4 y5 y6 y7 y8 w => M2 (y0, y1, y2, y3, y4, y5, y6, y7, y8) w) x.1 x.2.1 x.2.2.1 x.2.2.2.1 x.2.2.2.2.1 x.2.2.2.2.2.1 x.2.2.2.2.2.2.1 x.2.2.2.2.2.2.2.1 x.2.2.2.2.2.2.2.2.1 x.2.2.2.2.2.2.2.2.2.1 x.2.2.2.2.2.2.2.2.2.2 w) (fun _ _ => by kernel_rfl) (fun _ _ => by kernel_rfl)) (mkSeq (mkSeq (mkCnd (mkCut (cutDef [(0, .slice), (1, .slice), (5, .ptr), (6, (.int .i64)), (7, (.int .i64)), (8, (.int .i64)), (9, .slice), (10, .bool), (11, (.int .i64)), (12, (.int .i64))] (fun x w => trystlaw11_KnowNests.c3 R (fun y0 y1 y2 y3 y4 y5 y6 y7 y8 w => M2 (y0, y1, y2, y3, y4, y5, y6, y7, y8) w) x.1 x.2.1 x.2.2.1 x.2.2.2.1 x.2.2.2.2.1 x.2.2.2.2.2.1 x.2.2.2.2.2.2.1 x.2.2.2.2.2.2.2.1 x.2.2.2.2.2.2.2.2.1 x.2.2.2.2.2.2.2.2.2 w) (fun _ _ => by kernel_rfl) (fun _ _ => by kernel_rfl)) mkLeaf) (mkCut (cutDef [(0, .slice), (1, .slice), (5, .ptr), (6, (.int .i64)), (7, (.int .i64)), (8, (.int .i64)), (9, .slice), (10, .bool), (11, (.int .i64)), (18, .bool)] (fun x w => trystlaw11_KnowNests.c4 R (fun y0 y1 y2 y3 y4 y5 y6 y7 y8 w => M2 (y0, y1, y2, y3, y4, y5, y6, y7, y8) w) x.1 x.2.1 x.2.2.1 x.2.2.2.1 x.2.2.2.2.1 x.2.2.2.2.2.1 x.2.2.2.2.2.2.1 x.2.2.2.2.2.2.2.1 x.2.2.2.2.2.2.2.2.1 x.2.2.2.2.2.2.2.2.2 w) (fun _ _ => by kernel_rfl) (fun _ _ => by kernel_rfl)) (mkSeq (mkCnd mkLeaf mkLeaf) mkLeaf))) mkLeaf) (mkSeq (mkCnd (mkSeq mkLeaf mkLeaf) mkLeaf) mkLeaf))) (mkSeq (mkBlock (mkSeq (mkCnd mkLeaf (mkSeq (mkCnd mkLeaf (mkSeq (mkCnd (mkSeq mkLeaf mkLeaf) (mkSeq mkLeaf mkLeaf)) mkLeaf)) mkLeaf)) mkLeaf)) mkLeaf)) mkLeaf)) (mkSeq (mkCnd (mkSeq mkLeaf mkLeaf) mkLeaf) mkLeaf)) mkLeaf) mkLeaf) mkLeaf))) (mkSeq (mkCnd mkLeaf mkLeaf) mkLeaf))) (fun x w => trystlaw11_KnowNests.l2 R x.1 x.2.1 x.2.2.1 x.2.2.2.1 x.2.2.2.2.1 x.2.2.2.2.2.1 x.2.2.2.2.2.2.1 x.2.2.2.2.2.2.2.1 x.2.2.2.2.2.2.2.2 w) (by rintro ⟨c0, c1, c2, c3, s0⟩ w ⟨I, μ, h0, h1⟩; refine ⟨fun y w => y.1 = c0 ∧ y.2.1 = c1 ∧ y.2.2.1 = c2 ∧ y.2.2.2.1 = c3 ∧ I y.2.2.2.2 w, fun y w => μ y.2.2.2.2 w, ⟨rfl, rfl, rfl, rfl, h0⟩, ?_⟩; rintro ⟨d0, d1, d2, d3, t0⟩ w ⟨e0, e1, e2, e3, hI⟩; dsimp only at e0 e1 e2 e3 hI; subst e0; subst e1; subst e2; subst e3; exact h1 _ _ hI) (fun _ _ => by kernel_rfl)))) mkLeaf)) mkLeaf) mkLeaf) mkLeaf) mkLeaf) (mkSeq (mkCnd (mkSeq mkLeaf mkLeaf) mkLeaf) mkLeaf)) mkLeaf)) (mkSeq (mkCnd (mkSeq mkLeaf mkLeaf) mkLeaf) mkLeaf)) mkLeaf) (kcast (by kernel_rfl) h)

/-! know_Is -/
def know_Is.c1 (R : Value → World → Prop) (a0 : Option Addr) (some1 : Sl) (i2 : Int) (w : World) : Prop :=
  CallsV Tryd.prog n_know_All #[.pointer a0, .slice some1.a some1.len some1.cap] w (fun v_1 w1 =>
  ∃ (a_2 : Option Addr) (l_3 c_4 : Nat), ∃ x_5 : Int, v_1 = .tuple #[.slice a_2 l_3 c_4, .int .i64 x_5] ∧
  cond ((x_5 : Int) == 0)
  (0 ≤ (i2 : Int) ∧ i2 < ((l_3 : Nat) : Int) ∧ ∃ q_6 : Addr, a_2 = some q_6 ∧
  ∃ b_7 : Bool, w1.cell? (q_6.add (i2 : Int).toNat) = some (.bool b_7) ∧
  R (.tuple #[.bool b_7, .int .i64 x_5]) w1)
  (R (.tuple #[.bool false, .int .i64 x_5]) w1))

def know_Is.main (R : Value → World → Prop) (a0 : Option Addr) (some1 : Sl) (i2 : Int) (w : World) : Prop :=
  CallsV Tryd.prog n_term_Arena_Has #[.pointer a0, .slice some1.a some1.len some1.cap] w (fun v_8 w2 =>
  ∃ b_9 : Bool, v_8 = .bool b_9 ∧
  cond (!b_9)
  (R (.tuple #[.bool false, .int .i64 8]) w2)
  (let w3 := w2.alloc (.cells #[.int .i64 i2] 3);
  CallsV Tryd.prog n_term_Arena_Has #[.pointer a0, .slice (some (newA w2)) 1 1] w3 (fun v_10 w4 =>
  ∃ b_11 : Bool, v_10 = .bool b_11 ∧
  cond (!b_11)
  (R (.tuple #[.bool false, .int .i64 8]) w4)
  (know_Is.c1 R a0 some1 i2 w4))))

def know_Is.J0 (R : Value → World → Prop) (k : Nat) (fr : Fr) (w : World) : Prop :=
  cond (Nat.beq k 1) (dec [(0, .ptr), (1, .slice), (2, (.int .i64))] fr fun x => know_Is.c1 R x.1 x.2.1 x.2.2 w) (False)

set_option maxRecDepth 100000 in
theorem know_Is.lift {R : Value → World → Prop} {a0 : Option Addr} {some1 : Sl} {i2 : Int} {w : World} (h : know_Is.main R a0 some1 i2 w) : CallsV Tryd.prog n_know_Is #[.pointer a0, .slice some1.a some1.len some1.cap, .int .i64 i2] w R :=
  liftCalls (c := (.seq (.leaf (cL (bd Tryd.f72))) (.seq (.seq (.leaf (cL (cL (cR (bd Tryd.f72))))) (.cnd (.tmp 20) (.seq (.leaf (cL (cT (cR (cL (cR (bd Tryd.f72))))))) (.leaf (cR (cT (cR (cL (cR (bd Tryd.f72)))))))) (.leaf (cE (cR (cL (cR (bd Tryd.f72)))))))) (.cut 1 (.seq (.leaf (cL (cR (cR (bd Tryd.f72))))) (.seq (.leaf (cL (cR (cR (cR (bd Tryd.f72)))))) (.leaf (cR (cR (cR (cR (bd Tryd.f72)))))))))))) (J := know_Is.J0 R) LfYtoclhecldmahiaaDoor.mixed Tryd.func72 (by kernel_rfl) (by kernel_rfl) (mkSeq (mkSeq (mkCut (cutDef [(0, .ptr), (1, .slice), (2, (.int .i64))] (fun x w => know_Is.c1 R x.1 x.2.1 x.2.2 w) (fun _ _ => by kernel_rfl) (fun _ _ => by kernel_rfl)) (mkSeq (mkSeq mkLeaf mkLeaf) mkLeaf)) (mkSeq (mkCnd (mkSeq mkLeaf mkLeaf) mkLeaf) mkLeaf)) mkLeaf) (kcast (by kernel_rfl) h)

/-! trystlaw11_wakes -/
def trystlaw11_wakes.main (R : Value → World → Prop)  (w : World) : Prop :=
  CallsV Tryd.prog n_term_New #[] w (fun v_1 w1 =>
  ∃ p_2 : Option Addr, v_1 = .pointer p_2 ∧
  cond ((p_2).isNone)
  (R (.bool false) w1)
  (CallsV Tryd.prog n_term_Arena_Make #[.pointer p_2, .int .i64 1, .int .i64 1, .slice none 0 0] w1 (fun v_3 w2 =>
  ∃ x_4 : Int, ∃ x_5 : Int, v_3 = .tuple #[.int .i64 x_4, .int .i64 x_5] ∧
  CallsV Tryd.prog n_term_Arena_Make #[.pointer p_2, .int .i64 1, .int .i64 2, .slice none 0 0] w2 (fun v_6 w3 =>
  ∃ x_7 : Int, ∃ x_8 : Int, v_6 = .tuple #[.int .i64 x_7, .int .i64 x_8] ∧
  let w4 := w3.alloc (.cells #[.int .i64 x_4, .int .i64 x_7] 3);
  CallsV Tryd.prog n_term_Arena_Make #[.pointer p_2, .int .i64 6, .int .i64 0, .slice (some (newA w3)) 2 2] w4 (fun v_9 w5 =>
  ∃ x_10 : Int, ∃ x_11 : Int, v_9 = .tuple #[.int .i64 x_10, .int .i64 x_11] ∧
  let w6 := w5.alloc (.cells #[.int .i64 x_10] 3);
  CallsV Tryd.prog n_know_Is #[.pointer p_2, .slice (some (newA w5)) 1 1, .int .i64 x_7] w6 (fun v_12 w7 =>
  ∃ b_13 : Bool, ∃ x_14 : Int, v_12 = .tuple #[.bool b_13, .int .i64 x_14] ∧
  let w8 := w7.alloc (.cells #[.int .i64 x_10, .int .i64 x_4] 3);
  CallsV Tryd.prog n_know_Is #[.pointer p_2, .slice (some (newA w7)) 2 2, .int .i64 x_7] w8 (fun v_15 w9 =>
  ∃ b_16 : Bool, ∃ x_17 : Int, v_15 = .tuple #[.bool b_16, .int .i64 x_17] ∧
  cond ((x_14 : Int) == 0)
  (cond ((x_17 : Int) == 0)
  (cond (!b_13)
  (R (.bool b_16) w9)
  (R (.bool false) w9))
  (R (.bool false) w9))
  (R (.bool false) w9))))))))

def trystlaw11_wakes.J0 (_ : Value → World → Prop) (_ : Nat) (_ : Fr) (_ : World) : Prop := False

set_option maxRecDepth 100000 in
theorem trystlaw11_wakes.lift {R : Value → World → Prop}  {w : World} (h : trystlaw11_wakes.main R  w) : CallsV Tryd.prog n_trystlaw11_wakes #[] w R :=
  liftCalls (c := (.seq (.leaf (cL (bd Tryd.f73))) (.seq (.leaf (cL (cR (bd Tryd.f73)))) (.seq (.seq (.leaf (cL (cL (cR (cR (bd Tryd.f73)))))) (.cnd (.tmp 14) (.seq (.leaf (cL (cT (cR (cL (cR (cR (bd Tryd.f73)))))))) (.leaf (cR (cT (cR (cL (cR (cR (bd Tryd.f73))))))))) (.leaf (cE (cR (cL (cR (cR (bd Tryd.f73))))))))) (.seq (.leaf (cL (cR (cR (cR (bd Tryd.f73)))))) (.seq (.leaf (cL (cR (cR (cR (cR (bd Tryd.f73))))))) (.seq (.leaf (cL (cR (cR (cR (cR (cR (bd Tryd.f73)))))))) (.seq (.leaf (cL (cR (cR (cR (cR (cR (cR (bd Tryd.f73))))))))) (.seq (.leaf (cL (cR (cR (cR (cR (cR (cR (cR (bd Tryd.f73)))))))))) (.seq (.leaf (cL (cR (cR (cR (cR (cR (cR (cR (cR (bd Tryd.f73))))))))))) (.leaf (cR (cR (cR (cR (cR (cR (cR (cR (cR (bd Tryd.f73))))))))))))))))))))) (J := trystlaw11_wakes.J0 R) LfYtoclhecldmahiaaDoor.mixed Tryd.func73 (by kernel_rfl) (by kernel_rfl) (mkSeq (mkSeq (mkSeq (mkSeq (mkSeq (mkSeq (mkSeq (mkSeq (mkSeq mkLeaf mkLeaf) mkLeaf) mkLeaf) mkLeaf) mkLeaf) mkLeaf) (mkSeq (mkCnd (mkSeq mkLeaf mkLeaf) mkLeaf) mkLeaf)) mkLeaf) mkLeaf) (kcast (by kernel_rfl) h)

/-! know_All -/
def know_All.main (R : Value → World → Prop) (a0 : Option Addr) (some1 : Sl) (w : World) : Prop :=
  CallsV Tryd.prog n_term_Arena_Has #[.pointer a0, .slice some1.a some1.len some1.cap] w (fun v_1 w1 =>
  ∃ b_2 : Bool, v_1 = .bool b_2 ∧
  cond (!b_2)
  (R (.tuple #[.slice none 0 0, .int .i64 8]) w1)
  (CallsV Tryd.prog n_know_newKnower #[.pointer a0] w1 (fun v_3 w2 =>
  ∃ p_4 : Option Addr, v_3 = .pointer p_4 ∧
  CallsV Tryd.prog n_know_knower_learn #[.pointer p_4, .slice some1.a some1.len some1.cap] w2 (fun v_5 w3 =>
  v_5 = .tuple #[] ∧
  CallsV Tryd.prog n_know_knower_follow #[.pointer p_4] w3 (fun v_6 w4 =>
  v_6 = .tuple #[] ∧
  ∃ q_7 : Addr, p_4 = some q_7 ∧
  ∃ (a_8 : Option Addr) (l_9 c_10 : Nat), w4.cell? (q_7.add 1) = some (.slice a_8 l_9 c_10) ∧
  R (.tuple #[.slice a_8 l_9 c_10, .int .i64 0]) w4)))))

def know_All.J0 (_ : Value → World → Prop) (_ : Nat) (_ : Fr) (_ : World) : Prop := False

set_option maxRecDepth 100000 in
theorem know_All.lift {R : Value → World → Prop} {a0 : Option Addr} {some1 : Sl} {w : World} (h : know_All.main R a0 some1 w) : CallsV Tryd.prog n_know_All #[.pointer a0, .slice some1.a some1.len some1.cap] w R :=
  liftCalls (c := (.seq (.leaf (cL (bd Tryd.f74))) (.seq (.seq (.leaf (cL (cL (cR (bd Tryd.f74))))) (.cnd (.tmp 10) (.seq (.leaf (cL (cT (cR (cL (cR (bd Tryd.f74))))))) (.leaf (cR (cT (cR (cL (cR (bd Tryd.f74)))))))) (.leaf (cE (cR (cL (cR (bd Tryd.f74)))))))) (.seq (.leaf (cL (cR (cR (bd Tryd.f74))))) (.seq (.leaf (cL (cR (cR (cR (bd Tryd.f74)))))) (.seq (.leaf (cL (cR (cR (cR (cR (bd Tryd.f74))))))) (.seq (.leaf (cL (cR (cR (cR (cR (cR (bd Tryd.f74)))))))) (.leaf (cR (cR (cR (cR (cR (cR (bd Tryd.f74))))))))))))))) (J := know_All.J0 R) LfYtoclhecldmahiaaDoor.mixed Tryd.func74 (by kernel_rfl) (by kernel_rfl) (mkSeq (mkSeq (mkSeq (mkSeq (mkSeq (mkSeq mkLeaf mkLeaf) mkLeaf) mkLeaf) mkLeaf) (mkSeq (mkCnd (mkSeq mkLeaf mkLeaf) mkLeaf) mkLeaf)) mkLeaf) (kcast (by kernel_rfl) h)

/-! know_knower_learn -/
def know_knower_learn.b1 (R : Value → World → Prop) (N1 : Option Addr → Sl → Int → Int → World → Prop) (k0 : Option Addr) (t6 : Sl) (t7 : Int) (t8 : Int) (w : World) : Prop :=
  cond (decide ((t8 : Int) < t7))
  (0 ≤ (t8 : Int) ∧ t8 < ((t6.len : Nat) : Int) ∧ ∃ q_1 : Addr, t6.a = some q_1 ∧
  ∃ x_2 : Int, w.cell? (q_1.add (t8 : Int).toNat) = some (.int .i64 x_2) ∧
  ∃ q_3 : Addr, k0 = some q_3 ∧
  ∃ (a_4 : Option Addr) (l_5 c_6 : Nat), w.cell? (q_3.add 1) = some (.slice a_4 l_5 c_6) ∧
  0 ≤ (x_2 : Int) ∧ x_2 < ((l_5 : Nat) : Int) ∧ ∃ q_7 : Addr, a_4 = some q_7 ∧
  ∃ b_8 : Bool, w.cell? (q_7.add (x_2 : Int).toNat) = some (.bool b_8) ∧
  cond (!b_8)
  (∃ q_9 : Addr, k0 = some q_9 ∧
  ∃ (a_10 : Option Addr) (l_11 c_12 : Nat), w.cell? (q_9.add 1) = some (.slice a_10 l_11 c_12) ∧
  0 ≤ (x_2 : Int) ∧ x_2 < ((l_11 : Nat) : Int) ∧ ∃ q_13 : Addr, a_10 = some q_13 ∧
  Wr w (q_13.add (x_2 : Int).toNat) ∧
  (let w1 := w.setCell (q_13.add (x_2 : Int).toNat) (.bool true);
  ∃ q_14 : Addr, k0 = some q_14 ∧
  ∃ (a_15 : Option Addr) (l_16 c_17 : Nat), w1.cell? (q_14.add 2) = some (.slice a_15 l_16 c_17) ∧
  let w2 := w1.alloc (.cells #[.int .i64 x_2] 3);
  ∃ (a_18 : Option Addr) (l_19 c_20 : Nat), ∃ w3 : World, (builtin .append #[29, 29] 29 #[] #[.slice a_15 l_16 c_17, .slice (some (newA w1)) 1 1]).run Tryd.prog w2 = .ok (.value (.slice a_18 l_19 c_20)) w3 ∧
  ∃ q_21 : Addr, k0 = some q_21 ∧
  Wr w3 (q_21.add 2) ∧
  (let w4 := w3.setCell (q_21.add 2) (.slice a_18 l_19 c_20);
  N1 k0 t6 t7 (IntKind.i64.wrap (t8 + 1)) w4)))
  (N1 k0 t6 t7 (IntKind.i64.wrap (t8 + 1)) w))
  (R (.tuple #[]) w)

def know_knower_learn.l1 (R : Value → World → Prop) (k0 : Option Addr) (t6 : Sl) (t7 : Int) (t8 : Int) (w : World) : Prop :=
  ∃ (I : Int → World → Prop) (μ : Int → World → Nat), I t8 w ∧ ∀ s w, I s w → know_knower_learn.b1 R (fun k0' t6' t7' t8' w' => (k0' = k0 ∧ t6' = t6 ∧ t7' = t7 ∧ I t8' w') ∧ μ t8' w' < μ s w) k0 t6 t7 s w

def know_knower_learn.main (R : Value → World → Prop) (k0 : Option Addr) (l1 : Sl) (w : World) : Prop :=
  know_knower_learn.l1 R k0 l1 ((l1.len : Nat) : Int) 0 w

def know_knower_learn.J0 (R : Value → World → Prop) (k : Nat) (fr : Fr) (w : World) : Prop :=
  cond (Nat.beq k 1) (dec [(0, .ptr), (6, .slice), (7, (.int .i64)), (8, (.int .i64))] fr fun x => know_knower_learn.l1 R x.1 x.2.1 x.2.2.1 x.2.2.2 w) (False)

set_option maxRecDepth 100000 in
theorem know_knower_learn.lift {R : Value → World → Prop} {k0 : Option Addr} {l1 : Sl} {w : World} (h : know_knower_learn.main R k0 l1 w) : CallsV Tryd.prog n_know_knower_learn #[.pointer k0, .slice l1.a l1.len l1.cap] w R :=
  liftCalls (c := (.seq (.leaf (cL (bd Tryd.f121))) (.block 0 (.loop 1 (.seq (.leaf (cL (cB (cB (cR (bd Tryd.f121)))))) (.seq (.cnd (.tmp 9) (.leaf (cT (cL (cR (cB (cB (cR (bd Tryd.f121)))))))) (.leaf (cE (cL (cR (cB (cB (cR (bd Tryd.f121))))))))) (.seq (.block 1 (.seq (.leaf (cL (cB (cL (cR (cR (cB (cB (cR (bd Tryd.f121)))))))))) (.seq (.leaf (cL (cR (cB (cL (cR (cR (cB (cB (cR (bd Tryd.f121))))))))))) (.cnd (.tmp 19) (.seq (.leaf (cL (cT (cR (cR (cB (cL (cR (cR (cB (cB (cR (bd Tryd.f121))))))))))))) (.leaf (cR (cT (cR (cR (cB (cL (cR (cR (cB (cB (cR (bd Tryd.f121)))))))))))))) (.leaf (cE (cR (cR (cB (cL (cR (cR (cB (cB (cR (bd Tryd.f121)))))))))))))))) (.leaf (cR (cR (cR (cB (cB (cR (bd Tryd.f121))))))))))))))) (J := know_knower_learn.J0 R) LfYtoclhecldmahiaaDoor.mixed Tryd.func121 (by kernel_rfl) (by kernel_rfl) (mkSeq (mkBlock (mkLoop (loopDef LfYtoclhecldmahiaaDoor.mixed [(0, .ptr), (6, .slice), (7, (.int .i64)), (8, (.int .i64))] (by kernel_rfl) (fun M1 x w => know_knower_learn.b1 R (fun y0 y1 y2 y3 w => M1 (y0, y1, y2, y3) w) x.1 x.2.1 x.2.2.1 x.2.2.2 w) (fun M1 => fun _ _ _ => False) (fun _ _ _ => by kernel_rfl) (fun M1 => (mkSeq (mkSeq (mkSeq mkLeaf (mkBlock (mkSeq (mkSeq (mkCnd (mkSeq mkLeaf mkLeaf) mkLeaf) mkLeaf) mkLeaf))) (mkCnd mkLeaf mkLeaf)) mkLeaf)) (fun x w => know_knower_learn.l1 R x.1 x.2.1 x.2.2.1 x.2.2.2 w) (by rintro ⟨c0, c1, c2, s0⟩ w ⟨I, μ, h0, h1⟩; refine ⟨fun y w => y.1 = c0 ∧ y.2.1 = c1 ∧ y.2.2.1 = c2 ∧ I y.2.2.2 w, fun y w => μ y.2.2.2 w, ⟨rfl, rfl, rfl, h0⟩, ?_⟩; rintro ⟨d0, d1, d2, t0⟩ w ⟨e0, e1, e2, hI⟩; dsimp only at e0 e1 e2 hI; subst e0; subst e1; subst e2; exact h1 _ _ hI) (fun _ _ => by kernel_rfl)))) mkLeaf) (kcast (by kernel_rfl) h)

/-! know_knower_follow -/
def know_knower_follow.c2 (R : Value → World → Prop) (N1 : Option Addr → World → Prop) (k0 : Option Addr) (i2 : Int) (t147 : Bool) (w : World) : Prop :=
  cond t147
  (CallsV Tryd.prog n_know_knower_opens #[.pointer k0, .int .i64 i2] w (fun v_1 w1 =>
  ∃ b_2 : Bool, v_1 = .bool b_2 ∧
  cond b_2
  (CallsV Tryd.prog n_know_knower_inside #[.pointer k0, .int .i64 i2] w1 (fun v_3 w2 =>
  ∃ (a_4 : Option Addr) (l_5 c_6 : Nat), v_3 = .slice a_4 l_5 c_6 ∧
  CallsV Tryd.prog n_know_knower_learn #[.pointer k0, .slice a_4 l_5 c_6] w2 (fun v_7 w3 =>
  v_7 = .tuple #[] ∧
  N1 k0 w3)))
  (N1 k0 w1)))
  (N1 k0 w)

def know_knower_follow.c3 (R : Value → World → Prop) (N1 : Option Addr → World → Prop) (k0 : Option Addr) (i2 : Int) (w : World) : Prop :=
  ∃ q_8 : Addr, k0 = some q_8 ∧
  ∃ p_9 : Option Addr, w.cell? q_8 = some (.pointer p_9) ∧
  CallsV Tryd.prog n_term_Arena_At #[.pointer p_9, .int .i64 i2] w (fun v_10 w4 =>
  ∃ x_11 : Int, ∃ x_12 : Int, ∃ (a_13 : Option Addr) (l_14 c_15 : Nat), v_10 = .agg #[.int .i64 x_11, .int .i64 x_12, .slice a_13 l_14 c_15] ∧
  let w5 := w4.alloc (.cells #[.int .i64 0, .int .i64 0, .slice none 0 0] 98);
  (∀ j, j < 3 → Wr w5 ((newA w4).add j)) ∧
  (let w6 := setCells (newA w4) [.int .i64 x_11, .int .i64 x_12, .slice a_13 l_14 c_15] 0 w5;
  ∃ x_16 : Int, w6.cell? (newA w4) = some (.int .i64 x_16) ∧
  cond ((x_16 : Int) == 9)
  (∃ (a_17 : Option Addr) (l_18 c_19 : Nat), w6.cell? ((newA w4).add 2) = some (.slice a_17 l_18 c_19) ∧
  CallsV Tryd.prog n_know_knower_learn #[.pointer k0, .slice a_17 l_18 c_19] w6 (fun v_20 w7 =>
  v_20 = .tuple #[] ∧
  N1 k0 w7))
  (cond ((x_16 : Int) == 8)
  (∃ (a_21 : Option Addr) (l_22 c_23 : Nat), w6.cell? ((newA w4).add 2) = some (.slice a_21 l_22 c_23) ∧
  0 ≤ (1 : Int) ∧ (1 : Int) ≤ ((l_22 : Nat) : Int) ∧ (((l_22 : Nat) : Int) : Int) ≤ ((c_23 : Nat) : Int) ∧ (((c_23 : Nat) : Int) : Int) ≤ ((c_23 : Nat) : Int) ∧
  CallsV Tryd.prog n_know_knower_learn #[.pointer k0, .slice (if ((((c_23 : Nat) : Int) : Int)).toNat = ((1 : Int)).toNat then a_21 else (a_21).map (·.add ((1 : Int)).toNat)) (((((l_22 : Nat) : Int) : Int)).toNat - ((1 : Int)).toNat) (((((c_23 : Nat) : Int) : Int)).toNat - ((1 : Int)).toNat)] w6 (fun v_24 w8 =>
  v_24 = .tuple #[] ∧
  N1 k0 w8))
  (cond ((x_16 : Int) == 6)
  (know_knower_follow.c2 R N1 k0 i2 ((x_16 : Int) == 6) w6)
  (know_knower_follow.c2 R N1 k0 i2 ((x_16 : Int) == 7) w6)))))

def know_knower_follow.b4 (R : Value → World → Prop) (N1 : Option Addr → World → Prop) (N4 : Option Addr → Int → Sl → Int → Int → World → Prop) (k0 : Option Addr) (i2 : Int) (t107 : Sl) (t108 : Int) (t109 : Int) (w : World) : Prop :=
  cond (decide ((t109 : Int) < t108))
  (0 ≤ (t109 : Int) ∧ t109 < ((t107.len : Nat) : Int) ∧ ∃ q_25 : Addr, t107.a = some q_25 ∧
  ∃ x_26 : Int, w.cell? (q_25.add (t109 : Int).toNat) = some (.int .i64 x_26) ∧
  ∃ q_27 : Addr, k0 = some q_27 ∧
  ∃ (a_28 : Option Addr) (l_29 c_30 : Nat), w.cell? (q_27.add 1) = some (.slice a_28 l_29 c_30) ∧
  0 ≤ (x_26 : Int) ∧ x_26 < ((l_29 : Nat) : Int) ∧ ∃ q_31 : Addr, a_28 = some q_31 ∧
  ∃ b_32 : Bool, w.cell? (q_31.add (x_26 : Int).toNat) = some (.bool b_32) ∧
  cond b_32
  (CallsV Tryd.prog n_know_knower_inside #[.pointer k0, .int .i64 x_26] w (fun v_33 w9 =>
  ∃ (a_34 : Option Addr) (l_35 c_36 : Nat), v_33 = .slice a_34 l_35 c_36 ∧
  CallsV Tryd.prog n_know_knower_learn #[.pointer k0, .slice a_34 l_35 c_36] w9 (fun v_37 w10 =>
  v_37 = .tuple #[] ∧
  N4 k0 i2 t107 t108 (IntKind.i64.wrap (t109 + 1)) w10)))
  (N4 k0 i2 t107 t108 (IntKind.i64.wrap (t109 + 1)) w))
  (know_knower_follow.c3 R N1 k0 i2 w)

def know_knower_follow.l4 (R : Value → World → Prop) (N1 : Option Addr → World → Prop) (k0 : Option Addr) (i2 : Int) (t107 : Sl) (t108 : Int) (t109 : Int) (w : World) : Prop :=
  ∃ (I : Int → World → Prop) (μ : Int → World → Nat), I t109 w ∧ ∀ s w, I s w → know_knower_follow.b4 R N1 (fun k0' i2' t107' t108' t109' w' => (k0' = k0 ∧ i2' = i2 ∧ t107' = t107 ∧ t108' = t108 ∧ I t109' w') ∧ μ t109' w' < μ s w) k0 i2 t107 t108 s w

def know_knower_follow.c5 (R : Value → World → Prop) (N1 : Option Addr → World → Prop) (k0 : Option Addr) (i2 : Int) (keyed5 : Sl) (w : World) : Prop :=
  know_knower_follow.l4 R N1 k0 i2 keyed5 ((keyed5.len : Nat) : Int) 0 w

def know_knower_follow.c6 (R : Value → World → Prop) (N1 : Option Addr → World → Prop) (k0 : Option Addr) (i2 : Int) (w : World) : Prop :=
  ∃ q_38 : Addr, k0 = some q_38 ∧
  ∃ (a_39 : Option Addr) (l_40 c_41 : Nat), w.cell? (q_38.add 7) = some (.slice a_39 l_40 c_41) ∧
  0 ≤ (i2 : Int) ∧ i2 < ((l_40 : Nat) : Int) ∧ ∃ q_42 : Addr, a_39 = some q_42 ∧
  ∃ (a_43 : Option Addr) (l_44 c_45 : Nat), w.cell? (q_42.add (i2 : Int).toNat) = some (.slice a_43 l_44 c_45) ∧
  ∃ q_46 : Addr, k0 = some q_46 ∧
  ∃ (a_47 : Option Addr) (l_48 c_49 : Nat), w.cell? (q_46.add 5) = some (.slice a_47 l_48 c_49) ∧
  0 ≤ (i2 : Int) ∧ i2 < ((l_48 : Nat) : Int) ∧ ∃ q_50 : Addr, a_47 = some q_50 ∧
  ∃ x_51 : Int, w.cell? (q_50.add (i2 : Int).toNat) = some (.int .i64 x_51) ∧
  cond (decide ((x_51 : Int) ≥ 0))
  (∃ S_52 : World → Prop, S_52 w.drew ∧
  ∃ q_53 : Addr, k0 = some q_53 ∧
  ∃ (a_54 : Option Addr) (l_55 c_56 : Nat), (∀ x, S_52 x → x.cell? (q_53.add 6) = some (.slice a_54 l_55 c_56)) ∧
  ∃ q_57 : Addr, k0 = some q_57 ∧
  ∃ (a_58 : Option Addr) (l_59 c_60 : Nat), (∀ x, S_52 x → x.cell? (q_57.add 5) = some (.slice a_58 l_59 c_60)) ∧
  0 ≤ (i2 : Int) ∧ i2 < ((l_59 : Nat) : Int) ∧ ∃ q_61 : Addr, a_58 = some q_61 ∧
  ∃ x_62 : Int, (∀ x, S_52 x → x.cell? (q_61.add (i2 : Int).toNat) = some (.int .i64 x_62)) ∧
  0 ≤ (x_62 : Int) ∧ x_62 < ((l_55 : Nat) : Int) ∧ ∃ q_63 : Addr, a_54 = some q_63 ∧
  ∃ (a_64 : Option Addr) (l_65 c_66 : Nat), (∀ x, S_52 x → x.cell? (q_63.add (x_62 : Int).toNat) = some (.slice a_64 l_65 c_66)) ∧
  let w11 := w.drew.alloc (.cells #[] 3);
  S_52 w11 ∧
  ∃ (a_67 : Option Addr) (l_68 c_69 : Nat), ∃ w12 : World, (builtin .append #[29, 29] 29 #[] #[.slice (some (newA w.drew)) 0 0, .slice a_43 l_44 c_45]).run Tryd.prog w11 = .ok (.value (.slice a_67 l_68 c_69)) w12 ∧
  S_52 w12 ∧
  ∃ (a_70 : Option Addr) (l_71 c_72 : Nat), ∃ w13 : World, (builtin .append #[29, 29] 29 #[] #[.slice a_67 l_68 c_69, .slice a_64 l_65 c_66]).run Tryd.prog w12 = .ok (.value (.slice a_70 l_71 c_72)) w13 ∧
  know_knower_follow.c5 R N1 k0 i2 ⟨a_70, l_71, c_72⟩ w13)
  (know_knower_follow.c5 R N1 k0 i2 ⟨a_43, l_44, c_45⟩ w)

def know_knower_follow.b7 (R : Value → World → Prop) (N1 : Option Addr → World → Prop) (N7 : Option Addr → Int → Sl → Int → Int → World → Prop) (k0 : Option Addr) (i2 : Int) (t47 : Sl) (t48 : Int) (t49 : Int) (w : World) : Prop :=
  cond (decide ((t49 : Int) < t48))
  (0 ≤ (t49 : Int) ∧ t49 < ((t47.len : Nat) : Int) ∧ ∃ q_73 : Addr, t47.a = some q_73 ∧
  ∃ x_74 : Int, w.cell? (q_73.add (t49 : Int).toNat) = some (.int .i64 x_74) ∧
  ∃ q_75 : Addr, k0 = some q_75 ∧
  ∃ (a_76 : Option Addr) (l_77 c_78 : Nat), w.cell? (q_75.add 3) = some (.slice a_76 l_77 c_78) ∧
  0 ≤ (x_74 : Int) ∧ x_74 < ((l_77 : Nat) : Int) ∧ ∃ q_79 : Addr, a_76 = some q_79 ∧
  ∃ x_80 : Int, w.cell? (q_79.add (x_74 : Int).toNat) = some (.int .i64 x_80) ∧
  0 ≤ (x_74 : Int) ∧ x_74 < ((l_77 : Nat) : Int) ∧ ∃ q_81 : Addr, a_76 = some q_81 ∧
  Wr w (q_81.add (x_74 : Int).toNat) ∧
  (let w14 := w.setCell (q_81.add (x_74 : Int).toNat) (.int .i64 (IntKind.i64.wrap (x_80 - 1)));
  ∃ q_82 : Addr, k0 = some q_82 ∧
  ∃ (a_83 : Option Addr) (l_84 c_85 : Nat), w14.cell? (q_82.add 3) = some (.slice a_83 l_84 c_85) ∧
  0 ≤ (x_74 : Int) ∧ x_74 < ((l_84 : Nat) : Int) ∧ ∃ q_86 : Addr, a_83 = some q_86 ∧
  ∃ x_87 : Int, w14.cell? (q_86.add (x_74 : Int).toNat) = some (.int .i64 x_87) ∧
  cond ((x_87 : Int) == 0)
  (let w15 := w14.alloc (.cells #[.int .i64 x_74] 3);
  CallsV Tryd.prog n_know_knower_learn #[.pointer k0, .slice (some (newA w14)) 1 1] w15 (fun v_88 w16 =>
  v_88 = .tuple #[] ∧
  N7 k0 i2 t47 t48 (IntKind.i64.wrap (t49 + 1)) w16))
  (N7 k0 i2 t47 t48 (IntKind.i64.wrap (t49 + 1)) w14)))
  (know_knower_follow.c6 R N1 k0 i2 w)

def know_knower_follow.l7 (R : Value → World → Prop) (N1 : Option Addr → World → Prop) (k0 : Option Addr) (i2 : Int) (t47 : Sl) (t48 : Int) (t49 : Int) (w : World) : Prop :=
  ∃ (I : Int → World → Prop) (μ : Int → World → Nat), I t49 w ∧ ∀ s w, I s w → know_knower_follow.b7 R N1 (fun k0' i2' t47' t48' t49' w' => (k0' = k0 ∧ i2' = i2 ∧ t47' = t47 ∧ t48' = t48 ∧ I t49' w') ∧ μ t49' w' < μ s w) k0 i2 t47 t48 s w

def know_knower_follow.b1 (R : Value → World → Prop) (N1 : Option Addr → World → Prop) (k0 : Option Addr) (w : World) : Prop :=
  ∃ q_89 : Addr, k0 = some q_89 ∧
  ∃ (a_90 : Option Addr) (l_91 c_92 : Nat), w.cell? (q_89.add 2) = some (.slice a_90 l_91 c_92) ∧
  cond (decide ((((l_91 : Nat) : Int) : Int) > 0))
  (∃ q_93 : Addr, k0 = some q_93 ∧
  ∃ (a_94 : Option Addr) (l_95 c_96 : Nat), w.cell? (q_93.add 2) = some (.slice a_94 l_95 c_96) ∧
  ∃ q_97 : Addr, k0 = some q_97 ∧
  ∃ (a_98 : Option Addr) (l_99 c_100 : Nat), w.cell? (q_97.add 2) = some (.slice a_98 l_99 c_100) ∧
  0 ≤ ((IntKind.i64.wrap (((l_99 : Nat) : Int) - 1)) : Int) ∧ (IntKind.i64.wrap (((l_99 : Nat) : Int) - 1)) < ((l_95 : Nat) : Int) ∧ ∃ q_101 : Addr, a_94 = some q_101 ∧
  ∃ x_102 : Int, w.cell? (q_101.add (ixOff ((IntKind.i64.wrap (((l_99 : Nat) : Int) - 1)) : Int).toNat 1)) = some (.int .i64 x_102) ∧
  ∃ S_103 : World → Prop, S_103 w.drew.drew ∧
  ∃ q_104 : Addr, k0 = some q_104 ∧
  ∃ (a_105 : Option Addr) (l_106 c_107 : Nat), (∀ x, S_103 x → x.cell? (q_104.add 2) = some (.slice a_105 l_106 c_107)) ∧
  ∃ q_108 : Addr, k0 = some q_108 ∧
  ∃ (a_109 : Option Addr) (l_110 c_111 : Nat), (∀ x, S_103 x → x.cell? (q_108.add 2) = some (.slice a_109 l_110 c_111)) ∧
  0 ≤ ((0 : Int) : Int) ∧ ((0 : Int) : Int) ≤ (IntKind.i64.wrap (((l_110 : Nat) : Int) - 1)) ∧ ((IntKind.i64.wrap (((l_110 : Nat) : Int) - 1)) : Int) ≤ ((c_107 : Nat) : Int) ∧ (((c_107 : Nat) : Int) : Int) ≤ ((c_107 : Nat) : Int) ∧
  ∃ q_112 : Addr, k0 = some q_112 ∧
  Wr w.drew.drew (q_112.add 2) ∧
  (let w17 := w.drew.drew.setCell (q_112.add 2) (.slice (if ((((c_107 : Nat) : Int) : Int)).toNat = (((0 : Int) : Int)).toNat then a_105 else (a_105).map (·.add (((0 : Int) : Int)).toNat)) ((((IntKind.i64.wrap (((l_110 : Nat) : Int) - 1)) : Int)).toNat - (((0 : Int) : Int)).toNat) (((((c_107 : Nat) : Int) : Int)).toNat - (((0 : Int) : Int)).toNat));
  ∃ q_113 : Addr, k0 = some q_113 ∧
  ∃ (a_114 : Option Addr) (l_115 c_116 : Nat), w17.cell? (q_113.add 4) = some (.slice a_114 l_115 c_116) ∧
  0 ≤ (x_102 : Int) ∧ x_102 < ((l_115 : Nat) : Int) ∧ ∃ q_117 : Addr, a_114 = some q_117 ∧
  ∃ (a_118 : Option Addr) (l_119 c_120 : Nat), w17.cell? (q_117.add (x_102 : Int).toNat) = some (.slice a_118 l_119 c_120) ∧
  know_knower_follow.l7 R N1 k0 x_102 ⟨a_118, l_119, c_120⟩ ((l_119 : Nat) : Int) 0 w17))
  (R (.tuple #[]) w)

def know_knower_follow.l1 (R : Value → World → Prop) (k0 : Option Addr) (w : World) : Prop :=
  ∃ (I : (Option Addr) → World → Prop) (μ : (Option Addr) → World → Nat), I k0 w ∧ ∀ s w, I s w → know_knower_follow.b1 R (fun k0' w' => (I k0' w') ∧ μ k0' w' < μ s w) s w

def know_knower_follow.main (R : Value → World → Prop) (k0 : Option Addr) (w : World) : Prop :=
  know_knower_follow.l1 R k0 w

def know_knower_follow.J1 (R : Value → World → Prop) (N1 : Option Addr → World → Prop) (k : Nat) (fr : Fr) (w : World) : Prop :=
  cond (Nat.beq k 7) (dec [(0, .ptr), (2, (.int .i64)), (47, .slice), (48, (.int .i64)), (49, (.int .i64))] fr fun x => know_knower_follow.l7 R N1 x.1 x.2.1 x.2.2.1 x.2.2.2.1 x.2.2.2.2 w) (cond (Nat.beq k 6) (dec [(0, .ptr), (2, (.int .i64))] fr fun x => know_knower_follow.c6 R N1 x.1 x.2 w) (cond (Nat.beq k 5) (dec [(0, .ptr), (2, (.int .i64)), (5, .slice)] fr fun x => know_knower_follow.c5 R N1 x.1 x.2.1 x.2.2 w) (cond (Nat.beq k 4) (dec [(0, .ptr), (2, (.int .i64)), (107, .slice), (108, (.int .i64)), (109, (.int .i64))] fr fun x => know_knower_follow.l4 R N1 x.1 x.2.1 x.2.2.1 x.2.2.2.1 x.2.2.2.2 w) (cond (Nat.beq k 3) (dec [(0, .ptr), (2, (.int .i64))] fr fun x => know_knower_follow.c3 R N1 x.1 x.2 w) (cond (Nat.beq k 2) (dec [(0, .ptr), (2, (.int .i64)), (147, .bool)] fr fun x => know_knower_follow.c2 R N1 x.1 x.2.1 x.2.2 w) (False))))))

def know_knower_follow.J0 (R : Value → World → Prop) (k : Nat) (fr : Fr) (w : World) : Prop :=
  cond (Nat.beq k 1) (dec [(0, .ptr)] fr fun x => know_knower_follow.l1 R x w) (False)

set_option maxRecDepth 100000 in
theorem know_knower_follow.lift {R : Value → World → Prop} {k0 : Option Addr} {w : World} (h : know_knower_follow.main R k0 w) : CallsV Tryd.prog n_know_knower_follow #[.pointer k0] w R :=
  liftCalls (c := (.block 0 (.loop 1 (.seq (.seq (.leaf (cL (cL (cB (cB (bd Tryd.f122)))))) (.cnd (.tmp 14) (.leaf (cT (cR (cL (cB (cB (bd Tryd.f122))))))) (.leaf (cE (cR (cL (cB (cB (bd Tryd.f122))))))))) (.block 1 (.seq (.leaf (cL (cB (cR (cB (cB (bd Tryd.f122))))))) (.seq (.leaf (cL (cR (cB (cR (cB (cB (bd Tryd.f122)))))))) (.seq (.seq (.leaf (cL (cL (cR (cR (cB (cR (cB (cB (bd Tryd.f122)))))))))) (.block 2 (.loop 7 (.seq (.leaf (cL (cB (cB (cR (cL (cR (cR (cB (cR (cB (cB (bd Tryd.f122))))))))))))) (.seq (.cnd (.tmp 50) (.leaf (cT (cL (cR (cB (cB (cR (cL (cR (cR (cB (cR (cB (cB (bd Tryd.f122))))))))))))))) (.leaf (cE (cL (cR (cB (cB (cR (cL (cR (cR (cB (cR (cB (cB (bd Tryd.f122)))))))))))))))) (.seq (.block 3 (.seq (.leaf (cL (cB (cL (cR (cR (cB (cB (cR (cL (cR (cR (cB (cR (cB (cB (bd Tryd.f122))))))))))))))))) (.seq (.leaf (cL (cR (cB (cL (cR (cR (cB (cB (cR (cL (cR (cR (cB (cR (cB (cB (bd Tryd.f122)))))))))))))))))) (.seq (.leaf (cL (cR (cR (cB (cL (cR (cR (cB (cB (cR (cL (cR (cR (cB (cR (cB (cB (bd Tryd.f122))))))))))))))))))) (.cnd (.tmp 69) (.leaf (cT (cR (cR (cR (cB (cL (cR (cR (cB (cB (cR (cL (cR (cR (cB (cR (cB (cB (bd Tryd.f122)))))))))))))))))))) (.leaf (cE (cR (cR (cR (cB (cL (cR (cR (cB (cB (cR (cL (cR (cR (cB (cR (cB (cB (bd Tryd.f122))))))))))))))))))))))))) (.leaf (cR (cR (cR (cB (cB (cR (cL (cR (cR (cB (cR (cB (cB (bd Tryd.f122))))))))))))))))))))) (.cut 6 (.seq (.leaf (cL (cR (cR (cR (cB (cR (cB (cB (bd Tryd.f122)))))))))) (.seq (.seq (.leaf (cL (cL (cR (cR (cR (cR (cB (cR (cB (cB (bd Tryd.f122)))))))))))) (.cnd (.tmp 89) (.leaf (cT (cR (cL (cR (cR (cR (cR (cB (cR (cB (cB (bd Tryd.f122))))))))))))) (.leaf (cE (cR (cL (cR (cR (cR (cR (cB (cR (cB (cB (bd Tryd.f122))))))))))))))) (.cut 5 (.seq (.seq (.leaf (cL (cL (cR (cR (cR (cR (cR (cB (cR (cB (cB (bd Tryd.f122))))))))))))) (.block 4 (.loop 4 (.seq (.leaf (cL (cB (cB (cR (cL (cR (cR (cR (cR (cR (cB (cR (cB (cB (bd Tryd.f122)))))))))))))))) (.seq (.cnd (.tmp 110) (.leaf (cT (cL (cR (cB (cB (cR (cL (cR (cR (cR (cR (cR (cB (cR (cB (cB (bd Tryd.f122)))))))))))))))))) (.leaf (cE (cL (cR (cB (cB (cR (cL (cR (cR (cR (cR (cR (cB (cR (cB (cB (bd Tryd.f122))))))))))))))))))) (.seq (.block 5 (.seq (.leaf (cL (cB (cL (cR (cR (cB (cB (cR (cL (cR (cR (cR (cR (cR (cB (cR (cB (cB (bd Tryd.f122)))))))))))))))))))) (.seq (.leaf (cL (cR (cB (cL (cR (cR (cB (cB (cR (cL (cR (cR (cR (cR (cR (cB (cR (cB (cB (bd Tryd.f122))))))))))))))))))))) (.cnd (.tmp 119) (.leaf (cT (cR (cR (cB (cL (cR (cR (cB (cB (cR (cL (cR (cR (cR (cR (cR (cB (cR (cB (cB (bd Tryd.f122)))))))))))))))))))))) (.leaf (cE (cR (cR (cB (cL (cR (cR (cB (cB (cR (cL (cR (cR (cR (cR (cR (cB (cR (cB (cB (bd Tryd.f122)))))))))))))))))))))))))) (.leaf (cR (cR (cR (cB (cB (cR (cL (cR (cR (cR (cR (cR (cB (cR (cB (cB (bd Tryd.f122)))))))))))))))))))))))) (.cut 3 (.seq (.leaf (cL (cR (cR (cR (cR (cR (cR (cB (cR (cB (cB (bd Tryd.f122))))))))))))) (.seq (.leaf (cL (cR (cR (cR (cR (cR (cR (cR (cB (cR (cB (cB (bd Tryd.f122)))))))))))))) (.block 6 (.seq (.leaf (cL (cB (cR (cR (cR (cR (cR (cR (cR (cR (cB (cR (cB (cB (bd Tryd.f122)))))))))))))))) (.cnd (.tmp 134) (.leaf (cT (cR (cB (cR (cR (cR (cR (cR (cR (cR (cR (cB (cR (cB (cB (bd Tryd.f122))))))))))))))))) (.seq (.leaf (cL (cE (cR (cB (cR (cR (cR (cR (cR (cR (cR (cR (cB (cR (cB (cB (bd Tryd.f122)))))))))))))))))) (.cnd (.tmp 140) (.leaf (cT (cR (cE (cR (cB (cR (cR (cR (cR (cR (cR (cR (cR (cB (cR (cB (cB (bd Tryd.f122))))))))))))))))))) (.seq (.seq (.leaf (cL (cL (cE (cR (cE (cR (cB (cR (cR (cR (cR (cR (cR (cR (cR (cB (cR (cB (cB (bd Tryd.f122))))))))))))))))))))) (.cnd (.tmp 147) (.leaf (cT (cR (cL (cE (cR (cE (cR (cB (cR (cR (cR (cR (cR (cR (cR (cR (cB (cR (cB (cB (bd Tryd.f122)))))))))))))))))))))) (.leaf (cE (cR (cL (cE (cR (cE (cR (cB (cR (cR (cR (cR (cR (cR (cR (cR (cB (cR (cB (cB (bd Tryd.f122)))))))))))))))))))))))) (.cut 2 (.cnd (.tmp 147) (.seq (.leaf (cL (cT (cR (cE (cR (cE (cR (cB (cR (cR (cR (cR (cR (cR (cR (cR (cB (cR (cB (cB (bd Tryd.f122)))))))))))))))))))))) (.cnd (.tmp 152) (.leaf (cT (cR (cT (cR (cE (cR (cE (cR (cB (cR (cR (cR (cR (cR (cR (cR (cR (cB (cR (cB (cB (bd Tryd.f122))))))))))))))))))))))) (.leaf (cE (cR (cT (cR (cE (cR (cE (cR (cB (cR (cR (cR (cR (cR (cR (cR (cR (cB (cR (cB (cB (bd Tryd.f122))))))))))))))))))))))))) (.leaf (cE (cR (cE (cR (cE (cR (cB (cR (cR (cR (cR (cR (cR (cR (cR (cB (cR (cB (cB (bd Tryd.f122))))))))))))))))))))))))))))))))))))))))))))) (J := know_knower_follow.J0 R) LfYtoclhecldmahiaaDoor.mixed Tryd.func122 (by kernel_rfl) (by kernel_rfl) (mkBlock (mkLoop (loopDef LfYtoclhecldmahiaaDoor.mixed [(0, .ptr)] (by kernel_rfl) (fun M1 x w => know_knower_follow.b1 R (fun y0 w => M1 (y0) w) x w) (fun M1 => know_knower_follow.J1 R (fun y0 w => M1 (y0) w)) (fun _ _ _ => by kernel_rfl) (fun M1 => (mkSeq (mkBlock (mkSeq (mkSeq (mkSeq (mkCut (cutDef [(0, .ptr), (2, (.int .i64))] (fun x w => know_knower_follow.c6 R (fun y0 w => M1 (y0) w) x.1 x.2 w) (fun _ _ => by kernel_rfl) (fun _ _ => by kernel_rfl)) (mkSeq (mkSeq (mkCut (cutDef [(0, .ptr), (2, (.int .i64)), (5, .slice)] (fun x w => know_knower_follow.c5 R (fun y0 w => M1 (y0) w) x.1 x.2.1 x.2.2 w) (fun _ _ => by kernel_rfl) (fun _ _ => by kernel_rfl)) (mkSeq (mkCut (cutDef [(0, .ptr), (2, (.int .i64))] (fun x w => know_knower_follow.c3 R (fun y0 w => M1 (y0) w) x.1 x.2 w) (fun _ _ => by kernel_rfl) (fun _ _ => by kernel_rfl)) (mkSeq (mkSeq (mkBlock (mkSeq (mkCnd mkLeaf (mkSeq (mkCnd mkLeaf (mkSeq (mkCut (cutDef [(0, .ptr), (2, (.int .i64)), (147, .bool)] (fun x w => know_knower_follow.c2 R (fun y0 w => M1 (y0) w) x.1 x.2.1 x.2.2 w) (fun _ _ => by kernel_rfl) (fun _ _ => by kernel_rfl)) (mkCnd (mkSeq (mkCnd mkLeaf mkLeaf) mkLeaf) mkLeaf)) (mkSeq (mkCnd mkLeaf mkLeaf) mkLeaf))) mkLeaf)) mkLeaf)) mkLeaf) mkLeaf)) (mkSeq (mkBlock (mkLoop (loopDef LfYtoclhecldmahiaaDoor.mixed [(0, .ptr), (2, (.int .i64)), (107, .slice), (108, (.int .i64)), (109, (.int .i64))] (by kernel_rfl) (fun M4 x w => know_knower_follow.b4 R (fun y0 w => M1 (y0) w) (fun y0 y1 y2 y3 y4 w => M4 (y0, y1, y2, y3, y4) w) x.1 x.2.1 x.2.2.1 x.2.2.2.1 x.2.2.2.2 w) (fun M4 => fun _ _ _ => False) (fun _ _ _ => by kernel_rfl) (fun M4 => (mkSeq (mkSeq (mkSeq mkLeaf (mkBlock (mkSeq (mkSeq (mkCnd mkLeaf mkLeaf) mkLeaf) mkLeaf))) (mkCnd mkLeaf mkLeaf)) mkLeaf)) (fun x w => know_knower_follow.l4 R (fun y0 w => M1 (y0) w) x.1 x.2.1 x.2.2.1 x.2.2.2.1 x.2.2.2.2 w) (by rintro ⟨c0, c1, c2, c3, s0⟩ w ⟨I, μ, h0, h1⟩; refine ⟨fun y w => y.1 = c0 ∧ y.2.1 = c1 ∧ y.2.2.1 = c2 ∧ y.2.2.2.1 = c3 ∧ I y.2.2.2.2 w, fun y w => μ y.2.2.2.2 w, ⟨rfl, rfl, rfl, rfl, h0⟩, ?_⟩; rintro ⟨d0, d1, d2, d3, t0⟩ w ⟨e0, e1, e2, e3, hI⟩; dsimp only at e0 e1 e2 e3 hI; subst e0; subst e1; subst e2; subst e3; exact h1 _ _ hI) (fun _ _ => by kernel_rfl)))) mkLeaf))) (mkSeq (mkCnd mkLeaf mkLeaf) mkLeaf)) mkLeaf)) (mkSeq (mkBlock (mkLoop (loopDef LfYtoclhecldmahiaaDoor.mixed [(0, .ptr), (2, (.int .i64)), (47, .slice), (48, (.int .i64)), (49, (.int .i64))] (by kernel_rfl) (fun M7 x w => know_knower_follow.b7 R (fun y0 w => M1 (y0) w) (fun y0 y1 y2 y3 y4 w => M7 (y0, y1, y2, y3, y4) w) x.1 x.2.1 x.2.2.1 x.2.2.2.1 x.2.2.2.2 w) (fun M7 => fun _ _ _ => False) (fun _ _ _ => by kernel_rfl) (fun M7 => (mkSeq (mkSeq (mkSeq mkLeaf (mkBlock (mkSeq (mkSeq (mkSeq (mkCnd mkLeaf mkLeaf) mkLeaf) mkLeaf) mkLeaf))) (mkCnd mkLeaf mkLeaf)) mkLeaf)) (fun x w => know_knower_follow.l7 R (fun y0 w => M1 (y0) w) x.1 x.2.1 x.2.2.1 x.2.2.2.1 x.2.2.2.2 w) (by rintro ⟨c0, c1, c2, c3, s0⟩ w ⟨I, μ, h0, h1⟩; refine ⟨fun y w => y.1 = c0 ∧ y.2.1 = c1 ∧ y.2.2.1 = c2 ∧ y.2.2.2.1 = c3 ∧ I y.2.2.2.2 w, fun y w => μ y.2.2.2.2 w, ⟨rfl, rfl, rfl, rfl, h0⟩, ?_⟩; rintro ⟨d0, d1, d2, d3, t0⟩ w ⟨e0, e1, e2, e3, hI⟩; dsimp only at e0 e1 e2 e3 hI; subst e0; subst e1; subst e2; subst e3; exact h1 _ _ hI) (fun _ _ => by kernel_rfl)))) mkLeaf)) mkLeaf) mkLeaf)) (mkSeq (mkCnd mkLeaf mkLeaf) mkLeaf))) (fun x w => know_knower_follow.l1 R x w) (by rintro s0 w ⟨I, μ, h0, h1⟩; refine ⟨fun y w => I y w, fun y w => μ y w, h0, ?_⟩; rintro t0 w hI; exact h1 _ _ hI) (fun _ _ => by kernel_rfl)))) (kcast (by kernel_rfl) h)

/-! know_knower_inside -/
def know_knower_inside.main (R : Value → World → Prop) (k0 : Option Addr) (i1 : Int) (w : World) : Prop :=
  ∃ q_1 : Addr, k0 = some q_1 ∧
  ∃ p_2 : Option Addr, w.cell? q_1 = some (.pointer p_2) ∧
  CallsV Tryd.prog n_term_Arena_At #[.pointer p_2, .int .i64 i1] w (fun v_3 w1 =>
  ∃ x_4 : Int, ∃ x_5 : Int, ∃ (a_6 : Option Addr) (l_7 c_8 : Nat), v_3 = .agg #[.int .i64 x_4, .int .i64 x_5, .slice a_6 l_7 c_8] ∧
  let w2 := w1.alloc (.cells #[.int .i64 0, .int .i64 0, .slice none 0 0] 98);
  (∀ j, j < 3 → Wr w2 ((newA w1).add j)) ∧
  (let w3 := setCells (newA w1) [.int .i64 x_4, .int .i64 x_5, .slice a_6 l_7 c_8] 0 w2;
  ∃ x_9 : Int, w3.cell? (newA w1) = some (.int .i64 x_9) ∧
  cond ((x_9 : Int) == 7)
  (∃ (a_10 : Option Addr) (l_11 c_12 : Nat), w3.cell? ((newA w1).add 2) = some (.slice a_10 l_11 c_12) ∧
  0 ≤ (2 : Int) ∧ (2 : Int) ≤ ((l_11 : Nat) : Int) ∧ (((l_11 : Nat) : Int) : Int) ≤ ((c_12 : Nat) : Int) ∧ (((c_12 : Nat) : Int) : Int) ≤ ((c_12 : Nat) : Int) ∧
  R (.slice (if ((((c_12 : Nat) : Int) : Int)).toNat = ((2 : Int)).toNat then a_10 else (a_10).map (·.add ((2 : Int)).toNat)) (((((l_11 : Nat) : Int) : Int)).toNat - ((2 : Int)).toNat) (((((c_12 : Nat) : Int) : Int)).toNat - ((2 : Int)).toNat)) w3)
  (∃ (a_13 : Option Addr) (l_14 c_15 : Nat), w3.cell? ((newA w1).add 2) = some (.slice a_13 l_14 c_15) ∧
  0 ≤ (1 : Int) ∧ (1 : Int) ≤ ((l_14 : Nat) : Int) ∧ (((l_14 : Nat) : Int) : Int) ≤ ((c_15 : Nat) : Int) ∧ (((c_15 : Nat) : Int) : Int) ≤ ((c_15 : Nat) : Int) ∧
  R (.slice (if ((((c_15 : Nat) : Int) : Int)).toNat = ((1 : Int)).toNat then a_13 else (a_13).map (·.add ((1 : Int)).toNat)) (((((l_14 : Nat) : Int) : Int)).toNat - ((1 : Int)).toNat) (((((c_15 : Nat) : Int) : Int)).toNat - ((1 : Int)).toNat)) w3)))

def know_knower_inside.J0 (_ : Value → World → Prop) (_ : Nat) (_ : Fr) (_ : World) : Prop := False

set_option maxRecDepth 100000 in
theorem know_knower_inside.lift {R : Value → World → Prop} {k0 : Option Addr} {i1 : Int} {w : World} (h : know_knower_inside.main R k0 i1 w) : CallsV Tryd.prog n_know_knower_inside #[.pointer k0, .int .i64 i1] w R :=
  liftCalls (c := (.seq (.leaf (cL (bd Tryd.f144))) (.seq (.leaf (cL (cR (bd Tryd.f144)))) (.seq (.seq (.leaf (cL (cL (cR (cR (bd Tryd.f144)))))) (.cnd (.tmp 14) (.seq (.leaf (cL (cT (cR (cL (cR (cR (bd Tryd.f144)))))))) (.leaf (cR (cT (cR (cL (cR (cR (bd Tryd.f144))))))))) (.leaf (cE (cR (cL (cR (cR (bd Tryd.f144))))))))) (.seq (.leaf (cL (cR (cR (cR (bd Tryd.f144)))))) (.leaf (cR (cR (cR (cR (bd Tryd.f144))))))))))) (J := know_knower_inside.J0 R) LfYtoclhecldmahiaaDoor.mixed Tryd.func144 (by kernel_rfl) (by kernel_rfl) (mkSeq (mkSeq (mkSeq (mkSeq mkLeaf mkLeaf) (mkSeq (mkCnd (mkSeq mkLeaf mkLeaf) mkLeaf) mkLeaf)) mkLeaf) mkLeaf) (kcast (by kernel_rfl) h)

/-! know_knower_opens -/
def know_knower_opens.main (R : Value → World → Prop) (k0 : Option Addr) (i1 : Int) (w : World) : Prop :=
  ∃ q_1 : Addr, k0 = some q_1 ∧
  ∃ p_2 : Option Addr, w.cell? q_1 = some (.pointer p_2) ∧
  CallsV Tryd.prog n_term_Arena_At #[.pointer p_2, .int .i64 i1] w (fun v_3 w1 =>
  ∃ x_4 : Int, ∃ x_5 : Int, ∃ (a_6 : Option Addr) (l_7 c_8 : Nat), v_3 = .agg #[.int .i64 x_4, .int .i64 x_5, .slice a_6 l_7 c_8] ∧
  let w2 := w1.alloc (.cells #[.int .i64 0, .int .i64 0, .slice none 0 0] 98);
  (∀ j, j < 3 → Wr w2 ((newA w1).add j)) ∧
  (let w3 := setCells (newA w1) [.int .i64 x_4, .int .i64 x_5, .slice a_6 l_7 c_8] 0 w2;
  ∃ x_9 : Int, w3.cell? (newA w1) = some (.int .i64 x_9) ∧
  cond ((x_9 : Int) == 6)
  (∃ q_10 : Addr, k0 = some q_10 ∧
  ∃ (a_11 : Option Addr) (l_12 c_13 : Nat), w3.cell? (q_10.add 1) = some (.slice a_11 l_12 c_13) ∧
  ∃ (a_14 : Option Addr) (l_15 c_16 : Nat), w3.cell? ((newA w1).add 2) = some (.slice a_14 l_15 c_16) ∧
  0 ≤ (0 : Int) ∧ 0 < ((l_15 : Nat) : Int) ∧ ∃ q_17 : Addr, a_14 = some q_17 ∧
  ∃ x_18 : Int, w3.cell? (q_17.add (0 : Int).toNat) = some (.int .i64 x_18) ∧
  0 ≤ (x_18 : Int) ∧ x_18 < ((l_12 : Nat) : Int) ∧ ∃ q_19 : Addr, a_11 = some q_19 ∧
  ∃ b_20 : Bool, w3.cell? (q_19.add (x_18 : Int).toNat) = some (.bool b_20) ∧
  R (.bool b_20) w3.drew)
  (∃ S_21 : World → Prop, S_21 w3.drew ∧
  ∃ q_22 : Addr, k0 = some q_22 ∧
  ∃ p_23 : Option Addr, (∀ x, S_21 x → x.cell? q_22 = some (.pointer p_23)) ∧
  ∃ (a_24 : Option Addr) (l_25 c_26 : Nat), (∀ x, S_21 x → x.cell? ((newA w1).add 2) = some (.slice a_24 l_25 c_26)) ∧
  0 ≤ (0 : Int) ∧ 0 < ((l_25 : Nat) : Int) ∧ ∃ q_27 : Addr, a_24 = some q_27 ∧
  ∃ x_28 : Int, (∀ x, S_21 x → x.cell? (q_27.add (0 : Int).toNat) = some (.int .i64 x_28)) ∧
  (CallsV Tryd.prog n_term_Arena_At #[.pointer p_23, .int .i64 x_28] w3.drew (fun v_29 w4 =>
  ∃ x_30 : Int, ∃ x_31 : Int, ∃ (a_32 : Option Addr) (l_33 c_34 : Nat), v_29 = .agg #[.int .i64 x_30, .int .i64 x_31, .slice a_32 l_33 c_34] ∧
  let w5 := w4.alloc (.cells #[.int .i64 0, .int .i64 0, .slice none 0 0] 98);
  (∀ j, j < 3 → Wr w5 ((newA w4).add j)) ∧
  (let w6 := setCells (newA w4) [.int .i64 x_30, .int .i64 x_31, .slice a_32 l_33 c_34] 0 w5;
  ∃ q_35 : Addr, k0 = some q_35 ∧
  ∃ (a_36 : Option Addr) (l_37 c_38 : Nat), w6.cell? (q_35.add 1) = some (.slice a_36 l_37 c_38) ∧
  ∃ (a_39 : Option Addr) (l_40 c_41 : Nat), w6.cell? ((newA w1).add 2) = some (.slice a_39 l_40 c_41) ∧
  0 ≤ (1 : Int) ∧ 1 < ((l_40 : Nat) : Int) ∧ ∃ q_42 : Addr, a_39 = some q_42 ∧
  ∃ x_43 : Int, w6.cell? (q_42.add (1 : Int).toNat) = some (.int .i64 x_43) ∧
  0 ≤ (x_43 : Int) ∧ x_43 < ((l_37 : Nat) : Int) ∧ ∃ q_44 : Addr, a_36 = some q_44 ∧
  ∃ b_45 : Bool, w6.cell? (q_44.add (x_43 : Int).toNat) = some (.bool b_45) ∧
  cond b_45
  (R (.bool true) w6.drew)
  (∃ x_46 : Int, w6.cell? (newA w4) = some (.int .i64 x_46) ∧
  cond ((x_46 : Int) == 5)
  (∃ q_47 : Addr, k0 = some q_47 ∧
  ∃ (a_48 : Option Addr) (l_49 c_50 : Nat), w6.cell? (q_47.add 1) = some (.slice a_48 l_49 c_50) ∧
  ∃ (a_51 : Option Addr) (l_52 c_53 : Nat), w6.cell? ((newA w4).add 2) = some (.slice a_51 l_52 c_53) ∧
  0 ≤ (0 : Int) ∧ 0 < ((l_52 : Nat) : Int) ∧ ∃ q_54 : Addr, a_51 = some q_54 ∧
  ∃ x_55 : Int, w6.cell? (q_54.add (0 : Int).toNat) = some (.int .i64 x_55) ∧
  0 ≤ (x_55 : Int) ∧ x_55 < ((l_49 : Nat) : Int) ∧ ∃ q_56 : Addr, a_48 = some q_56 ∧
  ∃ b_57 : Bool, w6.cell? (q_56.add (x_55 : Int).toNat) = some (.bool b_57) ∧
  R (.bool b_57) w6.drew)
  (R (.bool false) w6.drew))))) ∧
  (let w7 := w3.drew.alloc (.cells #[.int .i64 0, .int .i64 0, .slice none 0 0] 98);
  S_21 w7 ∧
  CallsV Tryd.prog n_term_Arena_At #[.pointer p_23, .int .i64 x_28] w7 (fun v_58 w8 =>
  ∃ x_59 : Int, ∃ x_60 : Int, ∃ (a_61 : Option Addr) (l_62 c_63 : Nat), v_58 = .agg #[.int .i64 x_59, .int .i64 x_60, .slice a_61 l_62 c_63] ∧
  (∀ j, j < 3 → Wr w8 ((newA w3.drew).add j)) ∧
  (let w9 := setCells (newA w3.drew) [.int .i64 x_59, .int .i64 x_60, .slice a_61 l_62 c_63] 0 w8;
  ∃ q_64 : Addr, k0 = some q_64 ∧
  ∃ (a_65 : Option Addr) (l_66 c_67 : Nat), w9.cell? (q_64.add 1) = some (.slice a_65 l_66 c_67) ∧
  ∃ (a_68 : Option Addr) (l_69 c_70 : Nat), w9.cell? ((newA w1).add 2) = some (.slice a_68 l_69 c_70) ∧
  0 ≤ (1 : Int) ∧ 1 < ((l_69 : Nat) : Int) ∧ ∃ q_71 : Addr, a_68 = some q_71 ∧
  ∃ x_72 : Int, w9.cell? (q_71.add (1 : Int).toNat) = some (.int .i64 x_72) ∧
  0 ≤ (x_72 : Int) ∧ x_72 < ((l_66 : Nat) : Int) ∧ ∃ q_73 : Addr, a_65 = some q_73 ∧
  ∃ b_74 : Bool, w9.cell? (q_73.add (x_72 : Int).toNat) = some (.bool b_74) ∧
  cond b_74
  (R (.bool true) w9.drew)
  (∃ x_75 : Int, w9.cell? (newA w3.drew) = some (.int .i64 x_75) ∧
  cond ((x_75 : Int) == 5)
  (∃ q_76 : Addr, k0 = some q_76 ∧
  ∃ (a_77 : Option Addr) (l_78 c_79 : Nat), w9.cell? (q_76.add 1) = some (.slice a_77 l_78 c_79) ∧
  ∃ (a_80 : Option Addr) (l_81 c_82 : Nat), w9.cell? ((newA w3.drew).add 2) = some (.slice a_80 l_81 c_82) ∧
  0 ≤ (0 : Int) ∧ 0 < ((l_81 : Nat) : Int) ∧ ∃ q_83 : Addr, a_80 = some q_83 ∧
  ∃ x_84 : Int, w9.cell? (q_83.add (0 : Int).toNat) = some (.int .i64 x_84) ∧
  0 ≤ (x_84 : Int) ∧ x_84 < ((l_78 : Nat) : Int) ∧ ∃ q_85 : Addr, a_77 = some q_85 ∧
  ∃ b_86 : Bool, w9.cell? (q_85.add (x_84 : Int).toNat) = some (.bool b_86) ∧
  R (.bool b_86) w9.drew)
  (R (.bool false) w9.drew))))))))

def know_knower_opens.J0 (_ : Value → World → Prop) (_ : Nat) (_ : Fr) (_ : World) : Prop := False

set_option maxRecDepth 100000 in
theorem know_knower_opens.lift {R : Value → World → Prop} {k0 : Option Addr} {i1 : Int} {w : World} (h : know_knower_opens.main R k0 i1 w) : CallsV Tryd.prog n_know_knower_opens #[.pointer k0, .int .i64 i1] w R :=
  liftCalls (c := (.seq (.leaf (cL (bd Tryd.f145))) (.seq (.leaf (cL (cR (bd Tryd.f145)))) (.seq (.seq (.leaf (cL (cL (cR (cR (bd Tryd.f145)))))) (.cnd (.tmp 15) (.seq (.leaf (cL (cT (cR (cL (cR (cR (bd Tryd.f145)))))))) (.leaf (cR (cT (cR (cL (cR (cR (bd Tryd.f145))))))))) (.leaf (cE (cR (cL (cR (cR (bd Tryd.f145))))))))) (.seq (.leaf (cL (cR (cR (cR (bd Tryd.f145)))))) (.seq (.leaf (cL (cR (cR (cR (cR (bd Tryd.f145))))))) (.leaf (cR (cR (cR (cR (cR (bd Tryd.f145))))))))))))) (J := know_knower_opens.J0 R) LfYtoclhecldmahiaaDoor.mixed Tryd.func145 (by kernel_rfl) (by kernel_rfl) (mkSeq (mkSeq (mkSeq (mkSeq (mkSeq mkLeaf mkLeaf) mkLeaf) (mkSeq (mkCnd (mkSeq mkLeaf mkLeaf) mkLeaf) mkLeaf)) mkLeaf) mkLeaf) (kcast (by kernel_rfl) h)

end Go.Proofs.YtoclhecldmahiaaDoor
