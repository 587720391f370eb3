/-
  What the code of these functions comes to, and that it suffices for the call. Written by a program of ours, for this claim.
-/
import Derived.Test.YtoclhecldmahiaaDoorKwFns
import Derived.Test.YtoclhecldmahiaaDoorOcFns
set_option linter.unusedVariables false
set_option linter.unusedVariables false
namespace Go.Proofs.YtoclhecldmahiaaDoor
open Go.Lf
abbrev n_trystlaw23_OnionUnlike : Nat := 5
abbrev n_trystlaw23_OnionExact : Nat := 9
abbrev n_trystlaw23_OnionBack : Nat := 10
abbrev n_trystlaw23_OnionHidden : Nat := 18
abbrev n_trystlaw23_wakes : Nat := 50
/-! trystlaw23_OnionUnlike -/
def trystlaw23_OnionUnlike.c1 (R : Value → World → Prop) (x2 : Int) (y3 : Int) (o25 : Int) (p27 : Int) (w : World) : Prop :=
  cond (((o25 : Int) == p27) == ((x2 : Int) == y3))
  (CallsV Tryd.prog n_trystlaw23_wakes #[] w (fun v_1 w1 =>
  ∃ b_2 : Bool, v_1 = .bool b_2 ∧
  R (.bool b_2) w1))
  (R (.bool false) w)

def trystlaw23_OnionUnlike.c3 (R : Value → World → Prop) (N2 : Int → Int → Int → Int → Option Addr → Sl → Sl → Sl → Int → Int → Int → World → Prop) (n0 : Int) (m1 : Int) (x2 : Int) (y3 : Int) (a9 : Option Addr) (s10 : Sl) (o25 : Int) (k26 : Sl) (p27 : Int) (j28 : Sl) (i29 : Int) (w : World) : Prop :=
  0 ≤ (i29 : Int) ∧ i29 < ((s10.len : Nat) : Int) ∧ ∃ q_3 : Addr, s10.a = some q_3 ∧
  ∃ x_4 : Int, w.cell? (q_3.add (i29 : Int).toNat) = some (.int .i64 x_4) ∧
  CallsV Tryd.prog n_onion_Peel #[.pointer a9, .int .i64 x_4, .int .i64 o25] w (fun v_5 w2 =>
  ∃ x_6 : Int, ∃ x_7 : Int, ∃ x_8 : Int, v_5 = .tuple #[.int .i64 x_6, .int .i64 x_7, .int .i64 x_8] ∧
  0 ≤ (i29 : Int) ∧ i29 < ((s10.len : Nat) : Int) ∧ ∃ q_9 : Addr, s10.a = some q_9 ∧
  ∃ x_10 : Int, w2.cell? (q_9.add (i29 : Int).toNat) = some (.int .i64 x_10) ∧
  CallsV Tryd.prog n_onion_Peel #[.pointer a9, .int .i64 x_10, .int .i64 p27] w2 (fun v_11 w3 =>
  ∃ x_12 : Int, ∃ x_13 : Int, ∃ x_14 : Int, v_11 = .tuple #[.int .i64 x_12, .int .i64 x_13, .int .i64 x_14] ∧
  cond ((x_8 : Int) != 0)
  (R (.bool false) w3)
  (cond ((x_14 : Int) != 0)
  (R (.bool false) w3)
  ((let i29_14 : Int := (IntKind.i64.wrap (i29 + 1));
  N2 n0 m1 x2 y3 a9 s10 k26 j28 x_6 x_12 i29_14 w3)))))

def trystlaw23_OnionUnlike.b2 (R : Value → World → Prop) (N2 : Int → Int → Int → Int → Option Addr → Sl → Sl → Sl → Int → Int → Int → World → Prop) (n0 : Int) (m1 : Int) (x2 : Int) (y3 : Int) (a9 : Option Addr) (s10 : Sl) (k26 : Sl) (j28 : Sl) (o25 : Int) (p27 : Int) (i29 : Int) (w : World) : Prop :=
  cond (decide ((i29 : Int) < 3))
  (cond ((n0 : Int) == m1)
  (cond (!(((o25 : Int) == p27) == ((x2 : Int) == y3)))
  (R (.bool false) w.drew)
  (0 ≤ (i29 : Int) ∧ i29 < ((k26.len : Nat) : Int) ∧ ∃ q_16 : Addr, k26.a = some q_16 ∧
  ∃ x_17 : Int, w.cell? (q_16.add (i29 : Int).toNat) = some (.int .i64 x_17) ∧
  0 ≤ (i29 : Int) ∧ i29 < ((j28.len : Nat) : Int) ∧ ∃ q_18 : Addr, j28.a = some q_18 ∧
  ∃ x_19 : Int, w.cell? (q_18.add (i29 : Int).toNat) = some (.int .i64 x_19) ∧
  cond (!(((x_17 : Int) == x_19) == ((n0 : Int) == m1)))
  (R (.bool false) w.drew)
  (trystlaw23_OnionUnlike.c3 R N2 n0 m1 x2 y3 a9 s10 o25 k26 p27 j28 i29 w.drew)))
  (cond (!(((o25 : Int) == p27) == false))
  (R (.bool false) w.drew)
  (0 ≤ (i29 : Int) ∧ i29 < ((k26.len : Nat) : Int) ∧ ∃ q_20 : Addr, k26.a = some q_20 ∧
  ∃ x_21 : Int, w.cell? (q_20.add (i29 : Int).toNat) = some (.int .i64 x_21) ∧
  0 ≤ (i29 : Int) ∧ i29 < ((j28.len : Nat) : Int) ∧ ∃ q_22 : Addr, j28.a = some q_22 ∧
  ∃ x_23 : Int, w.cell? (q_22.add (i29 : Int).toNat) = some (.int .i64 x_23) ∧
  cond (!(((x_21 : Int) == x_23) == ((n0 : Int) == m1)))
  (R (.bool false) w.drew)
  (trystlaw23_OnionUnlike.c3 R N2 n0 m1 x2 y3 a9 s10 o25 k26 p27 j28 i29 w.drew))))
  (trystlaw23_OnionUnlike.c1 R x2 y3 o25 p27 w)

def trystlaw23_OnionUnlike.l2 (R : Value → World → Prop) (n0 : Int) (m1 : Int) (x2 : Int) (y3 : Int) (a9 : Option Addr) (s10 : Sl) (k26 : Sl) (j28 : Sl) (o25 : Int) (p27 : Int) (i29 : Int) (w : World) : Prop :=
  ∃ (I : (Int × Int × Int) → World → Prop) (μ : (Int × Int × Int) → World → Nat), I (o25, p27, i29) w ∧ ∀ s w, I s w → trystlaw23_OnionUnlike.b2 R (fun n0' m1' x2' y3' a9' s10' k26' j28' o25' p27' i29' w' => (n0' = n0 ∧ m1' = m1 ∧ x2' = x2 ∧ y3' = y3 ∧ a9' = a9 ∧ s10' = s10 ∧ k26' = k26 ∧ j28' = j28 ∧ I (o25', p27', i29') w') ∧ μ (o25', p27', i29') w' < μ s w) n0 m1 x2 y3 a9 s10 k26 j28 s.1 s.2.1 s.2.2 w

def trystlaw23_OnionUnlike.c4 (R : Value → World → Prop) (n0 : Int) (m1 : Int) (x2 : Int) (y3 : Int) (a9 : Option Addr) (s10 : Sl) (o25 : Int) (k26 : Sl) (p27 : Int) (j28 : Sl) (w : World) : Prop :=
  trystlaw23_OnionUnlike.l2 R n0 m1 x2 y3 a9 s10 k26 j28 o25 p27 0 w

def trystlaw23_OnionUnlike.c5 (R : Value → World → Prop) (n0 : Int) (m1 : Int) (x2 : Int) (y3 : Int) (a9 : Option Addr) (s10 : Sl) (pubs11 : Sl) (c17 : Int) (d19 : Int) (u21 : Int) (v23 : Int) (w : World) : Prop :=
  CallsV Tryd.prog n_onion_Wrap #[.pointer a9, .slice pubs11.a pubs11.len pubs11.cap, .int .i64 c17, .int .i64 u21] w (fun v_24 w4 =>
  ∃ x_25 : Int, ∃ (a_26 : Option Addr) (l_27 c_28 : Nat), ∃ x_29 : Int, v_24 = .tuple #[.int .i64 x_25, .slice a_26 l_27 c_28, .int .i64 x_29] ∧
  CallsV Tryd.prog n_onion_Wrap #[.pointer a9, .slice pubs11.a pubs11.len pubs11.cap, .int .i64 d19, .int .i64 v23] w4 (fun v_30 w5 =>
  ∃ x_31 : Int, ∃ (a_32 : Option Addr) (l_33 c_34 : Nat), ∃ x_35 : Int, v_30 = .tuple #[.int .i64 x_31, .slice a_32 l_33 c_34, .int .i64 x_35] ∧
  cond ((x_29 : Int) != 0)
  (R (.bool false) w5)
  (cond ((x_35 : Int) != 0)
  (R (.bool false) w5)
  (cond ((((l_27 : Nat) : Int) : Int) != ((l_33 : Nat) : Int))
  (R (.bool false) w5)
  (trystlaw23_OnionUnlike.c4 R n0 m1 x2 y3 a9 s10 x_25 ⟨a_26, l_27, c_28⟩ x_31 ⟨a_32, l_33, c_34⟩ w5)))))

def trystlaw23_OnionUnlike.c6 (R : Value → World → Prop) (n0 : Int) (m1 : Int) (x2 : Int) (y3 : Int) (a9 : Option Addr) (s10 : Sl) (pubs11 : Sl) (w : World) : Prop :=
  CallsV Tryd.prog n_term_Arena_Make #[.pointer a9, .int .i64 1, .int .i64 n0, .slice none 0 0] w (fun v_36 w6 =>
  ∃ x_37 : Int, ∃ x_38 : Int, v_36 = .tuple #[.int .i64 x_37, .int .i64 x_38] ∧
  CallsV Tryd.prog n_term_Arena_Make #[.pointer a9, .int .i64 1, .int .i64 m1, .slice none 0 0] w6 (fun v_39 w7 =>
  ∃ x_40 : Int, ∃ x_41 : Int, v_39 = .tuple #[.int .i64 x_40, .int .i64 x_41] ∧
  CallsV Tryd.prog n_term_Arena_Make #[.pointer a9, .int .i64 2, .int .i64 x2, .slice none 0 0] w7 (fun v_42 w8 =>
  ∃ x_43 : Int, ∃ x_44 : Int, v_42 = .tuple #[.int .i64 x_43, .int .i64 x_44] ∧
  CallsV Tryd.prog n_term_Arena_Make #[.pointer a9, .int .i64 2, .int .i64 y3, .slice none 0 0] w8 (fun v_45 w9 =>
  ∃ x_46 : Int, ∃ x_47 : Int, v_45 = .tuple #[.int .i64 x_46, .int .i64 x_47] ∧
  cond ((x_38 : Int) != 0)
  (R (.bool false) w9)
  (cond ((x_41 : Int) != 0)
  (R (.bool false) w9)
  (cond ((x_44 : Int) != 0)
  (R (.bool false) w9)
  (cond ((x_47 : Int) != 0)
  (R (.bool false) w9)
  (trystlaw23_OnionUnlike.c5 R n0 m1 x2 y3 a9 s10 pubs11 x_37 x_40 x_43 x_46 w9))))))))

def trystlaw23_OnionUnlike.c8 (R : Value → World → Prop) (N7 : Int → Int → Int → Int → Option Addr → Sl → Sl → Int → World → Prop) (n0 : Int) (m1 : Int) (x2 : Int) (y3 : Int) (a9 : Option Addr) (s10 : Sl) (pubs11 : Sl) (i12 : Int) (k13 : Int) (p15 : Int) (w : World) : Prop :=
  let w10 := w.alloc (.cells #[.int .i64 k13] 3);
  ∃ (a_48 : Option Addr) (l_49 c_50 : Nat), ∃ w11 : World, (builtin .append #[29, 29] 29 #[] #[.slice s10.a s10.len s10.cap, .slice (some (newA w)) 1 1]).run Tryd.prog w10 = .ok (.value (.slice a_48 l_49 c_50)) w11 ∧
  let w12 := w11.alloc (.cells #[.int .i64 p15] 3);
  ∃ (a_51 : Option Addr) (l_52 c_53 : Nat), ∃ w13 : World, (builtin .append #[29, 29] 29 #[] #[.slice pubs11.a pubs11.len pubs11.cap, .slice (some (newA w11)) 1 1]).run Tryd.prog w12 = .ok (.value (.slice a_51 l_52 c_53)) w13 ∧
  (let i12_53 : Int := (IntKind.i64.wrap (i12 + 1));
  N7 n0 m1 x2 y3 a9 ⟨a_48, l_49, c_50⟩ ⟨a_51, l_52, c_53⟩ i12_53 w13)

def trystlaw23_OnionUnlike.b7 (R : Value → World → Prop) (N7 : Int → Int → Int → Int → Option Addr → Sl → Sl → Int → World → Prop) (n0 : Int) (m1 : Int) (x2 : Int) (y3 : Int) (a9 : Option Addr) (s10 : Sl) (pubs11 : Sl) (i12 : Int) (w : World) : Prop :=
  cond (decide ((i12 : Int) < 3))
  (CallsV Tryd.prog n_term_Arena_Make #[.pointer a9, .int .i64 1, .int .i64 (IntKind.i64.wrap (1 + i12)), .slice none 0 0] w (fun v_55 w14 =>
  ∃ x_56 : Int, ∃ x_57 : Int, v_55 = .tuple #[.int .i64 x_56, .int .i64 x_57] ∧
  let w15 := w14.alloc (.cells #[.int .i64 x_56] 3);
  CallsV Tryd.prog n_term_Arena_Make #[.pointer a9, .int .i64 5, .int .i64 0, .slice (some (newA w14)) 1 1] w15 (fun v_58 w16 =>
  ∃ x_59 : Int, ∃ x_60 : Int, v_58 = .tuple #[.int .i64 x_59, .int .i64 x_60] ∧
  cond ((x_57 : Int) != 0)
  (R (.bool false) w16)
  (cond ((x_60 : Int) != 0)
  (R (.bool false) w16)
  (trystlaw23_OnionUnlike.c8 R N7 n0 m1 x2 y3 a9 s10 pubs11 i12 x_56 x_59 w16)))))
  (trystlaw23_OnionUnlike.c6 R n0 m1 x2 y3 a9 s10 pubs11 w)

def trystlaw23_OnionUnlike.l7 (R : Value → World → Prop) (n0 : Int) (m1 : Int) (x2 : Int) (y3 : Int) (a9 : Option Addr) (s10 : Sl) (pubs11 : Sl) (i12 : Int) (w : World) : Prop :=
  ∃ (I : (Sl × Sl × Int) → World → Prop) (μ : (Sl × Sl × Int) → World → Nat), I (s10, pubs11, i12) w ∧ ∀ s w, I s w → trystlaw23_OnionUnlike.b7 R (fun n0' m1' x2' y3' a9' s10' pubs11' i12' w' => (n0' = n0 ∧ m1' = m1 ∧ x2' = x2 ∧ y3' = y3 ∧ a9' = a9 ∧ I (s10', pubs11', i12') w') ∧ μ (s10', pubs11', i12') w' < μ s w) n0 m1 x2 y3 a9 s.1 s.2.1 s.2.2 w

def trystlaw23_OnionUnlike.c9 (R : Value → World → Prop) (n0 : Int) (m1 : Int) (x2 : Int) (y3 : Int) (w : World) : Prop :=
  CallsV Tryd.prog n_term_New #[] w (fun v_61 w17 =>
  ∃ p_62 : Option Addr, v_61 = .pointer p_62 ∧
  cond ((p_62).isNone)
  (R (.bool false) w17)
  (trystlaw23_OnionUnlike.l7 R n0 m1 x2 y3 p_62 ⟨none, 0, 0⟩ ⟨none, 0, 0⟩ 0 w17))

def trystlaw23_OnionUnlike.main (R : Value → World → Prop) (n0 : Int) (m1 : Int) (x2 : Int) (y3 : Int) (w : World) : Prop :=
  cond (decide ((n0 : Int) < 0))
  (R (.bool true) w)
  (cond (decide ((m1 : Int) < 0))
  (R (.bool true) w)
  (cond (decide ((x2 : Int) < 0))
  (R (.bool true) w)
  (cond (decide ((y3 : Int) < 0))
  (R (.bool true) w)
  (trystlaw23_OnionUnlike.c9 R n0 m1 x2 y3 w))))

def trystlaw23_OnionUnlike.J2 (R : Value → World → Prop) (N2 : Int → Int → Int → Int → Option Addr → Sl → Sl → Sl → Int → Int → Int → World → Prop) (k : Nat) (fr : Fr) (w : World) : Prop :=
  cond (Nat.beq k 3) (dec [(0, (.int .i64)), (1, (.int .i64)), (2, (.int .i64)), (3, (.int .i64)), (9, .ptr), (10, .slice), (25, (.int .i64)), (26, .slice), (27, (.int .i64)), (28, .slice), (29, (.int .i64))] fr fun x => trystlaw23_OnionUnlike.c3 R N2 x.1 x.2.1 x.2.2.1 x.2.2.2.1 x.2.2.2.2.1 x.2.2.2.2.2.1 x.2.2.2.2.2.2.1 x.2.2.2.2.2.2.2.1 x.2.2.2.2.2.2.2.2.1 x.2.2.2.2.2.2.2.2.2.1 x.2.2.2.2.2.2.2.2.2.2 w) (False)

def trystlaw23_OnionUnlike.J7 (R : Value → World → Prop) (N7 : Int → Int → Int → Int → Option Addr → Sl → Sl → Int → World → Prop) (k : Nat) (fr : Fr) (w : World) : Prop :=
  cond (Nat.beq k 8) (dec [(0, (.int .i64)), (1, (.int .i64)), (2, (.int .i64)), (3, (.int .i64)), (9, .ptr), (10, .slice), (11, .slice), (12, (.int .i64)), (13, (.int .i64)), (15, (.int .i64))] fr fun x => trystlaw23_OnionUnlike.c8 R N7 x.1 x.2.1 x.2.2.1 x.2.2.2.1 x.2.2.2.2.1 x.2.2.2.2.2.1 x.2.2.2.2.2.2.1 x.2.2.2.2.2.2.2.1 x.2.2.2.2.2.2.2.2.1 x.2.2.2.2.2.2.2.2.2 w) (False)

def trystlaw23_OnionUnlike.J0 (R : Value → World → Prop) (k : Nat) (fr : Fr) (w : World) : Prop :=
  cond (Nat.beq k 9) (dec [(0, (.int .i64)), (1, (.int .i64)), (2, (.int .i64)), (3, (.int .i64))] fr fun x => trystlaw23_OnionUnlike.c9 R x.1 x.2.1 x.2.2.1 x.2.2.2 w) (cond (Nat.beq k 7) (dec [(0, (.int .i64)), (1, (.int .i64)), (2, (.int .i64)), (3, (.int .i64)), (9, .ptr), (10, .slice), (11, .slice), (12, (.int .i64))] fr fun x => trystlaw23_OnionUnlike.l7 R x.1 x.2.1 x.2.2.1 x.2.2.2.1 x.2.2.2.2.1 x.2.2.2.2.2.1 x.2.2.2.2.2.2.1 x.2.2.2.2.2.2.2 w) (cond (Nat.beq k 6) (dec [(0, (.int .i64)), (1, (.int .i64)), (2, (.int .i64)), (3, (.int .i64)), (9, .ptr), (10, .slice), (11, .slice)] fr fun x => trystlaw23_OnionUnlike.c6 R x.1 x.2.1 x.2.2.1 x.2.2.2.1 x.2.2.2.2.1 x.2.2.2.2.2.1 x.2.2.2.2.2.2 w) (cond (Nat.beq k 5) (dec [(0, (.int .i64)), (1, (.int .i64)), (2, (.int .i64)), (3, (.int .i64)), (9, .ptr), (10, .slice), (11, .slice), (17, (.int .i64)), (19, (.int .i64)), (21, (.int .i64)), (23, (.int .i64))] fr fun x => trystlaw23_OnionUnlike.c5 R x.1 x.2.1 x.2.2.1 x.2.2.2.1 x.2.2.2.2.1 x.2.2.2.2.2.1 x.2.2.2.2.2.2.1 x.2.2.2.2.2.2.2.1 x.2.2.2.2.2.2.2.2.1 x.2.2.2.2.2.2.2.2.2.1 x.2.2.2.2.2.2.2.2.2.2 w) (cond (Nat.beq k 4) (dec [(0, (.int .i64)), (1, (.int .i64)), (2, (.int .i64)), (3, (.int .i64)), (9, .ptr), (10, .slice), (25, (.int .i64)), (26, .slice), (27, (.int .i64)), (28, .slice)] fr fun x => trystlaw23_OnionUnlike.c4 R x.1 x.2.1 x.2.2.1 x.2.2.2.1 x.2.2.2.2.1 x.2.2.2.2.2.1 x.2.2.2.2.2.2.1 x.2.2.2.2.2.2.2.1 x.2.2.2.2.2.2.2.2.1 x.2.2.2.2.2.2.2.2.2 w) (cond (Nat.beq k 2) (dec [(0, (.int .i64)), (1, (.int .i64)), (2, (.int .i64)), (3, (.int .i64)), (9, .ptr), (10, .slice), (26, .slice), (28, .slice), (25, (.int .i64)), (27, (.int .i64)), (29, (.int .i64))] fr fun x => trystlaw23_OnionUnlike.l2 R x.1 x.2.1 x.2.2.1 x.2.2.2.1 x.2.2.2.2.1 x.2.2.2.2.2.1 x.2.2.2.2.2.2.1 x.2.2.2.2.2.2.2.1 x.2.2.2.2.2.2.2.2.1 x.2.2.2.2.2.2.2.2.2.1 x.2.2.2.2.2.2.2.2.2.2 w) (cond (Nat.beq k 1) (dec [(2, (.int .i64)), (3, (.int .i64)), (25, (.int .i64)), (27, (.int .i64))] fr fun x => trystlaw23_OnionUnlike.c1 R x.1 x.2.1 x.2.2.1 x.2.2.2 w) (False)))))))

set_option maxRecDepth 100000 in
theorem trystlaw23_OnionUnlike.lift {R : Value → World → Prop} {n0 : Int} {m1 : Int} {x2 : Int} {y3 : Int} {w : World} (h : trystlaw23_OnionUnlike.main R n0 m1 x2 y3 w) : CallsV Tryd.prog n_trystlaw23_OnionUnlike #[.int .i64 n0, .int .i64 m1, .int .i64 x2, .int .i64 y3] w R :=
  liftCalls (c := (.seq (.leaf (cL (bd Tryd.f5))) (.seq (.seq (.leaf (cL (cL (cR (bd Tryd.f5))))) (.cnd (.tmp 43) (.seq (.leaf (cL (cT (cR (cL (cR (bd Tryd.f5))))))) (.leaf (cR (cT (cR (cL (cR (bd Tryd.f5)))))))) (.leaf (cE (cR (cL (cR (bd Tryd.f5)))))))) (.cut 9 (.seq (.leaf (cL (cR (cR (bd Tryd.f5))))) (.seq (.seq (.leaf (cL (cL (cR (cR (cR (bd Tryd.f5))))))) (.cnd (.tmp 46) (.seq (.leaf (cL (cT (cR (cL (cR (cR (cR (bd Tryd.f5))))))))) (.leaf (cR (cT (cR (cL (cR (cR (cR (bd Tryd.f5)))))))))) (.leaf (cE (cR (cL (cR (cR (cR (bd Tryd.f5)))))))))) (.seq (.leaf (cL (cR (cR (cR (cR (bd Tryd.f5))))))) (.seq (.seq (.leaf (cL (cL (cR (cR (cR (cR (cR (bd Tryd.f5))))))))) (.block 0 (.loop 7 (.seq (.seq (.leaf (cL (cL (cB (cB (cR (cL (cR (cR (cR (cR (cR (bd Tryd.f5))))))))))))) (.cnd (.tmp 48) (.leaf (cT (cR (cL (cB (cB (cR (cL (cR (cR (cR (cR (cR (bd Tryd.f5)))))))))))))) (.leaf (cE (cR (cL (cB (cB (cR (cL (cR (cR (cR (cR (cR (bd Tryd.f5)))))))))))))))) (.seq (.block 1 (.seq (.leaf (cL (cB (cL (cR (cB (cB (cR (cL (cR (cR (cR (cR (cR (bd Tryd.f5))))))))))))))) (.seq (.leaf (cL (cR (cB (cL (cR (cB (cB (cR (cL (cR (cR (cR (cR (cR (bd Tryd.f5)))))))))))))))) (.seq (.seq (.leaf (cL (cL (cR (cR (cB (cL (cR (cB (cB (cR (cL (cR (cR (cR (cR (cR (bd Tryd.f5)))))))))))))))))) (.cnd (.tmp 70) (.seq (.leaf (cL (cT (cR (cL (cR (cR (cB (cL (cR (cB (cB (cR (cL (cR (cR (cR (cR (cR (bd Tryd.f5)))))))))))))))))))) (.leaf (cR (cT (cR (cL (cR (cR (cB (cL (cR (cB (cB (cR (cL (cR (cR (cR (cR (cR (bd Tryd.f5))))))))))))))))))))) (.leaf (cE (cR (cL (cR (cR (cB (cL (cR (cB (cB (cR (cL (cR (cR (cR (cR (cR (bd Tryd.f5))))))))))))))))))))) (.cut 8 (.leaf (cR (cR (cR (cB (cL (cR (cB (cB (cR (cL (cR (cR (cR (cR (cR (bd Tryd.f5)))))))))))))))))))))) (.leaf (cR (cR (cB (cB (cR (cL (cR (cR (cR (cR (cR (bd Tryd.f5)))))))))))))))))) (.cut 6 (.seq (.leaf (cL (cR (cR (cR (cR (cR (cR (bd Tryd.f5))))))))) (.seq (.leaf (cL (cR (cR (cR (cR (cR (cR (cR (bd Tryd.f5)))))))))) (.seq (.leaf (cL (cR (cR (cR (cR (cR (cR (cR (cR (bd Tryd.f5))))))))))) (.seq (.leaf (cL (cR (cR (cR (cR (cR (cR (cR (cR (cR (bd Tryd.f5)))))))))))) (.seq (.seq (.leaf (cL (cL (cR (cR (cR (cR (cR (cR (cR (cR (cR (cR (bd Tryd.f5)))))))))))))) (.cnd (.tmp 116) (.seq (.leaf (cL (cT (cR (cL (cR (cR (cR (cR (cR (cR (cR (cR (cR (cR (bd Tryd.f5)))))))))))))))) (.leaf (cR (cT (cR (cL (cR (cR (cR (cR (cR (cR (cR (cR (cR (cR (bd Tryd.f5))))))))))))))))) (.leaf (cE (cR (cL (cR (cR (cR (cR (cR (cR (cR (cR (cR (cR (bd Tryd.f5))))))))))))))))) (.cut 5 (.seq (.leaf (cL (cR (cR (cR (cR (cR (cR (cR (cR (cR (cR (cR (bd Tryd.f5)))))))))))))) (.seq (.leaf (cL (cR (cR (cR (cR (cR (cR (cR (cR (cR (cR (cR (cR (bd Tryd.f5))))))))))))))) (.seq (.seq (.leaf (cL (cL (cR (cR (cR (cR (cR (cR (cR (cR (cR (cR (cR (cR (cR (bd Tryd.f5))))))))))))))))) (.cnd (.tmp 147) (.seq (.leaf (cL (cT (cR (cL (cR (cR (cR (cR (cR (cR (cR (cR (cR (cR (cR (cR (cR (bd Tryd.f5))))))))))))))))))) (.leaf (cR (cT (cR (cL (cR (cR (cR (cR (cR (cR (cR (cR (cR (cR (cR (cR (cR (bd Tryd.f5)))))))))))))))))))) (.leaf (cE (cR (cL (cR (cR (cR (cR (cR (cR (cR (cR (cR (cR (cR (cR (cR (bd Tryd.f5)))))))))))))))))))) (.cut 4 (.seq (.seq (.leaf (cL (cL (cR (cR (cR (cR (cR (cR (cR (cR (cR (cR (cR (cR (cR (cR (bd Tryd.f5)))))))))))))))))) (.block 2 (.loop 2 (.seq (.seq (.leaf (cL (cL (cB (cB (cR (cL (cR (cR (cR (cR (cR (cR (cR (cR (cR (cR (cR (cR (cR (cR (bd Tryd.f5)))))))))))))))))))))) (.cnd (.tmp 149) (.leaf (cT (cR (cL (cB (cB (cR (cL (cR (cR (cR (cR (cR (cR (cR (cR (cR (cR (cR (cR (cR (cR (bd Tryd.f5))))))))))))))))))))))) (.leaf (cE (cR (cL (cB (cB (cR (cL (cR (cR (cR (cR (cR (cR (cR (cR (cR (cR (cR (cR (cR (cR (bd Tryd.f5))))))))))))))))))))))))) (.seq (.block 3 (.seq (.seq (.leaf (cL (cL (cB (cL (cR (cB (cB (cR (cL (cR (cR (cR (cR (cR (cR (cR (cR (cR (cR (cR (cR (cR (cR (bd Tryd.f5))))))))))))))))))))))))) (.cnd (.tmp 178) (.seq (.leaf (cL (cT (cR (cL (cB (cL (cR (cB (cB (cR (cL (cR (cR (cR (cR (cR (cR (cR (cR (cR (cR (cR (cR (cR (cR (bd Tryd.f5))))))))))))))))))))))))))) (.leaf (cR (cT (cR (cL (cB (cL (cR (cB (cB (cR (cL (cR (cR (cR (cR (cR (cR (cR (cR (cR (cR (cR (cR (cR (cR (bd Tryd.f5)))))))))))))))))))))))))))) (.leaf (cE (cR (cL (cB (cL (cR (cB (cB (cR (cL (cR (cR (cR (cR (cR (cR (cR (cR (cR (cR (cR (cR (cR (cR (bd Tryd.f5)))))))))))))))))))))))))))) (.cut 3 (.seq (.leaf (cL (cR (cB (cL (cR (cB (cB (cR (cL (cR (cR (cR (cR (cR (cR (cR (cR (cR (cR (cR (cR (cR (cR (bd Tryd.f5))))))))))))))))))))))))) (.seq (.leaf (cL (cR (cR (cB (cL (cR (cB (cB (cR (cL (cR (cR (cR (cR (cR (cR (cR (cR (cR (cR (cR (cR (cR (cR (bd Tryd.f5)))))))))))))))))))))))))) (.seq (.leaf (cL (cR (cR (cR (cB (cL (cR (cB (cB (cR (cL (cR (cR (cR (cR (cR (cR (cR (cR (cR (cR (cR (cR (cR (cR (bd Tryd.f5))))))))))))))))))))))))))) (.cnd (.tmp 206) (.seq (.leaf (cL (cT (cR (cR (cR (cR (cB (cL (cR (cB (cB (cR (cL (cR (cR (cR (cR (cR (cR (cR (cR (cR (cR (cR (cR (cR (cR (bd Tryd.f5))))))))))))))))))))))))))))) (.leaf (cR (cT (cR (cR (cR (cR (cB (cL (cR (cB (cB (cR (cL (cR (cR (cR (cR (cR (cR (cR (cR (cR (cR (cR (cR (cR (cR (bd Tryd.f5)))))))))))))))))))))))))))))) (.leaf (cE (cR (cR (cR (cR (cB (cL (cR (cB (cB (cR (cL (cR (cR (cR (cR (cR (cR (cR (cR (cR (cR (cR (cR (cR (cR (bd Tryd.f5))))))))))))))))))))))))))))))))))) (.leaf (cR (cR (cB (cB (cR (cL (cR (cR (cR (cR (cR (cR (cR (cR (cR (cR (cR (cR (cR (cR (bd Tryd.f5))))))))))))))))))))))))))) (.cut 1 (.seq (.leaf (cL (cR (cR (cR (cR (cR (cR (cR (cR (cR (cR (cR (cR (cR (cR (cR (bd Tryd.f5)))))))))))))))))) (.leaf (cR (cR (cR (cR (cR (cR (cR (cR (cR (cR (cR (cR (cR (cR (cR (cR (bd Tryd.f5)))))))))))))))))))))))))))))))))))))))) (J := trystlaw23_OnionUnlike.J0 R) LfYtoclhecldmahiaaDoor.mixed Tryd.func5 (by kernel_rfl) (by kernel_rfl) (mkSeq (mkSeq (mkCut (cutDef [(0, (.int .i64)), (1, (.int .i64)), (2, (.int .i64)), (3, (.int .i64))] (fun x w => trystlaw23_OnionUnlike.c9 R x.1 x.2.1 x.2.2.1 x.2.2.2 w) (fun _ _ => by kernel_rfl) (fun _ _ => by kernel_rfl)) (mkSeq (mkSeq (mkSeq (mkSeq (mkCut (cutDef [(0, (.int .i64)), (1, (.int .i64)), (2, (.int .i64)), (3, (.int .i64)), (9, .ptr), (10, .slice), (11, .slice)] (fun x w => trystlaw23_OnionUnlike.c6 R x.1 x.2.1 x.2.2.1 x.2.2.2.1 x.2.2.2.2.1 x.2.2.2.2.2.1 x.2.2.2.2.2.2 w) (fun _ _ => by kernel_rfl) (fun _ _ => by kernel_rfl)) (mkSeq (mkSeq (mkSeq (mkSeq (mkSeq (mkCut (cutDef [(0, (.int .i64)), (1, (.int .i64)), (2, (.int .i64)), (3, (.int .i64)), (9, .ptr), (10, .slice), (11, .slice), (17, (.int .i64)), (19, (.int .i64)), (21, (.int .i64)), (23, (.int .i64))] (fun x w => trystlaw23_OnionUnlike.c5 R x.1 x.2.1 x.2.2.1 x.2.2.2.1 x.2.2.2.2.1 x.2.2.2.2.2.1 x.2.2.2.2.2.2.1 x.2.2.2.2.2.2.2.1 x.2.2.2.2.2.2.2.2.1 x.2.2.2.2.2.2.2.2.2.1 x.2.2.2.2.2.2.2.2.2.2 w) (fun _ _ => by kernel_rfl) (fun _ _ => by kernel_rfl)) (mkSeq (mkSeq (mkSeq (mkCut (cutDef [(0, (.int .i64)), (1, (.int .i64)), (2, (.int .i64)), (3, (.int .i64)), (9, .ptr), (10, .slice), (25, (.int .i64)), (26, .slice), (27, (.int .i64)), (28, .slice)] (fun x w => trystlaw23_OnionUnlike.c4 R x.1 x.2.1 x.2.2.1 x.2.2.2.1 x.2.2.2.2.1 x.2.2.2.2.2.1 x.2.2.2.2.2.2.1 x.2.2.2.2.2.2.2.1 x.2.2.2.2.2.2.2.2.1 x.2.2.2.2.2.2.2.2.2 w) (fun _ _ => by kernel_rfl) (fun _ _ => by kernel_rfl)) (mkSeq (mkCut (cutDef [(2, (.int .i64)), (3, (.int .i64)), (25, (.int .i64)), (27, (.int .i64))] (fun x w => trystlaw23_OnionUnlike.c1 R x.1 x.2.1 x.2.2.1 x.2.2.2 w) (fun _ _ => by kernel_rfl) (fun _ _ => by kernel_rfl)) (mkSeq mkLeaf mkLeaf)) (mkSeq (mkBlock (mkLoop (loopDef LfYtoclhecldmahiaaDoor.mixed [(0, (.int .i64)), (1, (.int .i64)), (2, (.int .i64)), (3, (.int .i64)), (9, .ptr), (10, .slice), (26, .slice), (28, .slice), (25, (.int .i64)), (27, (.int .i64)), (29, (.int .i64))] (by kernel_rfl) (fun M2 x w => trystlaw23_OnionUnlike.b2 R (fun y0 y1 y2 y3 y4 y5 y6 y7 y8 y9 y10 w => M2 (y0, y1, y2, y3, y4, y5, y6, y7, y8, y9, y10) w) x.1 x.2.1 x.2.2.1 x.2.2.2.1 x.2.2.2.2.1 x.2.2.2.2.2.1 x.2.2.2.2.2.2.1 x.2.2.2.2.2.2.2.1 x.2.2.2.2.2.2.2.2.1 x.2.2.2.2.2.2.2.2.2.1 x.2.2.2.2.2.2.2.2.2.2 w) (fun M2 => trystlaw23_OnionUnlike.J2 R (fun y0 y1 y2 y3 y4 y5 y6 y7 y8 y9 y10 w => M2 (y0, y1, y2, y3, y4, y5, y6, y7, y8, y9, y10) w)) (fun _ _ _ => by kernel_rfl) (fun M2 => (mkSeq (mkSeq mkLeaf (mkBlock (mkSeq (mkCut (cutDef [(0, (.int .i64)), (1, (.int .i64)), (2, (.int .i64)), (3, (.int .i64)), (9, .ptr), (10, .slice), (25, (.int .i64)), (26, .slice), (27, (.int .i64)), (28, .slice), (29, (.int .i64))] (fun x w => trystlaw23_OnionUnlike.c3 R (fun y0 y1 y2 y3 y4 y5 y6 y7 y8 y9 y10 w => M2 (y0, y1, y2, y3, y4, y5, y6, y7, y8, y9, y10) w) x.1 x.2.1 x.2.2.1 x.2.2.2.1 x.2.2.2.2.1 x.2.2.2.2.2.1 x.2.2.2.2.2.2.1 x.2.2.2.2.2.2.2.1 x.2.2.2.2.2.2.2.2.1 x.2.2.2.2.2.2.2.2.2.1 x.2.2.2.2.2.2.2.2.2.2 w) (fun _ _ => by kernel_rfl) (fun _ _ => by kernel_rfl)) (mkSeq (mkSeq (mkSeq (mkCnd (mkSeq mkLeaf mkLeaf) mkLeaf) mkLeaf) mkLeaf) mkLeaf)) (mkSeq (mkCnd (mkSeq mkLeaf mkLeaf) mkLeaf) mkLeaf)))) (mkSeq (mkCnd mkLeaf mkLeaf) mkLeaf))) (fun x w => trystlaw23_OnionUnlike.l2 R x.1 x.2.1 x.2.2.1 x.2.2.2.1 x.2.2.2.2.1 x.2.2.2.2.2.1 x.2.2.2.2.2.2.1 x.2.2.2.2.2.2.2.1 x.2.2.2.2.2.2.2.2.1 x.2.2.2.2.2.2.2.2.2.1 x.2.2.2.2.2.2.2.2.2.2 w) (by rintro ⟨c0, c1, c2, c3, c4, c5, c6, c7, s0⟩ w ⟨I, μ, h0, h1⟩; refine ⟨fun y w => y.1 = c0 ∧ y.2.1 = c1 ∧ y.2.2.1 = c2 ∧ y.2.2.2.1 = c3 ∧ y.2.2.2.2.1 = c4 ∧ y.2.2.2.2.2.1 = c5 ∧ y.2.2.2.2.2.2.1 = c6 ∧ y.2.2.2.2.2.2.2.1 = c7 ∧ I y.2.2.2.2.2.2.2.2 w, fun y w => μ y.2.2.2.2.2.2.2.2 w, ⟨rfl, rfl, rfl, rfl, rfl, rfl, rfl, rfl, h0⟩, ?_⟩; rintro ⟨d0, d1, d2, d3, d4, d5, d6, d7, t0⟩ w ⟨e0, e1, e2, e3, e4, e5, e6, e7, hI⟩; dsimp only at e0 e1 e2 e3 e4 e5 e6 e7 hI; subst e0; subst e1; subst e2; subst e3; subst e4; subst e5; subst e6; subst e7; exact h1 _ _ hI) (fun _ _ => by kernel_rfl)))) mkLeaf))) (mkSeq (mkCnd (mkSeq mkLeaf mkLeaf) mkLeaf) mkLeaf)) mkLeaf) mkLeaf)) (mkSeq (mkCnd (mkSeq mkLeaf mkLeaf) mkLeaf) mkLeaf)) mkLeaf) mkLeaf) mkLeaf) mkLeaf)) (mkSeq (mkBlock (mkLoop (loopDef LfYtoclhecldmahiaaDoor.mixed [(0, (.int .i64)), (1, (.int .i64)), (2, (.int .i64)), (3, (.int .i64)), (9, .ptr), (10, .slice), (11, .slice), (12, (.int .i64))] (by kernel_rfl) (fun M7 x w => trystlaw23_OnionUnlike.b7 R (fun y0 y1 y2 y3 y4 y5 y6 y7 w => M7 (y0, y1, y2, y3, y4, y5, y6, y7) w) x.1 x.2.1 x.2.2.1 x.2.2.2.1 x.2.2.2.2.1 x.2.2.2.2.2.1 x.2.2.2.2.2.2.1 x.2.2.2.2.2.2.2 w) (fun M7 => trystlaw23_OnionUnlike.J7 R (fun y0 y1 y2 y3 y4 y5 y6 y7 w => M7 (y0, y1, y2, y3, y4, y5, y6, y7) w)) (fun _ _ _ => by kernel_rfl) (fun M7 => (mkSeq (mkSeq mkLeaf (mkBlock (mkSeq (mkSeq (mkSeq (mkCut (cutDef [(0, (.int .i64)), (1, (.int .i64)), (2, (.int .i64)), (3, (.int .i64)), (9, .ptr), (10, .slice), (11, .slice), (12, (.int .i64)), (13, (.int .i64)), (15, (.int .i64))] (fun x w => trystlaw23_OnionUnlike.c8 R (fun y0 y1 y2 y3 y4 y5 y6 y7 w => M7 (y0, y1, y2, y3, y4, y5, y6, y7) w) x.1 x.2.1 x.2.2.1 x.2.2.2.1 x.2.2.2.2.1 x.2.2.2.2.2.1 x.2.2.2.2.2.2.1 x.2.2.2.2.2.2.2.1 x.2.2.2.2.2.2.2.2.1 x.2.2.2.2.2.2.2.2.2 w) (fun _ _ => by kernel_rfl) (fun _ _ => by kernel_rfl)) mkLeaf) (mkSeq (mkCnd (mkSeq mkLeaf mkLeaf) mkLeaf) mkLeaf)) mkLeaf) mkLeaf))) (mkSeq (mkCnd mkLeaf mkLeaf) mkLeaf))) (fun x w => trystlaw23_OnionUnlike.l7 R x.1 x.2.1 x.2.2.1 x.2.2.2.1 x.2.2.2.2.1 x.2.2.2.2.2.1 x.2.2.2.2.2.2.1 x.2.2.2.2.2.2.2 w) (by rintro ⟨c0, c1, c2, c3, c4, s0⟩ w ⟨I, μ, h0, h1⟩; refine ⟨fun y w => y.1 = c0 ∧ y.2.1 = c1 ∧ y.2.2.1 = c2 ∧ y.2.2.2.1 = c3 ∧ y.2.2.2.2.1 = c4 ∧ I y.2.2.2.2.2 w, fun y w => μ y.2.2.2.2.2 w, ⟨rfl, rfl, rfl, rfl, rfl, h0⟩, ?_⟩; rintro ⟨d0, d1, d2, d3, d4, t0⟩ w ⟨e0, e1, e2, e3, e4, hI⟩; dsimp only at e0 e1 e2 e3 e4 hI; subst e0; subst e1; subst e2; subst e3; subst e4; exact h1 _ _ hI) (fun _ _ => by kernel_rfl)))) mkLeaf)) mkLeaf) (mkSeq (mkCnd (mkSeq mkLeaf mkLeaf) mkLeaf) mkLeaf)) mkLeaf)) (mkSeq (mkCnd (mkSeq mkLeaf mkLeaf) mkLeaf) mkLeaf)) mkLeaf) (kcast (by kernel_rfl) h)

/-! trystlaw23_OnionExact -/
def trystlaw23_OnionExact.c1 (R : Value → World → Prop) (x3 : Int) (keys4 : Sl) (p13 : Option Addr) (b15 : Option Addr) (e21 : Int) (r32 : Int) (w : World) : Prop :=
  CallsV Tryd.prog n_trystref22_Read #[.pointer b15, .slice keys4.a keys4.len keys4.cap, .int .i64 x3] w (fun v_1 w1 =>
  ∃ x_2 : Int, ∃ x_3 : Int, v_1 = .tuple #[.int .i64 x_2, .int .i64 x_3] ∧
  cond ((x_3 : Int) != 0)
  (cond ((e21 : Int) == x_3)
  (cond ((r32 : Int) == 0)
  (CallsV Tryd.prog n_trystlaw23_wakes #[] w1 (fun v_4 w2 =>
  ∃ b_5 : Bool, v_4 = .bool b_5 ∧
  R (.bool b_5) w2))
  (R (.bool false) w1))
  (R (.bool false) w1))
  (cond ((e21 : Int) == 0)
  (CallsV Tryd.prog n_trystlaw10_Pair_T #[.pointer p13, .int .i64 x_2] w1 (fun v_6 w3 =>
  ∃ x_7 : Int, v_6 = .int .i64 x_7 ∧
  cond ((r32 : Int) == x_7)
  (CallsV Tryd.prog n_trystlaw23_wakes #[] w3 (fun v_8 w4 =>
  ∃ b_9 : Bool, v_8 = .bool b_9 ∧
  R (.bool b_9) w4))
  (R (.bool false) w3)))
  (R (.bool false) w1)))

def trystlaw23_OnionExact.c2 (R : Value → World → Prop) (e21 : Int) (r32 : Int) (w : World) : Prop :=
  cond ((e21 : Int) == 8)
  (cond ((r32 : Int) == 0)
  (CallsV Tryd.prog n_trystlaw23_wakes #[] w (fun v_10 w5 =>
  ∃ b_11 : Bool, v_10 = .bool b_11 ∧
  R (.bool b_11) w5))
  (R (.bool false) w))
  (R (.bool false) w)

def trystlaw23_OnionExact.c3 (R : Value → World → Prop) (x3 : Int) (keys4 : Sl) (p13 : Option Addr) (b15 : Option Addr) (w : World) : Prop :=
  ∃ S_12 : World → Prop, S_12 w.drew ∧
  ∃ q_13 : Addr, p13 = some q_13 ∧
  ∃ p_14 : Option Addr, (∀ x, S_12 x → x.cell? q_13 = some (.pointer p_14)) ∧
  CallsV Tryd.prog n_trystlaw10_Pair_Ts #[.pointer p13, .slice keys4.a keys4.len keys4.cap] w.drew (fun v_15 w6 =>
  ∃ (a_16 : Option Addr) (l_17 c_18 : Nat), v_15 = .slice a_16 l_17 c_18 ∧
  S_12 w6 ∧
  CallsV Tryd.prog n_trystlaw10_Pair_T #[.pointer p13, .int .i64 x3] w6 (fun v_19 w7 =>
  ∃ x_20 : Int, v_19 = .int .i64 x_20 ∧
  S_12 w7 ∧
  CallsV Tryd.prog n_onion_Read #[.pointer p_14, .slice a_16 l_17 c_18, .int .i64 x_20] w7 (fun v_21 w8 =>
  ∃ x_22 : Int, ∃ x_23 : Int, v_21 = .tuple #[.int .i64 x_22, .int .i64 x_23] ∧
  cond ((((keys4.len : Nat) : Int) : Int) != 3)
  (cond ((x_23 : Int) == 2)
  (cond ((x_22 : Int) == 0)
  (CallsV Tryd.prog n_trystlaw23_wakes #[] w8 (fun v_24 w9 =>
  ∃ b_25 : Bool, v_24 = .bool b_25 ∧
  R (.bool b_25) w9))
  (R (.bool false) w8))
  (R (.bool false) w8))
  (CallsV Tryd.prog n_trystref10_Arena_Has #[.pointer b15, .slice keys4.a keys4.len keys4.cap] w8 (fun v_26 w10 =>
  ∃ b_27 : Bool, v_26 = .bool b_27 ∧
  cond (!b_27)
  (trystlaw23_OnionExact.c2 R x_23 x_22 w10)
  (let w11 := w10.alloc (.cells #[.int .i64 x3] 3);
  CallsV Tryd.prog n_trystref10_Arena_Has #[.pointer b15, .slice (some (newA w10)) 1 1] w11 (fun v_28 w12 =>
  ∃ b_29 : Bool, v_28 = .bool b_29 ∧
  cond (!b_29)
  (trystlaw23_OnionExact.c2 R x_23 x_22 w12)
  (trystlaw23_OnionExact.c1 R x3 keys4 p13 b15 x_23 x_22 w12))))))))

def trystlaw23_OnionExact.c4 (R : Value → World → Prop) (secret2 : Int) (x3 : Int) (keys4 : Sl) (p13 : Option Addr) (b15 : Option Addr) (w : World) : Prop :=
  ∃ S_30 : World → Prop, S_30 w.drew ∧
  ∃ q_31 : Addr, p13 = some q_31 ∧
  ∃ p_32 : Option Addr, (∀ x, S_30 x → x.cell? q_31 = some (.pointer p_32)) ∧
  CallsV Tryd.prog n_trystlaw10_Pair_T #[.pointer p13, .int .i64 secret2] w.drew (fun v_33 w13 =>
  ∃ x_34 : Int, v_33 = .int .i64 x_34 ∧
  S_30 w13 ∧
  CallsV Tryd.prog n_trystlaw10_Pair_T #[.pointer p13, .int .i64 x3] w13 (fun v_35 w14 =>
  ∃ x_36 : Int, v_35 = .int .i64 x_36 ∧
  S_30 w14 ∧
  CallsV Tryd.prog n_onion_Back #[.pointer p_32, .int .i64 x_34, .int .i64 x_36] w14 (fun v_37 w15 =>
  ∃ x_38 : Int, ∃ x_39 : Int, v_37 = .tuple #[.int .i64 x_38, .int .i64 x_39] ∧
  let w16 := w15.alloc (.cells #[.int .i64 secret2, .int .i64 x3] 3);
  CallsV Tryd.prog n_trystref10_Arena_Has #[.pointer b15, .slice (some (newA w15)) 2 2] w16 (fun v_40 w17 =>
  ∃ b_41 : Bool, v_40 = .bool b_41 ∧
  cond (!b_41)
  (cond ((x_39 : Int) != 8)
  (R (.bool false) w17)
  (cond ((x_38 : Int) != 0)
  (R (.bool false) w17)
  (trystlaw23_OnionExact.c3 R x3 keys4 p13 b15 w17)))
  (cond ((x_39 : Int) != 0)
  (R (.bool false) w17)
  (let w18 := w17.alloc (.cells #[.int .i64 secret2, .int .i64 x3] 3);
  CallsV Tryd.prog n_trystref10_Arena_Make #[.pointer b15, .int .i64 6, .int .i64 0, .slice (some (newA w17)) 2 2] w18 (fun v_42 w19 =>
  ∃ x_43 : Int, v_42 = .int .i64 x_43 ∧
  CallsV Tryd.prog n_trystlaw10_Pair_T #[.pointer p13, .int .i64 x_43] w19 (fun v_44 w20 =>
  ∃ x_45 : Int, v_44 = .int .i64 x_45 ∧
  cond ((x_38 : Int) != x_45)
  (R (.bool false) w20)
  (trystlaw23_OnionExact.c3 R x3 keys4 p13 b15 w20)))))))))

def trystlaw23_OnionExact.c5 (R : Value → World → Prop) (secret2 : Int) (x3 : Int) (keys4 : Sl) (p13 : Option Addr) (b15 : Option Addr) (y23 : Int) (w : World) : Prop :=
  ∃ S_46 : World → Prop, S_46 w.drew ∧
  ∃ q_47 : Addr, p13 = some q_47 ∧
  ∃ p_48 : Option Addr, (∀ x, S_46 x → x.cell? q_47 = some (.pointer p_48)) ∧
  CallsV Tryd.prog n_trystlaw10_Pair_T #[.pointer p13, .int .i64 secret2] w.drew (fun v_49 w21 =>
  ∃ x_50 : Int, v_49 = .int .i64 x_50 ∧
  S_46 w21 ∧
  CallsV Tryd.prog n_trystlaw10_Pair_T #[.pointer p13, .int .i64 y23] w21 (fun v_51 w22 =>
  ∃ x_52 : Int, v_51 = .int .i64 x_52 ∧
  S_46 w22 ∧
  CallsV Tryd.prog n_onion_Peel #[.pointer p_48, .int .i64 x_50, .int .i64 x_52] w22 (fun v_53 w23 =>
  ∃ x_54 : Int, ∃ x_55 : Int, ∃ x_56 : Int, v_53 = .tuple #[.int .i64 x_54, .int .i64 x_55, .int .i64 x_56] ∧
  CallsV Tryd.prog n_trystref22_Peel #[.pointer b15, .int .i64 secret2, .int .i64 y23] w23 (fun v_57 w24 =>
  ∃ x_58 : Int, ∃ x_59 : Int, ∃ x_60 : Int, v_57 = .tuple #[.int .i64 x_58, .int .i64 x_59, .int .i64 x_60] ∧
  cond ((x_56 : Int) != x_60)
  (R (.bool false) w24)
  (cond ((x_60 : Int) != 0)
  (cond ((x_54 : Int) != 0)
  (R (.bool false) w24)
  (cond ((x_55 : Int) != 0)
  (R (.bool false) w24)
  (cond ((x_60 : Int) == 0)
  (CallsV Tryd.prog n_trystlaw10_Pair_T #[.pointer p13, .int .i64 x_58] w24 (fun v_61 w25 =>
  ∃ x_62 : Int, v_61 = .int .i64 x_62 ∧
  cond ((x_54 : Int) != x_62)
  (R (.bool false) w25)
  (CallsV Tryd.prog n_trystlaw10_Pair_T #[.pointer p13, .int .i64 x_59] w25 (fun v_63 w26 =>
  ∃ x_64 : Int, v_63 = .int .i64 x_64 ∧
  cond ((x_55 : Int) != x_64)
  (R (.bool false) w26)
  (trystlaw23_OnionExact.c4 R secret2 x3 keys4 p13 b15 w26)))))
  (trystlaw23_OnionExact.c4 R secret2 x3 keys4 p13 b15 w24))))
  (cond ((x_60 : Int) == 0)
  (CallsV Tryd.prog n_trystlaw10_Pair_T #[.pointer p13, .int .i64 x_58] w24 (fun v_65 w27 =>
  ∃ x_66 : Int, v_65 = .int .i64 x_66 ∧
  cond ((x_54 : Int) != x_66)
  (R (.bool false) w27)
  (CallsV Tryd.prog n_trystlaw10_Pair_T #[.pointer p13, .int .i64 x_59] w27 (fun v_67 w28 =>
  ∃ x_68 : Int, v_67 = .int .i64 x_68 ∧
  cond ((x_55 : Int) != x_68)
  (R (.bool false) w28)
  (trystlaw23_OnionExact.c4 R secret2 x3 keys4 p13 b15 w28)))))
  (trystlaw23_OnionExact.c4 R secret2 x3 keys4 p13 b15 w24)))))))

def trystlaw23_OnionExact.c6 (R : Value → World → Prop) (pubs1 : Sl) (secret2 : Int) (x3 : Int) (keys4 : Sl) (p13 : Option Addr) (b15 : Option Addr) (o19 : Int) (k20 : Sl) (e21 : Int) (want22 : Int) (w : World) : Prop :=
  cond ((want22 : Int) != 0)
  (cond ((e21 : Int) != want22)
  (R (.bool false) w)
  (cond ((o19 : Int) != 0)
  (R (.bool false) w)
  (cond (decide ((((k20.len : Nat) : Int) : Int) > 0))
  (R (.bool false) w)
  (trystlaw23_OnionExact.c5 R secret2 x3 keys4 p13 b15 x3 w))))
  (CallsV Tryd.prog n_trystref22_Wrap #[.pointer b15, .slice pubs1.a pubs1.len pubs1.cap, .int .i64 secret2, .int .i64 x3] w (fun v_69 w29 =>
  ∃ x_70 : Int, ∃ (a_71 : Option Addr) (l_72 c_73 : Nat), v_69 = .tuple #[.int .i64 x_70, .slice a_71 l_72 c_73] ∧
  cond ((e21 : Int) != 0)
  (R (.bool false) w29)
  (CallsV Tryd.prog n_trystlaw10_Pair_T #[.pointer p13, .int .i64 x_70] w29 (fun v_74 w30 =>
  ∃ x_75 : Int, v_74 = .int .i64 x_75 ∧
  cond ((o19 : Int) != x_75)
  (R (.bool false) w30)
  (CallsV Tryd.prog n_trystlaw10_Pair_Ts #[.pointer p13, .slice a_71 l_72 c_73] w30 (fun v_76 w31 =>
  ∃ (a_77 : Option Addr) (l_78 c_79 : Nat), v_76 = .slice a_77 l_78 c_79 ∧
  CallsV Tryd.prog n_trystkeep_Ints #[.slice k20.a k20.len k20.cap, .slice a_77 l_78 c_79] w31 (fun v_80 w32 =>
  ∃ b_81 : Bool, v_80 = .bool b_81 ∧
  cond (!b_81)
  (R (.bool false) w32)
  (trystlaw23_OnionExact.c5 R secret2 x3 keys4 p13 b15 x_70 w32))))))))

def trystlaw23_OnionExact.c7 (R : Value → World → Prop) (pubs1 : Sl) (secret2 : Int) (x3 : Int) (keys4 : Sl) (p13 : Option Addr) (b15 : Option Addr) (o19 : Int) (k20 : Sl) (e21 : Int) (want22 : Int) (w : World) : Prop :=
  0 ≤ (0 : Int) ∧ 0 < ((pubs1.len : Nat) : Int) ∧ ∃ q_82 : Addr, pubs1.a = some q_82 ∧
  ∃ x_83 : Int, w.cell? (q_82.add (0 : Int).toNat) = some (.int .i64 x_83) ∧
  CallsV Tryd.prog n_trystref10_Arena_Is #[.pointer b15, .int .i64 x_83, .int .i64 5] w (fun v_84 w33 =>
  ∃ b_85 : Bool, v_84 = .bool b_85 ∧
  cond (!b_85)
  (trystlaw23_OnionExact.c6 R pubs1 secret2 x3 keys4 p13 b15 o19 k20 e21 6 w33)
  (0 ≤ (1 : Int) ∧ 1 < ((pubs1.len : Nat) : Int) ∧ ∃ q_86 : Addr, pubs1.a = some q_86 ∧
  ∃ x_87 : Int, w33.cell? (q_86.add (1 : Int).toNat) = some (.int .i64 x_87) ∧
  CallsV Tryd.prog n_trystref10_Arena_Is #[.pointer b15, .int .i64 x_87, .int .i64 5] w33 (fun v_88 w34 =>
  ∃ b_89 : Bool, v_88 = .bool b_89 ∧
  cond (!b_89)
  (trystlaw23_OnionExact.c6 R pubs1 secret2 x3 keys4 p13 b15 o19 k20 e21 6 w34)
  (0 ≤ (2 : Int) ∧ 2 < ((pubs1.len : Nat) : Int) ∧ ∃ q_90 : Addr, pubs1.a = some q_90 ∧
  ∃ x_91 : Int, w34.cell? (q_90.add (2 : Int).toNat) = some (.int .i64 x_91) ∧
  CallsV Tryd.prog n_trystref10_Arena_Is #[.pointer b15, .int .i64 x_91, .int .i64 5] w34 (fun v_92 w35 =>
  ∃ b_93 : Bool, v_92 = .bool b_93 ∧
  cond (!b_93)
  (trystlaw23_OnionExact.c6 R pubs1 secret2 x3 keys4 p13 b15 o19 k20 e21 6 w35)
  (trystlaw23_OnionExact.c6 R pubs1 secret2 x3 keys4 p13 b15 o19 k20 e21 want22 w35))))))

def trystlaw23_OnionExact.c8 (R : Value → World → Prop) (pubs1 : Sl) (secret2 : Int) (x3 : Int) (keys4 : Sl) (p13 : Option Addr) (b15 : Option Addr) (w : World) : Prop :=
  CallsV Tryd.prog n_trystlaw10_Pair_Ts #[.pointer p13, .slice pubs1.a pubs1.len pubs1.cap] w (fun v_94 w36 =>
  ∃ (a_95 : Option Addr) (l_96 c_97 : Nat), v_94 = .slice a_95 l_96 c_97 ∧
  CallsV Tryd.prog n_trystkeep_TwinInts #[.slice a_95 l_96 c_97] w36 (fun v_98 w37 =>
  ∃ (a_99 : Option Addr) (l_100 c_101 : Nat), v_98 = .slice a_99 l_100 c_101 ∧
  ∃ S_102 : World → Prop, S_102 w37.drew ∧
  ∃ q_103 : Addr, p13 = some q_103 ∧
  ∃ p_104 : Option Addr, (∀ x, S_102 x → x.cell? q_103 = some (.pointer p_104)) ∧
  CallsV Tryd.prog n_trystlaw10_Pair_T #[.pointer p13, .int .i64 secret2] w37.drew (fun v_105 w38 =>
  ∃ x_106 : Int, v_105 = .int .i64 x_106 ∧
  S_102 w38 ∧
  CallsV Tryd.prog n_trystlaw10_Pair_T #[.pointer p13, .int .i64 x3] w38 (fun v_107 w39 =>
  ∃ x_108 : Int, v_107 = .int .i64 x_108 ∧
  S_102 w39 ∧
  CallsV Tryd.prog n_onion_Wrap #[.pointer p_104, .slice a_99 l_100 c_101, .int .i64 x_106, .int .i64 x_108] w39 (fun v_109 w40 =>
  ∃ x_110 : Int, ∃ (a_111 : Option Addr) (l_112 c_113 : Nat), ∃ x_114 : Int, v_109 = .tuple #[.int .i64 x_110, .slice a_111 l_112 c_113, .int .i64 x_114] ∧
  CallsV Tryd.prog n_trystkeep_Ints #[.slice a_99 l_100 c_101, .slice a_95 l_96 c_97] w40 (fun v_115 w41 =>
  ∃ b_116 : Bool, v_115 = .bool b_116 ∧
  cond (!b_116)
  (R (.bool false) w41)
  (cond ((((pubs1.len : Nat) : Int) : Int) != 3)
  (trystlaw23_OnionExact.c6 R pubs1 secret2 x3 keys4 p13 b15 x_110 ⟨a_111, l_112, c_113⟩ x_114 2 w41)
  (CallsV Tryd.prog n_trystref10_Arena_Has #[.pointer b15, .slice pubs1.a pubs1.len pubs1.cap] w41 (fun v_117 w42 =>
  ∃ b_118 : Bool, v_117 = .bool b_118 ∧
  cond (!b_118)
  (trystlaw23_OnionExact.c6 R pubs1 secret2 x3 keys4 p13 b15 x_110 ⟨a_111, l_112, c_113⟩ x_114 8 w42)
  (let w43 := w42.alloc (.cells #[.int .i64 secret2, .int .i64 x3] 3);
  CallsV Tryd.prog n_trystref10_Arena_Has #[.pointer b15, .slice (some (newA w42)) 2 2] w43 (fun v_119 w44 =>
  ∃ b_120 : Bool, v_119 = .bool b_120 ∧
  cond (!b_120)
  (trystlaw23_OnionExact.c6 R pubs1 secret2 x3 keys4 p13 b15 x_110 ⟨a_111, l_112, c_113⟩ x_114 8 w44)
  (trystlaw23_OnionExact.c7 R pubs1 secret2 x3 keys4 p13 b15 x_110 ⟨a_111, l_112, c_113⟩ x_114 0 w44))))))))))))

def trystlaw23_OnionExact.c9 (R : Value → World → Prop) (pubs1 : Sl) (secret2 : Int) (x3 : Int) (keys4 : Sl) (p13 : Option Addr) (b15 : Option Addr) (w : World) : Prop :=
  let w45 := w.alloc (.cells #[.int .i64 x3] 3);
  ∃ q_121 : Addr, b15 = some q_121 ∧
  ∃ (a_122 : Option Addr) (l_123 c_124 : Nat), w45.cell? q_121 = some (.slice a_122 l_123 c_124) ∧
  CallsV Tryd.prog n_trystlaw10_Some #[.slice (some (newA w)) 1 1, .int .i64 ((l_123 : Nat) : Int)] w45 (fun v_125 w46 =>
  ∃ (a_126 : Option Addr) (l_127 c_128 : Nat), v_125 = .slice a_126 l_127 c_128 ∧
  0 ≤ (0 : Int) ∧ 0 < ((l_127 : Nat) : Int) ∧ ∃ q_129 : Addr, a_126 = some q_129 ∧
  ∃ x_130 : Int, w46.cell? (q_129.add (0 : Int).toNat) = some (.int .i64 x_130) ∧
  ∃ q_131 : Addr, b15 = some q_131 ∧
  ∃ (a_132 : Option Addr) (l_133 c_134 : Nat), w46.cell? q_131 = some (.slice a_132 l_133 c_134) ∧
  CallsV Tryd.prog n_trystlaw10_Some #[.slice keys4.a keys4.len keys4.cap, .int .i64 ((l_133 : Nat) : Int)] w46 (fun v_135 w47 =>
  ∃ (a_136 : Option Addr) (l_137 c_138 : Nat), v_135 = .slice a_136 l_137 c_138 ∧
  trystlaw23_OnionExact.c8 R pubs1 secret2 x_130 ⟨a_136, l_137, c_138⟩ p13 b15 w47))

def trystlaw23_OnionExact.b10 (R : Value → World → Prop) (N10 : Int → Int → Sl → Option Addr → Option Addr → Sl → Int → World → Prop) (secret2 : Int) (x3 : Int) (keys4 : Sl) (p13 : Option Addr) (b15 : Option Addr) (pubs1 : Sl) (i16 : Int) (w : World) : Prop :=
  cond (decide ((i16 : Int) < 3))
  (∃ q_139 : Addr, b15 = some q_139 ∧
  ∃ (a_140 : Option Addr) (l_141 c_142 : Nat), w.cell? q_139 = some (.slice a_140 l_141 c_142) ∧
  ((l_141 : Nat) : Int) ≠ 0 ∧
  CallsV Tryd.prog n_trystref10_Arena_Pub #[.pointer b15, .int .i64 (Int.tmod (IntKind.i64.wrap (secret2 + i16)) ((l_141 : Nat) : Int))] w (fun v_143 w48 =>
  ∃ x_144 : Int, v_143 = .int .i64 x_144 ∧
  let w49 := w48.alloc (.cells #[.int .i64 x_144] 3);
  ∃ (a_145 : Option Addr) (l_146 c_147 : Nat), ∃ w50 : World, (builtin .append #[29, 29] 29 #[] #[.slice pubs1.a pubs1.len pubs1.cap, .slice (some (newA w48)) 1 1]).run Tryd.prog w49 = .ok (.value (.slice a_145 l_146 c_147)) w50 ∧
  (let i16_147 : Int := (IntKind.i64.wrap (i16 + 1));
  N10 secret2 x3 keys4 p13 b15 ⟨a_145, l_146, c_147⟩ i16_147 w50)))
  (trystlaw23_OnionExact.c9 R pubs1 secret2 x3 keys4 p13 b15 w)

def trystlaw23_OnionExact.l10 (R : Value → World → Prop) (secret2 : Int) (x3 : Int) (keys4 : Sl) (p13 : Option Addr) (b15 : Option Addr) (pubs1 : Sl) (i16 : Int) (w : World) : Prop :=
  ∃ (I : (Sl × Int) → World → Prop) (μ : (Sl × Int) → World → Nat), I (pubs1, i16) w ∧ ∀ s w, I s w → trystlaw23_OnionExact.b10 R (fun secret2' x3' keys4' p13' b15' pubs1' i16' w' => (secret2' = secret2 ∧ x3' = x3 ∧ keys4' = keys4 ∧ p13' = p13 ∧ b15' = b15 ∧ I (pubs1', i16') w') ∧ μ (pubs1', i16') w' < μ s w) secret2 x3 keys4 p13 b15 s.1 s.2 w

def trystlaw23_OnionExact.c11 (R : Value → World → Prop) (secret2 : Int) (x3 : Int) (keys4 : Sl) (p13 : Option Addr) (b15 : Option Addr) (w : World) : Prop :=
  ∃ q_149 : Addr, b15 = some q_149 ∧
  ∃ (a_150 : Option Addr) (l_151 c_152 : Nat), w.cell? q_149 = some (.slice a_150 l_151 c_152) ∧
  ((l_151 : Nat) : Int) ≠ 0 ∧
  (let secret2_152 : Int := (Int.tmod secret2 ((l_151 : Nat) : Int));
  trystlaw23_OnionExact.l10 R secret2_152 x3 keys4 p13 b15 ⟨none, 0, 0⟩ 0 w)

def trystlaw23_OnionExact.c12 (R : Value → World → Prop) (l0 : Sl) (pubs1 : Sl) (secret2 : Int) (x3 : Int) (keys4 : Sl) (own5 : Bool) (w : World) : Prop :=
  CallsV Tryd.prog n_trystlaw10_Pairs #[.slice l0.a l0.len l0.cap] w (fun v_154 w51 =>
  ∃ p_155 : Option Addr, ∃ b_156 : Bool, v_154 = .tuple #[.pointer p_155, .bool b_156] ∧
  cond (!b_156)
  (R (.bool false) w51)
  (∃ q_157 : Addr, p_155 = some q_157 ∧
  ∃ p_158 : Option Addr, w51.cell? (q_157.add 1) = some (.pointer p_158) ∧
  cond own5
  (∃ q_159 : Addr, p_158 = some q_159 ∧
  ∃ (a_160 : Option Addr) (l_161 c_162 : Nat), w51.cell? q_159 = some (.slice a_160 l_161 c_162) ∧
  cond (decide ((((l_161 : Nat) : Int) : Int) > 0))
  (cond (decide ((secret2 : Int) ≥ 0))
  (trystlaw23_OnionExact.c11 R secret2 x3 keys4 p_155 p_158 w51)
  (trystlaw23_OnionExact.c8 R pubs1 secret2 x3 keys4 p_155 p_158 w51))
  (trystlaw23_OnionExact.c8 R pubs1 secret2 x3 keys4 p_155 p_158 w51))
  (trystlaw23_OnionExact.c8 R pubs1 secret2 x3 keys4 p_155 p_158 w51)))

def trystlaw23_OnionExact.main (R : Value → World → Prop) (l0 : Sl) (pubs1 : Sl) (secret2 : Int) (x3 : Int) (keys4 : Sl) (own5 : Bool) (w : World) : Prop :=
  CallsV Tryd.prog n_trystlaw10_Heavy #[.slice l0.a l0.len l0.cap] w (fun v_163 w52 =>
  ∃ b_164 : Bool, v_163 = .bool b_164 ∧
  cond b_164
  (R (.bool true) w52)
  (cond (decide ((((pubs1.len : Nat) : Int) : Int) > 10))
  (R (.bool true) w52)
  (cond (decide ((((keys4.len : Nat) : Int) : Int) > 10))
  (R (.bool true) w52)
  (trystlaw23_OnionExact.c12 R l0 pubs1 secret2 x3 keys4 own5 w52))))

def trystlaw23_OnionExact.J0 (R : Value → World → Prop) (k : Nat) (fr : Fr) (w : World) : Prop :=
  cond (Nat.beq k 12) (dec [(0, .slice), (1, .slice), (2, (.int .i64)), (3, (.int .i64)), (4, .slice), (5, .bool)] fr fun x => trystlaw23_OnionExact.c12 R x.1 x.2.1 x.2.2.1 x.2.2.2.1 x.2.2.2.2.1 x.2.2.2.2.2 w) (cond (Nat.beq k 11) (dec [(2, (.int .i64)), (3, (.int .i64)), (4, .slice), (13, .ptr), (15, .ptr)] fr fun x => trystlaw23_OnionExact.c11 R x.1 x.2.1 x.2.2.1 x.2.2.2.1 x.2.2.2.2 w) (cond (Nat.beq k 10) (dec [(2, (.int .i64)), (3, (.int .i64)), (4, .slice), (13, .ptr), (15, .ptr), (1, .slice), (16, (.int .i64))] fr fun x => trystlaw23_OnionExact.l10 R x.1 x.2.1 x.2.2.1 x.2.2.2.1 x.2.2.2.2.1 x.2.2.2.2.2.1 x.2.2.2.2.2.2 w) (cond (Nat.beq k 9) (dec [(1, .slice), (2, (.int .i64)), (3, (.int .i64)), (4, .slice), (13, .ptr), (15, .ptr)] fr fun x => trystlaw23_OnionExact.c9 R x.1 x.2.1 x.2.2.1 x.2.2.2.1 x.2.2.2.2.1 x.2.2.2.2.2 w) (cond (Nat.beq k 8) (dec [(1, .slice), (2, (.int .i64)), (3, (.int .i64)), (4, .slice), (13, .ptr), (15, .ptr)] fr fun x => trystlaw23_OnionExact.c8 R x.1 x.2.1 x.2.2.1 x.2.2.2.1 x.2.2.2.2.1 x.2.2.2.2.2 w) (cond (Nat.beq k 7) (dec [(1, .slice), (2, (.int .i64)), (3, (.int .i64)), (4, .slice), (13, .ptr), (15, .ptr), (19, (.int .i64)), (20, .slice), (21, (.int .i64)), (22, (.int .i64))] fr fun x => trystlaw23_OnionExact.c7 R x.1 x.2.1 x.2.2.1 x.2.2.2.1 x.2.2.2.2.1 x.2.2.2.2.2.1 x.2.2.2.2.2.2.1 x.2.2.2.2.2.2.2.1 x.2.2.2.2.2.2.2.2.1 x.2.2.2.2.2.2.2.2.2 w) (cond (Nat.beq k 6) (dec [(1, .slice), (2, (.int .i64)), (3, (.int .i64)), (4, .slice), (13, .ptr), (15, .ptr), (19, (.int .i64)), (20, .slice), (21, (.int .i64)), (22, (.int .i64))] fr fun x => trystlaw23_OnionExact.c6 R x.1 x.2.1 x.2.2.1 x.2.2.2.1 x.2.2.2.2.1 x.2.2.2.2.2.1 x.2.2.2.2.2.2.1 x.2.2.2.2.2.2.2.1 x.2.2.2.2.2.2.2.2.1 x.2.2.2.2.2.2.2.2.2 w) (cond (Nat.beq k 5) (dec [(2, (.int .i64)), (3, (.int .i64)), (4, .slice), (13, .ptr), (15, .ptr), (23, (.int .i64))] fr fun x => trystlaw23_OnionExact.c5 R x.1 x.2.1 x.2.2.1 x.2.2.2.1 x.2.2.2.2.1 x.2.2.2.2.2 w) (cond (Nat.beq k 4) (dec [(2, (.int .i64)), (3, (.int .i64)), (4, .slice), (13, .ptr), (15, .ptr)] fr fun x => trystlaw23_OnionExact.c4 R x.1 x.2.1 x.2.2.1 x.2.2.2.1 x.2.2.2.2 w) (cond (Nat.beq k 3) (dec [(3, (.int .i64)), (4, .slice), (13, .ptr), (15, .ptr)] fr fun x => trystlaw23_OnionExact.c3 R x.1 x.2.1 x.2.2.1 x.2.2.2 w) (cond (Nat.beq k 2) (dec [(21, (.int .i64)), (32, (.int .i64))] fr fun x => trystlaw23_OnionExact.c2 R x.1 x.2 w) (cond (Nat.beq k 1) (dec [(3, (.int .i64)), (4, .slice), (13, .ptr), (15, .ptr), (21, (.int .i64)), (32, (.int .i64))] fr fun x => trystlaw23_OnionExact.c1 R x.1 x.2.1 x.2.2.1 x.2.2.2.1 x.2.2.2.2.1 x.2.2.2.2.2 w) (False))))))))))))

set_option maxRecDepth 100000 in
theorem trystlaw23_OnionExact.lift {R : Value → World → Prop} {l0 : Sl} {pubs1 : Sl} {secret2 : Int} {x3 : Int} {keys4 : Sl} {own5 : Bool} {w : World} (h : trystlaw23_OnionExact.main R l0 pubs1 secret2 x3 keys4 own5 w) : CallsV Tryd.prog n_trystlaw23_OnionExact #[.slice l0.a l0.len l0.cap, .slice pubs1.a pubs1.len pubs1.cap, .int .i64 secret2, .int .i64 x3, .slice keys4.a keys4.len keys4.cap, .bool own5] w R :=
  liftCalls (c := (.seq (.leaf (cL (bd Tryd.f9))) (.seq (.seq (.leaf (cL (cL (cR (bd Tryd.f9))))) (.cnd (.tmp 45) (.seq (.leaf (cL (cT (cR (cL (cR (bd Tryd.f9))))))) (.leaf (cR (cT (cR (cL (cR (bd Tryd.f9)))))))) (.leaf (cE (cR (cL (cR (bd Tryd.f9)))))))) (.cut 12 (.seq (.leaf (cL (cR (cR (bd Tryd.f9))))) (.seq (.seq (.leaf (cL (cL (cR (cR (cR (bd Tryd.f9))))))) (.cnd (.tmp 52) (.seq (.leaf (cL (cT (cR (cL (cR (cR (cR (bd Tryd.f9))))))))) (.leaf (cR (cT (cR (cL (cR (cR (cR (bd Tryd.f9)))))))))) (.leaf (cE (cR (cL (cR (cR (cR (bd Tryd.f9)))))))))) (.seq (.leaf (cL (cR (cR (cR (cR (bd Tryd.f9))))))) (.seq (.seq (.leaf (cL (cL (cR (cR (cR (cR (cR (bd Tryd.f9))))))))) (.cnd (.tmp 69) (.cut 11 (.seq (.leaf (cL (cT (cR (cL (cR (cR (cR (cR (cR (bd Tryd.f9))))))))))) (.seq (.leaf (cL (cR (cT (cR (cL (cR (cR (cR (cR (cR (bd Tryd.f9)))))))))))) (.seq (.seq (.leaf (cL (cL (cR (cR (cT (cR (cL (cR (cR (cR (cR (cR (bd Tryd.f9)))))))))))))) (.block 0 (.loop 10 (.seq (.seq (.leaf (cL (cL (cB (cB (cR (cL (cR (cR (cT (cR (cL (cR (cR (cR (cR (cR (bd Tryd.f9)))))))))))))))))) (.cnd (.tmp 78) (.leaf (cT (cR (cL (cB (cB (cR (cL (cR (cR (cT (cR (cL (cR (cR (cR (cR (cR (bd Tryd.f9))))))))))))))))))) (.leaf (cE (cR (cL (cB (cB (cR (cL (cR (cR (cT (cR (cL (cR (cR (cR (cR (cR (bd Tryd.f9))))))))))))))))))))) (.seq (.block 1 (.leaf (cB (cL (cR (cB (cB (cR (cL (cR (cR (cT (cR (cL (cR (cR (cR (cR (cR (bd Tryd.f9)))))))))))))))))))) (.leaf (cR (cR (cB (cB (cR (cL (cR (cR (cT (cR (cL (cR (cR (cR (cR (cR (bd Tryd.f9))))))))))))))))))))))) (.cut 9 (.seq (.leaf (cL (cR (cR (cR (cT (cR (cL (cR (cR (cR (cR (cR (bd Tryd.f9)))))))))))))) (.leaf (cR (cR (cR (cR (cT (cR (cL (cR (cR (cR (cR (cR (bd Tryd.f9)))))))))))))))))))) (.leaf (cE (cR (cL (cR (cR (cR (cR (cR (bd Tryd.f9)))))))))))) (.cut 8 (.seq (.leaf (cL (cR (cR (cR (cR (cR (cR (bd Tryd.f9))))))))) (.seq (.leaf (cL (cR (cR (cR (cR (cR (cR (cR (bd Tryd.f9)))))))))) (.seq (.leaf (cL (cR (cR (cR (cR (cR (cR (cR (cR (bd Tryd.f9))))))))))) (.seq (.seq (.leaf (cL (cL (cR (cR (cR (cR (cR (cR (cR (cR (cR (bd Tryd.f9))))))))))))) (.cnd (.tmp 136) (.seq (.leaf (cL (cT (cR (cL (cR (cR (cR (cR (cR (cR (cR (cR (cR (bd Tryd.f9))))))))))))))) (.leaf (cR (cT (cR (cL (cR (cR (cR (cR (cR (cR (cR (cR (cR (bd Tryd.f9)))))))))))))))) (.leaf (cE (cR (cL (cR (cR (cR (cR (cR (cR (cR (cR (cR (bd Tryd.f9)))))))))))))))) (.seq (.leaf (cL (cR (cR (cR (cR (cR (cR (cR (cR (cR (cR (bd Tryd.f9))))))))))))) (.seq (.seq (.leaf (cL (cL (cR (cR (cR (cR (cR (cR (cR (cR (cR (cR (cR (bd Tryd.f9))))))))))))))) (.cnd (.tmp 139) (.leaf (cT (cR (cL (cR (cR (cR (cR (cR (cR (cR (cR (cR (cR (cR (bd Tryd.f9)))))))))))))))) (.seq (.leaf (cL (cE (cR (cL (cR (cR (cR (cR (cR (cR (cR (cR (cR (cR (cR (bd Tryd.f9))))))))))))))))) (.cnd (.tmp 151) (.leaf (cT (cR (cE (cR (cL (cR (cR (cR (cR (cR (cR (cR (cR (cR (cR (cR (bd Tryd.f9)))))))))))))))))) (.cut 7 (.seq (.leaf (cL (cE (cR (cE (cR (cL (cR (cR (cR (cR (cR (cR (cR (cR (cR (cR (cR (bd Tryd.f9))))))))))))))))))) (.cnd (.tmp 173) (.leaf (cT (cR (cE (cR (cE (cR (cL (cR (cR (cR (cR (cR (cR (cR (cR (cR (cR (cR (bd Tryd.f9)))))))))))))))))))) (.leaf (cE (cR (cE (cR (cE (cR (cL (cR (cR (cR (cR (cR (cR (cR (cR (cR (cR (cR (bd Tryd.f9))))))))))))))))))))))))))) (.cut 6 (.seq (.leaf (cL (cR (cR (cR (cR (cR (cR (cR (cR (cR (cR (cR (cR (bd Tryd.f9))))))))))))))) (.seq (.seq (.leaf (cL (cL (cR (cR (cR (cR (cR (cR (cR (cR (cR (cR (cR (cR (cR (bd Tryd.f9))))))))))))))))) (.cnd (.tmp 176) (.seq (.leaf (cL (cT (cR (cL (cR (cR (cR (cR (cR (cR (cR (cR (cR (cR (cR (cR (cR (bd Tryd.f9))))))))))))))))))) (.cnd (.tmp 188) (.seq (.leaf (cL (cT (cR (cT (cR (cL (cR (cR (cR (cR (cR (cR (cR (cR (cR (cR (cR (cR (cR (bd Tryd.f9))))))))))))))))))))) (.leaf (cR (cT (cR (cT (cR (cL (cR (cR (cR (cR (cR (cR (cR (cR (cR (cR (cR (cR (cR (bd Tryd.f9)))))))))))))))))))))) (.leaf (cE (cR (cT (cR (cL (cR (cR (cR (cR (cR (cR (cR (cR (cR (cR (cR (cR (cR (bd Tryd.f9)))))))))))))))))))))) (.seq (.leaf (cL (cE (cR (cL (cR (cR (cR (cR (cR (cR (cR (cR (cR (cR (cR (cR (cR (bd Tryd.f9))))))))))))))))))) (.seq (.seq (.leaf (cL (cL (cR (cE (cR (cL (cR (cR (cR (cR (cR (cR (cR (cR (cR (cR (cR (cR (cR (bd Tryd.f9))))))))))))))))))))) (.cnd (.tmp 213) (.seq (.leaf (cL (cT (cR (cL (cR (cE (cR (cL (cR (cR (cR (cR (cR (cR (cR (cR (cR (cR (cR (cR (cR (bd Tryd.f9))))))))))))))))))))))) (.leaf (cR (cT (cR (cL (cR (cE (cR (cL (cR (cR (cR (cR (cR (cR (cR (cR (cR (cR (cR (cR (cR (bd Tryd.f9)))))))))))))))))))))))) (.leaf (cE (cR (cL (cR (cE (cR (cL (cR (cR (cR (cR (cR (cR (cR (cR (cR (cR (cR (cR (cR (bd Tryd.f9)))))))))))))))))))))))) (.leaf (cR (cR (cE (cR (cL (cR (cR (cR (cR (cR (cR (cR (cR (cR (cR (cR (cR (cR (bd Tryd.f9)))))))))))))))))))))))) (.cut 5 (.seq (.leaf (cL (cR (cR (cR (cR (cR (cR (cR (cR (cR (cR (cR (cR (cR (cR (bd Tryd.f9))))))))))))))))) (.seq (.leaf (cL (cR (cR (cR (cR (cR (cR (cR (cR (cR (cR (cR (cR (cR (cR (cR (bd Tryd.f9)))))))))))))))))) (.seq (.seq (.leaf (cL (cL (cR (cR (cR (cR (cR (cR (cR (cR (cR (cR (cR (cR (cR (cR (cR (cR (bd Tryd.f9)))))))))))))))))))) (.cnd (.tmp 270) (.seq (.leaf (cL (cT (cR (cL (cR (cR (cR (cR (cR (cR (cR (cR (cR (cR (cR (cR (cR (cR (cR (cR (bd Tryd.f9)))))))))))))))))))))) (.leaf (cR (cT (cR (cL (cR (cR (cR (cR (cR (cR (cR (cR (cR (cR (cR (cR (cR (cR (cR (cR (bd Tryd.f9))))))))))))))))))))))) (.leaf (cE (cR (cL (cR (cR (cR (cR (cR (cR (cR (cR (cR (cR (cR (cR (cR (cR (cR (cR (bd Tryd.f9))))))))))))))))))))))) (.cut 4 (.seq (.leaf (cL (cR (cR (cR (cR (cR (cR (cR (cR (cR (cR (cR (cR (cR (cR (cR (cR (cR (bd Tryd.f9)))))))))))))))))))) (.seq (.seq (.leaf (cL (cL (cR (cR (cR (cR (cR (cR (cR (cR (cR (cR (cR (cR (cR (cR (cR (cR (cR (cR (bd Tryd.f9)))))))))))))))))))))) (.cnd (.tmp 290) (.seq (.leaf (cL (cT (cR (cL (cR (cR (cR (cR (cR (cR (cR (cR (cR (cR (cR (cR (cR (cR (cR (cR (cR (cR (bd Tryd.f9)))))))))))))))))))))))) (.cnd (.tmp 296) (.seq (.leaf (cL (cT (cR (cT (cR (cL (cR (cR (cR (cR (cR (cR (cR (cR (cR (cR (cR (cR (cR (cR (cR (cR (cR (cR (bd Tryd.f9)))))))))))))))))))))))))) (.leaf (cR (cT (cR (cT (cR (cL (cR (cR (cR (cR (cR (cR (cR (cR (cR (cR (cR (cR (cR (cR (cR (cR (cR (cR (bd Tryd.f9))))))))))))))))))))))))))) (.leaf (cE (cR (cT (cR (cL (cR (cR (cR (cR (cR (cR (cR (cR (cR (cR (cR (cR (cR (cR (cR (cR (cR (cR (bd Tryd.f9))))))))))))))))))))))))))) (.seq (.leaf (cL (cE (cR (cL (cR (cR (cR (cR (cR (cR (cR (cR (cR (cR (cR (cR (cR (cR (cR (cR (cR (cR (bd Tryd.f9)))))))))))))))))))))))) (.cnd (.tmp 309) (.seq (.leaf (cL (cT (cR (cE (cR (cL (cR (cR (cR (cR (cR (cR (cR (cR (cR (cR (cR (cR (cR (cR (cR (cR (cR (cR (bd Tryd.f9)))))))))))))))))))))))))) (.leaf (cR (cT (cR (cE (cR (cL (cR (cR (cR (cR (cR (cR (cR (cR (cR (cR (cR (cR (cR (cR (cR (cR (cR (cR (bd Tryd.f9))))))))))))))))))))))))))) (.leaf (cE (cR (cE (cR (cL (cR (cR (cR (cR (cR (cR (cR (cR (cR (cR (cR (cR (cR (cR (cR (cR (cR (cR (bd Tryd.f9))))))))))))))))))))))))))))) (.cut 3 (.seq (.leaf (cL (cR (cR (cR (cR (cR (cR (cR (cR (cR (cR (cR (cR (cR (cR (cR (cR (cR (cR (cR (bd Tryd.f9)))))))))))))))))))))) (.seq (.seq (.leaf (cL (cL (cR (cR (cR (cR (cR (cR (cR (cR (cR (cR (cR (cR (cR (cR (cR (cR (cR (cR (cR (cR (bd Tryd.f9)))))))))))))))))))))))) (.cnd (.tmp 326) (.seq (.leaf (cL (cT (cR (cL (cR (cR (cR (cR (cR (cR (cR (cR (cR (cR (cR (cR (cR (cR (cR (cR (cR (cR (cR (cR (bd Tryd.f9)))))))))))))))))))))))))) (.leaf (cR (cT (cR (cL (cR (cR (cR (cR (cR (cR (cR (cR (cR (cR (cR (cR (cR (cR (cR (cR (cR (cR (cR (cR (bd Tryd.f9))))))))))))))))))))))))))) (.leaf (cE (cR (cL (cR (cR (cR (cR (cR (cR (cR (cR (cR (cR (cR (cR (cR (cR (cR (cR (cR (cR (cR (cR (bd Tryd.f9))))))))))))))))))))))))))) (.seq (.seq (.leaf (cL (cL (cR (cR (cR (cR (cR (cR (cR (cR (cR (cR (cR (cR (cR (cR (cR (cR (cR (cR (cR (cR (cR (bd Tryd.f9))))))))))))))))))))))))) (.cnd (.tmp 346) (.cut 2 (.seq (.leaf (cL (cT (cR (cL (cR (cR (cR (cR (cR (cR (cR (cR (cR (cR (cR (cR (cR (cR (cR (cR (cR (cR (cR (cR (cR (bd Tryd.f9))))))))))))))))))))))))))) (.leaf (cR (cT (cR (cL (cR (cR (cR (cR (cR (cR (cR (cR (cR (cR (cR (cR (cR (cR (cR (cR (cR (cR (cR (cR (cR (bd Tryd.f9))))))))))))))))))))))))))))) (.leaf (cE (cR (cL (cR (cR (cR (cR (cR (cR (cR (cR (cR (cR (cR (cR (cR (cR (cR (cR (cR (cR (cR (cR (cR (bd Tryd.f9)))))))))))))))))))))))))))) (.cut 1 (.seq (.leaf (cL (cR (cR (cR (cR (cR (cR (cR (cR (cR (cR (cR (cR (cR (cR (cR (cR (cR (cR (cR (cR (cR (cR (bd Tryd.f9))))))))))))))))))))))))) (.seq (.seq (.leaf (cL (cL (cR (cR (cR (cR (cR (cR (cR (cR (cR (cR (cR (cR (cR (cR (cR (cR (cR (cR (cR (cR (cR (cR (cR (bd Tryd.f9))))))))))))))))))))))))))) (.cnd (.tmp 364) (.seq (.leaf (cL (cT (cR (cL (cR (cR (cR (cR (cR (cR (cR (cR (cR (cR (cR (cR (cR (cR (cR (cR (cR (cR (cR (cR (cR (cR (cR (bd Tryd.f9))))))))))))))))))))))))))))) (.leaf (cR (cT (cR (cL (cR (cR (cR (cR (cR (cR (cR (cR (cR (cR (cR (cR (cR (cR (cR (cR (cR (cR (cR (cR (cR (cR (cR (bd Tryd.f9)))))))))))))))))))))))))))))) (.leaf (cE (cR (cL (cR (cR (cR (cR (cR (cR (cR (cR (cR (cR (cR (cR (cR (cR (cR (cR (cR (cR (cR (cR (cR (cR (cR (bd Tryd.f9)))))))))))))))))))))))))))))) (.seq (.leaf (cL (cR (cR (cR (cR (cR (cR (cR (cR (cR (cR (cR (cR (cR (cR (cR (cR (cR (cR (cR (cR (cR (cR (cR (cR (bd Tryd.f9))))))))))))))))))))))))))) (.leaf (cR (cR (cR (cR (cR (cR (cR (cR (cR (cR (cR (cR (cR (cR (cR (cR (cR (cR (cR (cR (cR (cR (cR (cR (cR (bd Tryd.f9)))))))))))))))))))))))))))))))))))))))))))))))))))))))))))) (J := trystlaw23_OnionExact.J0 R) LfYtoclhecldmahiaaDoor.mixed Tryd.func9 (by kernel_rfl) (by kernel_rfl) (mkSeq (mkSeq (mkCut (cutDef [(0, .slice), (1, .slice), (2, (.int .i64)), (3, (.int .i64)), (4, .slice), (5, .bool)] (fun x w => trystlaw23_OnionExact.c12 R x.1 x.2.1 x.2.2.1 x.2.2.2.1 x.2.2.2.2.1 x.2.2.2.2.2 w) (fun _ _ => by kernel_rfl) (fun _ _ => by kernel_rfl)) (mkSeq (mkSeq (mkSeq (mkSeq (mkCut (cutDef [(1, .slice), (2, (.int .i64)), (3, (.int .i64)), (4, .slice), (13, .ptr), (15, .ptr)] (fun x w => trystlaw23_OnionExact.c8 R x.1 x.2.1 x.2.2.1 x.2.2.2.1 x.2.2.2.2.1 x.2.2.2.2.2 w) (fun _ _ => by kernel_rfl) (fun _ _ => by kernel_rfl)) (mkSeq (mkSeq (mkSeq (mkSeq (mkSeq (mkSeq (mkCut (cutDef [(1, .slice), (2, (.int .i64)), (3, (.int .i64)), (4, .slice), (13, .ptr), (15, .ptr), (19, (.int .i64)), (20, .slice), (21, (.int .i64)), (22, (.int .i64))] (fun x w => trystlaw23_OnionExact.c6 R x.1 x.2.1 x.2.2.1 x.2.2.2.1 x.2.2.2.2.1 x.2.2.2.2.2.1 x.2.2.2.2.2.2.1 x.2.2.2.2.2.2.2.1 x.2.2.2.2.2.2.2.2.1 x.2.2.2.2.2.2.2.2.2 w) (fun _ _ => by kernel_rfl) (fun _ _ => by kernel_rfl)) (mkSeq (mkSeq (mkCut (cutDef [(2, (.int .i64)), (3, (.int .i64)), (4, .slice), (13, .ptr), (15, .ptr), (23, (.int .i64))] (fun x w => trystlaw23_OnionExact.c5 R x.1 x.2.1 x.2.2.1 x.2.2.2.1 x.2.2.2.2.1 x.2.2.2.2.2 w) (fun _ _ => by kernel_rfl) (fun _ _ => by kernel_rfl)) (mkSeq (mkSeq (mkSeq (mkCut (cutDef [(2, (.int .i64)), (3, (.int .i64)), (4, .slice), (13, .ptr), (15, .ptr)] (fun x w => trystlaw23_OnionExact.c4 R x.1 x.2.1 x.2.2.1 x.2.2.2.1 x.2.2.2.2 w) (fun _ _ => by kernel_rfl) (fun _ _ => by kernel_rfl)) (mkSeq (mkSeq (mkCut (cutDef [(3, (.int .i64)), (4, .slice), (13, .ptr), (15, .ptr)] (fun x w => trystlaw23_OnionExact.c3 R x.1 x.2.1 x.2.2.1 x.2.2.2 w) (fun _ _ => by kernel_rfl) (fun _ _ => by kernel_rfl)) (mkSeq (mkSeq (mkSeq (mkCut (cutDef [(3, (.int .i64)), (4, .slice), (13, .ptr), (15, .ptr), (21, (.int .i64)), (32, (.int .i64))] (fun x w => trystlaw23_OnionExact.c1 R x.1 x.2.1 x.2.2.1 x.2.2.2.1 x.2.2.2.2.1 x.2.2.2.2.2 w) (fun _ _ => by kernel_rfl) (fun _ _ => by kernel_rfl)) (mkSeq (mkSeq (mkSeq mkLeaf mkLeaf) (mkSeq (mkCnd (mkSeq mkLeaf mkLeaf) mkLeaf) mkLeaf)) mkLeaf)) (mkSeq (mkCnd (mkCut (cutDef [(21, (.int .i64)), (32, (.int .i64))] (fun x w => trystlaw23_OnionExact.c2 R x.1 x.2 w) (fun _ _ => by kernel_rfl) (fun _ _ => by kernel_rfl)) (mkSeq mkLeaf mkLeaf)) mkLeaf) mkLeaf)) (mkSeq (mkCnd (mkSeq mkLeaf mkLeaf) mkLeaf) mkLeaf)) mkLeaf)) (mkSeq (mkCnd (mkSeq (mkCnd (mkSeq mkLeaf mkLeaf) mkLeaf) mkLeaf) (mkSeq (mkCnd (mkSeq mkLeaf mkLeaf) mkLeaf) mkLeaf)) mkLeaf)) mkLeaf)) (mkSeq (mkCnd (mkSeq mkLeaf mkLeaf) mkLeaf) mkLeaf)) mkLeaf) mkLeaf)) (mkSeq (mkCnd (mkSeq (mkCnd (mkSeq mkLeaf mkLeaf) mkLeaf) mkLeaf) (mkSeq (mkSeq mkLeaf (mkSeq (mkCnd (mkSeq mkLeaf mkLeaf) mkLeaf) mkLeaf)) mkLeaf)) mkLeaf)) mkLeaf)) (mkSeq (mkCnd mkLeaf (mkSeq (mkCnd mkLeaf (mkCut (cutDef [(1, .slice), (2, (.int .i64)), (3, (.int .i64)), (4, .slice), (13, .ptr), (15, .ptr), (19, (.int .i64)), (20, .slice), (21, (.int .i64)), (22, (.int .i64))] (fun x w => trystlaw23_OnionExact.c7 R x.1 x.2.1 x.2.2.1 x.2.2.2.1 x.2.2.2.2.1 x.2.2.2.2.2.1 x.2.2.2.2.2.2.1 x.2.2.2.2.2.2.2.1 x.2.2.2.2.2.2.2.2.1 x.2.2.2.2.2.2.2.2.2 w) (fun _ _ => by kernel_rfl) (fun _ _ => by kernel_rfl)) (mkSeq (mkCnd mkLeaf mkLeaf) mkLeaf))) mkLeaf)) mkLeaf)) mkLeaf) (mkSeq (mkCnd (mkSeq mkLeaf mkLeaf) mkLeaf) mkLeaf)) mkLeaf) mkLeaf) mkLeaf)) (mkSeq (mkCnd (mkCut (cutDef [(2, (.int .i64)), (3, (.int .i64)), (4, .slice), (13, .ptr), (15, .ptr)] (fun x w => trystlaw23_OnionExact.c11 R x.1 x.2.1 x.2.2.1 x.2.2.2.1 x.2.2.2.2 w) (fun _ _ => by kernel_rfl) (fun _ _ => by kernel_rfl)) (mkSeq (mkSeq (mkSeq (mkCut (cutDef [(1, .slice), (2, (.int .i64)), (3, (.int .i64)), (4, .slice), (13, .ptr), (15, .ptr)] (fun x w => trystlaw23_OnionExact.c9 R x.1 x.2.1 x.2.2.1 x.2.2.2.1 x.2.2.2.2.1 x.2.2.2.2.2 w) (fun _ _ => by kernel_rfl) (fun _ _ => by kernel_rfl)) (mkSeq mkLeaf mkLeaf)) (mkSeq (mkBlock (mkLoop (loopDef LfYtoclhecldmahiaaDoor.mixed [(2, (.int .i64)), (3, (.int .i64)), (4, .slice), (13, .ptr), (15, .ptr), (1, .slice), (16, (.int .i64))] (by kernel_rfl) (fun M10 x w => trystlaw23_OnionExact.b10 R (fun y0 y1 y2 y3 y4 y5 y6 w => M10 (y0, y1, y2, y3, y4, y5, y6) w) x.1 x.2.1 x.2.2.1 x.2.2.2.1 x.2.2.2.2.1 x.2.2.2.2.2.1 x.2.2.2.2.2.2 w) (fun M10 => fun _ _ _ => False) (fun _ _ _ => by kernel_rfl) (fun M10 => (mkSeq (mkSeq mkLeaf (mkBlock mkLeaf)) (mkSeq (mkCnd mkLeaf mkLeaf) mkLeaf))) (fun x w => trystlaw23_OnionExact.l10 R x.1 x.2.1 x.2.2.1 x.2.2.2.1 x.2.2.2.2.1 x.2.2.2.2.2.1 x.2.2.2.2.2.2 w) (by rintro ⟨c0, c1, c2, c3, c4, s0⟩ w ⟨I, μ, h0, h1⟩; refine ⟨fun y w => y.1 = c0 ∧ y.2.1 = c1 ∧ y.2.2.1 = c2 ∧ y.2.2.2.1 = c3 ∧ y.2.2.2.2.1 = c4 ∧ I y.2.2.2.2.2 w, fun y w => μ y.2.2.2.2.2 w, ⟨rfl, rfl, rfl, rfl, rfl, h0⟩, ?_⟩; rintro ⟨d0, d1, d2, d3, d4, t0⟩ w ⟨e0, e1, e2, e3, e4, hI⟩; dsimp only at e0 e1 e2 e3 e4 hI; subst e0; subst e1; subst e2; subst e3; subst e4; exact h1 _ _ hI) (fun _ _ => by kernel_rfl)))) mkLeaf)) mkLeaf) mkLeaf)) mkLeaf) mkLeaf)) mkLeaf) (mkSeq (mkCnd (mkSeq mkLeaf mkLeaf) mkLeaf) mkLeaf)) mkLeaf)) (mkSeq (mkCnd (mkSeq mkLeaf mkLeaf) mkLeaf) mkLeaf)) mkLeaf) (kcast (by kernel_rfl) h)

/-! trystlaw23_OnionBack -/
def trystlaw23_OnionBack.c1 (R : Value → World → Prop) (answer3 : Int) (a11 : Option Addr) (keys23 : Sl) (x25 : Int) (w : World) : Prop :=
  CallsV Tryd.prog n_onion_Read #[.pointer a11, .slice keys23.a keys23.len keys23.cap, .int .i64 x25] w (fun v_1 w1 =>
  ∃ x_2 : Int, ∃ x_3 : Int, v_1 = .tuple #[.int .i64 x_2, .int .i64 x_3] ∧
  cond ((x_3 : Int) == 0)
  (cond ((x_2 : Int) == answer3)
  (CallsV Tryd.prog n_trystlaw23_wakes #[] w1 (fun v_4 w2 =>
  ∃ b_5 : Bool, v_4 = .bool b_5 ∧
  R (.bool b_5) w2))
  (R (.bool false) w1))
  (R (.bool false) w1))

def trystlaw23_OnionBack.b2 (R : Value → World → Prop) (N2 : Int → Option Addr → Sl → Int → Int → World → Prop) (answer3 : Int) (a11 : Option Addr) (keys23 : Sl) (x25 : Int) (i30 : Int) (w : World) : Prop :=
  cond (decide ((i30 : Int) ≥ 0))
  (0 ≤ (i30 : Int) ∧ i30 < ((keys23.len : Nat) : Int) ∧ ∃ q_6 : Addr, keys23.a = some q_6 ∧
  ∃ x_7 : Int, w.cell? (q_6.add (i30 : Int).toNat) = some (.int .i64 x_7) ∧
  CallsV Tryd.prog n_onion_Back #[.pointer a11, .int .i64 x_7, .int .i64 x25] w (fun v_8 w3 =>
  ∃ x_9 : Int, ∃ x_10 : Int, v_8 = .tuple #[.int .i64 x_9, .int .i64 x_10] ∧
  cond ((x_10 : Int) != 0)
  (R (.bool false) w3)
  ((let i30_10 : Int := (IntKind.i64.wrap (i30 - 1));
  N2 answer3 a11 keys23 x_9 i30_10 w3))))
  (trystlaw23_OnionBack.c1 R answer3 a11 keys23 x25 w)

def trystlaw23_OnionBack.l2 (R : Value → World → Prop) (answer3 : Int) (a11 : Option Addr) (keys23 : Sl) (x25 : Int) (i30 : Int) (w : World) : Prop :=
  ∃ (I : (Int × Int) → World → Prop) (μ : (Int × Int) → World → Nat), I (x25, i30) w ∧ ∀ s w, I s w → trystlaw23_OnionBack.b2 R (fun answer3' a11' keys23' x25' i30' w' => (answer3' = answer3 ∧ a11' = a11 ∧ keys23' = keys23 ∧ I (x25', i30') w') ∧ μ (x25', i30') w' < μ s w) answer3 a11 keys23 s.1 s.2 w

def trystlaw23_OnionBack.c3 (R : Value → World → Prop) (payload2 : Int) (answer3 : Int) (a11 : Option Addr) (keys23 : Sl) (x25 : Int) (w : World) : Prop :=
  cond ((x25 : Int) != payload2)
  (R (.bool false) w)
  (trystlaw23_OnionBack.l2 R answer3 a11 keys23 answer3 2 w)

def trystlaw23_OnionBack.c5 (R : Value → World → Prop) (N4 : Int → Int → Int → Option Addr → Sl → Sl → Int → Int → World → Prop) (payload2 : Int) (answer3 : Int) (other4 : Int) (a11 : Option Addr) (s15 : Sl) (keys23 : Sl) (x25 : Int) (i26 : Int) (w : World) : Prop :=
  0 ≤ (i26 : Int) ∧ i26 < ((s15.len : Nat) : Int) ∧ ∃ q_12 : Addr, s15.a = some q_12 ∧
  ∃ x_13 : Int, w.cell? (q_12.add (i26 : Int).toNat) = some (.int .i64 x_13) ∧
  CallsV Tryd.prog n_onion_Peel #[.pointer a11, .int .i64 x_13, .int .i64 x25] w (fun v_14 w4 =>
  ∃ x_15 : Int, ∃ x_16 : Int, ∃ x_17 : Int, v_14 = .tuple #[.int .i64 x_15, .int .i64 x_16, .int .i64 x_17] ∧
  cond ((x_17 : Int) != 0)
  (R (.bool false) w4)
  (0 ≤ (i26 : Int) ∧ i26 < ((keys23.len : Nat) : Int) ∧ ∃ q_18 : Addr, keys23.a = some q_18 ∧
  ∃ x_19 : Int, w4.cell? (q_18.add (i26 : Int).toNat) = some (.int .i64 x_19) ∧
  cond ((x_16 : Int) != x_19)
  (R (.bool false) w4)
  ((let i26_19 : Int := (IntKind.i64.wrap (i26 + 1));
  N4 payload2 answer3 other4 a11 s15 keys23 x_15 i26_19 w4))))

def trystlaw23_OnionBack.b4 (R : Value → World → Prop) (N4 : Int → Int → Int → Option Addr → Sl → Sl → Int → Int → World → Prop) (payload2 : Int) (answer3 : Int) (other4 : Int) (a11 : Option Addr) (s15 : Sl) (keys23 : Sl) (x25 : Int) (i26 : Int) (w : World) : Prop :=
  cond (decide ((i26 : Int) < 3))
  (0 ≤ (i26 : Int) ∧ i26 < ((s15.len : Nat) : Int) ∧ ∃ q_21 : Addr, s15.a = some q_21 ∧
  ∃ x_22 : Int, w.cell? (q_21.add (i26 : Int).toNat) = some (.int .i64 x_22) ∧
  cond ((other4 : Int) != x_22)
  (CallsV Tryd.prog n_onion_Peel #[.pointer a11, .int .i64 other4, .int .i64 x25] w (fun v_23 w5 =>
  ∃ x_24 : Int, ∃ x_25 : Int, ∃ x_26 : Int, v_23 = .tuple #[.int .i64 x_24, .int .i64 x_25, .int .i64 x_26] ∧
  cond ((x_26 : Int) != 3)
  (R (.bool false) w5)
  (trystlaw23_OnionBack.c5 R N4 payload2 answer3 other4 a11 s15 keys23 x25 i26 w5)))
  (trystlaw23_OnionBack.c5 R N4 payload2 answer3 other4 a11 s15 keys23 x25 i26 w))
  (trystlaw23_OnionBack.c3 R payload2 answer3 a11 keys23 x25 w)

def trystlaw23_OnionBack.l4 (R : Value → World → Prop) (payload2 : Int) (answer3 : Int) (other4 : Int) (a11 : Option Addr) (s15 : Sl) (keys23 : Sl) (x25 : Int) (i26 : Int) (w : World) : Prop :=
  ∃ (I : (Int × Int) → World → Prop) (μ : (Int × Int) → World → Nat), I (x25, i26) w ∧ ∀ s w, I s w → trystlaw23_OnionBack.b4 R (fun payload2' answer3' other4' a11' s15' keys23' x25' i26' w' => (payload2' = payload2 ∧ answer3' = answer3 ∧ other4' = other4 ∧ a11' = a11 ∧ s15' = s15 ∧ keys23' = keys23 ∧ I (x25', i26') w') ∧ μ (x25', i26') w' < μ s w) payload2 answer3 other4 a11 s15 keys23 s.1 s.2 w

def trystlaw23_OnionBack.c6 (R : Value → World → Prop) (payload2 : Int) (answer3 : Int) (other4 : Int) (a11 : Option Addr) (s15 : Sl) (o22 : Int) (keys23 : Sl) (w : World) : Prop :=
  trystlaw23_OnionBack.l4 R payload2 answer3 other4 a11 s15 keys23 o22 0 w

def trystlaw23_OnionBack.c7 (R : Value → World → Prop) (secret1 : Int) (payload2 : Int) (answer3 : Int) (other4 : Int) (a11 : Option Addr) (s15 : Sl) (pubs16 : Sl) (w : World) : Prop :=
  CallsV Tryd.prog n_onion_Wrap #[.pointer a11, .slice pubs16.a pubs16.len pubs16.cap, .int .i64 secret1, .int .i64 payload2] w (fun v_27 w6 =>
  ∃ x_28 : Int, ∃ (a_29 : Option Addr) (l_30 c_31 : Nat), ∃ x_32 : Int, v_27 = .tuple #[.int .i64 x_28, .slice a_29 l_30 c_31, .int .i64 x_32] ∧
  cond ((x_32 : Int) != 0)
  (R (.bool false) w6)
  (cond ((((l_30 : Nat) : Int) : Int) != 3)
  (R (.bool false) w6)
  (trystlaw23_OnionBack.c6 R payload2 answer3 other4 a11 s15 x_28 ⟨a_29, l_30, c_31⟩ w6)))

def trystlaw23_OnionBack.c9 (R : Value → World → Prop) (N8 : Int → Int → Int → Int → Option Addr → Sl → Sl → Int → World → Prop) (secret1 : Int) (payload2 : Int) (answer3 : Int) (other4 : Int) (a11 : Option Addr) (s15 : Sl) (pubs16 : Sl) (i17 : Int) (x18 : Int) (y20 : Int) (w : World) : Prop :=
  let w7 := w.alloc (.cells #[.int .i64 x18] 3);
  ∃ (a_33 : Option Addr) (l_34 c_35 : Nat), ∃ w8 : World, (builtin .append #[29, 29] 29 #[] #[.slice s15.a s15.len s15.cap, .slice (some (newA w)) 1 1]).run Tryd.prog w7 = .ok (.value (.slice a_33 l_34 c_35)) w8 ∧
  let w9 := w8.alloc (.cells #[.int .i64 y20] 3);
  ∃ (a_36 : Option Addr) (l_37 c_38 : Nat), ∃ w10 : World, (builtin .append #[29, 29] 29 #[] #[.slice pubs16.a pubs16.len pubs16.cap, .slice (some (newA w8)) 1 1]).run Tryd.prog w9 = .ok (.value (.slice a_36 l_37 c_38)) w10 ∧
  (let i17_38 : Int := (IntKind.i64.wrap (i17 + 1));
  N8 secret1 payload2 answer3 other4 a11 ⟨a_33, l_34, c_35⟩ ⟨a_36, l_37, c_38⟩ i17_38 w10)

def trystlaw23_OnionBack.b8 (R : Value → World → Prop) (N8 : Int → Int → Int → Int → Option Addr → Sl → Sl → Int → World → Prop) (secret1 : Int) (payload2 : Int) (answer3 : Int) (other4 : Int) (a11 : Option Addr) (s15 : Sl) (pubs16 : Sl) (i17 : Int) (w : World) : Prop :=
  cond (decide ((i17 : Int) < 3))
  (CallsV Tryd.prog n_term_Arena_Make #[.pointer a11, .int .i64 1, .int .i64 (IntKind.i64.wrap (7000 + i17)), .slice none 0 0] w (fun v_40 w11 =>
  ∃ x_41 : Int, ∃ x_42 : Int, v_40 = .tuple #[.int .i64 x_41, .int .i64 x_42] ∧
  let w12 := w11.alloc (.cells #[.int .i64 x_41] 3);
  CallsV Tryd.prog n_term_Arena_Make #[.pointer a11, .int .i64 5, .int .i64 0, .slice (some (newA w11)) 1 1] w12 (fun v_43 w13 =>
  ∃ x_44 : Int, ∃ x_45 : Int, v_43 = .tuple #[.int .i64 x_44, .int .i64 x_45] ∧
  cond ((x_42 : Int) != 0)
  (R (.bool false) w13)
  (cond ((x_45 : Int) != 0)
  (R (.bool false) w13)
  (trystlaw23_OnionBack.c9 R N8 secret1 payload2 answer3 other4 a11 s15 pubs16 i17 x_41 x_44 w13)))))
  (trystlaw23_OnionBack.c7 R secret1 payload2 answer3 other4 a11 s15 pubs16 w)

def trystlaw23_OnionBack.l8 (R : Value → World → Prop) (secret1 : Int) (payload2 : Int) (answer3 : Int) (other4 : Int) (a11 : Option Addr) (s15 : Sl) (pubs16 : Sl) (i17 : Int) (w : World) : Prop :=
  ∃ (I : (Sl × Sl × Int) → World → Prop) (μ : (Sl × Sl × Int) → World → Nat), I (s15, pubs16, i17) w ∧ ∀ s w, I s w → trystlaw23_OnionBack.b8 R (fun secret1' payload2' answer3' other4' a11' s15' pubs16' i17' w' => (secret1' = secret1 ∧ payload2' = payload2 ∧ answer3' = answer3 ∧ other4' = other4 ∧ a11' = a11 ∧ I (s15', pubs16', i17') w') ∧ μ (s15', pubs16', i17') w' < μ s w) secret1 payload2 answer3 other4 a11 s.1 s.2.1 s.2.2 w

def trystlaw23_OnionBack.c10 (R : Value → World → Prop) (l0 : Sl) (secret1 : Int) (payload2 : Int) (answer3 : Int) (other4 : Int) (w : World) : Prop :=
  CallsV Tryd.prog n_trystlaw10_Build #[.slice l0.a l0.len l0.cap] w (fun v_46 w14 =>
  ∃ p_47 : Option Addr, ∃ p_48 : Option Addr, ∃ b_49 : Bool, v_46 = .tuple #[.pointer p_47, .pointer p_48, .bool b_49] ∧
  cond (!b_49)
  (R (.bool false) w14)
  (∃ q_50 : Addr, p_48 = some q_50 ∧
  ∃ (a_51 : Option Addr) (l_52 c_53 : Nat), w14.cell? q_50 = some (.slice a_51 l_52 c_53) ∧
  cond ((((l_52 : Nat) : Int) : Int) == 0)
  (CallsV Tryd.prog n_trystlaw23_wakes #[] w14 (fun v_54 w15 =>
  ∃ b_55 : Bool, v_54 = .bool b_55 ∧
  R (.bool b_55) w15))
  (((l_52 : Nat) : Int) ≠ 0 ∧
  ((l_52 : Nat) : Int) ≠ 0 ∧
  ((l_52 : Nat) : Int) ≠ 0 ∧
  ((l_52 : Nat) : Int) ≠ 0 ∧
  (let secret1_55 : Int := (Int.tmod secret1 ((l_52 : Nat) : Int));
  (let payload2_56 : Int := (Int.tmod payload2 ((l_52 : Nat) : Int));
  (let answer3_57 : Int := (Int.tmod answer3 ((l_52 : Nat) : Int));
  (let other4_58 : Int := (Int.tmod other4 ((l_52 : Nat) : Int));
  trystlaw23_OnionBack.l8 R secret1_55 payload2_56 answer3_57 other4_58 p_47 ⟨none, 0, 0⟩ ⟨none, 0, 0⟩ 0 w14.drew)))))))

def trystlaw23_OnionBack.main (R : Value → World → Prop) (l0 : Sl) (secret1 : Int) (payload2 : Int) (answer3 : Int) (other4 : Int) (w : World) : Prop :=
  CallsV Tryd.prog n_trystlaw10_Heavy #[.slice l0.a l0.len l0.cap] w (fun v_60 w16 =>
  ∃ b_61 : Bool, v_60 = .bool b_61 ∧
  cond b_61
  (R (.bool true) w16)
  (cond (decide ((secret1 : Int) < 0))
  (R (.bool true) w16)
  (cond (decide ((payload2 : Int) < 0))
  (R (.bool true) w16)
  (cond (decide ((answer3 : Int) < 0))
  (R (.bool true) w16)
  (cond (decide ((other4 : Int) < 0))
  (R (.bool true) w16)
  (trystlaw23_OnionBack.c10 R l0 secret1 payload2 answer3 other4 w16))))))

def trystlaw23_OnionBack.J4 (R : Value → World → Prop) (N4 : Int → Int → Int → Option Addr → Sl → Sl → Int → Int → World → Prop) (k : Nat) (fr : Fr) (w : World) : Prop :=
  cond (Nat.beq k 5) (dec [(2, (.int .i64)), (3, (.int .i64)), (4, (.int .i64)), (11, .ptr), (15, .slice), (23, .slice), (25, (.int .i64)), (26, (.int .i64))] fr fun x => trystlaw23_OnionBack.c5 R N4 x.1 x.2.1 x.2.2.1 x.2.2.2.1 x.2.2.2.2.1 x.2.2.2.2.2.1 x.2.2.2.2.2.2.1 x.2.2.2.2.2.2.2 w) (False)

def trystlaw23_OnionBack.J8 (R : Value → World → Prop) (N8 : Int → Int → Int → Int → Option Addr → Sl → Sl → Int → World → Prop) (k : Nat) (fr : Fr) (w : World) : Prop :=
  cond (Nat.beq k 9) (dec [(1, (.int .i64)), (2, (.int .i64)), (3, (.int .i64)), (4, (.int .i64)), (11, .ptr), (15, .slice), (16, .slice), (17, (.int .i64)), (18, (.int .i64)), (20, (.int .i64))] fr fun x => trystlaw23_OnionBack.c9 R N8 x.1 x.2.1 x.2.2.1 x.2.2.2.1 x.2.2.2.2.1 x.2.2.2.2.2.1 x.2.2.2.2.2.2.1 x.2.2.2.2.2.2.2.1 x.2.2.2.2.2.2.2.2.1 x.2.2.2.2.2.2.2.2.2 w) (False)

def trystlaw23_OnionBack.J0 (R : Value → World → Prop) (k : Nat) (fr : Fr) (w : World) : Prop :=
  cond (Nat.beq k 10) (dec [(0, .slice), (1, (.int .i64)), (2, (.int .i64)), (3, (.int .i64)), (4, (.int .i64))] fr fun x => trystlaw23_OnionBack.c10 R x.1 x.2.1 x.2.2.1 x.2.2.2.1 x.2.2.2.2 w) (cond (Nat.beq k 8) (dec [(1, (.int .i64)), (2, (.int .i64)), (3, (.int .i64)), (4, (.int .i64)), (11, .ptr), (15, .slice), (16, .slice), (17, (.int .i64))] fr fun x => trystlaw23_OnionBack.l8 R x.1 x.2.1 x.2.2.1 x.2.2.2.1 x.2.2.2.2.1 x.2.2.2.2.2.1 x.2.2.2.2.2.2.1 x.2.2.2.2.2.2.2 w) (cond (Nat.beq k 7) (dec [(1, (.int .i64)), (2, (.int .i64)), (3, (.int .i64)), (4, (.int .i64)), (11, .ptr), (15, .slice), (16, .slice)] fr fun x => trystlaw23_OnionBack.c7 R x.1 x.2.1 x.2.2.1 x.2.2.2.1 x.2.2.2.2.1 x.2.2.2.2.2.1 x.2.2.2.2.2.2 w) (cond (Nat.beq k 6) (dec [(2, (.int .i64)), (3, (.int .i64)), (4, (.int .i64)), (11, .ptr), (15, .slice), (22, (.int .i64)), (23, .slice)] fr fun x => trystlaw23_OnionBack.c6 R x.1 x.2.1 x.2.2.1 x.2.2.2.1 x.2.2.2.2.1 x.2.2.2.2.2.1 x.2.2.2.2.2.2 w) (cond (Nat.beq k 4) (dec [(2, (.int .i64)), (3, (.int .i64)), (4, (.int .i64)), (11, .ptr), (15, .slice), (23, .slice), (25, (.int .i64)), (26, (.int .i64))] fr fun x => trystlaw23_OnionBack.l4 R x.1 x.2.1 x.2.2.1 x.2.2.2.1 x.2.2.2.2.1 x.2.2.2.2.2.1 x.2.2.2.2.2.2.1 x.2.2.2.2.2.2.2 w) (cond (Nat.beq k 3) (dec [(2, (.int .i64)), (3, (.int .i64)), (11, .ptr), (23, .slice), (25, (.int .i64))] fr fun x => trystlaw23_OnionBack.c3 R x.1 x.2.1 x.2.2.1 x.2.2.2.1 x.2.2.2.2 w) (cond (Nat.beq k 2) (dec [(3, (.int .i64)), (11, .ptr), (23, .slice), (25, (.int .i64)), (30, (.int .i64))] fr fun x => trystlaw23_OnionBack.l2 R x.1 x.2.1 x.2.2.1 x.2.2.2.1 x.2.2.2.2 w) (cond (Nat.beq k 1) (dec [(3, (.int .i64)), (11, .ptr), (23, .slice), (25, (.int .i64))] fr fun x => trystlaw23_OnionBack.c1 R x.1 x.2.1 x.2.2.1 x.2.2.2 w) (False))))))))

set_option maxRecDepth 100000 in
theorem trystlaw23_OnionBack.lift {R : Value → World → Prop} {l0 : Sl} {secret1 : Int} {payload2 : Int} {answer3 : Int} {other4 : Int} {w : World} (h : trystlaw23_OnionBack.main R l0 secret1 payload2 answer3 other4 w) : CallsV Tryd.prog n_trystlaw23_OnionBack #[.slice l0.a l0.len l0.cap, .int .i64 secret1, .int .i64 payload2, .int .i64 answer3, .int .i64 other4] w R :=
  liftCalls (c := (.seq (.leaf (cL (bd Tryd.f10))) (.seq (.seq (.leaf (cL (cL (cR (bd Tryd.f10))))) (.cnd (.tmp 49) (.seq (.leaf (cL (cT (cR (cL (cR (bd Tryd.f10))))))) (.leaf (cR (cT (cR (cL (cR (bd Tryd.f10)))))))) (.leaf (cE (cR (cL (cR (bd Tryd.f10)))))))) (.cut 10 (.seq (.leaf (cL (cR (cR (bd Tryd.f10))))) (.seq (.seq (.leaf (cL (cL (cR (cR (cR (bd Tryd.f10))))))) (.cnd (.tmp 57) (.seq (.leaf (cL (cT (cR (cL (cR (cR (cR (bd Tryd.f10))))))))) (.leaf (cR (cT (cR (cL (cR (cR (cR (bd Tryd.f10)))))))))) (.leaf (cE (cR (cL (cR (cR (cR (bd Tryd.f10)))))))))) (.seq (.leaf (cL (cR (cR (cR (cR (bd Tryd.f10))))))) (.seq (.seq (.leaf (cL (cL (cR (cR (cR (cR (cR (bd Tryd.f10))))))))) (.cnd (.tmp 64) (.seq (.leaf (cL (cT (cR (cL (cR (cR (cR (cR (cR (bd Tryd.f10))))))))))) (.leaf (cR (cT (cR (cL (cR (cR (cR (cR (cR (bd Tryd.f10)))))))))))) (.leaf (cE (cR (cL (cR (cR (cR (cR (cR (bd Tryd.f10)))))))))))) (.seq (.leaf (cL (cR (cR (cR (cR (cR (cR (bd Tryd.f10))))))))) (.seq (.leaf (cL (cR (cR (cR (cR (cR (cR (cR (bd Tryd.f10)))))))))) (.seq (.seq (.leaf (cL (cL (cR (cR (cR (cR (cR (cR (cR (cR (bd Tryd.f10)))))))))))) (.block 0 (.loop 8 (.seq (.seq (.leaf (cL (cL (cB (cB (cR (cL (cR (cR (cR (cR (cR (cR (cR (cR (bd Tryd.f10)))))))))))))))) (.cnd (.tmp 79) (.leaf (cT (cR (cL (cB (cB (cR (cL (cR (cR (cR (cR (cR (cR (cR (cR (bd Tryd.f10))))))))))))))))) (.leaf (cE (cR (cL (cB (cB (cR (cL (cR (cR (cR (cR (cR (cR (cR (cR (bd Tryd.f10))))))))))))))))))) (.seq (.block 1 (.seq (.leaf (cL (cB (cL (cR (cB (cB (cR (cL (cR (cR (cR (cR (cR (cR (cR (cR (bd Tryd.f10)))))))))))))))))) (.seq (.leaf (cL (cR (cB (cL (cR (cB (cB (cR (cL (cR (cR (cR (cR (cR (cR (cR (cR (bd Tryd.f10))))))))))))))))))) (.seq (.seq (.leaf (cL (cL (cR (cR (cB (cL (cR (cB (cB (cR (cL (cR (cR (cR (cR (cR (cR (cR (cR (bd Tryd.f10))))))))))))))))))))) (.cnd (.tmp 101) (.seq (.leaf (cL (cT (cR (cL (cR (cR (cB (cL (cR (cB (cB (cR (cL (cR (cR (cR (cR (cR (cR (cR (cR (bd Tryd.f10))))))))))))))))))))))) (.leaf (cR (cT (cR (cL (cR (cR (cB (cL (cR (cB (cB (cR (cL (cR (cR (cR (cR (cR (cR (cR (cR (bd Tryd.f10)))))))))))))))))))))))) (.leaf (cE (cR (cL (cR (cR (cB (cL (cR (cB (cB (cR (cL (cR (cR (cR (cR (cR (cR (cR (cR (bd Tryd.f10)))))))))))))))))))))))) (.cut 9 (.leaf (cR (cR (cR (cB (cL (cR (cB (cB (cR (cL (cR (cR (cR (cR (cR (cR (cR (cR (bd Tryd.f10))))))))))))))))))))))))) (.leaf (cR (cR (cB (cB (cR (cL (cR (cR (cR (cR (cR (cR (cR (cR (bd Tryd.f10))))))))))))))))))))) (.cut 7 (.seq (.leaf (cL (cR (cR (cR (cR (cR (cR (cR (cR (cR (bd Tryd.f10)))))))))))) (.seq (.seq (.leaf (cL (cL (cR (cR (cR (cR (cR (cR (cR (cR (cR (cR (bd Tryd.f10)))))))))))))) (.cnd (.tmp 125) (.seq (.leaf (cL (cT (cR (cL (cR (cR (cR (cR (cR (cR (cR (cR (cR (cR (bd Tryd.f10)))))))))))))))) (.leaf (cR (cT (cR (cL (cR (cR (cR (cR (cR (cR (cR (cR (cR (cR (bd Tryd.f10))))))))))))))))) (.leaf (cE (cR (cL (cR (cR (cR (cR (cR (cR (cR (cR (cR (cR (bd Tryd.f10))))))))))))))))) (.cut 6 (.seq (.leaf (cL (cR (cR (cR (cR (cR (cR (cR (cR (cR (cR (cR (bd Tryd.f10)))))))))))))) (.seq (.seq (.leaf (cL (cL (cR (cR (cR (cR (cR (cR (cR (cR (cR (cR (cR (cR (bd Tryd.f10)))))))))))))))) (.block 2 (.loop 4 (.seq (.seq (.leaf (cL (cL (cB (cB (cR (cL (cR (cR (cR (cR (cR (cR (cR (cR (cR (cR (cR (cR (bd Tryd.f10)))))))))))))))))))) (.cnd (.tmp 128) (.leaf (cT (cR (cL (cB (cB (cR (cL (cR (cR (cR (cR (cR (cR (cR (cR (cR (cR (cR (cR (bd Tryd.f10))))))))))))))))))))) (.leaf (cE (cR (cL (cB (cB (cR (cL (cR (cR (cR (cR (cR (cR (cR (cR (cR (cR (cR (cR (bd Tryd.f10))))))))))))))))))))))) (.seq (.block 3 (.seq (.seq (.leaf (cL (cL (cB (cL (cR (cB (cB (cR (cL (cR (cR (cR (cR (cR (cR (cR (cR (cR (cR (cR (cR (bd Tryd.f10))))))))))))))))))))))) (.cnd (.tmp 136) (.seq (.leaf (cL (cT (cR (cL (cB (cL (cR (cB (cB (cR (cL (cR (cR (cR (cR (cR (cR (cR (cR (cR (cR (cR (cR (bd Tryd.f10))))))))))))))))))))))))) (.seq (.leaf (cL (cR (cT (cR (cL (cB (cL (cR (cB (cB (cR (cL (cR (cR (cR (cR (cR (cR (cR (cR (cR (cR (cR (cR (bd Tryd.f10)))))))))))))))))))))))))) (.cnd (.tmp 146) (.seq (.leaf (cL (cT (cR (cR (cT (cR (cL (cB (cL (cR (cB (cB (cR (cL (cR (cR (cR (cR (cR (cR (cR (cR (cR (cR (cR (cR (bd Tryd.f10)))))))))))))))))))))))))))) (.leaf (cR (cT (cR (cR (cT (cR (cL (cB (cL (cR (cB (cB (cR (cL (cR (cR (cR (cR (cR (cR (cR (cR (cR (cR (cR (cR (bd Tryd.f10))))))))))))))))))))))))))))) (.leaf (cE (cR (cR (cT (cR (cL (cB (cL (cR (cB (cB (cR (cL (cR (cR (cR (cR (cR (cR (cR (cR (cR (cR (cR (cR (bd Tryd.f10)))))))))))))))))))))))))))))) (.leaf (cE (cR (cL (cB (cL (cR (cB (cB (cR (cL (cR (cR (cR (cR (cR (cR (cR (cR (cR (cR (cR (cR (bd Tryd.f10)))))))))))))))))))))))))) (.cut 5 (.seq (.leaf (cL (cR (cB (cL (cR (cB (cB (cR (cL (cR (cR (cR (cR (cR (cR (cR (cR (cR (cR (cR (cR (bd Tryd.f10))))))))))))))))))))))) (.seq (.seq (.leaf (cL (cL (cR (cR (cB (cL (cR (cB (cB (cR (cL (cR (cR (cR (cR (cR (cR (cR (cR (cR (cR (cR (cR (bd Tryd.f10))))))))))))))))))))))))) (.cnd (.tmp 167) (.seq (.leaf (cL (cT (cR (cL (cR (cR (cB (cL (cR (cB (cB (cR (cL (cR (cR (cR (cR (cR (cR (cR (cR (cR (cR (cR (cR (bd Tryd.f10))))))))))))))))))))))))))) (.leaf (cR (cT (cR (cL (cR (cR (cB (cL (cR (cB (cB (cR (cL (cR (cR (cR (cR (cR (cR (cR (cR (cR (cR (cR (cR (bd Tryd.f10)))))))))))))))))))))))))))) (.leaf (cE (cR (cL (cR (cR (cB (cL (cR (cB (cB (cR (cL (cR (cR (cR (cR (cR (cR (cR (cR (cR (cR (cR (cR (bd Tryd.f10)))))))))))))))))))))))))))) (.leaf (cR (cR (cR (cB (cL (cR (cB (cB (cR (cL (cR (cR (cR (cR (cR (cR (cR (cR (cR (cR (cR (cR (bd Tryd.f10))))))))))))))))))))))))))))) (.leaf (cR (cR (cB (cB (cR (cL (cR (cR (cR (cR (cR (cR (cR (cR (cR (cR (cR (cR (bd Tryd.f10))))))))))))))))))))))))) (.cut 3 (.seq (.seq (.leaf (cL (cL (cR (cR (cR (cR (cR (cR (cR (cR (cR (cR (cR (cR (cR (bd Tryd.f10))))))))))))))))) (.cnd (.tmp 171) (.seq (.leaf (cL (cT (cR (cL (cR (cR (cR (cR (cR (cR (cR (cR (cR (cR (cR (cR (cR (bd Tryd.f10))))))))))))))))))) (.leaf (cR (cT (cR (cL (cR (cR (cR (cR (cR (cR (cR (cR (cR (cR (cR (cR (cR (bd Tryd.f10)))))))))))))))))))) (.leaf (cE (cR (cL (cR (cR (cR (cR (cR (cR (cR (cR (cR (cR (cR (cR (cR (bd Tryd.f10)))))))))))))))))))) (.seq (.leaf (cL (cR (cR (cR (cR (cR (cR (cR (cR (cR (cR (cR (cR (cR (cR (bd Tryd.f10))))))))))))))))) (.seq (.seq (.leaf (cL (cL (cR (cR (cR (cR (cR (cR (cR (cR (cR (cR (cR (cR (cR (cR (cR (bd Tryd.f10))))))))))))))))))) (.block 4 (.loop 2 (.seq (.seq (.leaf (cL (cL (cB (cB (cR (cL (cR (cR (cR (cR (cR (cR (cR (cR (cR (cR (cR (cR (cR (cR (cR (bd Tryd.f10))))))))))))))))))))))) (.cnd (.tmp 174) (.leaf (cT (cR (cL (cB (cB (cR (cL (cR (cR (cR (cR (cR (cR (cR (cR (cR (cR (cR (cR (cR (cR (cR (bd Tryd.f10)))))))))))))))))))))))) (.leaf (cE (cR (cL (cB (cB (cR (cL (cR (cR (cR (cR (cR (cR (cR (cR (cR (cR (cR (cR (cR (cR (cR (bd Tryd.f10)))))))))))))))))))))))))) (.seq (.block 5 (.seq (.leaf (cL (cB (cL (cR (cB (cB (cR (cL (cR (cR (cR (cR (cR (cR (cR (cR (cR (cR (cR (cR (cR (cR (cR (bd Tryd.f10))))))))))))))))))))))))) (.seq (.leaf (cL (cR (cB (cL (cR (cB (cB (cR (cL (cR (cR (cR (cR (cR (cR (cR (cR (cR (cR (cR (cR (cR (cR (cR (bd Tryd.f10)))))))))))))))))))))))))) (.cnd (.tmp 188) (.seq (.leaf (cL (cT (cR (cR (cB (cL (cR (cB (cB (cR (cL (cR (cR (cR (cR (cR (cR (cR (cR (cR (cR (cR (cR (cR (cR (cR (bd Tryd.f10)))))))))))))))))))))))))))) (.leaf (cR (cT (cR (cR (cB (cL (cR (cB (cB (cR (cL (cR (cR (cR (cR (cR (cR (cR (cR (cR (cR (cR (cR (cR (cR (cR (bd Tryd.f10))))))))))))))))))))))))))))) (.leaf (cE (cR (cR (cB (cL (cR (cB (cB (cR (cL (cR (cR (cR (cR (cR (cR (cR (cR (cR (cR (cR (cR (cR (cR (cR (bd Tryd.f10))))))))))))))))))))))))))))))) (.leaf (cR (cR (cB (cB (cR (cL (cR (cR (cR (cR (cR (cR (cR (cR (cR (cR (cR (cR (cR (cR (cR (bd Tryd.f10)))))))))))))))))))))))))))) (.cut 1 (.seq (.leaf (cL (cR (cR (cR (cR (cR (cR (cR (cR (cR (cR (cR (cR (cR (cR (cR (cR (bd Tryd.f10))))))))))))))))))) (.seq (.leaf (cL (cR (cR (cR (cR (cR (cR (cR (cR (cR (cR (cR (cR (cR (cR (cR (cR (cR (bd Tryd.f10)))))))))))))))))))) (.leaf (cR (cR (cR (cR (cR (cR (cR (cR (cR (cR (cR (cR (cR (cR (cR (cR (cR (cR (bd Tryd.f10)))))))))))))))))))))))))))))))))))))))))))) (J := trystlaw23_OnionBack.J0 R) LfYtoclhecldmahiaaDoor.mixed Tryd.func10 (by kernel_rfl) (by kernel_rfl) (mkSeq (mkSeq (mkCut (cutDef [(0, .slice), (1, (.int .i64)), (2, (.int .i64)), (3, (.int .i64)), (4, (.int .i64))] (fun x w => trystlaw23_OnionBack.c10 R x.1 x.2.1 x.2.2.1 x.2.2.2.1 x.2.2.2.2 w) (fun _ _ => by kernel_rfl) (fun _ _ => by kernel_rfl)) (mkSeq (mkSeq (mkSeq (mkSeq (mkSeq (mkSeq (mkSeq (mkCut (cutDef [(1, (.int .i64)), (2, (.int .i64)), (3, (.int .i64)), (4, (.int .i64)), (11, .ptr), (15, .slice), (16, .slice)] (fun x w => trystlaw23_OnionBack.c7 R x.1 x.2.1 x.2.2.1 x.2.2.2.1 x.2.2.2.2.1 x.2.2.2.2.2.1 x.2.2.2.2.2.2 w) (fun _ _ => by kernel_rfl) (fun _ _ => by kernel_rfl)) (mkSeq (mkSeq (mkCut (cutDef [(2, (.int .i64)), (3, (.int .i64)), (4, (.int .i64)), (11, .ptr), (15, .slice), (22, (.int .i64)), (23, .slice)] (fun x w => trystlaw23_OnionBack.c6 R x.1 x.2.1 x.2.2.1 x.2.2.2.1 x.2.2.2.2.1 x.2.2.2.2.2.1 x.2.2.2.2.2.2 w) (fun _ _ => by kernel_rfl) (fun _ _ => by kernel_rfl)) (mkSeq (mkSeq (mkCut (cutDef [(2, (.int .i64)), (3, (.int .i64)), (11, .ptr), (23, .slice), (25, (.int .i64))] (fun x w => trystlaw23_OnionBack.c3 R x.1 x.2.1 x.2.2.1 x.2.2.2.1 x.2.2.2.2 w) (fun _ _ => by kernel_rfl) (fun _ _ => by kernel_rfl)) (mkSeq (mkSeq (mkSeq (mkCut (cutDef [(3, (.int .i64)), (11, .ptr), (23, .slice), (25, (.int .i64))] (fun x w => trystlaw23_OnionBack.c1 R x.1 x.2.1 x.2.2.1 x.2.2.2 w) (fun _ _ => by kernel_rfl) (fun _ _ => by kernel_rfl)) (mkSeq (mkSeq mkLeaf mkLeaf) mkLeaf)) (mkSeq (mkBlock (mkLoop (loopDef LfYtoclhecldmahiaaDoor.mixed [(3, (.int .i64)), (11, .ptr), (23, .slice), (25, (.int .i64)), (30, (.int .i64))] (by kernel_rfl) (fun M2 x w => trystlaw23_OnionBack.b2 R (fun y0 y1 y2 y3 y4 w => M2 (y0, y1, y2, y3, y4) w) x.1 x.2.1 x.2.2.1 x.2.2.2.1 x.2.2.2.2 w) (fun M2 => fun _ _ _ => False) (fun _ _ _ => by kernel_rfl) (fun M2 => (mkSeq (mkSeq mkLeaf (mkBlock (mkSeq (mkSeq (mkCnd (mkSeq mkLeaf mkLeaf) mkLeaf) mkLeaf) mkLeaf))) (mkSeq (mkCnd mkLeaf mkLeaf) mkLeaf))) (fun x w => trystlaw23_OnionBack.l2 R x.1 x.2.1 x.2.2.1 x.2.2.2.1 x.2.2.2.2 w) (by rintro ⟨c0, c1, c2, s0⟩ w ⟨I, μ, h0, h1⟩; refine ⟨fun y w => y.1 = c0 ∧ y.2.1 = c1 ∧ y.2.2.1 = c2 ∧ I y.2.2.2 w, fun y w => μ y.2.2.2 w, ⟨rfl, rfl, rfl, h0⟩, ?_⟩; rintro ⟨d0, d1, d2, t0⟩ w ⟨e0, e1, e2, hI⟩; dsimp only at e0 e1 e2 hI; subst e0; subst e1; subst e2; exact h1 _ _ hI) (fun _ _ => by kernel_rfl)))) mkLeaf)) mkLeaf) (mkSeq (mkCnd (mkSeq mkLeaf mkLeaf) mkLeaf) mkLeaf))) (mkSeq (mkBlock (mkLoop (loopDef LfYtoclhecldmahiaaDoor.mixed [(2, (.int .i64)), (3, (.int .i64)), (4, (.int .i64)), (11, .ptr), (15, .slice), (23, .slice), (25, (.int .i64)), (26, (.int .i64))] (by kernel_rfl) (fun M4 x w => trystlaw23_OnionBack.b4 R (fun y0 y1 y2 y3 y4 y5 y6 y7 w => M4 (y0, y1, y2, y3, y4, y5, y6, y7) w) x.1 x.2.1 x.2.2.1 x.2.2.2.1 x.2.2.2.2.1 x.2.2.2.2.2.1 x.2.2.2.2.2.2.1 x.2.2.2.2.2.2.2 w) (fun M4 => trystlaw23_OnionBack.J4 R (fun y0 y1 y2 y3 y4 y5 y6 y7 w => M4 (y0, y1, y2, y3, y4, y5, y6, y7) w)) (fun _ _ _ => by kernel_rfl) (fun M4 => (mkSeq (mkSeq mkLeaf (mkBlock (mkSeq (mkCut (cutDef [(2, (.int .i64)), (3, (.int .i64)), (4, (.int .i64)), (11, .ptr), (15, .slice), (23, .slice), (25, (.int .i64)), (26, (.int .i64))] (fun x w => trystlaw23_OnionBack.c5 R (fun y0 y1 y2 y3 y4 y5 y6 y7 w => M4 (y0, y1, y2, y3, y4, y5, y6, y7) w) x.1 x.2.1 x.2.2.1 x.2.2.2.1 x.2.2.2.2.1 x.2.2.2.2.2.1 x.2.2.2.2.2.2.1 x.2.2.2.2.2.2.2 w) (fun _ _ => by kernel_rfl) (fun _ _ => by kernel_rfl)) (mkSeq (mkSeq mkLeaf (mkSeq (mkCnd (mkSeq mkLeaf mkLeaf) mkLeaf) mkLeaf)) mkLeaf)) (mkSeq (mkCnd (mkSeq (mkSeq (mkCnd (mkSeq mkLeaf mkLeaf) mkLeaf) mkLeaf) mkLeaf) mkLeaf) mkLeaf)))) (mkSeq (mkCnd mkLeaf mkLeaf) mkLeaf))) (fun x w => trystlaw23_OnionBack.l4 R x.1 x.2.1 x.2.2.1 x.2.2.2.1 x.2.2.2.2.1 x.2.2.2.2.2.1 x.2.2.2.2.2.2.1 x.2.2.2.2.2.2.2 w) (by rintro ⟨c0, c1, c2, c3, c4, c5, s0⟩ w ⟨I, μ, h0, h1⟩; refine ⟨fun y w => y.1 = c0 ∧ y.2.1 = c1 ∧ y.2.2.1 = c2 ∧ y.2.2.2.1 = c3 ∧ y.2.2.2.2.1 = c4 ∧ y.2.2.2.2.2.1 = c5 ∧ I y.2.2.2.2.2.2 w, fun y w => μ y.2.2.2.2.2.2 w, ⟨rfl, rfl, rfl, rfl, rfl, rfl, h0⟩, ?_⟩; rintro ⟨d0, d1, d2, d3, d4, d5, t0⟩ w ⟨e0, e1, e2, e3, e4, e5, hI⟩; dsimp only at e0 e1 e2 e3 e4 e5 hI; subst e0; subst e1; subst e2; subst e3; subst e4; subst e5; exact h1 _ _ hI) (fun _ _ => by kernel_rfl)))) mkLeaf)) mkLeaf)) (mkSeq (mkCnd (mkSeq mkLeaf mkLeaf) mkLeaf) mkLeaf)) mkLeaf)) (mkSeq (mkBlock (mkLoop (loopDef LfYtoclhecldmahiaaDoor.mixed [(1, (.int .i64)), (2, (.int .i64)), (3, (.int .i64)), (4, (.int .i64)), (11, .ptr), (15, .slice), (16, .slice), (17, (.int .i64))] (by kernel_rfl) (fun M8 x w => trystlaw23_OnionBack.b8 R (fun y0 y1 y2 y3 y4 y5 y6 y7 w => M8 (y0, y1, y2, y3, y4, y5, y6, y7) w) x.1 x.2.1 x.2.2.1 x.2.2.2.1 x.2.2.2.2.1 x.2.2.2.2.2.1 x.2.2.2.2.2.2.1 x.2.2.2.2.2.2.2 w) (fun M8 => trystlaw23_OnionBack.J8 R (fun y0 y1 y2 y3 y4 y5 y6 y7 w => M8 (y0, y1, y2, y3, y4, y5, y6, y7) w)) (fun _ _ _ => by kernel_rfl) (fun M8 => (mkSeq (mkSeq mkLeaf (mkBlock (mkSeq (mkSeq (mkSeq (mkCut (cutDef [(1, (.int .i64)), (2, (.int .i64)), (3, (.int .i64)), (4, (.int .i64)), (11, .ptr), (15, .slice), (16, .slice), (17, (.int .i64)), (18, (.int .i64)), (20, (.int .i64))] (fun x w => trystlaw23_OnionBack.c9 R (fun y0 y1 y2 y3 y4 y5 y6 y7 w => M8 (y0, y1, y2, y3, y4, y5, y6, y7) w) x.1 x.2.1 x.2.2.1 x.2.2.2.1 x.2.2.2.2.1 x.2.2.2.2.2.1 x.2.2.2.2.2.2.1 x.2.2.2.2.2.2.2.1 x.2.2.2.2.2.2.2.2.1 x.2.2.2.2.2.2.2.2.2 w) (fun _ _ => by kernel_rfl) (fun _ _ => by kernel_rfl)) mkLeaf) (mkSeq (mkCnd (mkSeq mkLeaf mkLeaf) mkLeaf) mkLeaf)) mkLeaf) mkLeaf))) (mkSeq (mkCnd mkLeaf mkLeaf) mkLeaf))) (fun x w => trystlaw23_OnionBack.l8 R x.1 x.2.1 x.2.2.1 x.2.2.2.1 x.2.2.2.2.1 x.2.2.2.2.2.1 x.2.2.2.2.2.2.1 x.2.2.2.2.2.2.2 w) (by rintro ⟨c0, c1, c2, c3, c4, s0⟩ w ⟨I, μ, h0, h1⟩; refine ⟨fun y w => y.1 = c0 ∧ y.2.1 = c1 ∧ y.2.2.1 = c2 ∧ y.2.2.2.1 = c3 ∧ y.2.2.2.2.1 = c4 ∧ I y.2.2.2.2.2 w, fun y w => μ y.2.2.2.2.2 w, ⟨rfl, rfl, rfl, rfl, rfl, h0⟩, ?_⟩; rintro ⟨d0, d1, d2, d3, d4, t0⟩ w ⟨e0, e1, e2, e3, e4, hI⟩; dsimp only at e0 e1 e2 e3 e4 hI; subst e0; subst e1; subst e2; subst e3; subst e4; exact h1 _ _ hI) (fun _ _ => by kernel_rfl)))) mkLeaf)) mkLeaf) mkLeaf) (mkSeq (mkCnd (mkSeq mkLeaf mkLeaf) mkLeaf) mkLeaf)) mkLeaf) (mkSeq (mkCnd (mkSeq mkLeaf mkLeaf) mkLeaf) mkLeaf)) mkLeaf)) (mkSeq (mkCnd (mkSeq mkLeaf mkLeaf) mkLeaf) mkLeaf)) mkLeaf) (kcast (by kernel_rfl) h)

/-! trystlaw23_OnionHidden -/
def trystlaw23_OnionHidden.c1 (R : Value → World → Prop) (all9 : Bool) (p17 : Int) (r19 : Int) (k25 : Sl) (x26 : Int) (first28 : Bool) (w : World) : Prop :=
  0 ≤ (p17 : Int) ∧ p17 < ((k25.len : Nat) : Int) ∧ ∃ q_1 : Addr, k25.a = some q_1 ∧
  ∃ b_2 : Bool, w.cell? (q_1.add (p17 : Int).toNat) = some (.bool b_2) ∧
  cond (b_2 == all9)
  (0 ≤ (r19 : Int) ∧ r19 < ((k25.len : Nat) : Int) ∧ ∃ q_3 : Addr, k25.a = some q_3 ∧
  ∃ b_4 : Bool, w.cell? (q_3.add (r19 : Int).toNat) = some (.bool b_4) ∧
  cond (b_4 == all9)
  (0 ≤ (x26 : Int) ∧ x26 < ((k25.len : Nat) : Int) ∧ ∃ q_5 : Addr, k25.a = some q_5 ∧
  ∃ b_6 : Bool, w.cell? (q_5.add (x26 : Int).toNat) = some (.bool b_6) ∧
  cond (b_6 == first28)
  (CallsV Tryd.prog n_trystlaw23_wakes #[] w (fun v_7 w1 =>
  ∃ b_8 : Bool, v_7 = .bool b_8 ∧
  R (.bool b_8) w1))
  (R (.bool false) w))
  (R (.bool false) w))
  (R (.bool false) w)

def trystlaw23_OnionHidden.c2 (R : Value → World → Prop) (have1 : Sl) (all9 : Bool) (p17 : Int) (r19 : Int) (k25 : Sl) (x26 : Int) (w : World) : Prop :=
  cond (decide ((((have1.len : Nat) : Int) : Int) > 0))
  (0 ≤ (0 : Int) ∧ 0 < ((have1.len : Nat) : Int) ∧ ∃ q_9 : Addr, have1.a = some q_9 ∧
  ∃ b_10 : Bool, w.cell? (q_9.add (0 : Int).toNat) = some (.bool b_10) ∧
  trystlaw23_OnionHidden.c1 R all9 p17 r19 k25 x26 b_10 w)
  (trystlaw23_OnionHidden.c1 R all9 p17 r19 k25 x26 false w)

def trystlaw23_OnionHidden.c3 (R : Value → World → Prop) (have1 : Sl) (a5 : Option Addr) (s6 : Sl) (told8 : Sl) (all9 : Bool) (d15 : Int) (p17 : Int) (r19 : Int) (o21 : Int) (b23 : Int) (w : World) : Prop :=
  CallsV Tryd.prog n_trystkeep_TwinInts #[.slice told8.a told8.len told8.cap] w (fun v_11 w2 =>
  ∃ (a_12 : Option Addr) (l_13 c_14 : Nat), v_11 = .slice a_12 l_13 c_14 ∧
  let w3 := w2.alloc (.cells #[.int .i64 o21, .int .i64 b23] 3);
  ∃ (a_15 : Option Addr) (l_16 c_17 : Nat), ∃ w4 : World, (builtin .append #[29, 29] 29 #[] #[.slice a_12 l_13 c_14, .slice (some (newA w2)) 2 2]).run Tryd.prog w3 = .ok (.value (.slice a_15 l_16 c_17)) w4 ∧
  CallsV Tryd.prog n_know_All #[.pointer a5, .slice a_15 l_16 c_17] w4 (fun v_18 w5 =>
  ∃ (a_19 : Option Addr) (l_20 c_21 : Nat), ∃ x_22 : Int, v_18 = .tuple #[.slice a_19 l_20 c_21, .int .i64 x_22] ∧
  0 ≤ (0 : Int) ∧ 0 < ((s6.len : Nat) : Int) ∧ ∃ q_23 : Addr, s6.a = some q_23 ∧
  ∃ x_24 : Int, w5.cell? (q_23.add (0 : Int).toNat) = some (.int .i64 x_24) ∧
  CallsV Tryd.prog n_onion_Peel #[.pointer a5, .int .i64 x_24, .int .i64 o21] w5 (fun v_25 w6 =>
  ∃ x_26 : Int, ∃ x_27 : Int, ∃ x_28 : Int, v_25 = .tuple #[.int .i64 x_26, .int .i64 x_27, .int .i64 x_28] ∧
  cond ((x_22 : Int) != 0)
  (R (.bool false) w6)
  (cond ((x_28 : Int) != 0)
  (R (.bool false) w6)
  (0 ≤ (d15 : Int) ∧ d15 < ((l_20 : Nat) : Int) ∧ ∃ q_29 : Addr, a_19 = some q_29 ∧
  ∃ b_30 : Bool, w6.cell? (q_29.add (d15 : Int).toNat) = some (.bool b_30) ∧
  cond b_30
  (R (.bool false) w6)
  (trystlaw23_OnionHidden.c2 R have1 all9 p17 r19 ⟨a_19, l_20, c_21⟩ x_26 w6))))))

def trystlaw23_OnionHidden.b4 (R : Value → World → Prop) (N4 : Sl → Option Addr → Sl → Sl → Bool → Int → Int → Int → Int → Sl → Int → Int → World → Prop) (have1 : Sl) (a5 : Option Addr) (s6 : Sl) (told8 : Sl) (all9 : Bool) (d15 : Int) (p17 : Int) (r19 : Int) (o21 : Int) (keys22 : Sl) (b23 : Int) (i24 : Int) (w : World) : Prop :=
  cond (decide ((i24 : Int) ≥ 0))
  (0 ≤ (i24 : Int) ∧ i24 < ((keys22.len : Nat) : Int) ∧ ∃ q_31 : Addr, keys22.a = some q_31 ∧
  ∃ x_32 : Int, w.cell? (q_31.add (i24 : Int).toNat) = some (.int .i64 x_32) ∧
  CallsV Tryd.prog n_onion_Back #[.pointer a5, .int .i64 x_32, .int .i64 b23] w (fun v_33 w7 =>
  ∃ x_34 : Int, ∃ x_35 : Int, v_33 = .tuple #[.int .i64 x_34, .int .i64 x_35] ∧
  cond ((x_35 : Int) != 0)
  (R (.bool false) w7)
  ((let i24_35 : Int := (IntKind.i64.wrap (i24 - 1));
  N4 have1 a5 s6 told8 all9 d15 p17 r19 o21 keys22 x_34 i24_35 w7))))
  (trystlaw23_OnionHidden.c3 R have1 a5 s6 told8 all9 d15 p17 r19 o21 b23 w)

def trystlaw23_OnionHidden.l4 (R : Value → World → Prop) (have1 : Sl) (a5 : Option Addr) (s6 : Sl) (told8 : Sl) (all9 : Bool) (d15 : Int) (p17 : Int) (r19 : Int) (o21 : Int) (keys22 : Sl) (b23 : Int) (i24 : Int) (w : World) : Prop :=
  ∃ (I : (Int × Int) → World → Prop) (μ : (Int × Int) → World → Nat), I (b23, i24) w ∧ ∀ s w, I s w → trystlaw23_OnionHidden.b4 R (fun have1' a5' s6' told8' all9' d15' p17' r19' o21' keys22' b23' i24' w' => (have1' = have1 ∧ a5' = a5 ∧ s6' = s6 ∧ told8' = told8 ∧ all9' = all9 ∧ d15' = d15 ∧ p17' = p17 ∧ r19' = r19 ∧ o21' = o21 ∧ keys22' = keys22 ∧ I (b23', i24') w') ∧ μ (b23', i24') w' < μ s w) have1 a5 s6 told8 all9 d15 p17 r19 o21 keys22 s.1 s.2 w

def trystlaw23_OnionHidden.c5 (R : Value → World → Prop) (have1 : Sl) (a5 : Option Addr) (s6 : Sl) (pubs7 : Sl) (told8 : Sl) (all9 : Bool) (d15 : Int) (p17 : Int) (r19 : Int) (w : World) : Prop :=
  CallsV Tryd.prog n_onion_Wrap #[.pointer a5, .slice pubs7.a pubs7.len pubs7.cap, .int .i64 d15, .int .i64 p17] w (fun v_37 w8 =>
  ∃ x_38 : Int, ∃ (a_39 : Option Addr) (l_40 c_41 : Nat), ∃ x_42 : Int, v_37 = .tuple #[.int .i64 x_38, .slice a_39 l_40 c_41, .int .i64 x_42] ∧
  cond ((x_42 : Int) != 0)
  (R (.bool false) w8)
  (trystlaw23_OnionHidden.l4 R have1 a5 s6 told8 all9 d15 p17 r19 x_38 ⟨a_39, l_40, c_41⟩ r19 2 w8))

def trystlaw23_OnionHidden.c6 (R : Value → World → Prop) (have1 : Sl) (a5 : Option Addr) (s6 : Sl) (pubs7 : Sl) (told8 : Sl) (all9 : Bool) (w : World) : Prop :=
  CallsV Tryd.prog n_term_Arena_Make #[.pointer a5, .int .i64 1, .int .i64 200, .slice none 0 0] w (fun v_43 w9 =>
  ∃ x_44 : Int, ∃ x_45 : Int, v_43 = .tuple #[.int .i64 x_44, .int .i64 x_45] ∧
  CallsV Tryd.prog n_term_Arena_Make #[.pointer a5, .int .i64 1, .int .i64 300, .slice none 0 0] w9 (fun v_46 w10 =>
  ∃ x_47 : Int, ∃ x_48 : Int, v_46 = .tuple #[.int .i64 x_47, .int .i64 x_48] ∧
  CallsV Tryd.prog n_term_Arena_Make #[.pointer a5, .int .i64 1, .int .i64 400, .slice none 0 0] w10 (fun v_49 w11 =>
  ∃ x_50 : Int, ∃ x_51 : Int, v_49 = .tuple #[.int .i64 x_50, .int .i64 x_51] ∧
  cond ((x_45 : Int) != 0)
  (R (.bool false) w11)
  (cond ((x_48 : Int) != 0)
  (R (.bool false) w11)
  (cond ((x_51 : Int) != 0)
  (R (.bool false) w11)
  (trystlaw23_OnionHidden.c5 R have1 a5 s6 pubs7 told8 all9 x_44 x_47 x_50 w11))))))

def trystlaw23_OnionHidden.c8 (R : Value → World → Prop) (N7 : Sl → Option Addr → Sl → Sl → Sl → Bool → Int → World → Prop) (have1 : Sl) (a5 : Option Addr) (s6 : Sl) (pubs7 : Sl) (told8 : Sl) (all9 : Bool) (i10 : Int) (x11 : Int) (w : World) : Prop :=
  let w12 := w.alloc (.cells #[.int .i64 x11] 3);
  ∃ (a_52 : Option Addr) (l_53 c_54 : Nat), ∃ w13 : World, (builtin .append #[29, 29] 29 #[] #[.slice told8.a told8.len told8.cap, .slice (some (newA w)) 1 1]).run Tryd.prog w12 = .ok (.value (.slice a_52 l_53 c_54)) w13 ∧
  (let i10_54 : Int := (IntKind.i64.wrap (i10 + 1));
  N7 have1 a5 s6 pubs7 ⟨a_52, l_53, c_54⟩ all9 i10_54 w13)

def trystlaw23_OnionHidden.c9 (R : Value → World → Prop) (N7 : Sl → Option Addr → Sl → Sl → Sl → Bool → Int → World → Prop) (have1 : Sl) (a5 : Option Addr) (s6 : Sl) (pubs7 : Sl) (told8 : Sl) (all9 : Bool) (i10 : Int) (x11 : Int) (y13 : Int) (w : World) : Prop :=
  let w14 := w.alloc (.cells #[.int .i64 x11] 3);
  ∃ (a_56 : Option Addr) (l_57 c_58 : Nat), ∃ w15 : World, (builtin .append #[29, 29] 29 #[] #[.slice s6.a s6.len s6.cap, .slice (some (newA w)) 1 1]).run Tryd.prog w14 = .ok (.value (.slice a_56 l_57 c_58)) w15 ∧
  let w16 := w15.alloc (.cells #[.int .i64 y13] 3);
  ∃ (a_59 : Option Addr) (l_60 c_61 : Nat), ∃ w17 : World, (builtin .append #[29, 29] 29 #[] #[.slice pubs7.a pubs7.len pubs7.cap, .slice (some (newA w15)) 1 1]).run Tryd.prog w16 = .ok (.value (.slice a_59 l_60 c_61)) w17 ∧
  cond (decide ((i10 : Int) < ((have1.len : Nat) : Int)))
  (0 ≤ (i10 : Int) ∧ i10 < ((have1.len : Nat) : Int) ∧ ∃ q_62 : Addr, have1.a = some q_62 ∧
  ∃ b_63 : Bool, w17.cell? (q_62.add (i10 : Int).toNat) = some (.bool b_63) ∧
  cond b_63
  (trystlaw23_OnionHidden.c8 R N7 have1 a5 ⟨a_56, l_57, c_58⟩ ⟨a_59, l_60, c_61⟩ told8 all9 i10 x11 w17)
  ((let i10_63 : Int := (IntKind.i64.wrap (i10 + 1));
  N7 have1 a5 ⟨a_56, l_57, c_58⟩ ⟨a_59, l_60, c_61⟩ told8 false i10_63 w17)))
  ((let i10_64 : Int := (IntKind.i64.wrap (i10 + 1));
  N7 have1 a5 ⟨a_56, l_57, c_58⟩ ⟨a_59, l_60, c_61⟩ told8 false i10_64 w17))

def trystlaw23_OnionHidden.b7 (R : Value → World → Prop) (N7 : Sl → Option Addr → Sl → Sl → Sl → Bool → Int → World → Prop) (have1 : Sl) (a5 : Option Addr) (s6 : Sl) (pubs7 : Sl) (told8 : Sl) (all9 : Bool) (i10 : Int) (w : World) : Prop :=
  cond (decide ((i10 : Int) < 3))
  (CallsV Tryd.prog n_term_Arena_Make #[.pointer a5, .int .i64 1, .int .i64 (IntKind.i64.wrap (100 + i10)), .slice none 0 0] w (fun v_66 w18 =>
  ∃ x_67 : Int, ∃ x_68 : Int, v_66 = .tuple #[.int .i64 x_67, .int .i64 x_68] ∧
  let w19 := w18.alloc (.cells #[.int .i64 x_67] 3);
  CallsV Tryd.prog n_term_Arena_Make #[.pointer a5, .int .i64 5, .int .i64 0, .slice (some (newA w18)) 1 1] w19 (fun v_69 w20 =>
  ∃ x_70 : Int, ∃ x_71 : Int, v_69 = .tuple #[.int .i64 x_70, .int .i64 x_71] ∧
  cond ((x_68 : Int) != 0)
  (R (.bool false) w20)
  (cond ((x_71 : Int) != 0)
  (R (.bool false) w20)
  (trystlaw23_OnionHidden.c9 R N7 have1 a5 s6 pubs7 told8 all9 i10 x_67 x_70 w20)))))
  (trystlaw23_OnionHidden.c6 R have1 a5 s6 pubs7 told8 all9 w)

def trystlaw23_OnionHidden.l7 (R : Value → World → Prop) (have1 : Sl) (a5 : Option Addr) (s6 : Sl) (pubs7 : Sl) (told8 : Sl) (all9 : Bool) (i10 : Int) (w : World) : Prop :=
  ∃ (I : (Sl × Sl × Sl × Bool × Int) → World → Prop) (μ : (Sl × Sl × Sl × Bool × Int) → World → Nat), I (s6, pubs7, told8, all9, i10) w ∧ ∀ s w, I s w → trystlaw23_OnionHidden.b7 R (fun have1' a5' s6' pubs7' told8' all9' i10' w' => (have1' = have1 ∧ a5' = a5 ∧ I (s6', pubs7', told8', all9', i10') w') ∧ μ (s6', pubs7', told8', all9', i10') w' < μ s w) have1 a5 s.1 s.2.1 s.2.2.1 s.2.2.2.1 s.2.2.2.2 w

def trystlaw23_OnionHidden.c10 (R : Value → World → Prop) (have1 : Sl) (w : World) : Prop :=
  CallsV Tryd.prog n_term_New #[] w (fun v_72 w21 =>
  ∃ p_73 : Option Addr, v_72 = .pointer p_73 ∧
  cond ((p_73).isNone)
  (R (.bool false) w21)
  (trystlaw23_OnionHidden.l7 R have1 p_73 ⟨none, 0, 0⟩ ⟨none, 0, 0⟩ ⟨none, 0, 0⟩ true 0 w21))

def trystlaw23_OnionHidden.main (R : Value → World → Prop) (n0 : Int) (have1 : Sl) (w : World) : Prop :=
  cond (decide ((n0 : Int) < 0))
  (R (.bool true) w)
  (cond (decide ((((have1.len : Nat) : Int) : Int) > 10))
  (R (.bool true) w)
  (trystlaw23_OnionHidden.c10 R have1 w))

def trystlaw23_OnionHidden.J7 (R : Value → World → Prop) (N7 : Sl → Option Addr → Sl → Sl → Sl → Bool → Int → World → Prop) (k : Nat) (fr : Fr) (w : World) : Prop :=
  cond (Nat.beq k 9) (dec [(1, .slice), (5, .ptr), (6, .slice), (7, .slice), (8, .slice), (9, .bool), (10, (.int .i64)), (11, (.int .i64)), (13, (.int .i64))] fr fun x => trystlaw23_OnionHidden.c9 R N7 x.1 x.2.1 x.2.2.1 x.2.2.2.1 x.2.2.2.2.1 x.2.2.2.2.2.1 x.2.2.2.2.2.2.1 x.2.2.2.2.2.2.2.1 x.2.2.2.2.2.2.2.2 w) (cond (Nat.beq k 8) (dec [(1, .slice), (5, .ptr), (6, .slice), (7, .slice), (8, .slice), (9, .bool), (10, (.int .i64)), (11, (.int .i64))] fr fun x => trystlaw23_OnionHidden.c8 R N7 x.1 x.2.1 x.2.2.1 x.2.2.2.1 x.2.2.2.2.1 x.2.2.2.2.2.1 x.2.2.2.2.2.2.1 x.2.2.2.2.2.2.2 w) (False))

def trystlaw23_OnionHidden.J0 (R : Value → World → Prop) (k : Nat) (fr : Fr) (w : World) : Prop :=
  cond (Nat.beq k 10) (dec [(1, .slice)] fr fun x => trystlaw23_OnionHidden.c10 R x w) (cond (Nat.beq k 7) (dec [(1, .slice), (5, .ptr), (6, .slice), (7, .slice), (8, .slice), (9, .bool), (10, (.int .i64))] fr fun x => trystlaw23_OnionHidden.l7 R x.1 x.2.1 x.2.2.1 x.2.2.2.1 x.2.2.2.2.1 x.2.2.2.2.2.1 x.2.2.2.2.2.2 w) (cond (Nat.beq k 6) (dec [(1, .slice), (5, .ptr), (6, .slice), (7, .slice), (8, .slice), (9, .bool)] fr fun x => trystlaw23_OnionHidden.c6 R x.1 x.2.1 x.2.2.1 x.2.2.2.1 x.2.2.2.2.1 x.2.2.2.2.2 w) (cond (Nat.beq k 5) (dec [(1, .slice), (5, .ptr), (6, .slice), (7, .slice), (8, .slice), (9, .bool), (15, (.int .i64)), (17, (.int .i64)), (19, (.int .i64))] fr fun x => trystlaw23_OnionHidden.c5 R x.1 x.2.1 x.2.2.1 x.2.2.2.1 x.2.2.2.2.1 x.2.2.2.2.2.1 x.2.2.2.2.2.2.1 x.2.2.2.2.2.2.2.1 x.2.2.2.2.2.2.2.2 w) (cond (Nat.beq k 4) (dec [(1, .slice), (5, .ptr), (6, .slice), (8, .slice), (9, .bool), (15, (.int .i64)), (17, (.int .i64)), (19, (.int .i64)), (21, (.int .i64)), (22, .slice), (23, (.int .i64)), (24, (.int .i64))] fr fun x => trystlaw23_OnionHidden.l4 R x.1 x.2.1 x.2.2.1 x.2.2.2.1 x.2.2.2.2.1 x.2.2.2.2.2.1 x.2.2.2.2.2.2.1 x.2.2.2.2.2.2.2.1 x.2.2.2.2.2.2.2.2.1 x.2.2.2.2.2.2.2.2.2.1 x.2.2.2.2.2.2.2.2.2.2.1 x.2.2.2.2.2.2.2.2.2.2.2 w) (cond (Nat.beq k 3) (dec [(1, .slice), (5, .ptr), (6, .slice), (8, .slice), (9, .bool), (15, (.int .i64)), (17, (.int .i64)), (19, (.int .i64)), (21, (.int .i64)), (23, (.int .i64))] fr fun x => trystlaw23_OnionHidden.c3 R x.1 x.2.1 x.2.2.1 x.2.2.2.1 x.2.2.2.2.1 x.2.2.2.2.2.1 x.2.2.2.2.2.2.1 x.2.2.2.2.2.2.2.1 x.2.2.2.2.2.2.2.2.1 x.2.2.2.2.2.2.2.2.2 w) (cond (Nat.beq k 2) (dec [(1, .slice), (9, .bool), (17, (.int .i64)), (19, (.int .i64)), (25, .slice), (26, (.int .i64))] fr fun x => trystlaw23_OnionHidden.c2 R x.1 x.2.1 x.2.2.1 x.2.2.2.1 x.2.2.2.2.1 x.2.2.2.2.2 w) (cond (Nat.beq k 1) (dec [(9, .bool), (17, (.int .i64)), (19, (.int .i64)), (25, .slice), (26, (.int .i64)), (28, .bool)] fr fun x => trystlaw23_OnionHidden.c1 R x.1 x.2.1 x.2.2.1 x.2.2.2.1 x.2.2.2.2.1 x.2.2.2.2.2 w) (False))))))))

set_option maxRecDepth 100000 in
theorem trystlaw23_OnionHidden.lift {R : Value → World → Prop} {n0 : Int} {have1 : Sl} {w : World} (h : trystlaw23_OnionHidden.main R n0 have1 w) : CallsV Tryd.prog n_trystlaw23_OnionHidden #[.int .i64 n0, .slice have1.a have1.len have1.cap] w R :=
  liftCalls (c := (.seq (.leaf (cL (bd Tryd.f18))) (.seq (.seq (.leaf (cL (cL (cR (bd Tryd.f18))))) (.cnd (.tmp 35) (.seq (.leaf (cL (cT (cR (cL (cR (bd Tryd.f18))))))) (.leaf (cR (cT (cR (cL (cR (bd Tryd.f18)))))))) (.leaf (cE (cR (cL (cR (bd Tryd.f18)))))))) (.cut 10 (.seq (.leaf (cL (cR (cR (bd Tryd.f18))))) (.seq (.seq (.leaf (cL (cL (cR (cR (cR (bd Tryd.f18))))))) (.cnd (.tmp 38) (.seq (.leaf (cL (cT (cR (cL (cR (cR (cR (bd Tryd.f18))))))))) (.leaf (cR (cT (cR (cL (cR (cR (cR (bd Tryd.f18)))))))))) (.leaf (cE (cR (cL (cR (cR (cR (bd Tryd.f18)))))))))) (.seq (.leaf (cL (cR (cR (cR (cR (bd Tryd.f18))))))) (.seq (.leaf (cL (cR (cR (cR (cR (cR (bd Tryd.f18)))))))) (.seq (.seq (.leaf (cL (cL (cR (cR (cR (cR (cR (cR (bd Tryd.f18)))))))))) (.block 0 (.loop 7 (.seq (.seq (.leaf (cL (cL (cB (cB (cR (cL (cR (cR (cR (cR (cR (cR (bd Tryd.f18)))))))))))))) (.cnd (.tmp 40) (.leaf (cT (cR (cL (cB (cB (cR (cL (cR (cR (cR (cR (cR (cR (bd Tryd.f18))))))))))))))) (.leaf (cE (cR (cL (cB (cB (cR (cL (cR (cR (cR (cR (cR (cR (bd Tryd.f18))))))))))))))))) (.seq (.block 1 (.seq (.leaf (cL (cB (cL (cR (cB (cB (cR (cL (cR (cR (cR (cR (cR (cR (bd Tryd.f18)))))))))))))))) (.seq (.leaf (cL (cR (cB (cL (cR (cB (cB (cR (cL (cR (cR (cR (cR (cR (cR (bd Tryd.f18))))))))))))))))) (.seq (.seq (.leaf (cL (cL (cR (cR (cB (cL (cR (cB (cB (cR (cL (cR (cR (cR (cR (cR (cR (bd Tryd.f18))))))))))))))))))) (.cnd (.tmp 62) (.seq (.leaf (cL (cT (cR (cL (cR (cR (cB (cL (cR (cB (cB (cR (cL (cR (cR (cR (cR (cR (cR (bd Tryd.f18))))))))))))))))))))) (.leaf (cR (cT (cR (cL (cR (cR (cB (cL (cR (cB (cB (cR (cL (cR (cR (cR (cR (cR (cR (bd Tryd.f18)))))))))))))))))))))) (.leaf (cE (cR (cL (cR (cR (cB (cL (cR (cB (cB (cR (cL (cR (cR (cR (cR (cR (cR (bd Tryd.f18)))))))))))))))))))))) (.cut 9 (.seq (.leaf (cL (cR (cR (cR (cB (cL (cR (cB (cB (cR (cL (cR (cR (cR (cR (cR (cR (bd Tryd.f18))))))))))))))))))) (.seq (.leaf (cL (cR (cR (cR (cR (cB (cL (cR (cB (cB (cR (cL (cR (cR (cR (cR (cR (cR (bd Tryd.f18)))))))))))))))))))) (.cnd (.tmp 80) (.cut 8 (.leaf (cT (cR (cR (cR (cR (cR (cB (cL (cR (cB (cB (cR (cL (cR (cR (cR (cR (cR (cR (bd Tryd.f18)))))))))))))))))))))) (.leaf (cE (cR (cR (cR (cR (cR (cB (cL (cR (cB (cB (cR (cL (cR (cR (cR (cR (cR (cR (bd Tryd.f18))))))))))))))))))))))))))))) (.leaf (cR (cR (cB (cB (cR (cL (cR (cR (cR (cR (cR (cR (bd Tryd.f18))))))))))))))))))) (.cut 6 (.seq (.leaf (cL (cR (cR (cR (cR (cR (cR (cR (bd Tryd.f18)))))))))) (.seq (.leaf (cL (cR (cR (cR (cR (cR (cR (cR (cR (bd Tryd.f18))))))))))) (.seq (.leaf (cL (cR (cR (cR (cR (cR (cR (cR (cR (cR (bd Tryd.f18)))))))))))) (.seq (.seq (.leaf (cL (cL (cR (cR (cR (cR (cR (cR (cR (cR (cR (cR (bd Tryd.f18)))))))))))))) (.cnd (.tmp 109) (.seq (.leaf (cL (cT (cR (cL (cR (cR (cR (cR (cR (cR (cR (cR (cR (cR (bd Tryd.f18)))))))))))))))) (.leaf (cR (cT (cR (cL (cR (cR (cR (cR (cR (cR (cR (cR (cR (cR (bd Tryd.f18))))))))))))))))) (.leaf (cE (cR (cL (cR (cR (cR (cR (cR (cR (cR (cR (cR (cR (bd Tryd.f18))))))))))))))))) (.cut 5 (.seq (.leaf (cL (cR (cR (cR (cR (cR (cR (cR (cR (cR (cR (cR (bd Tryd.f18)))))))))))))) (.seq (.seq (.leaf (cL (cL (cR (cR (cR (cR (cR (cR (cR (cR (cR (cR (cR (cR (bd Tryd.f18)))))))))))))))) (.cnd (.tmp 120) (.seq (.leaf (cL (cT (cR (cL (cR (cR (cR (cR (cR (cR (cR (cR (cR (cR (cR (cR (bd Tryd.f18)))))))))))))))))) (.leaf (cR (cT (cR (cL (cR (cR (cR (cR (cR (cR (cR (cR (cR (cR (cR (cR (bd Tryd.f18))))))))))))))))))) (.leaf (cE (cR (cL (cR (cR (cR (cR (cR (cR (cR (cR (cR (cR (cR (cR (bd Tryd.f18))))))))))))))))))) (.seq (.leaf (cL (cR (cR (cR (cR (cR (cR (cR (cR (cR (cR (cR (cR (cR (bd Tryd.f18)))))))))))))))) (.seq (.seq (.leaf (cL (cL (cR (cR (cR (cR (cR (cR (cR (cR (cR (cR (cR (cR (cR (cR (bd Tryd.f18)))))))))))))))))) (.block 2 (.loop 4 (.seq (.seq (.leaf (cL (cL (cB (cB (cR (cL (cR (cR (cR (cR (cR (cR (cR (cR (cR (cR (cR (cR (cR (cR (bd Tryd.f18)))))))))))))))))))))) (.cnd (.tmp 123) (.leaf (cT (cR (cL (cB (cB (cR (cL (cR (cR (cR (cR (cR (cR (cR (cR (cR (cR (cR (cR (cR (cR (bd Tryd.f18))))))))))))))))))))))) (.leaf (cE (cR (cL (cB (cB (cR (cL (cR (cR (cR (cR (cR (cR (cR (cR (cR (cR (cR (cR (cR (cR (bd Tryd.f18))))))))))))))))))))))))) (.seq (.block 3 (.seq (.leaf (cL (cB (cL (cR (cB (cB (cR (cL (cR (cR (cR (cR (cR (cR (cR (cR (cR (cR (cR (cR (cR (cR (bd Tryd.f18)))))))))))))))))))))))) (.seq (.leaf (cL (cR (cB (cL (cR (cB (cB (cR (cL (cR (cR (cR (cR (cR (cR (cR (cR (cR (cR (cR (cR (cR (cR (bd Tryd.f18))))))))))))))))))))))))) (.cnd (.tmp 137) (.seq (.leaf (cL (cT (cR (cR (cB (cL (cR (cB (cB (cR (cL (cR (cR (cR (cR (cR (cR (cR (cR (cR (cR (cR (cR (cR (cR (bd Tryd.f18))))))))))))))))))))))))))) (.leaf (cR (cT (cR (cR (cB (cL (cR (cB (cB (cR (cL (cR (cR (cR (cR (cR (cR (cR (cR (cR (cR (cR (cR (cR (cR (bd Tryd.f18)))))))))))))))))))))))))))) (.leaf (cE (cR (cR (cB (cL (cR (cB (cB (cR (cL (cR (cR (cR (cR (cR (cR (cR (cR (cR (cR (cR (cR (cR (cR (bd Tryd.f18)))))))))))))))))))))))))))))) (.leaf (cR (cR (cB (cB (cR (cL (cR (cR (cR (cR (cR (cR (cR (cR (cR (cR (cR (cR (cR (cR (bd Tryd.f18))))))))))))))))))))))))))) (.cut 3 (.seq (.leaf (cL (cR (cR (cR (cR (cR (cR (cR (cR (cR (cR (cR (cR (cR (cR (cR (bd Tryd.f18)))))))))))))))))) (.seq (.leaf (cL (cR (cR (cR (cR (cR (cR (cR (cR (cR (cR (cR (cR (cR (cR (cR (cR (bd Tryd.f18))))))))))))))))))) (.seq (.seq (.leaf (cL (cL (cR (cR (cR (cR (cR (cR (cR (cR (cR (cR (cR (cR (cR (cR (cR (cR (cR (bd Tryd.f18))))))))))))))))))))) (.cnd (.tmp 170) (.seq (.leaf (cL (cT (cR (cL (cR (cR (cR (cR (cR (cR (cR (cR (cR (cR (cR (cR (cR (cR (cR (cR (cR (bd Tryd.f18))))))))))))))))))))))) (.leaf (cR (cT (cR (cL (cR (cR (cR (cR (cR (cR (cR (cR (cR (cR (cR (cR (cR (cR (cR (cR (cR (bd Tryd.f18)))))))))))))))))))))))) (.leaf (cE (cR (cL (cR (cR (cR (cR (cR (cR (cR (cR (cR (cR (cR (cR (cR (cR (cR (cR (cR (bd Tryd.f18)))))))))))))))))))))))) (.cut 2 (.seq (.leaf (cL (cR (cR (cR (cR (cR (cR (cR (cR (cR (cR (cR (cR (cR (cR (cR (cR (cR (cR (bd Tryd.f18))))))))))))))))))))) (.cut 1 (.seq (.leaf (cL (cR (cR (cR (cR (cR (cR (cR (cR (cR (cR (cR (cR (cR (cR (cR (cR (cR (cR (cR (bd Tryd.f18)))))))))))))))))))))) (.leaf (cR (cR (cR (cR (cR (cR (cR (cR (cR (cR (cR (cR (cR (cR (cR (cR (cR (cR (cR (cR (bd Tryd.f18))))))))))))))))))))))))))))))))))))))))))))))))) (J := trystlaw23_OnionHidden.J0 R) LfYtoclhecldmahiaaDoor.mixed Tryd.func18 (by kernel_rfl) (by kernel_rfl) (mkSeq (mkSeq (mkCut (cutDef [(1, .slice)] (fun x w => trystlaw23_OnionHidden.c10 R x w) (fun _ _ => by kernel_rfl) (fun _ _ => by kernel_rfl)) (mkSeq (mkSeq (mkSeq (mkSeq (mkSeq (mkCut (cutDef [(1, .slice), (5, .ptr), (6, .slice), (7, .slice), (8, .slice), (9, .bool)] (fun x w => trystlaw23_OnionHidden.c6 R x.1 x.2.1 x.2.2.1 x.2.2.2.1 x.2.2.2.2.1 x.2.2.2.2.2 w) (fun _ _ => by kernel_rfl) (fun _ _ => by kernel_rfl)) (mkSeq (mkSeq (mkSeq (mkSeq (mkCut (cutDef [(1, .slice), (5, .ptr), (6, .slice), (7, .slice), (8, .slice), (9, .bool), (15, (.int .i64)), (17, (.int .i64)), (19, (.int .i64))] (fun x w => trystlaw23_OnionHidden.c5 R x.1 x.2.1 x.2.2.1 x.2.2.2.1 x.2.2.2.2.1 x.2.2.2.2.2.1 x.2.2.2.2.2.2.1 x.2.2.2.2.2.2.2.1 x.2.2.2.2.2.2.2.2 w) (fun _ _ => by kernel_rfl) (fun _ _ => by kernel_rfl)) (mkSeq (mkSeq (mkSeq (mkSeq (mkCut (cutDef [(1, .slice), (5, .ptr), (6, .slice), (8, .slice), (9, .bool), (15, (.int .i64)), (17, (.int .i64)), (19, (.int .i64)), (21, (.int .i64)), (23, (.int .i64))] (fun x w => trystlaw23_OnionHidden.c3 R x.1 x.2.1 x.2.2.1 x.2.2.2.1 x.2.2.2.2.1 x.2.2.2.2.2.1 x.2.2.2.2.2.2.1 x.2.2.2.2.2.2.2.1 x.2.2.2.2.2.2.2.2.1 x.2.2.2.2.2.2.2.2.2 w) (fun _ _ => by kernel_rfl) (fun _ _ => by kernel_rfl)) (mkSeq (mkSeq (mkSeq (mkCut (cutDef [(1, .slice), (9, .bool), (17, (.int .i64)), (19, (.int .i64)), (25, .slice), (26, (.int .i64))] (fun x w => trystlaw23_OnionHidden.c2 R x.1 x.2.1 x.2.2.1 x.2.2.2.1 x.2.2.2.2.1 x.2.2.2.2.2 w) (fun _ _ => by kernel_rfl) (fun _ _ => by kernel_rfl)) (mkSeq (mkCut (cutDef [(9, .bool), (17, (.int .i64)), (19, (.int .i64)), (25, .slice), (26, (.int .i64)), (28, .bool)] (fun x w => trystlaw23_OnionHidden.c1 R x.1 x.2.1 x.2.2.1 x.2.2.2.1 x.2.2.2.2.1 x.2.2.2.2.2 w) (fun _ _ => by kernel_rfl) (fun _ _ => by kernel_rfl)) (mkSeq mkLeaf mkLeaf)) mkLeaf)) (mkSeq (mkCnd (mkSeq mkLeaf mkLeaf) mkLeaf) mkLeaf)) mkLeaf) mkLeaf)) (mkSeq (mkBlock (mkLoop (loopDef LfYtoclhecldmahiaaDoor.mixed [(1, .slice), (5, .ptr), (6, .slice), (8, .slice), (9, .bool), (15, (.int .i64)), (17, (.int .i64)), (19, (.int .i64)), (21, (.int .i64)), (22, .slice), (23, (.int .i64)), (24, (.int .i64))] (by kernel_rfl) (fun M4 x w => trystlaw23_OnionHidden.b4 R (fun y0 y1 y2 y3 y4 y5 y6 y7 y8 y9 y10 y11 w => M4 (y0, y1, y2, y3, y4, y5, y6, y7, y8, y9, y10, y11) w) x.1 x.2.1 x.2.2.1 x.2.2.2.1 x.2.2.2.2.1 x.2.2.2.2.2.1 x.2.2.2.2.2.2.1 x.2.2.2.2.2.2.2.1 x.2.2.2.2.2.2.2.2.1 x.2.2.2.2.2.2.2.2.2.1 x.2.2.2.2.2.2.2.2.2.2.1 x.2.2.2.2.2.2.2.2.2.2.2 w) (fun M4 => fun _ _ _ => False) (fun _ _ _ => by kernel_rfl) (fun M4 => (mkSeq (mkSeq mkLeaf (mkBlock (mkSeq (mkSeq (mkCnd (mkSeq mkLeaf mkLeaf) mkLeaf) mkLeaf) mkLeaf))) (mkSeq (mkCnd mkLeaf mkLeaf) mkLeaf))) (fun x w => trystlaw23_OnionHidden.l4 R x.1 x.2.1 x.2.2.1 x.2.2.2.1 x.2.2.2.2.1 x.2.2.2.2.2.1 x.2.2.2.2.2.2.1 x.2.2.2.2.2.2.2.1 x.2.2.2.2.2.2.2.2.1 x.2.2.2.2.2.2.2.2.2.1 x.2.2.2.2.2.2.2.2.2.2.1 x.2.2.2.2.2.2.2.2.2.2.2 w) (by rintro ⟨c0, c1, c2, c3, c4, c5, c6, c7, c8, c9, s0⟩ w ⟨I, μ, h0, h1⟩; refine ⟨fun y w => y.1 = c0 ∧ y.2.1 = c1 ∧ y.2.2.1 = c2 ∧ y.2.2.2.1 = c3 ∧ y.2.2.2.2.1 = c4 ∧ y.2.2.2.2.2.1 = c5 ∧ y.2.2.2.2.2.2.1 = c6 ∧ y.2.2.2.2.2.2.2.1 = c7 ∧ y.2.2.2.2.2.2.2.2.1 = c8 ∧ y.2.2.2.2.2.2.2.2.2.1 = c9 ∧ I y.2.2.2.2.2.2.2.2.2.2 w, fun y w => μ y.2.2.2.2.2.2.2.2.2.2 w, ⟨rfl, rfl, rfl, rfl, rfl, rfl, rfl, rfl, rfl, rfl, h0⟩, ?_⟩; rintro ⟨d0, d1, d2, d3, d4, d5, d6, d7, d8, d9, t0⟩ w ⟨e0, e1, e2, e3, e4, e5, e6, e7, e8, e9, hI⟩; dsimp only at e0 e1 e2 e3 e4 e5 e6 e7 e8 e9 hI; subst e0; subst e1; subst e2; subst e3; subst e4; subst e5; subst e6; subst e7; subst e8; subst e9; exact h1 _ _ hI) (fun _ _ => by kernel_rfl)))) mkLeaf)) mkLeaf) (mkSeq (mkCnd (mkSeq mkLeaf mkLeaf) mkLeaf) mkLeaf)) mkLeaf)) (mkSeq (mkCnd (mkSeq mkLeaf mkLeaf) mkLeaf) mkLeaf)) mkLeaf) mkLeaf) mkLeaf)) (mkSeq (mkBlock (mkLoop (loopDef LfYtoclhecldmahiaaDoor.mixed [(1, .slice), (5, .ptr), (6, .slice), (7, .slice), (8, .slice), (9, .bool), (10, (.int .i64))] (by kernel_rfl) (fun M7 x w => trystlaw23_OnionHidden.b7 R (fun y0 y1 y2 y3 y4 y5 y6 w => M7 (y0, y1, y2, y3, y4, y5, y6) w) x.1 x.2.1 x.2.2.1 x.2.2.2.1 x.2.2.2.2.1 x.2.2.2.2.2.1 x.2.2.2.2.2.2 w) (fun M7 => trystlaw23_OnionHidden.J7 R (fun y0 y1 y2 y3 y4 y5 y6 w => M7 (y0, y1, y2, y3, y4, y5, y6) w)) (fun _ _ _ => by kernel_rfl) (fun M7 => (mkSeq (mkSeq mkLeaf (mkBlock (mkSeq (mkSeq (mkSeq (mkCut (cutDef [(1, .slice), (5, .ptr), (6, .slice), (7, .slice), (8, .slice), (9, .bool), (10, (.int .i64)), (11, (.int .i64)), (13, (.int .i64))] (fun x w => trystlaw23_OnionHidden.c9 R (fun y0 y1 y2 y3 y4 y5 y6 w => M7 (y0, y1, y2, y3, y4, y5, y6) w) x.1 x.2.1 x.2.2.1 x.2.2.2.1 x.2.2.2.2.1 x.2.2.2.2.2.1 x.2.2.2.2.2.2.1 x.2.2.2.2.2.2.2.1 x.2.2.2.2.2.2.2.2 w) (fun _ _ => by kernel_rfl) (fun _ _ => by kernel_rfl)) (mkSeq (mkSeq (mkCnd (mkCut (cutDef [(1, .slice), (5, .ptr), (6, .slice), (7, .slice), (8, .slice), (9, .bool), (10, (.int .i64)), (11, (.int .i64))] (fun x w => trystlaw23_OnionHidden.c8 R (fun y0 y1 y2 y3 y4 y5 y6 w => M7 (y0, y1, y2, y3, y4, y5, y6) w) x.1 x.2.1 x.2.2.1 x.2.2.2.1 x.2.2.2.2.1 x.2.2.2.2.2.1 x.2.2.2.2.2.2.1 x.2.2.2.2.2.2.2 w) (fun _ _ => by kernel_rfl) (fun _ _ => by kernel_rfl)) mkLeaf) mkLeaf) mkLeaf) mkLeaf)) (mkSeq (mkCnd (mkSeq mkLeaf mkLeaf) mkLeaf) mkLeaf)) mkLeaf) mkLeaf))) (mkSeq (mkCnd mkLeaf mkLeaf) mkLeaf))) (fun x w => trystlaw23_OnionHidden.l7 R x.1 x.2.1 x.2.2.1 x.2.2.2.1 x.2.2.2.2.1 x.2.2.2.2.2.1 x.2.2.2.2.2.2 w) (by rintro ⟨c0, c1, s0⟩ w ⟨I, μ, h0, h1⟩; refine ⟨fun y w => y.1 = c0 ∧ y.2.1 = c1 ∧ I y.2.2 w, fun y w => μ y.2.2 w, ⟨rfl, rfl, h0⟩, ?_⟩; rintro ⟨d0, d1, t0⟩ w ⟨e0, e1, hI⟩; dsimp only at e0 e1 hI; subst e0; subst e1; exact h1 _ _ hI) (fun _ _ => by kernel_rfl)))) mkLeaf)) mkLeaf) mkLeaf) (mkSeq (mkCnd (mkSeq mkLeaf mkLeaf) mkLeaf) mkLeaf)) mkLeaf)) (mkSeq (mkCnd (mkSeq mkLeaf mkLeaf) mkLeaf) mkLeaf)) mkLeaf) (kcast (by kernel_rfl) h)

/-! trystlaw23_wakes -/
def trystlaw23_wakes.main (R : Value → World → Prop)  (w : World) : Prop :=
  CallsV Tryd.prog n_term_New #[] w (fun v_1 w1 =>
  ∃ p_2 : Option Addr, v_1 = .pointer p_2 ∧
  cond ((p_2).isNone)
  (R (.bool false) w1)
  (CallsV Tryd.prog n_term_Arena_Make #[.pointer p_2, .int .i64 1, .int .i64 1, .slice none 0 0] w1 (fun v_3 w2 =>
  ∃ x_4 : Int, ∃ x_5 : Int, v_3 = .tuple #[.int .i64 x_4, .int .i64 x_5] ∧
  let w3 := w2.alloc (.cells #[.int .i64 x_4] 3);
  CallsV Tryd.prog n_term_Arena_Make #[.pointer p_2, .int .i64 5, .int .i64 0, .slice (some (newA w2)) 1 1] w3 (fun v_6 w4 =>
  ∃ x_7 : Int, ∃ x_8 : Int, v_6 = .tuple #[.int .i64 x_7, .int .i64 x_8] ∧
  CallsV Tryd.prog n_term_Arena_Make #[.pointer p_2, .int .i64 2, .int .i64 5, .slice none 0 0] w4 (fun v_9 w5 =>
  ∃ x_10 : Int, ∃ x_11 : Int, v_9 = .tuple #[.int .i64 x_10, .int .i64 x_11] ∧
  let w6 := w5.alloc (.cells #[.int .i64 x_7, .int .i64 x_7, .int .i64 x_7] 3);
  CallsV Tryd.prog n_onion_Wrap #[.pointer p_2, .slice (some (newA w5)) 3 3, .int .i64 x_4, .int .i64 x_10] w6 (fun v_12 w7 =>
  ∃ x_13 : Int, ∃ (a_14 : Option Addr) (l_15 c_16 : Nat), ∃ x_17 : Int, v_12 = .tuple #[.int .i64 x_13, .slice a_14 l_15 c_16, .int .i64 x_17] ∧
  CallsV Tryd.prog n_onion_Peel #[.pointer p_2, .int .i64 x_4, .int .i64 x_13] w7 (fun v_18 w8 =>
  ∃ x_19 : Int, ∃ x_20 : Int, ∃ x_21 : Int, v_18 = .tuple #[.int .i64 x_19, .int .i64 x_20, .int .i64 x_21] ∧
  cond ((x_17 : Int) == 0)
  (cond ((x_21 : Int) == 0)
  (cond ((((l_15 : Nat) : Int) : Int) == 3)
  (0 ≤ (0 : Int) ∧ 0 < ((l_15 : Nat) : Int) ∧ ∃ q_22 : Addr, a_14 = some q_22 ∧
  ∃ x_23 : Int, w8.cell? (q_22.add (0 : Int).toNat) = some (.int .i64 x_23) ∧
  cond ((x_20 : Int) == x_23)
  (R (.bool ((x_19 : Int) != x_10)) w8)
  (R (.bool false) w8))
  (R (.bool false) w8))
  (R (.bool false) w8))
  (R (.bool false) w8))))))))

def trystlaw23_wakes.J0 (_ : Value → World → Prop) (_ : Nat) (_ : Fr) (_ : World) : Prop := False

set_option maxRecDepth 100000 in
theorem trystlaw23_wakes.lift {R : Value → World → Prop}  {w : World} (h : trystlaw23_wakes.main R  w) : CallsV Tryd.prog n_trystlaw23_wakes #[] w R :=
  liftCalls (c := (.seq (.leaf (cL (bd Tryd.f50))) (.seq (.leaf (cL (cR (bd Tryd.f50)))) (.seq (.seq (.leaf (cL (cL (cR (cR (bd Tryd.f50)))))) (.cnd (.tmp 16) (.seq (.leaf (cL (cT (cR (cL (cR (cR (bd Tryd.f50)))))))) (.leaf (cR (cT (cR (cL (cR (cR (bd Tryd.f50))))))))) (.leaf (cE (cR (cL (cR (cR (bd Tryd.f50))))))))) (.seq (.leaf (cL (cR (cR (cR (bd Tryd.f50)))))) (.seq (.leaf (cL (cR (cR (cR (cR (bd Tryd.f50))))))) (.seq (.leaf (cL (cR (cR (cR (cR (cR (bd Tryd.f50)))))))) (.seq (.leaf (cL (cR (cR (cR (cR (cR (cR (bd Tryd.f50))))))))) (.seq (.leaf (cL (cR (cR (cR (cR (cR (cR (cR (bd Tryd.f50)))))))))) (.seq (.leaf (cL (cR (cR (cR (cR (cR (cR (cR (cR (bd Tryd.f50))))))))))) (.leaf (cR (cR (cR (cR (cR (cR (cR (cR (cR (bd Tryd.f50))))))))))))))))))))) (J := trystlaw23_wakes.J0 R) LfYtoclhecldmahiaaDoor.mixed Tryd.func50 (by kernel_rfl) (by kernel_rfl) (mkSeq (mkSeq (mkSeq (mkSeq (mkSeq (mkSeq (mkSeq (mkSeq (mkSeq mkLeaf mkLeaf) mkLeaf) mkLeaf) mkLeaf) mkLeaf) mkLeaf) (mkSeq (mkCnd (mkSeq mkLeaf mkLeaf) mkLeaf) mkLeaf)) mkLeaf) mkLeaf) (kcast (by kernel_rfl) h)

end Go.Proofs.YtoclhecldmahiaaDoor
