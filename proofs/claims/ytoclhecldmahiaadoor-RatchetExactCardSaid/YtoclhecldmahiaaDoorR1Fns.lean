/-
  What the code of these functions comes to, and that it suffices for the call. Written by a program of ours, for this claim.
-/
import Derived.Test.YtoclhecldmahiaaDoorRcFns
set_option linter.unusedVariables false
set_option linter.unusedVariables false
namespace Go.Proofs.YtoclhecldmahiaaDoor
open Go.Lf
abbrev n_trystlaw19_RatchetMeets : Nat := 14
abbrev n_trystlaw19_RatchetBounds : Nat := 15
/-! trystlaw19_RatchetMeets -/
def trystlaw19_RatchetMeets.c1 (R : Value → World → Prop) (r16 : Addr) (w : World) : Prop :=
  ∃ x_1 : Int, w.cell? r16 = some (.int .i64 x_1) ∧
  ∃ x_2 : Int, w.cell? (r16.add 1) = some (.int .i64 x_2) ∧
  ∃ (a_3 : Option Addr) (l_4 c_5 : Nat), w.cell? (r16.add 2) = some (.slice a_3 l_4 c_5) ∧
  CallsV Tryd.prog n_ratchet_Check #[.agg #[.int .i64 x_1, .int .i64 x_2, .slice a_3 l_4 c_5]] w (fun v_6 w1 =>
  ∃ x_7 : Int, v_6 = .int .i64 x_7 ∧
  cond ((x_7 : Int) == 0)
  (CallsV Tryd.prog n_trystlaw19_wakes #[] w1 (fun v_8 w2 =>
  ∃ b_9 : Bool, v_8 = .bool b_9 ∧
  R (.bool b_9) w2))
  (R (.bool false) w1))

def trystlaw19_RatchetMeets.c3 (R : Value → World → Prop) (N2 : Int → Sl → Option Addr → Sl → Addr → Sl → Int → World → Prop) (n0 : Int) (takes1 : Sl) (a5 : Option Addr) (keys9 : Sl) (r16 : Addr) (taken17 : Sl) (i18 : Int) (at19 : Int) (next21 : Addr) (w : World) : Prop :=
  ∃ S_10 : World → Prop, S_10 w.drew ∧
  ∃ x_11 : Int, (∀ x, S_10 x → x.cell? next21 = some (.int .i64 x_11)) ∧
  ∃ x_12 : Int, (∀ x, S_10 x → x.cell? (next21.add 1) = some (.int .i64 x_12)) ∧
  ∃ (a_13 : Option Addr) (l_14 c_15 : Nat), (∀ x, S_10 x → x.cell? (next21.add 2) = some (.slice a_13 l_14 c_15)) ∧
  0 ≤ (at19 : Int) ∧ at19 < ((taken17.len : Nat) : Int) ∧ ∃ q_16 : Addr, taken17.a = some q_16 ∧
  Wr w.drew (q_16.add (at19 : Int).toNat) ∧
  (let w3 := w.drew.setCell (q_16.add (at19 : Int).toNat) (.bool true);
  S_10 w3 ∧
  (∀ j, j < 3 → Wr w3 (r16.add j)) ∧
  (let w4 := setCells r16 [.int .i64 x_11, .int .i64 x_12, .slice a_13 l_14 c_15] 0 w3;
  (let i18_16 : Int := (IntKind.i64.wrap (i18 + 1));
  N2 n0 takes1 a5 keys9 r16 taken17 i18_16 w4)))

def trystlaw19_RatchetMeets.b2 (R : Value → World → Prop) (N2 : Int → Sl → Option Addr → Sl → Addr → Sl → Int → World → Prop) (n0 : Int) (takes1 : Sl) (a5 : Option Addr) (keys9 : Sl) (r16 : Addr) (taken17 : Sl) (i18 : Int) (w : World) : Prop :=
  cond (decide ((i18 : Int) < ((takes1.len : Nat) : Int)))
  (0 ≤ (i18 : Int) ∧ i18 < ((takes1.len : Nat) : Int) ∧ ∃ q_18 : Addr, takes1.a = some q_18 ∧
  ∃ x_19 : Int, w.cell? (q_18.add (i18 : Int).toNat) = some (.int .i64 x_19) ∧
  (IntKind.u64.wrap n0) ≠ 0 ∧
  (let at19_19 : Int := (IntKind.i64.wrap (Int.tmod (IntKind.u64.wrap x_19) (IntKind.u64.wrap n0)));
  ∃ x_21 : Int, w.cell? r16 = some (.int .i64 x_21) ∧
  ∃ x_22 : Int, w.cell? (r16.add 1) = some (.int .i64 x_22) ∧
  ∃ (a_23 : Option Addr) (l_24 c_25 : Nat), w.cell? (r16.add 2) = some (.slice a_23 l_24 c_25) ∧
  CallsV Tryd.prog n_ratchet_Take #[.pointer a5, .agg #[.int .i64 x_21, .int .i64 x_22, .slice a_23 l_24 c_25], .int .i64 at19_19] w (fun v_26 w5 =>
  ∃ x_27 : Int, ∃ x_28 : Int, ∃ x_29 : Int, ∃ (a_30 : Option Addr) (l_31 c_32 : Nat), ∃ x_33 : Int, v_26 = .tuple #[.int .i64 x_27, .agg #[.int .i64 x_28, .int .i64 x_29, .slice a_30 l_31 c_32], .int .i64 x_33] ∧
  let w6 := w5.alloc (.cells #[.int .i64 0, .int .i64 0, .slice none 0 0] 104);
  (∀ j, j < 3 → Wr w6 ((newA w5).add j)) ∧
  (let w7 := setCells (newA w5) [.int .i64 x_28, .int .i64 x_29, .slice a_30 l_31 c_32] 0 w6;
  cond ((x_33 : Int) == 0)
  (0 ≤ (at19_19 : Int) ∧ at19_19 < ((taken17.len : Nat) : Int) ∧ ∃ q_34 : Addr, taken17.a = some q_34 ∧
  ∃ b_35 : Bool, w7.cell? (q_34.add (at19_19 : Int).toNat) = some (.bool b_35) ∧
  cond b_35
  (R (.bool false) w7)
  (0 ≤ (at19_19 : Int) ∧ at19_19 < ((keys9.len : Nat) : Int) ∧ ∃ q_36 : Addr, keys9.a = some q_36 ∧
  ∃ x_37 : Int, w7.cell? (q_36.add (at19_19 : Int).toNat) = some (.int .i64 x_37) ∧
  cond ((x_27 : Int) != x_37)
  (R (.bool false) w7)
  (trystlaw19_RatchetMeets.c3 R N2 n0 takes1 a5 keys9 r16 taken17 i18 at19_19 (newA w5) w7)))
  (cond ((x_33 : Int) != 13)
  (R (.bool false) w7)
  (cond ((x_27 : Int) != 0)
  (R (.bool false) w7)
  (∃ x_38 : Int, w7.cell? (r16.add 1) = some (.int .i64 x_38) ∧
  cond (decide ((at19_19 : Int) ≥ x_38))
  (R (.bool false) w7)
  (0 ≤ (at19_19 : Int) ∧ at19_19 < ((taken17.len : Nat) : Int) ∧ ∃ q_39 : Addr, taken17.a = some q_39 ∧
  ∃ b_40 : Bool, w7.cell? (q_39.add (at19_19 : Int).toNat) = some (.bool b_40) ∧
  cond (!b_40)
  (∃ x_41 : Int, w7.cell? (r16.add 1) = some (.int .i64 x_41) ∧
  cond (decide (((IntKind.i64.wrap (x_41 - at19_19)) : Int) ≤ 16))
  (R (.bool false) w7)
  ((let i18_41 : Int := (IntKind.i64.wrap (i18 + 1));
  N2 n0 takes1 a5 keys9 r16 taken17 i18_41 w7)))
  ((let i18_42 : Int := (IntKind.i64.wrap (i18 + 1));
  N2 n0 takes1 a5 keys9 r16 taken17 i18_42 w7))))))))))
  (trystlaw19_RatchetMeets.c1 R r16 w)

def trystlaw19_RatchetMeets.l2 (R : Value → World → Prop) (n0 : Int) (takes1 : Sl) (a5 : Option Addr) (keys9 : Sl) (r16 : Addr) (taken17 : Sl) (i18 : Int) (w : World) : Prop :=
  ∃ (I : Int → World → Prop) (μ : Int → World → Nat), I i18 w ∧ ∀ s w, I s w → trystlaw19_RatchetMeets.b2 R (fun n0' takes1' a5' keys9' r16' taken17' i18' w' => (n0' = n0 ∧ takes1' = takes1 ∧ a5' = a5 ∧ keys9' = keys9 ∧ r16' = r16 ∧ taken17' = taken17 ∧ I i18' w') ∧ μ i18' w' < μ s w) n0 takes1 a5 keys9 r16 taken17 s w

def trystlaw19_RatchetMeets.c4 (R : Value → World → Prop) (n0 : Int) (takes1 : Sl) (a5 : Option Addr) (c6 : Int) (keys9 : Sl) (w : World) : Prop :=
  CallsV Tryd.prog n_ratchet_New #[.int .i64 c6] w (fun v_44 w8 =>
  ∃ x_45 : Int, ∃ x_46 : Int, ∃ (a_47 : Option Addr) (l_48 c_49 : Nat), v_44 = .agg #[.int .i64 x_45, .int .i64 x_46, .slice a_47 l_48 c_49] ∧
  let w9 := w8.alloc (.cells #[.int .i64 0, .int .i64 0, .slice none 0 0] 104);
  (∀ j, j < 3 → Wr w9 ((newA w8).add j)) ∧
  (let w10 := setCells (newA w8) [.int .i64 x_45, .int .i64 x_46, .slice a_47 l_48 c_49] 0 w9;
  0 ≤ (n0 : Int) ∧ (n0 : Int) ≤ n0 ∧ (1 : Int) * n0 ≤ 281474976710656 ∧ (n0 : Int) ≤ 9223372036854775807 ∧
  (let w11 := w10.alloc (.cells ((Array.range ((n0 : Int).toNat * 1)).map ((#[.bool false] : Array Value)[· % (#[.bool false] : Array Value).size]!)) 4);
  trystlaw19_RatchetMeets.l2 R n0 takes1 a5 keys9 (newA w8) ⟨(some (newA w10)), (n0 : Int).toNat, (n0 : Int).toNat⟩ 0 w11)))

def trystlaw19_RatchetMeets.c6 (R : Value → World → Prop) (N5 : Int → Sl → Option Addr → Int → Addr → Sl → Int → World → Prop) (n0 : Int) (takes1 : Sl) (a5 : Option Addr) (c6 : Int) (s8 : Addr) (keys9 : Sl) (i10 : Int) (k11 : Int) (next13 : Addr) (w : World) : Prop :=
  ∃ S_50 : World → Prop, S_50 w.drew ∧
  ∃ x_51 : Int, (∀ x, S_50 x → x.cell? next13 = some (.int .i64 x_51)) ∧
  ∃ x_52 : Int, (∀ x, S_50 x → x.cell? (next13.add 1) = some (.int .i64 x_52)) ∧
  ∃ (a_53 : Option Addr) (l_54 c_55 : Nat), (∀ x, S_50 x → x.cell? (next13.add 2) = some (.slice a_53 l_54 c_55)) ∧
  let w12 := w.drew.alloc (.cells #[.int .i64 k11] 3);
  S_50 w12 ∧
  ∃ (a_56 : Option Addr) (l_57 c_58 : Nat), ∃ w13 : World, (builtin .append #[29, 29] 29 #[] #[.slice keys9.a keys9.len keys9.cap, .slice (some (newA w.drew)) 1 1]).run Tryd.prog w12 = .ok (.value (.slice a_56 l_57 c_58)) w13 ∧
  S_50 w13 ∧
  (∀ j, j < 3 → Wr w13 (s8.add j)) ∧
  (let w14 := setCells s8 [.int .i64 x_51, .int .i64 x_52, .slice a_53 l_54 c_55] 0 w13;
  (let i10_58 : Int := (IntKind.i64.wrap (i10 + 1));
  N5 n0 takes1 a5 c6 s8 ⟨a_56, l_57, c_58⟩ i10_58 w14))

def trystlaw19_RatchetMeets.b7 (R : Value → World → Prop) (N5 : Int → Sl → Option Addr → Int → Addr → Sl → Int → World → Prop) (N7 : Int → Sl → Option Addr → Int → Addr → Sl → Int → Int → Addr → Int → World → Prop) (n0 : Int) (takes1 : Sl) (a5 : Option Addr) (c6 : Int) (s8 : Addr) (keys9 : Sl) (i10 : Int) (k11 : Int) (next13 : Addr) (j15 : Int) (w : World) : Prop :=
  cond (decide ((j15 : Int) < i10))
  (0 ≤ (j15 : Int) ∧ j15 < ((keys9.len : Nat) : Int) ∧ ∃ q_60 : Addr, keys9.a = some q_60 ∧
  ∃ x_61 : Int, w.cell? (q_60.add (j15 : Int).toNat) = some (.int .i64 x_61) ∧
  cond ((x_61 : Int) == k11)
  (R (.bool false) w)
  ((let j15_61 : Int := (IntKind.i64.wrap (j15 + 1));
  N7 n0 takes1 a5 c6 s8 keys9 i10 k11 next13 j15_61 w)))
  (trystlaw19_RatchetMeets.c6 R N5 n0 takes1 a5 c6 s8 keys9 i10 k11 next13 w)

def trystlaw19_RatchetMeets.l7 (R : Value → World → Prop) (N5 : Int → Sl → Option Addr → Int → Addr → Sl → Int → World → Prop) (n0 : Int) (takes1 : Sl) (a5 : Option Addr) (c6 : Int) (s8 : Addr) (keys9 : Sl) (i10 : Int) (k11 : Int) (next13 : Addr) (j15 : Int) (w : World) : Prop :=
  ∃ (I : Int → World → Prop) (μ : Int → World → Nat), I j15 w ∧ ∀ s w, I s w → trystlaw19_RatchetMeets.b7 R N5 (fun n0' takes1' a5' c6' s8' keys9' i10' k11' next13' j15' w' => (n0' = n0 ∧ takes1' = takes1 ∧ a5' = a5 ∧ c6' = c6 ∧ s8' = s8 ∧ keys9' = keys9 ∧ i10' = i10 ∧ k11' = k11 ∧ next13' = next13 ∧ I j15' w') ∧ μ j15' w' < μ s w) n0 takes1 a5 c6 s8 keys9 i10 k11 next13 s w

def trystlaw19_RatchetMeets.c8 (R : Value → World → Prop) (N5 : Int → Sl → Option Addr → Int → Addr → Sl → Int → World → Prop) (n0 : Int) (takes1 : Sl) (a5 : Option Addr) (c6 : Int) (s8 : Addr) (keys9 : Sl) (i10 : Int) (k11 : Int) (next13 : Addr) (w : World) : Prop :=
  trystlaw19_RatchetMeets.l7 R N5 n0 takes1 a5 c6 s8 keys9 i10 k11 next13 0 w

def trystlaw19_RatchetMeets.b5 (R : Value → World → Prop) (N5 : Int → Sl → Option Addr → Int → Addr → Sl → Int → World → Prop) (n0 : Int) (takes1 : Sl) (a5 : Option Addr) (c6 : Int) (s8 : Addr) (keys9 : Sl) (i10 : Int) (w : World) : Prop :=
  cond (decide ((i10 : Int) < n0))
  (∃ x_63 : Int, w.cell? s8 = some (.int .i64 x_63) ∧
  ∃ x_64 : Int, w.cell? (s8.add 1) = some (.int .i64 x_64) ∧
  ∃ (a_65 : Option Addr) (l_66 c_67 : Nat), w.cell? (s8.add 2) = some (.slice a_65 l_66 c_67) ∧
  CallsV Tryd.prog n_ratchet_Send #[.pointer a5, .agg #[.int .i64 x_63, .int .i64 x_64, .slice a_65 l_66 c_67]] w (fun v_68 w15 =>
  ∃ x_69 : Int, ∃ x_70 : Int, ∃ x_71 : Int, ∃ x_72 : Int, ∃ (a_73 : Option Addr) (l_74 c_75 : Nat), ∃ x_76 : Int, v_68 = .tuple #[.int .i64 x_69, .int .i64 x_70, .agg #[.int .i64 x_71, .int .i64 x_72, .slice a_73 l_74 c_75], .int .i64 x_76] ∧
  let w16 := w15.alloc (.cells #[.int .i64 0, .int .i64 0, .slice none 0 0] 104);
  (∀ j, j < 3 → Wr w16 ((newA w15).add j)) ∧
  (let w17 := setCells (newA w15) [.int .i64 x_71, .int .i64 x_72, .slice a_73 l_74 c_75] 0 w16;
  cond ((x_76 : Int) != 0)
  (R (.bool false) w17)
  (cond ((x_70 : Int) != i10)
  (R (.bool false) w17)
  (trystlaw19_RatchetMeets.c8 R N5 n0 takes1 a5 c6 s8 keys9 i10 x_69 (newA w15) w17)))))
  (trystlaw19_RatchetMeets.c4 R n0 takes1 a5 c6 keys9 w)

def trystlaw19_RatchetMeets.l5 (R : Value → World → Prop) (n0 : Int) (takes1 : Sl) (a5 : Option Addr) (c6 : Int) (s8 : Addr) (keys9 : Sl) (i10 : Int) (w : World) : Prop :=
  ∃ (I : (Sl × Int) → World → Prop) (μ : (Sl × Int) → World → Nat), I (keys9, i10) w ∧ ∀ s w, I s w → trystlaw19_RatchetMeets.b5 R (fun n0' takes1' a5' c6' s8' keys9' i10' w' => (n0' = n0 ∧ takes1' = takes1 ∧ a5' = a5 ∧ c6' = c6 ∧ s8' = s8 ∧ I (keys9', i10') w') ∧ μ (keys9', i10') w' < μ s w) n0 takes1 a5 c6 s8 s.1 s.2 w

def trystlaw19_RatchetMeets.c9 (R : Value → World → Prop) (n0 : Int) (takes1 : Sl) (w : World) : Prop :=
  CallsV Tryd.prog n_term_New #[] w (fun v_77 w18 =>
  ∃ p_78 : Option Addr, v_77 = .pointer p_78 ∧
  cond ((p_78).isNone)
  (R (.bool false) w18)
  (CallsV Tryd.prog n_term_Arena_Make #[.pointer p_78, .int .i64 1, .int .i64 1, .slice none 0 0] w18 (fun v_79 w19 =>
  ∃ x_80 : Int, ∃ x_81 : Int, v_79 = .tuple #[.int .i64 x_80, .int .i64 x_81] ∧
  cond ((x_81 : Int) != 0)
  (R (.bool false) w19)
  (CallsV Tryd.prog n_ratchet_New #[.int .i64 x_80] w19 (fun v_82 w20 =>
  ∃ x_83 : Int, ∃ x_84 : Int, ∃ (a_85 : Option Addr) (l_86 c_87 : Nat), v_82 = .agg #[.int .i64 x_83, .int .i64 x_84, .slice a_85 l_86 c_87] ∧
  let w21 := w20.alloc (.cells #[.int .i64 0, .int .i64 0, .slice none 0 0] 104);
  (∀ j, j < 3 → Wr w21 ((newA w20).add j)) ∧
  (let w22 := setCells (newA w20) [.int .i64 x_83, .int .i64 x_84, .slice a_85 l_86 c_87] 0 w21;
  trystlaw19_RatchetMeets.l5 R n0 takes1 p_78 x_80 (newA w20) ⟨none, 0, 0⟩ 0 w22))))))

def trystlaw19_RatchetMeets.main (R : Value → World → Prop) (n0 : Int) (takes1 : Sl) (w : World) : Prop :=
  cond (decide ((n0 : Int) < 1))
  (R (.bool true) w)
  (cond (decide ((n0 : Int) > 150))
  (R (.bool true) w)
  (cond (decide ((((takes1.len : Nat) : Int) : Int) > 80))
  (R (.bool true) w)
  (trystlaw19_RatchetMeets.c9 R n0 takes1 w)))

def trystlaw19_RatchetMeets.J2 (R : Value → World → Prop) (N2 : Int → Sl → Option Addr → Sl → Addr → Sl → Int → World → Prop) (k : Nat) (fr : Fr) (w : World) : Prop :=
  cond (Nat.beq k 3) (dec [(0, (.int .i64)), (1, .slice), (5, .ptr), (9, .slice), (16, .addr), (17, .slice), (18, (.int .i64)), (19, (.int .i64)), (21, .addr)] fr fun x => trystlaw19_RatchetMeets.c3 R N2 x.1 x.2.1 x.2.2.1 x.2.2.2.1 x.2.2.2.2.1 x.2.2.2.2.2.1 x.2.2.2.2.2.2.1 x.2.2.2.2.2.2.2.1 x.2.2.2.2.2.2.2.2 w) (False)

def trystlaw19_RatchetMeets.J5 (R : Value → World → Prop) (N5 : Int → Sl → Option Addr → Int → Addr → Sl → Int → World → Prop) (k : Nat) (fr : Fr) (w : World) : Prop :=
  cond (Nat.beq k 8) (dec [(0, (.int .i64)), (1, .slice), (5, .ptr), (6, (.int .i64)), (8, .addr), (9, .slice), (10, (.int .i64)), (11, (.int .i64)), (13, .addr)] fr fun x => trystlaw19_RatchetMeets.c8 R N5 x.1 x.2.1 x.2.2.1 x.2.2.2.1 x.2.2.2.2.1 x.2.2.2.2.2.1 x.2.2.2.2.2.2.1 x.2.2.2.2.2.2.2.1 x.2.2.2.2.2.2.2.2 w) (cond (Nat.beq k 7) (dec [(0, (.int .i64)), (1, .slice), (5, .ptr), (6, (.int .i64)), (8, .addr), (9, .slice), (10, (.int .i64)), (11, (.int .i64)), (13, .addr), (15, (.int .i64))] fr fun x => trystlaw19_RatchetMeets.l7 R N5 x.1 x.2.1 x.2.2.1 x.2.2.2.1 x.2.2.2.2.1 x.2.2.2.2.2.1 x.2.2.2.2.2.2.1 x.2.2.2.2.2.2.2.1 x.2.2.2.2.2.2.2.2.1 x.2.2.2.2.2.2.2.2.2 w) (cond (Nat.beq k 6) (dec [(0, (.int .i64)), (1, .slice), (5, .ptr), (6, (.int .i64)), (8, .addr), (9, .slice), (10, (.int .i64)), (11, (.int .i64)), (13, .addr)] fr fun x => trystlaw19_RatchetMeets.c6 R N5 x.1 x.2.1 x.2.2.1 x.2.2.2.1 x.2.2.2.2.1 x.2.2.2.2.2.1 x.2.2.2.2.2.2.1 x.2.2.2.2.2.2.2.1 x.2.2.2.2.2.2.2.2 w) (False)))

def trystlaw19_RatchetMeets.J0 (R : Value → World → Prop) (k : Nat) (fr : Fr) (w : World) : Prop :=
  cond (Nat.beq k 9) (dec [(0, (.int .i64)), (1, .slice)] fr fun x => trystlaw19_RatchetMeets.c9 R x.1 x.2 w) (cond (Nat.beq k 5) (dec [(0, (.int .i64)), (1, .slice), (5, .ptr), (6, (.int .i64)), (8, .addr), (9, .slice), (10, (.int .i64))] fr fun x => trystlaw19_RatchetMeets.l5 R x.1 x.2.1 x.2.2.1 x.2.2.2.1 x.2.2.2.2.1 x.2.2.2.2.2.1 x.2.2.2.2.2.2 w) (cond (Nat.beq k 4) (dec [(0, (.int .i64)), (1, .slice), (5, .ptr), (6, (.int .i64)), (9, .slice)] fr fun x => trystlaw19_RatchetMeets.c4 R x.1 x.2.1 x.2.2.1 x.2.2.2.1 x.2.2.2.2 w) (cond (Nat.beq k 2) (dec [(0, (.int .i64)), (1, .slice), (5, .ptr), (9, .slice), (16, .addr), (17, .slice), (18, (.int .i64))] fr fun x => trystlaw19_RatchetMeets.l2 R x.1 x.2.1 x.2.2.1 x.2.2.2.1 x.2.2.2.2.1 x.2.2.2.2.2.1 x.2.2.2.2.2.2 w) (cond (Nat.beq k 1) (dec [(16, .addr)] fr fun x => trystlaw19_RatchetMeets.c1 R x w) (False)))))

set_option maxRecDepth 100000 in
theorem trystlaw19_RatchetMeets.lift {R : Value → World → Prop} {n0 : Int} {takes1 : Sl} {w : World} (h : trystlaw19_RatchetMeets.main R n0 takes1 w) : CallsV Tryd.prog n_trystlaw19_RatchetMeets #[.int .i64 n0, .slice takes1.a takes1.len takes1.cap] w R :=
  liftCalls (c := (.seq (.leaf (cL (bd Tryd.f14))) (.seq (.seq (.leaf (cL (cL (cR (bd Tryd.f14))))) (.cnd (.tmp 33) (.seq (.leaf (cL (cT (cR (cL (cR (bd Tryd.f14))))))) (.leaf (cR (cT (cR (cL (cR (bd Tryd.f14)))))))) (.leaf (cE (cR (cL (cR (bd Tryd.f14)))))))) (.cut 9 (.seq (.leaf (cL (cR (cR (bd Tryd.f14))))) (.seq (.seq (.leaf (cL (cL (cR (cR (cR (bd Tryd.f14))))))) (.cnd (.tmp 36) (.seq (.leaf (cL (cT (cR (cL (cR (cR (cR (bd Tryd.f14))))))))) (.leaf (cR (cT (cR (cL (cR (cR (cR (bd Tryd.f14)))))))))) (.leaf (cE (cR (cL (cR (cR (cR (bd Tryd.f14)))))))))) (.seq (.leaf (cL (cR (cR (cR (cR (bd Tryd.f14))))))) (.seq (.seq (.leaf (cL (cL (cR (cR (cR (cR (cR (bd Tryd.f14))))))))) (.cnd (.tmp 43) (.seq (.leaf (cL (cT (cR (cL (cR (cR (cR (cR (cR (bd Tryd.f14))))))))))) (.leaf (cR (cT (cR (cL (cR (cR (cR (cR (cR (bd Tryd.f14)))))))))))) (.leaf (cE (cR (cL (cR (cR (cR (cR (cR (bd Tryd.f14)))))))))))) (.seq (.leaf (cL (cR (cR (cR (cR (cR (cR (bd Tryd.f14))))))))) (.seq (.leaf (cL (cR (cR (cR (cR (cR (cR (cR (bd Tryd.f14)))))))))) (.seq (.seq (.leaf (cL (cL (cR (cR (cR (cR (cR (cR (cR (cR (bd Tryd.f14)))))))))))) (.block 0 (.loop 5 (.seq (.seq (.leaf (cL (cL (cB (cB (cR (cL (cR (cR (cR (cR (cR (cR (cR (cR (bd Tryd.f14)))))))))))))))) (.cnd (.tmp 48) (.leaf (cT (cR (cL (cB (cB (cR (cL (cR (cR (cR (cR (cR (cR (cR (cR (bd Tryd.f14))))))))))))))))) (.leaf (cE (cR (cL (cB (cB (cR (cL (cR (cR (cR (cR (cR (cR (cR (cR (bd Tryd.f14))))))))))))))))))) (.seq (.block 1 (.seq (.leaf (cL (cB (cL (cR (cB (cB (cR (cL (cR (cR (cR (cR (cR (cR (cR (cR (bd Tryd.f14)))))))))))))))))) (.seq (.seq (.leaf (cL (cL (cR (cB (cL (cR (cB (cB (cR (cL (cR (cR (cR (cR (cR (cR (cR (cR (bd Tryd.f14)))))))))))))))))))) (.cnd (.tmp 65) (.seq (.leaf (cL (cT (cR (cL (cR (cB (cL (cR (cB (cB (cR (cL (cR (cR (cR (cR (cR (cR (cR (cR (bd Tryd.f14)))))))))))))))))))))) (.leaf (cR (cT (cR (cL (cR (cB (cL (cR (cB (cB (cR (cL (cR (cR (cR (cR (cR (cR (cR (cR (bd Tryd.f14))))))))))))))))))))))) (.leaf (cE (cR (cL (cR (cB (cL (cR (cB (cB (cR (cL (cR (cR (cR (cR (cR (cR (cR (cR (bd Tryd.f14))))))))))))))))))))))) (.cut 8 (.seq (.seq (.leaf (cL (cL (cR (cR (cB (cL (cR (cB (cB (cR (cL (cR (cR (cR (cR (cR (cR (cR (cR (bd Tryd.f14))))))))))))))))))))) (.block 2 (.loop 7 (.seq (.seq (.leaf (cL (cL (cB (cB (cR (cL (cR (cR (cB (cL (cR (cB (cB (cR (cL (cR (cR (cR (cR (cR (cR (cR (cR (bd Tryd.f14))))))))))))))))))))))))) (.cnd (.tmp 68) (.leaf (cT (cR (cL (cB (cB (cR (cL (cR (cR (cB (cL (cR (cB (cB (cR (cL (cR (cR (cR (cR (cR (cR (cR (cR (bd Tryd.f14)))))))))))))))))))))))))) (.leaf (cE (cR (cL (cB (cB (cR (cL (cR (cR (cB (cL (cR (cB (cB (cR (cL (cR (cR (cR (cR (cR (cR (cR (cR (bd Tryd.f14)))))))))))))))))))))))))))) (.seq (.block 3 (.seq (.leaf (cL (cB (cL (cR (cB (cB (cR (cL (cR (cR (cB (cL (cR (cB (cB (cR (cL (cR (cR (cR (cR (cR (cR (cR (cR (bd Tryd.f14))))))))))))))))))))))))))) (.cnd (.tmp 76) (.seq (.leaf (cL (cT (cR (cB (cL (cR (cB (cB (cR (cL (cR (cR (cB (cL (cR (cB (cB (cR (cL (cR (cR (cR (cR (cR (cR (cR (cR (bd Tryd.f14))))))))))))))))))))))))))))) (.leaf (cR (cT (cR (cB (cL (cR (cB (cB (cR (cL (cR (cR (cB (cL (cR (cB (cB (cR (cL (cR (cR (cR (cR (cR (cR (cR (cR (bd Tryd.f14)))))))))))))))))))))))))))))) (.leaf (cE (cR (cB (cL (cR (cB (cB (cR (cL (cR (cR (cB (cL (cR (cB (cB (cR (cL (cR (cR (cR (cR (cR (cR (cR (cR (bd Tryd.f14))))))))))))))))))))))))))))))) (.leaf (cR (cR (cB (cB (cR (cL (cR (cR (cB (cL (cR (cB (cB (cR (cL (cR (cR (cR (cR (cR (cR (cR (cR (bd Tryd.f14)))))))))))))))))))))))))))))) (.cut 6 (.leaf (cR (cR (cR (cB (cL (cR (cB (cB (cR (cL (cR (cR (cR (cR (cR (cR (cR (cR (bd Tryd.f14)))))))))))))))))))))))))) (.leaf (cR (cR (cB (cB (cR (cL (cR (cR (cR (cR (cR (cR (cR (cR (bd Tryd.f14))))))))))))))))))))) (.cut 4 (.seq (.leaf (cL (cR (cR (cR (cR (cR (cR (cR (cR (cR (bd Tryd.f14)))))))))))) (.seq (.leaf (cL (cR (cR (cR (cR (cR (cR (cR (cR (cR (cR (bd Tryd.f14))))))))))))) (.seq (.seq (.leaf (cL (cL (cR (cR (cR (cR (cR (cR (cR (cR (cR (cR (cR (bd Tryd.f14))))))))))))))) (.block 4 (.loop 2 (.seq (.seq (.leaf (cL (cL (cB (cB (cR (cL (cR (cR (cR (cR (cR (cR (cR (cR (cR (cR (cR (bd Tryd.f14))))))))))))))))))) (.cnd (.tmp 89) (.leaf (cT (cR (cL (cB (cB (cR (cL (cR (cR (cR (cR (cR (cR (cR (cR (cR (cR (cR (bd Tryd.f14)))))))))))))))))))) (.leaf (cE (cR (cL (cB (cB (cR (cL (cR (cR (cR (cR (cR (cR (cR (cR (cR (cR (cR (bd Tryd.f14)))))))))))))))))))))) (.seq (.block 5 (.seq (.leaf (cL (cB (cL (cR (cB (cB (cR (cL (cR (cR (cR (cR (cR (cR (cR (cR (cR (cR (cR (bd Tryd.f14))))))))))))))))))))) (.seq (.leaf (cL (cR (cB (cL (cR (cB (cB (cR (cL (cR (cR (cR (cR (cR (cR (cR (cR (cR (cR (cR (bd Tryd.f14)))))))))))))))))))))) (.seq (.seq (.leaf (cL (cL (cR (cR (cB (cL (cR (cB (cB (cR (cL (cR (cR (cR (cR (cR (cR (cR (cR (cR (cR (cR (bd Tryd.f14)))))))))))))))))))))))) (.cnd (.tmp 110) (.seq (.seq (.leaf (cL (cL (cT (cR (cL (cR (cR (cB (cL (cR (cB (cB (cR (cL (cR (cR (cR (cR (cR (cR (cR (cR (cR (cR (cR (bd Tryd.f14))))))))))))))))))))))))))) (.cnd (.tmp 122) (.seq (.leaf (cL (cT (cR (cL (cT (cR (cL (cR (cR (cB (cL (cR (cB (cB (cR (cL (cR (cR (cR (cR (cR (cR (cR (cR (cR (cR (cR (bd Tryd.f14))))))))))))))))))))))))))))) (.leaf (cR (cT (cR (cL (cT (cR (cL (cR (cR (cB (cL (cR (cB (cB (cR (cL (cR (cR (cR (cR (cR (cR (cR (cR (cR (cR (cR (bd Tryd.f14)))))))))))))))))))))))))))))) (.leaf (cE (cR (cL (cT (cR (cL (cR (cR (cB (cL (cR (cB (cB (cR (cL (cR (cR (cR (cR (cR (cR (cR (cR (cR (cR (cR (bd Tryd.f14)))))))))))))))))))))))))))))) (.cut 3 (.seq (.leaf (cL (cR (cT (cR (cL (cR (cR (cB (cL (cR (cB (cB (cR (cL (cR (cR (cR (cR (cR (cR (cR (cR (cR (cR (cR (bd Tryd.f14))))))))))))))))))))))))))) (.leaf (cR (cR (cT (cR (cL (cR (cR (cB (cL (cR (cB (cB (cR (cL (cR (cR (cR (cR (cR (cR (cR (cR (cR (cR (cR (bd Tryd.f14)))))))))))))))))))))))))))))) (.leaf (cE (cR (cL (cR (cR (cB (cL (cR (cB (cB (cR (cL (cR (cR (cR (cR (cR (cR (cR (cR (cR (cR (cR (bd Tryd.f14))))))))))))))))))))))))))) (.seq (.leaf (cL (cR (cR (cR (cB (cL (cR (cB (cB (cR (cL (cR (cR (cR (cR (cR (cR (cR (cR (cR (cR (cR (bd Tryd.f14)))))))))))))))))))))))) (.cnd (.tmp 152) (.seq (.leaf (cL (cT (cR (cR (cR (cR (cB (cL (cR (cB (cB (cR (cL (cR (cR (cR (cR (cR (cR (cR (cR (cR (cR (cR (bd Tryd.f14)))))))))))))))))))))))))) (.leaf (cR (cT (cR (cR (cR (cR (cB (cL (cR (cB (cB (cR (cL (cR (cR (cR (cR (cR (cR (cR (cR (cR (cR (cR (bd Tryd.f14))))))))))))))))))))))))))) (.leaf (cE (cR (cR (cR (cR (cB (cL (cR (cB (cB (cR (cL (cR (cR (cR (cR (cR (cR (cR (cR (cR (cR (cR (bd Tryd.f14))))))))))))))))))))))))))))))) (.leaf (cR (cR (cB (cB (cR (cL (cR (cR (cR (cR (cR (cR (cR (cR (cR (cR (cR (bd Tryd.f14)))))))))))))))))))))))) (.cut 1 (.seq (.leaf (cL (cR (cR (cR (cR (cR (cR (cR (cR (cR (cR (cR (cR (bd Tryd.f14))))))))))))))) (.leaf (cR (cR (cR (cR (cR (cR (cR (cR (cR (cR (cR (cR (cR (bd Tryd.f14)))))))))))))))))))))))))))))))) (J := trystlaw19_RatchetMeets.J0 R) LfYtoclhecldmahiaaDoor.mixed Tryd.func14 (by kernel_rfl) (by kernel_rfl) (mkSeq (mkSeq (mkCut (cutDef [(0, (.int .i64)), (1, .slice)] (fun x w => trystlaw19_RatchetMeets.c9 R x.1 x.2 w) (fun _ _ => by kernel_rfl) (fun _ _ => by kernel_rfl)) (mkSeq (mkSeq (mkSeq (mkSeq (mkSeq (mkSeq (mkSeq (mkCut (cutDef [(0, (.int .i64)), (1, .slice), (5, .ptr), (6, (.int .i64)), (9, .slice)] (fun x w => trystlaw19_RatchetMeets.c4 R x.1 x.2.1 x.2.2.1 x.2.2.2.1 x.2.2.2.2 w) (fun _ _ => by kernel_rfl) (fun _ _ => by kernel_rfl)) (mkSeq (mkSeq (mkSeq (mkCut (cutDef [(16, .addr)] (fun x w => trystlaw19_RatchetMeets.c1 R x w) (fun _ _ => by kernel_rfl) (fun _ _ => by kernel_rfl)) (mkSeq mkLeaf mkLeaf)) (mkSeq (mkBlock (mkLoop (loopDef LfYtoclhecldmahiaaDoor.mixed [(0, (.int .i64)), (1, .slice), (5, .ptr), (9, .slice), (16, .addr), (17, .slice), (18, (.int .i64))] (by kernel_rfl) (fun M2 x w => trystlaw19_RatchetMeets.b2 R (fun y0 y1 y2 y3 y4 y5 y6 w => M2 (y0, y1, y2, y3, y4, y5, y6) w) x.1 x.2.1 x.2.2.1 x.2.2.2.1 x.2.2.2.2.1 x.2.2.2.2.2.1 x.2.2.2.2.2.2 w) (fun M2 => trystlaw19_RatchetMeets.J2 R (fun y0 y1 y2 y3 y4 y5 y6 w => M2 (y0, y1, y2, y3, y4, y5, y6) w)) (fun _ _ _ => by kernel_rfl) (fun M2 => (mkSeq (mkSeq mkLeaf (mkBlock (mkSeq (mkSeq (mkSeq (mkSeq (mkCnd (mkSeq mkLeaf mkLeaf) mkLeaf) mkLeaf) (mkSeq (mkCnd (mkSeq (mkCut (cutDef [(0, (.int .i64)), (1, .slice), (5, .ptr), (9, .slice), (16, .addr), (17, .slice), (18, (.int .i64)), (19, (.int .i64)), (21, .addr)] (fun x w => trystlaw19_RatchetMeets.c3 R (fun y0 y1 y2 y3 y4 y5 y6 w => M2 (y0, y1, y2, y3, y4, y5, y6) w) x.1 x.2.1 x.2.2.1 x.2.2.2.1 x.2.2.2.2.1 x.2.2.2.2.2.1 x.2.2.2.2.2.2.1 x.2.2.2.2.2.2.2.1 x.2.2.2.2.2.2.2.2 w) (fun _ _ => by kernel_rfl) (fun _ _ => by kernel_rfl)) (mkSeq mkLeaf mkLeaf)) (mkSeq (mkCnd (mkSeq mkLeaf mkLeaf) mkLeaf) mkLeaf)) mkLeaf) mkLeaf)) mkLeaf) mkLeaf))) (mkSeq (mkCnd mkLeaf mkLeaf) mkLeaf))) (fun x w => trystlaw19_RatchetMeets.l2 R x.1 x.2.1 x.2.2.1 x.2.2.2.1 x.2.2.2.2.1 x.2.2.2.2.2.1 x.2.2.2.2.2.2 w) (by rintro ⟨c0, c1, c2, c3, c4, c5, s0⟩ w ⟨I, μ, h0, h1⟩; refine ⟨fun y w => y.1 = c0 ∧ y.2.1 = c1 ∧ y.2.2.1 = c2 ∧ y.2.2.2.1 = c3 ∧ y.2.2.2.2.1 = c4 ∧ y.2.2.2.2.2.1 = c5 ∧ I y.2.2.2.2.2.2 w, fun y w => μ y.2.2.2.2.2.2 w, ⟨rfl, rfl, rfl, rfl, rfl, rfl, h0⟩, ?_⟩; rintro ⟨d0, d1, d2, d3, d4, d5, t0⟩ w ⟨e0, e1, e2, e3, e4, e5, hI⟩; dsimp only at e0 e1 e2 e3 e4 e5 hI; subst e0; subst e1; subst e2; subst e3; subst e4; subst e5; exact h1 _ _ hI) (fun _ _ => by kernel_rfl)))) mkLeaf)) mkLeaf) mkLeaf)) (mkSeq (mkBlock (mkLoop (loopDef LfYtoclhecldmahiaaDoor.mixed [(0, (.int .i64)), (1, .slice), (5, .ptr), (6, (.int .i64)), (8, .addr), (9, .slice), (10, (.int .i64))] (by kernel_rfl) (fun M5 x w => trystlaw19_RatchetMeets.b5 R (fun y0 y1 y2 y3 y4 y5 y6 w => M5 (y0, y1, y2, y3, y4, y5, y6) w) x.1 x.2.1 x.2.2.1 x.2.2.2.1 x.2.2.2.2.1 x.2.2.2.2.2.1 x.2.2.2.2.2.2 w) (fun M5 => trystlaw19_RatchetMeets.J5 R (fun y0 y1 y2 y3 y4 y5 y6 w => M5 (y0, y1, y2, y3, y4, y5, y6) w)) (fun _ _ _ => by kernel_rfl) (fun M5 => (mkSeq (mkSeq mkLeaf (mkBlock (mkSeq (mkSeq (mkCut (cutDef [(0, (.int .i64)), (1, .slice), (5, .ptr), (6, (.int .i64)), (8, .addr), (9, .slice), (10, (.int .i64)), (11, (.int .i64)), (13, .addr)] (fun x w => trystlaw19_RatchetMeets.c8 R (fun y0 y1 y2 y3 y4 y5 y6 w => M5 (y0, y1, y2, y3, y4, y5, y6) w) x.1 x.2.1 x.2.2.1 x.2.2.2.1 x.2.2.2.2.1 x.2.2.2.2.2.1 x.2.2.2.2.2.2.1 x.2.2.2.2.2.2.2.1 x.2.2.2.2.2.2.2.2 w) (fun _ _ => by kernel_rfl) (fun _ _ => by kernel_rfl)) (mkSeq (mkCut (cutDef [(0, (.int .i64)), (1, .slice), (5, .ptr), (6, (.int .i64)), (8, .addr), (9, .slice), (10, (.int .i64)), (11, (.int .i64)), (13, .addr)] (fun x w => trystlaw19_RatchetMeets.c6 R (fun y0 y1 y2 y3 y4 y5 y6 w => M5 (y0, y1, y2, y3, y4, y5, y6) w) x.1 x.2.1 x.2.2.1 x.2.2.2.1 x.2.2.2.2.1 x.2.2.2.2.2.1 x.2.2.2.2.2.2.1 x.2.2.2.2.2.2.2.1 x.2.2.2.2.2.2.2.2 w) (fun _ _ => by kernel_rfl) (fun _ _ => by kernel_rfl)) mkLeaf) (mkSeq (mkBlock (mkLoop (loopDef LfYtoclhecldmahiaaDoor.mixed [(0, (.int .i64)), (1, .slice), (5, .ptr), (6, (.int .i64)), (8, .addr), (9, .slice), (10, (.int .i64)), (11, (.int .i64)), (13, .addr), (15, (.int .i64))] (by kernel_rfl) (fun M7 x w => trystlaw19_RatchetMeets.b7 R (fun y0 y1 y2 y3 y4 y5 y6 w => M5 (y0, y1, y2, y3, y4, y5, y6) w) (fun y0 y1 y2 y3 y4 y5 y6 y7 y8 y9 w => M7 (y0, y1, y2, y3, y4, y5, y6, y7, y8, y9) w) x.1 x.2.1 x.2.2.1 x.2.2.2.1 x.2.2.2.2.1 x.2.2.2.2.2.1 x.2.2.2.2.2.2.1 x.2.2.2.2.2.2.2.1 x.2.2.2.2.2.2.2.2.1 x.2.2.2.2.2.2.2.2.2 w) (fun M7 => fun _ _ _ => False) (fun _ _ _ => by kernel_rfl) (fun M7 => (mkSeq (mkSeq mkLeaf (mkBlock (mkSeq (mkCnd (mkSeq mkLeaf mkLeaf) mkLeaf) mkLeaf))) (mkSeq (mkCnd mkLeaf mkLeaf) mkLeaf))) (fun x w => trystlaw19_RatchetMeets.l7 R (fun y0 y1 y2 y3 y4 y5 y6 w => M5 (y0, y1, y2, y3, y4, y5, y6) w) x.1 x.2.1 x.2.2.1 x.2.2.2.1 x.2.2.2.2.1 x.2.2.2.2.2.1 x.2.2.2.2.2.2.1 x.2.2.2.2.2.2.2.1 x.2.2.2.2.2.2.2.2.1 x.2.2.2.2.2.2.2.2.2 w) (by rintro ⟨c0, c1, c2, c3, c4, c5, c6, c7, c8, s0⟩ w ⟨I, μ, h0, h1⟩; refine ⟨fun y w => y.1 = c0 ∧ y.2.1 = c1 ∧ y.2.2.1 = c2 ∧ y.2.2.2.1 = c3 ∧ y.2.2.2.2.1 = c4 ∧ y.2.2.2.2.2.1 = c5 ∧ y.2.2.2.2.2.2.1 = c6 ∧ y.2.2.2.2.2.2.2.1 = c7 ∧ y.2.2.2.2.2.2.2.2.1 = c8 ∧ I y.2.2.2.2.2.2.2.2.2 w, fun y w => μ y.2.2.2.2.2.2.2.2.2 w, ⟨rfl, rfl, rfl, rfl, rfl, rfl, rfl, rfl, rfl, h0⟩, ?_⟩; rintro ⟨d0, d1, d2, d3, d4, d5, d6, d7, d8, t0⟩ w ⟨e0, e1, e2, e3, e4, e5, e6, e7, e8, hI⟩; dsimp only at e0 e1 e2 e3 e4 e5 e6 e7 e8 hI; subst e0; subst e1; subst e2; subst e3; subst e4; subst e5; subst e6; subst e7; subst e8; exact h1 _ _ hI) (fun _ _ => by kernel_rfl)))) mkLeaf))) (mkSeq (mkCnd (mkSeq mkLeaf mkLeaf) mkLeaf) mkLeaf)) mkLeaf))) (mkSeq (mkCnd mkLeaf mkLeaf) mkLeaf))) (fun x w => trystlaw19_RatchetMeets.l5 R x.1 x.2.1 x.2.2.1 x.2.2.2.1 x.2.2.2.2.1 x.2.2.2.2.2.1 x.2.2.2.2.2.2 w) (by rintro ⟨c0, c1, c2, c3, c4, s0⟩ w ⟨I, μ, h0, h1⟩; refine ⟨fun y w => y.1 = c0 ∧ y.2.1 = c1 ∧ y.2.2.1 = c2 ∧ y.2.2.2.1 = c3 ∧ y.2.2.2.2.1 = c4 ∧ I y.2.2.2.2.2 w, fun y w => μ y.2.2.2.2.2 w, ⟨rfl, rfl, rfl, rfl, rfl, h0⟩, ?_⟩; rintro ⟨d0, d1, d2, d3, d4, t0⟩ w ⟨e0, e1, e2, e3, e4, hI⟩; dsimp only at e0 e1 e2 e3 e4 hI; subst e0; subst e1; subst e2; subst e3; subst e4; exact h1 _ _ hI) (fun _ _ => by kernel_rfl)))) mkLeaf)) mkLeaf) mkLeaf) (mkSeq (mkCnd (mkSeq mkLeaf mkLeaf) mkLeaf) mkLeaf)) mkLeaf) (mkSeq (mkCnd (mkSeq mkLeaf mkLeaf) mkLeaf) mkLeaf)) mkLeaf)) (mkSeq (mkCnd (mkSeq mkLeaf mkLeaf) mkLeaf) mkLeaf)) mkLeaf) (kcast (by kernel_rfl) h)

/-! trystlaw19_RatchetBounds -/
def trystlaw19_RatchetBounds.c1 (R : Value → World → Prop) (jump0 : Int) (first1 : Int) (a5 : Option Addr) (t20 : Addr) (w : World) : Prop :=
  ∃ x_1 : Int, w.cell? t20 = some (.int .i64 x_1) ∧
  ∃ x_2 : Int, w.cell? (t20.add 1) = some (.int .i64 x_2) ∧
  ∃ (a_3 : Option Addr) (l_4 c_5 : Nat), w.cell? (t20.add 2) = some (.slice a_3 l_4 c_5) ∧
  CallsV Tryd.prog n_ratchet_Take #[.pointer a5, .agg #[.int .i64 x_1, .int .i64 x_2, .slice a_3 l_4 c_5], .int .i64 (IntKind.i64.wrap (first1 + jump0))] w (fun v_6 w1 =>
  ∃ x_7 : Int, ∃ x_8 : Int, ∃ x_9 : Int, ∃ (a_10 : Option Addr) (l_11 c_12 : Nat), ∃ x_13 : Int, v_6 = .tuple #[.int .i64 x_7, .agg #[.int .i64 x_8, .int .i64 x_9, .slice a_10 l_11 c_12], .int .i64 x_13] ∧
  cond ((x_13 : Int) == 13)
  (CallsV Tryd.prog n_trystlaw19_wakes #[] w1 (fun v_14 w2 =>
  ∃ b_15 : Bool, v_14 = .bool b_15 ∧
  R (.bool b_15) w2))
  (R (.bool false) w1))

def trystlaw19_RatchetBounds.c2 (R : Value → World → Prop) (jump0 : Int) (first1 : Int) (a5 : Option Addr) (s15 : Addr) (kept16 : Int) (w : World) : Prop :=
  ∃ x_16 : Int, w.cell? s15 = some (.int .i64 x_16) ∧
  ∃ x_17 : Int, w.cell? (s15.add 1) = some (.int .i64 x_17) ∧
  ∃ (a_18 : Option Addr) (l_19 c_20 : Nat), w.cell? (s15.add 2) = some (.slice a_18 l_19 c_20) ∧
  CallsV Tryd.prog n_ratchet_Send #[.pointer a5, .agg #[.int .i64 x_16, .int .i64 x_17, .slice a_18 l_19 c_20]] w (fun v_21 w3 =>
  ∃ x_22 : Int, ∃ x_23 : Int, ∃ x_24 : Int, ∃ x_25 : Int, ∃ (a_26 : Option Addr) (l_27 c_28 : Nat), ∃ x_29 : Int, v_21 = .tuple #[.int .i64 x_22, .int .i64 x_23, .agg #[.int .i64 x_24, .int .i64 x_25, .slice a_26 l_27 c_28], .int .i64 x_29] ∧
  let w4 := w3.alloc (.cells #[.int .i64 0, .int .i64 0, .slice none 0 0] 104);
  (∀ j, j < 3 → Wr w4 ((newA w3).add j)) ∧
  (let w5 := setCells (newA w3) [.int .i64 x_24, .int .i64 x_25, .slice a_26 l_27 c_28] 0 w4;
  cond ((x_29 : Int) != 0)
  (R (.bool false) w5)
  (∃ x_30 : Int, w5.cell? (s15.add 1) = some (.int .i64 x_30) ∧
  cond ((x_23 : Int) != x_30)
  (R (.bool false) w5)
  (∃ (a_31 : Option Addr) (l_32 c_33 : Nat), w5.cell? ((newA w3).add 2) = some (.slice a_31 l_32 c_33) ∧
  cond ((((l_32 : Nat) : Int) : Int) != kept16)
  (R (.bool false) w5)
  (trystlaw19_RatchetBounds.c1 R jump0 first1 a5 (newA w3) w5)))))

def trystlaw19_RatchetBounds.b3 (R : Value → World → Prop) (N3 : Int → Int → Option Addr → Addr → Int → Int → World → Prop) (jump0 : Int) (first1 : Int) (a5 : Option Addr) (s15 : Addr) (kept16 : Int) (i17 : Int) (w : World) : Prop :=
  cond (decide ((i17 : Int) < kept16))
  (∃ (a_34 : Option Addr) (l_35 c_36 : Nat), w.cell? (s15.add 2) = some (.slice a_34 l_35 c_36) ∧
  0 ≤ (i17 : Int) ∧ i17 < ((l_35 : Nat) : Int) ∧ ∃ q_37 : Addr, a_34 = some q_37 ∧
  ∃ x_38 : Int, w.cell? (q_37.add ((i17 : Int).toNat * 2)) = some (.int .i64 x_38) ∧
  cond ((x_38 : Int) != (IntKind.i64.wrap ((IntKind.i64.wrap ((IntKind.i64.wrap (first1 + jump0)) - kept16)) + i17)))
  (R (.bool false) w)
  ((let i17_38 : Int := (IntKind.i64.wrap (i17 + 1));
  N3 jump0 first1 a5 s15 kept16 i17_38 w)))
  (trystlaw19_RatchetBounds.c2 R jump0 first1 a5 s15 kept16 w)

def trystlaw19_RatchetBounds.l3 (R : Value → World → Prop) (jump0 : Int) (first1 : Int) (a5 : Option Addr) (s15 : Addr) (kept16 : Int) (i17 : Int) (w : World) : Prop :=
  ∃ (I : Int → World → Prop) (μ : Int → World → Nat), I i17 w ∧ ∀ s w, I s w → trystlaw19_RatchetBounds.b3 R (fun jump0' first1' a5' s15' kept16' i17' w' => (jump0' = jump0 ∧ first1' = first1 ∧ a5' = a5 ∧ s15' = s15 ∧ kept16' = kept16 ∧ I i17' w') ∧ μ i17' w' < μ s w) jump0 first1 a5 s15 kept16 s w

def trystlaw19_RatchetBounds.c4 (R : Value → World → Prop) (jump0 : Int) (first1 : Int) (a5 : Option Addr) (s15 : Addr) (kept16 : Int) (w : World) : Prop :=
  trystlaw19_RatchetBounds.l3 R jump0 first1 a5 s15 kept16 0 w

def trystlaw19_RatchetBounds.c5 (R : Value → World → Prop) (jump0 : Int) (first1 : Int) (a5 : Option Addr) (r8 : Addr) (w : World) : Prop :=
  ∃ x_40 : Int, w.cell? r8 = some (.int .i64 x_40) ∧
  ∃ x_41 : Int, w.cell? (r8.add 1) = some (.int .i64 x_41) ∧
  ∃ (a_42 : Option Addr) (l_43 c_44 : Nat), w.cell? (r8.add 2) = some (.slice a_42 l_43 c_44) ∧
  CallsV Tryd.prog n_ratchet_Take #[.pointer a5, .agg #[.int .i64 x_40, .int .i64 x_41, .slice a_42 l_43 c_44], .int .i64 (IntKind.i64.wrap (first1 + jump0))] w (fun v_45 w6 =>
  ∃ x_46 : Int, ∃ x_47 : Int, ∃ x_48 : Int, ∃ (a_49 : Option Addr) (l_50 c_51 : Nat), ∃ x_52 : Int, v_45 = .tuple #[.int .i64 x_46, .agg #[.int .i64 x_47, .int .i64 x_48, .slice a_49 l_50 c_51], .int .i64 x_52] ∧
  let w7 := w6.alloc (.cells #[.int .i64 0, .int .i64 0, .slice none 0 0] 104);
  (∀ j, j < 3 → Wr w7 ((newA w6).add j)) ∧
  (let w8 := setCells (newA w6) [.int .i64 x_47, .int .i64 x_48, .slice a_49 l_50 c_51] 0 w7;
  cond (decide ((jump0 : Int) > 200))
  (cond ((x_52 : Int) == 14)
  (cond ((x_46 : Int) == 0)
  (CallsV Tryd.prog n_trystlaw19_wakes #[] w8 (fun v_53 w9 =>
  ∃ b_54 : Bool, v_53 = .bool b_54 ∧
  R (.bool b_54) w9))
  (R (.bool false) w8))
  (R (.bool false) w8))
  ((let kept16_54 : Int := (if 16 < jump0 then 16 else jump0);
  cond ((x_52 : Int) != 0)
  (R (.bool false) w8)
  (∃ x_56 : Int, w8.cell? ((newA w6).add 1) = some (.int .i64 x_56) ∧
  cond ((x_56 : Int) != (IntKind.i64.wrap ((IntKind.i64.wrap (first1 + jump0)) + 1)))
  (R (.bool false) w8)
  (∃ (a_57 : Option Addr) (l_58 c_59 : Nat), w8.cell? ((newA w6).add 2) = some (.slice a_57 l_58 c_59) ∧
  cond ((((l_58 : Nat) : Int) : Int) != kept16_54)
  (R (.bool false) w8)
  (∃ x_60 : Int, w8.cell? (newA w6) = some (.int .i64 x_60) ∧
  ∃ x_61 : Int, w8.cell? ((newA w6).add 1) = some (.int .i64 x_61) ∧
  ∃ (a_62 : Option Addr) (l_63 c_64 : Nat), w8.cell? ((newA w6).add 2) = some (.slice a_62 l_63 c_64) ∧
  CallsV Tryd.prog n_ratchet_Check #[.agg #[.int .i64 x_60, .int .i64 x_61, .slice a_62 l_63 c_64]] w8 (fun v_65 w10 =>
  ∃ x_66 : Int, v_65 = .int .i64 x_66 ∧
  cond ((x_66 : Int) != 0)
  (R (.bool false) w10)
  (trystlaw19_RatchetBounds.c4 R jump0 first1 a5 (newA w6) kept16_54 w10)))))))))

def trystlaw19_RatchetBounds.c7 (R : Value → World → Prop) (N6 : Int → Int → Option Addr → Addr → Int → World → Prop) (jump0 : Int) (first1 : Int) (a5 : Option Addr) (r8 : Addr) (i9 : Int) (next12 : Addr) (w : World) : Prop :=
  ∃ x_67 : Int, w.cell? next12 = some (.int .i64 x_67) ∧
  ∃ x_68 : Int, w.cell? (next12.add 1) = some (.int .i64 x_68) ∧
  ∃ (a_69 : Option Addr) (l_70 c_71 : Nat), w.cell? (next12.add 2) = some (.slice a_69 l_70 c_71) ∧
  (∀ j, j < 3 → Wr w (r8.add j)) ∧
  (let w11 := setCells r8 [.int .i64 x_67, .int .i64 x_68, .slice a_69 l_70 c_71] 0 w;
  (let i9_71 : Int := (IntKind.i64.wrap (i9 + 1));
  N6 jump0 first1 a5 r8 i9_71 w11))

def trystlaw19_RatchetBounds.b6 (R : Value → World → Prop) (N6 : Int → Int → Option Addr → Addr → Int → World → Prop) (jump0 : Int) (first1 : Int) (a5 : Option Addr) (r8 : Addr) (i9 : Int) (w : World) : Prop :=
  cond (decide ((i9 : Int) < first1))
  (∃ x_73 : Int, w.cell? r8 = some (.int .i64 x_73) ∧
  ∃ x_74 : Int, w.cell? (r8.add 1) = some (.int .i64 x_74) ∧
  ∃ (a_75 : Option Addr) (l_76 c_77 : Nat), w.cell? (r8.add 2) = some (.slice a_75 l_76 c_77) ∧
  CallsV Tryd.prog n_ratchet_Send #[.pointer a5, .agg #[.int .i64 x_73, .int .i64 x_74, .slice a_75 l_76 c_77]] w (fun v_78 w12 =>
  ∃ x_79 : Int, ∃ x_80 : Int, ∃ x_81 : Int, ∃ x_82 : Int, ∃ (a_83 : Option Addr) (l_84 c_85 : Nat), ∃ x_86 : Int, v_78 = .tuple #[.int .i64 x_79, .int .i64 x_80, .agg #[.int .i64 x_81, .int .i64 x_82, .slice a_83 l_84 c_85], .int .i64 x_86] ∧
  let w13 := w12.alloc (.cells #[.int .i64 0, .int .i64 0, .slice none 0 0] 104);
  (∀ j, j < 3 → Wr w13 ((newA w12).add j)) ∧
  (let w14 := setCells (newA w12) [.int .i64 x_81, .int .i64 x_82, .slice a_83 l_84 c_85] 0 w13;
  cond ((x_86 : Int) != 0)
  (R (.bool false) w14)
  (cond ((x_80 : Int) != i9)
  (R (.bool false) w14)
  (trystlaw19_RatchetBounds.c7 R N6 jump0 first1 a5 r8 i9 (newA w12) w14)))))
  (trystlaw19_RatchetBounds.c5 R jump0 first1 a5 r8 w)

def trystlaw19_RatchetBounds.l6 (R : Value → World → Prop) (jump0 : Int) (first1 : Int) (a5 : Option Addr) (r8 : Addr) (i9 : Int) (w : World) : Prop :=
  ∃ (I : Int → World → Prop) (μ : Int → World → Nat), I i9 w ∧ ∀ s w, I s w → trystlaw19_RatchetBounds.b6 R (fun jump0' first1' a5' r8' i9' w' => (jump0' = jump0 ∧ first1' = first1 ∧ a5' = a5 ∧ r8' = r8 ∧ I i9' w') ∧ μ i9' w' < μ s w) jump0 first1 a5 r8 s w

def trystlaw19_RatchetBounds.c8 (R : Value → World → Prop) (jump0 : Int) (first1 : Int) (w : World) : Prop :=
  CallsV Tryd.prog n_term_New #[] w (fun v_87 w15 =>
  ∃ p_88 : Option Addr, v_87 = .pointer p_88 ∧
  cond ((p_88).isNone)
  (R (.bool false) w15)
  (CallsV Tryd.prog n_term_Arena_Make #[.pointer p_88, .int .i64 1, .int .i64 1, .slice none 0 0] w15 (fun v_89 w16 =>
  ∃ x_90 : Int, ∃ x_91 : Int, v_89 = .tuple #[.int .i64 x_90, .int .i64 x_91] ∧
  cond ((x_91 : Int) != 0)
  (R (.bool false) w16)
  (CallsV Tryd.prog n_ratchet_New #[.int .i64 x_90] w16 (fun v_92 w17 =>
  ∃ x_93 : Int, ∃ x_94 : Int, ∃ (a_95 : Option Addr) (l_96 c_97 : Nat), v_92 = .agg #[.int .i64 x_93, .int .i64 x_94, .slice a_95 l_96 c_97] ∧
  let w18 := w17.alloc (.cells #[.int .i64 0, .int .i64 0, .slice none 0 0] 104);
  (∀ j, j < 3 → Wr w18 ((newA w17).add j)) ∧
  (let w19 := setCells (newA w17) [.int .i64 x_93, .int .i64 x_94, .slice a_95 l_96 c_97] 0 w18;
  trystlaw19_RatchetBounds.l6 R jump0 first1 p_88 (newA w17) 0 w19))))))

def trystlaw19_RatchetBounds.main (R : Value → World → Prop) (jump0 : Int) (first1 : Int) (w : World) : Prop :=
  cond (decide ((jump0 : Int) < 0))
  (R (.bool true) w)
  (cond (decide ((jump0 : Int) > 203))
  (R (.bool true) w)
  (cond (decide ((first1 : Int) < 0))
  (R (.bool true) w)
  (cond (decide ((first1 : Int) > 20))
  (R (.bool true) w)
  (trystlaw19_RatchetBounds.c8 R jump0 first1 w))))

def trystlaw19_RatchetBounds.J6 (R : Value → World → Prop) (N6 : Int → Int → Option Addr → Addr → Int → World → Prop) (k : Nat) (fr : Fr) (w : World) : Prop :=
  cond (Nat.beq k 7) (dec [(0, (.int .i64)), (1, (.int .i64)), (5, .ptr), (8, .addr), (9, (.int .i64)), (12, .addr)] fr fun x => trystlaw19_RatchetBounds.c7 R N6 x.1 x.2.1 x.2.2.1 x.2.2.2.1 x.2.2.2.2.1 x.2.2.2.2.2 w) (False)

def trystlaw19_RatchetBounds.J0 (R : Value → World → Prop) (k : Nat) (fr : Fr) (w : World) : Prop :=
  cond (Nat.beq k 8) (dec [(0, (.int .i64)), (1, (.int .i64))] fr fun x => trystlaw19_RatchetBounds.c8 R x.1 x.2 w) (cond (Nat.beq k 6) (dec [(0, (.int .i64)), (1, (.int .i64)), (5, .ptr), (8, .addr), (9, (.int .i64))] fr fun x => trystlaw19_RatchetBounds.l6 R x.1 x.2.1 x.2.2.1 x.2.2.2.1 x.2.2.2.2 w) (cond (Nat.beq k 5) (dec [(0, (.int .i64)), (1, (.int .i64)), (5, .ptr), (8, .addr)] fr fun x => trystlaw19_RatchetBounds.c5 R x.1 x.2.1 x.2.2.1 x.2.2.2 w) (cond (Nat.beq k 4) (dec [(0, (.int .i64)), (1, (.int .i64)), (5, .ptr), (15, .addr), (16, (.int .i64))] fr fun x => trystlaw19_RatchetBounds.c4 R x.1 x.2.1 x.2.2.1 x.2.2.2.1 x.2.2.2.2 w) (cond (Nat.beq k 3) (dec [(0, (.int .i64)), (1, (.int .i64)), (5, .ptr), (15, .addr), (16, (.int .i64)), (17, (.int .i64))] fr fun x => trystlaw19_RatchetBounds.l3 R x.1 x.2.1 x.2.2.1 x.2.2.2.1 x.2.2.2.2.1 x.2.2.2.2.2 w) (cond (Nat.beq k 2) (dec [(0, (.int .i64)), (1, (.int .i64)), (5, .ptr), (15, .addr), (16, (.int .i64))] fr fun x => trystlaw19_RatchetBounds.c2 R x.1 x.2.1 x.2.2.1 x.2.2.2.1 x.2.2.2.2 w) (cond (Nat.beq k 1) (dec [(0, (.int .i64)), (1, (.int .i64)), (5, .ptr), (20, .addr)] fr fun x => trystlaw19_RatchetBounds.c1 R x.1 x.2.1 x.2.2.1 x.2.2.2 w) (False)))))))

set_option maxRecDepth 100000 in
theorem trystlaw19_RatchetBounds.lift {R : Value → World → Prop} {jump0 : Int} {first1 : Int} {w : World} (h : trystlaw19_RatchetBounds.main R jump0 first1 w) : CallsV Tryd.prog n_trystlaw19_RatchetBounds #[.int .i64 jump0, .int .i64 first1] w R :=
  liftCalls (c := (.seq (.leaf (cL (bd Tryd.f15))) (.seq (.seq (.leaf (cL (cL (cR (bd Tryd.f15))))) (.cnd (.tmp 34) (.seq (.leaf (cL (cT (cR (cL (cR (bd Tryd.f15))))))) (.leaf (cR (cT (cR (cL (cR (bd Tryd.f15)))))))) (.leaf (cE (cR (cL (cR (bd Tryd.f15)))))))) (.cut 8 (.seq (.leaf (cL (cR (cR (bd Tryd.f15))))) (.seq (.seq (.leaf (cL (cL (cR (cR (cR (bd Tryd.f15))))))) (.cnd (.tmp 37) (.seq (.leaf (cL (cT (cR (cL (cR (cR (cR (bd Tryd.f15))))))))) (.leaf (cR (cT (cR (cL (cR (cR (cR (bd Tryd.f15)))))))))) (.leaf (cE (cR (cL (cR (cR (cR (bd Tryd.f15)))))))))) (.seq (.leaf (cL (cR (cR (cR (cR (bd Tryd.f15))))))) (.seq (.seq (.leaf (cL (cL (cR (cR (cR (cR (cR (bd Tryd.f15))))))))) (.cnd (.tmp 44) (.seq (.leaf (cL (cT (cR (cL (cR (cR (cR (cR (cR (bd Tryd.f15))))))))))) (.leaf (cR (cT (cR (cL (cR (cR (cR (cR (cR (bd Tryd.f15)))))))))))) (.leaf (cE (cR (cL (cR (cR (cR (cR (cR (bd Tryd.f15)))))))))))) (.seq (.leaf (cL (cR (cR (cR (cR (cR (cR (bd Tryd.f15))))))))) (.seq (.seq (.leaf (cL (cL (cR (cR (cR (cR (cR (cR (cR (bd Tryd.f15))))))))))) (.block 0 (.loop 6 (.seq (.seq (.leaf (cL (cL (cB (cB (cR (cL (cR (cR (cR (cR (cR (cR (cR (bd Tryd.f15))))))))))))))) (.cnd (.tmp 49) (.leaf (cT (cR (cL (cB (cB (cR (cL (cR (cR (cR (cR (cR (cR (cR (bd Tryd.f15)))))))))))))))) (.leaf (cE (cR (cL (cB (cB (cR (cL (cR (cR (cR (cR (cR (cR (cR (bd Tryd.f15)))))))))))))))))) (.seq (.block 1 (.seq (.leaf (cL (cB (cL (cR (cB (cB (cR (cL (cR (cR (cR (cR (cR (cR (cR (bd Tryd.f15))))))))))))))))) (.seq (.seq (.leaf (cL (cL (cR (cB (cL (cR (cB (cB (cR (cL (cR (cR (cR (cR (cR (cR (cR (bd Tryd.f15))))))))))))))))))) (.cnd (.tmp 66) (.seq (.leaf (cL (cT (cR (cL (cR (cB (cL (cR (cB (cB (cR (cL (cR (cR (cR (cR (cR (cR (cR (bd Tryd.f15))))))))))))))))))))) (.leaf (cR (cT (cR (cL (cR (cB (cL (cR (cB (cB (cR (cL (cR (cR (cR (cR (cR (cR (cR (bd Tryd.f15)))))))))))))))))))))) (.leaf (cE (cR (cL (cR (cB (cL (cR (cB (cB (cR (cL (cR (cR (cR (cR (cR (cR (cR (bd Tryd.f15)))))))))))))))))))))) (.cut 7 (.leaf (cR (cR (cB (cL (cR (cB (cB (cR (cL (cR (cR (cR (cR (cR (cR (cR (bd Tryd.f15)))))))))))))))))))))) (.leaf (cR (cR (cB (cB (cR (cL (cR (cR (cR (cR (cR (cR (cR (bd Tryd.f15)))))))))))))))))))) (.cut 5 (.seq (.leaf (cL (cR (cR (cR (cR (cR (cR (cR (cR (bd Tryd.f15))))))))))) (.seq (.seq (.leaf (cL (cL (cR (cR (cR (cR (cR (cR (cR (cR (cR (bd Tryd.f15))))))))))))) (.cnd (.tmp 79) (.seq (.leaf (cL (cT (cR (cL (cR (cR (cR (cR (cR (cR (cR (cR (cR (bd Tryd.f15))))))))))))))) (.leaf (cR (cT (cR (cL (cR (cR (cR (cR (cR (cR (cR (cR (cR (bd Tryd.f15)))))))))))))))) (.leaf (cE (cR (cL (cR (cR (cR (cR (cR (cR (cR (cR (cR (bd Tryd.f15)))))))))))))))) (.seq (.leaf (cL (cR (cR (cR (cR (cR (cR (cR (cR (cR (cR (bd Tryd.f15))))))))))))) (.seq (.seq (.leaf (cL (cL (cR (cR (cR (cR (cR (cR (cR (cR (cR (cR (cR (bd Tryd.f15))))))))))))))) (.cnd (.tmp 113) (.seq (.leaf (cL (cT (cR (cL (cR (cR (cR (cR (cR (cR (cR (cR (cR (cR (cR (bd Tryd.f15))))))))))))))))) (.leaf (cR (cT (cR (cL (cR (cR (cR (cR (cR (cR (cR (cR (cR (cR (cR (bd Tryd.f15)))))))))))))))))) (.leaf (cE (cR (cL (cR (cR (cR (cR (cR (cR (cR (cR (cR (cR (cR (bd Tryd.f15)))))))))))))))))) (.cut 4 (.seq (.seq (.leaf (cL (cL (cR (cR (cR (cR (cR (cR (cR (cR (cR (cR (cR (cR (bd Tryd.f15)))))))))))))))) (.block 2 (.loop 3 (.seq (.seq (.leaf (cL (cL (cB (cB (cR (cL (cR (cR (cR (cR (cR (cR (cR (cR (cR (cR (cR (cR (bd Tryd.f15)))))))))))))))))))) (.cnd (.tmp 116) (.leaf (cT (cR (cL (cB (cB (cR (cL (cR (cR (cR (cR (cR (cR (cR (cR (cR (cR (cR (cR (bd Tryd.f15))))))))))))))))))))) (.leaf (cE (cR (cL (cB (cB (cR (cL (cR (cR (cR (cR (cR (cR (cR (cR (cR (cR (cR (cR (bd Tryd.f15))))))))))))))))))))))) (.seq (.block 3 (.seq (.leaf (cL (cB (cL (cR (cB (cB (cR (cL (cR (cR (cR (cR (cR (cR (cR (cR (cR (cR (cR (cR (bd Tryd.f15)))))))))))))))))))))) (.cnd (.tmp 132) (.seq (.leaf (cL (cT (cR (cB (cL (cR (cB (cB (cR (cL (cR (cR (cR (cR (cR (cR (cR (cR (cR (cR (cR (cR (bd Tryd.f15)))))))))))))))))))))))) (.leaf (cR (cT (cR (cB (cL (cR (cB (cB (cR (cL (cR (cR (cR (cR (cR (cR (cR (cR (cR (cR (cR (cR (bd Tryd.f15))))))))))))))))))))))))) (.leaf (cE (cR (cB (cL (cR (cB (cB (cR (cL (cR (cR (cR (cR (cR (cR (cR (cR (cR (cR (cR (cR (bd Tryd.f15)))))))))))))))))))))))))) (.leaf (cR (cR (cB (cB (cR (cL (cR (cR (cR (cR (cR (cR (cR (cR (cR (cR (cR (cR (bd Tryd.f15))))))))))))))))))))))))) (.cut 2 (.seq (.leaf (cL (cR (cR (cR (cR (cR (cR (cR (cR (cR (cR (cR (cR (cR (bd Tryd.f15)))))))))))))))) (.seq (.seq (.leaf (cL (cL (cR (cR (cR (cR (cR (cR (cR (cR (cR (cR (cR (cR (cR (cR (bd Tryd.f15)))))))))))))))))) (.cnd (.tmp 155) (.seq (.leaf (cL (cT (cR (cL (cR (cR (cR (cR (cR (cR (cR (cR (cR (cR (cR (cR (cR (cR (bd Tryd.f15)))))))))))))))))))) (.leaf (cR (cT (cR (cL (cR (cR (cR (cR (cR (cR (cR (cR (cR (cR (cR (cR (cR (cR (bd Tryd.f15))))))))))))))))))))) (.leaf (cE (cR (cL (cR (cR (cR (cR (cR (cR (cR (cR (cR (cR (cR (cR (cR (cR (bd Tryd.f15))))))))))))))))))))) (.cut 1 (.seq (.leaf (cL (cR (cR (cR (cR (cR (cR (cR (cR (cR (cR (cR (cR (cR (cR (cR (bd Tryd.f15)))))))))))))))))) (.seq (.leaf (cL (cR (cR (cR (cR (cR (cR (cR (cR (cR (cR (cR (cR (cR (cR (cR (cR (bd Tryd.f15))))))))))))))))))) (.leaf (cR (cR (cR (cR (cR (cR (cR (cR (cR (cR (cR (cR (cR (cR (cR (cR (cR (bd Tryd.f15)))))))))))))))))))))))))))))))))))))))))) (J := trystlaw19_RatchetBounds.J0 R) LfYtoclhecldmahiaaDoor.mixed Tryd.func15 (by kernel_rfl) (by kernel_rfl) (mkSeq (mkSeq (mkCut (cutDef [(0, (.int .i64)), (1, (.int .i64))] (fun x w => trystlaw19_RatchetBounds.c8 R x.1 x.2 w) (fun _ _ => by kernel_rfl) (fun _ _ => by kernel_rfl)) (mkSeq (mkSeq (mkSeq (mkSeq (mkSeq (mkSeq (mkCut (cutDef [(0, (.int .i64)), (1, (.int .i64)), (5, .ptr), (8, .addr)] (fun x w => trystlaw19_RatchetBounds.c5 R x.1 x.2.1 x.2.2.1 x.2.2.2 w) (fun _ _ => by kernel_rfl) (fun _ _ => by kernel_rfl)) (mkSeq (mkSeq (mkSeq (mkSeq (mkCut (cutDef [(0, (.int .i64)), (1, (.int .i64)), (5, .ptr), (15, .addr), (16, (.int .i64))] (fun x w => trystlaw19_RatchetBounds.c4 R x.1 x.2.1 x.2.2.1 x.2.2.2.1 x.2.2.2.2 w) (fun _ _ => by kernel_rfl) (fun _ _ => by kernel_rfl)) (mkSeq (mkCut (cutDef [(0, (.int .i64)), (1, (.int .i64)), (5, .ptr), (15, .addr), (16, (.int .i64))] (fun x w => trystlaw19_RatchetBounds.c2 R x.1 x.2.1 x.2.2.1 x.2.2.2.1 x.2.2.2.2 w) (fun _ _ => by kernel_rfl) (fun _ _ => by kernel_rfl)) (mkSeq (mkSeq (mkCut (cutDef [(0, (.int .i64)), (1, (.int .i64)), (5, .ptr), (20, .addr)] (fun x w => trystlaw19_RatchetBounds.c1 R x.1 x.2.1 x.2.2.1 x.2.2.2 w) (fun _ _ => by kernel_rfl) (fun _ _ => by kernel_rfl)) (mkSeq (mkSeq mkLeaf mkLeaf) mkLeaf)) (mkSeq (mkCnd (mkSeq mkLeaf mkLeaf) mkLeaf) mkLeaf)) mkLeaf)) (mkSeq (mkBlock (mkLoop (loopDef LfYtoclhecldmahiaaDoor.mixed [(0, (.int .i64)), (1, (.int .i64)), (5, .ptr), (15, .addr), (16, (.int .i64)), (17, (.int .i64))] (by kernel_rfl) (fun M3 x w => trystlaw19_RatchetBounds.b3 R (fun y0 y1 y2 y3 y4 y5 w => M3 (y0, y1, y2, y3, y4, y5) w) x.1 x.2.1 x.2.2.1 x.2.2.2.1 x.2.2.2.2.1 x.2.2.2.2.2 w) (fun M3 => fun _ _ _ => False) (fun _ _ _ => by kernel_rfl) (fun M3 => (mkSeq (mkSeq mkLeaf (mkBlock (mkSeq (mkCnd (mkSeq mkLeaf mkLeaf) mkLeaf) mkLeaf))) (mkSeq (mkCnd mkLeaf mkLeaf) mkLeaf))) (fun x w => trystlaw19_RatchetBounds.l3 R x.1 x.2.1 x.2.2.1 x.2.2.2.1 x.2.2.2.2.1 x.2.2.2.2.2 w) (by rintro ⟨c0, c1, c2, c3, c4, s0⟩ w ⟨I, μ, h0, h1⟩; refine ⟨fun y w => y.1 = c0 ∧ y.2.1 = c1 ∧ y.2.2.1 = c2 ∧ y.2.2.2.1 = c3 ∧ y.2.2.2.2.1 = c4 ∧ I y.2.2.2.2.2 w, fun y w => μ y.2.2.2.2.2 w, ⟨rfl, rfl, rfl, rfl, rfl, h0⟩, ?_⟩; rintro ⟨d0, d1, d2, d3, d4, t0⟩ w ⟨e0, e1, e2, e3, e4, hI⟩; dsimp only at e0 e1 e2 e3 e4 hI; subst e0; subst e1; subst e2; subst e3; subst e4; exact h1 _ _ hI) (fun _ _ => by kernel_rfl)))) mkLeaf))) (mkSeq (mkCnd (mkSeq mkLeaf mkLeaf) mkLeaf) mkLeaf)) mkLeaf) (mkSeq (mkCnd (mkSeq mkLeaf mkLeaf) mkLeaf) mkLeaf)) mkLeaf)) (mkSeq (mkBlock (mkLoop (loopDef LfYtoclhecldmahiaaDoor.mixed [(0, (.int .i64)), (1, (.int .i64)), (5, .ptr), (8, .addr), (9, (.int .i64))] (by kernel_rfl) (fun M6 x w => trystlaw19_RatchetBounds.b6 R (fun y0 y1 y2 y3 y4 w => M6 (y0, y1, y2, y3, y4) w) x.1 x.2.1 x.2.2.1 x.2.2.2.1 x.2.2.2.2 w) (fun M6 => trystlaw19_RatchetBounds.J6 R (fun y0 y1 y2 y3 y4 w => M6 (y0, y1, y2, y3, y4) w)) (fun _ _ _ => by kernel_rfl) (fun M6 => (mkSeq (mkSeq mkLeaf (mkBlock (mkSeq (mkSeq (mkCut (cutDef [(0, (.int .i64)), (1, (.int .i64)), (5, .ptr), (8, .addr), (9, (.int .i64)), (12, .addr)] (fun x w => trystlaw19_RatchetBounds.c7 R (fun y0 y1 y2 y3 y4 w => M6 (y0, y1, y2, y3, y4) w) x.1 x.2.1 x.2.2.1 x.2.2.2.1 x.2.2.2.2.1 x.2.2.2.2.2 w) (fun _ _ => by kernel_rfl) (fun _ _ => by kernel_rfl)) mkLeaf) (mkSeq (mkCnd (mkSeq mkLeaf mkLeaf) mkLeaf) mkLeaf)) mkLeaf))) (mkSeq (mkCnd mkLeaf mkLeaf) mkLeaf))) (fun x w => trystlaw19_RatchetBounds.l6 R x.1 x.2.1 x.2.2.1 x.2.2.2.1 x.2.2.2.2 w) (by rintro ⟨c0, c1, c2, c3, s0⟩ w ⟨I, μ, h0, h1⟩; refine ⟨fun y w => y.1 = c0 ∧ y.2.1 = c1 ∧ y.2.2.1 = c2 ∧ y.2.2.2.1 = c3 ∧ I y.2.2.2.2 w, fun y w => μ y.2.2.2.2 w, ⟨rfl, rfl, rfl, rfl, h0⟩, ?_⟩; rintro ⟨d0, d1, d2, d3, t0⟩ w ⟨e0, e1, e2, e3, hI⟩; dsimp only at e0 e1 e2 e3 hI; subst e0; subst e1; subst e2; subst e3; exact h1 _ _ hI) (fun _ _ => by kernel_rfl)))) mkLeaf)) mkLeaf) (mkSeq (mkCnd (mkSeq mkLeaf mkLeaf) mkLeaf) mkLeaf)) mkLeaf) (mkSeq (mkCnd (mkSeq mkLeaf mkLeaf) mkLeaf) mkLeaf)) mkLeaf)) (mkSeq (mkCnd (mkSeq mkLeaf mkLeaf) mkLeaf) mkLeaf)) mkLeaf) (kcast (by kernel_rfl) h)

end Go.Proofs.YtoclhecldmahiaaDoor
