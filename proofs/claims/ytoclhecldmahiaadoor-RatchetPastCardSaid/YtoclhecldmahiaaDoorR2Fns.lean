/-
  What the code of these functions comes to, and that it suffices for the call. Written by a program of ours, for this claim.
-/
import Derived.Test.YtoclhecldmahiaaDoorRcFns
import Derived.Test.YtoclhecldmahiaaDoorKwFns
set_option linter.unusedVariables false
set_option linter.unusedVariables false
namespace Go.Proofs.YtoclhecldmahiaaDoor
open Go.Lf
abbrev n_trystlaw19_RatchetPast : Nat := 22
/-! trystlaw19_RatchetPast -/
def trystlaw19_RatchetPast.c1 (R : Value → World → Prop) (w : World) : Prop :=
  CallsV Tryd.prog n_trystlaw19_wakes #[] w (fun v_1 w1 =>
  ∃ b_2 : Bool, v_1 = .bool b_2 ∧
  R (.bool b_2) w1)

def trystlaw19_RatchetPast.c3 (R : Value → World → Prop) (N2 : Int → Sl → Addr → Sl → Int → World → Prop) (n0 : Int) (keys8 : Sl) (r15 : Addr) (all22 : Sl) (i23 : Int) (skipped24 : Bool) (w : World) : Prop :=
  0 ≤ (i23 : Int) ∧ i23 < ((keys8.len : Nat) : Int) ∧ ∃ q_3 : Addr, keys8.a = some q_3 ∧
  ∃ x_4 : Int, w.cell? (q_3.add (i23 : Int).toNat) = some (.int .i64 x_4) ∧
  0 ≤ (x_4 : Int) ∧ x_4 < ((all22.len : Nat) : Int) ∧ ∃ q_5 : Addr, all22.a = some q_5 ∧
  ∃ b_6 : Bool, w.cell? (q_5.add (x_4 : Int).toNat) = some (.bool b_6) ∧
  ∃ x_7 : Int, w.cell? (r15.add 1) = some (.int .i64 x_7) ∧
  cond (decide ((i23 : Int) ≥ x_7))
  (cond (!(b_6 == true))
  (R (.bool false) w.drew)
  ((let i23_7 : Int := (IntKind.i64.wrap (i23 + 1));
  N2 n0 keys8 r15 all22 i23_7 w.drew)))
  (cond (!(b_6 == skipped24))
  (R (.bool false) w.drew)
  ((let i23_8 : Int := (IntKind.i64.wrap (i23 + 1));
  N2 n0 keys8 r15 all22 i23_8 w.drew)))

def trystlaw19_RatchetPast.b4 (R : Value → World → Prop) (N2 : Int → Sl → Addr → Sl → Int → World → Prop) (N4 : Int → Sl → Addr → Sl → Int → Bool → Int → World → Prop) (n0 : Int) (keys8 : Sl) (r15 : Addr) (all22 : Sl) (i23 : Int) (skipped24 : Bool) (k25 : Int) (w : World) : Prop :=
  ∃ (a_10 : Option Addr) (l_11 c_12 : Nat), w.cell? (r15.add 2) = some (.slice a_10 l_11 c_12) ∧
  cond (decide ((k25 : Int) < ((l_11 : Nat) : Int)))
  (cond skipped24
  ((let k25_12 : Int := (IntKind.i64.wrap (k25 + 1));
  N4 n0 keys8 r15 all22 i23 true k25_12 w))
  (∃ (a_14 : Option Addr) (l_15 c_16 : Nat), w.cell? (r15.add 2) = some (.slice a_14 l_15 c_16) ∧
  0 ≤ (k25 : Int) ∧ k25 < ((l_15 : Nat) : Int) ∧ ∃ q_17 : Addr, a_14 = some q_17 ∧
  ∃ x_18 : Int, w.cell? (q_17.add ((k25 : Int).toNat * 2)) = some (.int .i64 x_18) ∧
  (let k25_18 : Int := (IntKind.i64.wrap (k25 + 1));
  N4 n0 keys8 r15 all22 i23 ((x_18 : Int) == i23) k25_18 w)))
  (trystlaw19_RatchetPast.c3 R N2 n0 keys8 r15 all22 i23 skipped24 w)

def trystlaw19_RatchetPast.l4 (R : Value → World → Prop) (N2 : Int → Sl → Addr → Sl → Int → World → Prop) (n0 : Int) (keys8 : Sl) (r15 : Addr) (all22 : Sl) (i23 : Int) (skipped24 : Bool) (k25 : Int) (w : World) : Prop :=
  ∃ (I : (Bool × Int) → World → Prop) (μ : (Bool × Int) → World → Nat), I (skipped24, k25) w ∧ ∀ s w, I s w → trystlaw19_RatchetPast.b4 R N2 (fun n0' keys8' r15' all22' i23' skipped24' k25' w' => (n0' = n0 ∧ keys8' = keys8 ∧ r15' = r15 ∧ all22' = all22 ∧ i23' = i23 ∧ I (skipped24', k25') w') ∧ μ (skipped24', k25') w' < μ s w) n0 keys8 r15 all22 i23 s.1 s.2 w

def trystlaw19_RatchetPast.b2 (R : Value → World → Prop) (N2 : Int → Sl → Addr → Sl → Int → World → Prop) (n0 : Int) (keys8 : Sl) (r15 : Addr) (all22 : Sl) (i23 : Int) (w : World) : Prop :=
  cond (decide ((i23 : Int) < n0))
  (trystlaw19_RatchetPast.l4 R N2 n0 keys8 r15 all22 i23 false 0 w)
  (trystlaw19_RatchetPast.c1 R w)

def trystlaw19_RatchetPast.l2 (R : Value → World → Prop) (n0 : Int) (keys8 : Sl) (r15 : Addr) (all22 : Sl) (i23 : Int) (w : World) : Prop :=
  ∃ (I : Int → World → Prop) (μ : Int → World → Nat), I i23 w ∧ ∀ s w, I s w → trystlaw19_RatchetPast.b2 R (fun n0' keys8' r15' all22' i23' w' => (n0' = n0 ∧ keys8' = keys8 ∧ r15' = r15 ∧ all22' = all22 ∧ I i23' w') ∧ μ i23' w' < μ s w) n0 keys8 r15 all22 s w

def trystlaw19_RatchetPast.c5 (R : Value → World → Prop) (n0 : Int) (a5 : Option Addr) (keys8 : Sl) (r15 : Addr) (told20 : Sl) (w : World) : Prop :=
  CallsV Tryd.prog n_know_All #[.pointer a5, .slice told20.a told20.len told20.cap] w (fun v_20 w2 =>
  ∃ (a_21 : Option Addr) (l_22 c_23 : Nat), ∃ x_24 : Int, v_20 = .tuple #[.slice a_21 l_22 c_23, .int .i64 x_24] ∧
  cond ((x_24 : Int) != 0)
  (R (.bool false) w2)
  (trystlaw19_RatchetPast.l2 R n0 keys8 r15 ⟨a_21, l_22, c_23⟩ 0 w2))

def trystlaw19_RatchetPast.b6 (R : Value → World → Prop) (N6 : Int → Option Addr → Sl → Addr → Sl → Int → World → Prop) (n0 : Int) (a5 : Option Addr) (keys8 : Sl) (r15 : Addr) (told20 : Sl) (i21 : Int) (w : World) : Prop :=
  ∃ (a_25 : Option Addr) (l_26 c_27 : Nat), w.cell? (r15.add 2) = some (.slice a_25 l_26 c_27) ∧
  cond (decide ((i21 : Int) < ((l_26 : Nat) : Int)))
  (∃ (a_28 : Option Addr) (l_29 c_30 : Nat), w.cell? (r15.add 2) = some (.slice a_28 l_29 c_30) ∧
  0 ≤ (i21 : Int) ∧ i21 < ((l_29 : Nat) : Int) ∧ ∃ q_31 : Addr, a_28 = some q_31 ∧
  ∃ x_32 : Int, w.cell? ((q_31.add ((i21 : Int).toNat * 2)).add 1) = some (.int .i64 x_32) ∧
  let w3 := w.alloc (.cells #[.int .i64 x_32] 3);
  ∃ (a_33 : Option Addr) (l_34 c_35 : Nat), ∃ w4 : World, (builtin .append #[29, 29] 29 #[] #[.slice told20.a told20.len told20.cap, .slice (some (newA w)) 1 1]).run Tryd.prog w3 = .ok (.value (.slice a_33 l_34 c_35)) w4 ∧
  (let i21_35 : Int := (IntKind.i64.wrap (i21 + 1));
  N6 n0 a5 keys8 r15 ⟨a_33, l_34, c_35⟩ i21_35 w4))
  (trystlaw19_RatchetPast.c5 R n0 a5 keys8 r15 told20 w)

def trystlaw19_RatchetPast.l6 (R : Value → World → Prop) (n0 : Int) (a5 : Option Addr) (keys8 : Sl) (r15 : Addr) (told20 : Sl) (i21 : Int) (w : World) : Prop :=
  ∃ (I : (Sl × Int) → World → Prop) (μ : (Sl × Int) → World → Nat), I (told20, i21) w ∧ ∀ s w, I s w → trystlaw19_RatchetPast.b6 R (fun n0' a5' keys8' r15' told20' i21' w' => (n0' = n0 ∧ a5' = a5 ∧ keys8' = keys8 ∧ r15' = r15 ∧ I (told20', i21') w') ∧ μ (told20', i21') w' < μ s w) n0 a5 keys8 r15 s.1 s.2 w

def trystlaw19_RatchetPast.c7 (R : Value → World → Prop) (n0 : Int) (a5 : Option Addr) (keys8 : Sl) (r15 : Addr) (w : World) : Prop :=
  ∃ x_37 : Int, w.cell? r15 = some (.int .i64 x_37) ∧
  let w5 := w.alloc (.cells #[.int .i64 x_37] 3);
  trystlaw19_RatchetPast.l6 R n0 a5 keys8 r15 ⟨(some (newA w)), 1, 1⟩ 0 w5

def trystlaw19_RatchetPast.b8 (R : Value → World → Prop) (N8 : Int → Sl → Option Addr → Sl → Addr → Int → World → Prop) (n0 : Int) (takes1 : Sl) (a5 : Option Addr) (keys8 : Sl) (r15 : Addr) (i16 : Int) (w : World) : Prop :=
  cond (decide ((i16 : Int) < ((takes1.len : Nat) : Int)))
  (∃ S_38 : World → Prop, S_38 w.drew ∧
  ∃ x_39 : Int, (∀ x, S_38 x → x.cell? r15 = some (.int .i64 x_39)) ∧
  ∃ x_40 : Int, (∀ x, S_38 x → x.cell? (r15.add 1) = some (.int .i64 x_40)) ∧
  ∃ (a_41 : Option Addr) (l_42 c_43 : Nat), (∀ x, S_38 x → x.cell? (r15.add 2) = some (.slice a_41 l_42 c_43)) ∧
  0 ≤ (i16 : Int) ∧ i16 < ((takes1.len : Nat) : Int) ∧ ∃ q_44 : Addr, takes1.a = some q_44 ∧
  ∃ x_45 : Int, (∀ x, S_38 x → x.cell? (q_44.add (i16 : Int).toNat) = some (.int .i64 x_45)) ∧
  (IntKind.u64.wrap n0) ≠ 0 ∧
  (CallsV Tryd.prog n_ratchet_Take #[.pointer a5, .agg #[.int .i64 x_39, .int .i64 x_40, .slice a_41 l_42 c_43], .int .i64 (IntKind.i64.wrap (Int.tmod (IntKind.u64.wrap x_45) (IntKind.u64.wrap n0)))] w.drew (fun v_46 w6 =>
  ∃ x_47 : Int, ∃ x_48 : Int, ∃ x_49 : Int, ∃ (a_50 : Option Addr) (l_51 c_52 : Nat), ∃ x_53 : Int, v_46 = .tuple #[.int .i64 x_47, .agg #[.int .i64 x_48, .int .i64 x_49, .slice a_50 l_51 c_52], .int .i64 x_53] ∧
  let w7 := w6.alloc (.cells #[.int .i64 0, .int .i64 0, .slice none 0 0] 104);
  (∀ j, j < 3 → Wr w7 ((newA w6).add j)) ∧
  (let w8 := setCells (newA w6) [.int .i64 x_48, .int .i64 x_49, .slice a_50 l_51 c_52] 0 w7;
  cond ((x_53 : Int) == 0)
  (∃ x_54 : Int, w8.cell? (newA w6) = some (.int .i64 x_54) ∧
  ∃ x_55 : Int, w8.cell? ((newA w6).add 1) = some (.int .i64 x_55) ∧
  ∃ (a_56 : Option Addr) (l_57 c_58 : Nat), w8.cell? ((newA w6).add 2) = some (.slice a_56 l_57 c_58) ∧
  (∀ j, j < 3 → Wr w8 (r15.add j)) ∧
  (let w9 := setCells r15 [.int .i64 x_54, .int .i64 x_55, .slice a_56 l_57 c_58] 0 w8;
  (let i16_58 : Int := (IntKind.i64.wrap (i16 + 1));
  N8 n0 takes1 a5 keys8 r15 i16_58 w9)))
  ((let i16_59 : Int := (IntKind.i64.wrap (i16 + 1));
  N8 n0 takes1 a5 keys8 r15 i16_59 w8))))) ∧
  (let w10 := w.drew.alloc (.cells #[.int .i64 0, .int .i64 0, .slice none 0 0] 104);
  S_38 w10 ∧
  CallsV Tryd.prog n_ratchet_Take #[.pointer a5, .agg #[.int .i64 x_39, .int .i64 x_40, .slice a_41 l_42 c_43], .int .i64 (IntKind.i64.wrap (Int.tmod (IntKind.u64.wrap x_45) (IntKind.u64.wrap n0)))] w10 (fun v_61 w11 =>
  ∃ x_62 : Int, ∃ x_63 : Int, ∃ x_64 : Int, ∃ (a_65 : Option Addr) (l_66 c_67 : Nat), ∃ x_68 : Int, v_61 = .tuple #[.int .i64 x_62, .agg #[.int .i64 x_63, .int .i64 x_64, .slice a_65 l_66 c_67], .int .i64 x_68] ∧
  (∀ j, j < 3 → Wr w11 ((newA w.drew).add j)) ∧
  (let w12 := setCells (newA w.drew) [.int .i64 x_63, .int .i64 x_64, .slice a_65 l_66 c_67] 0 w11;
  cond ((x_68 : Int) == 0)
  (∃ x_69 : Int, w12.cell? (newA w.drew) = some (.int .i64 x_69) ∧
  ∃ x_70 : Int, w12.cell? ((newA w.drew).add 1) = some (.int .i64 x_70) ∧
  ∃ (a_71 : Option Addr) (l_72 c_73 : Nat), w12.cell? ((newA w.drew).add 2) = some (.slice a_71 l_72 c_73) ∧
  (∀ j, j < 3 → Wr w12 (r15.add j)) ∧
  (let w13 := setCells r15 [.int .i64 x_69, .int .i64 x_70, .slice a_71 l_72 c_73] 0 w12;
  (let i16_73 : Int := (IntKind.i64.wrap (i16 + 1));
  N8 n0 takes1 a5 keys8 r15 i16_73 w13)))
  ((let i16_74 : Int := (IntKind.i64.wrap (i16 + 1));
  N8 n0 takes1 a5 keys8 r15 i16_74 w12))))))
  (trystlaw19_RatchetPast.c7 R n0 a5 keys8 r15 w)

def trystlaw19_RatchetPast.l8 (R : Value → World → Prop) (n0 : Int) (takes1 : Sl) (a5 : Option Addr) (keys8 : Sl) (r15 : Addr) (i16 : Int) (w : World) : Prop :=
  ∃ (I : Int → World → Prop) (μ : Int → World → Nat), I i16 w ∧ ∀ s w, I s w → trystlaw19_RatchetPast.b8 R (fun n0' takes1' a5' keys8' r15' i16' w' => (n0' = n0 ∧ takes1' = takes1 ∧ a5' = a5 ∧ keys8' = keys8 ∧ r15' = r15 ∧ I i16' w') ∧ μ i16' w' < μ s w) n0 takes1 a5 keys8 r15 s w

def trystlaw19_RatchetPast.c9 (R : Value → World → Prop) (n0 : Int) (takes1 : Sl) (a5 : Option Addr) (c6 : Int) (keys8 : Sl) (w : World) : Prop :=
  CallsV Tryd.prog n_ratchet_New #[.int .i64 c6] w (fun v_76 w14 =>
  ∃ x_77 : Int, ∃ x_78 : Int, ∃ (a_79 : Option Addr) (l_80 c_81 : Nat), v_76 = .agg #[.int .i64 x_77, .int .i64 x_78, .slice a_79 l_80 c_81] ∧
  let w15 := w14.alloc (.cells #[.int .i64 0, .int .i64 0, .slice none 0 0] 104);
  (∀ j, j < 3 → Wr w15 ((newA w14).add j)) ∧
  (let w16 := setCells (newA w14) [.int .i64 x_77, .int .i64 x_78, .slice a_79 l_80 c_81] 0 w15;
  trystlaw19_RatchetPast.l8 R n0 takes1 a5 keys8 (newA w14) 0 w16))

def trystlaw19_RatchetPast.b10 (R : Value → World → Prop) (N10 : Int → Sl → Option Addr → Int → Addr → Sl → Int → World → Prop) (n0 : Int) (takes1 : Sl) (a5 : Option Addr) (c6 : Int) (s9 : Addr) (keys8 : Sl) (i10 : Int) (w : World) : Prop :=
  cond (decide ((i10 : Int) < n0))
  (∃ x_82 : Int, w.cell? s9 = some (.int .i64 x_82) ∧
  ∃ x_83 : Int, w.cell? (s9.add 1) = some (.int .i64 x_83) ∧
  ∃ (a_84 : Option Addr) (l_85 c_86 : Nat), w.cell? (s9.add 2) = some (.slice a_84 l_85 c_86) ∧
  CallsV Tryd.prog n_ratchet_Send #[.pointer a5, .agg #[.int .i64 x_82, .int .i64 x_83, .slice a_84 l_85 c_86]] w (fun v_87 w17 =>
  ∃ x_88 : Int, ∃ x_89 : Int, ∃ x_90 : Int, ∃ x_91 : Int, ∃ (a_92 : Option Addr) (l_93 c_94 : Nat), ∃ x_95 : Int, v_87 = .tuple #[.int .i64 x_88, .int .i64 x_89, .agg #[.int .i64 x_90, .int .i64 x_91, .slice a_92 l_93 c_94], .int .i64 x_95] ∧
  let w18 := w17.alloc (.cells #[.int .i64 0, .int .i64 0, .slice none 0 0] 104);
  (∀ j, j < 3 → Wr w18 ((newA w17).add j)) ∧
  (let w19 := setCells (newA w17) [.int .i64 x_90, .int .i64 x_91, .slice a_92 l_93 c_94] 0 w18;
  cond ((x_95 : Int) != 0)
  (R (.bool false) w19)
  (∃ S_96 : World → Prop, S_96 w19.drew ∧
  ∃ x_97 : Int, (∀ x, S_96 x → x.cell? (newA w17) = some (.int .i64 x_97)) ∧
  ∃ x_98 : Int, (∀ x, S_96 x → x.cell? ((newA w17).add 1) = some (.int .i64 x_98)) ∧
  ∃ (a_99 : Option Addr) (l_100 c_101 : Nat), (∀ x, S_96 x → x.cell? ((newA w17).add 2) = some (.slice a_99 l_100 c_101)) ∧
  let w20 := w19.drew.alloc (.cells #[.int .i64 x_88] 3);
  S_96 w20 ∧
  ∃ (a_102 : Option Addr) (l_103 c_104 : Nat), ∃ w21 : World, (builtin .append #[29, 29] 29 #[] #[.slice keys8.a keys8.len keys8.cap, .slice (some (newA w19.drew)) 1 1]).run Tryd.prog w20 = .ok (.value (.slice a_102 l_103 c_104)) w21 ∧
  S_96 w21 ∧
  (∀ j, j < 3 → Wr w21 (s9.add j)) ∧
  (let w22 := setCells s9 [.int .i64 x_97, .int .i64 x_98, .slice a_99 l_100 c_101] 0 w21;
  (let i10_104 : Int := (IntKind.i64.wrap (i10 + 1));
  N10 n0 takes1 a5 c6 s9 ⟨a_102, l_103, c_104⟩ i10_104 w22))))))
  (trystlaw19_RatchetPast.c9 R n0 takes1 a5 c6 keys8 w)

def trystlaw19_RatchetPast.l10 (R : Value → World → Prop) (n0 : Int) (takes1 : Sl) (a5 : Option Addr) (c6 : Int) (s9 : Addr) (keys8 : Sl) (i10 : Int) (w : World) : Prop :=
  ∃ (I : (Sl × Int) → World → Prop) (μ : (Sl × Int) → World → Nat), I (keys8, i10) w ∧ ∀ s w, I s w → trystlaw19_RatchetPast.b10 R (fun n0' takes1' a5' c6' s9' keys8' i10' w' => (n0' = n0 ∧ takes1' = takes1 ∧ a5' = a5 ∧ c6' = c6 ∧ s9' = s9 ∧ I (keys8', i10') w') ∧ μ (keys8', i10') w' < μ s w) n0 takes1 a5 c6 s9 s.1 s.2 w

def trystlaw19_RatchetPast.c11 (R : Value → World → Prop) (n0 : Int) (takes1 : Sl) (w : World) : Prop :=
  CallsV Tryd.prog n_term_New #[] w (fun v_106 w23 =>
  ∃ p_107 : Option Addr, v_106 = .pointer p_107 ∧
  cond ((p_107).isNone)
  (R (.bool false) w23)
  (CallsV Tryd.prog n_term_Arena_Make #[.pointer p_107, .int .i64 1, .int .i64 1, .slice none 0 0] w23 (fun v_108 w24 =>
  ∃ x_109 : Int, ∃ x_110 : Int, v_108 = .tuple #[.int .i64 x_109, .int .i64 x_110] ∧
  cond ((x_110 : Int) != 0)
  (R (.bool false) w24)
  (CallsV Tryd.prog n_ratchet_New #[.int .i64 x_109] w24 (fun v_111 w25 =>
  ∃ x_112 : Int, ∃ x_113 : Int, ∃ (a_114 : Option Addr) (l_115 c_116 : Nat), v_111 = .agg #[.int .i64 x_112, .int .i64 x_113, .slice a_114 l_115 c_116] ∧
  let w26 := w25.alloc (.cells #[.int .i64 0, .int .i64 0, .slice none 0 0] 104);
  (∀ j, j < 3 → Wr w26 ((newA w25).add j)) ∧
  (let w27 := setCells (newA w25) [.int .i64 x_112, .int .i64 x_113, .slice a_114 l_115 c_116] 0 w26;
  trystlaw19_RatchetPast.l10 R n0 takes1 p_107 x_109 (newA w25) ⟨none, 0, 0⟩ 0 w27))))))

def trystlaw19_RatchetPast.main (R : Value → World → Prop) (n0 : Int) (takes1 : Sl) (w : World) : Prop :=
  cond (decide ((n0 : Int) < 1))
  (R (.bool true) w)
  (cond (decide ((n0 : Int) > 60))
  (R (.bool true) w)
  (cond (decide ((((takes1.len : Nat) : Int) : Int) > 80))
  (R (.bool true) w)
  (trystlaw19_RatchetPast.c11 R n0 takes1 w)))

def trystlaw19_RatchetPast.J2 (R : Value → World → Prop) (N2 : Int → Sl → Addr → Sl → Int → World → Prop) (k : Nat) (fr : Fr) (w : World) : Prop :=
  cond (Nat.beq k 4) (dec [(0, (.int .i64)), (8, .slice), (15, .addr), (22, .slice), (23, (.int .i64)), (24, .bool), (25, (.int .i64))] fr fun x => trystlaw19_RatchetPast.l4 R N2 x.1 x.2.1 x.2.2.1 x.2.2.2.1 x.2.2.2.2.1 x.2.2.2.2.2.1 x.2.2.2.2.2.2 w) (cond (Nat.beq k 3) (dec [(0, (.int .i64)), (8, .slice), (15, .addr), (22, .slice), (23, (.int .i64)), (24, .bool)] fr fun x => trystlaw19_RatchetPast.c3 R N2 x.1 x.2.1 x.2.2.1 x.2.2.2.1 x.2.2.2.2.1 x.2.2.2.2.2 w) (False))

def trystlaw19_RatchetPast.J0 (R : Value → World → Prop) (k : Nat) (fr : Fr) (w : World) : Prop :=
  cond (Nat.beq k 11) (dec [(0, (.int .i64)), (1, .slice)] fr fun x => trystlaw19_RatchetPast.c11 R x.1 x.2 w) (cond (Nat.beq k 10) (dec [(0, (.int .i64)), (1, .slice), (5, .ptr), (6, (.int .i64)), (9, .addr), (8, .slice), (10, (.int .i64))] fr fun x => trystlaw19_RatchetPast.l10 R x.1 x.2.1 x.2.2.1 x.2.2.2.1 x.2.2.2.2.1 x.2.2.2.2.2.1 x.2.2.2.2.2.2 w) (cond (Nat.beq k 9) (dec [(0, (.int .i64)), (1, .slice), (5, .ptr), (6, (.int .i64)), (8, .slice)] fr fun x => trystlaw19_RatchetPast.c9 R x.1 x.2.1 x.2.2.1 x.2.2.2.1 x.2.2.2.2 w) (cond (Nat.beq k 8) (dec [(0, (.int .i64)), (1, .slice), (5, .ptr), (8, .slice), (15, .addr), (16, (.int .i64))] fr fun x => trystlaw19_RatchetPast.l8 R x.1 x.2.1 x.2.2.1 x.2.2.2.1 x.2.2.2.2.1 x.2.2.2.2.2 w) (cond (Nat.beq k 7) (dec [(0, (.int .i64)), (5, .ptr), (8, .slice), (15, .addr)] fr fun x => trystlaw19_RatchetPast.c7 R x.1 x.2.1 x.2.2.1 x.2.2.2 w) (cond (Nat.beq k 6) (dec [(0, (.int .i64)), (5, .ptr), (8, .slice), (15, .addr), (20, .slice), (21, (.int .i64))] fr fun x => trystlaw19_RatchetPast.l6 R x.1 x.2.1 x.2.2.1 x.2.2.2.1 x.2.2.2.2.1 x.2.2.2.2.2 w) (cond (Nat.beq k 5) (dec [(0, (.int .i64)), (5, .ptr), (8, .slice), (15, .addr), (20, .slice)] fr fun x => trystlaw19_RatchetPast.c5 R x.1 x.2.1 x.2.2.1 x.2.2.2.1 x.2.2.2.2 w) (cond (Nat.beq k 2) (dec [(0, (.int .i64)), (8, .slice), (15, .addr), (22, .slice), (23, (.int .i64))] fr fun x => trystlaw19_RatchetPast.l2 R x.1 x.2.1 x.2.2.1 x.2.2.2.1 x.2.2.2.2 w) (cond (Nat.beq k 1) (dec [] fr fun x => trystlaw19_RatchetPast.c1 R w) (False)))))))))

set_option maxRecDepth 100000 in
theorem trystlaw19_RatchetPast.lift {R : Value → World → Prop} {n0 : Int} {takes1 : Sl} {w : World} (h : trystlaw19_RatchetPast.main R n0 takes1 w) : CallsV Tryd.prog n_trystlaw19_RatchetPast #[.int .i64 n0, .slice takes1.a takes1.len takes1.cap] w R :=
  liftCalls (c := (.seq (.leaf (cL (bd Tryd.f22))) (.seq (.seq (.leaf (cL (cL (cR (bd Tryd.f22))))) (.cnd (.tmp 36) (.seq (.leaf (cL (cT (cR (cL (cR (bd Tryd.f22))))))) (.leaf (cR (cT (cR (cL (cR (bd Tryd.f22)))))))) (.leaf (cE (cR (cL (cR (bd Tryd.f22)))))))) (.cut 11 (.seq (.leaf (cL (cR (cR (bd Tryd.f22))))) (.seq (.seq (.leaf (cL (cL (cR (cR (cR (bd Tryd.f22))))))) (.cnd (.tmp 39) (.seq (.leaf (cL (cT (cR (cL (cR (cR (cR (bd Tryd.f22))))))))) (.leaf (cR (cT (cR (cL (cR (cR (cR (bd Tryd.f22)))))))))) (.leaf (cE (cR (cL (cR (cR (cR (bd Tryd.f22)))))))))) (.seq (.leaf (cL (cR (cR (cR (cR (bd Tryd.f22))))))) (.seq (.seq (.leaf (cL (cL (cR (cR (cR (cR (cR (bd Tryd.f22))))))))) (.cnd (.tmp 46) (.seq (.leaf (cL (cT (cR (cL (cR (cR (cR (cR (cR (bd Tryd.f22))))))))))) (.leaf (cR (cT (cR (cL (cR (cR (cR (cR (cR (bd Tryd.f22)))))))))))) (.leaf (cE (cR (cL (cR (cR (cR (cR (cR (bd Tryd.f22)))))))))))) (.seq (.leaf (cL (cR (cR (cR (cR (cR (cR (bd Tryd.f22))))))))) (.seq (.leaf (cL (cR (cR (cR (cR (cR (cR (cR (bd Tryd.f22)))))))))) (.seq (.seq (.leaf (cL (cL (cR (cR (cR (cR (cR (cR (cR (cR (bd Tryd.f22)))))))))))) (.block 0 (.loop 10 (.seq (.seq (.leaf (cL (cL (cB (cB (cR (cL (cR (cR (cR (cR (cR (cR (cR (cR (bd Tryd.f22)))))))))))))))) (.cnd (.tmp 51) (.leaf (cT (cR (cL (cB (cB (cR (cL (cR (cR (cR (cR (cR (cR (cR (cR (bd Tryd.f22))))))))))))))))) (.leaf (cE (cR (cL (cB (cB (cR (cL (cR (cR (cR (cR (cR (cR (cR (cR (bd Tryd.f22))))))))))))))))))) (.seq (.block 1 (.seq (.leaf (cL (cB (cL (cR (cB (cB (cR (cL (cR (cR (cR (cR (cR (cR (cR (cR (bd Tryd.f22)))))))))))))))))) (.seq (.seq (.leaf (cL (cL (cR (cB (cL (cR (cB (cB (cR (cL (cR (cR (cR (cR (cR (cR (cR (cR (bd Tryd.f22)))))))))))))))))))) (.cnd (.tmp 63) (.seq (.leaf (cL (cT (cR (cL (cR (cB (cL (cR (cB (cB (cR (cL (cR (cR (cR (cR (cR (cR (cR (cR (bd Tryd.f22)))))))))))))))))))))) (.leaf (cR (cT (cR (cL (cR (cB (cL (cR (cB (cB (cR (cL (cR (cR (cR (cR (cR (cR (cR (cR (bd Tryd.f22))))))))))))))))))))))) (.leaf (cE (cR (cL (cR (cB (cL (cR (cB (cB (cR (cL (cR (cR (cR (cR (cR (cR (cR (cR (bd Tryd.f22))))))))))))))))))))))) (.leaf (cR (cR (cB (cL (cR (cB (cB (cR (cL (cR (cR (cR (cR (cR (cR (cR (cR (bd Tryd.f22)))))))))))))))))))))) (.leaf (cR (cR (cB (cB (cR (cL (cR (cR (cR (cR (cR (cR (cR (cR (bd Tryd.f22))))))))))))))))))))) (.cut 9 (.seq (.leaf (cL (cR (cR (cR (cR (cR (cR (cR (cR (cR (bd Tryd.f22)))))))))))) (.seq (.seq (.leaf (cL (cL (cR (cR (cR (cR (cR (cR (cR (cR (cR (cR (bd Tryd.f22)))))))))))))) (.block 2 (.loop 8 (.seq (.seq (.leaf (cL (cL (cB (cB (cR (cL (cR (cR (cR (cR (cR (cR (cR (cR (cR (cR (bd Tryd.f22)))))))))))))))))) (.cnd (.tmp 74) (.leaf (cT (cR (cL (cB (cB (cR (cL (cR (cR (cR (cR (cR (cR (cR (cR (cR (cR (bd Tryd.f22))))))))))))))))))) (.leaf (cE (cR (cL (cB (cB (cR (cL (cR (cR (cR (cR (cR (cR (cR (cR (cR (cR (bd Tryd.f22))))))))))))))))))))) (.seq (.block 3 (.seq (.leaf (cL (cB (cL (cR (cB (cB (cR (cL (cR (cR (cR (cR (cR (cR (cR (cR (cR (cR (bd Tryd.f22)))))))))))))))))))) (.seq (.leaf (cL (cR (cB (cL (cR (cB (cB (cR (cL (cR (cR (cR (cR (cR (cR (cR (cR (cR (cR (bd Tryd.f22))))))))))))))))))))) (.cnd (.tmp 94) (.leaf (cT (cR (cR (cB (cL (cR (cB (cB (cR (cL (cR (cR (cR (cR (cR (cR (cR (cR (cR (cR (bd Tryd.f22)))))))))))))))))))))) (.leaf (cE (cR (cR (cB (cL (cR (cB (cB (cR (cL (cR (cR (cR (cR (cR (cR (cR (cR (cR (cR (bd Tryd.f22)))))))))))))))))))))))))) (.leaf (cR (cR (cB (cB (cR (cL (cR (cR (cR (cR (cR (cR (cR (cR (cR (cR (bd Tryd.f22))))))))))))))))))))))) (.cut 7 (.seq (.leaf (cL (cR (cR (cR (cR (cR (cR (cR (cR (cR (cR (cR (bd Tryd.f22)))))))))))))) (.seq (.seq (.leaf (cL (cL (cR (cR (cR (cR (cR (cR (cR (cR (cR (cR (cR (cR (bd Tryd.f22)))))))))))))))) (.block 4 (.loop 6 (.seq (.seq (.leaf (cL (cL (cB (cB (cR (cL (cR (cR (cR (cR (cR (cR (cR (cR (cR (cR (cR (cR (bd Tryd.f22)))))))))))))))))))) (.cnd (.tmp 103) (.leaf (cT (cR (cL (cB (cB (cR (cL (cR (cR (cR (cR (cR (cR (cR (cR (cR (cR (cR (cR (bd Tryd.f22))))))))))))))))))))) (.leaf (cE (cR (cL (cB (cB (cR (cL (cR (cR (cR (cR (cR (cR (cR (cR (cR (cR (cR (cR (bd Tryd.f22))))))))))))))))))))))) (.seq (.block 5 (.leaf (cB (cL (cR (cB (cB (cR (cL (cR (cR (cR (cR (cR (cR (cR (cR (cR (cR (cR (cR (bd Tryd.f22)))))))))))))))))))))) (.leaf (cR (cR (cB (cB (cR (cL (cR (cR (cR (cR (cR (cR (cR (cR (cR (cR (cR (cR (bd Tryd.f22))))))))))))))))))))))))) (.cut 5 (.seq (.leaf (cL (cR (cR (cR (cR (cR (cR (cR (cR (cR (cR (cR (cR (cR (bd Tryd.f22)))))))))))))))) (.seq (.seq (.leaf (cL (cL (cR (cR (cR (cR (cR (cR (cR (cR (cR (cR (cR (cR (cR (cR (bd Tryd.f22)))))))))))))))))) (.cnd (.tmp 122) (.seq (.leaf (cL (cT (cR (cL (cR (cR (cR (cR (cR (cR (cR (cR (cR (cR (cR (cR (cR (cR (bd Tryd.f22)))))))))))))))))))) (.leaf (cR (cT (cR (cL (cR (cR (cR (cR (cR (cR (cR (cR (cR (cR (cR (cR (cR (cR (bd Tryd.f22))))))))))))))))))))) (.leaf (cE (cR (cL (cR (cR (cR (cR (cR (cR (cR (cR (cR (cR (cR (cR (cR (cR (bd Tryd.f22))))))))))))))))))))) (.seq (.seq (.leaf (cL (cL (cR (cR (cR (cR (cR (cR (cR (cR (cR (cR (cR (cR (cR (cR (cR (bd Tryd.f22))))))))))))))))))) (.block 6 (.loop 2 (.seq (.seq (.leaf (cL (cL (cB (cB (cR (cL (cR (cR (cR (cR (cR (cR (cR (cR (cR (cR (cR (cR (cR (cR (cR (bd Tryd.f22))))))))))))))))))))))) (.cnd (.tmp 125) (.leaf (cT (cR (cL (cB (cB (cR (cL (cR (cR (cR (cR (cR (cR (cR (cR (cR (cR (cR (cR (cR (cR (cR (bd Tryd.f22)))))))))))))))))))))))) (.leaf (cE (cR (cL (cB (cB (cR (cL (cR (cR (cR (cR (cR (cR (cR (cR (cR (cR (cR (cR (cR (cR (cR (bd Tryd.f22)))))))))))))))))))))))))) (.seq (.block 7 (.seq (.leaf (cL (cB (cL (cR (cB (cB (cR (cL (cR (cR (cR (cR (cR (cR (cR (cR (cR (cR (cR (cR (cR (cR (cR (bd Tryd.f22))))))))))))))))))))))))) (.seq (.seq (.leaf (cL (cL (cR (cB (cL (cR (cB (cB (cR (cL (cR (cR (cR (cR (cR (cR (cR (cR (cR (cR (cR (cR (cR (cR (cR (bd Tryd.f22))))))))))))))))))))))))))) (.block 8 (.loop 4 (.seq (.seq (.leaf (cL (cL (cB (cB (cR (cL (cR (cB (cL (cR (cB (cB (cR (cL (cR (cR (cR (cR (cR (cR (cR (cR (cR (cR (cR (cR (cR (cR (cR (bd Tryd.f22))))))))))))))))))))))))))))))) (.cnd (.tmp 132) (.leaf (cT (cR (cL (cB (cB (cR (cL (cR (cB (cL (cR (cB (cB (cR (cL (cR (cR (cR (cR (cR (cR (cR (cR (cR (cR (cR (cR (cR (cR (cR (bd Tryd.f22)))))))))))))))))))))))))))))))) (.leaf (cE (cR (cL (cB (cB (cR (cL (cR (cB (cL (cR (cB (cB (cR (cL (cR (cR (cR (cR (cR (cR (cR (cR (cR (cR (cR (cR (cR (cR (cR (bd Tryd.f22)))))))))))))))))))))))))))))))))) (.seq (.block 9 (.leaf (cB (cL (cR (cB (cB (cR (cL (cR (cB (cL (cR (cB (cB (cR (cL (cR (cR (cR (cR (cR (cR (cR (cR (cR (cR (cR (cR (cR (cR (cR (bd Tryd.f22))))))))))))))))))))))))))))))))) (.leaf (cR (cR (cB (cB (cR (cL (cR (cB (cL (cR (cB (cB (cR (cL (cR (cR (cR (cR (cR (cR (cR (cR (cR (cR (cR (cR (cR (cR (cR (bd Tryd.f22)))))))))))))))))))))))))))))))))))) (.cut 3 (.seq (.leaf (cL (cR (cR (cB (cL (cR (cB (cB (cR (cL (cR (cR (cR (cR (cR (cR (cR (cR (cR (cR (cR (cR (cR (cR (cR (bd Tryd.f22))))))))))))))))))))))))))) (.cnd (.tmp 160) (.seq (.leaf (cL (cT (cR (cR (cR (cB (cL (cR (cB (cB (cR (cL (cR (cR (cR (cR (cR (cR (cR (cR (cR (cR (cR (cR (cR (cR (cR (bd Tryd.f22))))))))))))))))))))))))))))) (.leaf (cR (cT (cR (cR (cR (cB (cL (cR (cB (cB (cR (cL (cR (cR (cR (cR (cR (cR (cR (cR (cR (cR (cR (cR (cR (cR (cR (bd Tryd.f22)))))))))))))))))))))))))))))) (.leaf (cE (cR (cR (cR (cB (cL (cR (cB (cB (cR (cL (cR (cR (cR (cR (cR (cR (cR (cR (cR (cR (cR (cR (cR (cR (cR (bd Tryd.f22)))))))))))))))))))))))))))))))))) (.leaf (cR (cR (cB (cB (cR (cL (cR (cR (cR (cR (cR (cR (cR (cR (cR (cR (cR (cR (cR (cR (cR (bd Tryd.f22)))))))))))))))))))))))))))) (.cut 1 (.seq (.leaf (cL (cR (cR (cR (cR (cR (cR (cR (cR (cR (cR (cR (cR (cR (cR (cR (cR (bd Tryd.f22))))))))))))))))))) (.leaf (cR (cR (cR (cR (cR (cR (cR (cR (cR (cR (cR (cR (cR (cR (cR (cR (cR (bd Tryd.f22)))))))))))))))))))))))))))))))))))))))))) (J := trystlaw19_RatchetPast.J0 R) LfYtoclhecldmahiaaDoor.mixed Tryd.func22 (by kernel_rfl) (by kernel_rfl) (mkSeq (mkSeq (mkCut (cutDef [(0, (.int .i64)), (1, .slice)] (fun x w => trystlaw19_RatchetPast.c11 R x.1 x.2 w) (fun _ _ => by kernel_rfl) (fun _ _ => by kernel_rfl)) (mkSeq (mkSeq (mkSeq (mkSeq (mkSeq (mkSeq (mkSeq (mkCut (cutDef [(0, (.int .i64)), (1, .slice), (5, .ptr), (6, (.int .i64)), (8, .slice)] (fun x w => trystlaw19_RatchetPast.c9 R x.1 x.2.1 x.2.2.1 x.2.2.2.1 x.2.2.2.2 w) (fun _ _ => by kernel_rfl) (fun _ _ => by kernel_rfl)) (mkSeq (mkSeq (mkCut (cutDef [(0, (.int .i64)), (5, .ptr), (8, .slice), (15, .addr)] (fun x w => trystlaw19_RatchetPast.c7 R x.1 x.2.1 x.2.2.1 x.2.2.2 w) (fun _ _ => by kernel_rfl) (fun _ _ => by kernel_rfl)) (mkSeq (mkSeq (mkCut (cutDef [(0, (.int .i64)), (5, .ptr), (8, .slice), (15, .addr), (20, .slice)] (fun x w => trystlaw19_RatchetPast.c5 R x.1 x.2.1 x.2.2.1 x.2.2.2.1 x.2.2.2.2 w) (fun _ _ => by kernel_rfl) (fun _ _ => by kernel_rfl)) (mkSeq (mkSeq (mkSeq (mkCut (cutDef [] (fun x w => trystlaw19_RatchetPast.c1 R w) (fun _ _ => by kernel_rfl) (fun _ _ => by kernel_rfl)) (mkSeq mkLeaf mkLeaf)) (mkSeq (mkBlock (mkLoop (loopDef LfYtoclhecldmahiaaDoor.mixed [(0, (.int .i64)), (8, .slice), (15, .addr), (22, .slice), (23, (.int .i64))] (by kernel_rfl) (fun M2 x w => trystlaw19_RatchetPast.b2 R (fun y0 y1 y2 y3 y4 w => M2 (y0, y1, y2, y3, y4) w) x.1 x.2.1 x.2.2.1 x.2.2.2.1 x.2.2.2.2 w) (fun M2 => trystlaw19_RatchetPast.J2 R (fun y0 y1 y2 y3 y4 w => M2 (y0, y1, y2, y3, y4) w)) (fun _ _ _ => by kernel_rfl) (fun M2 => (mkSeq (mkSeq mkLeaf (mkBlock (mkSeq (mkSeq (mkCut (cutDef [(0, (.int .i64)), (8, .slice), (15, .addr), (22, .slice), (23, (.int .i64)), (24, .bool)] (fun x w => trystlaw19_RatchetPast.c3 R (fun y0 y1 y2 y3 y4 w => M2 (y0, y1, y2, y3, y4) w) x.1 x.2.1 x.2.2.1 x.2.2.2.1 x.2.2.2.2.1 x.2.2.2.2.2 w) (fun _ _ => by kernel_rfl) (fun _ _ => by kernel_rfl)) (mkSeq (mkCnd (mkSeq mkLeaf mkLeaf) mkLeaf) mkLeaf)) (mkSeq (mkBlock (mkLoop (loopDef LfYtoclhecldmahiaaDoor.mixed [(0, (.int .i64)), (8, .slice), (15, .addr), (22, .slice), (23, (.int .i64)), (24, .bool), (25, (.int .i64))] (by kernel_rfl) (fun M4 x w => trystlaw19_RatchetPast.b4 R (fun y0 y1 y2 y3 y4 w => M2 (y0, y1, y2, y3, y4) w) (fun y0 y1 y2 y3 y4 y5 y6 w => M4 (y0, y1, y2, y3, y4, y5, y6) w) x.1 x.2.1 x.2.2.1 x.2.2.2.1 x.2.2.2.2.1 x.2.2.2.2.2.1 x.2.2.2.2.2.2 w) (fun M4 => fun _ _ _ => False) (fun _ _ _ => by kernel_rfl) (fun M4 => (mkSeq (mkSeq mkLeaf (mkBlock mkLeaf)) (mkSeq (mkCnd mkLeaf mkLeaf) mkLeaf))) (fun x w => trystlaw19_RatchetPast.l4 R (fun y0 y1 y2 y3 y4 w => M2 (y0, y1, y2, y3, y4) w) x.1 x.2.1 x.2.2.1 x.2.2.2.1 x.2.2.2.2.1 x.2.2.2.2.2.1 x.2.2.2.2.2.2 w) (by rintro ⟨c0, c1, c2, c3, c4, s0⟩ w ⟨I, μ, h0, h1⟩; refine ⟨fun y w => y.1 = c0 ∧ y.2.1 = c1 ∧ y.2.2.1 = c2 ∧ y.2.2.2.1 = c3 ∧ y.2.2.2.2.1 = c4 ∧ I y.2.2.2.2.2 w, fun y w => μ y.2.2.2.2.2 w, ⟨rfl, rfl, rfl, rfl, rfl, h0⟩, ?_⟩; rintro ⟨d0, d1, d2, d3, d4, t0⟩ w ⟨e0, e1, e2, e3, e4, hI⟩; dsimp only at e0 e1 e2 e3 e4 hI; subst e0; subst e1; subst e2; subst e3; subst e4; exact h1 _ _ hI) (fun _ _ => by kernel_rfl)))) mkLeaf)) mkLeaf))) (mkSeq (mkCnd mkLeaf mkLeaf) mkLeaf))) (fun x w => trystlaw19_RatchetPast.l2 R x.1 x.2.1 x.2.2.1 x.2.2.2.1 x.2.2.2.2 w) (by rintro ⟨c0, c1, c2, c3, s0⟩ w ⟨I, μ, h0, h1⟩; refine ⟨fun y w => y.1 = c0 ∧ y.2.1 = c1 ∧ y.2.2.1 = c2 ∧ y.2.2.2.1 = c3 ∧ I y.2.2.2.2 w, fun y w => μ y.2.2.2.2 w, ⟨rfl, rfl, rfl, rfl, h0⟩, ?_⟩; rintro ⟨d0, d1, d2, d3, t0⟩ w ⟨e0, e1, e2, e3, hI⟩; dsimp only at e0 e1 e2 e3 hI; subst e0; subst e1; subst e2; subst e3; exact h1 _ _ hI) (fun _ _ => by kernel_rfl)))) mkLeaf)) (mkSeq (mkCnd (mkSeq mkLeaf mkLeaf) mkLeaf) mkLeaf)) mkLeaf)) (mkSeq (mkBlock (mkLoop (loopDef LfYtoclhecldmahiaaDoor.mixed [(0, (.int .i64)), (5, .ptr), (8, .slice), (15, .addr), (20, .slice), (21, (.int .i64))] (by kernel_rfl) (fun M6 x w => trystlaw19_RatchetPast.b6 R (fun y0 y1 y2 y3 y4 y5 w => M6 (y0, y1, y2, y3, y4, y5) w) x.1 x.2.1 x.2.2.1 x.2.2.2.1 x.2.2.2.2.1 x.2.2.2.2.2 w) (fun M6 => fun _ _ _ => False) (fun _ _ _ => by kernel_rfl) (fun M6 => (mkSeq (mkSeq mkLeaf (mkBlock mkLeaf)) (mkSeq (mkCnd mkLeaf mkLeaf) mkLeaf))) (fun x w => trystlaw19_RatchetPast.l6 R x.1 x.2.1 x.2.2.1 x.2.2.2.1 x.2.2.2.2.1 x.2.2.2.2.2 w) (by rintro ⟨c0, c1, c2, c3, s0⟩ w ⟨I, μ, h0, h1⟩; refine ⟨fun y w => y.1 = c0 ∧ y.2.1 = c1 ∧ y.2.2.1 = c2 ∧ y.2.2.2.1 = c3 ∧ I y.2.2.2.2 w, fun y w => μ y.2.2.2.2 w, ⟨rfl, rfl, rfl, rfl, h0⟩, ?_⟩; rintro ⟨d0, d1, d2, d3, t0⟩ w ⟨e0, e1, e2, e3, hI⟩; dsimp only at e0 e1 e2 e3 hI; subst e0; subst e1; subst e2; subst e3; exact h1 _ _ hI) (fun _ _ => by kernel_rfl)))) mkLeaf)) mkLeaf)) (mkSeq (mkBlock (mkLoop (loopDef LfYtoclhecldmahiaaDoor.mixed [(0, (.int .i64)), (1, .slice), (5, .ptr), (8, .slice), (15, .addr), (16, (.int .i64))] (by kernel_rfl) (fun M8 x w => trystlaw19_RatchetPast.b8 R (fun y0 y1 y2 y3 y4 y5 w => M8 (y0, y1, y2, y3, y4, y5) w) x.1 x.2.1 x.2.2.1 x.2.2.2.1 x.2.2.2.2.1 x.2.2.2.2.2 w) (fun M8 => fun _ _ _ => False) (fun _ _ _ => by kernel_rfl) (fun M8 => (mkSeq (mkSeq mkLeaf (mkBlock (mkSeq (mkSeq (mkCnd mkLeaf mkLeaf) mkLeaf) mkLeaf))) (mkSeq (mkCnd mkLeaf mkLeaf) mkLeaf))) (fun x w => trystlaw19_RatchetPast.l8 R x.1 x.2.1 x.2.2.1 x.2.2.2.1 x.2.2.2.2.1 x.2.2.2.2.2 w) (by rintro ⟨c0, c1, c2, c3, c4, s0⟩ w ⟨I, μ, h0, h1⟩; refine ⟨fun y w => y.1 = c0 ∧ y.2.1 = c1 ∧ y.2.2.1 = c2 ∧ y.2.2.2.1 = c3 ∧ y.2.2.2.2.1 = c4 ∧ I y.2.2.2.2.2 w, fun y w => μ y.2.2.2.2.2 w, ⟨rfl, rfl, rfl, rfl, rfl, h0⟩, ?_⟩; rintro ⟨d0, d1, d2, d3, d4, t0⟩ w ⟨e0, e1, e2, e3, e4, hI⟩; dsimp only at e0 e1 e2 e3 e4 hI; subst e0; subst e1; subst e2; subst e3; subst e4; exact h1 _ _ hI) (fun _ _ => by kernel_rfl)))) mkLeaf)) mkLeaf)) (mkSeq (mkBlock (mkLoop (loopDef LfYtoclhecldmahiaaDoor.mixed [(0, (.int .i64)), (1, .slice), (5, .ptr), (6, (.int .i64)), (9, .addr), (8, .slice), (10, (.int .i64))] (by kernel_rfl) (fun M10 x w => trystlaw19_RatchetPast.b10 R (fun y0 y1 y2 y3 y4 y5 y6 w => M10 (y0, y1, y2, y3, y4, y5, y6) w) x.1 x.2.1 x.2.2.1 x.2.2.2.1 x.2.2.2.2.1 x.2.2.2.2.2.1 x.2.2.2.2.2.2 w) (fun M10 => fun _ _ _ => False) (fun _ _ _ => by kernel_rfl) (fun M10 => (mkSeq (mkSeq mkLeaf (mkBlock (mkSeq (mkSeq mkLeaf (mkSeq (mkCnd (mkSeq mkLeaf mkLeaf) mkLeaf) mkLeaf)) mkLeaf))) (mkSeq (mkCnd mkLeaf mkLeaf) mkLeaf))) (fun x w => trystlaw19_RatchetPast.l10 R x.1 x.2.1 x.2.2.1 x.2.2.2.1 x.2.2.2.2.1 x.2.2.2.2.2.1 x.2.2.2.2.2.2 w) (by rintro ⟨c0, c1, c2, c3, c4, s0⟩ w ⟨I, μ, h0, h1⟩; refine ⟨fun y w => y.1 = c0 ∧ y.2.1 = c1 ∧ y.2.2.1 = c2 ∧ y.2.2.2.1 = c3 ∧ y.2.2.2.2.1 = c4 ∧ I y.2.2.2.2.2 w, fun y w => μ y.2.2.2.2.2 w, ⟨rfl, rfl, rfl, rfl, rfl, h0⟩, ?_⟩; rintro ⟨d0, d1, d2, d3, d4, t0⟩ w ⟨e0, e1, e2, e3, e4, hI⟩; dsimp only at e0 e1 e2 e3 e4 hI; subst e0; subst e1; subst e2; subst e3; subst e4; exact h1 _ _ hI) (fun _ _ => by kernel_rfl)))) mkLeaf)) mkLeaf) mkLeaf) (mkSeq (mkCnd (mkSeq mkLeaf mkLeaf) mkLeaf) mkLeaf)) mkLeaf) (mkSeq (mkCnd (mkSeq mkLeaf mkLeaf) mkLeaf) mkLeaf)) mkLeaf)) (mkSeq (mkCnd (mkSeq mkLeaf mkLeaf) mkLeaf) mkLeaf)) mkLeaf) (kcast (by kernel_rfl) h)

end Go.Proofs.YtoclhecldmahiaaDoor
