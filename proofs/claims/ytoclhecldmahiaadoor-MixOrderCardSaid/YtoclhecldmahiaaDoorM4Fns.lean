/-
  What the code of these functions comes to, and that it suffices for the call. Written by a program of ours, for this claim.
-/
import Derived.Test.YtoclhecldmahiaaDoorM3Fns
set_option linter.unusedVariables false
set_option linter.unusedVariables false
namespace Go.Proofs.YtoclhecldmahiaaDoor
open Go.Lf
abbrev n_trystlaw24_MixOrder : Nat := 21
/-! trystlaw24_MixOrder -/
def trystlaw24_MixOrder.c1 (R : Value → World → Prop) (w : World) : Prop :=
  CallsV Tryd.prog n_trystlaw24_wakes #[] w (fun v_1 w1 =>
  ∃ b_2 : Bool, v_1 = .bool b_2 ∧
  R (.bool b_2) w1)

def trystlaw24_MixOrder.c3 (R : Value → World → Prop) (N2 : Option Addr → Sl → Sl → Sl → Int → World → Prop) (p5 : Option Addr) (want11 : Sl) (keys12 : Sl) (out23 : Sl) (i25 : Int) (x26 : Int) (w : World) : Prop :=
  0 ≤ (i25 : Int) ∧ i25 < ((want11.len : Nat) : Int) ∧ ∃ q_3 : Addr, want11.a = some q_3 ∧
  ∃ x_4 : Int, w.cell? (q_3.add (i25 : Int).toNat) = some (.int .i64 x_4) ∧
  cond ((x26 : Int) != x_4)
  (R (.bool false) w)
  ((let i25_4 : Int := (IntKind.i64.wrap (i25 + 1));
  N2 p5 want11 keys12 out23 i25_4 w))

def trystlaw24_MixOrder.c5 (R : Value → World → Prop) (N2 : Option Addr → Sl → Sl → Sl → Int → World → Prop) (N4 : Option Addr → Sl → Sl → Sl → Int → Int → Int → World → Prop) (p5 : Option Addr) (want11 : Sl) (keys12 : Sl) (out23 : Sl) (i25 : Int) (s27 : Int) (y28 : Sl) (w : World) : Prop :=
  0 ≤ (0 : Int) ∧ 0 < ((y28.len : Nat) : Int) ∧ ∃ q_6 : Addr, y28.a = some q_6 ∧
  ∃ x_7 : Int, w.cell? (q_6.add (0 : Int).toNat) = some (.int .i64 x_7) ∧
  (let s27_7 : Int := (IntKind.i64.wrap (s27 + 1));
  N4 p5 want11 keys12 out23 i25 x_7 s27_7 w)

def trystlaw24_MixOrder.b4 (R : Value → World → Prop) (N2 : Option Addr → Sl → Sl → Sl → Int → World → Prop) (N4 : Option Addr → Sl → Sl → Sl → Int → Int → Int → World → Prop) (p5 : Option Addr) (want11 : Sl) (keys12 : Sl) (out23 : Sl) (i25 : Int) (x26 : Int) (s27 : Int) (w : World) : Prop :=
  cond (decide ((s27 : Int) < 3))
  (∃ S_9 : World → Prop, S_9 w.drew ∧
  ∃ q_10 : Addr, p5 = some q_10 ∧
  ∃ p_11 : Option Addr, (∀ x, S_9 x → x.cell? q_10 = some (.pointer p_11)) ∧
  0 ≤ (i25 : Int) ∧ i25 < ((keys12.len : Nat) : Int) ∧ ∃ q_12 : Addr, keys12.a = some q_12 ∧
  ∃ (a_13 : Option Addr) (l_14 c_15 : Nat), (∀ x, S_9 x → x.cell? (q_12.add (i25 : Int).toNat) = some (.slice a_13 l_14 c_15)) ∧
  0 ≤ (s27 : Int) ∧ s27 < ((l_14 : Nat) : Int) ∧ ∃ q_16 : Addr, a_13 = some q_16 ∧
  ∃ x_17 : Int, (∀ x, S_9 x → x.cell? (q_16.add (s27 : Int).toNat) = some (.int .i64 x_17)) ∧
  CallsV Tryd.prog n_term_Arena_Open #[.pointer p_11, .int .i64 x26, .int .i64 x_17] w.drew (fun v_18 w2 =>
  ∃ (a_19 : Option Addr) (l_20 c_21 : Nat), ∃ x_22 : Int, v_18 = .tuple #[.slice a_19 l_20 c_21, .int .i64 x_22] ∧
  cond ((x_22 : Int) != 0)
  (R (.bool false) w2)
  (cond ((((l_20 : Nat) : Int) : Int) != 1)
  (R (.bool false) w2)
  (trystlaw24_MixOrder.c5 R N2 N4 p5 want11 keys12 out23 i25 s27 ⟨a_19, l_20, c_21⟩ w2))))
  (trystlaw24_MixOrder.c3 R N2 p5 want11 keys12 out23 i25 x26 w)

def trystlaw24_MixOrder.l4 (R : Value → World → Prop) (N2 : Option Addr → Sl → Sl → Sl → Int → World → Prop) (p5 : Option Addr) (want11 : Sl) (keys12 : Sl) (out23 : Sl) (i25 : Int) (x26 : Int) (s27 : Int) (w : World) : Prop :=
  ∃ (I : (Int × Int) → World → Prop) (μ : (Int × Int) → World → Nat), I (x26, s27) w ∧ ∀ s w, I s w → trystlaw24_MixOrder.b4 R N2 (fun p5' want11' keys12' out23' i25' x26' s27' w' => (p5' = p5 ∧ want11' = want11 ∧ keys12' = keys12 ∧ out23' = out23 ∧ i25' = i25 ∧ I (x26', s27') w') ∧ μ (x26', s27') w' < μ s w) p5 want11 keys12 out23 i25 s.1 s.2 w

def trystlaw24_MixOrder.b2 (R : Value → World → Prop) (N2 : Option Addr → Sl → Sl → Sl → Int → World → Prop) (p5 : Option Addr) (want11 : Sl) (keys12 : Sl) (out23 : Sl) (i25 : Int) (w : World) : Prop :=
  cond (decide ((i25 : Int) < ((out23.len : Nat) : Int)))
  (0 ≤ (i25 : Int) ∧ i25 < ((out23.len : Nat) : Int) ∧ ∃ q_23 : Addr, out23.a = some q_23 ∧
  ∃ x_24 : Int, w.cell? (q_23.add (i25 : Int).toNat) = some (.int .i64 x_24) ∧
  trystlaw24_MixOrder.l4 R N2 p5 want11 keys12 out23 i25 x_24 0 w)
  (trystlaw24_MixOrder.c1 R w)

def trystlaw24_MixOrder.l2 (R : Value → World → Prop) (p5 : Option Addr) (want11 : Sl) (keys12 : Sl) (out23 : Sl) (i25 : Int) (w : World) : Prop :=
  ∃ (I : Int → World → Prop) (μ : Int → World → Nat), I i25 w ∧ ∀ s w, I s w → trystlaw24_MixOrder.b2 R (fun p5' want11' keys12' out23' i25' w' => (p5' = p5 ∧ want11' = want11 ∧ keys12' = keys12 ∧ out23' = out23 ∧ I i25' w') ∧ μ i25' w' < μ s w) p5 want11 keys12 out23 s w

def trystlaw24_MixOrder.c6 (R : Value → World → Prop) (p5 : Option Addr) (want11 : Sl) (keys12 : Sl) (out23 : Sl) (w : World) : Prop :=
  trystlaw24_MixOrder.l2 R p5 want11 keys12 out23 0 w

def trystlaw24_MixOrder.c7 (R : Value → World → Prop) (p5 : Option Addr) (in10 : Sl) (want11 : Sl) (keys12 : Sl) (out23 : Sl) (e24 : Int) (w : World) : Prop :=
  cond ((e24 : Int) != 0)
  (R (.bool false) w)
  (cond ((((out23.len : Nat) : Int) : Int) != ((in10.len : Nat) : Int))
  (R (.bool false) w)
  (trystlaw24_MixOrder.c6 R p5 want11 keys12 out23 w))

def trystlaw24_MixOrder.c8 (R : Value → World → Prop) (p5 : Option Addr) (secrets8 : Sl) (in10 : Sl) (want11 : Sl) (keys12 : Sl) (l20 : Sl) (w : World) : Prop :=
  ∃ S_25 : World → Prop, S_25 w.drew ∧
  ∃ q_26 : Addr, p5 = some q_26 ∧
  ∃ p_27 : Option Addr, (∀ x, S_25 x → x.cell? q_26 = some (.pointer p_27)) ∧
  (CallsV Tryd.prog n_trystlaw10_Pair_Ts #[.pointer p5, .slice secrets8.a secrets8.len secrets8.cap] w.drew (fun v_28 w3 =>
  ∃ (a_29 : Option Addr) (l_30 c_31 : Nat), v_28 = .slice a_29 l_30 c_31 ∧
  S_25 w3 ∧
  (CallsV Tryd.prog n_mix_Round #[.pointer p_27, .agg #[.slice none 0 0, .slice none 0 0, .slice none 0 0, .slice none 0 0], .slice a_29 l_30 c_31, .slice in10.a in10.len in10.cap, .slice l20.a l20.len l20.cap] w3 (fun v_32 w4 =>
  ∃ (a_33 : Option Addr) (l_34 c_35 : Nat), ∃ (a_36 : Option Addr) (l_37 c_38 : Nat), ∃ (a_39 : Option Addr) (l_40 c_41 : Nat), ∃ (a_42 : Option Addr) (l_43 c_44 : Nat), ∃ (a_45 : Option Addr) (l_46 c_47 : Nat), ∃ x_48 : Int, v_32 = .tuple #[.agg #[.slice a_33 l_34 c_35, .slice a_36 l_37 c_38, .slice a_39 l_40 c_41, .slice a_42 l_43 c_44], .slice a_45 l_46 c_47, .int .i64 x_48] ∧
  let w5 := w4.alloc (.cells #[.slice none 0 0, .slice none 0 0, .slice none 0 0, .slice none 0 0] 127);
  (∀ j, j < 4 → Wr w5 ((newA w4).add j)) ∧
  (let w6 := setCells (newA w4) [.slice a_33 l_34 c_35, .slice a_36 l_37 c_38, .slice a_39 l_40 c_41, .slice a_42 l_43 c_44] 0 w5;
  trystlaw24_MixOrder.c7 R p5 in10 want11 keys12 ⟨a_45, l_46, c_47⟩ x_48 w6))) ∧
  (let w7 := w3.alloc (.cells #[.slice none 0 0, .slice none 0 0, .slice none 0 0, .slice none 0 0] 127);
  S_25 w7 ∧
  CallsV Tryd.prog n_mix_Round #[.pointer p_27, .agg #[.slice none 0 0, .slice none 0 0, .slice none 0 0, .slice none 0 0], .slice a_29 l_30 c_31, .slice in10.a in10.len in10.cap, .slice l20.a l20.len l20.cap] w7 (fun v_49 w8 =>
  ∃ (a_50 : Option Addr) (l_51 c_52 : Nat), ∃ (a_53 : Option Addr) (l_54 c_55 : Nat), ∃ (a_56 : Option Addr) (l_57 c_58 : Nat), ∃ (a_59 : Option Addr) (l_60 c_61 : Nat), ∃ (a_62 : Option Addr) (l_63 c_64 : Nat), ∃ x_65 : Int, v_49 = .tuple #[.agg #[.slice a_50 l_51 c_52, .slice a_53 l_54 c_55, .slice a_56 l_57 c_58, .slice a_59 l_60 c_61], .slice a_62 l_63 c_64, .int .i64 x_65] ∧
  (∀ j, j < 4 → Wr w8 ((newA w3).add j)) ∧
  (let w9 := setCells (newA w3) [.slice a_50 l_51 c_52, .slice a_53 l_54 c_55, .slice a_56 l_57 c_58, .slice a_59 l_60 c_61] 0 w8;
  trystlaw24_MixOrder.c7 R p5 in10 want11 keys12 ⟨a_62, l_63, c_64⟩ x_65 w9))))) ∧
  (let w10 := w.drew.alloc (.cells #[.slice none 0 0, .slice none 0 0, .slice none 0 0, .slice none 0 0] 127);
  S_25 w10 ∧
  CallsV Tryd.prog n_trystlaw10_Pair_Ts #[.pointer p5, .slice secrets8.a secrets8.len secrets8.cap] w10 (fun v_66 w11 =>
  ∃ (a_67 : Option Addr) (l_68 c_69 : Nat), v_66 = .slice a_67 l_68 c_69 ∧
  S_25 w11 ∧
  CallsV Tryd.prog n_mix_Round #[.pointer p_27, .agg #[.slice none 0 0, .slice none 0 0, .slice none 0 0, .slice none 0 0], .slice a_67 l_68 c_69, .slice in10.a in10.len in10.cap, .slice l20.a l20.len l20.cap] w11 (fun v_70 w12 =>
  ∃ (a_71 : Option Addr) (l_72 c_73 : Nat), ∃ (a_74 : Option Addr) (l_75 c_76 : Nat), ∃ (a_77 : Option Addr) (l_78 c_79 : Nat), ∃ (a_80 : Option Addr) (l_81 c_82 : Nat), ∃ (a_83 : Option Addr) (l_84 c_85 : Nat), ∃ x_86 : Int, v_70 = .tuple #[.agg #[.slice a_71 l_72 c_73, .slice a_74 l_75 c_76, .slice a_77 l_78 c_79, .slice a_80 l_81 c_82], .slice a_83 l_84 c_85, .int .i64 x_86] ∧
  (∀ j, j < 4 → Wr w12 ((newA w.drew).add j)) ∧
  (let w13 := setCells (newA w.drew) [.slice a_71 l_72 c_73, .slice a_74 l_75 c_76, .slice a_77 l_78 c_79, .slice a_80 l_81 c_82] 0 w12;
  trystlaw24_MixOrder.c7 R p5 in10 want11 keys12 ⟨a_83, l_84, c_85⟩ x_86 w13))))

def trystlaw24_MixOrder.b9 (R : Value → World → Prop) (N9 : Int → Sl → Option Addr → Sl → Sl → Sl → Sl → Sl → Int → World → Prop) (pairs0 : Int) (perms1 : Sl) (p5 : Option Addr) (secrets8 : Sl) (in10 : Sl) (want11 : Sl) (keys12 : Sl) (l20 : Sl) (i21 : Int) (w : World) : Prop :=
  cond (decide ((i21 : Int) < 3))
  (0 ≤ (i21 : Int) ∧ i21 < ((perms1.len : Nat) : Int) ∧ ∃ q_87 : Addr, perms1.a = some q_87 ∧
  ∃ (a_88 : Option Addr) (l_89 c_90 : Nat), w.cell? (q_87.add (i21 : Int).toNat) = some (.slice a_88 l_89 c_90) ∧
  CallsV Tryd.prog n_trystlaw24_perm #[.slice a_88 l_89 c_90, .int .i64 (IntKind.i64.wrap (2 * pairs0)), .bool false] w (fun v_91 w14 =>
  ∃ (a_92 : Option Addr) (l_93 c_94 : Nat), v_91 = .slice a_92 l_93 c_94 ∧
  let w15 := w14.alloc (.cells #[.slice a_92 l_93 c_94] 29);
  ∃ (a_95 : Option Addr) (l_96 c_97 : Nat), ∃ w16 : World, (builtin .append #[128, 128] 128 #[] #[.slice l20.a l20.len l20.cap, .slice (some (newA w14)) 1 1]).run Tryd.prog w15 = .ok (.value (.slice a_95 l_96 c_97)) w16 ∧
  (let i21_97 : Int := (IntKind.i64.wrap (i21 + 1));
  N9 pairs0 perms1 p5 secrets8 in10 want11 keys12 ⟨a_95, l_96, c_97⟩ i21_97 w16)))
  (trystlaw24_MixOrder.c8 R p5 secrets8 in10 want11 keys12 l20 w)

def trystlaw24_MixOrder.l9 (R : Value → World → Prop) (pairs0 : Int) (perms1 : Sl) (p5 : Option Addr) (secrets8 : Sl) (in10 : Sl) (want11 : Sl) (keys12 : Sl) (l20 : Sl) (i21 : Int) (w : World) : Prop :=
  ∃ (I : (Sl × Int) → World → Prop) (μ : (Sl × Int) → World → Nat), I (l20, i21) w ∧ ∀ s w, I s w → trystlaw24_MixOrder.b9 R (fun pairs0' perms1' p5' secrets8' in10' want11' keys12' l20' i21' w' => (pairs0' = pairs0 ∧ perms1' = perms1 ∧ p5' = p5 ∧ secrets8' = secrets8 ∧ in10' = in10 ∧ want11' = want11 ∧ keys12' = keys12 ∧ I (l20', i21') w') ∧ μ (l20', i21') w' < μ s w) pairs0 perms1 p5 secrets8 in10 want11 keys12 s.1 s.2 w

def trystlaw24_MixOrder.c10 (R : Value → World → Prop) (pairs0 : Int) (perms1 : Sl) (p5 : Option Addr) (secrets8 : Sl) (in10 : Sl) (want11 : Sl) (keys12 : Sl) (w : World) : Prop :=
  trystlaw24_MixOrder.l9 R pairs0 perms1 p5 secrets8 in10 want11 keys12 ⟨none, 0, 0⟩ 0 w

def trystlaw24_MixOrder.b11 (R : Value → World → Prop) (N11 : Int → Sl → Option Addr → Option Addr → Sl → Sl → Sl → Sl → Sl → Int → World → Prop) (pairs0 : Int) (perms1 : Sl) (p5 : Option Addr) (b7 : Option Addr) (secrets8 : Sl) (pubs9 : Sl) (in10 : Sl) (want11 : Sl) (keys12 : Sl) (i15 : Int) (w : World) : Prop :=
  cond (decide ((i15 : Int) < (IntKind.i64.wrap (2 * pairs0))))
  ((2 : Int) ≠ 0 ∧
  CallsV Tryd.prog n_trystref10_Arena_Make #[.pointer b7, .int .i64 1, .int .i64 (IntKind.i64.wrap (100 + (IntKind.i64.wrap (Int.tdiv i15 2)))), .slice none 0 0] w (fun v_99 w17 =>
  ∃ x_100 : Int, v_99 = .int .i64 x_100 ∧
  CallsV Tryd.prog n_trystref10_Arena_Make #[.pointer b7, .int .i64 1, .int .i64 (IntKind.i64.wrap (200 + i15)), .slice none 0 0] w17 (fun v_101 w18 =>
  ∃ x_102 : Int, v_101 = .int .i64 x_102 ∧
  CallsV Tryd.prog n_trystref10_Arena_Make #[.pointer b7, .int .i64 1, .int .i64 (IntKind.i64.wrap (300 + i15)), .slice none 0 0] w18 (fun v_103 w19 =>
  ∃ x_104 : Int, v_103 = .int .i64 x_104 ∧
  CallsV Tryd.prog n_trystref10_Arena_Word #[.pointer b7, .int .i64 73] w19 (fun v_105 w20 =>
  ∃ x_106 : Int, v_105 = .int .i64 x_106 ∧
  let w21 := w20.alloc (.cells #[.int .i64 x_106, .int .i64 x_100, .int .i64 x_102] 3);
  CallsV Tryd.prog n_trystref10_Arena_Make #[.pointer b7, .int .i64 9, .int .i64 0, .slice (some (newA w20)) 3 3] w21 (fun v_107 w22 =>
  ∃ x_108 : Int, v_107 = .int .i64 x_108 ∧
  CallsV Tryd.prog n_trystref22_Wrap #[.pointer b7, .slice pubs9.a pubs9.len pubs9.cap, .int .i64 x_104, .int .i64 x_108] w22 (fun v_109 w23 =>
  ∃ x_110 : Int, ∃ (a_111 : Option Addr) (l_112 c_113 : Nat), v_109 = .tuple #[.int .i64 x_110, .slice a_111 l_112 c_113] ∧
  CallsV Tryd.prog n_trystlaw10_Pair_T #[.pointer p5, .int .i64 x_110] w23 (fun v_114 w24 =>
  ∃ x_115 : Int, v_114 = .int .i64 x_115 ∧
  let w25 := w24.alloc (.cells #[.int .i64 x_115] 3);
  ∃ (a_116 : Option Addr) (l_117 c_118 : Nat), ∃ w26 : World, (builtin .append #[29, 29] 29 #[] #[.slice in10.a in10.len in10.cap, .slice (some (newA w24)) 1 1]).run Tryd.prog w25 = .ok (.value (.slice a_116 l_117 c_118)) w26 ∧
  CallsV Tryd.prog n_trystlaw10_Pair_Ts #[.pointer p5, .slice a_111 l_112 c_113] w26 (fun v_119 w27 =>
  ∃ (a_120 : Option Addr) (l_121 c_122 : Nat), v_119 = .slice a_120 l_121 c_122 ∧
  let w28 := w27.alloc (.cells #[.slice a_120 l_121 c_122] 29);
  ∃ (a_123 : Option Addr) (l_124 c_125 : Nat), ∃ w29 : World, (builtin .append #[128, 128] 128 #[] #[.slice keys12.a keys12.len keys12.cap, .slice (some (newA w27)) 1 1]).run Tryd.prog w28 = .ok (.value (.slice a_123 l_124 c_125)) w29 ∧
  CallsV Tryd.prog n_trystref10_Arena_Make #[.pointer b7, .int .i64 1, .int .i64 (IntKind.i64.wrap (200 + (Go.bits BinOp.xor .i64 i15 1))), .slice none 0 0] w29 (fun v_126 w30 =>
  ∃ x_127 : Int, v_126 = .int .i64 x_127 ∧
  CallsV Tryd.prog n_trystlaw10_Pair_T #[.pointer p5, .int .i64 x_127] w30 (fun v_128 w31 =>
  ∃ x_129 : Int, v_128 = .int .i64 x_129 ∧
  let w32 := w31.alloc (.cells #[.int .i64 x_129] 3);
  ∃ (a_130 : Option Addr) (l_131 c_132 : Nat), ∃ w33 : World, (builtin .append #[29, 29] 29 #[] #[.slice want11.a want11.len want11.cap, .slice (some (newA w31)) 1 1]).run Tryd.prog w32 = .ok (.value (.slice a_130 l_131 c_132)) w33 ∧
  (let i15_132 : Int := (IntKind.i64.wrap (i15 + 1));
  N11 pairs0 perms1 p5 b7 secrets8 pubs9 ⟨a_116, l_117, c_118⟩ ⟨a_130, l_131, c_132⟩ ⟨a_123, l_124, c_125⟩ i15_132 w33))))))))))))
  (trystlaw24_MixOrder.c10 R pairs0 perms1 p5 secrets8 in10 want11 keys12 w)

def trystlaw24_MixOrder.l11 (R : Value → World → Prop) (pairs0 : Int) (perms1 : Sl) (p5 : Option Addr) (b7 : Option Addr) (secrets8 : Sl) (pubs9 : Sl) (in10 : Sl) (want11 : Sl) (keys12 : Sl) (i15 : Int) (w : World) : Prop :=
  ∃ (I : (Sl × Sl × Sl × Int) → World → Prop) (μ : (Sl × Sl × Sl × Int) → World → Nat), I (in10, want11, keys12, i15) w ∧ ∀ s w, I s w → trystlaw24_MixOrder.b11 R (fun pairs0' perms1' p5' b7' secrets8' pubs9' in10' want11' keys12' i15' w' => (pairs0' = pairs0 ∧ perms1' = perms1 ∧ p5' = p5 ∧ b7' = b7 ∧ secrets8' = secrets8 ∧ pubs9' = pubs9 ∧ I (in10', want11', keys12', i15') w') ∧ μ (in10', want11', keys12', i15') w' < μ s w) pairs0 perms1 p5 b7 secrets8 pubs9 s.1 s.2.1 s.2.2.1 s.2.2.2 w

def trystlaw24_MixOrder.c12 (R : Value → World → Prop) (pairs0 : Int) (perms1 : Sl) (p5 : Option Addr) (b7 : Option Addr) (secrets8 : Sl) (pubs9 : Sl) (in10 : Sl) (want11 : Sl) (keys12 : Sl) (w : World) : Prop :=
  trystlaw24_MixOrder.l11 R pairs0 perms1 p5 b7 secrets8 pubs9 in10 want11 keys12 0 w

def trystlaw24_MixOrder.b13 (R : Value → World → Prop) (N13 : Int → Sl → Option Addr → Option Addr → Sl → Sl → Sl → Sl → Sl → Int → World → Prop) (pairs0 : Int) (perms1 : Sl) (p5 : Option Addr) (b7 : Option Addr) (in10 : Sl) (want11 : Sl) (keys12 : Sl) (secrets8 : Sl) (pubs9 : Sl) (i13 : Int) (w : World) : Prop :=
  cond (decide ((i13 : Int) < 3))
  (CallsV Tryd.prog n_trystref10_Arena_Make #[.pointer b7, .int .i64 1, .int .i64 (IntKind.i64.wrap (9000 + i13)), .slice none 0 0] w (fun v_134 w34 =>
  ∃ x_135 : Int, v_134 = .int .i64 x_135 ∧
  let w35 := w34.alloc (.cells #[.int .i64 x_135] 3);
  ∃ (a_136 : Option Addr) (l_137 c_138 : Nat), ∃ w36 : World, (builtin .append #[29, 29] 29 #[] #[.slice secrets8.a secrets8.len secrets8.cap, .slice (some (newA w34)) 1 1]).run Tryd.prog w35 = .ok (.value (.slice a_136 l_137 c_138)) w36 ∧
  CallsV Tryd.prog n_trystref10_Arena_Pub #[.pointer b7, .int .i64 x_135] w36 (fun v_139 w37 =>
  ∃ x_140 : Int, v_139 = .int .i64 x_140 ∧
  let w38 := w37.alloc (.cells #[.int .i64 x_140] 3);
  ∃ (a_141 : Option Addr) (l_142 c_143 : Nat), ∃ w39 : World, (builtin .append #[29, 29] 29 #[] #[.slice pubs9.a pubs9.len pubs9.cap, .slice (some (newA w37)) 1 1]).run Tryd.prog w38 = .ok (.value (.slice a_141 l_142 c_143)) w39 ∧
  0 ≤ (i13 : Int) ∧ i13 < ((perms1.len : Nat) : Int) ∧ ∃ q_144 : Addr, perms1.a = some q_144 ∧
  ∃ (a_145 : Option Addr) (l_146 c_147 : Nat), w39.cell? (q_144.add (i13 : Int).toNat) = some (.slice a_145 l_146 c_147) ∧
  cond (decide ((((l_146 : Nat) : Int) : Int) > 100))
  (R (.bool true) w39)
  ((let i13_147 : Int := (IntKind.i64.wrap (i13 + 1));
  N13 pairs0 perms1 p5 b7 in10 want11 keys12 ⟨a_136, l_137, c_138⟩ ⟨a_141, l_142, c_143⟩ i13_147 w39)))))
  (trystlaw24_MixOrder.c12 R pairs0 perms1 p5 b7 secrets8 pubs9 in10 want11 keys12 w)

def trystlaw24_MixOrder.l13 (R : Value → World → Prop) (pairs0 : Int) (perms1 : Sl) (p5 : Option Addr) (b7 : Option Addr) (in10 : Sl) (want11 : Sl) (keys12 : Sl) (secrets8 : Sl) (pubs9 : Sl) (i13 : Int) (w : World) : Prop :=
  ∃ (I : (Sl × Sl × Int) → World → Prop) (μ : (Sl × Sl × Int) → World → Nat), I (secrets8, pubs9, i13) w ∧ ∀ s w, I s w → trystlaw24_MixOrder.b13 R (fun pairs0' perms1' p5' b7' in10' want11' keys12' secrets8' pubs9' i13' w' => (pairs0' = pairs0 ∧ perms1' = perms1 ∧ p5' = p5 ∧ b7' = b7 ∧ in10' = in10 ∧ want11' = want11 ∧ keys12' = keys12 ∧ I (secrets8', pubs9', i13') w') ∧ μ (secrets8', pubs9', i13') w' < μ s w) pairs0 perms1 p5 b7 in10 want11 keys12 s.1 s.2.1 s.2.2 w

def trystlaw24_MixOrder.main (R : Value → World → Prop) (pairs0 : Int) (perms1 : Sl) (w : World) : Prop :=
  (6 : Int) ≠ 0 ∧
  (let pairs0_148 : Int := (IntKind.i64.wrap (1 + (IntKind.i64.wrap (Int.tmod (IntKind.u64.wrap pairs0) 6))));
  cond ((((perms1.len : Nat) : Int) : Int) != 3)
  (R (.bool true) w)
  (CallsV Tryd.prog n_trystlaw10_Pairs #[.slice none 0 0] w (fun v_150 w40 =>
  ∃ p_151 : Option Addr, ∃ b_152 : Bool, v_150 = .tuple #[.pointer p_151, .bool b_152] ∧
  cond (!b_152)
  (R (.bool false) w40)
  (∃ q_153 : Addr, p_151 = some q_153 ∧
  ∃ p_154 : Option Addr, w40.cell? (q_153.add 1) = some (.pointer p_154) ∧
  trystlaw24_MixOrder.l13 R pairs0_148 perms1 p_151 p_154 ⟨none, 0, 0⟩ ⟨none, 0, 0⟩ ⟨none, 0, 0⟩ ⟨none, 0, 0⟩ ⟨none, 0, 0⟩ 0 w40))))

def trystlaw24_MixOrder.J2 (R : Value → World → Prop) (N2 : Option Addr → Sl → Sl → Sl → Int → World → Prop) (k : Nat) (fr : Fr) (w : World) : Prop :=
  cond (Nat.beq k 4) (dec [(5, .ptr), (11, .slice), (12, .slice), (23, .slice), (25, (.int .i64)), (26, (.int .i64)), (27, (.int .i64))] fr fun x => trystlaw24_MixOrder.l4 R N2 x.1 x.2.1 x.2.2.1 x.2.2.2.1 x.2.2.2.2.1 x.2.2.2.2.2.1 x.2.2.2.2.2.2 w) (cond (Nat.beq k 3) (dec [(5, .ptr), (11, .slice), (12, .slice), (23, .slice), (25, (.int .i64)), (26, (.int .i64))] fr fun x => trystlaw24_MixOrder.c3 R N2 x.1 x.2.1 x.2.2.1 x.2.2.2.1 x.2.2.2.2.1 x.2.2.2.2.2 w) (False))

def trystlaw24_MixOrder.J4 (R : Value → World → Prop) (N2 : Option Addr → Sl → Sl → Sl → Int → World → Prop) (N4 : Option Addr → Sl → Sl → Sl → Int → Int → Int → World → Prop) (k : Nat) (fr : Fr) (w : World) : Prop :=
  cond (Nat.beq k 5) (dec [(5, .ptr), (11, .slice), (12, .slice), (23, .slice), (25, (.int .i64)), (27, (.int .i64)), (28, .slice)] fr fun x => trystlaw24_MixOrder.c5 R N2 N4 x.1 x.2.1 x.2.2.1 x.2.2.2.1 x.2.2.2.2.1 x.2.2.2.2.2.1 x.2.2.2.2.2.2 w) (False)

def trystlaw24_MixOrder.J0 (R : Value → World → Prop) (k : Nat) (fr : Fr) (w : World) : Prop :=
  cond (Nat.beq k 13) (dec [(0, (.int .i64)), (1, .slice), (5, .ptr), (7, .ptr), (10, .slice), (11, .slice), (12, .slice), (8, .slice), (9, .slice), (13, (.int .i64))] fr fun x => trystlaw24_MixOrder.l13 R x.1 x.2.1 x.2.2.1 x.2.2.2.1 x.2.2.2.2.1 x.2.2.2.2.2.1 x.2.2.2.2.2.2.1 x.2.2.2.2.2.2.2.1 x.2.2.2.2.2.2.2.2.1 x.2.2.2.2.2.2.2.2.2 w) (cond (Nat.beq k 12) (dec [(0, (.int .i64)), (1, .slice), (5, .ptr), (7, .ptr), (8, .slice), (9, .slice), (10, .slice), (11, .slice), (12, .slice)] fr fun x => trystlaw24_MixOrder.c12 R x.1 x.2.1 x.2.2.1 x.2.2.2.1 x.2.2.2.2.1 x.2.2.2.2.2.1 x.2.2.2.2.2.2.1 x.2.2.2.2.2.2.2.1 x.2.2.2.2.2.2.2.2 w) (cond (Nat.beq k 11) (dec [(0, (.int .i64)), (1, .slice), (5, .ptr), (7, .ptr), (8, .slice), (9, .slice), (10, .slice), (11, .slice), (12, .slice), (15, (.int .i64))] fr fun x => trystlaw24_MixOrder.l11 R x.1 x.2.1 x.2.2.1 x.2.2.2.1 x.2.2.2.2.1 x.2.2.2.2.2.1 x.2.2.2.2.2.2.1 x.2.2.2.2.2.2.2.1 x.2.2.2.2.2.2.2.2.1 x.2.2.2.2.2.2.2.2.2 w) (cond (Nat.beq k 10) (dec [(0, (.int .i64)), (1, .slice), (5, .ptr), (8, .slice), (10, .slice), (11, .slice), (12, .slice)] fr fun x => trystlaw24_MixOrder.c10 R x.1 x.2.1 x.2.2.1 x.2.2.2.1 x.2.2.2.2.1 x.2.2.2.2.2.1 x.2.2.2.2.2.2 w) (cond (Nat.beq k 9) (dec [(0, (.int .i64)), (1, .slice), (5, .ptr), (8, .slice), (10, .slice), (11, .slice), (12, .slice), (20, .slice), (21, (.int .i64))] fr fun x => trystlaw24_MixOrder.l9 R x.1 x.2.1 x.2.2.1 x.2.2.2.1 x.2.2.2.2.1 x.2.2.2.2.2.1 x.2.2.2.2.2.2.1 x.2.2.2.2.2.2.2.1 x.2.2.2.2.2.2.2.2 w) (cond (Nat.beq k 8) (dec [(5, .ptr), (8, .slice), (10, .slice), (11, .slice), (12, .slice), (20, .slice)] fr fun x => trystlaw24_MixOrder.c8 R x.1 x.2.1 x.2.2.1 x.2.2.2.1 x.2.2.2.2.1 x.2.2.2.2.2 w) (cond (Nat.beq k 7) (dec [(5, .ptr), (10, .slice), (11, .slice), (12, .slice), (23, .slice), (24, (.int .i64))] fr fun x => trystlaw24_MixOrder.c7 R x.1 x.2.1 x.2.2.1 x.2.2.2.1 x.2.2.2.2.1 x.2.2.2.2.2 w) (cond (Nat.beq k 6) (dec [(5, .ptr), (11, .slice), (12, .slice), (23, .slice)] fr fun x => trystlaw24_MixOrder.c6 R x.1 x.2.1 x.2.2.1 x.2.2.2 w) (cond (Nat.beq k 2) (dec [(5, .ptr), (11, .slice), (12, .slice), (23, .slice), (25, (.int .i64))] fr fun x => trystlaw24_MixOrder.l2 R x.1 x.2.1 x.2.2.1 x.2.2.2.1 x.2.2.2.2 w) (cond (Nat.beq k 1) (dec [] fr fun x => trystlaw24_MixOrder.c1 R w) (False))))))))))

set_option maxRecDepth 100000 in
theorem trystlaw24_MixOrder.lift {R : Value → World → Prop} {pairs0 : Int} {perms1 : Sl} {w : World} (h : trystlaw24_MixOrder.main R pairs0 perms1 w) : CallsV Tryd.prog n_trystlaw24_MixOrder #[.int .i64 pairs0, .slice perms1.a perms1.len perms1.cap] w R :=
  liftCalls (c := (.seq (.leaf (cL (bd Tryd.f21))) (.seq (.leaf (cL (cR (bd Tryd.f21)))) (.seq (.seq (.leaf (cL (cL (cR (cR (bd Tryd.f21)))))) (.cnd (.tmp 37) (.seq (.leaf (cL (cT (cR (cL (cR (cR (bd Tryd.f21)))))))) (.leaf (cR (cT (cR (cL (cR (cR (bd Tryd.f21))))))))) (.leaf (cE (cR (cL (cR (cR (bd Tryd.f21))))))))) (.seq (.leaf (cL (cR (cR (cR (bd Tryd.f21)))))) (.seq (.seq (.leaf (cL (cL (cR (cR (cR (cR (bd Tryd.f21)))))))) (.cnd (.tmp 43) (.seq (.leaf (cL (cT (cR (cL (cR (cR (cR (cR (bd Tryd.f21)))))))))) (.leaf (cR (cT (cR (cL (cR (cR (cR (cR (bd Tryd.f21))))))))))) (.leaf (cE (cR (cL (cR (cR (cR (cR (bd Tryd.f21))))))))))) (.seq (.leaf (cL (cR (cR (cR (cR (cR (bd Tryd.f21)))))))) (.seq (.leaf (cL (cR (cR (cR (cR (cR (cR (bd Tryd.f21))))))))) (.seq (.leaf (cL (cR (cR (cR (cR (cR (cR (cR (bd Tryd.f21)))))))))) (.seq (.seq (.leaf (cL (cL (cR (cR (cR (cR (cR (cR (cR (cR (bd Tryd.f21)))))))))))) (.block 0 (.loop 13 (.seq (.seq (.leaf (cL (cL (cB (cB (cR (cL (cR (cR (cR (cR (cR (cR (cR (cR (bd Tryd.f21)))))))))))))))) (.cnd (.tmp 49) (.leaf (cT (cR (cL (cB (cB (cR (cL (cR (cR (cR (cR (cR (cR (cR (cR (bd Tryd.f21))))))))))))))))) (.leaf (cE (cR (cL (cB (cB (cR (cL (cR (cR (cR (cR (cR (cR (cR (cR (bd Tryd.f21))))))))))))))))))) (.seq (.block 1 (.seq (.leaf (cL (cB (cL (cR (cB (cB (cR (cL (cR (cR (cR (cR (cR (cR (cR (cR (bd Tryd.f21)))))))))))))))))) (.seq (.leaf (cL (cR (cB (cL (cR (cB (cB (cR (cL (cR (cR (cR (cR (cR (cR (cR (cR (bd Tryd.f21))))))))))))))))))) (.seq (.leaf (cL (cR (cR (cB (cL (cR (cB (cB (cR (cL (cR (cR (cR (cR (cR (cR (cR (cR (bd Tryd.f21)))))))))))))))))))) (.cnd (.tmp 71) (.seq (.leaf (cL (cT (cR (cR (cR (cB (cL (cR (cB (cB (cR (cL (cR (cR (cR (cR (cR (cR (cR (cR (bd Tryd.f21)))))))))))))))))))))) (.leaf (cR (cT (cR (cR (cR (cB (cL (cR (cB (cB (cR (cL (cR (cR (cR (cR (cR (cR (cR (cR (bd Tryd.f21))))))))))))))))))))))) (.leaf (cE (cR (cR (cR (cB (cL (cR (cB (cB (cR (cL (cR (cR (cR (cR (cR (cR (cR (cR (bd Tryd.f21)))))))))))))))))))))))))) (.leaf (cR (cR (cB (cB (cR (cL (cR (cR (cR (cR (cR (cR (cR (cR (bd Tryd.f21))))))))))))))))))))) (.cut 12 (.seq (.seq (.leaf (cL (cL (cR (cR (cR (cR (cR (cR (cR (cR (cR (bd Tryd.f21))))))))))))) (.block 2 (.loop 11 (.seq (.seq (.leaf (cL (cL (cB (cB (cR (cL (cR (cR (cR (cR (cR (cR (cR (cR (cR (bd Tryd.f21))))))))))))))))) (.cnd (.tmp 75) (.leaf (cT (cR (cL (cB (cB (cR (cL (cR (cR (cR (cR (cR (cR (cR (cR (cR (bd Tryd.f21)))))))))))))))))) (.leaf (cE (cR (cL (cB (cB (cR (cL (cR (cR (cR (cR (cR (cR (cR (cR (cR (bd Tryd.f21)))))))))))))))))))) (.seq (.block 3 (.seq (.leaf (cL (cB (cL (cR (cB (cB (cR (cL (cR (cR (cR (cR (cR (cR (cR (cR (cR (bd Tryd.f21))))))))))))))))))) (.seq (.leaf (cL (cR (cB (cL (cR (cB (cB (cR (cL (cR (cR (cR (cR (cR (cR (cR (cR (cR (bd Tryd.f21)))))))))))))))))))) (.seq (.leaf (cL (cR (cR (cB (cL (cR (cB (cB (cR (cL (cR (cR (cR (cR (cR (cR (cR (cR (cR (bd Tryd.f21))))))))))))))))))))) (.leaf (cR (cR (cR (cB (cL (cR (cB (cB (cR (cL (cR (cR (cR (cR (cR (cR (cR (cR (cR (bd Tryd.f21))))))))))))))))))))))))) (.leaf (cR (cR (cB (cB (cR (cL (cR (cR (cR (cR (cR (cR (cR (cR (cR (bd Tryd.f21)))))))))))))))))))))) (.cut 10 (.seq (.leaf (cL (cR (cR (cR (cR (cR (cR (cR (cR (cR (cR (bd Tryd.f21))))))))))))) (.seq (.seq (.leaf (cL (cL (cR (cR (cR (cR (cR (cR (cR (cR (cR (cR (cR (bd Tryd.f21))))))))))))))) (.block 4 (.loop 9 (.seq (.seq (.leaf (cL (cL (cB (cB (cR (cL (cR (cR (cR (cR (cR (cR (cR (cR (cR (cR (cR (bd Tryd.f21))))))))))))))))))) (.cnd (.tmp 127) (.leaf (cT (cR (cL (cB (cB (cR (cL (cR (cR (cR (cR (cR (cR (cR (cR (cR (cR (cR (bd Tryd.f21)))))))))))))))))))) (.leaf (cE (cR (cL (cB (cB (cR (cL (cR (cR (cR (cR (cR (cR (cR (cR (cR (cR (cR (bd Tryd.f21)))))))))))))))))))))) (.seq (.block 5 (.leaf (cB (cL (cR (cB (cB (cR (cL (cR (cR (cR (cR (cR (cR (cR (cR (cR (cR (cR (bd Tryd.f21))))))))))))))))))))) (.leaf (cR (cR (cB (cB (cR (cL (cR (cR (cR (cR (cR (cR (cR (cR (cR (cR (cR (bd Tryd.f21)))))))))))))))))))))))) (.cut 8 (.seq (.leaf (cL (cR (cR (cR (cR (cR (cR (cR (cR (cR (cR (cR (cR (bd Tryd.f21))))))))))))))) (.cut 7 (.seq (.seq (.leaf (cL (cL (cR (cR (cR (cR (cR (cR (cR (cR (cR (cR (cR (cR (cR (bd Tryd.f21))))))))))))))))) (.cnd (.tmp 163) (.seq (.leaf (cL (cT (cR (cL (cR (cR (cR (cR (cR (cR (cR (cR (cR (cR (cR (cR (cR (bd Tryd.f21))))))))))))))))))) (.leaf (cR (cT (cR (cL (cR (cR (cR (cR (cR (cR (cR (cR (cR (cR (cR (cR (cR (bd Tryd.f21)))))))))))))))))))) (.leaf (cE (cR (cL (cR (cR (cR (cR (cR (cR (cR (cR (cR (cR (cR (cR (cR (bd Tryd.f21)))))))))))))))))))) (.cut 6 (.seq (.seq (.leaf (cL (cL (cR (cR (cR (cR (cR (cR (cR (cR (cR (cR (cR (cR (cR (cR (bd Tryd.f21)))))))))))))))))) (.block 6 (.loop 2 (.seq (.seq (.leaf (cL (cL (cB (cB (cR (cL (cR (cR (cR (cR (cR (cR (cR (cR (cR (cR (cR (cR (cR (cR (bd Tryd.f21)))))))))))))))))))))) (.cnd (.tmp 167) (.leaf (cT (cR (cL (cB (cB (cR (cL (cR (cR (cR (cR (cR (cR (cR (cR (cR (cR (cR (cR (cR (cR (bd Tryd.f21))))))))))))))))))))))) (.leaf (cE (cR (cL (cB (cB (cR (cL (cR (cR (cR (cR (cR (cR (cR (cR (cR (cR (cR (cR (cR (cR (bd Tryd.f21))))))))))))))))))))))))) (.seq (.block 7 (.seq (.leaf (cL (cB (cL (cR (cB (cB (cR (cL (cR (cR (cR (cR (cR (cR (cR (cR (cR (cR (cR (cR (cR (cR (bd Tryd.f21)))))))))))))))))))))))) (.seq (.seq (.leaf (cL (cL (cR (cB (cL (cR (cB (cB (cR (cL (cR (cR (cR (cR (cR (cR (cR (cR (cR (cR (cR (cR (cR (cR (bd Tryd.f21)))))))))))))))))))))))))) (.block 8 (.loop 4 (.seq (.seq (.leaf (cL (cL (cB (cB (cR (cL (cR (cB (cL (cR (cB (cB (cR (cL (cR (cR (cR (cR (cR (cR (cR (cR (cR (cR (cR (cR (cR (cR (bd Tryd.f21)))))))))))))))))))))))))))))) (.cnd (.tmp 175) (.leaf (cT (cR (cL (cB (cB (cR (cL (cR (cB (cL (cR (cB (cB (cR (cL (cR (cR (cR (cR (cR (cR (cR (cR (cR (cR (cR (cR (cR (cR (bd Tryd.f21))))))))))))))))))))))))))))))) (.leaf (cE (cR (cL (cB (cB (cR (cL (cR (cB (cL (cR (cB (cB (cR (cL (cR (cR (cR (cR (cR (cR (cR (cR (cR (cR (cR (cR (cR (cR (bd Tryd.f21))))))))))))))))))))))))))))))))) (.seq (.block 9 (.seq (.leaf (cL (cB (cL (cR (cB (cB (cR (cL (cR (cB (cL (cR (cB (cB (cR (cL (cR (cR (cR (cR (cR (cR (cR (cR (cR (cR (cR (cR (cR (cR (bd Tryd.f21)))))))))))))))))))))))))))))))) (.seq (.seq (.leaf (cL (cL (cR (cB (cL (cR (cB (cB (cR (cL (cR (cB (cL (cR (cB (cB (cR (cL (cR (cR (cR (cR (cR (cR (cR (cR (cR (cR (cR (cR (cR (cR (bd Tryd.f21)))))))))))))))))))))))))))))))))) (.cnd (.tmp 200) (.seq (.leaf (cL (cT (cR (cL (cR (cB (cL (cR (cB (cB (cR (cL (cR (cB (cL (cR (cB (cB (cR (cL (cR (cR (cR (cR (cR (cR (cR (cR (cR (cR (cR (cR (cR (cR (bd Tryd.f21)))))))))))))))))))))))))))))))))))) (.leaf (cR (cT (cR (cL (cR (cB (cL (cR (cB (cB (cR (cL (cR (cB (cL (cR (cB (cB (cR (cL (cR (cR (cR (cR (cR (cR (cR (cR (cR (cR (cR (cR (cR (cR (bd Tryd.f21))))))))))))))))))))))))))))))))))))) (.leaf (cE (cR (cL (cR (cB (cL (cR (cB (cB (cR (cL (cR (cB (cL (cR (cB (cB (cR (cL (cR (cR (cR (cR (cR (cR (cR (cR (cR (cR (cR (cR (cR (cR (bd Tryd.f21))))))))))))))))))))))))))))))))))))) (.cut 5 (.leaf (cR (cR (cB (cL (cR (cB (cB (cR (cL (cR (cB (cL (cR (cB (cB (cR (cL (cR (cR (cR (cR (cR (cR (cR (cR (cR (cR (cR (cR (cR (cR (bd Tryd.f21))))))))))))))))))))))))))))))))))))) (.leaf (cR (cR (cB (cB (cR (cL (cR (cB (cL (cR (cB (cB (cR (cL (cR (cR (cR (cR (cR (cR (cR (cR (cR (cR (cR (cR (cR (cR (bd Tryd.f21))))))))))))))))))))))))))))))))))) (.cut 3 (.seq (.leaf (cL (cR (cR (cB (cL (cR (cB (cB (cR (cL (cR (cR (cR (cR (cR (cR (cR (cR (cR (cR (cR (cR (cR (cR (bd Tryd.f21)))))))))))))))))))))))))) (.cnd (.tmp 209) (.seq (.leaf (cL (cT (cR (cR (cR (cB (cL (cR (cB (cB (cR (cL (cR (cR (cR (cR (cR (cR (cR (cR (cR (cR (cR (cR (cR (cR (bd Tryd.f21)))))))))))))))))))))))))))) (.leaf (cR (cT (cR (cR (cR (cB (cL (cR (cB (cB (cR (cL (cR (cR (cR (cR (cR (cR (cR (cR (cR (cR (cR (cR (cR (cR (bd Tryd.f21))))))))))))))))))))))))))))) (.leaf (cE (cR (cR (cR (cB (cL (cR (cB (cB (cR (cL (cR (cR (cR (cR (cR (cR (cR (cR (cR (cR (cR (cR (cR (cR (bd Tryd.f21))))))))))))))))))))))))))))))))) (.leaf (cR (cR (cB (cB (cR (cL (cR (cR (cR (cR (cR (cR (cR (cR (cR (cR (cR (cR (cR (cR (bd Tryd.f21))))))))))))))))))))))))))) (.cut 1 (.seq (.leaf (cL (cR (cR (cR (cR (cR (cR (cR (cR (cR (cR (cR (cR (cR (cR (cR (bd Tryd.f21)))))))))))))))))) (.leaf (cR (cR (cR (cR (cR (cR (cR (cR (cR (cR (cR (cR (cR (cR (cR (cR (bd Tryd.f21))))))))))))))))))))))))))))))))))))))))) (J := trystlaw24_MixOrder.J0 R) LfYtoclhecldmahiaaDoor.mixed Tryd.func21 (by kernel_rfl) (by kernel_rfl) (mkSeq (mkSeq (mkSeq (mkSeq (mkSeq (mkSeq (mkSeq (mkSeq (mkSeq (mkCut (cutDef [(0, (.int .i64)), (1, .slice), (5, .ptr), (7, .ptr), (8, .slice), (9, .slice), (10, .slice), (11, .slice), (12, .slice)] (fun x w => trystlaw24_MixOrder.c12 R x.1 x.2.1 x.2.2.1 x.2.2.2.1 x.2.2.2.2.1 x.2.2.2.2.2.1 x.2.2.2.2.2.2.1 x.2.2.2.2.2.2.2.1 x.2.2.2.2.2.2.2.2 w) (fun _ _ => by kernel_rfl) (fun _ _ => by kernel_rfl)) (mkSeq (mkCut (cutDef [(0, (.int .i64)), (1, .slice), (5, .ptr), (8, .slice), (10, .slice), (11, .slice), (12, .slice)] (fun x w => trystlaw24_MixOrder.c10 R x.1 x.2.1 x.2.2.1 x.2.2.2.1 x.2.2.2.2.1 x.2.2.2.2.2.1 x.2.2.2.2.2.2 w) (fun _ _ => by kernel_rfl) (fun _ _ => by kernel_rfl)) (mkSeq (mkSeq (mkCut (cutDef [(5, .ptr), (8, .slice), (10, .slice), (11, .slice), (12, .slice), (20, .slice)] (fun x w => trystlaw24_MixOrder.c8 R x.1 x.2.1 x.2.2.1 x.2.2.2.1 x.2.2.2.2.1 x.2.2.2.2.2 w) (fun _ _ => by kernel_rfl) (fun _ _ => by kernel_rfl)) (mkSeq (mkCut (cutDef [(5, .ptr), (10, .slice), (11, .slice), (12, .slice), (23, .slice), (24, (.int .i64))] (fun x w => trystlaw24_MixOrder.c7 R x.1 x.2.1 x.2.2.1 x.2.2.2.1 x.2.2.2.2.1 x.2.2.2.2.2 w) (fun _ _ => by kernel_rfl) (fun _ _ => by kernel_rfl)) (mkSeq (mkCut (cutDef [(5, .ptr), (11, .slice), (12, .slice), (23, .slice)] (fun x w => trystlaw24_MixOrder.c6 R x.1 x.2.1 x.2.2.1 x.2.2.2 w) (fun _ _ => by kernel_rfl) (fun _ _ => by kernel_rfl)) (mkSeq (mkCut (cutDef [] (fun x w => trystlaw24_MixOrder.c1 R w) (fun _ _ => by kernel_rfl) (fun _ _ => by kernel_rfl)) (mkSeq mkLeaf mkLeaf)) (mkSeq (mkBlock (mkLoop (loopDef LfYtoclhecldmahiaaDoor.mixed [(5, .ptr), (11, .slice), (12, .slice), (23, .slice), (25, (.int .i64))] (by kernel_rfl) (fun M2 x w => trystlaw24_MixOrder.b2 R (fun y0 y1 y2 y3 y4 w => M2 (y0, y1, y2, y3, y4) w) x.1 x.2.1 x.2.2.1 x.2.2.2.1 x.2.2.2.2 w) (fun M2 => trystlaw24_MixOrder.J2 R (fun y0 y1 y2 y3 y4 w => M2 (y0, y1, y2, y3, y4) w)) (fun _ _ _ => by kernel_rfl) (fun M2 => (mkSeq (mkSeq mkLeaf (mkBlock (mkSeq (mkSeq (mkCut (cutDef [(5, .ptr), (11, .slice), (12, .slice), (23, .slice), (25, (.int .i64)), (26, (.int .i64))] (fun x w => trystlaw24_MixOrder.c3 R (fun y0 y1 y2 y3 y4 w => M2 (y0, y1, y2, y3, y4) w) x.1 x.2.1 x.2.2.1 x.2.2.2.1 x.2.2.2.2.1 x.2.2.2.2.2 w) (fun _ _ => by kernel_rfl) (fun _ _ => by kernel_rfl)) (mkSeq (mkCnd (mkSeq mkLeaf mkLeaf) mkLeaf) mkLeaf)) (mkSeq (mkBlock (mkLoop (loopDef LfYtoclhecldmahiaaDoor.mixed [(5, .ptr), (11, .slice), (12, .slice), (23, .slice), (25, (.int .i64)), (26, (.int .i64)), (27, (.int .i64))] (by kernel_rfl) (fun M4 x w => trystlaw24_MixOrder.b4 R (fun y0 y1 y2 y3 y4 w => M2 (y0, y1, y2, y3, y4) w) (fun y0 y1 y2 y3 y4 y5 y6 w => M4 (y0, y1, y2, y3, y4, y5, y6) w) x.1 x.2.1 x.2.2.1 x.2.2.2.1 x.2.2.2.2.1 x.2.2.2.2.2.1 x.2.2.2.2.2.2 w) (fun M4 => trystlaw24_MixOrder.J4 R (fun y0 y1 y2 y3 y4 w => M2 (y0, y1, y2, y3, y4) w) (fun y0 y1 y2 y3 y4 y5 y6 w => M4 (y0, y1, y2, y3, y4, y5, y6) w)) (fun _ _ _ => by kernel_rfl) (fun M4 => (mkSeq (mkSeq mkLeaf (mkBlock (mkSeq (mkSeq (mkCut (cutDef [(5, .ptr), (11, .slice), (12, .slice), (23, .slice), (25, (.int .i64)), (27, (.int .i64)), (28, .slice)] (fun x w => trystlaw24_MixOrder.c5 R (fun y0 y1 y2 y3 y4 w => M2 (y0, y1, y2, y3, y4) w) (fun y0 y1 y2 y3 y4 y5 y6 w => M4 (y0, y1, y2, y3, y4, y5, y6) w) x.1 x.2.1 x.2.2.1 x.2.2.2.1 x.2.2.2.2.1 x.2.2.2.2.2.1 x.2.2.2.2.2.2 w) (fun _ _ => by kernel_rfl) (fun _ _ => by kernel_rfl)) mkLeaf) (mkSeq (mkCnd (mkSeq mkLeaf mkLeaf) mkLeaf) mkLeaf)) mkLeaf))) (mkSeq (mkCnd mkLeaf mkLeaf) mkLeaf))) (fun x w => trystlaw24_MixOrder.l4 R (fun y0 y1 y2 y3 y4 w => M2 (y0, y1, y2, y3, y4) w) x.1 x.2.1 x.2.2.1 x.2.2.2.1 x.2.2.2.2.1 x.2.2.2.2.2.1 x.2.2.2.2.2.2 w) (by rintro ⟨c0, c1, c2, c3, c4, s0⟩ w ⟨I, μ, h0, h1⟩; refine ⟨fun y w => y.1 = c0 ∧ y.2.1 = c1 ∧ y.2.2.1 = c2 ∧ y.2.2.2.1 = c3 ∧ y.2.2.2.2.1 = c4 ∧ I y.2.2.2.2.2 w, fun y w => μ y.2.2.2.2.2 w, ⟨rfl, rfl, rfl, rfl, rfl, h0⟩, ?_⟩; rintro ⟨d0, d1, d2, d3, d4, t0⟩ w ⟨e0, e1, e2, e3, e4, hI⟩; dsimp only at e0 e1 e2 e3 e4 hI; subst e0; subst e1; subst e2; subst e3; subst e4; exact h1 _ _ hI) (fun _ _ => by kernel_rfl)))) mkLeaf)) mkLeaf))) (mkSeq (mkCnd mkLeaf mkLeaf) mkLeaf))) (fun x w => trystlaw24_MixOrder.l2 R x.1 x.2.1 x.2.2.1 x.2.2.2.1 x.2.2.2.2 w) (by rintro ⟨c0, c1, c2, c3, s0⟩ w ⟨I, μ, h0, h1⟩; refine ⟨fun y w => y.1 = c0 ∧ y.2.1 = c1 ∧ y.2.2.1 = c2 ∧ y.2.2.2.1 = c3 ∧ I y.2.2.2.2 w, fun y w => μ y.2.2.2.2 w, ⟨rfl, rfl, rfl, rfl, h0⟩, ?_⟩; rintro ⟨d0, d1, d2, d3, t0⟩ w ⟨e0, e1, e2, e3, hI⟩; dsimp only at e0 e1 e2 e3 hI; subst e0; subst e1; subst e2; subst e3; exact h1 _ _ hI) (fun _ _ => by kernel_rfl)))) mkLeaf))) (mkSeq (mkCnd (mkSeq mkLeaf mkLeaf) mkLeaf) mkLeaf))) mkLeaf)) (mkSeq (mkBlock (mkLoop (loopDef LfYtoclhecldmahiaaDoor.mixed [(0, (.int .i64)), (1, .slice), (5, .ptr), (8, .slice), (10, .slice), (11, .slice), (12, .slice), (20, .slice), (21, (.int .i64))] (by kernel_rfl) (fun M9 x w => trystlaw24_MixOrder.b9 R (fun y0 y1 y2 y3 y4 y5 y6 y7 y8 w => M9 (y0, y1, y2, y3, y4, y5, y6, y7, y8) w) x.1 x.2.1 x.2.2.1 x.2.2.2.1 x.2.2.2.2.1 x.2.2.2.2.2.1 x.2.2.2.2.2.2.1 x.2.2.2.2.2.2.2.1 x.2.2.2.2.2.2.2.2 w) (fun M9 => fun _ _ _ => False) (fun _ _ _ => by kernel_rfl) (fun M9 => (mkSeq (mkSeq mkLeaf (mkBlock mkLeaf)) (mkSeq (mkCnd mkLeaf mkLeaf) mkLeaf))) (fun x w => trystlaw24_MixOrder.l9 R x.1 x.2.1 x.2.2.1 x.2.2.2.1 x.2.2.2.2.1 x.2.2.2.2.2.1 x.2.2.2.2.2.2.1 x.2.2.2.2.2.2.2.1 x.2.2.2.2.2.2.2.2 w) (by rintro ⟨c0, c1, c2, c3, c4, c5, c6, s0⟩ w ⟨I, μ, h0, h1⟩; refine ⟨fun y w => y.1 = c0 ∧ y.2.1 = c1 ∧ y.2.2.1 = c2 ∧ y.2.2.2.1 = c3 ∧ y.2.2.2.2.1 = c4 ∧ y.2.2.2.2.2.1 = c5 ∧ y.2.2.2.2.2.2.1 = c6 ∧ I y.2.2.2.2.2.2.2 w, fun y w => μ y.2.2.2.2.2.2.2 w, ⟨rfl, rfl, rfl, rfl, rfl, rfl, rfl, h0⟩, ?_⟩; rintro ⟨d0, d1, d2, d3, d4, d5, d6, t0⟩ w ⟨e0, e1, e2, e3, e4, e5, e6, hI⟩; dsimp only at e0 e1 e2 e3 e4 e5 e6 hI; subst e0; subst e1; subst e2; subst e3; subst e4; subst e5; subst e6; exact h1 _ _ hI) (fun _ _ => by kernel_rfl)))) mkLeaf)) mkLeaf)) (mkSeq (mkBlock (mkLoop (loopDef LfYtoclhecldmahiaaDoor.mixed [(0, (.int .i64)), (1, .slice), (5, .ptr), (7, .ptr), (8, .slice), (9, .slice), (10, .slice), (11, .slice), (12, .slice), (15, (.int .i64))] (by kernel_rfl) (fun M11 x w => trystlaw24_MixOrder.b11 R (fun y0 y1 y2 y3 y4 y5 y6 y7 y8 y9 w => M11 (y0, y1, y2, y3, y4, y5, y6, y7, y8, y9) w) x.1 x.2.1 x.2.2.1 x.2.2.2.1 x.2.2.2.2.1 x.2.2.2.2.2.1 x.2.2.2.2.2.2.1 x.2.2.2.2.2.2.2.1 x.2.2.2.2.2.2.2.2.1 x.2.2.2.2.2.2.2.2.2 w) (fun M11 => fun _ _ _ => False) (fun _ _ _ => by kernel_rfl) (fun M11 => (mkSeq (mkSeq mkLeaf (mkBlock (mkSeq (mkSeq (mkSeq mkLeaf mkLeaf) mkLeaf) mkLeaf))) (mkSeq (mkCnd mkLeaf mkLeaf) mkLeaf))) (fun x w => trystlaw24_MixOrder.l11 R x.1 x.2.1 x.2.2.1 x.2.2.2.1 x.2.2.2.2.1 x.2.2.2.2.2.1 x.2.2.2.2.2.2.1 x.2.2.2.2.2.2.2.1 x.2.2.2.2.2.2.2.2.1 x.2.2.2.2.2.2.2.2.2 w) (by rintro ⟨c0, c1, c2, c3, c4, c5, s0⟩ w ⟨I, μ, h0, h1⟩; refine ⟨fun y w => y.1 = c0 ∧ y.2.1 = c1 ∧ y.2.2.1 = c2 ∧ y.2.2.2.1 = c3 ∧ y.2.2.2.2.1 = c4 ∧ y.2.2.2.2.2.1 = c5 ∧ I y.2.2.2.2.2.2 w, fun y w => μ y.2.2.2.2.2.2 w, ⟨rfl, rfl, rfl, rfl, rfl, rfl, h0⟩, ?_⟩; rintro ⟨d0, d1, d2, d3, d4, d5, t0⟩ w ⟨e0, e1, e2, e3, e4, e5, hI⟩; dsimp only at e0 e1 e2 e3 e4 e5 hI; subst e0; subst e1; subst e2; subst e3; subst e4; subst e5; exact h1 _ _ hI) (fun _ _ => by kernel_rfl)))) mkLeaf))) (mkSeq (mkBlock (mkLoop (loopDef LfYtoclhecldmahiaaDoor.mixed [(0, (.int .i64)), (1, .slice), (5, .ptr), (7, .ptr), (10, .slice), (11, .slice), (12, .slice), (8, .slice), (9, .slice), (13, (.int .i64))] (by kernel_rfl) (fun M13 x w => trystlaw24_MixOrder.b13 R (fun y0 y1 y2 y3 y4 y5 y6 y7 y8 y9 w => M13 (y0, y1, y2, y3, y4, y5, y6, y7, y8, y9) w) x.1 x.2.1 x.2.2.1 x.2.2.2.1 x.2.2.2.2.1 x.2.2.2.2.2.1 x.2.2.2.2.2.2.1 x.2.2.2.2.2.2.2.1 x.2.2.2.2.2.2.2.2.1 x.2.2.2.2.2.2.2.2.2 w) (fun M13 => fun _ _ _ => False) (fun _ _ _ => by kernel_rfl) (fun M13 => (mkSeq (mkSeq mkLeaf (mkBlock (mkSeq (mkSeq (mkSeq (mkCnd (mkSeq mkLeaf mkLeaf) mkLeaf) mkLeaf) mkLeaf) mkLeaf))) (mkSeq (mkCnd mkLeaf mkLeaf) mkLeaf))) (fun x w => trystlaw24_MixOrder.l13 R x.1 x.2.1 x.2.2.1 x.2.2.2.1 x.2.2.2.2.1 x.2.2.2.2.2.1 x.2.2.2.2.2.2.1 x.2.2.2.2.2.2.2.1 x.2.2.2.2.2.2.2.2.1 x.2.2.2.2.2.2.2.2.2 w) (by rintro ⟨c0, c1, c2, c3, c4, c5, c6, s0⟩ w ⟨I, μ, h0, h1⟩; refine ⟨fun y w => y.1 = c0 ∧ y.2.1 = c1 ∧ y.2.2.1 = c2 ∧ y.2.2.2.1 = c3 ∧ y.2.2.2.2.1 = c4 ∧ y.2.2.2.2.2.1 = c5 ∧ y.2.2.2.2.2.2.1 = c6 ∧ I y.2.2.2.2.2.2.2 w, fun y w => μ y.2.2.2.2.2.2.2 w, ⟨rfl, rfl, rfl, rfl, rfl, rfl, rfl, h0⟩, ?_⟩; rintro ⟨d0, d1, d2, d3, d4, d5, d6, t0⟩ w ⟨e0, e1, e2, e3, e4, e5, e6, hI⟩; dsimp only at e0 e1 e2 e3 e4 e5 e6 hI; subst e0; subst e1; subst e2; subst e3; subst e4; subst e5; subst e6; exact h1 _ _ hI) (fun _ _ => by kernel_rfl)))) mkLeaf)) mkLeaf) mkLeaf) mkLeaf) (mkSeq (mkCnd (mkSeq mkLeaf mkLeaf) mkLeaf) mkLeaf)) mkLeaf) (mkSeq (mkCnd (mkSeq mkLeaf mkLeaf) mkLeaf) mkLeaf)) mkLeaf) mkLeaf) (kcast (by kernel_rfl) h)

end Go.Proofs.YtoclhecldmahiaaDoor
