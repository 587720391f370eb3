/-
  What the code of these functions comes to, and that it suffices for the call. Written by a program of ours, for this claim.
-/
import Derived.Test.YtoclhecldmahiaaDoorRcFns
set_option linter.unusedVariables false
set_option linter.unusedVariables false
namespace Go.Proofs.YtoclhecldmahiaaDoor
open Go.Lf
abbrev n_trystlaw19_RatchetExact : Nat := 16
abbrev n_trystlaw19_heavy : Nat := 80
abbrev n_trystkeep_TwinRatchet : Nat := 81
abbrev n_trystref15_Ratchet : Nat := 82
abbrev n_trystkeep_Ratchet : Nat := 83
abbrev n_trystref15_Take : Nat := 84
abbrev n_trystlaw19_same : Nat := 85
abbrev n_trystref15_Send : Nat := 86
abbrev n_trystkeep_TwinKeys : Nat := 128
abbrev n_trystkeep_Keys : Nat := 129
abbrev n_trystref15_RatchetNodes : Nat := 130
abbrev n_trystlaw17_Keys : Nat := 131
/-! trystlaw19_RatchetExact -/
def trystlaw19_RatchetExact.c1 (R : Value → World → Prop) (w : World) : Prop :=
  CallsV Tryd.prog n_trystlaw19_wakes #[] w (fun v_1 w1 =>
  ∃ b_2 : Bool, v_1 = .bool b_2 ∧
  R (.bool b_2) w1)

def trystlaw19_RatchetExact.c2 (R : Value → World → Prop) (r4 : Addr) (p7 : Option Addr) (m13 : Int) (at14 : Int) (t15 : Addr) (f16 : Int) (u18 : Addr) (w : World) : Prop :=
  ∃ S_3 : World → Prop, S_3 w.drew ∧
  ∃ q_4 : Addr, p7 = some q_4 ∧
  ∃ p_5 : Option Addr, (∀ x, S_3 x → x.cell? (q_4.add 1) = some (.pointer p_5)) ∧
  ∃ x_6 : Int, (∀ x, S_3 x → x.cell? r4 = some (.int .i64 x_6)) ∧
  ∃ x_7 : Int, (∀ x, S_3 x → x.cell? (r4.add 1) = some (.int .i64 x_7)) ∧
  ∃ (a_8 : Option Addr) (l_9 c_10 : Nat), (∀ x, S_3 x → x.cell? (r4.add 2) = some (.slice a_8 l_9 c_10)) ∧
  CallsV Tryd.prog n_trystref15_Send #[.pointer p_5, .agg #[.int .i64 x_6, .int .i64 x_7, .slice a_8 l_9 c_10]] w.drew (fun v_11 w2 =>
  ∃ x_12 : Int, ∃ x_13 : Int, ∃ x_14 : Int, ∃ x_15 : Int, ∃ (a_16 : Option Addr) (l_17 c_18 : Nat), ∃ x_19 : Int, v_11 = .tuple #[.int .i64 x_12, .int .i64 x_13, .agg #[.int .i64 x_14, .int .i64 x_15, .slice a_16 l_17 c_18], .int .i64 x_19] ∧
  (∀ j, j < 3 → Wr w2 (u18.add j)) ∧
  (let w3 := setCells u18 [.int .i64 x_14, .int .i64 x_15, .slice a_16 l_17 c_18] 0 w2;
  ∃ S_20 : World → Prop, S_20 w3.drew ∧
  cond ((f16 : Int) != x_19)
  (R (.bool false) w3.drew)
  (cond ((x_19 : Int) != 0)
  (cond ((m13 : Int) != 0)
  (R (.bool false) w3.drew)
  (cond ((at14 : Int) != 0)
  (R (.bool false) w3.drew)
  (∃ x_21 : Int, (∀ x, S_20 x → x.cell? t15 = some (.int .i64 x_21)) ∧
  ∃ x_22 : Int, (∀ x, S_20 x → x.cell? (t15.add 1) = some (.int .i64 x_22)) ∧
  ∃ (a_23 : Option Addr) (l_24 c_25 : Nat), (∀ x, S_20 x → x.cell? (t15.add 2) = some (.slice a_23 l_24 c_25)) ∧
  CallsV Tryd.prog n_trystkeep_Ratchet #[.agg #[.int .i64 x_21, .int .i64 x_22, .slice a_23 l_24 c_25], .agg #[.int .i64 0, .int .i64 0, .slice none 0 0]] w3.drew (fun v_26 w4 =>
  ∃ b_27 : Bool, v_26 = .bool b_27 ∧
  S_20 w4 ∧
  cond (!b_27)
  (R (.bool false) w4)
  (cond ((x_19 : Int) == 0)
  (CallsV Tryd.prog n_trystlaw10_Pair_T #[.pointer p7, .int .i64 x_12] w4 (fun v_28 w5 =>
  ∃ x_29 : Int, v_28 = .int .i64 x_29 ∧
  S_20 w5 ∧
  cond ((m13 : Int) != x_29)
  (R (.bool false) w5)
  (cond ((at14 : Int) != x_13)
  (R (.bool false) w5)
  (∃ x_30 : Int, (∀ x, S_20 x → x.cell? t15 = some (.int .i64 x_30)) ∧
  ∃ x_31 : Int, (∀ x, S_20 x → x.cell? (t15.add 1) = some (.int .i64 x_31)) ∧
  ∃ (a_32 : Option Addr) (l_33 c_34 : Nat), (∀ x, S_20 x → x.cell? (t15.add 2) = some (.slice a_32 l_33 c_34)) ∧
  ∃ x_35 : Int, (∀ x, S_20 x → x.cell? u18 = some (.int .i64 x_35)) ∧
  ∃ x_36 : Int, (∀ x, S_20 x → x.cell? (u18.add 1) = some (.int .i64 x_36)) ∧
  ∃ (a_37 : Option Addr) (l_38 c_39 : Nat), (∀ x, S_20 x → x.cell? (u18.add 2) = some (.slice a_37 l_38 c_39)) ∧
  CallsV Tryd.prog n_trystlaw19_same #[.pointer p7, .agg #[.int .i64 x_35, .int .i64 x_36, .slice a_37 l_38 c_39]] w5 (fun v_40 w6 =>
  ∃ x_41 : Int, ∃ x_42 : Int, ∃ (a_43 : Option Addr) (l_44 c_45 : Nat), v_40 = .agg #[.int .i64 x_41, .int .i64 x_42, .slice a_43 l_44 c_45] ∧
  S_20 w6 ∧
  CallsV Tryd.prog n_trystkeep_Ratchet #[.agg #[.int .i64 x_30, .int .i64 x_31, .slice a_32 l_33 c_34], .agg #[.int .i64 x_41, .int .i64 x_42, .slice a_43 l_44 c_45]] w6 (fun v_46 w7 =>
  ∃ b_47 : Bool, v_46 = .bool b_47 ∧
  cond (!b_47)
  (R (.bool false) w7)
  (trystlaw19_RatchetExact.c1 R w7)))))))
  (trystlaw19_RatchetExact.c1 R w4))))))
  (cond ((x_19 : Int) == 0)
  (CallsV Tryd.prog n_trystlaw10_Pair_T #[.pointer p7, .int .i64 x_12] w3.drew (fun v_48 w8 =>
  ∃ x_49 : Int, v_48 = .int .i64 x_49 ∧
  S_20 w8 ∧
  cond ((m13 : Int) != x_49)
  (R (.bool false) w8)
  (cond ((at14 : Int) != x_13)
  (R (.bool false) w8)
  (∃ x_50 : Int, (∀ x, S_20 x → x.cell? t15 = some (.int .i64 x_50)) ∧
  ∃ x_51 : Int, (∀ x, S_20 x → x.cell? (t15.add 1) = some (.int .i64 x_51)) ∧
  ∃ (a_52 : Option Addr) (l_53 c_54 : Nat), (∀ x, S_20 x → x.cell? (t15.add 2) = some (.slice a_52 l_53 c_54)) ∧
  ∃ x_55 : Int, (∀ x, S_20 x → x.cell? u18 = some (.int .i64 x_55)) ∧
  ∃ x_56 : Int, (∀ x, S_20 x → x.cell? (u18.add 1) = some (.int .i64 x_56)) ∧
  ∃ (a_57 : Option Addr) (l_58 c_59 : Nat), (∀ x, S_20 x → x.cell? (u18.add 2) = some (.slice a_57 l_58 c_59)) ∧
  CallsV Tryd.prog n_trystlaw19_same #[.pointer p7, .agg #[.int .i64 x_55, .int .i64 x_56, .slice a_57 l_58 c_59]] w8 (fun v_60 w9 =>
  ∃ x_61 : Int, ∃ x_62 : Int, ∃ (a_63 : Option Addr) (l_64 c_65 : Nat), v_60 = .agg #[.int .i64 x_61, .int .i64 x_62, .slice a_63 l_64 c_65] ∧
  S_20 w9 ∧
  CallsV Tryd.prog n_trystkeep_Ratchet #[.agg #[.int .i64 x_50, .int .i64 x_51, .slice a_52 l_53 c_54], .agg #[.int .i64 x_61, .int .i64 x_62, .slice a_63 l_64 c_65]] w9 (fun v_66 w10 =>
  ∃ b_67 : Bool, v_66 = .bool b_67 ∧
  cond (!b_67)
  (R (.bool false) w10)
  (trystlaw19_RatchetExact.c1 R w10)))))))
  (trystlaw19_RatchetExact.c1 R w3.drew)))))

def trystlaw19_RatchetExact.c3 (R : Value → World → Prop) (r4 : Addr) (p7 : Option Addr) (k10 : Int) (s11 : Addr) (e12 : Int) (m13 : Int) (at14 : Int) (t15 : Addr) (f16 : Int) (x17 : Int) (u18 : Addr) (g19 : Int) (w : World) : Prop :=
  ∃ S_68 : World → Prop, S_68 w.drew ∧
  cond ((e12 : Int) != g19)
  (R (.bool false) w.drew)
  (cond ((g19 : Int) != 0)
  (cond ((k10 : Int) != 0)
  (R (.bool false) w.drew)
  (∃ x_69 : Int, (∀ x, S_68 x → x.cell? s11 = some (.int .i64 x_69)) ∧
  ∃ x_70 : Int, (∀ x, S_68 x → x.cell? (s11.add 1) = some (.int .i64 x_70)) ∧
  ∃ (a_71 : Option Addr) (l_72 c_73 : Nat), (∀ x, S_68 x → x.cell? (s11.add 2) = some (.slice a_71 l_72 c_73)) ∧
  CallsV Tryd.prog n_trystkeep_Ratchet #[.agg #[.int .i64 x_69, .int .i64 x_70, .slice a_71 l_72 c_73], .agg #[.int .i64 0, .int .i64 0, .slice none 0 0]] w.drew (fun v_74 w11 =>
  ∃ b_75 : Bool, v_74 = .bool b_75 ∧
  S_68 w11 ∧
  cond (!b_75)
  (R (.bool false) w11)
  (cond ((g19 : Int) == 0)
  (CallsV Tryd.prog n_trystlaw10_Pair_T #[.pointer p7, .int .i64 x17] w11 (fun v_76 w12 =>
  ∃ x_77 : Int, v_76 = .int .i64 x_77 ∧
  S_68 w12 ∧
  cond ((k10 : Int) != x_77)
  (R (.bool false) w12)
  (∃ x_78 : Int, (∀ x, S_68 x → x.cell? s11 = some (.int .i64 x_78)) ∧
  ∃ x_79 : Int, (∀ x, S_68 x → x.cell? (s11.add 1) = some (.int .i64 x_79)) ∧
  ∃ (a_80 : Option Addr) (l_81 c_82 : Nat), (∀ x, S_68 x → x.cell? (s11.add 2) = some (.slice a_80 l_81 c_82)) ∧
  ∃ x_83 : Int, (∀ x, S_68 x → x.cell? u18 = some (.int .i64 x_83)) ∧
  ∃ x_84 : Int, (∀ x, S_68 x → x.cell? (u18.add 1) = some (.int .i64 x_84)) ∧
  ∃ (a_85 : Option Addr) (l_86 c_87 : Nat), (∀ x, S_68 x → x.cell? (u18.add 2) = some (.slice a_85 l_86 c_87)) ∧
  CallsV Tryd.prog n_trystlaw19_same #[.pointer p7, .agg #[.int .i64 x_83, .int .i64 x_84, .slice a_85 l_86 c_87]] w12 (fun v_88 w13 =>
  ∃ x_89 : Int, ∃ x_90 : Int, ∃ (a_91 : Option Addr) (l_92 c_93 : Nat), v_88 = .agg #[.int .i64 x_89, .int .i64 x_90, .slice a_91 l_92 c_93] ∧
  S_68 w13 ∧
  CallsV Tryd.prog n_trystkeep_Ratchet #[.agg #[.int .i64 x_78, .int .i64 x_79, .slice a_80 l_81 c_82], .agg #[.int .i64 x_89, .int .i64 x_90, .slice a_91 l_92 c_93]] w13 (fun v_94 w14 =>
  ∃ b_95 : Bool, v_94 = .bool b_95 ∧
  cond (!b_95)
  (R (.bool false) w14)
  (trystlaw19_RatchetExact.c2 R r4 p7 m13 at14 t15 f16 u18 w14))))))
  (trystlaw19_RatchetExact.c2 R r4 p7 m13 at14 t15 f16 u18 w11)))))
  (cond ((g19 : Int) == 0)
  (CallsV Tryd.prog n_trystlaw10_Pair_T #[.pointer p7, .int .i64 x17] w.drew (fun v_96 w15 =>
  ∃ x_97 : Int, v_96 = .int .i64 x_97 ∧
  S_68 w15 ∧
  cond ((k10 : Int) != x_97)
  (R (.bool false) w15)
  (∃ x_98 : Int, (∀ x, S_68 x → x.cell? s11 = some (.int .i64 x_98)) ∧
  ∃ x_99 : Int, (∀ x, S_68 x → x.cell? (s11.add 1) = some (.int .i64 x_99)) ∧
  ∃ (a_100 : Option Addr) (l_101 c_102 : Nat), (∀ x, S_68 x → x.cell? (s11.add 2) = some (.slice a_100 l_101 c_102)) ∧
  ∃ x_103 : Int, (∀ x, S_68 x → x.cell? u18 = some (.int .i64 x_103)) ∧
  ∃ x_104 : Int, (∀ x, S_68 x → x.cell? (u18.add 1) = some (.int .i64 x_104)) ∧
  ∃ (a_105 : Option Addr) (l_106 c_107 : Nat), (∀ x, S_68 x → x.cell? (u18.add 2) = some (.slice a_105 l_106 c_107)) ∧
  CallsV Tryd.prog n_trystlaw19_same #[.pointer p7, .agg #[.int .i64 x_103, .int .i64 x_104, .slice a_105 l_106 c_107]] w15 (fun v_108 w16 =>
  ∃ x_109 : Int, ∃ x_110 : Int, ∃ (a_111 : Option Addr) (l_112 c_113 : Nat), v_108 = .agg #[.int .i64 x_109, .int .i64 x_110, .slice a_111 l_112 c_113] ∧
  S_68 w16 ∧
  CallsV Tryd.prog n_trystkeep_Ratchet #[.agg #[.int .i64 x_98, .int .i64 x_99, .slice a_100 l_101 c_102], .agg #[.int .i64 x_109, .int .i64 x_110, .slice a_111 l_112 c_113]] w16 (fun v_114 w17 =>
  ∃ b_115 : Bool, v_114 = .bool b_115 ∧
  cond (!b_115)
  (R (.bool false) w17)
  (trystlaw19_RatchetExact.c2 R r4 p7 m13 at14 t15 f16 u18 w17))))))
  (trystlaw19_RatchetExact.c2 R r4 p7 m13 at14 t15 f16 u18 w.drew)))

def trystlaw19_RatchetExact.c4 (R : Value → World → Prop) (n2 : Int) (r4 : Addr) (p7 : Option Addr) (in9 : Addr) (k10 : Int) (s11 : Addr) (e12 : Int) (m13 : Int) (at14 : Int) (t15 : Addr) (f16 : Int) (w : World) : Prop :=
  ∃ x_116 : Int, w.cell? in9 = some (.int .i64 x_116) ∧
  ∃ x_117 : Int, w.cell? (in9.add 1) = some (.int .i64 x_117) ∧
  ∃ (a_118 : Option Addr) (l_119 c_120 : Nat), w.cell? (in9.add 2) = some (.slice a_118 l_119 c_120) ∧
  ∃ x_121 : Int, w.cell? r4 = some (.int .i64 x_121) ∧
  ∃ x_122 : Int, w.cell? (r4.add 1) = some (.int .i64 x_122) ∧
  ∃ (a_123 : Option Addr) (l_124 c_125 : Nat), w.cell? (r4.add 2) = some (.slice a_123 l_124 c_125) ∧
  CallsV Tryd.prog n_trystkeep_Ratchet #[.agg #[.int .i64 x_116, .int .i64 x_117, .slice a_118 l_119 c_120], .agg #[.int .i64 x_121, .int .i64 x_122, .slice a_123 l_124 c_125]] w (fun v_126 w18 =>
  ∃ b_127 : Bool, v_126 = .bool b_127 ∧
  cond (!b_127)
  (R (.bool false) w18)
  (∃ S_128 : World → Prop, S_128 w18.drew ∧
  ∃ q_129 : Addr, p7 = some q_129 ∧
  ∃ p_130 : Option Addr, (∀ x, S_128 x → x.cell? (q_129.add 1) = some (.pointer p_130)) ∧
  ∃ x_131 : Int, (∀ x, S_128 x → x.cell? r4 = some (.int .i64 x_131)) ∧
  ∃ x_132 : Int, (∀ x, S_128 x → x.cell? (r4.add 1) = some (.int .i64 x_132)) ∧
  ∃ (a_133 : Option Addr) (l_134 c_135 : Nat), (∀ x, S_128 x → x.cell? (r4.add 2) = some (.slice a_133 l_134 c_135)) ∧
  (CallsV Tryd.prog n_trystref15_Take #[.pointer p_130, .agg #[.int .i64 x_131, .int .i64 x_132, .slice a_133 l_134 c_135], .int .i64 n2] w18.drew (fun v_136 w19 =>
  ∃ x_137 : Int, ∃ x_138 : Int, ∃ x_139 : Int, ∃ (a_140 : Option Addr) (l_141 c_142 : Nat), ∃ x_143 : Int, v_136 = .tuple #[.int .i64 x_137, .agg #[.int .i64 x_138, .int .i64 x_139, .slice a_140 l_141 c_142], .int .i64 x_143] ∧
  let w20 := w19.alloc (.cells #[.int .i64 0, .int .i64 0, .slice none 0 0] 104);
  (∀ j, j < 3 → Wr w20 ((newA w19).add j)) ∧
  (let w21 := setCells (newA w19) [.int .i64 x_138, .int .i64 x_139, .slice a_140 l_141 c_142] 0 w20;
  trystlaw19_RatchetExact.c3 R r4 p7 k10 s11 e12 m13 at14 t15 f16 x_137 (newA w19) x_143 w21))) ∧
  (let w22 := w18.drew.alloc (.cells #[.int .i64 0, .int .i64 0, .slice none 0 0] 104);
  S_128 w22 ∧
  CallsV Tryd.prog n_trystref15_Take #[.pointer p_130, .agg #[.int .i64 x_131, .int .i64 x_132, .slice a_133 l_134 c_135], .int .i64 n2] w22 (fun v_144 w23 =>
  ∃ x_145 : Int, ∃ x_146 : Int, ∃ x_147 : Int, ∃ (a_148 : Option Addr) (l_149 c_150 : Nat), ∃ x_151 : Int, v_144 = .tuple #[.int .i64 x_145, .agg #[.int .i64 x_146, .int .i64 x_147, .slice a_148 l_149 c_150], .int .i64 x_151] ∧
  (∀ j, j < 3 → Wr w23 ((newA w18.drew).add j)) ∧
  (let w24 := setCells (newA w18.drew) [.int .i64 x_146, .int .i64 x_147, .slice a_148 l_149 c_150] 0 w23;
  trystlaw19_RatchetExact.c3 R r4 p7 k10 s11 e12 m13 at14 t15 f16 x_145 (newA w18.drew) x_151 w24)))))

def trystlaw19_RatchetExact.c5 (R : Value → World → Prop) (n2 : Int) (r4 : Addr) (p7 : Option Addr) (in9 : Addr) (k10 : Int) (s11 : Addr) (e12 : Int) (w : World) : Prop :=
  ∃ S_152 : World → Prop, S_152 w.drew ∧
  ∃ q_153 : Addr, p7 = some q_153 ∧
  ∃ p_154 : Option Addr, (∀ x, S_152 x → x.cell? q_153 = some (.pointer p_154)) ∧
  ∃ x_155 : Int, (∀ x, S_152 x → x.cell? in9 = some (.int .i64 x_155)) ∧
  ∃ x_156 : Int, (∀ x, S_152 x → x.cell? (in9.add 1) = some (.int .i64 x_156)) ∧
  ∃ (a_157 : Option Addr) (l_158 c_159 : Nat), (∀ x, S_152 x → x.cell? (in9.add 2) = some (.slice a_157 l_158 c_159)) ∧
  (CallsV Tryd.prog n_ratchet_Send #[.pointer p_154, .agg #[.int .i64 x_155, .int .i64 x_156, .slice a_157 l_158 c_159]] w.drew (fun v_160 w25 =>
  ∃ x_161 : Int, ∃ x_162 : Int, ∃ x_163 : Int, ∃ x_164 : Int, ∃ (a_165 : Option Addr) (l_166 c_167 : Nat), ∃ x_168 : Int, v_160 = .tuple #[.int .i64 x_161, .int .i64 x_162, .agg #[.int .i64 x_163, .int .i64 x_164, .slice a_165 l_166 c_167], .int .i64 x_168] ∧
  let w26 := w25.alloc (.cells #[.int .i64 0, .int .i64 0, .slice none 0 0] 104);
  (∀ j, j < 3 → Wr w26 ((newA w25).add j)) ∧
  (let w27 := setCells (newA w25) [.int .i64 x_163, .int .i64 x_164, .slice a_165 l_166 c_167] 0 w26;
  trystlaw19_RatchetExact.c4 R n2 r4 p7 in9 k10 s11 e12 x_161 x_162 (newA w25) x_168 w27))) ∧
  (let w28 := w.drew.alloc (.cells #[.int .i64 0, .int .i64 0, .slice none 0 0] 104);
  S_152 w28 ∧
  CallsV Tryd.prog n_ratchet_Send #[.pointer p_154, .agg #[.int .i64 x_155, .int .i64 x_156, .slice a_157 l_158 c_159]] w28 (fun v_169 w29 =>
  ∃ x_170 : Int, ∃ x_171 : Int, ∃ x_172 : Int, ∃ x_173 : Int, ∃ (a_174 : Option Addr) (l_175 c_176 : Nat), ∃ x_177 : Int, v_169 = .tuple #[.int .i64 x_170, .int .i64 x_171, .agg #[.int .i64 x_172, .int .i64 x_173, .slice a_174 l_175 c_176], .int .i64 x_177] ∧
  (∀ j, j < 3 → Wr w29 ((newA w.drew).add j)) ∧
  (let w30 := setCells (newA w.drew) [.int .i64 x_172, .int .i64 x_173, .slice a_174 l_175 c_176] 0 w29;
  trystlaw19_RatchetExact.c4 R n2 r4 p7 in9 k10 s11 e12 x_170 x_171 (newA w.drew) x_177 w30)))

def trystlaw19_RatchetExact.c6 (R : Value → World → Prop) (n2 : Int) (r4 : Addr) (p7 : Option Addr) (in9 : Addr) (w : World) : Prop :=
  ∃ S_178 : World → Prop, S_178 w.drew ∧
  ∃ q_179 : Addr, p7 = some q_179 ∧
  ∃ p_180 : Option Addr, (∀ x, S_178 x → x.cell? q_179 = some (.pointer p_180)) ∧
  ∃ x_181 : Int, (∀ x, S_178 x → x.cell? in9 = some (.int .i64 x_181)) ∧
  ∃ x_182 : Int, (∀ x, S_178 x → x.cell? (in9.add 1) = some (.int .i64 x_182)) ∧
  ∃ (a_183 : Option Addr) (l_184 c_185 : Nat), (∀ x, S_178 x → x.cell? (in9.add 2) = some (.slice a_183 l_184 c_185)) ∧
  (CallsV Tryd.prog n_ratchet_Take #[.pointer p_180, .agg #[.int .i64 x_181, .int .i64 x_182, .slice a_183 l_184 c_185], .int .i64 n2] w.drew (fun v_186 w31 =>
  ∃ x_187 : Int, ∃ x_188 : Int, ∃ x_189 : Int, ∃ (a_190 : Option Addr) (l_191 c_192 : Nat), ∃ x_193 : Int, v_186 = .tuple #[.int .i64 x_187, .agg #[.int .i64 x_188, .int .i64 x_189, .slice a_190 l_191 c_192], .int .i64 x_193] ∧
  let w32 := w31.alloc (.cells #[.int .i64 0, .int .i64 0, .slice none 0 0] 104);
  (∀ j, j < 3 → Wr w32 ((newA w31).add j)) ∧
  (let w33 := setCells (newA w31) [.int .i64 x_188, .int .i64 x_189, .slice a_190 l_191 c_192] 0 w32;
  trystlaw19_RatchetExact.c5 R n2 r4 p7 in9 x_187 (newA w31) x_193 w33))) ∧
  (let w34 := w.drew.alloc (.cells #[.int .i64 0, .int .i64 0, .slice none 0 0] 104);
  S_178 w34 ∧
  CallsV Tryd.prog n_ratchet_Take #[.pointer p_180, .agg #[.int .i64 x_181, .int .i64 x_182, .slice a_183 l_184 c_185], .int .i64 n2] w34 (fun v_194 w35 =>
  ∃ x_195 : Int, ∃ x_196 : Int, ∃ x_197 : Int, ∃ (a_198 : Option Addr) (l_199 c_200 : Nat), ∃ x_201 : Int, v_194 = .tuple #[.int .i64 x_195, .agg #[.int .i64 x_196, .int .i64 x_197, .slice a_198 l_199 c_200], .int .i64 x_201] ∧
  (∀ j, j < 3 → Wr w35 ((newA w.drew).add j)) ∧
  (let w36 := setCells (newA w.drew) [.int .i64 x_196, .int .i64 x_197, .slice a_198 l_199 c_200] 0 w35;
  trystlaw19_RatchetExact.c5 R n2 r4 p7 in9 x_195 (newA w.drew) x_201 w36)))

def trystlaw19_RatchetExact.c7 (R : Value → World → Prop) (l0 : Sl) (n2 : Int) (r4 : Addr) (w : World) : Prop :=
  CallsV Tryd.prog n_trystlaw10_Pairs #[.slice l0.a l0.len l0.cap] w (fun v_202 w37 =>
  ∃ p_203 : Option Addr, ∃ b_204 : Bool, v_202 = .tuple #[.pointer p_203, .bool b_204] ∧
  cond (!b_204)
  (R (.bool false) w37)
  (∃ x_205 : Int, w37.cell? r4 = some (.int .i64 x_205) ∧
  ∃ x_206 : Int, w37.cell? (r4.add 1) = some (.int .i64 x_206) ∧
  ∃ (a_207 : Option Addr) (l_208 c_209 : Nat), w37.cell? (r4.add 2) = some (.slice a_207 l_208 c_209) ∧
  CallsV Tryd.prog n_trystkeep_TwinRatchet #[.agg #[.int .i64 x_205, .int .i64 x_206, .slice a_207 l_208 c_209]] w37 (fun v_210 w38 =>
  ∃ x_211 : Int, ∃ x_212 : Int, ∃ (a_213 : Option Addr) (l_214 c_215 : Nat), v_210 = .agg #[.int .i64 x_211, .int .i64 x_212, .slice a_213 l_214 c_215] ∧
  let w39 := w38.alloc (.cells #[.int .i64 0, .int .i64 0, .slice none 0 0] 104);
  (∀ j, j < 3 → Wr w39 ((newA w38).add j)) ∧
  (let w40 := setCells (newA w38) [.int .i64 x_211, .int .i64 x_212, .slice a_213 l_214 c_215] 0 w39;
  ∃ S_216 : World → Prop, S_216 w40.drew ∧
  ∃ x_217 : Int, (∀ x, S_216 x → x.cell? (newA w38) = some (.int .i64 x_217)) ∧
  ∃ x_218 : Int, (∀ x, S_216 x → x.cell? ((newA w38).add 1) = some (.int .i64 x_218)) ∧
  ∃ (a_219 : Option Addr) (l_220 c_221 : Nat), (∀ x, S_216 x → x.cell? ((newA w38).add 2) = some (.slice a_219 l_220 c_221)) ∧
  ∃ x_222 : Int, (∀ x, S_216 x → x.cell? r4 = some (.int .i64 x_222)) ∧
  ∃ x_223 : Int, (∀ x, S_216 x → x.cell? (r4.add 1) = some (.int .i64 x_223)) ∧
  ∃ (a_224 : Option Addr) (l_225 c_226 : Nat), (∀ x, S_216 x → x.cell? (r4.add 2) = some (.slice a_224 l_225 c_226)) ∧
  CallsV Tryd.prog n_ratchet_Check #[.agg #[.int .i64 x_217, .int .i64 x_218, .slice a_219 l_220 c_221]] w40.drew (fun v_227 w41 =>
  ∃ x_228 : Int, v_227 = .int .i64 x_228 ∧
  S_216 w41 ∧
  CallsV Tryd.prog n_trystref15_Ratchet #[.agg #[.int .i64 x_222, .int .i64 x_223, .slice a_224 l_225 c_226]] w41 (fun v_229 w42 =>
  ∃ b_230 : Bool, v_229 = .bool b_230 ∧
  S_216 w42 ∧
  cond (!(((x_228 : Int) == 0) == b_230))
  (R (.bool false) w42)
  (∃ x_231 : Int, (∀ x, S_216 x → x.cell? r4 = some (.int .i64 x_231)) ∧
  ∃ x_232 : Int, (∀ x, S_216 x → x.cell? (r4.add 1) = some (.int .i64 x_232)) ∧
  ∃ (a_233 : Option Addr) (l_234 c_235 : Nat), (∀ x, S_216 x → x.cell? (r4.add 2) = some (.slice a_233 l_234 c_235)) ∧
  CallsV Tryd.prog n_trystref15_Ratchet #[.agg #[.int .i64 x_231, .int .i64 x_232, .slice a_233 l_234 c_235]] w42 (fun v_236 w43 =>
  ∃ b_237 : Bool, v_236 = .bool b_237 ∧
  S_216 w43 ∧
  cond (!b_237)
  (∃ x_238 : Int, (∀ x, S_216 x → x.cell? (newA w38) = some (.int .i64 x_238)) ∧
  ∃ x_239 : Int, (∀ x, S_216 x → x.cell? ((newA w38).add 1) = some (.int .i64 x_239)) ∧
  ∃ (a_240 : Option Addr) (l_241 c_242 : Nat), (∀ x, S_216 x → x.cell? ((newA w38).add 2) = some (.slice a_240 l_241 c_242)) ∧
  CallsV Tryd.prog n_ratchet_Check #[.agg #[.int .i64 x_238, .int .i64 x_239, .slice a_240 l_241 c_242]] w43 (fun v_243 w44 =>
  ∃ x_244 : Int, v_243 = .int .i64 x_244 ∧
  cond ((x_244 : Int) != 1)
  (R (.bool false) w44)
  (CallsV Tryd.prog n_ratchet_New #[.int .i64 n2] w44 (fun v_245 w45 =>
  ∃ x_246 : Int, ∃ x_247 : Int, ∃ (a_248 : Option Addr) (l_249 c_250 : Nat), v_245 = .agg #[.int .i64 x_246, .int .i64 x_247, .slice a_248 l_249 c_250] ∧
  CallsV Tryd.prog n_trystkeep_Ratchet #[.agg #[.int .i64 x_246, .int .i64 x_247, .slice a_248 l_249 c_250], .agg #[.int .i64 n2, .int .i64 0, .slice none 0 0]] w45 (fun v_251 w46 =>
  ∃ b_252 : Bool, v_251 = .bool b_252 ∧
  cond (!b_252)
  (R (.bool false) w46)
  (trystlaw19_RatchetExact.c6 R n2 r4 p_203 (newA w38) w46))))))
  (CallsV Tryd.prog n_ratchet_New #[.int .i64 n2] w43 (fun v_253 w47 =>
  ∃ x_254 : Int, ∃ x_255 : Int, ∃ (a_256 : Option Addr) (l_257 c_258 : Nat), v_253 = .agg #[.int .i64 x_254, .int .i64 x_255, .slice a_256 l_257 c_258] ∧
  CallsV Tryd.prog n_trystkeep_Ratchet #[.agg #[.int .i64 x_254, .int .i64 x_255, .slice a_256 l_257 c_258], .agg #[.int .i64 n2, .int .i64 0, .slice none 0 0]] w47 (fun v_259 w48 =>
  ∃ b_260 : Bool, v_259 = .bool b_260 ∧
  cond (!b_260)
  (R (.bool false) w48)
  (trystlaw19_RatchetExact.c6 R n2 r4 p_203 (newA w38) w48))))))))))))

def trystlaw19_RatchetExact.main (R : Value → World → Prop) (l0 : Sl) (r1_0 : Int) (r1_1 : Int) (r1_2 : Sl) (n2 : Int) (w : World) : Prop :=
  let w49 := w.alloc (.cells #[.int .i64 r1_0, .int .i64 r1_1, .slice r1_2.a r1_2.len r1_2.cap] 104);
  CallsV Tryd.prog n_trystlaw10_Heavy #[.slice l0.a l0.len l0.cap] w49 (fun v_261 w50 =>
  ∃ b_262 : Bool, v_261 = .bool b_262 ∧
  cond b_262
  (R (.bool true) w50)
  (∃ x_263 : Int, w50.cell? (newA w) = some (.int .i64 x_263) ∧
  ∃ x_264 : Int, w50.cell? ((newA w).add 1) = some (.int .i64 x_264) ∧
  ∃ (a_265 : Option Addr) (l_266 c_267 : Nat), w50.cell? ((newA w).add 2) = some (.slice a_265 l_266 c_267) ∧
  CallsV Tryd.prog n_trystlaw19_heavy #[.agg #[.int .i64 x_263, .int .i64 x_264, .slice a_265 l_266 c_267]] w50 (fun v_268 w51 =>
  ∃ b_269 : Bool, v_268 = .bool b_269 ∧
  cond b_269
  (R (.bool true) w51)
  (trystlaw19_RatchetExact.c7 R l0 n2 (newA w) w51))))

def trystlaw19_RatchetExact.J0 (R : Value → World → Prop) (k : Nat) (fr : Fr) (w : World) : Prop :=
  cond (Nat.beq k 7) (dec [(0, .slice), (2, (.int .i64)), (4, .addr)] fr fun x => trystlaw19_RatchetExact.c7 R x.1 x.2.1 x.2.2 w) (cond (Nat.beq k 6) (dec [(2, (.int .i64)), (4, .addr), (7, .ptr), (9, .addr)] fr fun x => trystlaw19_RatchetExact.c6 R x.1 x.2.1 x.2.2.1 x.2.2.2 w) (cond (Nat.beq k 5) (dec [(2, (.int .i64)), (4, .addr), (7, .ptr), (9, .addr), (10, (.int .i64)), (11, .addr), (12, (.int .i64))] fr fun x => trystlaw19_RatchetExact.c5 R x.1 x.2.1 x.2.2.1 x.2.2.2.1 x.2.2.2.2.1 x.2.2.2.2.2.1 x.2.2.2.2.2.2 w) (cond (Nat.beq k 4) (dec [(2, (.int .i64)), (4, .addr), (7, .ptr), (9, .addr), (10, (.int .i64)), (11, .addr), (12, (.int .i64)), (13, (.int .i64)), (14, (.int .i64)), (15, .addr), (16, (.int .i64))] fr fun x => trystlaw19_RatchetExact.c4 R x.1 x.2.1 x.2.2.1 x.2.2.2.1 x.2.2.2.2.1 x.2.2.2.2.2.1 x.2.2.2.2.2.2.1 x.2.2.2.2.2.2.2.1 x.2.2.2.2.2.2.2.2.1 x.2.2.2.2.2.2.2.2.2.1 x.2.2.2.2.2.2.2.2.2.2 w) (cond (Nat.beq k 3) (dec [(4, .addr), (7, .ptr), (10, (.int .i64)), (11, .addr), (12, (.int .i64)), (13, (.int .i64)), (14, (.int .i64)), (15, .addr), (16, (.int .i64)), (17, (.int .i64)), (18, .addr), (19, (.int .i64))] fr fun x => trystlaw19_RatchetExact.c3 R x.1 x.2.1 x.2.2.1 x.2.2.2.1 x.2.2.2.2.1 x.2.2.2.2.2.1 x.2.2.2.2.2.2.1 x.2.2.2.2.2.2.2.1 x.2.2.2.2.2.2.2.2.1 x.2.2.2.2.2.2.2.2.2.1 x.2.2.2.2.2.2.2.2.2.2.1 x.2.2.2.2.2.2.2.2.2.2.2 w) (cond (Nat.beq k 2) (dec [(4, .addr), (7, .ptr), (13, (.int .i64)), (14, (.int .i64)), (15, .addr), (16, (.int .i64)), (18, .addr)] fr fun x => trystlaw19_RatchetExact.c2 R x.1 x.2.1 x.2.2.1 x.2.2.2.1 x.2.2.2.2.1 x.2.2.2.2.2.1 x.2.2.2.2.2.2 w) (cond (Nat.beq k 1) (dec [] fr fun x => trystlaw19_RatchetExact.c1 R w) (False)))))))

set_option maxRecDepth 100000 in
theorem trystlaw19_RatchetExact.lift {R : Value → World → Prop} {l0 : Sl} {r1_0 : Int} {r1_1 : Int} {r1_2 : Sl} {n2 : Int} {w : World} (h : trystlaw19_RatchetExact.main R l0 r1_0 r1_1 r1_2 n2 w) : CallsV Tryd.prog n_trystlaw19_RatchetExact #[.slice l0.a l0.len l0.cap, .agg #[.int .i64 r1_0, .int .i64 r1_1, .slice r1_2.a r1_2.len r1_2.cap], .int .i64 n2] w R :=
  liftCalls (c := (.seq (.leaf (cL (bd Tryd.f16))) (.seq (.seq (.leaf (cL (cL (cR (bd Tryd.f16))))) (.cnd (.tmp 26) (.seq (.leaf (cL (cT (cR (cL (cR (bd Tryd.f16))))))) (.leaf (cR (cT (cR (cL (cR (bd Tryd.f16)))))))) (.leaf (cE (cR (cL (cR (bd Tryd.f16)))))))) (.cut 7 (.seq (.leaf (cL (cR (cR (bd Tryd.f16))))) (.seq (.seq (.leaf (cL (cL (cR (cR (cR (bd Tryd.f16))))))) (.cnd (.tmp 33) (.seq (.leaf (cL (cT (cR (cL (cR (cR (cR (bd Tryd.f16))))))))) (.leaf (cR (cT (cR (cL (cR (cR (cR (bd Tryd.f16)))))))))) (.leaf (cE (cR (cL (cR (cR (cR (bd Tryd.f16)))))))))) (.seq (.leaf (cL (cR (cR (cR (cR (bd Tryd.f16))))))) (.seq (.seq (.leaf (cL (cL (cR (cR (cR (cR (cR (bd Tryd.f16))))))))) (.cnd (.tmp 59) (.seq (.leaf (cL (cT (cR (cL (cR (cR (cR (cR (cR (bd Tryd.f16))))))))))) (.leaf (cR (cT (cR (cL (cR (cR (cR (cR (cR (bd Tryd.f16)))))))))))) (.leaf (cE (cR (cL (cR (cR (cR (cR (cR (bd Tryd.f16)))))))))))) (.cut 6 (.seq (.leaf (cL (cR (cR (cR (cR (cR (cR (bd Tryd.f16))))))))) (.cut 5 (.seq (.leaf (cL (cR (cR (cR (cR (cR (cR (cR (bd Tryd.f16)))))))))) (.cut 4 (.seq (.seq (.leaf (cL (cL (cR (cR (cR (cR (cR (cR (cR (cR (bd Tryd.f16)))))))))))) (.cnd (.tmp 85) (.seq (.leaf (cL (cT (cR (cL (cR (cR (cR (cR (cR (cR (cR (cR (bd Tryd.f16)))))))))))))) (.leaf (cR (cT (cR (cL (cR (cR (cR (cR (cR (cR (cR (cR (bd Tryd.f16))))))))))))))) (.leaf (cE (cR (cL (cR (cR (cR (cR (cR (cR (cR (cR (bd Tryd.f16))))))))))))))) (.seq (.leaf (cL (cR (cR (cR (cR (cR (cR (cR (cR (cR (bd Tryd.f16)))))))))))) (.cut 3 (.seq (.seq (.leaf (cL (cL (cR (cR (cR (cR (cR (cR (cR (cR (cR (cR (bd Tryd.f16)))))))))))))) (.cnd (.tmp 132) (.seq (.leaf (cL (cT (cR (cL (cR (cR (cR (cR (cR (cR (cR (cR (cR (cR (bd Tryd.f16)))))))))))))))) (.leaf (cR (cT (cR (cL (cR (cR (cR (cR (cR (cR (cR (cR (cR (cR (bd Tryd.f16))))))))))))))))) (.leaf (cE (cR (cL (cR (cR (cR (cR (cR (cR (cR (cR (cR (cR (bd Tryd.f16))))))))))))))))) (.cut 2 (.seq (.leaf (cL (cR (cR (cR (cR (cR (cR (cR (cR (cR (cR (cR (bd Tryd.f16)))))))))))))) (.seq (.seq (.leaf (cL (cL (cR (cR (cR (cR (cR (cR (cR (cR (cR (cR (cR (cR (bd Tryd.f16)))))))))))))))) (.cnd (.tmp 188) (.seq (.leaf (cL (cT (cR (cL (cR (cR (cR (cR (cR (cR (cR (cR (cR (cR (cR (cR (bd Tryd.f16)))))))))))))))))) (.leaf (cR (cT (cR (cL (cR (cR (cR (cR (cR (cR (cR (cR (cR (cR (cR (cR (bd Tryd.f16))))))))))))))))))) (.leaf (cE (cR (cL (cR (cR (cR (cR (cR (cR (cR (cR (cR (cR (cR (cR (bd Tryd.f16))))))))))))))))))) (.cut 1 (.seq (.leaf (cL (cR (cR (cR (cR (cR (cR (cR (cR (cR (cR (cR (cR (cR (bd Tryd.f16)))))))))))))))) (.leaf (cR (cR (cR (cR (cR (cR (cR (cR (cR (cR (cR (cR (cR (cR (bd Tryd.f16)))))))))))))))))))))))))))))))))))))) (J := trystlaw19_RatchetExact.J0 R) LfYtoclhecldmahiaaDoor.mixed Tryd.func16 (by kernel_rfl) (by kernel_rfl) (mkSeq (mkSeq (mkCut (cutDef [(0, .slice), (2, (.int .i64)), (4, .addr)] (fun x w => trystlaw19_RatchetExact.c7 R x.1 x.2.1 x.2.2 w) (fun _ _ => by kernel_rfl) (fun _ _ => by kernel_rfl)) (mkSeq (mkSeq (mkSeq (mkSeq (mkCut (cutDef [(2, (.int .i64)), (4, .addr), (7, .ptr), (9, .addr)] (fun x w => trystlaw19_RatchetExact.c6 R x.1 x.2.1 x.2.2.1 x.2.2.2 w) (fun _ _ => by kernel_rfl) (fun _ _ => by kernel_rfl)) (mkSeq (mkCut (cutDef [(2, (.int .i64)), (4, .addr), (7, .ptr), (9, .addr), (10, (.int .i64)), (11, .addr), (12, (.int .i64))] (fun x w => trystlaw19_RatchetExact.c5 R x.1 x.2.1 x.2.2.1 x.2.2.2.1 x.2.2.2.2.1 x.2.2.2.2.2.1 x.2.2.2.2.2.2 w) (fun _ _ => by kernel_rfl) (fun _ _ => by kernel_rfl)) (mkSeq (mkCut (cutDef [(2, (.int .i64)), (4, .addr), (7, .ptr), (9, .addr), (10, (.int .i64)), (11, .addr), (12, (.int .i64)), (13, (.int .i64)), (14, (.int .i64)), (15, .addr), (16, (.int .i64))] (fun x w => trystlaw19_RatchetExact.c4 R x.1 x.2.1 x.2.2.1 x.2.2.2.1 x.2.2.2.2.1 x.2.2.2.2.2.1 x.2.2.2.2.2.2.1 x.2.2.2.2.2.2.2.1 x.2.2.2.2.2.2.2.2.1 x.2.2.2.2.2.2.2.2.2.1 x.2.2.2.2.2.2.2.2.2.2 w) (fun _ _ => by kernel_rfl) (fun _ _ => by kernel_rfl)) (mkSeq (mkSeq (mkCut (cutDef [(4, .addr), (7, .ptr), (10, (.int .i64)), (11, .addr), (12, (.int .i64)), (13, (.int .i64)), (14, (.int .i64)), (15, .addr), (16, (.int .i64)), (17, (.int .i64)), (18, .addr), (19, (.int .i64))] (fun x w => trystlaw19_RatchetExact.c3 R x.1 x.2.1 x.2.2.1 x.2.2.2.1 x.2.2.2.2.1 x.2.2.2.2.2.1 x.2.2.2.2.2.2.1 x.2.2.2.2.2.2.2.1 x.2.2.2.2.2.2.2.2.1 x.2.2.2.2.2.2.2.2.2.1 x.2.2.2.2.2.2.2.2.2.2.1 x.2.2.2.2.2.2.2.2.2.2.2 w) (fun _ _ => by kernel_rfl) (fun _ _ => by kernel_rfl)) (mkSeq (mkCut (cutDef [(4, .addr), (7, .ptr), (13, (.int .i64)), (14, (.int .i64)), (15, .addr), (16, (.int .i64)), (18, .addr)] (fun x w => trystlaw19_RatchetExact.c2 R x.1 x.2.1 x.2.2.1 x.2.2.2.1 x.2.2.2.2.1 x.2.2.2.2.2.1 x.2.2.2.2.2.2 w) (fun _ _ => by kernel_rfl) (fun _ _ => by kernel_rfl)) (mkSeq (mkSeq (mkCut (cutDef [] (fun x w => trystlaw19_RatchetExact.c1 R w) (fun _ _ => by kernel_rfl) (fun _ _ => by kernel_rfl)) (mkSeq mkLeaf mkLeaf)) (mkSeq (mkCnd (mkSeq mkLeaf mkLeaf) mkLeaf) mkLeaf)) mkLeaf)) (mkSeq (mkCnd (mkSeq mkLeaf mkLeaf) mkLeaf) mkLeaf))) mkLeaf) (mkSeq (mkCnd (mkSeq mkLeaf mkLeaf) mkLeaf) mkLeaf))) mkLeaf)) mkLeaf)) (mkSeq (mkCnd (mkSeq mkLeaf mkLeaf) mkLeaf) mkLeaf)) mkLeaf) (mkSeq (mkCnd (mkSeq mkLeaf mkLeaf) mkLeaf) mkLeaf)) mkLeaf)) (mkSeq (mkCnd (mkSeq mkLeaf mkLeaf) mkLeaf) mkLeaf)) mkLeaf) (kcast (by kernel_rfl) h)

/-! trystlaw19_heavy -/
def trystlaw19_heavy.main (R : Value → World → Prop) (r0_0 : Int) (r0_1 : Int) (r0_2 : Sl) (w : World) : Prop :=
  let w1 := w.alloc (.cells #[.int .i64 r0_0, .int .i64 r0_1, .slice r0_2.a r0_2.len r0_2.cap] 104);
  ∃ (a_1 : Option Addr) (l_2 c_3 : Nat), w1.cell? ((newA w).add 2) = some (.slice a_1 l_2 c_3) ∧
  (let t2_3 : Bool := (decide ((((l_2 : Nat) : Int) : Int) > 100));
  R (.bool t2_3) w1)

def trystlaw19_heavy.J0 (_ : Value → World → Prop) (_ : Nat) (_ : Fr) (_ : World) : Prop := False

set_option maxRecDepth 100000 in
theorem trystlaw19_heavy.lift {R : Value → World → Prop} {r0_0 : Int} {r0_1 : Int} {r0_2 : Sl} {w : World} (h : trystlaw19_heavy.main R r0_0 r0_1 r0_2 w) : CallsV Tryd.prog n_trystlaw19_heavy #[.agg #[.int .i64 r0_0, .int .i64 r0_1, .slice r0_2.a r0_2.len r0_2.cap]] w R :=
  liftCalls (c := (.seq (.leaf (cL (bd Tryd.f80))) (.seq (.leaf (cL (cR (bd Tryd.f80)))) (.leaf (cR (cR (bd Tryd.f80))))))) (J := trystlaw19_heavy.J0 R) LfYtoclhecldmahiaaDoor.mixed Tryd.func80 (by kernel_rfl) (by kernel_rfl) (mkSeq (mkSeq mkLeaf mkLeaf) mkLeaf) (kcast (by kernel_rfl) h)

/-! trystkeep_TwinRatchet -/
def trystkeep_TwinRatchet.main (R : Value → World → Prop) (r0_0 : Int) (r0_1 : Int) (r0_2 : Sl) (w : World) : Prop :=
  let w1 := w.alloc (.cells #[.int .i64 r0_0, .int .i64 r0_1, .slice r0_2.a r0_2.len r0_2.cap] 104);
  let w2 := w1.alloc (.cells #[.int .i64 0, .int .i64 0, .slice none 0 0] 104);
  ∃ (a_1 : Option Addr) (l_2 c_3 : Nat), w2.cell? ((newA w).add 2) = some (.slice a_1 l_2 c_3) ∧
  CallsV Tryd.prog n_trystkeep_TwinKeys #[.slice a_1 l_2 c_3] w2 (fun v_4 w3 =>
  ∃ (a_5 : Option Addr) (l_6 c_7 : Nat), v_4 = .slice a_5 l_6 c_7 ∧
  Wr w3 ((newA w).add 2) ∧
  (let w4 := w3.setCell ((newA w).add 2) (.slice a_5 l_6 c_7);
  ∃ x_8 : Int, w4.cell? (newA w) = some (.int .i64 x_8) ∧
  ∃ x_9 : Int, w4.cell? ((newA w).add 1) = some (.int .i64 x_9) ∧
  ∃ (a_10 : Option Addr) (l_11 c_12 : Nat), w4.cell? ((newA w).add 2) = some (.slice a_10 l_11 c_12) ∧
  (∀ j, j < 3 → Wr w4 ((newA w1).add j)) ∧
  (let w5 := setCells (newA w1) [.int .i64 x_8, .int .i64 x_9, .slice a_10 l_11 c_12] 0 w4;
  ∃ x_13 : Int, w5.cell? (newA w1) = some (.int .i64 x_13) ∧
  ∃ x_14 : Int, w5.cell? ((newA w1).add 1) = some (.int .i64 x_14) ∧
  ∃ (a_15 : Option Addr) (l_16 c_17 : Nat), w5.cell? ((newA w1).add 2) = some (.slice a_15 l_16 c_17) ∧
  R (.agg #[.int .i64 x_13, .int .i64 x_14, .slice a_15 l_16 c_17]) w5)))

def trystkeep_TwinRatchet.J0 (_ : Value → World → Prop) (_ : Nat) (_ : Fr) (_ : World) : Prop := False

set_option maxRecDepth 100000 in
theorem trystkeep_TwinRatchet.lift {R : Value → World → Prop} {r0_0 : Int} {r0_1 : Int} {r0_2 : Sl} {w : World} (h : trystkeep_TwinRatchet.main R r0_0 r0_1 r0_2 w) : CallsV Tryd.prog n_trystkeep_TwinRatchet #[.agg #[.int .i64 r0_0, .int .i64 r0_1, .slice r0_2.a r0_2.len r0_2.cap]] w R :=
  liftCalls (c := (.seq (.leaf (cL (bd Tryd.f81))) (.seq (.leaf (cL (cR (bd Tryd.f81)))) (.seq (.leaf (cL (cR (cR (bd Tryd.f81))))) (.leaf (cR (cR (cR (bd Tryd.f81))))))))) (J := trystkeep_TwinRatchet.J0 R) LfYtoclhecldmahiaaDoor.mixed Tryd.func81 (by kernel_rfl) (by kernel_rfl) (mkSeq (mkSeq (mkSeq mkLeaf mkLeaf) mkLeaf) mkLeaf) (kcast (by kernel_rfl) h)

/-! trystref15_Ratchet -/
def trystref15_Ratchet.b1 (R : Value → World → Prop) (N1 : Addr → Int → World → Prop) (r1 : Addr) (k3 : Int) (w : World) : Prop :=
  ∃ (a_1 : Option Addr) (l_2 c_3 : Nat), w.cell? (r1.add 2) = some (.slice a_1 l_2 c_3) ∧
  cond (decide ((k3 : Int) < ((l_2 : Nat) : Int)))
  (∃ (a_4 : Option Addr) (l_5 c_6 : Nat), w.cell? (r1.add 2) = some (.slice a_4 l_5 c_6) ∧
  0 ≤ (k3 : Int) ∧ k3 < ((l_5 : Nat) : Int) ∧ ∃ q_7 : Addr, a_4 = some q_7 ∧
  ∃ x_8 : Int, w.cell? (q_7.add ((k3 : Int).toNat * 2)) = some (.int .i64 x_8) ∧
  cond (decide ((x_8 : Int) < 0))
  (R (.bool false) w.drew)
  (∃ (a_9 : Option Addr) (l_10 c_11 : Nat), w.cell? (r1.add 2) = some (.slice a_9 l_10 c_11) ∧
  0 ≤ (k3 : Int) ∧ k3 < ((l_10 : Nat) : Int) ∧ ∃ q_12 : Addr, a_9 = some q_12 ∧
  ∃ x_13 : Int, w.cell? (q_12.add ((k3 : Int).toNat * 2)) = some (.int .i64 x_13) ∧
  ∃ x_14 : Int, w.cell? (r1.add 1) = some (.int .i64 x_14) ∧
  cond (decide ((x_13 : Int) ≥ x_14))
  (R (.bool false) w.drew)
  (cond (decide ((k3 : Int) > 0))
  (∃ (a_15 : Option Addr) (l_16 c_17 : Nat), w.cell? (r1.add 2) = some (.slice a_15 l_16 c_17) ∧
  0 ≤ (k3 : Int) ∧ k3 < ((l_16 : Nat) : Int) ∧ ∃ q_18 : Addr, a_15 = some q_18 ∧
  ∃ x_19 : Int, w.cell? (q_18.add ((k3 : Int).toNat * 2)) = some (.int .i64 x_19) ∧
  ∃ (a_20 : Option Addr) (l_21 c_22 : Nat), w.cell? (r1.add 2) = some (.slice a_20 l_21 c_22) ∧
  0 ≤ ((IntKind.i64.wrap (k3 - 1)) : Int) ∧ (IntKind.i64.wrap (k3 - 1)) < ((l_21 : Nat) : Int) ∧ ∃ q_23 : Addr, a_20 = some q_23 ∧
  ∃ x_24 : Int, w.cell? (q_23.add (ixOff ((IntKind.i64.wrap (k3 - 1)) : Int).toNat 2)) = some (.int .i64 x_24) ∧
  cond (decide ((x_19 : Int) ≤ x_24))
  (R (.bool false) w.drew)
  ((let k3_24 : Int := (IntKind.i64.wrap (k3 + 1));
  N1 r1 k3_24 w.drew)))
  ((let k3_25 : Int := (IntKind.i64.wrap (k3 + 1));
  N1 r1 k3_25 w.drew)))))
  (R (.bool true) w)

def trystref15_Ratchet.l1 (R : Value → World → Prop) (r1 : Addr) (k3 : Int) (w : World) : Prop :=
  ∃ (I : Int → World → Prop) (μ : Int → World → Nat), I k3 w ∧ ∀ s w, I s w → trystref15_Ratchet.b1 R (fun r1' k3' w' => (r1' = r1 ∧ I k3' w') ∧ μ k3' w' < μ s w) r1 s w

def trystref15_Ratchet.c2 (R : Value → World → Prop) (r1 : Addr) (w : World) : Prop :=
  trystref15_Ratchet.l1 R r1 0 w

def trystref15_Ratchet.main (R : Value → World → Prop) (r0_0 : Int) (r0_1 : Int) (r0_2 : Sl) (w : World) : Prop :=
  let w1 := w.alloc (.cells #[.int .i64 r0_0, .int .i64 r0_1, .slice r0_2.a r0_2.len r0_2.cap] 104);
  ∃ x_27 : Int, w1.cell? ((newA w).add 1) = some (.int .i64 x_27) ∧
  cond (decide ((x_27 : Int) < 0))
  (R (.bool false) w1)
  (∃ x_28 : Int, w1.cell? ((newA w).add 1) = some (.int .i64 x_28) ∧
  cond (decide ((x_28 : Int) > 1073741824))
  (R (.bool false) w1)
  (∃ (a_29 : Option Addr) (l_30 c_31 : Nat), w1.cell? ((newA w).add 2) = some (.slice a_29 l_30 c_31) ∧
  cond (decide ((((l_30 : Nat) : Int) : Int) > 16))
  (R (.bool false) w1)
  (trystref15_Ratchet.c2 R (newA w) w1)))

def trystref15_Ratchet.J0 (R : Value → World → Prop) (k : Nat) (fr : Fr) (w : World) : Prop :=
  cond (Nat.beq k 2) (dec [(1, .addr)] fr fun x => trystref15_Ratchet.c2 R x w) (cond (Nat.beq k 1) (dec [(1, .addr), (3, (.int .i64))] fr fun x => trystref15_Ratchet.l1 R x.1 x.2 w) (False))

set_option maxRecDepth 100000 in
theorem trystref15_Ratchet.lift {R : Value → World → Prop} {r0_0 : Int} {r0_1 : Int} {r0_2 : Sl} {w : World} (h : trystref15_Ratchet.main R r0_0 r0_1 r0_2 w) : CallsV Tryd.prog n_trystref15_Ratchet #[.agg #[.int .i64 r0_0, .int .i64 r0_1, .slice r0_2.a r0_2.len r0_2.cap]] w R :=
  liftCalls (c := (.seq (.leaf (cL (bd Tryd.f82))) (.seq (.seq (.leaf (cL (cL (cR (bd Tryd.f82))))) (.cnd (.tmp 17) (.seq (.leaf (cL (cT (cR (cL (cR (bd Tryd.f82))))))) (.leaf (cR (cT (cR (cL (cR (bd Tryd.f82)))))))) (.leaf (cE (cR (cL (cR (bd Tryd.f82)))))))) (.cut 2 (.seq (.seq (.leaf (cL (cL (cR (cR (bd Tryd.f82)))))) (.block 0 (.loop 1 (.seq (.seq (.leaf (cL (cL (cB (cB (cR (cL (cR (cR (bd Tryd.f82)))))))))) (.cnd (.tmp 22) (.leaf (cT (cR (cL (cB (cB (cR (cL (cR (cR (bd Tryd.f82))))))))))) (.leaf (cE (cR (cL (cB (cB (cR (cL (cR (cR (bd Tryd.f82))))))))))))) (.seq (.block 1 (.seq (.leaf (cL (cB (cL (cR (cB (cB (cR (cL (cR (cR (bd Tryd.f82)))))))))))) (.cnd (.tmp 62) (.seq (.leaf (cL (cT (cR (cB (cL (cR (cB (cB (cR (cL (cR (cR (bd Tryd.f82)))))))))))))) (.leaf (cR (cT (cR (cB (cL (cR (cB (cB (cR (cL (cR (cR (bd Tryd.f82))))))))))))))) (.leaf (cE (cR (cB (cL (cR (cB (cB (cR (cL (cR (cR (bd Tryd.f82)))))))))))))))) (.leaf (cR (cR (cB (cB (cR (cL (cR (cR (bd Tryd.f82))))))))))))))) (.seq (.leaf (cL (cR (cR (cR (bd Tryd.f82)))))) (.leaf (cR (cR (cR (cR (bd Tryd.f82)))))))))))) (J := trystref15_Ratchet.J0 R) LfYtoclhecldmahiaaDoor.mixed Tryd.func82 (by kernel_rfl) (by kernel_rfl) (mkSeq (mkSeq (mkCut (cutDef [(1, .addr)] (fun x w => trystref15_Ratchet.c2 R x w) (fun _ _ => by kernel_rfl) (fun _ _ => by kernel_rfl)) (mkSeq (mkSeq mkLeaf mkLeaf) (mkSeq (mkBlock (mkLoop (loopDef LfYtoclhecldmahiaaDoor.mixed [(1, .addr), (3, (.int .i64))] (by kernel_rfl) (fun M1 x w => trystref15_Ratchet.b1 R (fun y0 y1 w => M1 (y0, y1) w) x.1 x.2 w) (fun M1 => fun _ _ _ => False) (fun _ _ _ => by kernel_rfl) (fun M1 => (mkSeq (mkSeq mkLeaf (mkBlock (mkSeq (mkCnd (mkSeq mkLeaf mkLeaf) mkLeaf) mkLeaf))) (mkSeq (mkCnd mkLeaf mkLeaf) mkLeaf))) (fun x w => trystref15_Ratchet.l1 R x.1 x.2 w) (by rintro ⟨c0, s0⟩ w ⟨I, μ, h0, h1⟩; refine ⟨fun y w => y.1 = c0 ∧ I y.2 w, fun y w => μ y.2 w, ⟨rfl, h0⟩, ?_⟩; rintro ⟨d0, t0⟩ w ⟨e0, hI⟩; dsimp only at e0 hI; subst e0; exact h1 _ _ hI) (fun _ _ => by kernel_rfl)))) mkLeaf))) (mkSeq (mkCnd (mkSeq mkLeaf mkLeaf) mkLeaf) mkLeaf)) mkLeaf) (kcast (by kernel_rfl) h)

/-! trystkeep_Ratchet -/
def trystkeep_Ratchet.main (R : Value → World → Prop) (a0_0 : Int) (a0_1 : Int) (a0_2 : Sl) (b1_0 : Int) (b1_1 : Int) (b1_2 : Sl) (w : World) : Prop :=
  let w1 := w.alloc (.cells #[.int .i64 a0_0, .int .i64 a0_1, .slice a0_2.a a0_2.len a0_2.cap] 104);
  let w2 := w1.alloc (.cells #[.int .i64 b1_0, .int .i64 b1_1, .slice b1_2.a b1_2.len b1_2.cap] 104);
  ∃ x_1 : Int, w2.cell? (newA w) = some (.int .i64 x_1) ∧
  ∃ x_2 : Int, w2.cell? (newA w1) = some (.int .i64 x_2) ∧
  cond ((x_1 : Int) == x_2)
  (∃ x_3 : Int, w2.cell? ((newA w).add 1) = some (.int .i64 x_3) ∧
  ∃ x_4 : Int, w2.cell? ((newA w1).add 1) = some (.int .i64 x_4) ∧
  cond ((x_3 : Int) == x_4)
  (∃ (a_5 : Option Addr) (l_6 c_7 : Nat), w2.cell? ((newA w).add 2) = some (.slice a_5 l_6 c_7) ∧
  ∃ (a_8 : Option Addr) (l_9 c_10 : Nat), w2.cell? ((newA w1).add 2) = some (.slice a_8 l_9 c_10) ∧
  CallsV Tryd.prog n_trystkeep_Keys #[.slice a_5 l_6 c_7, .slice a_8 l_9 c_10] w2 (fun v_11 w3 =>
  ∃ b_12 : Bool, v_11 = .bool b_12 ∧
  R (.bool b_12) w3))
  (R (.bool false) w2))
  (R (.bool false) w2)

def trystkeep_Ratchet.J0 (_ : Value → World → Prop) (_ : Nat) (_ : Fr) (_ : World) : Prop := False

set_option maxRecDepth 100000 in
theorem trystkeep_Ratchet.lift {R : Value → World → Prop} {a0_0 : Int} {a0_1 : Int} {a0_2 : Sl} {b1_0 : Int} {b1_1 : Int} {b1_2 : Sl} {w : World} (h : trystkeep_Ratchet.main R a0_0 a0_1 a0_2 b1_0 b1_1 b1_2 w) : CallsV Tryd.prog n_trystkeep_Ratchet #[.agg #[.int .i64 a0_0, .int .i64 a0_1, .slice a0_2.a a0_2.len a0_2.cap], .agg #[.int .i64 b1_0, .int .i64 b1_1, .slice b1_2.a b1_2.len b1_2.cap]] w R :=
  liftCalls (c := (.seq (.leaf (cL (bd Tryd.f83))) (.seq (.leaf (cL (cR (bd Tryd.f83)))) (.leaf (cR (cR (bd Tryd.f83))))))) (J := trystkeep_Ratchet.J0 R) LfYtoclhecldmahiaaDoor.mixed Tryd.func83 (by kernel_rfl) (by kernel_rfl) (mkSeq (mkSeq mkLeaf mkLeaf) mkLeaf) (kcast (by kernel_rfl) h)

/-! trystref15_Take -/
def trystref15_Take.c1 (R : Value → World → Prop) (a0 : Option Addr) (t7 : Addr) (s9 : Addr) (w : World) : Prop :=
  ∃ x_1 : Int, w.cell? s9 = some (.int .i64 x_1) ∧
  CallsV Tryd.prog n_trystref10_Arena_Kdf #[.pointer a0, .int .i64 x_1, .int .i64 1] w (fun v_2 w1 =>
  ∃ x_3 : Int, v_2 = .int .i64 x_3 ∧
  ∃ S_4 : World → Prop, S_4 w1.drew ∧
  ∃ x_5 : Int, (∀ x, S_4 x → x.cell? s9 = some (.int .i64 x_5)) ∧
  ∃ x_6 : Int, (∀ x, S_4 x → x.cell? (s9.add 1) = some (.int .i64 x_6)) ∧
  CallsV Tryd.prog n_trystref10_Arena_Kdf #[.pointer a0, .int .i64 x_5, .int .i64 2] w1.drew (fun v_7 w2 =>
  ∃ x_8 : Int, v_7 = .int .i64 x_8 ∧
  S_4 w2 ∧
  Wr w2 s9 ∧
  (let w3 := w2.setCell s9 (.int .i64 x_8);
  Wr w3 (s9.add 1) ∧
  (let w4 := w3.setCell (s9.add 1) (.int .i64 (IntKind.i64.wrap (x_6 + 1)));
  ∃ S_9 : World → Prop, S_9 w4.drew ∧
  ∃ x_10 : Int, (∀ x, S_9 x → x.cell? s9 = some (.int .i64 x_10)) ∧
  ∃ x_11 : Int, (∀ x, S_9 x → x.cell? (s9.add 1) = some (.int .i64 x_11)) ∧
  ∃ (a_12 : Option Addr) (l_13 c_14 : Nat), (∀ x, S_9 x → x.cell? (s9.add 2) = some (.slice a_12 l_13 c_14)) ∧
  (∀ j, j < 3 → Wr w4.drew (t7.add j)) ∧
  (let w5 := setCells t7 [.int .i64 x_10, .int .i64 x_11, .slice a_12 l_13 c_14] 0 w4.drew;
  ∃ x_15 : Int, w5.cell? t7 = some (.int .i64 x_15) ∧
  ∃ x_16 : Int, w5.cell? (t7.add 1) = some (.int .i64 x_16) ∧
  ∃ (a_17 : Option Addr) (l_18 c_19 : Nat), w5.cell? (t7.add 2) = some (.slice a_17 l_18 c_19) ∧
  R (.tuple #[.int .i64 x_3, .agg #[.int .i64 x_15, .int .i64 x_16, .slice a_17 l_18 c_19], .int .i64 0]) w5)))))

def trystref15_Take.c2 (R : Value → World → Prop) (a0 : Option Addr) (t7 : Addr) (s9 : Addr) (w : World) : Prop :=
  ∃ (a_20 : Option Addr) (l_21 c_22 : Nat), w.cell? (s9.add 2) = some (.slice a_20 l_21 c_22) ∧
  cond (decide ((((l_21 : Nat) : Int) : Int) > 16))
  (∃ (a_23 : Option Addr) (l_24 c_25 : Nat), w.cell? (s9.add 2) = some (.slice a_23 l_24 c_25) ∧
  ∃ (a_26 : Option Addr) (l_27 c_28 : Nat), w.cell? (s9.add 2) = some (.slice a_26 l_27 c_28) ∧
  0 ≤ ((IntKind.i64.wrap (((l_27 : Nat) : Int) - 16)) : Int) ∧ ((IntKind.i64.wrap (((l_27 : Nat) : Int) - 16)) : Int) ≤ ((l_24 : Nat) : Int) ∧ (((l_24 : Nat) : Int) : Int) ≤ ((c_25 : Nat) : Int) ∧ (((c_25 : Nat) : Int) : Int) ≤ ((c_25 : Nat) : Int) ∧
  Wr w (s9.add 2) ∧
  (let w6 := w.setCell (s9.add 2) (.slice (if ((((c_25 : Nat) : Int) : Int)).toNat = (((IntKind.i64.wrap (((l_27 : Nat) : Int) - 16)) : Int)).toNat then a_23 else (a_23).map (·.add ((((IntKind.i64.wrap (((l_27 : Nat) : Int) - 16)) : Int)).toNat * 2))) (((((l_24 : Nat) : Int) : Int)).toNat - (((IntKind.i64.wrap (((l_27 : Nat) : Int) - 16)) : Int)).toNat) (((((c_25 : Nat) : Int) : Int)).toNat - (((IntKind.i64.wrap (((l_27 : Nat) : Int) - 16)) : Int)).toNat));
  trystref15_Take.c1 R a0 t7 s9 w6))
  (trystref15_Take.c1 R a0 t7 s9 w)

def trystref15_Take.b3 (R : Value → World → Prop) (N3 : Option Addr → Int → Addr → Addr → World → Prop) (a0 : Option Addr) (n2 : Int) (t7 : Addr) (s9 : Addr) (w : World) : Prop :=
  ∃ x_29 : Int, w.cell? (s9.add 1) = some (.int .i64 x_29) ∧
  cond (decide ((x_29 : Int) < n2))
  (∃ S_30 : World → Prop, S_30 w.drew ∧
  ∃ (a_31 : Option Addr) (l_32 c_33 : Nat), (∀ x, S_30 x → x.cell? (s9.add 2) = some (.slice a_31 l_32 c_33)) ∧
  ∃ x_34 : Int, (∀ x, S_30 x → x.cell? (s9.add 1) = some (.int .i64 x_34)) ∧
  ∃ x_35 : Int, (∀ x, S_30 x → x.cell? s9 = some (.int .i64 x_35)) ∧
  CallsV Tryd.prog n_trystref10_Arena_Kdf #[.pointer a0, .int .i64 x_35, .int .i64 1] w.drew (fun v_36 w7 =>
  ∃ x_37 : Int, v_36 = .int .i64 x_37 ∧
  S_30 w7 ∧
  let w8 := w7.alloc (.cells #[.int .i64 x_34, .int .i64 x_37] 113);
  S_30 w8 ∧
  ∃ (a_38 : Option Addr) (l_39 c_40 : Nat), ∃ w9 : World, (builtin .append #[102, 102] 102 #[] #[.slice a_31 l_32 c_33, .slice (some (newA w7)) 1 1]).run Tryd.prog w8 = .ok (.value (.slice a_38 l_39 c_40)) w9 ∧
  Wr w9 (s9.add 2) ∧
  (let w10 := w9.setCell (s9.add 2) (.slice a_38 l_39 c_40);
  ∃ S_41 : World → Prop, S_41 w10.drew ∧
  ∃ x_42 : Int, (∀ x, S_41 x → x.cell? s9 = some (.int .i64 x_42)) ∧
  ∃ x_43 : Int, (∀ x, S_41 x → x.cell? (s9.add 1) = some (.int .i64 x_43)) ∧
  CallsV Tryd.prog n_trystref10_Arena_Kdf #[.pointer a0, .int .i64 x_42, .int .i64 2] w10.drew (fun v_44 w11 =>
  ∃ x_45 : Int, v_44 = .int .i64 x_45 ∧
  S_41 w11 ∧
  Wr w11 s9 ∧
  (let w12 := w11.setCell s9 (.int .i64 x_45);
  Wr w12 (s9.add 1) ∧
  (let w13 := w12.setCell (s9.add 1) (.int .i64 (IntKind.i64.wrap (x_43 + 1)));
  N3 a0 n2 t7 s9 w13))))))
  (trystref15_Take.c2 R a0 t7 s9 w)

def trystref15_Take.l3 (R : Value → World → Prop) (a0 : Option Addr) (n2 : Int) (t7 : Addr) (s9 : Addr) (w : World) : Prop :=
  ∃ (I : Addr → World → Prop) (μ : Addr → World → Nat), I s9 w ∧ ∀ s w, I s w → trystref15_Take.b3 R (fun a0' n2' t7' s9' w' => (a0' = a0 ∧ n2' = n2 ∧ t7' = t7 ∧ I s9' w') ∧ μ s9' w' < μ s w) a0 n2 t7 s w

def trystref15_Take.c4 (R : Value → World → Prop) (a0 : Option Addr) (n2 : Int) (r4 : Addr) (t7 : Addr) (s9 : Addr) (key10 : Int) (w : World) : Prop :=
  ∃ x_46 : Int, w.cell? (r4.add 1) = some (.int .i64 x_46) ∧
  cond (decide ((n2 : Int) < x_46))
  (cond (decide ((key10 : Int) < 0))
  ((∀ j, j < 3 → Wr w (t7.add j)) ∧
  (let w14 := setCells t7 [.int .i64 0, .int .i64 0, .slice none 0 0] 0 w;
  ∃ x_47 : Int, w14.cell? t7 = some (.int .i64 x_47) ∧
  ∃ x_48 : Int, w14.cell? (t7.add 1) = some (.int .i64 x_48) ∧
  ∃ (a_49 : Option Addr) (l_50 c_51 : Nat), w14.cell? (t7.add 2) = some (.slice a_49 l_50 c_51) ∧
  R (.tuple #[.int .i64 0, .agg #[.int .i64 x_47, .int .i64 x_48, .slice a_49 l_50 c_51], .int .i64 13]) w14))
  (∃ S_52 : World → Prop, S_52 w.drew ∧
  ∃ x_53 : Int, (∀ x, S_52 x → x.cell? s9 = some (.int .i64 x_53)) ∧
  ∃ x_54 : Int, (∀ x, S_52 x → x.cell? (s9.add 1) = some (.int .i64 x_54)) ∧
  ∃ (a_55 : Option Addr) (l_56 c_57 : Nat), (∀ x, S_52 x → x.cell? (s9.add 2) = some (.slice a_55 l_56 c_57)) ∧
  (∀ j, j < 3 → Wr w.drew (t7.add j)) ∧
  (let w15 := setCells t7 [.int .i64 x_53, .int .i64 x_54, .slice a_55 l_56 c_57] 0 w.drew;
  ∃ x_58 : Int, w15.cell? t7 = some (.int .i64 x_58) ∧
  ∃ x_59 : Int, w15.cell? (t7.add 1) = some (.int .i64 x_59) ∧
  ∃ (a_60 : Option Addr) (l_61 c_62 : Nat), w15.cell? (t7.add 2) = some (.slice a_60 l_61 c_62) ∧
  R (.tuple #[.int .i64 key10, .agg #[.int .i64 x_58, .int .i64 x_59, .slice a_60 l_61 c_62], .int .i64 0]) w15)))
  (∃ x_63 : Int, w.cell? (r4.add 1) = some (.int .i64 x_63) ∧
  cond (decide (((IntKind.i64.wrap (n2 - x_63)) : Int) > 200))
  ((∀ j, j < 3 → Wr w (t7.add j)) ∧
  (let w16 := setCells t7 [.int .i64 0, .int .i64 0, .slice none 0 0] 0 w;
  ∃ x_64 : Int, w16.cell? t7 = some (.int .i64 x_64) ∧
  ∃ x_65 : Int, w16.cell? (t7.add 1) = some (.int .i64 x_65) ∧
  ∃ (a_66 : Option Addr) (l_67 c_68 : Nat), w16.cell? (t7.add 2) = some (.slice a_66 l_67 c_68) ∧
  R (.tuple #[.int .i64 0, .agg #[.int .i64 x_64, .int .i64 x_65, .slice a_66 l_67 c_68], .int .i64 14]) w16))
  (trystref15_Take.l3 R a0 n2 t7 s9 w))

def trystref15_Take.b5 (R : Value → World → Prop) (N5 : Option Addr → Int → Addr → Addr → Addr → Int → Int → World → Prop) (a0 : Option Addr) (n2 : Int) (r4 : Addr) (t7 : Addr) (s9 : Addr) (key10 : Int) (k11 : Int) (w : World) : Prop :=
  ∃ (a_69 : Option Addr) (l_70 c_71 : Nat), w.cell? (r4.add 2) = some (.slice a_69 l_70 c_71) ∧
  cond (decide ((k11 : Int) < ((l_70 : Nat) : Int)))
  (∃ (a_72 : Option Addr) (l_73 c_74 : Nat), w.cell? (r4.add 2) = some (.slice a_72 l_73 c_74) ∧
  0 ≤ (k11 : Int) ∧ k11 < ((l_73 : Nat) : Int) ∧ ∃ q_75 : Addr, a_72 = some q_75 ∧
  ∃ x_76 : Int, w.cell? (q_75.add ((k11 : Int).toNat * 2)) = some (.int .i64 x_76) ∧
  cond ((x_76 : Int) == n2)
  (∃ (a_77 : Option Addr) (l_78 c_79 : Nat), w.cell? (r4.add 2) = some (.slice a_77 l_78 c_79) ∧
  0 ≤ (k11 : Int) ∧ k11 < ((l_78 : Nat) : Int) ∧ ∃ q_80 : Addr, a_77 = some q_80 ∧
  ∃ x_81 : Int, w.cell? ((q_80.add ((k11 : Int).toNat * 2)).add 1) = some (.int .i64 x_81) ∧
  (let k11_81 : Int := (IntKind.i64.wrap (k11 + 1));
  N5 a0 n2 r4 t7 s9 x_81 k11_81 w))
  (∃ S_83 : World → Prop, S_83 w.drew ∧
  ∃ (a_84 : Option Addr) (l_85 c_86 : Nat), (∀ x, S_83 x → x.cell? (s9.add 2) = some (.slice a_84 l_85 c_86)) ∧
  ∃ (a_87 : Option Addr) (l_88 c_89 : Nat), (∀ x, S_83 x → x.cell? (r4.add 2) = some (.slice a_87 l_88 c_89)) ∧
  0 ≤ (k11 : Int) ∧ k11 < ((l_88 : Nat) : Int) ∧ ∃ q_90 : Addr, a_87 = some q_90 ∧
  ∃ x_91 : Int, (∀ x, S_83 x → x.cell? (q_90.add ((k11 : Int).toNat * 2)) = some (.int .i64 x_91)) ∧
  ∃ x_92 : Int, (∀ x, S_83 x → x.cell? ((q_90.add ((k11 : Int).toNat * 2)).add 1) = some (.int .i64 x_92)) ∧
  let w17 := w.drew.alloc (.cells #[.int .i64 x_91, .int .i64 x_92] 113);
  S_83 w17 ∧
  ∃ (a_93 : Option Addr) (l_94 c_95 : Nat), ∃ w18 : World, (builtin .append #[102, 102] 102 #[] #[.slice a_84 l_85 c_86, .slice (some (newA w.drew)) 1 1]).run Tryd.prog w17 = .ok (.value (.slice a_93 l_94 c_95)) w18 ∧
  Wr w18 (s9.add 2) ∧
  (let w19 := w18.setCell (s9.add 2) (.slice a_93 l_94 c_95);
  (let k11_95 : Int := (IntKind.i64.wrap (k11 + 1));
  N5 a0 n2 r4 t7 s9 key10 k11_95 w19))))
  (trystref15_Take.c4 R a0 n2 r4 t7 s9 key10 w)

def trystref15_Take.l5 (R : Value → World → Prop) (a0 : Option Addr) (n2 : Int) (r4 : Addr) (t7 : Addr) (s9 : Addr) (key10 : Int) (k11 : Int) (w : World) : Prop :=
  ∃ (I : (Int × Int) → World → Prop) (μ : (Int × Int) → World → Nat), I (key10, k11) w ∧ ∀ s w, I s w → trystref15_Take.b5 R (fun a0' n2' r4' t7' s9' key10' k11' w' => (a0' = a0 ∧ n2' = n2 ∧ r4' = r4 ∧ t7' = t7 ∧ s9' = s9 ∧ I (key10', k11') w') ∧ μ (key10', k11') w' < μ s w) a0 n2 r4 t7 s9 s.1 s.2 w

def trystref15_Take.c6 (R : Value → World → Prop) (a0 : Option Addr) (n2 : Int) (r4 : Addr) (t7 : Addr) (w : World) : Prop :=
  ∃ x_97 : Int, w.cell? r4 = some (.int .i64 x_97) ∧
  ∃ x_98 : Int, w.cell? (r4.add 1) = some (.int .i64 x_98) ∧
  let w20 := w.alloc (.cells #[.int .i64 0, .int .i64 0, .slice none 0 0] 104);
  (∀ j, j < 3 → Wr w20 ((newA w).add j)) ∧
  (let w21 := setCells (newA w) [.int .i64 x_97, .int .i64 x_98, .slice none 0 0] 0 w20;
  trystref15_Take.l5 R a0 n2 r4 t7 (newA w) (-1) 0 w21)

def trystref15_Take.c7 (R : Value → World → Prop) (t7 : Addr) (w : World) : Prop :=
  (∀ j, j < 3 → Wr w (t7.add j)) ∧
  (let w22 := setCells t7 [.int .i64 0, .int .i64 0, .slice none 0 0] 0 w;
  ∃ x_99 : Int, w22.cell? t7 = some (.int .i64 x_99) ∧
  ∃ x_100 : Int, w22.cell? (t7.add 1) = some (.int .i64 x_100) ∧
  ∃ (a_101 : Option Addr) (l_102 c_103 : Nat), w22.cell? (t7.add 2) = some (.slice a_101 l_102 c_103) ∧
  R (.tuple #[.int .i64 0, .agg #[.int .i64 x_99, .int .i64 x_100, .slice a_101 l_102 c_103], .int .i64 1]) w22)

def trystref15_Take.main (R : Value → World → Prop) (a0 : Option Addr) (r1_0 : Int) (r1_1 : Int) (r1_2 : Sl) (n2 : Int) (w : World) : Prop :=
  let w23 := w.alloc (.cells #[.int .i64 r1_0, .int .i64 r1_1, .slice r1_2.a r1_2.len r1_2.cap] 104);
  let w24 := w23.alloc (.cells #[.int .i64 0, .int .i64 0, .slice none 0 0] 104);
  ∃ x_104 : Int, w24.cell? (newA w) = some (.int .i64 x_104) ∧
  ∃ x_105 : Int, w24.cell? ((newA w).add 1) = some (.int .i64 x_105) ∧
  ∃ (a_106 : Option Addr) (l_107 c_108 : Nat), w24.cell? ((newA w).add 2) = some (.slice a_106 l_107 c_108) ∧
  CallsV Tryd.prog n_trystref15_Ratchet #[.agg #[.int .i64 x_104, .int .i64 x_105, .slice a_106 l_107 c_108]] w24 (fun v_109 w25 =>
  ∃ b_110 : Bool, v_109 = .bool b_110 ∧
  cond (!b_110)
  ((∀ j, j < 3 → Wr w25 ((newA w23).add j)) ∧
  (let w26 := setCells (newA w23) [.int .i64 0, .int .i64 0, .slice none 0 0] 0 w25;
  ∃ x_111 : Int, w26.cell? (newA w23) = some (.int .i64 x_111) ∧
  ∃ x_112 : Int, w26.cell? ((newA w23).add 1) = some (.int .i64 x_112) ∧
  ∃ (a_113 : Option Addr) (l_114 c_115 : Nat), w26.cell? ((newA w23).add 2) = some (.slice a_113 l_114 c_115) ∧
  R (.tuple #[.int .i64 0, .agg #[.int .i64 x_111, .int .i64 x_112, .slice a_113 l_114 c_115], .int .i64 1]) w26))
  (∃ x_116 : Int, w25.cell? (newA w) = some (.int .i64 x_116) ∧
  ∃ x_117 : Int, w25.cell? ((newA w).add 1) = some (.int .i64 x_117) ∧
  ∃ (a_118 : Option Addr) (l_119 c_120 : Nat), w25.cell? ((newA w).add 2) = some (.slice a_118 l_119 c_120) ∧
  CallsV Tryd.prog n_trystref15_RatchetNodes #[.pointer a0, .agg #[.int .i64 x_116, .int .i64 x_117, .slice a_118 l_119 c_120]] w25 (fun v_121 w27 =>
  ∃ b_122 : Bool, v_121 = .bool b_122 ∧
  cond (!b_122)
  ((∀ j, j < 3 → Wr w27 ((newA w23).add j)) ∧
  (let w28 := setCells (newA w23) [.int .i64 0, .int .i64 0, .slice none 0 0] 0 w27;
  ∃ x_123 : Int, w28.cell? (newA w23) = some (.int .i64 x_123) ∧
  ∃ x_124 : Int, w28.cell? ((newA w23).add 1) = some (.int .i64 x_124) ∧
  ∃ (a_125 : Option Addr) (l_126 c_127 : Nat), w28.cell? ((newA w23).add 2) = some (.slice a_125 l_126 c_127) ∧
  R (.tuple #[.int .i64 0, .agg #[.int .i64 x_123, .int .i64 x_124, .slice a_125 l_126 c_127], .int .i64 8]) w28))
  (cond (decide ((n2 : Int) < 0))
  (trystref15_Take.c7 R (newA w23) w27)
  (cond (decide ((n2 : Int) ≥ 1073741824))
  (trystref15_Take.c7 R (newA w23) w27)
  (trystref15_Take.c6 R a0 n2 (newA w) (newA w23) w27))))))

def trystref15_Take.J0 (R : Value → World → Prop) (k : Nat) (fr : Fr) (w : World) : Prop :=
  cond (Nat.beq k 7) (dec [(7, .addr)] fr fun x => trystref15_Take.c7 R x w) (cond (Nat.beq k 6) (dec [(0, .ptr), (2, (.int .i64)), (4, .addr), (7, .addr)] fr fun x => trystref15_Take.c6 R x.1 x.2.1 x.2.2.1 x.2.2.2 w) (cond (Nat.beq k 5) (dec [(0, .ptr), (2, (.int .i64)), (4, .addr), (7, .addr), (9, .addr), (10, (.int .i64)), (11, (.int .i64))] fr fun x => trystref15_Take.l5 R x.1 x.2.1 x.2.2.1 x.2.2.2.1 x.2.2.2.2.1 x.2.2.2.2.2.1 x.2.2.2.2.2.2 w) (cond (Nat.beq k 4) (dec [(0, .ptr), (2, (.int .i64)), (4, .addr), (7, .addr), (9, .addr), (10, (.int .i64))] fr fun x => trystref15_Take.c4 R x.1 x.2.1 x.2.2.1 x.2.2.2.1 x.2.2.2.2.1 x.2.2.2.2.2 w) (cond (Nat.beq k 3) (dec [(0, .ptr), (2, (.int .i64)), (7, .addr), (9, .addr)] fr fun x => trystref15_Take.l3 R x.1 x.2.1 x.2.2.1 x.2.2.2 w) (cond (Nat.beq k 2) (dec [(0, .ptr), (7, .addr), (9, .addr)] fr fun x => trystref15_Take.c2 R x.1 x.2.1 x.2.2 w) (cond (Nat.beq k 1) (dec [(0, .ptr), (7, .addr), (9, .addr)] fr fun x => trystref15_Take.c1 R x.1 x.2.1 x.2.2 w) (False)))))))

set_option maxRecDepth 100000 in
theorem trystref15_Take.lift {R : Value → World → Prop} {a0 : Option Addr} {r1_0 : Int} {r1_1 : Int} {r1_2 : Sl} {n2 : Int} {w : World} (h : trystref15_Take.main R a0 r1_0 r1_1 r1_2 n2 w) : CallsV Tryd.prog n_trystref15_Take #[.pointer a0, .agg #[.int .i64 r1_0, .int .i64 r1_1, .slice r1_2.a r1_2.len r1_2.cap], .int .i64 n2] w R :=
  liftCalls (c := (.seq (.leaf (cL (bd Tryd.f84))) (.seq (.seq (.leaf (cL (cL (cR (bd Tryd.f84))))) (.cnd (.tmp 14) (.seq (.leaf (cL (cT (cR (cL (cR (bd Tryd.f84))))))) (.leaf (cR (cT (cR (cL (cR (bd Tryd.f84)))))))) (.leaf (cE (cR (cL (cR (bd Tryd.f84)))))))) (.seq (.seq (.leaf (cL (cL (cR (cR (bd Tryd.f84)))))) (.cnd (.tmp 19) (.seq (.leaf (cL (cT (cR (cL (cR (cR (bd Tryd.f84)))))))) (.leaf (cR (cT (cR (cL (cR (cR (bd Tryd.f84))))))))) (.leaf (cE (cR (cL (cR (cR (bd Tryd.f84))))))))) (.seq (.seq (.leaf (cL (cL (cR (cR (cR (bd Tryd.f84))))))) (.cnd (.tmp 26) (.cut 7 (.seq (.leaf (cL (cT (cR (cL (cR (cR (cR (bd Tryd.f84))))))))) (.leaf (cR (cT (cR (cL (cR (cR (cR (bd Tryd.f84))))))))))) (.leaf (cE (cR (cL (cR (cR (cR (bd Tryd.f84)))))))))) (.cut 6 (.seq (.leaf (cL (cR (cR (cR (cR (bd Tryd.f84))))))) (.seq (.leaf (cL (cR (cR (cR (cR (cR (bd Tryd.f84)))))))) (.seq (.seq (.leaf (cL (cL (cR (cR (cR (cR (cR (cR (bd Tryd.f84)))))))))) (.block 0 (.loop 5 (.seq (.seq (.leaf (cL (cL (cB (cB (cR (cL (cR (cR (cR (cR (cR (cR (bd Tryd.f84)))))))))))))) (.cnd (.tmp 37) (.leaf (cT (cR (cL (cB (cB (cR (cL (cR (cR (cR (cR (cR (cR (bd Tryd.f84))))))))))))))) (.leaf (cE (cR (cL (cB (cB (cR (cL (cR (cR (cR (cR (cR (cR (bd Tryd.f84))))))))))))))))) (.seq (.block 1 (.seq (.leaf (cL (cB (cL (cR (cB (cB (cR (cL (cR (cR (cR (cR (cR (cR (bd Tryd.f84)))))))))))))))) (.cnd (.tmp 47) (.leaf (cT (cR (cB (cL (cR (cB (cB (cR (cL (cR (cR (cR (cR (cR (cR (bd Tryd.f84))))))))))))))))) (.leaf (cE (cR (cB (cL (cR (cB (cB (cR (cL (cR (cR (cR (cR (cR (cR (bd Tryd.f84)))))))))))))))))))) (.leaf (cR (cR (cB (cB (cR (cL (cR (cR (cR (cR (cR (cR (bd Tryd.f84))))))))))))))))))) (.cut 4 (.seq (.seq (.leaf (cL (cL (cR (cR (cR (cR (cR (cR (cR (bd Tryd.f84))))))))))) (.cnd (.tmp 67) (.seq (.seq (.leaf (cL (cL (cT (cR (cL (cR (cR (cR (cR (cR (cR (cR (bd Tryd.f84)))))))))))))) (.cnd (.tmp 69) (.seq (.leaf (cL (cT (cR (cL (cT (cR (cL (cR (cR (cR (cR (cR (cR (cR (bd Tryd.f84)))))))))))))))) (.leaf (cR (cT (cR (cL (cT (cR (cL (cR (cR (cR (cR (cR (cR (cR (bd Tryd.f84))))))))))))))))) (.leaf (cE (cR (cL (cT (cR (cL (cR (cR (cR (cR (cR (cR (cR (bd Tryd.f84))))))))))))))))) (.seq (.leaf (cL (cR (cT (cR (cL (cR (cR (cR (cR (cR (cR (cR (bd Tryd.f84)))))))))))))) (.leaf (cR (cR (cT (cR (cL (cR (cR (cR (cR (cR (cR (cR (bd Tryd.f84)))))))))))))))) (.leaf (cE (cR (cL (cR (cR (cR (cR (cR (cR (cR (bd Tryd.f84)))))))))))))) (.seq (.seq (.leaf (cL (cL (cR (cR (cR (cR (cR (cR (cR (cR (bd Tryd.f84)))))))))))) (.cnd (.tmp 77) (.seq (.leaf (cL (cT (cR (cL (cR (cR (cR (cR (cR (cR (cR (cR (bd Tryd.f84)))))))))))))) (.leaf (cR (cT (cR (cL (cR (cR (cR (cR (cR (cR (cR (cR (bd Tryd.f84))))))))))))))) (.leaf (cE (cR (cL (cR (cR (cR (cR (cR (cR (cR (cR (bd Tryd.f84))))))))))))))) (.seq (.block 2 (.loop 3 (.seq (.seq (.leaf (cL (cL (cB (cB (cL (cR (cR (cR (cR (cR (cR (cR (cR (cR (bd Tryd.f84)))))))))))))))) (.cnd (.tmp 82) (.leaf (cT (cR (cL (cB (cB (cL (cR (cR (cR (cR (cR (cR (cR (cR (cR (bd Tryd.f84))))))))))))))))) (.leaf (cE (cR (cL (cB (cB (cL (cR (cR (cR (cR (cR (cR (cR (cR (cR (bd Tryd.f84))))))))))))))))))) (.block 3 (.seq (.leaf (cL (cB (cR (cB (cB (cL (cR (cR (cR (cR (cR (cR (cR (cR (cR (bd Tryd.f84))))))))))))))))) (.leaf (cR (cB (cR (cB (cB (cL (cR (cR (cR (cR (cR (cR (cR (cR (cR (bd Tryd.f84)))))))))))))))))))))) (.cut 2 (.seq (.seq (.leaf (cL (cL (cR (cR (cR (cR (cR (cR (cR (cR (cR (cR (bd Tryd.f84)))))))))))))) (.cnd (.tmp 107) (.leaf (cT (cR (cL (cR (cR (cR (cR (cR (cR (cR (cR (cR (cR (bd Tryd.f84))))))))))))))) (.leaf (cE (cR (cL (cR (cR (cR (cR (cR (cR (cR (cR (cR (cR (bd Tryd.f84))))))))))))))))) (.cut 1 (.seq (.leaf (cL (cR (cR (cR (cR (cR (cR (cR (cR (cR (cR (cR (bd Tryd.f84)))))))))))))) (.seq (.leaf (cL (cR (cR (cR (cR (cR (cR (cR (cR (cR (cR (cR (cR (bd Tryd.f84))))))))))))))) (.seq (.leaf (cL (cR (cR (cR (cR (cR (cR (cR (cR (cR (cR (cR (cR (cR (bd Tryd.f84)))))))))))))))) (.leaf (cR (cR (cR (cR (cR (cR (cR (cR (cR (cR (cR (cR (cR (cR (bd Tryd.f84))))))))))))))))))))))))))))))))))) (J := trystref15_Take.J0 R) LfYtoclhecldmahiaaDoor.mixed Tryd.func84 (by kernel_rfl) (by kernel_rfl) (mkSeq (mkSeq (mkSeq (mkSeq (mkCut (cutDef [(0, .ptr), (2, (.int .i64)), (4, .addr), (7, .addr)] (fun x w => trystref15_Take.c6 R x.1 x.2.1 x.2.2.1 x.2.2.2 w) (fun _ _ => by kernel_rfl) (fun _ _ => by kernel_rfl)) (mkSeq (mkSeq (mkSeq (mkCut (cutDef [(0, .ptr), (2, (.int .i64)), (4, .addr), (7, .addr), (9, .addr), (10, (.int .i64))] (fun x w => trystref15_Take.c4 R x.1 x.2.1 x.2.2.1 x.2.2.2.1 x.2.2.2.2.1 x.2.2.2.2.2 w) (fun _ _ => by kernel_rfl) (fun _ _ => by kernel_rfl)) (mkSeq (mkSeq (mkSeq (mkCut (cutDef [(0, .ptr), (7, .addr), (9, .addr)] (fun x w => trystref15_Take.c2 R x.1 x.2.1 x.2.2 w) (fun _ _ => by kernel_rfl) (fun _ _ => by kernel_rfl)) (mkSeq (mkCut (cutDef [(0, .ptr), (7, .addr), (9, .addr)] (fun x w => trystref15_Take.c1 R x.1 x.2.1 x.2.2 w) (fun _ _ => by kernel_rfl) (fun _ _ => by kernel_rfl)) (mkSeq (mkSeq (mkSeq mkLeaf mkLeaf) mkLeaf) mkLeaf)) (mkSeq (mkCnd mkLeaf mkLeaf) mkLeaf))) (mkBlock (mkLoop (loopDef LfYtoclhecldmahiaaDoor.mixed [(0, .ptr), (2, (.int .i64)), (7, .addr), (9, .addr)] (by kernel_rfl) (fun M3 x w => trystref15_Take.b3 R (fun y0 y1 y2 y3 w => M3 (y0, y1, y2, y3) w) x.1 x.2.1 x.2.2.1 x.2.2.2 w) (fun M3 => fun _ _ _ => False) (fun _ _ _ => by kernel_rfl) (fun M3 => (mkSeq (mkBlock (mkSeq mkLeaf mkLeaf)) (mkSeq (mkCnd mkLeaf mkLeaf) mkLeaf))) (fun x w => trystref15_Take.l3 R x.1 x.2.1 x.2.2.1 x.2.2.2 w) (by rintro ⟨c0, c1, c2, s0⟩ w ⟨I, μ, h0, h1⟩; refine ⟨fun y w => y.1 = c0 ∧ y.2.1 = c1 ∧ y.2.2.1 = c2 ∧ I y.2.2.2 w, fun y w => μ y.2.2.2 w, ⟨rfl, rfl, rfl, h0⟩, ?_⟩; rintro ⟨d0, d1, d2, t0⟩ w ⟨e0, e1, e2, hI⟩; dsimp only at e0 e1 e2 hI; subst e0; subst e1; subst e2; exact h1 _ _ hI) (fun _ _ => by kernel_rfl))))) (mkSeq (mkCnd (mkSeq mkLeaf mkLeaf) mkLeaf) mkLeaf)) (mkSeq (mkCnd (mkSeq (mkSeq mkLeaf mkLeaf) (mkSeq (mkCnd (mkSeq mkLeaf mkLeaf) mkLeaf) mkLeaf)) mkLeaf) mkLeaf))) (mkSeq (mkBlock (mkLoop (loopDef LfYtoclhecldmahiaaDoor.mixed [(0, .ptr), (2, (.int .i64)), (4, .addr), (7, .addr), (9, .addr), (10, (.int .i64)), (11, (.int .i64))] (by kernel_rfl) (fun M5 x w => trystref15_Take.b5 R (fun y0 y1 y2 y3 y4 y5 y6 w => M5 (y0, y1, y2, y3, y4, y5, y6) w) x.1 x.2.1 x.2.2.1 x.2.2.2.1 x.2.2.2.2.1 x.2.2.2.2.2.1 x.2.2.2.2.2.2 w) (fun M5 => fun _ _ _ => False) (fun _ _ _ => by kernel_rfl) (fun M5 => (mkSeq (mkSeq mkLeaf (mkBlock (mkSeq (mkCnd mkLeaf mkLeaf) mkLeaf))) (mkSeq (mkCnd mkLeaf mkLeaf) mkLeaf))) (fun x w => trystref15_Take.l5 R x.1 x.2.1 x.2.2.1 x.2.2.2.1 x.2.2.2.2.1 x.2.2.2.2.2.1 x.2.2.2.2.2.2 w) (by rintro ⟨c0, c1, c2, c3, c4, s0⟩ w ⟨I, μ, h0, h1⟩; refine ⟨fun y w => y.1 = c0 ∧ y.2.1 = c1 ∧ y.2.2.1 = c2 ∧ y.2.2.2.1 = c3 ∧ y.2.2.2.2.1 = c4 ∧ I y.2.2.2.2.2 w, fun y w => μ y.2.2.2.2.2 w, ⟨rfl, rfl, rfl, rfl, rfl, h0⟩, ?_⟩; rintro ⟨d0, d1, d2, d3, d4, t0⟩ w ⟨e0, e1, e2, e3, e4, hI⟩; dsimp only at e0 e1 e2 e3 e4 hI; subst e0; subst e1; subst e2; subst e3; subst e4; exact h1 _ _ hI) (fun _ _ => by kernel_rfl)))) mkLeaf)) mkLeaf) mkLeaf)) (mkSeq (mkCnd (mkCut (cutDef [(7, .addr)] (fun x w => trystref15_Take.c7 R x w) (fun _ _ => by kernel_rfl) (fun _ _ => by kernel_rfl)) (mkSeq mkLeaf mkLeaf)) mkLeaf) mkLeaf)) (mkSeq (mkCnd (mkSeq mkLeaf mkLeaf) mkLeaf) mkLeaf)) (mkSeq (mkCnd (mkSeq mkLeaf mkLeaf) mkLeaf) mkLeaf)) mkLeaf) (kcast (by kernel_rfl) h)

/-! trystlaw19_same -/
def trystlaw19_same.main (R : Value → World → Prop) (p0 : Option Addr) (r1_0 : Int) (r1_1 : Int) (r1_2 : Sl) (w : World) : Prop :=
  let w1 := w.alloc (.cells #[.int .i64 r1_0, .int .i64 r1_1, .slice r1_2.a r1_2.len r1_2.cap] 104);
  let w2 := w1.alloc (.cells #[.int .i64 0, .int .i64 0, .slice none 0 0] 104);
  ∃ S_1 : World → Prop, S_1 w2.drew ∧
  ∃ x_2 : Int, (∀ x, S_1 x → x.cell? (newA w) = some (.int .i64 x_2)) ∧
  ∃ x_3 : Int, (∀ x, S_1 x → x.cell? ((newA w).add 1) = some (.int .i64 x_3)) ∧
  ∃ (a_4 : Option Addr) (l_5 c_6 : Nat), (∀ x, S_1 x → x.cell? ((newA w).add 2) = some (.slice a_4 l_5 c_6)) ∧
  CallsV Tryd.prog n_trystlaw10_Pair_T #[.pointer p0, .int .i64 x_2] w2.drew (fun v_7 w3 =>
  ∃ x_8 : Int, v_7 = .int .i64 x_8 ∧
  S_1 w3 ∧
  CallsV Tryd.prog n_trystlaw17_Keys #[.pointer p0, .slice a_4 l_5 c_6] w3 (fun v_9 w4 =>
  ∃ (a_10 : Option Addr) (l_11 c_12 : Nat), v_9 = .slice a_10 l_11 c_12 ∧
  S_1 w4 ∧
  (∀ j, j < 3 → Wr w4 ((newA w1).add j)) ∧
  (let w5 := setCells (newA w1) [.int .i64 x_8, .int .i64 x_3, .slice a_10 l_11 c_12] 0 w4;
  ∃ x_13 : Int, w5.cell? (newA w1) = some (.int .i64 x_13) ∧
  ∃ x_14 : Int, w5.cell? ((newA w1).add 1) = some (.int .i64 x_14) ∧
  ∃ (a_15 : Option Addr) (l_16 c_17 : Nat), w5.cell? ((newA w1).add 2) = some (.slice a_15 l_16 c_17) ∧
  R (.agg #[.int .i64 x_13, .int .i64 x_14, .slice a_15 l_16 c_17]) w5)))

def trystlaw19_same.J0 (_ : Value → World → Prop) (_ : Nat) (_ : Fr) (_ : World) : Prop := False

set_option maxRecDepth 100000 in
theorem trystlaw19_same.lift {R : Value → World → Prop} {p0 : Option Addr} {r1_0 : Int} {r1_1 : Int} {r1_2 : Sl} {w : World} (h : trystlaw19_same.main R p0 r1_0 r1_1 r1_2 w) : CallsV Tryd.prog n_trystlaw19_same #[.pointer p0, .agg #[.int .i64 r1_0, .int .i64 r1_1, .slice r1_2.a r1_2.len r1_2.cap]] w R :=
  liftCalls (c := (.seq (.leaf (cL (bd Tryd.f85))) (.seq (.leaf (cL (cR (bd Tryd.f85)))) (.leaf (cR (cR (bd Tryd.f85))))))) (J := trystlaw19_same.J0 R) LfYtoclhecldmahiaaDoor.mixed Tryd.func85 (by kernel_rfl) (by kernel_rfl) (mkSeq (mkSeq mkLeaf mkLeaf) mkLeaf) (kcast (by kernel_rfl) h)

/-! trystref15_Send -/
def trystref15_Send.main (R : Value → World → Prop) (a0 : Option Addr) (r1_0 : Int) (r1_1 : Int) (r1_2 : Sl) (w : World) : Prop :=
  let w1 := w.alloc (.cells #[.int .i64 r1_0, .int .i64 r1_1, .slice r1_2.a r1_2.len r1_2.cap] 104);
  let w2 := w1.alloc (.cells #[.int .i64 0, .int .i64 0, .slice none 0 0] 104);
  ∃ x_1 : Int, w2.cell? (newA w) = some (.int .i64 x_1) ∧
  ∃ x_2 : Int, w2.cell? ((newA w).add 1) = some (.int .i64 x_2) ∧
  ∃ (a_3 : Option Addr) (l_4 c_5 : Nat), w2.cell? ((newA w).add 2) = some (.slice a_3 l_4 c_5) ∧
  CallsV Tryd.prog n_trystref15_Ratchet #[.agg #[.int .i64 x_1, .int .i64 x_2, .slice a_3 l_4 c_5]] w2 (fun v_6 w3 =>
  ∃ b_7 : Bool, v_6 = .bool b_7 ∧
  cond (!b_7)
  ((∀ j, j < 3 → Wr w3 ((newA w1).add j)) ∧
  (let w4 := setCells (newA w1) [.int .i64 0, .int .i64 0, .slice none 0 0] 0 w3;
  ∃ x_8 : Int, w4.cell? (newA w1) = some (.int .i64 x_8) ∧
  ∃ x_9 : Int, w4.cell? ((newA w1).add 1) = some (.int .i64 x_9) ∧
  ∃ (a_10 : Option Addr) (l_11 c_12 : Nat), w4.cell? ((newA w1).add 2) = some (.slice a_10 l_11 c_12) ∧
  R (.tuple #[.int .i64 0, .int .i64 0, .agg #[.int .i64 x_8, .int .i64 x_9, .slice a_10 l_11 c_12], .int .i64 1]) w4))
  (∃ x_13 : Int, w3.cell? (newA w) = some (.int .i64 x_13) ∧
  ∃ x_14 : Int, w3.cell? ((newA w).add 1) = some (.int .i64 x_14) ∧
  ∃ (a_15 : Option Addr) (l_16 c_17 : Nat), w3.cell? ((newA w).add 2) = some (.slice a_15 l_16 c_17) ∧
  CallsV Tryd.prog n_trystref15_RatchetNodes #[.pointer a0, .agg #[.int .i64 x_13, .int .i64 x_14, .slice a_15 l_16 c_17]] w3 (fun v_18 w5 =>
  ∃ b_19 : Bool, v_18 = .bool b_19 ∧
  cond (!b_19)
  ((∀ j, j < 3 → Wr w5 ((newA w1).add j)) ∧
  (let w6 := setCells (newA w1) [.int .i64 0, .int .i64 0, .slice none 0 0] 0 w5;
  ∃ x_20 : Int, w6.cell? (newA w1) = some (.int .i64 x_20) ∧
  ∃ x_21 : Int, w6.cell? ((newA w1).add 1) = some (.int .i64 x_21) ∧
  ∃ (a_22 : Option Addr) (l_23 c_24 : Nat), w6.cell? ((newA w1).add 2) = some (.slice a_22 l_23 c_24) ∧
  R (.tuple #[.int .i64 0, .int .i64 0, .agg #[.int .i64 x_20, .int .i64 x_21, .slice a_22 l_23 c_24], .int .i64 8]) w6))
  (∃ x_25 : Int, w5.cell? ((newA w).add 1) = some (.int .i64 x_25) ∧
  cond ((x_25 : Int) == 1073741824)
  ((∀ j, j < 3 → Wr w5 ((newA w1).add j)) ∧
  (let w7 := setCells (newA w1) [.int .i64 0, .int .i64 0, .slice none 0 0] 0 w5;
  ∃ x_26 : Int, w7.cell? (newA w1) = some (.int .i64 x_26) ∧
  ∃ x_27 : Int, w7.cell? ((newA w1).add 1) = some (.int .i64 x_27) ∧
  ∃ (a_28 : Option Addr) (l_29 c_30 : Nat), w7.cell? ((newA w1).add 2) = some (.slice a_28 l_29 c_30) ∧
  R (.tuple #[.int .i64 0, .int .i64 0, .agg #[.int .i64 x_26, .int .i64 x_27, .slice a_28 l_29 c_30], .int .i64 20]) w7))
  (∃ x_31 : Int, w5.cell? (newA w) = some (.int .i64 x_31) ∧
  ∃ x_32 : Int, w5.cell? ((newA w).add 1) = some (.int .i64 x_32) ∧
  ∃ (a_33 : Option Addr) (l_34 c_35 : Nat), w5.cell? ((newA w).add 2) = some (.slice a_33 l_34 c_35) ∧
  CallsV Tryd.prog n_trystkeep_TwinRatchet #[.agg #[.int .i64 x_31, .int .i64 x_32, .slice a_33 l_34 c_35]] w5 (fun v_36 w8 =>
  ∃ x_37 : Int, ∃ x_38 : Int, ∃ (a_39 : Option Addr) (l_40 c_41 : Nat), v_36 = .agg #[.int .i64 x_37, .int .i64 x_38, .slice a_39 l_40 c_41] ∧
  let w9 := w8.alloc (.cells #[.int .i64 0, .int .i64 0, .slice none 0 0] 104);
  (∀ j, j < 3 → Wr w9 ((newA w8).add j)) ∧
  (let w10 := setCells (newA w8) [.int .i64 x_37, .int .i64 x_38, .slice a_39 l_40 c_41] 0 w9;
  ∃ x_42 : Int, w10.cell? (newA w8) = some (.int .i64 x_42) ∧
  CallsV Tryd.prog n_trystref10_Arena_Kdf #[.pointer a0, .int .i64 x_42, .int .i64 1] w10 (fun v_43 w11 =>
  ∃ x_44 : Int, v_43 = .int .i64 x_44 ∧
  ∃ S_45 : World → Prop, S_45 w11.drew ∧
  ∃ x_46 : Int, (∀ x, S_45 x → x.cell? (newA w8) = some (.int .i64 x_46)) ∧
  ∃ x_47 : Int, (∀ x, S_45 x → x.cell? ((newA w8).add 1) = some (.int .i64 x_47)) ∧
  CallsV Tryd.prog n_trystref10_Arena_Kdf #[.pointer a0, .int .i64 x_46, .int .i64 2] w11.drew (fun v_48 w12 =>
  ∃ x_49 : Int, v_48 = .int .i64 x_49 ∧
  S_45 w12 ∧
  Wr w12 (newA w8) ∧
  (let w13 := w12.setCell (newA w8) (.int .i64 x_49);
  Wr w13 ((newA w8).add 1) ∧
  (let w14 := w13.setCell ((newA w8).add 1) (.int .i64 (IntKind.i64.wrap (x_47 + 1)));
  ∃ S_50 : World → Prop, S_50 w14.drew ∧
  ∃ x_51 : Int, (∀ x, S_50 x → x.cell? ((newA w).add 1) = some (.int .i64 x_51)) ∧
  ∃ x_52 : Int, (∀ x, S_50 x → x.cell? (newA w8) = some (.int .i64 x_52)) ∧
  ∃ x_53 : Int, (∀ x, S_50 x → x.cell? ((newA w8).add 1) = some (.int .i64 x_53)) ∧
  ∃ (a_54 : Option Addr) (l_55 c_56 : Nat), (∀ x, S_50 x → x.cell? ((newA w8).add 2) = some (.slice a_54 l_55 c_56)) ∧
  (∀ j, j < 3 → Wr w14.drew ((newA w1).add j)) ∧
  (let w15 := setCells (newA w1) [.int .i64 x_52, .int .i64 x_53, .slice a_54 l_55 c_56] 0 w14.drew;
  ∃ x_57 : Int, w15.cell? (newA w1) = some (.int .i64 x_57) ∧
  ∃ x_58 : Int, w15.cell? ((newA w1).add 1) = some (.int .i64 x_58) ∧
  ∃ (a_59 : Option Addr) (l_60 c_61 : Nat), w15.cell? ((newA w1).add 2) = some (.slice a_59 l_60 c_61) ∧
  R (.tuple #[.int .i64 x_44, .int .i64 x_51, .agg #[.int .i64 x_57, .int .i64 x_58, .slice a_59 l_60 c_61], .int .i64 0]) w15))))))))))))

def trystref15_Send.J0 (_ : Value → World → Prop) (_ : Nat) (_ : Fr) (_ : World) : Prop := False

set_option maxRecDepth 100000 in
theorem trystref15_Send.lift {R : Value → World → Prop} {a0 : Option Addr} {r1_0 : Int} {r1_1 : Int} {r1_2 : Sl} {w : World} (h : trystref15_Send.main R a0 r1_0 r1_1 r1_2 w) : CallsV Tryd.prog n_trystref15_Send #[.pointer a0, .agg #[.int .i64 r1_0, .int .i64 r1_1, .slice r1_2.a r1_2.len r1_2.cap]] w R :=
  liftCalls (c := (.seq (.leaf (cL (bd Tryd.f86))) (.seq (.seq (.leaf (cL (cL (cR (bd Tryd.f86))))) (.cnd (.tmp 12) (.seq (.leaf (cL (cT (cR (cL (cR (bd Tryd.f86))))))) (.leaf (cR (cT (cR (cL (cR (bd Tryd.f86)))))))) (.leaf (cE (cR (cL (cR (bd Tryd.f86)))))))) (.seq (.seq (.leaf (cL (cL (cR (cR (bd Tryd.f86)))))) (.cnd (.tmp 17) (.seq (.leaf (cL (cT (cR (cL (cR (cR (bd Tryd.f86)))))))) (.leaf (cR (cT (cR (cL (cR (cR (bd Tryd.f86))))))))) (.leaf (cE (cR (cL (cR (cR (bd Tryd.f86))))))))) (.seq (.seq (.leaf (cL (cL (cR (cR (cR (bd Tryd.f86))))))) (.cnd (.tmp 21) (.seq (.leaf (cL (cT (cR (cL (cR (cR (cR (bd Tryd.f86))))))))) (.leaf (cR (cT (cR (cL (cR (cR (cR (bd Tryd.f86)))))))))) (.leaf (cE (cR (cL (cR (cR (cR (bd Tryd.f86)))))))))) (.seq (.leaf (cL (cR (cR (cR (cR (bd Tryd.f86))))))) (.seq (.leaf (cL (cR (cR (cR (cR (cR (bd Tryd.f86)))))))) (.seq (.leaf (cL (cR (cR (cR (cR (cR (cR (bd Tryd.f86))))))))) (.seq (.leaf (cL (cR (cR (cR (cR (cR (cR (cR (bd Tryd.f86)))))))))) (.leaf (cR (cR (cR (cR (cR (cR (cR (cR (bd Tryd.f86))))))))))))))))))) (J := trystref15_Send.J0 R) LfYtoclhecldmahiaaDoor.mixed Tryd.func86 (by kernel_rfl) (by kernel_rfl) (mkSeq (mkSeq (mkSeq (mkSeq (mkSeq (mkSeq (mkSeq (mkSeq mkLeaf mkLeaf) mkLeaf) mkLeaf) mkLeaf) (mkSeq (mkCnd (mkSeq mkLeaf mkLeaf) mkLeaf) mkLeaf)) (mkSeq (mkCnd (mkSeq mkLeaf mkLeaf) mkLeaf) mkLeaf)) (mkSeq (mkCnd (mkSeq mkLeaf mkLeaf) mkLeaf) mkLeaf)) mkLeaf) (kcast (by kernel_rfl) h)

/-! trystkeep_TwinKeys -/
def trystkeep_TwinKeys.main (R : Value → World → Prop) (l0 : Sl) (w : World) : Prop :=
  ∃ (a_1 : Option Addr) (l_2 c_3 : Nat), ∃ w1 : World, (builtin .append #[102, 102] 102 #[] #[.slice none 0 0, .slice l0.a l0.len l0.cap]).run Tryd.prog w = .ok (.value (.slice a_1 l_2 c_3)) w1 ∧
  R (.slice a_1 l_2 c_3) w1

def trystkeep_TwinKeys.J0 (_ : Value → World → Prop) (_ : Nat) (_ : Fr) (_ : World) : Prop := False

set_option maxRecDepth 100000 in
theorem trystkeep_TwinKeys.lift {R : Value → World → Prop} {l0 : Sl} {w : World} (h : trystkeep_TwinKeys.main R l0 w) : CallsV Tryd.prog n_trystkeep_TwinKeys #[.slice l0.a l0.len l0.cap] w R :=
  liftCalls (c := (.seq (.leaf (cL (bd Tryd.f128))) (.seq (.leaf (cL (cR (bd Tryd.f128)))) (.seq (.leaf (cL (cR (cR (bd Tryd.f128))))) (.leaf (cR (cR (cR (bd Tryd.f128))))))))) (J := trystkeep_TwinKeys.J0 R) LfYtoclhecldmahiaaDoor.mixed Tryd.func128 (by kernel_rfl) (by kernel_rfl) (mkSeq (mkSeq (mkSeq mkLeaf mkLeaf) mkLeaf) mkLeaf) (kcast (by kernel_rfl) h)

/-! trystkeep_Keys -/
def trystkeep_Keys.b1 (R : Value → World → Prop) (N1 : Sl → Sl → Int → World → Prop) (a0 : Sl) (b1 : Sl) (i5 : Int) (w : World) : Prop :=
  cond (decide ((i5 : Int) < ((a0.len : Nat) : Int)))
  (0 ≤ (i5 : Int) ∧ i5 < ((a0.len : Nat) : Int) ∧ ∃ q_1 : Addr, a0.a = some q_1 ∧
  ∃ x_2 : Int, w.cell? (q_1.add ((i5 : Int).toNat * 2)) = some (.int .i64 x_2) ∧
  0 ≤ (i5 : Int) ∧ i5 < ((b1.len : Nat) : Int) ∧ ∃ q_3 : Addr, b1.a = some q_3 ∧
  ∃ x_4 : Int, w.cell? (q_3.add ((i5 : Int).toNat * 2)) = some (.int .i64 x_4) ∧
  cond ((x_2 : Int) != x_4)
  (R (.bool false) w.drew)
  (0 ≤ (i5 : Int) ∧ i5 < ((a0.len : Nat) : Int) ∧ ∃ q_5 : Addr, a0.a = some q_5 ∧
  ∃ x_6 : Int, w.cell? ((q_5.add ((i5 : Int).toNat * 2)).add 1) = some (.int .i64 x_6) ∧
  0 ≤ (i5 : Int) ∧ i5 < ((b1.len : Nat) : Int) ∧ ∃ q_7 : Addr, b1.a = some q_7 ∧
  ∃ x_8 : Int, w.cell? ((q_7.add ((i5 : Int).toNat * 2)).add 1) = some (.int .i64 x_8) ∧
  cond ((x_6 : Int) != x_8)
  (R (.bool false) w.drew)
  ((let i5_8 : Int := (IntKind.i64.wrap (i5 + 1));
  N1 a0 b1 i5_8 w.drew))))
  (R (.bool true) w)

def trystkeep_Keys.l1 (R : Value → World → Prop) (a0 : Sl) (b1 : Sl) (i5 : Int) (w : World) : Prop :=
  ∃ (I : Int → World → Prop) (μ : Int → World → Nat), I i5 w ∧ ∀ s w, I s w → trystkeep_Keys.b1 R (fun a0' b1' i5' w' => (a0' = a0 ∧ b1' = b1 ∧ I i5' w') ∧ μ i5' w' < μ s w) a0 b1 s w

def trystkeep_Keys.main (R : Value → World → Prop) (a0 : Sl) (b1 : Sl) (w : World) : Prop :=
  cond ((((a0.len : Nat) : Int) : Int) != ((b1.len : Nat) : Int))
  (R (.bool false) w)
  (trystkeep_Keys.l1 R a0 b1 0 w)

def trystkeep_Keys.J0 (R : Value → World → Prop) (k : Nat) (fr : Fr) (w : World) : Prop :=
  cond (Nat.beq k 1) (dec [(0, .slice), (1, .slice), (5, (.int .i64))] fr fun x => trystkeep_Keys.l1 R x.1 x.2.1 x.2.2 w) (False)

set_option maxRecDepth 100000 in
theorem trystkeep_Keys.lift {R : Value → World → Prop} {a0 : Sl} {b1 : Sl} {w : World} (h : trystkeep_Keys.main R a0 b1 w) : CallsV Tryd.prog n_trystkeep_Keys #[.slice a0.a a0.len a0.cap, .slice b1.a b1.len b1.cap] w R :=
  liftCalls (c := (.seq (.leaf (cL (bd Tryd.f129))) (.seq (.seq (.leaf (cL (cL (cR (bd Tryd.f129))))) (.cnd (.tmp 10) (.seq (.leaf (cL (cT (cR (cL (cR (bd Tryd.f129))))))) (.leaf (cR (cT (cR (cL (cR (bd Tryd.f129)))))))) (.leaf (cE (cR (cL (cR (bd Tryd.f129)))))))) (.seq (.seq (.leaf (cL (cL (cR (cR (bd Tryd.f129)))))) (.block 0 (.loop 1 (.seq (.seq (.leaf (cL (cL (cB (cB (cR (cL (cR (cR (bd Tryd.f129)))))))))) (.cnd (.tmp 14) (.leaf (cT (cR (cL (cB (cB (cR (cL (cR (cR (bd Tryd.f129))))))))))) (.leaf (cE (cR (cL (cB (cB (cR (cL (cR (cR (bd Tryd.f129))))))))))))) (.seq (.block 1 (.seq (.leaf (cL (cB (cL (cR (cB (cB (cR (cL (cR (cR (bd Tryd.f129)))))))))))) (.cnd (.tmp 40) (.seq (.leaf (cL (cT (cR (cB (cL (cR (cB (cB (cR (cL (cR (cR (bd Tryd.f129)))))))))))))) (.leaf (cR (cT (cR (cB (cL (cR (cB (cB (cR (cL (cR (cR (bd Tryd.f129))))))))))))))) (.leaf (cE (cR (cB (cL (cR (cB (cB (cR (cL (cR (cR (bd Tryd.f129)))))))))))))))) (.leaf (cR (cR (cB (cB (cR (cL (cR (cR (bd Tryd.f129))))))))))))))) (.seq (.leaf (cL (cR (cR (cR (bd Tryd.f129)))))) (.leaf (cR (cR (cR (cR (bd Tryd.f129))))))))))) (J := trystkeep_Keys.J0 R) LfYtoclhecldmahiaaDoor.mixed Tryd.func129 (by kernel_rfl) (by kernel_rfl) (mkSeq (mkSeq (mkSeq (mkSeq mkLeaf mkLeaf) (mkSeq (mkBlock (mkLoop (loopDef LfYtoclhecldmahiaaDoor.mixed [(0, .slice), (1, .slice), (5, (.int .i64))] (by kernel_rfl) (fun M1 x w => trystkeep_Keys.b1 R (fun y0 y1 y2 w => M1 (y0, y1, y2) w) x.1 x.2.1 x.2.2 w) (fun M1 => fun _ _ _ => False) (fun _ _ _ => by kernel_rfl) (fun M1 => (mkSeq (mkSeq mkLeaf (mkBlock (mkSeq (mkCnd (mkSeq mkLeaf mkLeaf) mkLeaf) mkLeaf))) (mkSeq (mkCnd mkLeaf mkLeaf) mkLeaf))) (fun x w => trystkeep_Keys.l1 R x.1 x.2.1 x.2.2 w) (by rintro ⟨c0, c1, s0⟩ w ⟨I, μ, h0, h1⟩; refine ⟨fun y w => y.1 = c0 ∧ y.2.1 = c1 ∧ I y.2.2 w, fun y w => μ y.2.2 w, ⟨rfl, rfl, h0⟩, ?_⟩; rintro ⟨d0, d1, t0⟩ w ⟨e0, e1, hI⟩; dsimp only at e0 e1 hI; subst e0; subst e1; exact h1 _ _ hI) (fun _ _ => by kernel_rfl)))) mkLeaf)) (mkSeq (mkCnd (mkSeq mkLeaf mkLeaf) mkLeaf) mkLeaf)) mkLeaf) (kcast (by kernel_rfl) h)

/-! trystref15_RatchetNodes -/
def trystref15_RatchetNodes.c1 (R : Value → World → Prop) (a0 : Option Addr) (r3 : Addr) (w : World) : Prop :=
  ∃ x_1 : Int, w.cell? r3 = some (.int .i64 x_1) ∧
  let w1 := w.alloc (.cells #[.int .i64 x_1] 3);
  CallsV Tryd.prog n_trystref10_Arena_Has #[.pointer a0, .slice (some (newA w)) 1 1] w1 (fun v_2 w2 =>
  ∃ b_3 : Bool, v_2 = .bool b_3 ∧
  R (.bool b_3) w2)

def trystref15_RatchetNodes.b2 (R : Value → World → Prop) (N2 : Option Addr → Addr → Int → World → Prop) (a0 : Option Addr) (r3 : Addr) (k5 : Int) (w : World) : Prop :=
  ∃ (a_4 : Option Addr) (l_5 c_6 : Nat), w.cell? (r3.add 2) = some (.slice a_4 l_5 c_6) ∧
  cond (decide ((k5 : Int) < ((l_5 : Nat) : Int)))
  (∃ (a_7 : Option Addr) (l_8 c_9 : Nat), w.cell? (r3.add 2) = some (.slice a_7 l_8 c_9) ∧
  0 ≤ (k5 : Int) ∧ k5 < ((l_8 : Nat) : Int) ∧ ∃ q_10 : Addr, a_7 = some q_10 ∧
  ∃ x_11 : Int, w.cell? ((q_10.add ((k5 : Int).toNat * 2)).add 1) = some (.int .i64 x_11) ∧
  let w3 := w.alloc (.cells #[.int .i64 x_11] 3);
  CallsV Tryd.prog n_trystref10_Arena_Has #[.pointer a0, .slice (some (newA w)) 1 1] w3 (fun v_12 w4 =>
  ∃ b_13 : Bool, v_12 = .bool b_13 ∧
  cond (!b_13)
  (R (.bool false) w4)
  ((let k5_13 : Int := (IntKind.i64.wrap (k5 + 1));
  N2 a0 r3 k5_13 w4))))
  (trystref15_RatchetNodes.c1 R a0 r3 w)

def trystref15_RatchetNodes.l2 (R : Value → World → Prop) (a0 : Option Addr) (r3 : Addr) (k5 : Int) (w : World) : Prop :=
  ∃ (I : Int → World → Prop) (μ : Int → World → Nat), I k5 w ∧ ∀ s w, I s w → trystref15_RatchetNodes.b2 R (fun a0' r3' k5' w' => (a0' = a0 ∧ r3' = r3 ∧ I k5' w') ∧ μ k5' w' < μ s w) a0 r3 s w

def trystref15_RatchetNodes.main (R : Value → World → Prop) (a0 : Option Addr) (r1_0 : Int) (r1_1 : Int) (r1_2 : Sl) (w : World) : Prop :=
  let w5 := w.alloc (.cells #[.int .i64 r1_0, .int .i64 r1_1, .slice r1_2.a r1_2.len r1_2.cap] 104);
  trystref15_RatchetNodes.l2 R a0 (newA w) 0 w5

def trystref15_RatchetNodes.J0 (R : Value → World → Prop) (k : Nat) (fr : Fr) (w : World) : Prop :=
  cond (Nat.beq k 2) (dec [(0, .ptr), (3, .addr), (5, (.int .i64))] fr fun x => trystref15_RatchetNodes.l2 R x.1 x.2.1 x.2.2 w) (cond (Nat.beq k 1) (dec [(0, .ptr), (3, .addr)] fr fun x => trystref15_RatchetNodes.c1 R x.1 x.2 w) (False))

set_option maxRecDepth 100000 in
theorem trystref15_RatchetNodes.lift {R : Value → World → Prop} {a0 : Option Addr} {r1_0 : Int} {r1_1 : Int} {r1_2 : Sl} {w : World} (h : trystref15_RatchetNodes.main R a0 r1_0 r1_1 r1_2 w) : CallsV Tryd.prog n_trystref15_RatchetNodes #[.pointer a0, .agg #[.int .i64 r1_0, .int .i64 r1_1, .slice r1_2.a r1_2.len r1_2.cap]] w R :=
  liftCalls (c := (.seq (.leaf (cL (bd Tryd.f130))) (.seq (.seq (.leaf (cL (cL (cR (bd Tryd.f130))))) (.block 0 (.loop 2 (.seq (.seq (.leaf (cL (cL (cB (cB (cR (cL (cR (bd Tryd.f130))))))))) (.cnd (.tmp 10) (.leaf (cT (cR (cL (cB (cB (cR (cL (cR (bd Tryd.f130)))))))))) (.leaf (cE (cR (cL (cB (cB (cR (cL (cR (bd Tryd.f130)))))))))))) (.seq (.block 1 (.seq (.leaf (cL (cB (cL (cR (cB (cB (cR (cL (cR (bd Tryd.f130))))))))))) (.cnd (.tmp 22) (.seq (.leaf (cL (cT (cR (cB (cL (cR (cB (cB (cR (cL (cR (bd Tryd.f130))))))))))))) (.leaf (cR (cT (cR (cB (cL (cR (cB (cB (cR (cL (cR (bd Tryd.f130)))))))))))))) (.leaf (cE (cR (cB (cL (cR (cB (cB (cR (cL (cR (bd Tryd.f130))))))))))))))) (.leaf (cR (cR (cB (cB (cR (cL (cR (bd Tryd.f130)))))))))))))) (.cut 1 (.seq (.leaf (cL (cR (cR (bd Tryd.f130))))) (.leaf (cR (cR (cR (bd Tryd.f130)))))))))) (J := trystref15_RatchetNodes.J0 R) LfYtoclhecldmahiaaDoor.mixed Tryd.func130 (by kernel_rfl) (by kernel_rfl) (mkSeq (mkSeq (mkCut (cutDef [(0, .ptr), (3, .addr)] (fun x w => trystref15_RatchetNodes.c1 R x.1 x.2 w) (fun _ _ => by kernel_rfl) (fun _ _ => by kernel_rfl)) (mkSeq mkLeaf mkLeaf)) (mkSeq (mkBlock (mkLoop (loopDef LfYtoclhecldmahiaaDoor.mixed [(0, .ptr), (3, .addr), (5, (.int .i64))] (by kernel_rfl) (fun M2 x w => trystref15_RatchetNodes.b2 R (fun y0 y1 y2 w => M2 (y0, y1, y2) w) x.1 x.2.1 x.2.2 w) (fun M2 => fun _ _ _ => False) (fun _ _ _ => by kernel_rfl) (fun M2 => (mkSeq (mkSeq mkLeaf (mkBlock (mkSeq (mkCnd (mkSeq mkLeaf mkLeaf) mkLeaf) mkLeaf))) (mkSeq (mkCnd mkLeaf mkLeaf) mkLeaf))) (fun x w => trystref15_RatchetNodes.l2 R x.1 x.2.1 x.2.2 w) (by rintro ⟨c0, c1, s0⟩ w ⟨I, μ, h0, h1⟩; refine ⟨fun y w => y.1 = c0 ∧ y.2.1 = c1 ∧ I y.2.2 w, fun y w => μ y.2.2 w, ⟨rfl, rfl, h0⟩, ?_⟩; rintro ⟨d0, d1, t0⟩ w ⟨e0, e1, hI⟩; dsimp only at e0 e1 hI; subst e0; subst e1; exact h1 _ _ hI) (fun _ _ => by kernel_rfl)))) mkLeaf)) mkLeaf) (kcast (by kernel_rfl) h)

/-! trystlaw17_Keys -/
def trystlaw17_Keys.b1 (R : Value → World → Prop) (N1 : Option Addr → Sl → Int → World → Prop) (p0 : Option Addr) (out5 : Sl) (i6 : Int) (w : World) : Prop :=
  cond (decide ((i6 : Int) < ((out5.len : Nat) : Int)))
  (0 ≤ (i6 : Int) ∧ i6 < ((out5.len : Nat) : Int) ∧ ∃ q_1 : Addr, out5.a = some q_1 ∧
  ∃ x_2 : Int, w.cell? ((q_1.add ((i6 : Int).toNat * 2)).add 1) = some (.int .i64 x_2) ∧
  CallsV Tryd.prog n_trystlaw10_Pair_T #[.pointer p0, .int .i64 x_2] w (fun v_3 w1 =>
  ∃ x_4 : Int, v_3 = .int .i64 x_4 ∧
  0 ≤ (i6 : Int) ∧ i6 < ((out5.len : Nat) : Int) ∧ ∃ q_5 : Addr, out5.a = some q_5 ∧
  Wr w1 ((q_5.add ((i6 : Int).toNat * 2)).add 1) ∧
  (let w2 := w1.setCell ((q_5.add ((i6 : Int).toNat * 2)).add 1) (.int .i64 x_4);
  (let i6_5 : Int := (IntKind.i64.wrap (i6 + 1));
  N1 p0 out5 i6_5 w2))))
  (R (.slice out5.a out5.len out5.cap) w)

def trystlaw17_Keys.l1 (R : Value → World → Prop) (p0 : Option Addr) (out5 : Sl) (i6 : Int) (w : World) : Prop :=
  ∃ (I : Int → World → Prop) (μ : Int → World → Nat), I i6 w ∧ ∀ s w, I s w → trystlaw17_Keys.b1 R (fun p0' out5' i6' w' => (p0' = p0 ∧ out5' = out5 ∧ I i6' w') ∧ μ i6' w' < μ s w) p0 out5 s w

def trystlaw17_Keys.main (R : Value → World → Prop) (p0 : Option Addr) (l1 : Sl) (w : World) : Prop :=
  CallsV Tryd.prog n_trystkeep_TwinKeys #[.slice l1.a l1.len l1.cap] w (fun v_7 w3 =>
  ∃ (a_8 : Option Addr) (l_9 c_10 : Nat), v_7 = .slice a_8 l_9 c_10 ∧
  trystlaw17_Keys.l1 R p0 ⟨a_8, l_9, c_10⟩ 0 w3)

def trystlaw17_Keys.J0 (R : Value → World → Prop) (k : Nat) (fr : Fr) (w : World) : Prop :=
  cond (Nat.beq k 1) (dec [(0, .ptr), (5, .slice), (6, (.int .i64))] fr fun x => trystlaw17_Keys.l1 R x.1 x.2.1 x.2.2 w) (False)

set_option maxRecDepth 100000 in
theorem trystlaw17_Keys.lift {R : Value → World → Prop} {p0 : Option Addr} {l1 : Sl} {w : World} (h : trystlaw17_Keys.main R p0 l1 w) : CallsV Tryd.prog n_trystlaw17_Keys #[.pointer p0, .slice l1.a l1.len l1.cap] w R :=
  liftCalls (c := (.seq (.leaf (cL (bd Tryd.f131))) (.seq (.leaf (cL (cR (bd Tryd.f131)))) (.seq (.seq (.leaf (cL (cL (cR (cR (bd Tryd.f131)))))) (.block 0 (.loop 1 (.seq (.seq (.leaf (cL (cL (cB (cB (cR (cL (cR (cR (bd Tryd.f131)))))))))) (.cnd (.tmp 12) (.leaf (cT (cR (cL (cB (cB (cR (cL (cR (cR (bd Tryd.f131))))))))))) (.leaf (cE (cR (cL (cB (cB (cR (cL (cR (cR (bd Tryd.f131))))))))))))) (.seq (.block 1 (.leaf (cB (cL (cR (cB (cB (cR (cL (cR (cR (bd Tryd.f131)))))))))))) (.leaf (cR (cR (cB (cB (cR (cL (cR (cR (bd Tryd.f131))))))))))))))) (.seq (.leaf (cL (cR (cR (cR (bd Tryd.f131)))))) (.leaf (cR (cR (cR (cR (bd Tryd.f131))))))))))) (J := trystlaw17_Keys.J0 R) LfYtoclhecldmahiaaDoor.mixed Tryd.func131 (by kernel_rfl) (by kernel_rfl) (mkSeq (mkSeq (mkSeq (mkSeq mkLeaf mkLeaf) (mkSeq (mkBlock (mkLoop (loopDef LfYtoclhecldmahiaaDoor.mixed [(0, .ptr), (5, .slice), (6, (.int .i64))] (by kernel_rfl) (fun M1 x w => trystlaw17_Keys.b1 R (fun y0 y1 y2 w => M1 (y0, y1, y2) w) x.1 x.2.1 x.2.2 w) (fun M1 => fun _ _ _ => False) (fun _ _ _ => by kernel_rfl) (fun M1 => (mkSeq (mkSeq mkLeaf (mkBlock mkLeaf)) (mkSeq (mkCnd mkLeaf mkLeaf) mkLeaf))) (fun x w => trystlaw17_Keys.l1 R x.1 x.2.1 x.2.2 w) (by rintro ⟨c0, c1, s0⟩ w ⟨I, μ, h0, h1⟩; refine ⟨fun y w => y.1 = c0 ∧ y.2.1 = c1 ∧ I y.2.2 w, fun y w => μ y.2.2 w, ⟨rfl, rfl, h0⟩, ?_⟩; rintro ⟨d0, d1, t0⟩ w ⟨e0, e1, hI⟩; dsimp only at e0 e1 hI; subst e0; subst e1; exact h1 _ _ hI) (fun _ _ => by kernel_rfl)))) mkLeaf)) mkLeaf) mkLeaf) (kcast (by kernel_rfl) h)

end Go.Proofs.YtoclhecldmahiaaDoor
