/-
  What the code of these functions comes to, and that it suffices for the call. Written by a program of ours, for this claim.
-/
import Derived.Test.YtoclhecldmahiaaDoorM3Fns
set_option linter.unusedVariables false
set_option linter.unusedVariables false
namespace Go.Proofs.YtoclhecldmahiaaDoor
open Go.Lf
abbrev n_trystlaw24_MixTurned : Nat := 20
/-! trystlaw24_MixTurned -/
def trystlaw24_MixTurned.c1 (R : Value → World → Prop) (w : World) : Prop :=
  CallsV Tryd.prog n_trystlaw24_wakes #[] w (fun v_1 w1 =>
  ∃ b_2 : Bool, v_1 = .bool b_2 ∧
  R (.bool b_2) w1)

def trystlaw24_MixTurned.c3 (R : Value → World → Prop) (N2 : Addr → Addr → Int → World → Prop) (x24 : Addr) (y27 : Addr) (i30 : Int) (found31 : Int) (w : World) : Prop :=
  cond ((found31 : Int) != 1)
  (R (.bool false) w)
  ((let i30_2 : Int := (IntKind.i64.wrap (i30 + 1));
  N2 x24 y27 i30_2 w))

def trystlaw24_MixTurned.b4 (R : Value → World → Prop) (N2 : Addr → Addr → Int → World → Prop) (N4 : Addr → Addr → Int → Int → Int → World → Prop) (x24 : Addr) (y27 : Addr) (i30 : Int) (found31 : Int) (k32 : Int) (w : World) : Prop :=
  ∃ (a_4 : Option Addr) (l_5 c_6 : Nat), w.cell? y27 = some (.slice a_4 l_5 c_6) ∧
  cond (decide ((k32 : Int) < ((l_5 : Nat) : Int)))
  (∃ (a_7 : Option Addr) (l_8 c_9 : Nat), w.cell? x24 = some (.slice a_7 l_8 c_9) ∧
  0 ≤ (i30 : Int) ∧ i30 < ((l_8 : Nat) : Int) ∧ ∃ q_10 : Addr, a_7 = some q_10 ∧
  ∃ x_11 : Int, w.cell? (q_10.add ((i30 : Int).toNat * 2)) = some (.int .i64 x_11) ∧
  ∃ (a_12 : Option Addr) (l_13 c_14 : Nat), w.cell? y27 = some (.slice a_12 l_13 c_14) ∧
  0 ≤ (k32 : Int) ∧ k32 < ((l_13 : Nat) : Int) ∧ ∃ q_15 : Addr, a_12 = some q_15 ∧
  ∃ x_16 : Int, w.cell? (q_15.add ((k32 : Int).toNat * 2)) = some (.int .i64 x_16) ∧
  cond ((x_11 : Int) == x_16)
  (∃ (a_17 : Option Addr) (l_18 c_19 : Nat), w.cell? x24 = some (.slice a_17 l_18 c_19) ∧
  0 ≤ (i30 : Int) ∧ i30 < ((l_18 : Nat) : Int) ∧ ∃ q_20 : Addr, a_17 = some q_20 ∧
  ∃ x_21 : Int, w.cell? ((q_20.add ((i30 : Int).toNat * 2)).add 1) = some (.int .i64 x_21) ∧
  ∃ (a_22 : Option Addr) (l_23 c_24 : Nat), w.cell? y27 = some (.slice a_22 l_23 c_24) ∧
  0 ≤ (k32 : Int) ∧ k32 < ((l_23 : Nat) : Int) ∧ ∃ q_25 : Addr, a_22 = some q_25 ∧
  ∃ x_26 : Int, w.cell? ((q_25.add ((k32 : Int).toNat * 2)).add 1) = some (.int .i64 x_26) ∧
  cond ((x_21 : Int) == x_26)
  ((let found31_26 : Int := (IntKind.i64.wrap (found31 + 1));
  (let k32_27 : Int := (IntKind.i64.wrap (k32 + 1));
  N4 x24 y27 i30 found31_26 k32_27 w.drew)))
  ((let k32_28 : Int := (IntKind.i64.wrap (k32 + 1));
  N4 x24 y27 i30 found31 k32_28 w.drew)))
  ((let k32_29 : Int := (IntKind.i64.wrap (k32 + 1));
  N4 x24 y27 i30 found31 k32_29 w.drew)))
  (trystlaw24_MixTurned.c3 R N2 x24 y27 i30 found31 w)

def trystlaw24_MixTurned.l4 (R : Value → World → Prop) (N2 : Addr → Addr → Int → World → Prop) (x24 : Addr) (y27 : Addr) (i30 : Int) (found31 : Int) (k32 : Int) (w : World) : Prop :=
  ∃ (I : (Int × Int) → World → Prop) (μ : (Int × Int) → World → Nat), I (found31, k32) w ∧ ∀ s w, I s w → trystlaw24_MixTurned.b4 R N2 (fun x24' y27' i30' found31' k32' w' => (x24' = x24 ∧ y27' = y27 ∧ i30' = i30 ∧ I (found31', k32') w') ∧ μ (found31', k32') w' < μ s w) x24 y27 i30 s.1 s.2 w

def trystlaw24_MixTurned.b2 (R : Value → World → Prop) (N2 : Addr → Addr → Int → World → Prop) (x24 : Addr) (y27 : Addr) (i30 : Int) (w : World) : Prop :=
  ∃ (a_31 : Option Addr) (l_32 c_33 : Nat), w.cell? x24 = some (.slice a_31 l_32 c_33) ∧
  cond (decide ((i30 : Int) < ((l_32 : Nat) : Int)))
  (trystlaw24_MixTurned.l4 R N2 x24 y27 i30 0 0 w)
  (trystlaw24_MixTurned.c1 R w)

def trystlaw24_MixTurned.l2 (R : Value → World → Prop) (x24 : Addr) (y27 : Addr) (i30 : Int) (w : World) : Prop :=
  ∃ (I : Int → World → Prop) (μ : Int → World → Nat), I i30 w ∧ ∀ s w, I s w → trystlaw24_MixTurned.b2 R (fun x24' y27' i30' w' => (x24' = x24 ∧ y27' = y27 ∧ I i30' w') ∧ μ i30' w' < μ s w) x24 y27 s w

def trystlaw24_MixTurned.c5 (R : Value → World → Prop) (x24 : Addr) (y27 : Addr) (w : World) : Prop :=
  trystlaw24_MixTurned.l2 R x24 y27 0 w

def trystlaw24_MixTurned.c6 (R : Value → World → Prop) (in14 : Sl) (x24 : Addr) (a25 : Sl) (e26 : Int) (y27 : Addr) (c28 : Sl) (f29 : Int) (w : World) : Prop :=
  cond ((e26 : Int) != 0)
  (R (.bool false) w)
  (cond ((f29 : Int) != 0)
  (R (.bool false) w)
  (CallsV Tryd.prog n_trystkeep_Ints #[.slice a25.a a25.len a25.cap, .slice c28.a c28.len c28.cap] w (fun v_34 w2 =>
  ∃ b_35 : Bool, v_34 = .bool b_35 ∧
  cond (!b_35)
  (R (.bool false) w2)
  (∃ (a_36 : Option Addr) (l_37 c_38 : Nat), w2.cell? x24 = some (.slice a_36 l_37 c_38) ∧
  ∃ (a_39 : Option Addr) (l_40 c_41 : Nat), w2.cell? y27 = some (.slice a_39 l_40 c_41) ∧
  cond ((((l_37 : Nat) : Int) : Int) != ((l_40 : Nat) : Int))
  (R (.bool false) w2)
  (0 ≤ (0 : Int) ∧ 0 < ((3 : Nat) : Int) ∧
  ∃ (a_42 : Option Addr) (l_43 c_44 : Nat), w2.cell? ((x24.add 1).add (0 : Int).toNat) = some (.slice a_42 l_43 c_44) ∧
  CallsV Tryd.prog n_trystkeep_Ints #[.slice a_42 l_43 c_44, .slice in14.a in14.len in14.cap] w2 (fun v_45 w3 =>
  ∃ b_46 : Bool, v_45 = .bool b_46 ∧
  cond (!b_46)
  (R (.bool false) w3)
  (0 ≤ (0 : Int) ∧ 0 < ((3 : Nat) : Int) ∧
  ∃ (a_47 : Option Addr) (l_48 c_49 : Nat), w3.cell? ((y27.add 1).add (0 : Int).toNat) = some (.slice a_47 l_48 c_49) ∧
  CallsV Tryd.prog n_trystkeep_Ints #[.slice a_47 l_48 c_49, .slice in14.a in14.len in14.cap] w3 (fun v_50 w4 =>
  ∃ b_51 : Bool, v_50 = .bool b_51 ∧
  cond (!b_51)
  (R (.bool false) w4)
  (trystlaw24_MixTurned.c5 R x24 y27 w4)))))))))

def trystlaw24_MixTurned.c7 (R : Value → World → Prop) (p9 : Option Addr) (secrets12 : Sl) (in14 : Sl) (v22 : Sl) (x24 : Addr) (a25 : Sl) (e26 : Int) (w : World) : Prop :=
  ∃ S_52 : World → Prop, S_52 w.drew ∧
  ∃ q_53 : Addr, p9 = some q_53 ∧
  ∃ p_54 : Option Addr, (∀ x, S_52 x → x.cell? q_53 = some (.pointer p_54)) ∧
  (CallsV Tryd.prog n_trystlaw10_Pair_Ts #[.pointer p9, .slice secrets12.a secrets12.len secrets12.cap] w.drew (fun v_55 w5 =>
  ∃ (a_56 : Option Addr) (l_57 c_58 : Nat), v_55 = .slice a_56 l_57 c_58 ∧
  S_52 w5 ∧
  (CallsV Tryd.prog n_mix_Round #[.pointer p_54, .agg #[.slice none 0 0, .slice none 0 0, .slice none 0 0, .slice none 0 0], .slice a_56 l_57 c_58, .slice in14.a in14.len in14.cap, .slice v22.a v22.len v22.cap] w5 (fun v_59 w6 =>
  ∃ (a_60 : Option Addr) (l_61 c_62 : Nat), ∃ (a_63 : Option Addr) (l_64 c_65 : Nat), ∃ (a_66 : Option Addr) (l_67 c_68 : Nat), ∃ (a_69 : Option Addr) (l_70 c_71 : Nat), ∃ (a_72 : Option Addr) (l_73 c_74 : Nat), ∃ x_75 : Int, v_59 = .tuple #[.agg #[.slice a_60 l_61 c_62, .slice a_63 l_64 c_65, .slice a_66 l_67 c_68, .slice a_69 l_70 c_71], .slice a_72 l_73 c_74, .int .i64 x_75] ∧
  let w7 := w6.alloc (.cells #[.slice none 0 0, .slice none 0 0, .slice none 0 0, .slice none 0 0] 127);
  (∀ j, j < 4 → Wr w7 ((newA w6).add j)) ∧
  (let w8 := setCells (newA w6) [.slice a_60 l_61 c_62, .slice a_63 l_64 c_65, .slice a_66 l_67 c_68, .slice a_69 l_70 c_71] 0 w7;
  trystlaw24_MixTurned.c6 R in14 x24 a25 e26 (newA w6) ⟨a_72, l_73, c_74⟩ x_75 w8))) ∧
  (let w9 := w5.alloc (.cells #[.slice none 0 0, .slice none 0 0, .slice none 0 0, .slice none 0 0] 127);
  S_52 w9 ∧
  CallsV Tryd.prog n_mix_Round #[.pointer p_54, .agg #[.slice none 0 0, .slice none 0 0, .slice none 0 0, .slice none 0 0], .slice a_56 l_57 c_58, .slice in14.a in14.len in14.cap, .slice v22.a v22.len v22.cap] w9 (fun v_76 w10 =>
  ∃ (a_77 : Option Addr) (l_78 c_79 : Nat), ∃ (a_80 : Option Addr) (l_81 c_82 : Nat), ∃ (a_83 : Option Addr) (l_84 c_85 : Nat), ∃ (a_86 : Option Addr) (l_87 c_88 : Nat), ∃ (a_89 : Option Addr) (l_90 c_91 : Nat), ∃ x_92 : Int, v_76 = .tuple #[.agg #[.slice a_77 l_78 c_79, .slice a_80 l_81 c_82, .slice a_83 l_84 c_85, .slice a_86 l_87 c_88], .slice a_89 l_90 c_91, .int .i64 x_92] ∧
  (∀ j, j < 4 → Wr w10 ((newA w5).add j)) ∧
  (let w11 := setCells (newA w5) [.slice a_77 l_78 c_79, .slice a_80 l_81 c_82, .slice a_83 l_84 c_85, .slice a_86 l_87 c_88] 0 w10;
  trystlaw24_MixTurned.c6 R in14 x24 a25 e26 (newA w5) ⟨a_89, l_90, c_91⟩ x_92 w11))))) ∧
  (let w12 := w.drew.alloc (.cells #[.slice none 0 0, .slice none 0 0, .slice none 0 0, .slice none 0 0] 127);
  S_52 w12 ∧
  CallsV Tryd.prog n_trystlaw10_Pair_Ts #[.pointer p9, .slice secrets12.a secrets12.len secrets12.cap] w12 (fun v_93 w13 =>
  ∃ (a_94 : Option Addr) (l_95 c_96 : Nat), v_93 = .slice a_94 l_95 c_96 ∧
  S_52 w13 ∧
  CallsV Tryd.prog n_mix_Round #[.pointer p_54, .agg #[.slice none 0 0, .slice none 0 0, .slice none 0 0, .slice none 0 0], .slice a_94 l_95 c_96, .slice in14.a in14.len in14.cap, .slice v22.a v22.len v22.cap] w13 (fun v_97 w14 =>
  ∃ (a_98 : Option Addr) (l_99 c_100 : Nat), ∃ (a_101 : Option Addr) (l_102 c_103 : Nat), ∃ (a_104 : Option Addr) (l_105 c_106 : Nat), ∃ (a_107 : Option Addr) (l_108 c_109 : Nat), ∃ (a_110 : Option Addr) (l_111 c_112 : Nat), ∃ x_113 : Int, v_97 = .tuple #[.agg #[.slice a_98 l_99 c_100, .slice a_101 l_102 c_103, .slice a_104 l_105 c_106, .slice a_107 l_108 c_109], .slice a_110 l_111 c_112, .int .i64 x_113] ∧
  (∀ j, j < 4 → Wr w14 ((newA w.drew).add j)) ∧
  (let w15 := setCells (newA w.drew) [.slice a_98 l_99 c_100, .slice a_101 l_102 c_103, .slice a_104 l_105 c_106, .slice a_107 l_108 c_109] 0 w14;
  trystlaw24_MixTurned.c6 R in14 x24 a25 e26 (newA w.drew) ⟨a_110, l_111, c_112⟩ x_113 w15))))

def trystlaw24_MixTurned.c8 (R : Value → World → Prop) (p9 : Option Addr) (secrets12 : Sl) (in14 : Sl) (u21 : Sl) (v22 : Sl) (w : World) : Prop :=
  ∃ S_114 : World → Prop, S_114 w.drew ∧
  ∃ q_115 : Addr, p9 = some q_115 ∧
  ∃ p_116 : Option Addr, (∀ x, S_114 x → x.cell? q_115 = some (.pointer p_116)) ∧
  (CallsV Tryd.prog n_trystlaw10_Pair_Ts #[.pointer p9, .slice secrets12.a secrets12.len secrets12.cap] w.drew (fun v_117 w16 =>
  ∃ (a_118 : Option Addr) (l_119 c_120 : Nat), v_117 = .slice a_118 l_119 c_120 ∧
  S_114 w16 ∧
  (CallsV Tryd.prog n_mix_Round #[.pointer p_116, .agg #[.slice none 0 0, .slice none 0 0, .slice none 0 0, .slice none 0 0], .slice a_118 l_119 c_120, .slice in14.a in14.len in14.cap, .slice u21.a u21.len u21.cap] w16 (fun v_121 w17 =>
  ∃ (a_122 : Option Addr) (l_123 c_124 : Nat), ∃ (a_125 : Option Addr) (l_126 c_127 : Nat), ∃ (a_128 : Option Addr) (l_129 c_130 : Nat), ∃ (a_131 : Option Addr) (l_132 c_133 : Nat), ∃ (a_134 : Option Addr) (l_135 c_136 : Nat), ∃ x_137 : Int, v_121 = .tuple #[.agg #[.slice a_122 l_123 c_124, .slice a_125 l_126 c_127, .slice a_128 l_129 c_130, .slice a_131 l_132 c_133], .slice a_134 l_135 c_136, .int .i64 x_137] ∧
  let w18 := w17.alloc (.cells #[.slice none 0 0, .slice none 0 0, .slice none 0 0, .slice none 0 0] 127);
  (∀ j, j < 4 → Wr w18 ((newA w17).add j)) ∧
  (let w19 := setCells (newA w17) [.slice a_122 l_123 c_124, .slice a_125 l_126 c_127, .slice a_128 l_129 c_130, .slice a_131 l_132 c_133] 0 w18;
  trystlaw24_MixTurned.c7 R p9 secrets12 in14 v22 (newA w17) ⟨a_134, l_135, c_136⟩ x_137 w19))) ∧
  (let w20 := w16.alloc (.cells #[.slice none 0 0, .slice none 0 0, .slice none 0 0, .slice none 0 0] 127);
  S_114 w20 ∧
  CallsV Tryd.prog n_mix_Round #[.pointer p_116, .agg #[.slice none 0 0, .slice none 0 0, .slice none 0 0, .slice none 0 0], .slice a_118 l_119 c_120, .slice in14.a in14.len in14.cap, .slice u21.a u21.len u21.cap] w20 (fun v_138 w21 =>
  ∃ (a_139 : Option Addr) (l_140 c_141 : Nat), ∃ (a_142 : Option Addr) (l_143 c_144 : Nat), ∃ (a_145 : Option Addr) (l_146 c_147 : Nat), ∃ (a_148 : Option Addr) (l_149 c_150 : Nat), ∃ (a_151 : Option Addr) (l_152 c_153 : Nat), ∃ x_154 : Int, v_138 = .tuple #[.agg #[.slice a_139 l_140 c_141, .slice a_142 l_143 c_144, .slice a_145 l_146 c_147, .slice a_148 l_149 c_150], .slice a_151 l_152 c_153, .int .i64 x_154] ∧
  (∀ j, j < 4 → Wr w21 ((newA w16).add j)) ∧
  (let w22 := setCells (newA w16) [.slice a_139 l_140 c_141, .slice a_142 l_143 c_144, .slice a_145 l_146 c_147, .slice a_148 l_149 c_150] 0 w21;
  trystlaw24_MixTurned.c7 R p9 secrets12 in14 v22 (newA w16) ⟨a_151, l_152, c_153⟩ x_154 w22))))) ∧
  (let w23 := w.drew.alloc (.cells #[.slice none 0 0, .slice none 0 0, .slice none 0 0, .slice none 0 0] 127);
  S_114 w23 ∧
  CallsV Tryd.prog n_trystlaw10_Pair_Ts #[.pointer p9, .slice secrets12.a secrets12.len secrets12.cap] w23 (fun v_155 w24 =>
  ∃ (a_156 : Option Addr) (l_157 c_158 : Nat), v_155 = .slice a_156 l_157 c_158 ∧
  S_114 w24 ∧
  CallsV Tryd.prog n_mix_Round #[.pointer p_116, .agg #[.slice none 0 0, .slice none 0 0, .slice none 0 0, .slice none 0 0], .slice a_156 l_157 c_158, .slice in14.a in14.len in14.cap, .slice u21.a u21.len u21.cap] w24 (fun v_159 w25 =>
  ∃ (a_160 : Option Addr) (l_161 c_162 : Nat), ∃ (a_163 : Option Addr) (l_164 c_165 : Nat), ∃ (a_166 : Option Addr) (l_167 c_168 : Nat), ∃ (a_169 : Option Addr) (l_170 c_171 : Nat), ∃ (a_172 : Option Addr) (l_173 c_174 : Nat), ∃ x_175 : Int, v_159 = .tuple #[.agg #[.slice a_160 l_161 c_162, .slice a_163 l_164 c_165, .slice a_166 l_167 c_168, .slice a_169 l_170 c_171], .slice a_172 l_173 c_174, .int .i64 x_175] ∧
  (∀ j, j < 4 → Wr w25 ((newA w.drew).add j)) ∧
  (let w26 := setCells (newA w.drew) [.slice a_160 l_161 c_162, .slice a_163 l_164 c_165, .slice a_166 l_167 c_168, .slice a_169 l_170 c_171] 0 w25;
  trystlaw24_MixTurned.c7 R p9 secrets12 in14 v22 (newA w.drew) ⟨a_172, l_173, c_174⟩ x_175 w26))))

def trystlaw24_MixTurned.b9 (R : Value → World → Prop) (N9 : Sl → Sl → Option Addr → Sl → Sl → Sl → Sl → Int → World → Prop) (one2 : Sl) (other3 : Sl) (p9 : Option Addr) (secrets12 : Sl) (in14 : Sl) (u21 : Sl) (v22 : Sl) (i23 : Int) (w : World) : Prop :=
  cond (decide ((i23 : Int) < 3))
  (∃ S_176 : World → Prop, S_176 w.drew ∧
  0 ≤ (i23 : Int) ∧ i23 < ((one2.len : Nat) : Int) ∧ ∃ q_177 : Addr, one2.a = some q_177 ∧
  ∃ (a_178 : Option Addr) (l_179 c_180 : Nat), (∀ x, S_176 x → x.cell? (q_177.add (i23 : Int).toNat) = some (.slice a_178 l_179 c_180)) ∧
  0 ≤ (i23 : Int) ∧ i23 < ((other3.len : Nat) : Int) ∧ ∃ q_181 : Addr, other3.a = some q_181 ∧
  ∃ (a_182 : Option Addr) (l_183 c_184 : Nat), (∀ x, S_176 x → x.cell? (q_181.add (i23 : Int).toNat) = some (.slice a_182 l_183 c_184)) ∧
  CallsV Tryd.prog n_trystlaw24_perm #[.slice a_178 l_179 c_180, .int .i64 ((in14.len : Nat) : Int), .bool false] w.drew (fun v_185 w27 =>
  ∃ (a_186 : Option Addr) (l_187 c_188 : Nat), v_185 = .slice a_186 l_187 c_188 ∧
  S_176 w27 ∧
  let w28 := w27.alloc (.cells #[.slice a_186 l_187 c_188] 29);
  S_176 w28 ∧
  ∃ (a_189 : Option Addr) (l_190 c_191 : Nat), ∃ w29 : World, (builtin .append #[128, 128] 128 #[] #[.slice u21.a u21.len u21.cap, .slice (some (newA w27)) 1 1]).run Tryd.prog w28 = .ok (.value (.slice a_189 l_190 c_191)) w29 ∧
  S_176 w29 ∧
  CallsV Tryd.prog n_trystlaw24_perm #[.slice a_182 l_183 c_184, .int .i64 ((in14.len : Nat) : Int), .bool false] w29 (fun v_192 w30 =>
  ∃ (a_193 : Option Addr) (l_194 c_195 : Nat), v_192 = .slice a_193 l_194 c_195 ∧
  let w31 := w30.alloc (.cells #[.slice a_193 l_194 c_195] 29);
  ∃ (a_196 : Option Addr) (l_197 c_198 : Nat), ∃ w32 : World, (builtin .append #[128, 128] 128 #[] #[.slice v22.a v22.len v22.cap, .slice (some (newA w30)) 1 1]).run Tryd.prog w31 = .ok (.value (.slice a_196 l_197 c_198)) w32 ∧
  (let i23_198 : Int := (IntKind.i64.wrap (i23 + 1));
  N9 one2 other3 p9 secrets12 in14 ⟨a_189, l_190, c_191⟩ ⟨a_196, l_197, c_198⟩ i23_198 w32))))
  (trystlaw24_MixTurned.c8 R p9 secrets12 in14 u21 v22 w)

def trystlaw24_MixTurned.l9 (R : Value → World → Prop) (one2 : Sl) (other3 : Sl) (p9 : Option Addr) (secrets12 : Sl) (in14 : Sl) (u21 : Sl) (v22 : Sl) (i23 : Int) (w : World) : Prop :=
  ∃ (I : (Sl × Sl × Int) → World → Prop) (μ : (Sl × Sl × Int) → World → Nat), I (u21, v22, i23) w ∧ ∀ s w, I s w → trystlaw24_MixTurned.b9 R (fun one2' other3' p9' secrets12' in14' u21' v22' i23' w' => (one2' = one2 ∧ other3' = other3 ∧ p9' = p9 ∧ secrets12' = secrets12 ∧ in14' = in14 ∧ I (u21', v22', i23') w') ∧ μ (u21', v22', i23') w' < μ s w) one2 other3 p9 secrets12 in14 s.1 s.2.1 s.2.2 w

def trystlaw24_MixTurned.c10 (R : Value → World → Prop) (one2 : Sl) (other3 : Sl) (p9 : Option Addr) (secrets12 : Sl) (in14 : Sl) (w : World) : Prop :=
  trystlaw24_MixTurned.l9 R one2 other3 p9 secrets12 in14 ⟨none, 0, 0⟩ ⟨none, 0, 0⟩ 0 w

def trystlaw24_MixTurned.c12 (R : Value → World → Prop) (N11 : Sl → Sl → Sl → Option Addr → Option Addr → Sl → Sl → Sl → Int → World → Prop) (asks1 : Sl) (one2 : Sl) (other3 : Sl) (p9 : Option Addr) (b11 : Option Addr) (secrets12 : Sl) (pubs13 : Sl) (in14 : Sl) (i17 : Int) (x18 : Int) (w : World) : Prop :=
  CallsV Tryd.prog n_trystref10_Arena_Make #[.pointer b11, .int .i64 1, .int .i64 (IntKind.i64.wrap (600 + i17)), .slice none 0 0] w (fun v_200 w33 =>
  ∃ x_201 : Int, v_200 = .int .i64 x_201 ∧
  CallsV Tryd.prog n_trystref22_Wrap #[.pointer b11, .slice pubs13.a pubs13.len pubs13.cap, .int .i64 x_201, .int .i64 x18] w33 (fun v_202 w34 =>
  ∃ x_203 : Int, ∃ (a_204 : Option Addr) (l_205 c_206 : Nat), v_202 = .tuple #[.int .i64 x_203, .slice a_204 l_205 c_206] ∧
  CallsV Tryd.prog n_trystlaw10_Pair_T #[.pointer p9, .int .i64 x_203] w34 (fun v_207 w35 =>
  ∃ x_208 : Int, v_207 = .int .i64 x_208 ∧
  let w36 := w35.alloc (.cells #[.int .i64 x_208] 3);
  ∃ (a_209 : Option Addr) (l_210 c_211 : Nat), ∃ w37 : World, (builtin .append #[29, 29] 29 #[] #[.slice in14.a in14.len in14.cap, .slice (some (newA w35)) 1 1]).run Tryd.prog w36 = .ok (.value (.slice a_209 l_210 c_211)) w37 ∧
  (let i17_211 : Int := (IntKind.i64.wrap (i17 + 1));
  N11 asks1 one2 other3 p9 b11 secrets12 pubs13 ⟨a_209, l_210, c_211⟩ i17_211 w37))))

def trystlaw24_MixTurned.b11 (R : Value → World → Prop) (N11 : Sl → Sl → Sl → Option Addr → Option Addr → Sl → Sl → Sl → Int → World → Prop) (asks1 : Sl) (one2 : Sl) (other3 : Sl) (p9 : Option Addr) (b11 : Option Addr) (secrets12 : Sl) (pubs13 : Sl) (in14 : Sl) (i17 : Int) (w : World) : Prop :=
  cond (decide ((i17 : Int) < ((asks1.len : Nat) : Int)))
  (CallsV Tryd.prog n_trystref10_Arena_Word #[.pointer b11, .int .i64 71] w (fun v_213 w38 =>
  ∃ x_214 : Int, v_213 = .int .i64 x_214 ∧
  CallsV Tryd.prog n_trystref10_Arena_Make #[.pointer b11, .int .i64 1, .int .i64 (IntKind.i64.wrap (100 + i17)), .slice none 0 0] w38 (fun v_215 w39 =>
  ∃ x_216 : Int, v_215 = .int .i64 x_216 ∧
  CallsV Tryd.prog n_trystref10_Arena_Make #[.pointer b11, .int .i64 1, .int .i64 (IntKind.i64.wrap (200 + i17)), .slice none 0 0] w39 (fun v_217 w40 =>
  ∃ x_218 : Int, v_217 = .int .i64 x_218 ∧
  let w41 := w40.alloc (.cells #[.int .i64 x_214, .int .i64 x_216, .int .i64 x_218] 3);
  CallsV Tryd.prog n_trystref10_Arena_Make #[.pointer b11, .int .i64 9, .int .i64 0, .slice (some (newA w40)) 3 3] w41 (fun v_219 w42 =>
  ∃ x_220 : Int, v_219 = .int .i64 x_220 ∧
  0 ≤ (i17 : Int) ∧ i17 < ((asks1.len : Nat) : Int) ∧ ∃ q_221 : Addr, asks1.a = some q_221 ∧
  ∃ x_222 : Int, w42.cell? (q_221.add ((i17 : Int).toNat * 4)) = some (.int .i64 x_222) ∧
  (3 : Int) ≠ 0 ∧
  (let t114_222 : Bool := (((Int.tmod (IntKind.u64.wrap x_222) 3) : Int) == 1);
  cond t114_222
  (∃ S_224 : World → Prop, S_224 w42.drew ∧
  0 ≤ (i17 : Int) ∧ i17 < ((asks1.len : Nat) : Int) ∧ ∃ q_225 : Addr, asks1.a = some q_225 ∧
  ∃ x_226 : Int, (∀ x, S_224 x → x.cell? ((q_225.add ((i17 : Int).toNat * 4)).add 1) = some (.int .i64 x_226)) ∧
  (5 : Int) ≠ 0 ∧
  CallsV Tryd.prog n_trystref10_Arena_Word #[.pointer b11, .int .i64 72] w42.drew (fun v_227 w43 =>
  ∃ x_228 : Int, v_227 = .int .i64 x_228 ∧
  S_224 w43 ∧
  CallsV Tryd.prog n_trystref10_Arena_Make #[.pointer b11, .int .i64 1, .int .i64 (IntKind.i64.wrap (300 + (IntKind.i64.wrap (Int.tmod (IntKind.u64.wrap x_226) 5)))), .slice none 0 0] w43 (fun v_229 w44 =>
  ∃ x_230 : Int, v_229 = .int .i64 x_230 ∧
  let w45 := w44.alloc (.cells #[.int .i64 x_228, .int .i64 x_230] 3);
  CallsV Tryd.prog n_trystref10_Arena_Make #[.pointer b11, .int .i64 9, .int .i64 0, .slice (some (newA w44)) 2 2] w45 (fun v_231 w46 =>
  ∃ x_232 : Int, v_231 = .int .i64 x_232 ∧
  trystlaw24_MixTurned.c12 R N11 asks1 one2 other3 p9 b11 secrets12 pubs13 in14 i17 x_232 w46))))
  ((let t132_232 : Bool := (((Int.tmod (IntKind.u64.wrap x_222) 3) : Int) == 2);
  cond t132_232
  (∃ S_234 : World → Prop, S_234 w42.drew ∧
  0 ≤ (i17 : Int) ∧ i17 < ((asks1.len : Nat) : Int) ∧ ∃ q_235 : Addr, asks1.a = some q_235 ∧
  ∃ x_236 : Int, (∀ x, S_234 x → x.cell? ((q_235.add ((i17 : Int).toNat * 4)).add 1) = some (.int .i64 x_236)) ∧
  (4 : Int) ≠ 0 ∧
  CallsV Tryd.prog n_trystref10_Arena_Word #[.pointer b11, .int .i64 73] w42.drew (fun v_237 w47 =>
  ∃ x_238 : Int, v_237 = .int .i64 x_238 ∧
  S_234 w47 ∧
  CallsV Tryd.prog n_trystref10_Arena_Make #[.pointer b11, .int .i64 1, .int .i64 (IntKind.i64.wrap (400 + (IntKind.i64.wrap (Int.tmod (IntKind.u64.wrap x_236) 4)))), .slice none 0 0] w47 (fun v_239 w48 =>
  ∃ x_240 : Int, v_239 = .int .i64 x_240 ∧
  CallsV Tryd.prog n_trystref10_Arena_Make #[.pointer b11, .int .i64 1, .int .i64 (IntKind.i64.wrap (500 + i17)), .slice none 0 0] w48 (fun v_241 w49 =>
  ∃ x_242 : Int, v_241 = .int .i64 x_242 ∧
  let w50 := w49.alloc (.cells #[.int .i64 x_238, .int .i64 x_240, .int .i64 x_242] 3);
  CallsV Tryd.prog n_trystref10_Arena_Make #[.pointer b11, .int .i64 9, .int .i64 0, .slice (some (newA w49)) 3 3] w50 (fun v_243 w51 =>
  ∃ x_244 : Int, v_243 = .int .i64 x_244 ∧
  trystlaw24_MixTurned.c12 R N11 asks1 one2 other3 p9 b11 secrets12 pubs13 in14 i17 x_244 w51)))))
  (trystlaw24_MixTurned.c12 R N11 asks1 one2 other3 p9 b11 secrets12 pubs13 in14 i17 x_220 w42)))))))))
  (trystlaw24_MixTurned.c10 R one2 other3 p9 secrets12 in14 w)

def trystlaw24_MixTurned.l11 (R : Value → World → Prop) (asks1 : Sl) (one2 : Sl) (other3 : Sl) (p9 : Option Addr) (b11 : Option Addr) (secrets12 : Sl) (pubs13 : Sl) (in14 : Sl) (i17 : Int) (w : World) : Prop :=
  ∃ (I : (Sl × Int) → World → Prop) (μ : (Sl × Int) → World → Nat), I (in14, i17) w ∧ ∀ s w, I s w → trystlaw24_MixTurned.b11 R (fun asks1' one2' other3' p9' b11' secrets12' pubs13' in14' i17' w' => (asks1' = asks1 ∧ one2' = one2 ∧ other3' = other3 ∧ p9' = p9 ∧ b11' = b11 ∧ secrets12' = secrets12 ∧ pubs13' = pubs13 ∧ I (in14', i17') w') ∧ μ (in14', i17') w' < μ s w) asks1 one2 other3 p9 b11 secrets12 pubs13 s.1 s.2 w

def trystlaw24_MixTurned.c13 (R : Value → World → Prop) (asks1 : Sl) (one2 : Sl) (other3 : Sl) (p9 : Option Addr) (b11 : Option Addr) (secrets12 : Sl) (pubs13 : Sl) (in14 : Sl) (w : World) : Prop :=
  trystlaw24_MixTurned.l11 R asks1 one2 other3 p9 b11 secrets12 pubs13 in14 0 w

def trystlaw24_MixTurned.b14 (R : Value → World → Prop) (N14 : Sl → Sl → Sl → Option Addr → Option Addr → Sl → Sl → Sl → Int → World → Prop) (asks1 : Sl) (one2 : Sl) (other3 : Sl) (p9 : Option Addr) (b11 : Option Addr) (in14 : Sl) (secrets12 : Sl) (pubs13 : Sl) (i15 : Int) (w : World) : Prop :=
  cond (decide ((i15 : Int) < 3))
  (CallsV Tryd.prog n_trystref10_Arena_Make #[.pointer b11, .int .i64 1, .int .i64 (IntKind.i64.wrap (9000 + i15)), .slice none 0 0] w (fun v_245 w52 =>
  ∃ x_246 : Int, v_245 = .int .i64 x_246 ∧
  let w53 := w52.alloc (.cells #[.int .i64 x_246] 3);
  ∃ (a_247 : Option Addr) (l_248 c_249 : Nat), ∃ w54 : World, (builtin .append #[29, 29] 29 #[] #[.slice secrets12.a secrets12.len secrets12.cap, .slice (some (newA w52)) 1 1]).run Tryd.prog w53 = .ok (.value (.slice a_247 l_248 c_249)) w54 ∧
  CallsV Tryd.prog n_trystref10_Arena_Pub #[.pointer b11, .int .i64 x_246] w54 (fun v_250 w55 =>
  ∃ x_251 : Int, v_250 = .int .i64 x_251 ∧
  let w56 := w55.alloc (.cells #[.int .i64 x_251] 3);
  ∃ (a_252 : Option Addr) (l_253 c_254 : Nat), ∃ w57 : World, (builtin .append #[29, 29] 29 #[] #[.slice pubs13.a pubs13.len pubs13.cap, .slice (some (newA w55)) 1 1]).run Tryd.prog w56 = .ok (.value (.slice a_252 l_253 c_254)) w57 ∧
  0 ≤ (i15 : Int) ∧ i15 < ((one2.len : Nat) : Int) ∧ ∃ q_255 : Addr, one2.a = some q_255 ∧
  ∃ (a_256 : Option Addr) (l_257 c_258 : Nat), w57.cell? (q_255.add (i15 : Int).toNat) = some (.slice a_256 l_257 c_258) ∧
  cond (decide ((((l_257 : Nat) : Int) : Int) > 100))
  (R (.bool true) w57)
  (0 ≤ (i15 : Int) ∧ i15 < ((other3.len : Nat) : Int) ∧ ∃ q_259 : Addr, other3.a = some q_259 ∧
  ∃ (a_260 : Option Addr) (l_261 c_262 : Nat), w57.cell? (q_259.add (i15 : Int).toNat) = some (.slice a_260 l_261 c_262) ∧
  cond (decide ((((l_261 : Nat) : Int) : Int) > 100))
  (R (.bool true) w57)
  ((let i15_262 : Int := (IntKind.i64.wrap (i15 + 1));
  N14 asks1 one2 other3 p9 b11 in14 ⟨a_247, l_248, c_249⟩ ⟨a_252, l_253, c_254⟩ i15_262 w57))))))
  (trystlaw24_MixTurned.c13 R asks1 one2 other3 p9 b11 secrets12 pubs13 in14 w)

def trystlaw24_MixTurned.l14 (R : Value → World → Prop) (asks1 : Sl) (one2 : Sl) (other3 : Sl) (p9 : Option Addr) (b11 : Option Addr) (in14 : Sl) (secrets12 : Sl) (pubs13 : Sl) (i15 : Int) (w : World) : Prop :=
  ∃ (I : (Sl × Sl × Int) → World → Prop) (μ : (Sl × Sl × Int) → World → Nat), I (secrets12, pubs13, i15) w ∧ ∀ s w, I s w → trystlaw24_MixTurned.b14 R (fun asks1' one2' other3' p9' b11' in14' secrets12' pubs13' i15' w' => (asks1' = asks1 ∧ one2' = one2 ∧ other3' = other3 ∧ p9' = p9 ∧ b11' = b11 ∧ in14' = in14 ∧ I (secrets12', pubs13', i15') w') ∧ μ (secrets12', pubs13', i15') w' < μ s w) asks1 one2 other3 p9 b11 in14 s.1 s.2.1 s.2.2 w

def trystlaw24_MixTurned.c15 (R : Value → World → Prop) (asks1 : Sl) (one2 : Sl) (other3 : Sl) (w : World) : Prop :=
  CallsV Tryd.prog n_trystlaw10_Pairs #[.slice none 0 0] w (fun v_264 w58 =>
  ∃ p_265 : Option Addr, ∃ b_266 : Bool, v_264 = .tuple #[.pointer p_265, .bool b_266] ∧
  cond (!b_266)
  (R (.bool false) w58)
  (∃ q_267 : Addr, p_265 = some q_267 ∧
  ∃ p_268 : Option Addr, w58.cell? (q_267.add 1) = some (.pointer p_268) ∧
  trystlaw24_MixTurned.l14 R asks1 one2 other3 p_265 p_268 ⟨none, 0, 0⟩ ⟨none, 0, 0⟩ ⟨none, 0, 0⟩ 0 w58))

def trystlaw24_MixTurned.main (R : Value → World → Prop) (n0 : Int) (asks1 : Sl) (one2 : Sl) (other3 : Sl) (w : World) : Prop :=
  cond (decide ((((asks1.len : Nat) : Int) : Int) > 12))
  (R (.bool true) w)
  (cond ((((one2.len : Nat) : Int) : Int) != 3)
  (R (.bool true) w)
  (cond ((((other3.len : Nat) : Int) : Int) != 3)
  (R (.bool true) w)
  (trystlaw24_MixTurned.c15 R asks1 one2 other3 w)))

def trystlaw24_MixTurned.J2 (R : Value → World → Prop) (N2 : Addr → Addr → Int → World → Prop) (k : Nat) (fr : Fr) (w : World) : Prop :=
  cond (Nat.beq k 4) (dec [(24, .addr), (27, .addr), (30, (.int .i64)), (31, (.int .i64)), (32, (.int .i64))] fr fun x => trystlaw24_MixTurned.l4 R N2 x.1 x.2.1 x.2.2.1 x.2.2.2.1 x.2.2.2.2 w) (cond (Nat.beq k 3) (dec [(24, .addr), (27, .addr), (30, (.int .i64)), (31, (.int .i64))] fr fun x => trystlaw24_MixTurned.c3 R N2 x.1 x.2.1 x.2.2.1 x.2.2.2 w) (False))

def trystlaw24_MixTurned.J11 (R : Value → World → Prop) (N11 : Sl → Sl → Sl → Option Addr → Option Addr → Sl → Sl → Sl → Int → World → Prop) (k : Nat) (fr : Fr) (w : World) : Prop :=
  cond (Nat.beq k 12) (dec [(1, .slice), (2, .slice), (3, .slice), (9, .ptr), (11, .ptr), (12, .slice), (13, .slice), (14, .slice), (17, (.int .i64)), (18, (.int .i64))] fr fun x => trystlaw24_MixTurned.c12 R N11 x.1 x.2.1 x.2.2.1 x.2.2.2.1 x.2.2.2.2.1 x.2.2.2.2.2.1 x.2.2.2.2.2.2.1 x.2.2.2.2.2.2.2.1 x.2.2.2.2.2.2.2.2.1 x.2.2.2.2.2.2.2.2.2 w) (False)

def trystlaw24_MixTurned.J0 (R : Value → World → Prop) (k : Nat) (fr : Fr) (w : World) : Prop :=
  cond (Nat.beq k 15) (dec [(1, .slice), (2, .slice), (3, .slice)] fr fun x => trystlaw24_MixTurned.c15 R x.1 x.2.1 x.2.2 w) (cond (Nat.beq k 14) (dec [(1, .slice), (2, .slice), (3, .slice), (9, .ptr), (11, .ptr), (14, .slice), (12, .slice), (13, .slice), (15, (.int .i64))] fr fun x => trystlaw24_MixTurned.l14 R x.1 x.2.1 x.2.2.1 x.2.2.2.1 x.2.2.2.2.1 x.2.2.2.2.2.1 x.2.2.2.2.2.2.1 x.2.2.2.2.2.2.2.1 x.2.2.2.2.2.2.2.2 w) (cond (Nat.beq k 13) (dec [(1, .slice), (2, .slice), (3, .slice), (9, .ptr), (11, .ptr), (12, .slice), (13, .slice), (14, .slice)] fr fun x => trystlaw24_MixTurned.c13 R x.1 x.2.1 x.2.2.1 x.2.2.2.1 x.2.2.2.2.1 x.2.2.2.2.2.1 x.2.2.2.2.2.2.1 x.2.2.2.2.2.2.2 w) (cond (Nat.beq k 11) (dec [(1, .slice), (2, .slice), (3, .slice), (9, .ptr), (11, .ptr), (12, .slice), (13, .slice), (14, .slice), (17, (.int .i64))] fr fun x => trystlaw24_MixTurned.l11 R x.1 x.2.1 x.2.2.1 x.2.2.2.1 x.2.2.2.2.1 x.2.2.2.2.2.1 x.2.2.2.2.2.2.1 x.2.2.2.2.2.2.2.1 x.2.2.2.2.2.2.2.2 w) (cond (Nat.beq k 10) (dec [(2, .slice), (3, .slice), (9, .ptr), (12, .slice), (14, .slice)] fr fun x => trystlaw24_MixTurned.c10 R x.1 x.2.1 x.2.2.1 x.2.2.2.1 x.2.2.2.2 w) (cond (Nat.beq k 9) (dec [(2, .slice), (3, .slice), (9, .ptr), (12, .slice), (14, .slice), (21, .slice), (22, .slice), (23, (.int .i64))] fr fun x => trystlaw24_MixTurned.l9 R x.1 x.2.1 x.2.2.1 x.2.2.2.1 x.2.2.2.2.1 x.2.2.2.2.2.1 x.2.2.2.2.2.2.1 x.2.2.2.2.2.2.2 w) (cond (Nat.beq k 8) (dec [(9, .ptr), (12, .slice), (14, .slice), (21, .slice), (22, .slice)] fr fun x => trystlaw24_MixTurned.c8 R x.1 x.2.1 x.2.2.1 x.2.2.2.1 x.2.2.2.2 w) (cond (Nat.beq k 7) (dec [(9, .ptr), (12, .slice), (14, .slice), (22, .slice), (24, .addr), (25, .slice), (26, (.int .i64))] fr fun x => trystlaw24_MixTurned.c7 R x.1 x.2.1 x.2.2.1 x.2.2.2.1 x.2.2.2.2.1 x.2.2.2.2.2.1 x.2.2.2.2.2.2 w) (cond (Nat.beq k 6) (dec [(14, .slice), (24, .addr), (25, .slice), (26, (.int .i64)), (27, .addr), (28, .slice), (29, (.int .i64))] fr fun x => trystlaw24_MixTurned.c6 R x.1 x.2.1 x.2.2.1 x.2.2.2.1 x.2.2.2.2.1 x.2.2.2.2.2.1 x.2.2.2.2.2.2 w) (cond (Nat.beq k 5) (dec [(24, .addr), (27, .addr)] fr fun x => trystlaw24_MixTurned.c5 R x.1 x.2 w) (cond (Nat.beq k 2) (dec [(24, .addr), (27, .addr), (30, (.int .i64))] fr fun x => trystlaw24_MixTurned.l2 R x.1 x.2.1 x.2.2 w) (cond (Nat.beq k 1) (dec [] fr fun x => trystlaw24_MixTurned.c1 R w) (False))))))))))))

set_option maxRecDepth 100000 in
theorem trystlaw24_MixTurned.lift {R : Value → World → Prop} {n0 : Int} {asks1 : Sl} {one2 : Sl} {other3 : Sl} {w : World} (h : trystlaw24_MixTurned.main R n0 asks1 one2 other3 w) : CallsV Tryd.prog n_trystlaw24_MixTurned #[.int .i64 n0, .slice asks1.a asks1.len asks1.cap, .slice one2.a one2.len one2.cap, .slice other3.a other3.len other3.cap] w R :=
  liftCalls (c := (.seq (.leaf (cL (bd Tryd.f20))) (.seq (.seq (.leaf (cL (cL (cR (bd Tryd.f20))))) (.cnd (.tmp 45) (.seq (.leaf (cL (cT (cR (cL (cR (bd Tryd.f20))))))) (.leaf (cR (cT (cR (cL (cR (bd Tryd.f20)))))))) (.leaf (cE (cR (cL (cR (bd Tryd.f20)))))))) (.cut 15 (.seq (.leaf (cL (cR (cR (bd Tryd.f20))))) (.seq (.seq (.leaf (cL (cL (cR (cR (cR (bd Tryd.f20))))))) (.cnd (.tmp 51) (.seq (.leaf (cL (cT (cR (cL (cR (cR (cR (bd Tryd.f20))))))))) (.leaf (cR (cT (cR (cL (cR (cR (cR (bd Tryd.f20)))))))))) (.leaf (cE (cR (cL (cR (cR (cR (bd Tryd.f20)))))))))) (.seq (.leaf (cL (cR (cR (cR (cR (bd Tryd.f20))))))) (.seq (.leaf (cL (cR (cR (cR (cR (cR (bd Tryd.f20)))))))) (.seq (.seq (.leaf (cL (cL (cR (cR (cR (cR (cR (cR (bd Tryd.f20)))))))))) (.block 0 (.loop 14 (.seq (.seq (.leaf (cL (cL (cB (cB (cR (cL (cR (cR (cR (cR (cR (cR (bd Tryd.f20)))))))))))))) (.cnd (.tmp 57) (.leaf (cT (cR (cL (cB (cB (cR (cL (cR (cR (cR (cR (cR (cR (bd Tryd.f20))))))))))))))) (.leaf (cE (cR (cL (cB (cB (cR (cL (cR (cR (cR (cR (cR (cR (bd Tryd.f20))))))))))))))))) (.seq (.block 1 (.seq (.leaf (cL (cB (cL (cR (cB (cB (cR (cL (cR (cR (cR (cR (cR (cR (bd Tryd.f20)))))))))))))))) (.seq (.leaf (cL (cR (cB (cL (cR (cB (cB (cR (cL (cR (cR (cR (cR (cR (cR (bd Tryd.f20))))))))))))))))) (.seq (.leaf (cL (cR (cR (cB (cL (cR (cB (cB (cR (cL (cR (cR (cR (cR (cR (cR (bd Tryd.f20)))))))))))))))))) (.cnd (.tmp 87) (.seq (.leaf (cL (cT (cR (cR (cR (cB (cL (cR (cB (cB (cR (cL (cR (cR (cR (cR (cR (cR (bd Tryd.f20)))))))))))))))))))) (.leaf (cR (cT (cR (cR (cR (cB (cL (cR (cB (cB (cR (cL (cR (cR (cR (cR (cR (cR (bd Tryd.f20))))))))))))))))))))) (.leaf (cE (cR (cR (cR (cB (cL (cR (cB (cB (cR (cL (cR (cR (cR (cR (cR (cR (bd Tryd.f20)))))))))))))))))))))))) (.leaf (cR (cR (cB (cB (cR (cL (cR (cR (cR (cR (cR (cR (bd Tryd.f20))))))))))))))))))) (.cut 13 (.seq (.seq (.leaf (cL (cL (cR (cR (cR (cR (cR (cR (cR (bd Tryd.f20))))))))))) (.block 2 (.loop 11 (.seq (.seq (.leaf (cL (cL (cB (cB (cR (cL (cR (cR (cR (cR (cR (cR (cR (bd Tryd.f20))))))))))))))) (.cnd (.tmp 91) (.leaf (cT (cR (cL (cB (cB (cR (cL (cR (cR (cR (cR (cR (cR (cR (bd Tryd.f20)))))))))))))))) (.leaf (cE (cR (cL (cB (cB (cR (cL (cR (cR (cR (cR (cR (cR (cR (bd Tryd.f20)))))))))))))))))) (.seq (.block 3 (.seq (.leaf (cL (cB (cL (cR (cB (cB (cR (cL (cR (cR (cR (cR (cR (cR (cR (bd Tryd.f20))))))))))))))))) (.seq (.seq (.leaf (cL (cL (cR (cB (cL (cR (cB (cB (cR (cL (cR (cR (cR (cR (cR (cR (cR (bd Tryd.f20))))))))))))))))))) (.block 4 (.seq (.leaf (cL (cB (cR (cL (cR (cB (cL (cR (cB (cB (cR (cL (cR (cR (cR (cR (cR (cR (cR (bd Tryd.f20))))))))))))))))))))) (.cnd (.tmp 114) (.leaf (cT (cR (cB (cR (cL (cR (cB (cL (cR (cB (cB (cR (cL (cR (cR (cR (cR (cR (cR (cR (bd Tryd.f20)))))))))))))))))))))) (.seq (.leaf (cL (cE (cR (cB (cR (cL (cR (cB (cL (cR (cB (cB (cR (cL (cR (cR (cR (cR (cR (cR (cR (bd Tryd.f20))))))))))))))))))))))) (.cnd (.tmp 132) (.leaf (cT (cR (cE (cR (cB (cR (cL (cR (cB (cL (cR (cB (cB (cR (cL (cR (cR (cR (cR (cR (cR (cR (bd Tryd.f20)))))))))))))))))))))))) (.leaf (cE (cR (cE (cR (cB (cR (cL (cR (cB (cL (cR (cB (cB (cR (cL (cR (cR (cR (cR (cR (cR (cR (bd Tryd.f20)))))))))))))))))))))))))))))) (.cut 12 (.seq (.leaf (cL (cR (cR (cB (cL (cR (cB (cB (cR (cL (cR (cR (cR (cR (cR (cR (cR (bd Tryd.f20))))))))))))))))))) (.leaf (cR (cR (cR (cB (cL (cR (cB (cB (cR (cL (cR (cR (cR (cR (cR (cR (cR (bd Tryd.f20)))))))))))))))))))))))) (.leaf (cR (cR (cB (cB (cR (cL (cR (cR (cR (cR (cR (cR (cR (bd Tryd.f20)))))))))))))))))))) (.cut 10 (.seq (.leaf (cL (cR (cR (cR (cR (cR (cR (cR (cR (bd Tryd.f20))))))))))) (.seq (.seq (.leaf (cL (cL (cR (cR (cR (cR (cR (cR (cR (cR (cR (bd Tryd.f20))))))))))))) (.block 5 (.loop 9 (.seq (.seq (.leaf (cL (cL (cB (cB (cR (cL (cR (cR (cR (cR (cR (cR (cR (cR (cR (bd Tryd.f20))))))))))))))))) (.cnd (.tmp 172) (.leaf (cT (cR (cL (cB (cB (cR (cL (cR (cR (cR (cR (cR (cR (cR (cR (cR (bd Tryd.f20)))))))))))))))))) (.leaf (cE (cR (cL (cB (cB (cR (cL (cR (cR (cR (cR (cR (cR (cR (cR (cR (bd Tryd.f20)))))))))))))))))))) (.seq (.block 6 (.leaf (cB (cL (cR (cB (cB (cR (cL (cR (cR (cR (cR (cR (cR (cR (cR (cR (bd Tryd.f20))))))))))))))))))) (.leaf (cR (cR (cB (cB (cR (cL (cR (cR (cR (cR (cR (cR (cR (cR (cR (bd Tryd.f20)))))))))))))))))))))) (.cut 8 (.seq (.leaf (cL (cR (cR (cR (cR (cR (cR (cR (cR (cR (cR (bd Tryd.f20))))))))))))) (.cut 7 (.seq (.leaf (cL (cR (cR (cR (cR (cR (cR (cR (cR (cR (cR (cR (bd Tryd.f20)))))))))))))) (.cut 6 (.seq (.seq (.leaf (cL (cL (cR (cR (cR (cR (cR (cR (cR (cR (cR (cR (cR (cR (bd Tryd.f20)))))))))))))))) (.cnd (.tmp 261) (.seq (.leaf (cL (cT (cR (cL (cR (cR (cR (cR (cR (cR (cR (cR (cR (cR (cR (cR (bd Tryd.f20)))))))))))))))))) (.leaf (cR (cT (cR (cL (cR (cR (cR (cR (cR (cR (cR (cR (cR (cR (cR (cR (bd Tryd.f20))))))))))))))))))) (.leaf (cE (cR (cL (cR (cR (cR (cR (cR (cR (cR (cR (cR (cR (cR (cR (bd Tryd.f20))))))))))))))))))) (.cut 5 (.seq (.seq (.leaf (cL (cL (cR (cR (cR (cR (cR (cR (cR (cR (cR (cR (cR (cR (cR (bd Tryd.f20))))))))))))))))) (.block 7 (.loop 2 (.seq (.seq (.leaf (cL (cL (cB (cB (cR (cL (cR (cR (cR (cR (cR (cR (cR (cR (cR (cR (cR (cR (cR (bd Tryd.f20))))))))))))))))))))) (.cnd (.tmp 266) (.leaf (cT (cR (cL (cB (cB (cR (cL (cR (cR (cR (cR (cR (cR (cR (cR (cR (cR (cR (cR (cR (bd Tryd.f20)))))))))))))))))))))) (.leaf (cE (cR (cL (cB (cB (cR (cL (cR (cR (cR (cR (cR (cR (cR (cR (cR (cR (cR (cR (cR (bd Tryd.f20)))))))))))))))))))))))) (.seq (.block 8 (.seq (.leaf (cL (cB (cL (cR (cB (cB (cR (cL (cR (cR (cR (cR (cR (cR (cR (cR (cR (cR (cR (cR (cR (bd Tryd.f20))))))))))))))))))))))) (.seq (.seq (.leaf (cL (cL (cR (cB (cL (cR (cB (cB (cR (cL (cR (cR (cR (cR (cR (cR (cR (cR (cR (cR (cR (cR (cR (bd Tryd.f20))))))))))))))))))))))))) (.block 9 (.loop 4 (.seq (.seq (.leaf (cL (cL (cB (cB (cR (cL (cR (cB (cL (cR (cB (cB (cR (cL (cR (cR (cR (cR (cR (cR (cR (cR (cR (cR (cR (cR (cR (bd Tryd.f20))))))))))))))))))))))))))))) (.cnd (.tmp 273) (.leaf (cT (cR (cL (cB (cB (cR (cL (cR (cB (cL (cR (cB (cB (cR (cL (cR (cR (cR (cR (cR (cR (cR (cR (cR (cR (cR (cR (cR (bd Tryd.f20)))))))))))))))))))))))))))))) (.leaf (cE (cR (cL (cB (cB (cR (cL (cR (cB (cL (cR (cB (cB (cR (cL (cR (cR (cR (cR (cR (cR (cR (cR (cR (cR (cR (cR (cR (bd Tryd.f20)))))))))))))))))))))))))))))))) (.seq (.block 10 (.seq (.leaf (cL (cB (cL (cR (cB (cB (cR (cL (cR (cB (cL (cR (cB (cB (cR (cL (cR (cR (cR (cR (cR (cR (cR (cR (cR (cR (cR (cR (cR (bd Tryd.f20))))))))))))))))))))))))))))))) (.cnd (.tmp 303) (.leaf (cT (cR (cB (cL (cR (cB (cB (cR (cL (cR (cB (cL (cR (cB (cB (cR (cL (cR (cR (cR (cR (cR (cR (cR (cR (cR (cR (cR (cR (cR (bd Tryd.f20)))))))))))))))))))))))))))))))) (.leaf (cE (cR (cB (cL (cR (cB (cB (cR (cL (cR (cB (cL (cR (cB (cB (cR (cL (cR (cR (cR (cR (cR (cR (cR (cR (cR (cR (cR (cR (cR (bd Tryd.f20))))))))))))))))))))))))))))))))))) (.leaf (cR (cR (cB (cB (cR (cL (cR (cB (cL (cR (cB (cB (cR (cL (cR (cR (cR (cR (cR (cR (cR (cR (cR (cR (cR (cR (cR (bd Tryd.f20)))))))))))))))))))))))))))))))))) (.cut 3 (.seq (.leaf (cL (cR (cR (cB (cL (cR (cB (cB (cR (cL (cR (cR (cR (cR (cR (cR (cR (cR (cR (cR (cR (cR (cR (bd Tryd.f20))))))))))))))))))))))))) (.cnd (.tmp 307) (.seq (.leaf (cL (cT (cR (cR (cR (cB (cL (cR (cB (cB (cR (cL (cR (cR (cR (cR (cR (cR (cR (cR (cR (cR (cR (cR (cR (bd Tryd.f20))))))))))))))))))))))))))) (.leaf (cR (cT (cR (cR (cR (cB (cL (cR (cB (cB (cR (cL (cR (cR (cR (cR (cR (cR (cR (cR (cR (cR (cR (cR (cR (bd Tryd.f20)))))))))))))))))))))))))))) (.leaf (cE (cR (cR (cR (cB (cL (cR (cB (cB (cR (cL (cR (cR (cR (cR (cR (cR (cR (cR (cR (cR (cR (cR (cR (bd Tryd.f20)))))))))))))))))))))))))))))))) (.leaf (cR (cR (cB (cB (cR (cL (cR (cR (cR (cR (cR (cR (cR (cR (cR (cR (cR (cR (cR (bd Tryd.f20)))))))))))))))))))))))))) (.cut 1 (.seq (.leaf (cL (cR (cR (cR (cR (cR (cR (cR (cR (cR (cR (cR (cR (cR (cR (bd Tryd.f20))))))))))))))))) (.leaf (cR (cR (cR (cR (cR (cR (cR (cR (cR (cR (cR (cR (cR (cR (cR (bd Tryd.f20))))))))))))))))))))))))))))))))))))))))) (J := trystlaw24_MixTurned.J0 R) LfYtoclhecldmahiaaDoor.mixed Tryd.func20 (by kernel_rfl) (by kernel_rfl) (mkSeq (mkSeq (mkCut (cutDef [(1, .slice), (2, .slice), (3, .slice)] (fun x w => trystlaw24_MixTurned.c15 R x.1 x.2.1 x.2.2 w) (fun _ _ => by kernel_rfl) (fun _ _ => by kernel_rfl)) (mkSeq (mkSeq (mkSeq (mkSeq (mkSeq (mkCut (cutDef [(1, .slice), (2, .slice), (3, .slice), (9, .ptr), (11, .ptr), (12, .slice), (13, .slice), (14, .slice)] (fun x w => trystlaw24_MixTurned.c13 R x.1 x.2.1 x.2.2.1 x.2.2.2.1 x.2.2.2.2.1 x.2.2.2.2.2.1 x.2.2.2.2.2.2.1 x.2.2.2.2.2.2.2 w) (fun _ _ => by kernel_rfl) (fun _ _ => by kernel_rfl)) (mkSeq (mkCut (cutDef [(2, .slice), (3, .slice), (9, .ptr), (12, .slice), (14, .slice)] (fun x w => trystlaw24_MixTurned.c10 R x.1 x.2.1 x.2.2.1 x.2.2.2.1 x.2.2.2.2 w) (fun _ _ => by kernel_rfl) (fun _ _ => by kernel_rfl)) (mkSeq (mkSeq (mkCut (cutDef [(9, .ptr), (12, .slice), (14, .slice), (21, .slice), (22, .slice)] (fun x w => trystlaw24_MixTurned.c8 R x.1 x.2.1 x.2.2.1 x.2.2.2.1 x.2.2.2.2 w) (fun _ _ => by kernel_rfl) (fun _ _ => by kernel_rfl)) (mkSeq (mkCut (cutDef [(9, .ptr), (12, .slice), (14, .slice), (22, .slice), (24, .addr), (25, .slice), (26, (.int .i64))] (fun x w => trystlaw24_MixTurned.c7 R x.1 x.2.1 x.2.2.1 x.2.2.2.1 x.2.2.2.2.1 x.2.2.2.2.2.1 x.2.2.2.2.2.2 w) (fun _ _ => by kernel_rfl) (fun _ _ => by kernel_rfl)) (mkSeq (mkCut (cutDef [(14, .slice), (24, .addr), (25, .slice), (26, (.int .i64)), (27, .addr), (28, .slice), (29, (.int .i64))] (fun x w => trystlaw24_MixTurned.c6 R x.1 x.2.1 x.2.2.1 x.2.2.2.1 x.2.2.2.2.1 x.2.2.2.2.2.1 x.2.2.2.2.2.2 w) (fun _ _ => by kernel_rfl) (fun _ _ => by kernel_rfl)) (mkSeq (mkCut (cutDef [(24, .addr), (27, .addr)] (fun x w => trystlaw24_MixTurned.c5 R x.1 x.2 w) (fun _ _ => by kernel_rfl) (fun _ _ => by kernel_rfl)) (mkSeq (mkCut (cutDef [] (fun x w => trystlaw24_MixTurned.c1 R w) (fun _ _ => by kernel_rfl) (fun _ _ => by kernel_rfl)) (mkSeq mkLeaf mkLeaf)) (mkSeq (mkBlock (mkLoop (loopDef LfYtoclhecldmahiaaDoor.mixed [(24, .addr), (27, .addr), (30, (.int .i64))] (by kernel_rfl) (fun M2 x w => trystlaw24_MixTurned.b2 R (fun y0 y1 y2 w => M2 (y0, y1, y2) w) x.1 x.2.1 x.2.2 w) (fun M2 => trystlaw24_MixTurned.J2 R (fun y0 y1 y2 w => M2 (y0, y1, y2) w)) (fun _ _ _ => by kernel_rfl) (fun M2 => (mkSeq (mkSeq mkLeaf (mkBlock (mkSeq (mkSeq (mkCut (cutDef [(24, .addr), (27, .addr), (30, (.int .i64)), (31, (.int .i64))] (fun x w => trystlaw24_MixTurned.c3 R (fun y0 y1 y2 w => M2 (y0, y1, y2) w) x.1 x.2.1 x.2.2.1 x.2.2.2 w) (fun _ _ => by kernel_rfl) (fun _ _ => by kernel_rfl)) (mkSeq (mkCnd (mkSeq mkLeaf mkLeaf) mkLeaf) mkLeaf)) (mkSeq (mkBlock (mkLoop (loopDef LfYtoclhecldmahiaaDoor.mixed [(24, .addr), (27, .addr), (30, (.int .i64)), (31, (.int .i64)), (32, (.int .i64))] (by kernel_rfl) (fun M4 x w => trystlaw24_MixTurned.b4 R (fun y0 y1 y2 w => M2 (y0, y1, y2) w) (fun y0 y1 y2 y3 y4 w => M4 (y0, y1, y2, y3, y4) w) x.1 x.2.1 x.2.2.1 x.2.2.2.1 x.2.2.2.2 w) (fun M4 => fun _ _ _ => False) (fun _ _ _ => by kernel_rfl) (fun M4 => (mkSeq (mkSeq mkLeaf (mkBlock (mkSeq (mkCnd mkLeaf mkLeaf) mkLeaf))) (mkSeq (mkCnd mkLeaf mkLeaf) mkLeaf))) (fun x w => trystlaw24_MixTurned.l4 R (fun y0 y1 y2 w => M2 (y0, y1, y2) w) x.1 x.2.1 x.2.2.1 x.2.2.2.1 x.2.2.2.2 w) (by rintro ⟨c0, c1, c2, s0⟩ w ⟨I, μ, h0, h1⟩; refine ⟨fun y w => y.1 = c0 ∧ y.2.1 = c1 ∧ y.2.2.1 = c2 ∧ I y.2.2.2 w, fun y w => μ y.2.2.2 w, ⟨rfl, rfl, rfl, h0⟩, ?_⟩; rintro ⟨d0, d1, d2, t0⟩ w ⟨e0, e1, e2, hI⟩; dsimp only at e0 e1 e2 hI; subst e0; subst e1; subst e2; exact h1 _ _ hI) (fun _ _ => by kernel_rfl)))) mkLeaf)) mkLeaf))) (mkSeq (mkCnd mkLeaf mkLeaf) mkLeaf))) (fun x w => trystlaw24_MixTurned.l2 R x.1 x.2.1 x.2.2 w) (by rintro ⟨c0, c1, s0⟩ w ⟨I, μ, h0, h1⟩; refine ⟨fun y w => y.1 = c0 ∧ y.2.1 = c1 ∧ I y.2.2 w, fun y w => μ y.2.2 w, ⟨rfl, rfl, h0⟩, ?_⟩; rintro ⟨d0, d1, t0⟩ w ⟨e0, e1, hI⟩; dsimp only at e0 e1 hI; subst e0; subst e1; exact h1 _ _ hI) (fun _ _ => by kernel_rfl)))) mkLeaf))) (mkSeq (mkCnd (mkSeq mkLeaf mkLeaf) mkLeaf) mkLeaf))) mkLeaf)) mkLeaf)) (mkSeq (mkBlock (mkLoop (loopDef LfYtoclhecldmahiaaDoor.mixed [(2, .slice), (3, .slice), (9, .ptr), (12, .slice), (14, .slice), (21, .slice), (22, .slice), (23, (.int .i64))] (by kernel_rfl) (fun M9 x w => trystlaw24_MixTurned.b9 R (fun y0 y1 y2 y3 y4 y5 y6 y7 w => M9 (y0, y1, y2, y3, y4, y5, y6, y7) w) x.1 x.2.1 x.2.2.1 x.2.2.2.1 x.2.2.2.2.1 x.2.2.2.2.2.1 x.2.2.2.2.2.2.1 x.2.2.2.2.2.2.2 w) (fun M9 => fun _ _ _ => False) (fun _ _ _ => by kernel_rfl) (fun M9 => (mkSeq (mkSeq mkLeaf (mkBlock mkLeaf)) (mkSeq (mkCnd mkLeaf mkLeaf) mkLeaf))) (fun x w => trystlaw24_MixTurned.l9 R x.1 x.2.1 x.2.2.1 x.2.2.2.1 x.2.2.2.2.1 x.2.2.2.2.2.1 x.2.2.2.2.2.2.1 x.2.2.2.2.2.2.2 w) (by rintro ⟨c0, c1, c2, c3, c4, s0⟩ w ⟨I, μ, h0, h1⟩; refine ⟨fun y w => y.1 = c0 ∧ y.2.1 = c1 ∧ y.2.2.1 = c2 ∧ y.2.2.2.1 = c3 ∧ y.2.2.2.2.1 = c4 ∧ I y.2.2.2.2.2 w, fun y w => μ y.2.2.2.2.2 w, ⟨rfl, rfl, rfl, rfl, rfl, h0⟩, ?_⟩; rintro ⟨d0, d1, d2, d3, d4, t0⟩ w ⟨e0, e1, e2, e3, e4, hI⟩; dsimp only at e0 e1 e2 e3 e4 hI; subst e0; subst e1; subst e2; subst e3; subst e4; exact h1 _ _ hI) (fun _ _ => by kernel_rfl)))) mkLeaf)) mkLeaf)) (mkSeq (mkBlock (mkLoop (loopDef LfYtoclhecldmahiaaDoor.mixed [(1, .slice), (2, .slice), (3, .slice), (9, .ptr), (11, .ptr), (12, .slice), (13, .slice), (14, .slice), (17, (.int .i64))] (by kernel_rfl) (fun M11 x w => trystlaw24_MixTurned.b11 R (fun y0 y1 y2 y3 y4 y5 y6 y7 y8 w => M11 (y0, y1, y2, y3, y4, y5, y6, y7, y8) w) x.1 x.2.1 x.2.2.1 x.2.2.2.1 x.2.2.2.2.1 x.2.2.2.2.2.1 x.2.2.2.2.2.2.1 x.2.2.2.2.2.2.2.1 x.2.2.2.2.2.2.2.2 w) (fun M11 => trystlaw24_MixTurned.J11 R (fun y0 y1 y2 y3 y4 y5 y6 y7 y8 w => M11 (y0, y1, y2, y3, y4, y5, y6, y7, y8) w)) (fun _ _ _ => by kernel_rfl) (fun M11 => (mkSeq (mkSeq mkLeaf (mkBlock (mkSeq (mkSeq (mkCut (cutDef [(1, .slice), (2, .slice), (3, .slice), (9, .ptr), (11, .ptr), (12, .slice), (13, .slice), (14, .slice), (17, (.int .i64)), (18, (.int .i64))] (fun x w => trystlaw24_MixTurned.c12 R (fun y0 y1 y2 y3 y4 y5 y6 y7 y8 w => M11 (y0, y1, y2, y3, y4, y5, y6, y7, y8) w) x.1 x.2.1 x.2.2.1 x.2.2.2.1 x.2.2.2.2.1 x.2.2.2.2.2.1 x.2.2.2.2.2.2.1 x.2.2.2.2.2.2.2.1 x.2.2.2.2.2.2.2.2.1 x.2.2.2.2.2.2.2.2.2 w) (fun _ _ => by kernel_rfl) (fun _ _ => by kernel_rfl)) (mkSeq mkLeaf mkLeaf)) (mkSeq (mkBlock (mkSeq (mkCnd mkLeaf (mkSeq (mkCnd mkLeaf mkLeaf) mkLeaf)) mkLeaf)) mkLeaf)) mkLeaf))) (mkSeq (mkCnd mkLeaf mkLeaf) mkLeaf))) (fun x w => trystlaw24_MixTurned.l11 R x.1 x.2.1 x.2.2.1 x.2.2.2.1 x.2.2.2.2.1 x.2.2.2.2.2.1 x.2.2.2.2.2.2.1 x.2.2.2.2.2.2.2.1 x.2.2.2.2.2.2.2.2 w) (by rintro ⟨c0, c1, c2, c3, c4, c5, c6, s0⟩ w ⟨I, μ, h0, h1⟩; refine ⟨fun y w => y.1 = c0 ∧ y.2.1 = c1 ∧ y.2.2.1 = c2 ∧ y.2.2.2.1 = c3 ∧ y.2.2.2.2.1 = c4 ∧ y.2.2.2.2.2.1 = c5 ∧ y.2.2.2.2.2.2.1 = c6 ∧ I y.2.2.2.2.2.2.2 w, fun y w => μ y.2.2.2.2.2.2.2 w, ⟨rfl, rfl, rfl, rfl, rfl, rfl, rfl, h0⟩, ?_⟩; rintro ⟨d0, d1, d2, d3, d4, d5, d6, t0⟩ w ⟨e0, e1, e2, e3, e4, e5, e6, hI⟩; dsimp only at e0 e1 e2 e3 e4 e5 e6 hI; subst e0; subst e1; subst e2; subst e3; subst e4; subst e5; subst e6; exact h1 _ _ hI) (fun _ _ => by kernel_rfl)))) mkLeaf))) (mkSeq (mkBlock (mkLoop (loopDef LfYtoclhecldmahiaaDoor.mixed [(1, .slice), (2, .slice), (3, .slice), (9, .ptr), (11, .ptr), (14, .slice), (12, .slice), (13, .slice), (15, (.int .i64))] (by kernel_rfl) (fun M14 x w => trystlaw24_MixTurned.b14 R (fun y0 y1 y2 y3 y4 y5 y6 y7 y8 w => M14 (y0, y1, y2, y3, y4, y5, y6, y7, y8) w) x.1 x.2.1 x.2.2.1 x.2.2.2.1 x.2.2.2.2.1 x.2.2.2.2.2.1 x.2.2.2.2.2.2.1 x.2.2.2.2.2.2.2.1 x.2.2.2.2.2.2.2.2 w) (fun M14 => fun _ _ _ => False) (fun _ _ _ => by kernel_rfl) (fun M14 => (mkSeq (mkSeq mkLeaf (mkBlock (mkSeq (mkSeq (mkSeq (mkCnd (mkSeq mkLeaf mkLeaf) mkLeaf) mkLeaf) mkLeaf) mkLeaf))) (mkSeq (mkCnd mkLeaf mkLeaf) mkLeaf))) (fun x w => trystlaw24_MixTurned.l14 R x.1 x.2.1 x.2.2.1 x.2.2.2.1 x.2.2.2.2.1 x.2.2.2.2.2.1 x.2.2.2.2.2.2.1 x.2.2.2.2.2.2.2.1 x.2.2.2.2.2.2.2.2 w) (by rintro ⟨c0, c1, c2, c3, c4, c5, s0⟩ w ⟨I, μ, h0, h1⟩; refine ⟨fun y w => y.1 = c0 ∧ y.2.1 = c1 ∧ y.2.2.1 = c2 ∧ y.2.2.2.1 = c3 ∧ y.2.2.2.2.1 = c4 ∧ y.2.2.2.2.2.1 = c5 ∧ I y.2.2.2.2.2.2 w, fun y w => μ y.2.2.2.2.2.2 w, ⟨rfl, rfl, rfl, rfl, rfl, rfl, h0⟩, ?_⟩; rintro ⟨d0, d1, d2, d3, d4, d5, t0⟩ w ⟨e0, e1, e2, e3, e4, e5, hI⟩; dsimp only at e0 e1 e2 e3 e4 e5 hI; subst e0; subst e1; subst e2; subst e3; subst e4; subst e5; exact h1 _ _ hI) (fun _ _ => by kernel_rfl)))) mkLeaf)) mkLeaf) mkLeaf) (mkSeq (mkCnd (mkSeq mkLeaf mkLeaf) mkLeaf) mkLeaf)) mkLeaf)) (mkSeq (mkCnd (mkSeq mkLeaf mkLeaf) mkLeaf) mkLeaf)) mkLeaf) (kcast (by kernel_rfl) h)

end Go.Proofs.YtoclhecldmahiaaDoor
