/-
  What the code of these functions comes to, and that it suffices for the call. Written by a program of ours, for this claim.
-/
import Derived.Test.YtoclhecldmahiaaDoorM2Fns
set_option linter.unusedVariables false
set_option linter.unusedVariables false
namespace Go.Proofs.YtoclhecldmahiaaDoor
open Go.Lf
abbrev n_trystlaw24_MixRounds : Nat := 19
abbrev n_trystlaw24_perm : Nat := 88
abbrev n_trystlaw24_state : Nat := 89
abbrev n_trystkeep_TwinPerms : Nat := 91
abbrev n_trystkeep_Mix : Nat := 93
abbrev n_trystref22_Perm : Nat := 94
/-! trystlaw24_MixRounds -/
def trystlaw24_MixRounds.c1 (R : Value → World → Prop) (w : World) : Prop :=
  CallsV Tryd.prog n_trystlaw24_wakes #[] w (fun v_1 w1 =>
  ∃ b_2 : Bool, v_1 = .bool b_2 ∧
  R (.bool b_2) w1)

def trystlaw24_MixRounds.c3 (R : Value → World → Prop) (N2 : Sl → Bool → Option Addr → Option Addr → Sl → Sl → Addr → Sl → Int → World → Prop) (rounds1 : Sl) (raw2 : Bool) (p7 : Option Addr) (b9 : Option Addr) (secrets10 : Sl) (pubs11 : Sl) (onions12 : Sl) (st15 : Addr) (r16 : Int) (to34 : Addr) (w : World) : Prop :=
  ∃ (a_3 : Option Addr) (l_4 c_5 : Nat), w.cell? to34 = some (.slice a_3 l_4 c_5) ∧
  ∃ (a_6 : Option Addr) (l_7 c_8 : Nat), w.cell? (to34.add 1) = some (.slice a_6 l_7 c_8) ∧
  ∃ (a_9 : Option Addr) (l_10 c_11 : Nat), w.cell? (to34.add 2) = some (.slice a_9 l_10 c_11) ∧
  ∃ (a_12 : Option Addr) (l_13 c_14 : Nat), w.cell? (to34.add 3) = some (.slice a_12 l_13 c_14) ∧
  (∀ j, j < 4 → Wr w (st15.add j)) ∧
  (let w2 := setCells st15 [.slice a_3 l_4 c_5, .slice a_6 l_7 c_8, .slice a_9 l_10 c_11, .slice a_12 l_13 c_14] 0 w;
  (let r16_14 : Int := (IntKind.i64.wrap (r16 + 1));
  N2 rounds1 raw2 p7 b9 secrets10 pubs11 st15 onions12 r16_14 w2))

def trystlaw24_MixRounds.c4 (R : Value → World → Prop) (N2 : Sl → Bool → Option Addr → Option Addr → Sl → Sl → Addr → Sl → Int → World → Prop) (rounds1 : Sl) (raw2 : Bool) (p7 : Option Addr) (b9 : Option Addr) (secrets10 : Sl) (pubs11 : Sl) (onions12 : Sl) (st15 : Addr) (r16 : Int) (in17 : Sl) (perms21 : Sl) (next29 : Addr) (out30 : Sl) (e31 : Int) (want32 : Int) (w : World) : Prop :=
  cond ((want32 : Int) != 0)
  (cond ((e31 : Int) != want32)
  (R (.bool false) w)
  (cond (decide ((((out30.len : Nat) : Int) : Int) > 0))
  (R (.bool false) w)
  (∃ (a_16 : Option Addr) (l_17 c_18 : Nat), w.cell? next29 = some (.slice a_16 l_17 c_18) ∧
  ∃ (a_19 : Option Addr) (l_20 c_21 : Nat), w.cell? (next29.add 1) = some (.slice a_19 l_20 c_21) ∧
  ∃ (a_22 : Option Addr) (l_23 c_24 : Nat), w.cell? (next29.add 2) = some (.slice a_22 l_23 c_24) ∧
  ∃ (a_25 : Option Addr) (l_26 c_27 : Nat), w.cell? (next29.add 3) = some (.slice a_25 l_26 c_27) ∧
  CallsV Tryd.prog n_trystkeep_Mix #[.agg #[.slice a_16 l_17 c_18, .slice a_19 l_20 c_21, .slice a_22 l_23 c_24, .slice a_25 l_26 c_27], .agg #[.slice none 0 0, .slice none 0 0, .slice none 0 0, .slice none 0 0]] w (fun v_28 w3 =>
  ∃ b_29 : Bool, v_28 = .bool b_29 ∧
  cond (!b_29)
  (R (.bool false) w3)
  ((let r16_29 : Int := (IntKind.i64.wrap (r16 + 1));
  N2 rounds1 raw2 p7 b9 secrets10 pubs11 st15 onions12 r16_29 w3))))))
  (∃ (a_31 : Option Addr) (l_32 c_33 : Nat), w.cell? st15 = some (.slice a_31 l_32 c_33) ∧
  ∃ (a_34 : Option Addr) (l_35 c_36 : Nat), w.cell? (st15.add 1) = some (.slice a_34 l_35 c_36) ∧
  ∃ (a_37 : Option Addr) (l_38 c_39 : Nat), w.cell? (st15.add 2) = some (.slice a_37 l_38 c_39) ∧
  ∃ (a_40 : Option Addr) (l_41 c_42 : Nat), w.cell? (st15.add 3) = some (.slice a_40 l_41 c_42) ∧
  CallsV Tryd.prog n_trystref22_Round #[.pointer b9, .agg #[.slice a_31 l_32 c_33, .slice a_34 l_35 c_36, .slice a_37 l_38 c_39, .slice a_40 l_41 c_42], .slice secrets10.a secrets10.len secrets10.cap, .slice in17.a in17.len in17.cap, .slice perms21.a perms21.len perms21.cap] w (fun v_43 w4 =>
  ∃ (a_44 : Option Addr) (l_45 c_46 : Nat), ∃ (a_47 : Option Addr) (l_48 c_49 : Nat), ∃ (a_50 : Option Addr) (l_51 c_52 : Nat), ∃ (a_53 : Option Addr) (l_54 c_55 : Nat), ∃ (a_56 : Option Addr) (l_57 c_58 : Nat), v_43 = .tuple #[.agg #[.slice a_44 l_45 c_46, .slice a_47 l_48 c_49, .slice a_50 l_51 c_52, .slice a_53 l_54 c_55], .slice a_56 l_57 c_58] ∧
  let w5 := w4.alloc (.cells #[.slice none 0 0, .slice none 0 0, .slice none 0 0, .slice none 0 0] 127);
  (∀ j, j < 4 → Wr w5 ((newA w4).add j)) ∧
  (let w6 := setCells (newA w4) [.slice a_44 l_45 c_46, .slice a_47 l_48 c_49, .slice a_50 l_51 c_52, .slice a_53 l_54 c_55] 0 w5;
  ∃ S_59 : World → Prop, S_59 w6.drew ∧
  cond ((e31 : Int) != 0)
  (R (.bool false) w6.drew)
  (∃ (a_60 : Option Addr) (l_61 c_62 : Nat), (∀ x, S_59 x → x.cell? next29 = some (.slice a_60 l_61 c_62)) ∧
  ∃ (a_63 : Option Addr) (l_64 c_65 : Nat), (∀ x, S_59 x → x.cell? (next29.add 1) = some (.slice a_63 l_64 c_65)) ∧
  ∃ (a_66 : Option Addr) (l_67 c_68 : Nat), (∀ x, S_59 x → x.cell? (next29.add 2) = some (.slice a_66 l_67 c_68)) ∧
  ∃ (a_69 : Option Addr) (l_70 c_71 : Nat), (∀ x, S_59 x → x.cell? (next29.add 3) = some (.slice a_69 l_70 c_71)) ∧
  ∃ (a_72 : Option Addr) (l_73 c_74 : Nat), (∀ x, S_59 x → x.cell? (newA w4) = some (.slice a_72 l_73 c_74)) ∧
  ∃ (a_75 : Option Addr) (l_76 c_77 : Nat), (∀ x, S_59 x → x.cell? ((newA w4).add 1) = some (.slice a_75 l_76 c_77)) ∧
  ∃ (a_78 : Option Addr) (l_79 c_80 : Nat), (∀ x, S_59 x → x.cell? ((newA w4).add 2) = some (.slice a_78 l_79 c_80)) ∧
  ∃ (a_81 : Option Addr) (l_82 c_83 : Nat), (∀ x, S_59 x → x.cell? ((newA w4).add 3) = some (.slice a_81 l_82 c_83)) ∧
  CallsV Tryd.prog n_trystlaw24_state #[.pointer p7, .agg #[.slice a_72 l_73 c_74, .slice a_75 l_76 c_77, .slice a_78 l_79 c_80, .slice a_81 l_82 c_83]] w6.drew (fun v_84 w7 =>
  ∃ (a_85 : Option Addr) (l_86 c_87 : Nat), ∃ (a_88 : Option Addr) (l_89 c_90 : Nat), ∃ (a_91 : Option Addr) (l_92 c_93 : Nat), ∃ (a_94 : Option Addr) (l_95 c_96 : Nat), v_84 = .agg #[.slice a_85 l_86 c_87, .slice a_88 l_89 c_90, .slice a_91 l_92 c_93, .slice a_94 l_95 c_96] ∧
  S_59 w7 ∧
  CallsV Tryd.prog n_trystkeep_Mix #[.agg #[.slice a_60 l_61 c_62, .slice a_63 l_64 c_65, .slice a_66 l_67 c_68, .slice a_69 l_70 c_71], .agg #[.slice a_85 l_86 c_87, .slice a_88 l_89 c_90, .slice a_91 l_92 c_93, .slice a_94 l_95 c_96]] w7 (fun v_97 w8 =>
  ∃ b_98 : Bool, v_97 = .bool b_98 ∧
  cond (!b_98)
  (R (.bool false) w8)
  (CallsV Tryd.prog n_trystlaw10_Pair_Ts #[.pointer p7, .slice a_56 l_57 c_58] w8 (fun v_99 w9 =>
  ∃ (a_100 : Option Addr) (l_101 c_102 : Nat), v_99 = .slice a_100 l_101 c_102 ∧
  CallsV Tryd.prog n_trystkeep_Ints #[.slice out30.a out30.len out30.cap, .slice a_100 l_101 c_102] w9 (fun v_103 w10 =>
  ∃ b_104 : Bool, v_103 = .bool b_104 ∧
  cond (!b_104)
  (R (.bool false) w10)
  (trystlaw24_MixRounds.c3 R N2 rounds1 raw2 p7 b9 secrets10 pubs11 onions12 st15 r16 (newA w4) w10))))))))))

def trystlaw24_MixRounds.c6 (R : Value → World → Prop) (N2 : Sl → Bool → Option Addr → Option Addr → Sl → Sl → Addr → Sl → Int → World → Prop) (N5 : Sl → Bool → Option Addr → Option Addr → Sl → Sl → Sl → Addr → Int → Sl → Sl → Addr → Sl → Int → Int → Int → World → Prop) (rounds1 : Sl) (raw2 : Bool) (p7 : Option Addr) (b9 : Option Addr) (secrets10 : Sl) (pubs11 : Sl) (onions12 : Sl) (st15 : Addr) (r16 : Int) (in17 : Sl) (perms21 : Sl) (next29 : Addr) (out30 : Sl) (e31 : Int) (want32 : Int) (i33 : Int) (w : World) : Prop :=
  0 ≤ (i33 : Int) ∧ i33 < ((perms21.len : Nat) : Int) ∧ ∃ q_105 : Addr, perms21.a = some q_105 ∧
  ∃ (a_106 : Option Addr) (l_107 c_108 : Nat), w.cell? (q_105.add (i33 : Int).toNat) = some (.slice a_106 l_107 c_108) ∧
  CallsV Tryd.prog n_trystref22_Perm #[.slice a_106 l_107 c_108, .int .i64 ((in17.len : Nat) : Int)] w (fun v_109 w11 =>
  ∃ b_110 : Bool, v_109 = .bool b_110 ∧
  cond (!b_110)
  ((let i33_110 : Int := (IntKind.i64.wrap (i33 + 1));
  N5 rounds1 raw2 p7 b9 secrets10 pubs11 onions12 st15 r16 in17 perms21 next29 out30 e31 1 i33_110 w11))
  ((let i33_111 : Int := (IntKind.i64.wrap (i33 + 1));
  N5 rounds1 raw2 p7 b9 secrets10 pubs11 onions12 st15 r16 in17 perms21 next29 out30 e31 want32 i33_111 w11)))

def trystlaw24_MixRounds.b5 (R : Value → World → Prop) (N2 : Sl → Bool → Option Addr → Option Addr → Sl → Sl → Addr → Sl → Int → World → Prop) (N5 : Sl → Bool → Option Addr → Option Addr → Sl → Sl → Sl → Addr → Int → Sl → Sl → Addr → Sl → Int → Int → Int → World → Prop) (rounds1 : Sl) (raw2 : Bool) (p7 : Option Addr) (b9 : Option Addr) (secrets10 : Sl) (pubs11 : Sl) (onions12 : Sl) (st15 : Addr) (r16 : Int) (in17 : Sl) (perms21 : Sl) (next29 : Addr) (out30 : Sl) (e31 : Int) (want32 : Int) (i33 : Int) (w : World) : Prop :=
  cond (decide ((i33 : Int) < ((perms21.len : Nat) : Int)))
  (cond ((want32 : Int) == 0)
  (trystlaw24_MixRounds.c6 R N2 N5 rounds1 raw2 p7 b9 secrets10 pubs11 onions12 st15 r16 in17 perms21 next29 out30 e31 want32 i33 w)
  (trystlaw24_MixRounds.c4 R N2 rounds1 raw2 p7 b9 secrets10 pubs11 onions12 st15 r16 in17 perms21 next29 out30 e31 want32 w))
  (trystlaw24_MixRounds.c4 R N2 rounds1 raw2 p7 b9 secrets10 pubs11 onions12 st15 r16 in17 perms21 next29 out30 e31 want32 w)

def trystlaw24_MixRounds.l5 (R : Value → World → Prop) (N2 : Sl → Bool → Option Addr → Option Addr → Sl → Sl → Addr → Sl → Int → World → Prop) (rounds1 : Sl) (raw2 : Bool) (p7 : Option Addr) (b9 : Option Addr) (secrets10 : Sl) (pubs11 : Sl) (onions12 : Sl) (st15 : Addr) (r16 : Int) (in17 : Sl) (perms21 : Sl) (next29 : Addr) (out30 : Sl) (e31 : Int) (want32 : Int) (i33 : Int) (w : World) : Prop :=
  ∃ (I : (Int × Int) → World → Prop) (μ : (Int × Int) → World → Nat), I (want32, i33) w ∧ ∀ s w, I s w → trystlaw24_MixRounds.b5 R N2 (fun rounds1' raw2' p7' b9' secrets10' pubs11' onions12' st15' r16' in17' perms21' next29' out30' e31' want32' i33' w' => (rounds1' = rounds1 ∧ raw2' = raw2 ∧ p7' = p7 ∧ b9' = b9 ∧ secrets10' = secrets10 ∧ pubs11' = pubs11 ∧ onions12' = onions12 ∧ st15' = st15 ∧ r16' = r16 ∧ in17' = in17 ∧ perms21' = perms21 ∧ next29' = next29 ∧ out30' = out30 ∧ e31' = e31 ∧ I (want32', i33') w') ∧ μ (want32', i33') w' < μ s w) rounds1 raw2 p7 b9 secrets10 pubs11 onions12 st15 r16 in17 perms21 next29 out30 e31 s.1 s.2 w

def trystlaw24_MixRounds.c7 (R : Value → World → Prop) (N2 : Sl → Bool → Option Addr → Option Addr → Sl → Sl → Addr → Sl → Int → World → Prop) (rounds1 : Sl) (raw2 : Bool) (p7 : Option Addr) (b9 : Option Addr) (secrets10 : Sl) (pubs11 : Sl) (onions12 : Sl) (st15 : Addr) (r16 : Int) (in17 : Sl) (perms21 : Sl) (next29 : Addr) (out30 : Sl) (e31 : Int) (want32 : Int) (w : World) : Prop :=
  trystlaw24_MixRounds.l5 R N2 rounds1 raw2 p7 b9 secrets10 pubs11 onions12 st15 r16 in17 perms21 next29 out30 e31 want32 0 w

def trystlaw24_MixRounds.c8 (R : Value → World → Prop) (N2 : Sl → Bool → Option Addr → Option Addr → Sl → Sl → Addr → Sl → Int → World → Prop) (rounds1 : Sl) (raw2 : Bool) (p7 : Option Addr) (b9 : Option Addr) (secrets10 : Sl) (pubs11 : Sl) (onions12 : Sl) (st15 : Addr) (r16 : Int) (in17 : Sl) (perms21 : Sl) (next29 : Addr) (out30 : Sl) (e31 : Int) (w : World) : Prop :=
  cond ((((perms21.len : Nat) : Int) : Int) != 3)
  (trystlaw24_MixRounds.c7 R N2 rounds1 raw2 p7 b9 secrets10 pubs11 onions12 st15 r16 in17 perms21 next29 out30 e31 2 w)
  (cond (decide ((((in17.len : Nat) : Int) : Int) > 100))
  (trystlaw24_MixRounds.c7 R N2 rounds1 raw2 p7 b9 secrets10 pubs11 onions12 st15 r16 in17 perms21 next29 out30 e31 2 w)
  (trystlaw24_MixRounds.c7 R N2 rounds1 raw2 p7 b9 secrets10 pubs11 onions12 st15 r16 in17 perms21 next29 out30 e31 0 w))

def trystlaw24_MixRounds.c9 (R : Value → World → Prop) (N2 : Sl → Bool → Option Addr → Option Addr → Sl → Sl → Addr → Sl → Int → World → Prop) (rounds1 : Sl) (raw2 : Bool) (p7 : Option Addr) (b9 : Option Addr) (secrets10 : Sl) (pubs11 : Sl) (onions12 : Sl) (st15 : Addr) (r16 : Int) (in17 : Sl) (perms21 : Sl) (x24 : Addr) (y25 : Sl) (u26 : Addr) (v27 : Sl) (next29 : Addr) (out30 : Sl) (e31 : Int) (w : World) : Prop :=
  ∃ (a_113 : Option Addr) (l_114 c_115 : Nat), w.cell? u26 = some (.slice a_113 l_114 c_115) ∧
  ∃ (a_116 : Option Addr) (l_117 c_118 : Nat), w.cell? (u26.add 1) = some (.slice a_116 l_117 c_118) ∧
  ∃ (a_119 : Option Addr) (l_120 c_121 : Nat), w.cell? (u26.add 2) = some (.slice a_119 l_120 c_121) ∧
  ∃ (a_122 : Option Addr) (l_123 c_124 : Nat), w.cell? (u26.add 3) = some (.slice a_122 l_123 c_124) ∧
  ∃ (a_125 : Option Addr) (l_126 c_127 : Nat), w.cell? x24 = some (.slice a_125 l_126 c_127) ∧
  ∃ (a_128 : Option Addr) (l_129 c_130 : Nat), w.cell? (x24.add 1) = some (.slice a_128 l_129 c_130) ∧
  ∃ (a_131 : Option Addr) (l_132 c_133 : Nat), w.cell? (x24.add 2) = some (.slice a_131 l_132 c_133) ∧
  ∃ (a_134 : Option Addr) (l_135 c_136 : Nat), w.cell? (x24.add 3) = some (.slice a_134 l_135 c_136) ∧
  CallsV Tryd.prog n_trystkeep_Mix #[.agg #[.slice a_113 l_114 c_115, .slice a_116 l_117 c_118, .slice a_119 l_120 c_121, .slice a_122 l_123 c_124], .agg #[.slice a_125 l_126 c_127, .slice a_128 l_129 c_130, .slice a_131 l_132 c_133, .slice a_134 l_135 c_136]] w (fun v_137 w12 =>
  ∃ b_138 : Bool, v_137 = .bool b_138 ∧
  cond (!b_138)
  (R (.bool false) w12)
  (CallsV Tryd.prog n_trystkeep_Ints #[.slice v27.a v27.len v27.cap, .slice y25.a y25.len y25.cap] w12 (fun v_139 w13 =>
  ∃ b_140 : Bool, v_139 = .bool b_140 ∧
  cond (!b_140)
  (R (.bool false) w13)
  (trystlaw24_MixRounds.c8 R N2 rounds1 raw2 p7 b9 secrets10 pubs11 onions12 st15 r16 in17 perms21 next29 out30 e31 w13))))

def trystlaw24_MixRounds.c10 (R : Value → World → Prop) (N2 : Sl → Bool → Option Addr → Option Addr → Sl → Sl → Addr → Sl → Int → World → Prop) (rounds1 : Sl) (raw2 : Bool) (p7 : Option Addr) (b9 : Option Addr) (secrets10 : Sl) (pubs11 : Sl) (onions12 : Sl) (st15 : Addr) (r16 : Int) (in17 : Sl) (perms21 : Sl) (w : World) : Prop :=
  ∃ (a_141 : Option Addr) (l_142 c_143 : Nat), w.cell? st15 = some (.slice a_141 l_142 c_143) ∧
  ∃ (a_144 : Option Addr) (l_145 c_146 : Nat), w.cell? (st15.add 1) = some (.slice a_144 l_145 c_146) ∧
  ∃ (a_147 : Option Addr) (l_148 c_149 : Nat), w.cell? (st15.add 2) = some (.slice a_147 l_148 c_149) ∧
  ∃ (a_150 : Option Addr) (l_151 c_152 : Nat), w.cell? (st15.add 3) = some (.slice a_150 l_151 c_152) ∧
  CallsV Tryd.prog n_trystlaw24_state #[.pointer p7, .agg #[.slice a_141 l_142 c_143, .slice a_144 l_145 c_146, .slice a_147 l_148 c_149, .slice a_150 l_151 c_152]] w (fun v_153 w14 =>
  ∃ (a_154 : Option Addr) (l_155 c_156 : Nat), ∃ (a_157 : Option Addr) (l_158 c_159 : Nat), ∃ (a_160 : Option Addr) (l_161 c_162 : Nat), ∃ (a_163 : Option Addr) (l_164 c_165 : Nat), v_153 = .agg #[.slice a_154 l_155 c_156, .slice a_157 l_158 c_159, .slice a_160 l_161 c_162, .slice a_163 l_164 c_165] ∧
  CallsV Tryd.prog n_trystlaw10_Pair_Ts #[.pointer p7, .slice in17.a in17.len in17.cap] w14 (fun v_166 w15 =>
  ∃ (a_167 : Option Addr) (l_168 c_169 : Nat), v_166 = .slice a_167 l_168 c_169 ∧
  let w16 := w15.alloc (.cells #[.slice none 0 0, .slice none 0 0, .slice none 0 0, .slice none 0 0] 127);
  (∀ j, j < 4 → Wr w16 ((newA w15).add j)) ∧
  (let w17 := setCells (newA w15) [.slice a_154 l_155 c_156, .slice a_157 l_158 c_159, .slice a_160 l_161 c_162, .slice a_163 l_164 c_165] 0 w16;
  ∃ (a_170 : Option Addr) (l_171 c_172 : Nat), w17.cell? (newA w15) = some (.slice a_170 l_171 c_172) ∧
  ∃ (a_173 : Option Addr) (l_174 c_175 : Nat), w17.cell? ((newA w15).add 1) = some (.slice a_173 l_174 c_175) ∧
  ∃ (a_176 : Option Addr) (l_177 c_178 : Nat), w17.cell? ((newA w15).add 2) = some (.slice a_176 l_177 c_178) ∧
  ∃ (a_179 : Option Addr) (l_180 c_181 : Nat), w17.cell? ((newA w15).add 3) = some (.slice a_179 l_180 c_181) ∧
  CallsV Tryd.prog n_trystkeep_TwinMix #[.agg #[.slice a_170 l_171 c_172, .slice a_173 l_174 c_175, .slice a_176 l_177 c_178, .slice a_179 l_180 c_181]] w17 (fun v_182 w18 =>
  ∃ (a_183 : Option Addr) (l_184 c_185 : Nat), ∃ (a_186 : Option Addr) (l_187 c_188 : Nat), ∃ (a_189 : Option Addr) (l_190 c_191 : Nat), ∃ (a_192 : Option Addr) (l_193 c_194 : Nat), v_182 = .agg #[.slice a_183 l_184 c_185, .slice a_186 l_187 c_188, .slice a_189 l_190 c_191, .slice a_192 l_193 c_194] ∧
  CallsV Tryd.prog n_trystkeep_TwinInts #[.slice a_167 l_168 c_169] w18 (fun v_195 w19 =>
  ∃ (a_196 : Option Addr) (l_197 c_198 : Nat), v_195 = .slice a_196 l_197 c_198 ∧
  CallsV Tryd.prog n_trystkeep_TwinPerms #[.slice perms21.a perms21.len perms21.cap] w19 (fun v_199 w20 =>
  ∃ (a_200 : Option Addr) (l_201 c_202 : Nat), v_199 = .slice a_200 l_201 c_202 ∧
  let w21 := w20.alloc (.cells #[.slice none 0 0, .slice none 0 0, .slice none 0 0, .slice none 0 0] 127);
  (∀ j, j < 4 → Wr w21 ((newA w20).add j)) ∧
  (let w22 := setCells (newA w20) [.slice a_183 l_184 c_185, .slice a_186 l_187 c_188, .slice a_189 l_190 c_191, .slice a_192 l_193 c_194] 0 w21;
  ∃ S_203 : World → Prop, S_203 w22.drew ∧
  ∃ q_204 : Addr, p7 = some q_204 ∧
  ∃ p_205 : Option Addr, (∀ x, S_203 x → x.cell? q_204 = some (.pointer p_205)) ∧
  ∃ (a_206 : Option Addr) (l_207 c_208 : Nat), (∀ x, S_203 x → x.cell? (newA w20) = some (.slice a_206 l_207 c_208)) ∧
  ∃ (a_209 : Option Addr) (l_210 c_211 : Nat), (∀ x, S_203 x → x.cell? ((newA w20).add 1) = some (.slice a_209 l_210 c_211)) ∧
  ∃ (a_212 : Option Addr) (l_213 c_214 : Nat), (∀ x, S_203 x → x.cell? ((newA w20).add 2) = some (.slice a_212 l_213 c_214)) ∧
  ∃ (a_215 : Option Addr) (l_216 c_217 : Nat), (∀ x, S_203 x → x.cell? ((newA w20).add 3) = some (.slice a_215 l_216 c_217)) ∧
  (CallsV Tryd.prog n_trystlaw10_Pair_Ts #[.pointer p7, .slice secrets10.a secrets10.len secrets10.cap] w22.drew (fun v_218 w23 =>
  ∃ (a_219 : Option Addr) (l_220 c_221 : Nat), v_218 = .slice a_219 l_220 c_221 ∧
  S_203 w23 ∧
  (CallsV Tryd.prog n_mix_Round #[.pointer p_205, .agg #[.slice a_206 l_207 c_208, .slice a_209 l_210 c_211, .slice a_212 l_213 c_214, .slice a_215 l_216 c_217], .slice a_219 l_220 c_221, .slice a_196 l_197 c_198, .slice a_200 l_201 c_202] w23 (fun v_222 w24 =>
  ∃ (a_223 : Option Addr) (l_224 c_225 : Nat), ∃ (a_226 : Option Addr) (l_227 c_228 : Nat), ∃ (a_229 : Option Addr) (l_230 c_231 : Nat), ∃ (a_232 : Option Addr) (l_233 c_234 : Nat), ∃ (a_235 : Option Addr) (l_236 c_237 : Nat), ∃ x_238 : Int, v_222 = .tuple #[.agg #[.slice a_223 l_224 c_225, .slice a_226 l_227 c_228, .slice a_229 l_230 c_231, .slice a_232 l_233 c_234], .slice a_235 l_236 c_237, .int .i64 x_238] ∧
  let w25 := w24.alloc (.cells #[.slice none 0 0, .slice none 0 0, .slice none 0 0, .slice none 0 0] 127);
  (∀ j, j < 4 → Wr w25 ((newA w24).add j)) ∧
  (let w26 := setCells (newA w24) [.slice a_223 l_224 c_225, .slice a_226 l_227 c_228, .slice a_229 l_230 c_231, .slice a_232 l_233 c_234] 0 w25;
  trystlaw24_MixRounds.c9 R N2 rounds1 raw2 p7 b9 secrets10 pubs11 onions12 st15 r16 in17 perms21 (newA w15) ⟨a_167, l_168, c_169⟩ (newA w20) ⟨a_196, l_197, c_198⟩ (newA w24) ⟨a_235, l_236, c_237⟩ x_238 w26))) ∧
  (let w27 := w23.alloc (.cells #[.slice none 0 0, .slice none 0 0, .slice none 0 0, .slice none 0 0] 127);
  S_203 w27 ∧
  CallsV Tryd.prog n_mix_Round #[.pointer p_205, .agg #[.slice a_206 l_207 c_208, .slice a_209 l_210 c_211, .slice a_212 l_213 c_214, .slice a_215 l_216 c_217], .slice a_219 l_220 c_221, .slice a_196 l_197 c_198, .slice a_200 l_201 c_202] w27 (fun v_239 w28 =>
  ∃ (a_240 : Option Addr) (l_241 c_242 : Nat), ∃ (a_243 : Option Addr) (l_244 c_245 : Nat), ∃ (a_246 : Option Addr) (l_247 c_248 : Nat), ∃ (a_249 : Option Addr) (l_250 c_251 : Nat), ∃ (a_252 : Option Addr) (l_253 c_254 : Nat), ∃ x_255 : Int, v_239 = .tuple #[.agg #[.slice a_240 l_241 c_242, .slice a_243 l_244 c_245, .slice a_246 l_247 c_248, .slice a_249 l_250 c_251], .slice a_252 l_253 c_254, .int .i64 x_255] ∧
  (∀ j, j < 4 → Wr w28 ((newA w23).add j)) ∧
  (let w29 := setCells (newA w23) [.slice a_240 l_241 c_242, .slice a_243 l_244 c_245, .slice a_246 l_247 c_248, .slice a_249 l_250 c_251] 0 w28;
  trystlaw24_MixRounds.c9 R N2 rounds1 raw2 p7 b9 secrets10 pubs11 onions12 st15 r16 in17 perms21 (newA w15) ⟨a_167, l_168, c_169⟩ (newA w20) ⟨a_196, l_197, c_198⟩ (newA w23) ⟨a_252, l_253, c_254⟩ x_255 w29))))) ∧
  (let w30 := w22.drew.alloc (.cells #[.slice none 0 0, .slice none 0 0, .slice none 0 0, .slice none 0 0] 127);
  S_203 w30 ∧
  CallsV Tryd.prog n_trystlaw10_Pair_Ts #[.pointer p7, .slice secrets10.a secrets10.len secrets10.cap] w30 (fun v_256 w31 =>
  ∃ (a_257 : Option Addr) (l_258 c_259 : Nat), v_256 = .slice a_257 l_258 c_259 ∧
  S_203 w31 ∧
  CallsV Tryd.prog n_mix_Round #[.pointer p_205, .agg #[.slice a_206 l_207 c_208, .slice a_209 l_210 c_211, .slice a_212 l_213 c_214, .slice a_215 l_216 c_217], .slice a_257 l_258 c_259, .slice a_196 l_197 c_198, .slice a_200 l_201 c_202] w31 (fun v_260 w32 =>
  ∃ (a_261 : Option Addr) (l_262 c_263 : Nat), ∃ (a_264 : Option Addr) (l_265 c_266 : Nat), ∃ (a_267 : Option Addr) (l_268 c_269 : Nat), ∃ (a_270 : Option Addr) (l_271 c_272 : Nat), ∃ (a_273 : Option Addr) (l_274 c_275 : Nat), ∃ x_276 : Int, v_260 = .tuple #[.agg #[.slice a_261 l_262 c_263, .slice a_264 l_265 c_266, .slice a_267 l_268 c_269, .slice a_270 l_271 c_272], .slice a_273 l_274 c_275, .int .i64 x_276] ∧
  (∀ j, j < 4 → Wr w32 ((newA w22.drew).add j)) ∧
  (let w33 := setCells (newA w22.drew) [.slice a_261 l_262 c_263, .slice a_264 l_265 c_266, .slice a_267 l_268 c_269, .slice a_270 l_271 c_272] 0 w32;
  trystlaw24_MixRounds.c9 R N2 rounds1 raw2 p7 b9 secrets10 pubs11 onions12 st15 r16 in17 perms21 (newA w15) ⟨a_167, l_168, c_169⟩ (newA w20) ⟨a_196, l_197, c_198⟩ (newA w22.drew) ⟨a_273, l_274, c_275⟩ x_276 w33)))))))))))

def trystlaw24_MixRounds.c12 (R : Value → World → Prop) (N2 : Sl → Bool → Option Addr → Option Addr → Sl → Sl → Addr → Sl → Int → World → Prop) (N11 : Sl → Bool → Option Addr → Option Addr → Sl → Sl → Sl → Addr → Int → Sl → Sl → Int → World → Prop) (rounds1 : Sl) (raw2 : Bool) (p7 : Option Addr) (b9 : Option Addr) (secrets10 : Sl) (pubs11 : Sl) (onions12 : Sl) (st15 : Addr) (r16 : Int) (in17 : Sl) (perms21 : Sl) (i22 : Int) (x23 : Sl) (w : World) : Prop :=
  CallsV Tryd.prog n_trystlaw24_perm #[.slice x23.a x23.len x23.cap, .int .i64 ((in17.len : Nat) : Int), .bool raw2] w (fun v_277 w34 =>
  ∃ (a_278 : Option Addr) (l_279 c_280 : Nat), v_277 = .slice a_278 l_279 c_280 ∧
  let w35 := w34.alloc (.cells #[.slice a_278 l_279 c_280] 29);
  ∃ (a_281 : Option Addr) (l_282 c_283 : Nat), ∃ w36 : World, (builtin .append #[128, 128] 128 #[] #[.slice perms21.a perms21.len perms21.cap, .slice (some (newA w34)) 1 1]).run Tryd.prog w35 = .ok (.value (.slice a_281 l_282 c_283)) w36 ∧
  (let i22_283 : Int := (IntKind.i64.wrap (i22 + 1));
  N11 rounds1 raw2 p7 b9 secrets10 pubs11 onions12 st15 r16 in17 ⟨a_281, l_282, c_283⟩ i22_283 w36))

def trystlaw24_MixRounds.c13 (R : Value → World → Prop) (N2 : Sl → Bool → Option Addr → Option Addr → Sl → Sl → Addr → Sl → Int → World → Prop) (N11 : Sl → Bool → Option Addr → Option Addr → Sl → Sl → Sl → Addr → Int → Sl → Sl → Int → World → Prop) (rounds1 : Sl) (raw2 : Bool) (p7 : Option Addr) (b9 : Option Addr) (secrets10 : Sl) (pubs11 : Sl) (onions12 : Sl) (st15 : Addr) (r16 : Int) (in17 : Sl) (perms21 : Sl) (i22 : Int) (x23 : Sl) (w : World) : Prop :=
  cond (decide ((((x23.len : Nat) : Int) : Int) > 200))
  (R (.bool true) w)
  (cond (decide ((i22 : Int) < 3))
  (trystlaw24_MixRounds.c12 R N2 N11 rounds1 raw2 p7 b9 secrets10 pubs11 onions12 st15 r16 in17 perms21 i22 x23 w)
  (cond raw2
  (trystlaw24_MixRounds.c12 R N2 N11 rounds1 raw2 p7 b9 secrets10 pubs11 onions12 st15 r16 in17 perms21 i22 x23 w)
  ((let i22_284 : Int := (IntKind.i64.wrap (i22 + 1));
  N11 rounds1 raw2 p7 b9 secrets10 pubs11 onions12 st15 r16 in17 perms21 i22_284 w))))

def trystlaw24_MixRounds.c14 (R : Value → World → Prop) (N2 : Sl → Bool → Option Addr → Option Addr → Sl → Sl → Addr → Sl → Int → World → Prop) (N11 : Sl → Bool → Option Addr → Option Addr → Sl → Sl → Sl → Addr → Int → Sl → Sl → Int → World → Prop) (rounds1 : Sl) (raw2 : Bool) (p7 : Option Addr) (b9 : Option Addr) (secrets10 : Sl) (pubs11 : Sl) (onions12 : Sl) (st15 : Addr) (r16 : Int) (in17 : Sl) (perms21 : Sl) (i22 : Int) (w : World) : Prop :=
  0 ≤ (r16 : Int) ∧ r16 < ((rounds1.len : Nat) : Int) ∧ ∃ q_286 : Addr, rounds1.a = some q_286 ∧
  ∃ (a_287 : Option Addr) (l_288 c_289 : Nat), w.cell? ((q_286.add ((r16 : Int).toNat * 3)).add 2) = some (.slice a_287 l_288 c_289) ∧
  cond (decide ((i22 : Int) < ((l_288 : Nat) : Int)))
  (0 ≤ (r16 : Int) ∧ r16 < ((rounds1.len : Nat) : Int) ∧ ∃ q_290 : Addr, rounds1.a = some q_290 ∧
  ∃ (a_291 : Option Addr) (l_292 c_293 : Nat), w.cell? ((q_290.add ((r16 : Int).toNat * 3)).add 2) = some (.slice a_291 l_292 c_293) ∧
  0 ≤ (i22 : Int) ∧ i22 < ((l_292 : Nat) : Int) ∧ ∃ q_294 : Addr, a_291 = some q_294 ∧
  ∃ (a_295 : Option Addr) (l_296 c_297 : Nat), w.cell? (q_294.add (i22 : Int).toNat) = some (.slice a_295 l_296 c_297) ∧
  trystlaw24_MixRounds.c13 R N2 N11 rounds1 raw2 p7 b9 secrets10 pubs11 onions12 st15 r16 in17 perms21 i22 ⟨a_295, l_296, c_297⟩ w)
  (trystlaw24_MixRounds.c13 R N2 N11 rounds1 raw2 p7 b9 secrets10 pubs11 onions12 st15 r16 in17 perms21 i22 ⟨none, 0, 0⟩ w)

def trystlaw24_MixRounds.b11 (R : Value → World → Prop) (N2 : Sl → Bool → Option Addr → Option Addr → Sl → Sl → Addr → Sl → Int → World → Prop) (N11 : Sl → Bool → Option Addr → Option Addr → Sl → Sl → Sl → Addr → Int → Sl → Sl → Int → World → Prop) (rounds1 : Sl) (raw2 : Bool) (p7 : Option Addr) (b9 : Option Addr) (secrets10 : Sl) (pubs11 : Sl) (onions12 : Sl) (st15 : Addr) (r16 : Int) (in17 : Sl) (perms21 : Sl) (i22 : Int) (w : World) : Prop :=
  0 ≤ (r16 : Int) ∧ r16 < ((rounds1.len : Nat) : Int) ∧ ∃ q_298 : Addr, rounds1.a = some q_298 ∧
  ∃ (a_299 : Option Addr) (l_300 c_301 : Nat), w.cell? ((q_298.add ((r16 : Int).toNat * 3)).add 2) = some (.slice a_299 l_300 c_301) ∧
  cond (decide ((i22 : Int) < ((l_300 : Nat) : Int)))
  (trystlaw24_MixRounds.c14 R N2 N11 rounds1 raw2 p7 b9 secrets10 pubs11 onions12 st15 r16 in17 perms21 i22 w)
  (cond (decide ((i22 : Int) < 3))
  (cond (!raw2)
  (trystlaw24_MixRounds.c14 R N2 N11 rounds1 raw2 p7 b9 secrets10 pubs11 onions12 st15 r16 in17 perms21 i22 w)
  (trystlaw24_MixRounds.c10 R N2 rounds1 raw2 p7 b9 secrets10 pubs11 onions12 st15 r16 in17 perms21 w))
  (trystlaw24_MixRounds.c10 R N2 rounds1 raw2 p7 b9 secrets10 pubs11 onions12 st15 r16 in17 perms21 w))

def trystlaw24_MixRounds.l11 (R : Value → World → Prop) (N2 : Sl → Bool → Option Addr → Option Addr → Sl → Sl → Addr → Sl → Int → World → Prop) (rounds1 : Sl) (raw2 : Bool) (p7 : Option Addr) (b9 : Option Addr) (secrets10 : Sl) (pubs11 : Sl) (onions12 : Sl) (st15 : Addr) (r16 : Int) (in17 : Sl) (perms21 : Sl) (i22 : Int) (w : World) : Prop :=
  ∃ (I : (Sl × Int) → World → Prop) (μ : (Sl × Int) → World → Nat), I (perms21, i22) w ∧ ∀ s w, I s w → trystlaw24_MixRounds.b11 R N2 (fun rounds1' raw2' p7' b9' secrets10' pubs11' onions12' st15' r16' in17' perms21' i22' w' => (rounds1' = rounds1 ∧ raw2' = raw2 ∧ p7' = p7 ∧ b9' = b9 ∧ secrets10' = secrets10 ∧ pubs11' = pubs11 ∧ onions12' = onions12 ∧ st15' = st15 ∧ r16' = r16 ∧ in17' = in17 ∧ I (perms21', i22') w') ∧ μ (perms21', i22') w' < μ s w) rounds1 raw2 p7 b9 secrets10 pubs11 onions12 st15 r16 in17 s.1 s.2 w

def trystlaw24_MixRounds.c15 (R : Value → World → Prop) (N2 : Sl → Bool → Option Addr → Option Addr → Sl → Sl → Addr → Sl → Int → World → Prop) (rounds1 : Sl) (raw2 : Bool) (p7 : Option Addr) (b9 : Option Addr) (secrets10 : Sl) (pubs11 : Sl) (onions12 : Sl) (st15 : Addr) (r16 : Int) (in17 : Sl) (w : World) : Prop :=
  trystlaw24_MixRounds.l11 R N2 rounds1 raw2 p7 b9 secrets10 pubs11 onions12 st15 r16 in17 ⟨none, 0, 0⟩ 0 w

def trystlaw24_MixRounds.c17 (R : Value → World → Prop) (N2 : Sl → Bool → Option Addr → Option Addr → Sl → Sl → Addr → Sl → Int → World → Prop) (N16 : Sl → Bool → Option Addr → Option Addr → Sl → Sl → Sl → Addr → Int → Sl → Int → World → Prop) (rounds1 : Sl) (raw2 : Bool) (p7 : Option Addr) (b9 : Option Addr) (secrets10 : Sl) (pubs11 : Sl) (onions12 : Sl) (st15 : Addr) (r16 : Int) (in17 : Sl) (i20 : Int) (w : World) : Prop :=
  0 ≤ (r16 : Int) ∧ r16 < ((rounds1.len : Nat) : Int) ∧ ∃ q_302 : Addr, rounds1.a = some q_302 ∧
  ∃ (a_303 : Option Addr) (l_304 c_305 : Nat), w.cell? ((q_302.add ((r16 : Int).toNat * 3)).add 1) = some (.slice a_303 l_304 c_305) ∧
  0 ≤ (i20 : Int) ∧ i20 < ((l_304 : Nat) : Int) ∧ ∃ q_306 : Addr, a_303 = some q_306 ∧
  ∃ x_307 : Int, w.cell? (q_306.add (i20 : Int).toNat) = some (.int .i64 x_307) ∧
  (IntKind.u64.wrap ((onions12.len : Nat) : Int)) ≠ 0 ∧
  0 ≤ ((IntKind.i64.wrap (Int.tmod (IntKind.u64.wrap x_307) (IntKind.u64.wrap ((onions12.len : Nat) : Int)))) : Int) ∧ (IntKind.i64.wrap (Int.tmod (IntKind.u64.wrap x_307) (IntKind.u64.wrap ((onions12.len : Nat) : Int)))) < ((onions12.len : Nat) : Int) ∧ ∃ q_308 : Addr, onions12.a = some q_308 ∧
  ∃ x_309 : Int, w.cell? (q_308.add (ixOff ((IntKind.i64.wrap (Int.tmod (IntKind.u64.wrap x_307) (IntKind.u64.wrap ((onions12.len : Nat) : Int)))) : Int).toNat 1)) = some (.int .i64 x_309) ∧
  let w37 := w.alloc (.cells #[.int .i64 x_309] 3);
  ∃ (a_310 : Option Addr) (l_311 c_312 : Nat), ∃ w38 : World, (builtin .append #[29, 29] 29 #[] #[.slice in17.a in17.len in17.cap, .slice (some (newA w)) 1 1]).run Tryd.prog w37 = .ok (.value (.slice a_310 l_311 c_312)) w38 ∧
  (let i20_312 : Int := (IntKind.i64.wrap (i20 + 1));
  N16 rounds1 raw2 p7 b9 secrets10 pubs11 onions12 st15 r16 ⟨a_310, l_311, c_312⟩ i20_312 w38)

def trystlaw24_MixRounds.b16 (R : Value → World → Prop) (N2 : Sl → Bool → Option Addr → Option Addr → Sl → Sl → Addr → Sl → Int → World → Prop) (N16 : Sl → Bool → Option Addr → Option Addr → Sl → Sl → Sl → Addr → Int → Sl → Int → World → Prop) (rounds1 : Sl) (raw2 : Bool) (p7 : Option Addr) (b9 : Option Addr) (secrets10 : Sl) (pubs11 : Sl) (onions12 : Sl) (st15 : Addr) (r16 : Int) (in17 : Sl) (i20 : Int) (w : World) : Prop :=
  0 ≤ (r16 : Int) ∧ r16 < ((rounds1.len : Nat) : Int) ∧ ∃ q_314 : Addr, rounds1.a = some q_314 ∧
  ∃ (a_315 : Option Addr) (l_316 c_317 : Nat), w.cell? ((q_314.add ((r16 : Int).toNat * 3)).add 1) = some (.slice a_315 l_316 c_317) ∧
  cond (decide ((i20 : Int) < ((l_316 : Nat) : Int)))
  (cond (decide ((((onions12.len : Nat) : Int) : Int) > 0))
  (trystlaw24_MixRounds.c17 R N2 N16 rounds1 raw2 p7 b9 secrets10 pubs11 onions12 st15 r16 in17 i20 w)
  (trystlaw24_MixRounds.c15 R N2 rounds1 raw2 p7 b9 secrets10 pubs11 onions12 st15 r16 in17 w))
  (trystlaw24_MixRounds.c15 R N2 rounds1 raw2 p7 b9 secrets10 pubs11 onions12 st15 r16 in17 w)

def trystlaw24_MixRounds.l16 (R : Value → World → Prop) (N2 : Sl → Bool → Option Addr → Option Addr → Sl → Sl → Addr → Sl → Int → World → Prop) (rounds1 : Sl) (raw2 : Bool) (p7 : Option Addr) (b9 : Option Addr) (secrets10 : Sl) (pubs11 : Sl) (onions12 : Sl) (st15 : Addr) (r16 : Int) (in17 : Sl) (i20 : Int) (w : World) : Prop :=
  ∃ (I : (Sl × Int) → World → Prop) (μ : (Sl × Int) → World → Nat), I (in17, i20) w ∧ ∀ s w, I s w → trystlaw24_MixRounds.b16 R N2 (fun rounds1' raw2' p7' b9' secrets10' pubs11' onions12' st15' r16' in17' i20' w' => (rounds1' = rounds1 ∧ raw2' = raw2 ∧ p7' = p7 ∧ b9' = b9 ∧ secrets10' = secrets10 ∧ pubs11' = pubs11 ∧ onions12' = onions12 ∧ st15' = st15 ∧ r16' = r16 ∧ I (in17', i20') w') ∧ μ (in17', i20') w' < μ s w) rounds1 raw2 p7 b9 secrets10 pubs11 onions12 st15 r16 s.1 s.2 w

def trystlaw24_MixRounds.c18 (R : Value → World → Prop) (N2 : Sl → Bool → Option Addr → Option Addr → Sl → Sl → Addr → Sl → Int → World → Prop) (rounds1 : Sl) (raw2 : Bool) (p7 : Option Addr) (b9 : Option Addr) (secrets10 : Sl) (pubs11 : Sl) (onions12 : Sl) (st15 : Addr) (r16 : Int) (in17 : Sl) (w : World) : Prop :=
  trystlaw24_MixRounds.l16 R N2 rounds1 raw2 p7 b9 secrets10 pubs11 onions12 st15 r16 in17 0 w

def trystlaw24_MixRounds.c20 (R : Value → World → Prop) (N2 : Sl → Bool → Option Addr → Option Addr → Sl → Sl → Addr → Sl → Int → World → Prop) (N19 : Sl → Bool → Option Addr → Option Addr → Sl → Sl → Addr → Int → Sl → Sl → Int → World → Prop) (rounds1 : Sl) (raw2 : Bool) (p7 : Option Addr) (b9 : Option Addr) (secrets10 : Sl) (pubs11 : Sl) (onions12 : Sl) (st15 : Addr) (r16 : Int) (in17 : Sl) (i18 : Int) (x19 : Int) (w : World) : Prop :=
  let w39 := w.alloc (.cells #[.int .i64 x19] 3);
  ∃ (a_318 : Option Addr) (l_319 c_320 : Nat), ∃ w40 : World, (builtin .append #[29, 29] 29 #[] #[.slice in17.a in17.len in17.cap, .slice (some (newA w)) 1 1]).run Tryd.prog w39 = .ok (.value (.slice a_318 l_319 c_320)) w40 ∧
  (let i18_320 : Int := (IntKind.i64.wrap (i18 + 1));
  N19 rounds1 raw2 p7 b9 secrets10 pubs11 st15 r16 onions12 ⟨a_318, l_319, c_320⟩ i18_320 w40)

def trystlaw24_MixRounds.b19 (R : Value → World → Prop) (N2 : Sl → Bool → Option Addr → Option Addr → Sl → Sl → Addr → Sl → Int → World → Prop) (N19 : Sl → Bool → Option Addr → Option Addr → Sl → Sl → Addr → Int → Sl → Sl → Int → World → Prop) (rounds1 : Sl) (raw2 : Bool) (p7 : Option Addr) (b9 : Option Addr) (secrets10 : Sl) (pubs11 : Sl) (st15 : Addr) (r16 : Int) (onions12 : Sl) (in17 : Sl) (i18 : Int) (w : World) : Prop :=
  0 ≤ (r16 : Int) ∧ r16 < ((rounds1.len : Nat) : Int) ∧ ∃ q_322 : Addr, rounds1.a = some q_322 ∧
  ∃ (a_323 : Option Addr) (l_324 c_325 : Nat), w.cell? (q_322.add ((r16 : Int).toNat * 3)) = some (.slice a_323 l_324 c_325) ∧
  cond (decide ((i18 : Int) < ((l_324 : Nat) : Int)))
  (0 ≤ (r16 : Int) ∧ r16 < ((rounds1.len : Nat) : Int) ∧ ∃ q_326 : Addr, rounds1.a = some q_326 ∧
  ∃ (a_327 : Option Addr) (l_328 c_329 : Nat), w.cell? (q_326.add ((r16 : Int).toNat * 3)) = some (.slice a_327 l_328 c_329) ∧
  0 ≤ (i18 : Int) ∧ i18 < ((l_328 : Nat) : Int) ∧ ∃ q_330 : Addr, a_327 = some q_330 ∧
  ∃ x_331 : Int, w.cell? (q_330.add ((i18 : Int).toNat * 4)) = some (.int .i64 x_331) ∧
  ∃ x_332 : Int, w.cell? ((q_330.add ((i18 : Int).toNat * 4)).add 1) = some (.int .i64 x_332) ∧
  ∃ x_333 : Int, w.cell? ((q_330.add ((i18 : Int).toNat * 4)).add 2) = some (.int .i64 x_333) ∧
  ∃ b_334 : Bool, w.cell? ((q_330.add ((i18 : Int).toNat * 4)).add 3) = some (.bool b_334) ∧
  CallsV Tryd.prog n_trystlaw24_ask #[.pointer b9, .agg #[.int .i64 x_331, .int .i64 x_332, .int .i64 x_333, .bool b_334]] w (fun v_335 w41 =>
  ∃ x_336 : Int, v_335 = .int .i64 x_336 ∧
  let w42 := w41.alloc (.cells #[.int .i64 x_336] 3);
  CallsV Tryd.prog n_trystref10_Arena_Has #[.pointer b9, .slice (some (newA w41)) 1 1] w42 (fun v_337 w43 =>
  ∃ b_338 : Bool, v_337 = .bool b_338 ∧
  cond (!b_338)
  ((let i18_338 : Int := (IntKind.i64.wrap (i18 + 1));
  N19 rounds1 raw2 p7 b9 secrets10 pubs11 st15 r16 onions12 in17 i18_338 w43))
  (0 ≤ (r16 : Int) ∧ r16 < ((rounds1.len : Nat) : Int) ∧ ∃ q_340 : Addr, rounds1.a = some q_340 ∧
  ∃ (a_341 : Option Addr) (l_342 c_343 : Nat), w43.cell? (q_340.add ((r16 : Int).toNat * 3)) = some (.slice a_341 l_342 c_343) ∧
  0 ≤ (i18 : Int) ∧ i18 < ((l_342 : Nat) : Int) ∧ ∃ q_344 : Addr, a_341 = some q_344 ∧
  ∃ b_345 : Bool, w43.cell? ((q_344.add ((i18 : Int).toNat * 4)).add 3) = some (.bool b_345) ∧
  cond (!b_345)
  (CallsV Tryd.prog n_trystref10_Arena_Make #[.pointer b9, .int .i64 1, .int .i64 (IntKind.i64.wrap ((IntKind.i64.wrap (10000 + (IntKind.i64.wrap (100 * r16)))) + i18)), .slice none 0 0] w43 (fun v_346 w44 =>
  ∃ x_347 : Int, v_346 = .int .i64 x_347 ∧
  CallsV Tryd.prog n_trystref22_Wrap #[.pointer b9, .slice pubs11.a pubs11.len pubs11.cap, .int .i64 x_347, .int .i64 x_336] w44 (fun v_348 w45 =>
  ∃ x_349 : Int, ∃ (a_350 : Option Addr) (l_351 c_352 : Nat), v_348 = .tuple #[.int .i64 x_349, .slice a_350 l_351 c_352] ∧
  let w46 := w45.alloc (.cells #[.int .i64 x_349] 3);
  ∃ (a_353 : Option Addr) (l_354 c_355 : Nat), ∃ w47 : World, (builtin .append #[29, 29] 29 #[] #[.slice onions12.a onions12.len onions12.cap, .slice (some (newA w45)) 1 1]).run Tryd.prog w46 = .ok (.value (.slice a_353 l_354 c_355)) w47 ∧
  trystlaw24_MixRounds.c20 R N2 N19 rounds1 raw2 p7 b9 secrets10 pubs11 ⟨a_353, l_354, c_355⟩ st15 r16 in17 i18 x_349 w47)))
  (trystlaw24_MixRounds.c20 R N2 N19 rounds1 raw2 p7 b9 secrets10 pubs11 onions12 st15 r16 in17 i18 x_336 w43)))))
  (trystlaw24_MixRounds.c18 R N2 rounds1 raw2 p7 b9 secrets10 pubs11 onions12 st15 r16 in17 w)

def trystlaw24_MixRounds.l19 (R : Value → World → Prop) (N2 : Sl → Bool → Option Addr → Option Addr → Sl → Sl → Addr → Sl → Int → World → Prop) (rounds1 : Sl) (raw2 : Bool) (p7 : Option Addr) (b9 : Option Addr) (secrets10 : Sl) (pubs11 : Sl) (st15 : Addr) (r16 : Int) (onions12 : Sl) (in17 : Sl) (i18 : Int) (w : World) : Prop :=
  ∃ (I : (Sl × Sl × Int) → World → Prop) (μ : (Sl × Sl × Int) → World → Nat), I (onions12, in17, i18) w ∧ ∀ s w, I s w → trystlaw24_MixRounds.b19 R N2 (fun rounds1' raw2' p7' b9' secrets10' pubs11' st15' r16' onions12' in17' i18' w' => (rounds1' = rounds1 ∧ raw2' = raw2 ∧ p7' = p7 ∧ b9' = b9 ∧ secrets10' = secrets10 ∧ pubs11' = pubs11 ∧ st15' = st15 ∧ r16' = r16 ∧ I (onions12', in17', i18') w') ∧ μ (onions12', in17', i18') w' < μ s w) rounds1 raw2 p7 b9 secrets10 pubs11 st15 r16 s.1 s.2.1 s.2.2 w

def trystlaw24_MixRounds.c21 (R : Value → World → Prop) (N2 : Sl → Bool → Option Addr → Option Addr → Sl → Sl → Addr → Sl → Int → World → Prop) (rounds1 : Sl) (raw2 : Bool) (p7 : Option Addr) (b9 : Option Addr) (secrets10 : Sl) (pubs11 : Sl) (onions12 : Sl) (st15 : Addr) (r16 : Int) (w : World) : Prop :=
  trystlaw24_MixRounds.l19 R N2 rounds1 raw2 p7 b9 secrets10 pubs11 st15 r16 onions12 ⟨none, 0, 0⟩ 0 w

def trystlaw24_MixRounds.b2 (R : Value → World → Prop) (N2 : Sl → Bool → Option Addr → Option Addr → Sl → Sl → Addr → Sl → Int → World → Prop) (rounds1 : Sl) (raw2 : Bool) (p7 : Option Addr) (b9 : Option Addr) (secrets10 : Sl) (pubs11 : Sl) (st15 : Addr) (onions12 : Sl) (r16 : Int) (w : World) : Prop :=
  cond (decide ((r16 : Int) < ((rounds1.len : Nat) : Int)))
  (0 ≤ (r16 : Int) ∧ r16 < ((rounds1.len : Nat) : Int) ∧ ∃ q_356 : Addr, rounds1.a = some q_356 ∧
  ∃ (a_357 : Option Addr) (l_358 c_359 : Nat), w.cell? (q_356.add ((r16 : Int).toNat * 3)) = some (.slice a_357 l_358 c_359) ∧
  cond (decide ((((l_358 : Nat) : Int) : Int) > 30))
  (R (.bool true) w)
  (0 ≤ (r16 : Int) ∧ r16 < ((rounds1.len : Nat) : Int) ∧ ∃ q_360 : Addr, rounds1.a = some q_360 ∧
  ∃ (a_361 : Option Addr) (l_362 c_363 : Nat), w.cell? ((q_360.add ((r16 : Int).toNat * 3)).add 1) = some (.slice a_361 l_362 c_363) ∧
  cond (decide ((((l_362 : Nat) : Int) : Int) > 30))
  (R (.bool true) w)
  (0 ≤ (r16 : Int) ∧ r16 < ((rounds1.len : Nat) : Int) ∧ ∃ q_364 : Addr, rounds1.a = some q_364 ∧
  ∃ (a_365 : Option Addr) (l_366 c_367 : Nat), w.cell? ((q_364.add ((r16 : Int).toNat * 3)).add 2) = some (.slice a_365 l_366 c_367) ∧
  cond (decide ((((l_366 : Nat) : Int) : Int) > 10))
  (R (.bool true) w)
  (trystlaw24_MixRounds.c21 R N2 rounds1 raw2 p7 b9 secrets10 pubs11 onions12 st15 r16 w))))
  (trystlaw24_MixRounds.c1 R w)

def trystlaw24_MixRounds.l2 (R : Value → World → Prop) (rounds1 : Sl) (raw2 : Bool) (p7 : Option Addr) (b9 : Option Addr) (secrets10 : Sl) (pubs11 : Sl) (st15 : Addr) (onions12 : Sl) (r16 : Int) (w : World) : Prop :=
  ∃ (I : (Sl × Int) → World → Prop) (μ : (Sl × Int) → World → Nat), I (onions12, r16) w ∧ ∀ s w, I s w → trystlaw24_MixRounds.b2 R (fun rounds1' raw2' p7' b9' secrets10' pubs11' st15' onions12' r16' w' => (rounds1' = rounds1 ∧ raw2' = raw2 ∧ p7' = p7 ∧ b9' = b9 ∧ secrets10' = secrets10 ∧ pubs11' = pubs11 ∧ st15' = st15 ∧ I (onions12', r16') w') ∧ μ (onions12', r16') w' < μ s w) rounds1 raw2 p7 b9 secrets10 pubs11 st15 s.1 s.2 w

def trystlaw24_MixRounds.c22 (R : Value → World → Prop) (rounds1 : Sl) (raw2 : Bool) (p7 : Option Addr) (b9 : Option Addr) (secrets10 : Sl) (pubs11 : Sl) (onions12 : Sl) (w : World) : Prop :=
  let w48 := w.alloc (.cells #[.slice none 0 0, .slice none 0 0, .slice none 0 0, .slice none 0 0] 127);
  trystlaw24_MixRounds.l2 R rounds1 raw2 p7 b9 secrets10 pubs11 (newA w) onions12 0 w48

def trystlaw24_MixRounds.b23 (R : Value → World → Prop) (N23 : Sl → Bool → Option Addr → Option Addr → Sl → Sl → Sl → Int → World → Prop) (rounds1 : Sl) (raw2 : Bool) (p7 : Option Addr) (b9 : Option Addr) (onions12 : Sl) (secrets10 : Sl) (pubs11 : Sl) (i13 : Int) (w : World) : Prop :=
  cond (decide ((i13 : Int) < 3))
  (CallsV Tryd.prog n_trystref10_Arena_Make #[.pointer b9, .int .i64 1, .int .i64 (IntKind.i64.wrap (9000 + i13)), .slice none 0 0] w (fun v_368 w49 =>
  ∃ x_369 : Int, v_368 = .int .i64 x_369 ∧
  let w50 := w49.alloc (.cells #[.int .i64 x_369] 3);
  ∃ (a_370 : Option Addr) (l_371 c_372 : Nat), ∃ w51 : World, (builtin .append #[29, 29] 29 #[] #[.slice secrets10.a secrets10.len secrets10.cap, .slice (some (newA w49)) 1 1]).run Tryd.prog w50 = .ok (.value (.slice a_370 l_371 c_372)) w51 ∧
  CallsV Tryd.prog n_trystref10_Arena_Pub #[.pointer b9, .int .i64 x_369] w51 (fun v_373 w52 =>
  ∃ x_374 : Int, v_373 = .int .i64 x_374 ∧
  let w53 := w52.alloc (.cells #[.int .i64 x_374] 3);
  ∃ (a_375 : Option Addr) (l_376 c_377 : Nat), ∃ w54 : World, (builtin .append #[29, 29] 29 #[] #[.slice pubs11.a pubs11.len pubs11.cap, .slice (some (newA w52)) 1 1]).run Tryd.prog w53 = .ok (.value (.slice a_375 l_376 c_377)) w54 ∧
  (let i13_377 : Int := (IntKind.i64.wrap (i13 + 1));
  N23 rounds1 raw2 p7 b9 onions12 ⟨a_370, l_371, c_372⟩ ⟨a_375, l_376, c_377⟩ i13_377 w54))))
  (trystlaw24_MixRounds.c22 R rounds1 raw2 p7 b9 secrets10 pubs11 onions12 w)

def trystlaw24_MixRounds.l23 (R : Value → World → Prop) (rounds1 : Sl) (raw2 : Bool) (p7 : Option Addr) (b9 : Option Addr) (onions12 : Sl) (secrets10 : Sl) (pubs11 : Sl) (i13 : Int) (w : World) : Prop :=
  ∃ (I : (Sl × Sl × Int) → World → Prop) (μ : (Sl × Sl × Int) → World → Nat), I (secrets10, pubs11, i13) w ∧ ∀ s w, I s w → trystlaw24_MixRounds.b23 R (fun rounds1' raw2' p7' b9' onions12' secrets10' pubs11' i13' w' => (rounds1' = rounds1 ∧ raw2' = raw2 ∧ p7' = p7 ∧ b9' = b9 ∧ onions12' = onions12 ∧ I (secrets10', pubs11', i13') w') ∧ μ (secrets10', pubs11', i13') w' < μ s w) rounds1 raw2 p7 b9 onions12 s.1 s.2.1 s.2.2 w

def trystlaw24_MixRounds.c24 (R : Value → World → Prop) (l0 : Sl) (rounds1 : Sl) (raw2 : Bool) (w : World) : Prop :=
  CallsV Tryd.prog n_trystlaw10_Pairs #[.slice l0.a l0.len l0.cap] w (fun v_379 w55 =>
  ∃ p_380 : Option Addr, ∃ b_381 : Bool, v_379 = .tuple #[.pointer p_380, .bool b_381] ∧
  cond (!b_381)
  (R (.bool false) w55)
  (∃ q_382 : Addr, p_380 = some q_382 ∧
  ∃ p_383 : Option Addr, w55.cell? (q_382.add 1) = some (.pointer p_383) ∧
  trystlaw24_MixRounds.l23 R rounds1 raw2 p_380 p_383 ⟨none, 0, 0⟩ ⟨none, 0, 0⟩ ⟨none, 0, 0⟩ 0 w55))

def trystlaw24_MixRounds.main (R : Value → World → Prop) (l0 : Sl) (rounds1 : Sl) (raw2 : Bool) (w : World) : Prop :=
  CallsV Tryd.prog n_trystlaw10_Heavy #[.slice l0.a l0.len l0.cap] w (fun v_384 w56 =>
  ∃ b_385 : Bool, v_384 = .bool b_385 ∧
  cond b_385
  (R (.bool true) w56)
  (cond (decide ((((rounds1.len : Nat) : Int) : Int) > 6))
  (R (.bool true) w56)
  (trystlaw24_MixRounds.c24 R l0 rounds1 raw2 w56)))

def trystlaw24_MixRounds.J2 (R : Value → World → Prop) (N2 : Sl → Bool → Option Addr → Option Addr → Sl → Sl → Addr → Sl → Int → World → Prop) (k : Nat) (fr : Fr) (w : World) : Prop :=
  cond (Nat.beq k 21) (dec [(1, .slice), (2, .bool), (7, .ptr), (9, .ptr), (10, .slice), (11, .slice), (12, .slice), (15, .addr), (16, (.int .i64))] fr fun x => trystlaw24_MixRounds.c21 R N2 x.1 x.2.1 x.2.2.1 x.2.2.2.1 x.2.2.2.2.1 x.2.2.2.2.2.1 x.2.2.2.2.2.2.1 x.2.2.2.2.2.2.2.1 x.2.2.2.2.2.2.2.2 w) (cond (Nat.beq k 19) (dec [(1, .slice), (2, .bool), (7, .ptr), (9, .ptr), (10, .slice), (11, .slice), (15, .addr), (16, (.int .i64)), (12, .slice), (17, .slice), (18, (.int .i64))] fr fun x => trystlaw24_MixRounds.l19 R N2 x.1 x.2.1 x.2.2.1 x.2.2.2.1 x.2.2.2.2.1 x.2.2.2.2.2.1 x.2.2.2.2.2.2.1 x.2.2.2.2.2.2.2.1 x.2.2.2.2.2.2.2.2.1 x.2.2.2.2.2.2.2.2.2.1 x.2.2.2.2.2.2.2.2.2.2 w) (cond (Nat.beq k 18) (dec [(1, .slice), (2, .bool), (7, .ptr), (9, .ptr), (10, .slice), (11, .slice), (12, .slice), (15, .addr), (16, (.int .i64)), (17, .slice)] fr fun x => trystlaw24_MixRounds.c18 R N2 x.1 x.2.1 x.2.2.1 x.2.2.2.1 x.2.2.2.2.1 x.2.2.2.2.2.1 x.2.2.2.2.2.2.1 x.2.2.2.2.2.2.2.1 x.2.2.2.2.2.2.2.2.1 x.2.2.2.2.2.2.2.2.2 w) (cond (Nat.beq k 16) (dec [(1, .slice), (2, .bool), (7, .ptr), (9, .ptr), (10, .slice), (11, .slice), (12, .slice), (15, .addr), (16, (.int .i64)), (17, .slice), (20, (.int .i64))] fr fun x => trystlaw24_MixRounds.l16 R N2 x.1 x.2.1 x.2.2.1 x.2.2.2.1 x.2.2.2.2.1 x.2.2.2.2.2.1 x.2.2.2.2.2.2.1 x.2.2.2.2.2.2.2.1 x.2.2.2.2.2.2.2.2.1 x.2.2.2.2.2.2.2.2.2.1 x.2.2.2.2.2.2.2.2.2.2 w) (cond (Nat.beq k 15) (dec [(1, .slice), (2, .bool), (7, .ptr), (9, .ptr), (10, .slice), (11, .slice), (12, .slice), (15, .addr), (16, (.int .i64)), (17, .slice)] fr fun x => trystlaw24_MixRounds.c15 R N2 x.1 x.2.1 x.2.2.1 x.2.2.2.1 x.2.2.2.2.1 x.2.2.2.2.2.1 x.2.2.2.2.2.2.1 x.2.2.2.2.2.2.2.1 x.2.2.2.2.2.2.2.2.1 x.2.2.2.2.2.2.2.2.2 w) (cond (Nat.beq k 11) (dec [(1, .slice), (2, .bool), (7, .ptr), (9, .ptr), (10, .slice), (11, .slice), (12, .slice), (15, .addr), (16, (.int .i64)), (17, .slice), (21, .slice), (22, (.int .i64))] fr fun x => trystlaw24_MixRounds.l11 R N2 x.1 x.2.1 x.2.2.1 x.2.2.2.1 x.2.2.2.2.1 x.2.2.2.2.2.1 x.2.2.2.2.2.2.1 x.2.2.2.2.2.2.2.1 x.2.2.2.2.2.2.2.2.1 x.2.2.2.2.2.2.2.2.2.1 x.2.2.2.2.2.2.2.2.2.2.1 x.2.2.2.2.2.2.2.2.2.2.2 w) (cond (Nat.beq k 10) (dec [(1, .slice), (2, .bool), (7, .ptr), (9, .ptr), (10, .slice), (11, .slice), (12, .slice), (15, .addr), (16, (.int .i64)), (17, .slice), (21, .slice)] fr fun x => trystlaw24_MixRounds.c10 R N2 x.1 x.2.1 x.2.2.1 x.2.2.2.1 x.2.2.2.2.1 x.2.2.2.2.2.1 x.2.2.2.2.2.2.1 x.2.2.2.2.2.2.2.1 x.2.2.2.2.2.2.2.2.1 x.2.2.2.2.2.2.2.2.2.1 x.2.2.2.2.2.2.2.2.2.2 w) (cond (Nat.beq k 9) (dec [(1, .slice), (2, .bool), (7, .ptr), (9, .ptr), (10, .slice), (11, .slice), (12, .slice), (15, .addr), (16, (.int .i64)), (17, .slice), (21, .slice), (24, .addr), (25, .slice), (26, .addr), (27, .slice), (29, .addr), (30, .slice), (31, (.int .i64))] fr fun x => trystlaw24_MixRounds.c9 R N2 x.1 x.2.1 x.2.2.1 x.2.2.2.1 x.2.2.2.2.1 x.2.2.2.2.2.1 x.2.2.2.2.2.2.1 x.2.2.2.2.2.2.2.1 x.2.2.2.2.2.2.2.2.1 x.2.2.2.2.2.2.2.2.2.1 x.2.2.2.2.2.2.2.2.2.2.1 x.2.2.2.2.2.2.2.2.2.2.2.1 x.2.2.2.2.2.2.2.2.2.2.2.2.1 x.2.2.2.2.2.2.2.2.2.2.2.2.2.1 x.2.2.2.2.2.2.2.2.2.2.2.2.2.2.1 x.2.2.2.2.2.2.2.2.2.2.2.2.2.2.2.1 x.2.2.2.2.2.2.2.2.2.2.2.2.2.2.2.2.1 x.2.2.2.2.2.2.2.2.2.2.2.2.2.2.2.2.2 w) (cond (Nat.beq k 8) (dec [(1, .slice), (2, .bool), (7, .ptr), (9, .ptr), (10, .slice), (11, .slice), (12, .slice), (15, .addr), (16, (.int .i64)), (17, .slice), (21, .slice), (29, .addr), (30, .slice), (31, (.int .i64))] fr fun x => trystlaw24_MixRounds.c8 R N2 x.1 x.2.1 x.2.2.1 x.2.2.2.1 x.2.2.2.2.1 x.2.2.2.2.2.1 x.2.2.2.2.2.2.1 x.2.2.2.2.2.2.2.1 x.2.2.2.2.2.2.2.2.1 x.2.2.2.2.2.2.2.2.2.1 x.2.2.2.2.2.2.2.2.2.2.1 x.2.2.2.2.2.2.2.2.2.2.2.1 x.2.2.2.2.2.2.2.2.2.2.2.2.1 x.2.2.2.2.2.2.2.2.2.2.2.2.2 w) (cond (Nat.beq k 7) (dec [(1, .slice), (2, .bool), (7, .ptr), (9, .ptr), (10, .slice), (11, .slice), (12, .slice), (15, .addr), (16, (.int .i64)), (17, .slice), (21, .slice), (29, .addr), (30, .slice), (31, (.int .i64)), (32, (.int .i64))] fr fun x => trystlaw24_MixRounds.c7 R N2 x.1 x.2.1 x.2.2.1 x.2.2.2.1 x.2.2.2.2.1 x.2.2.2.2.2.1 x.2.2.2.2.2.2.1 x.2.2.2.2.2.2.2.1 x.2.2.2.2.2.2.2.2.1 x.2.2.2.2.2.2.2.2.2.1 x.2.2.2.2.2.2.2.2.2.2.1 x.2.2.2.2.2.2.2.2.2.2.2.1 x.2.2.2.2.2.2.2.2.2.2.2.2.1 x.2.2.2.2.2.2.2.2.2.2.2.2.2.1 x.2.2.2.2.2.2.2.2.2.2.2.2.2.2 w) (cond (Nat.beq k 5) (dec [(1, .slice), (2, .bool), (7, .ptr), (9, .ptr), (10, .slice), (11, .slice), (12, .slice), (15, .addr), (16, (.int .i64)), (17, .slice), (21, .slice), (29, .addr), (30, .slice), (31, (.int .i64)), (32, (.int .i64)), (33, (.int .i64))] fr fun x => trystlaw24_MixRounds.l5 R N2 x.1 x.2.1 x.2.2.1 x.2.2.2.1 x.2.2.2.2.1 x.2.2.2.2.2.1 x.2.2.2.2.2.2.1 x.2.2.2.2.2.2.2.1 x.2.2.2.2.2.2.2.2.1 x.2.2.2.2.2.2.2.2.2.1 x.2.2.2.2.2.2.2.2.2.2.1 x.2.2.2.2.2.2.2.2.2.2.2.1 x.2.2.2.2.2.2.2.2.2.2.2.2.1 x.2.2.2.2.2.2.2.2.2.2.2.2.2.1 x.2.2.2.2.2.2.2.2.2.2.2.2.2.2.1 x.2.2.2.2.2.2.2.2.2.2.2.2.2.2.2 w) (cond (Nat.beq k 4) (dec [(1, .slice), (2, .bool), (7, .ptr), (9, .ptr), (10, .slice), (11, .slice), (12, .slice), (15, .addr), (16, (.int .i64)), (17, .slice), (21, .slice), (29, .addr), (30, .slice), (31, (.int .i64)), (32, (.int .i64))] fr fun x => trystlaw24_MixRounds.c4 R N2 x.1 x.2.1 x.2.2.1 x.2.2.2.1 x.2.2.2.2.1 x.2.2.2.2.2.1 x.2.2.2.2.2.2.1 x.2.2.2.2.2.2.2.1 x.2.2.2.2.2.2.2.2.1 x.2.2.2.2.2.2.2.2.2.1 x.2.2.2.2.2.2.2.2.2.2.1 x.2.2.2.2.2.2.2.2.2.2.2.1 x.2.2.2.2.2.2.2.2.2.2.2.2.1 x.2.2.2.2.2.2.2.2.2.2.2.2.2.1 x.2.2.2.2.2.2.2.2.2.2.2.2.2.2 w) (cond (Nat.beq k 3) (dec [(1, .slice), (2, .bool), (7, .ptr), (9, .ptr), (10, .slice), (11, .slice), (12, .slice), (15, .addr), (16, (.int .i64)), (34, .addr)] fr fun x => trystlaw24_MixRounds.c3 R N2 x.1 x.2.1 x.2.2.1 x.2.2.2.1 x.2.2.2.2.1 x.2.2.2.2.2.1 x.2.2.2.2.2.2.1 x.2.2.2.2.2.2.2.1 x.2.2.2.2.2.2.2.2.1 x.2.2.2.2.2.2.2.2.2 w) (False)))))))))))))

def trystlaw24_MixRounds.J5 (R : Value → World → Prop) (N2 : Sl → Bool → Option Addr → Option Addr → Sl → Sl → Addr → Sl → Int → World → Prop) (N5 : Sl → Bool → Option Addr → Option Addr → Sl → Sl → Sl → Addr → Int → Sl → Sl → Addr → Sl → Int → Int → Int → World → Prop) (k : Nat) (fr : Fr) (w : World) : Prop :=
  cond (Nat.beq k 6) (dec [(1, .slice), (2, .bool), (7, .ptr), (9, .ptr), (10, .slice), (11, .slice), (12, .slice), (15, .addr), (16, (.int .i64)), (17, .slice), (21, .slice), (29, .addr), (30, .slice), (31, (.int .i64)), (32, (.int .i64)), (33, (.int .i64))] fr fun x => trystlaw24_MixRounds.c6 R N2 N5 x.1 x.2.1 x.2.2.1 x.2.2.2.1 x.2.2.2.2.1 x.2.2.2.2.2.1 x.2.2.2.2.2.2.1 x.2.2.2.2.2.2.2.1 x.2.2.2.2.2.2.2.2.1 x.2.2.2.2.2.2.2.2.2.1 x.2.2.2.2.2.2.2.2.2.2.1 x.2.2.2.2.2.2.2.2.2.2.2.1 x.2.2.2.2.2.2.2.2.2.2.2.2.1 x.2.2.2.2.2.2.2.2.2.2.2.2.2.1 x.2.2.2.2.2.2.2.2.2.2.2.2.2.2.1 x.2.2.2.2.2.2.2.2.2.2.2.2.2.2.2 w) (False)

def trystlaw24_MixRounds.J11 (R : Value → World → Prop) (N2 : Sl → Bool → Option Addr → Option Addr → Sl → Sl → Addr → Sl → Int → World → Prop) (N11 : Sl → Bool → Option Addr → Option Addr → Sl → Sl → Sl → Addr → Int → Sl → Sl → Int → World → Prop) (k : Nat) (fr : Fr) (w : World) : Prop :=
  cond (Nat.beq k 14) (dec [(1, .slice), (2, .bool), (7, .ptr), (9, .ptr), (10, .slice), (11, .slice), (12, .slice), (15, .addr), (16, (.int .i64)), (17, .slice), (21, .slice), (22, (.int .i64))] fr fun x => trystlaw24_MixRounds.c14 R N2 N11 x.1 x.2.1 x.2.2.1 x.2.2.2.1 x.2.2.2.2.1 x.2.2.2.2.2.1 x.2.2.2.2.2.2.1 x.2.2.2.2.2.2.2.1 x.2.2.2.2.2.2.2.2.1 x.2.2.2.2.2.2.2.2.2.1 x.2.2.2.2.2.2.2.2.2.2.1 x.2.2.2.2.2.2.2.2.2.2.2 w) (cond (Nat.beq k 13) (dec [(1, .slice), (2, .bool), (7, .ptr), (9, .ptr), (10, .slice), (11, .slice), (12, .slice), (15, .addr), (16, (.int .i64)), (17, .slice), (21, .slice), (22, (.int .i64)), (23, .slice)] fr fun x => trystlaw24_MixRounds.c13 R N2 N11 x.1 x.2.1 x.2.2.1 x.2.2.2.1 x.2.2.2.2.1 x.2.2.2.2.2.1 x.2.2.2.2.2.2.1 x.2.2.2.2.2.2.2.1 x.2.2.2.2.2.2.2.2.1 x.2.2.2.2.2.2.2.2.2.1 x.2.2.2.2.2.2.2.2.2.2.1 x.2.2.2.2.2.2.2.2.2.2.2.1 x.2.2.2.2.2.2.2.2.2.2.2.2 w) (cond (Nat.beq k 12) (dec [(1, .slice), (2, .bool), (7, .ptr), (9, .ptr), (10, .slice), (11, .slice), (12, .slice), (15, .addr), (16, (.int .i64)), (17, .slice), (21, .slice), (22, (.int .i64)), (23, .slice)] fr fun x => trystlaw24_MixRounds.c12 R N2 N11 x.1 x.2.1 x.2.2.1 x.2.2.2.1 x.2.2.2.2.1 x.2.2.2.2.2.1 x.2.2.2.2.2.2.1 x.2.2.2.2.2.2.2.1 x.2.2.2.2.2.2.2.2.1 x.2.2.2.2.2.2.2.2.2.1 x.2.2.2.2.2.2.2.2.2.2.1 x.2.2.2.2.2.2.2.2.2.2.2.1 x.2.2.2.2.2.2.2.2.2.2.2.2 w) (False)))

def trystlaw24_MixRounds.J16 (R : Value → World → Prop) (N2 : Sl → Bool → Option Addr → Option Addr → Sl → Sl → Addr → Sl → Int → World → Prop) (N16 : Sl → Bool → Option Addr → Option Addr → Sl → Sl → Sl → Addr → Int → Sl → Int → World → Prop) (k : Nat) (fr : Fr) (w : World) : Prop :=
  cond (Nat.beq k 17) (dec [(1, .slice), (2, .bool), (7, .ptr), (9, .ptr), (10, .slice), (11, .slice), (12, .slice), (15, .addr), (16, (.int .i64)), (17, .slice), (20, (.int .i64))] fr fun x => trystlaw24_MixRounds.c17 R N2 N16 x.1 x.2.1 x.2.2.1 x.2.2.2.1 x.2.2.2.2.1 x.2.2.2.2.2.1 x.2.2.2.2.2.2.1 x.2.2.2.2.2.2.2.1 x.2.2.2.2.2.2.2.2.1 x.2.2.2.2.2.2.2.2.2.1 x.2.2.2.2.2.2.2.2.2.2 w) (False)

def trystlaw24_MixRounds.J19 (R : Value → World → Prop) (N2 : Sl → Bool → Option Addr → Option Addr → Sl → Sl → Addr → Sl → Int → World → Prop) (N19 : Sl → Bool → Option Addr → Option Addr → Sl → Sl → Addr → Int → Sl → Sl → Int → World → Prop) (k : Nat) (fr : Fr) (w : World) : Prop :=
  cond (Nat.beq k 20) (dec [(1, .slice), (2, .bool), (7, .ptr), (9, .ptr), (10, .slice), (11, .slice), (12, .slice), (15, .addr), (16, (.int .i64)), (17, .slice), (18, (.int .i64)), (19, (.int .i64))] fr fun x => trystlaw24_MixRounds.c20 R N2 N19 x.1 x.2.1 x.2.2.1 x.2.2.2.1 x.2.2.2.2.1 x.2.2.2.2.2.1 x.2.2.2.2.2.2.1 x.2.2.2.2.2.2.2.1 x.2.2.2.2.2.2.2.2.1 x.2.2.2.2.2.2.2.2.2.1 x.2.2.2.2.2.2.2.2.2.2.1 x.2.2.2.2.2.2.2.2.2.2.2 w) (False)

def trystlaw24_MixRounds.J0 (R : Value → World → Prop) (k : Nat) (fr : Fr) (w : World) : Prop :=
  cond (Nat.beq k 24) (dec [(0, .slice), (1, .slice), (2, .bool)] fr fun x => trystlaw24_MixRounds.c24 R x.1 x.2.1 x.2.2 w) (cond (Nat.beq k 23) (dec [(1, .slice), (2, .bool), (7, .ptr), (9, .ptr), (12, .slice), (10, .slice), (11, .slice), (13, (.int .i64))] fr fun x => trystlaw24_MixRounds.l23 R x.1 x.2.1 x.2.2.1 x.2.2.2.1 x.2.2.2.2.1 x.2.2.2.2.2.1 x.2.2.2.2.2.2.1 x.2.2.2.2.2.2.2 w) (cond (Nat.beq k 22) (dec [(1, .slice), (2, .bool), (7, .ptr), (9, .ptr), (10, .slice), (11, .slice), (12, .slice)] fr fun x => trystlaw24_MixRounds.c22 R x.1 x.2.1 x.2.2.1 x.2.2.2.1 x.2.2.2.2.1 x.2.2.2.2.2.1 x.2.2.2.2.2.2 w) (cond (Nat.beq k 2) (dec [(1, .slice), (2, .bool), (7, .ptr), (9, .ptr), (10, .slice), (11, .slice), (15, .addr), (12, .slice), (16, (.int .i64))] fr fun x => trystlaw24_MixRounds.l2 R x.1 x.2.1 x.2.2.1 x.2.2.2.1 x.2.2.2.2.1 x.2.2.2.2.2.1 x.2.2.2.2.2.2.1 x.2.2.2.2.2.2.2.1 x.2.2.2.2.2.2.2.2 w) (cond (Nat.beq k 1) (dec [] fr fun x => trystlaw24_MixRounds.c1 R w) (False)))))

set_option maxRecDepth 100000 in
theorem trystlaw24_MixRounds.lift {R : Value → World → Prop} {l0 : Sl} {rounds1 : Sl} {raw2 : Bool} {w : World} (h : trystlaw24_MixRounds.main R l0 rounds1 raw2 w) : CallsV Tryd.prog n_trystlaw24_MixRounds #[.slice l0.a l0.len l0.cap, .slice rounds1.a rounds1.len rounds1.cap, .bool raw2] w R :=
  liftCalls (c := (.seq (.leaf (cL (bd Tryd.f19))) (.seq (.seq (.leaf (cL (cL (cR (bd Tryd.f19))))) (.cnd (.tmp 42) (.seq (.leaf (cL (cT (cR (cL (cR (bd Tryd.f19))))))) (.leaf (cR (cT (cR (cL (cR (bd Tryd.f19)))))))) (.leaf (cE (cR (cL (cR (bd Tryd.f19)))))))) (.cut 24 (.seq (.leaf (cL (cR (cR (bd Tryd.f19))))) (.seq (.seq (.leaf (cL (cL (cR (cR (cR (bd Tryd.f19))))))) (.cnd (.tmp 49) (.seq (.leaf (cL (cT (cR (cL (cR (cR (cR (bd Tryd.f19))))))))) (.leaf (cR (cT (cR (cL (cR (cR (cR (bd Tryd.f19)))))))))) (.leaf (cE (cR (cL (cR (cR (cR (bd Tryd.f19)))))))))) (.seq (.leaf (cL (cR (cR (cR (cR (bd Tryd.f19))))))) (.seq (.leaf (cL (cR (cR (cR (cR (cR (bd Tryd.f19)))))))) (.seq (.seq (.leaf (cL (cL (cR (cR (cR (cR (cR (cR (bd Tryd.f19)))))))))) (.block 0 (.loop 23 (.seq (.seq (.leaf (cL (cL (cB (cB (cR (cL (cR (cR (cR (cR (cR (cR (bd Tryd.f19)))))))))))))) (.cnd (.tmp 55) (.leaf (cT (cR (cL (cB (cB (cR (cL (cR (cR (cR (cR (cR (cR (bd Tryd.f19))))))))))))))) (.leaf (cE (cR (cL (cB (cB (cR (cL (cR (cR (cR (cR (cR (cR (bd Tryd.f19))))))))))))))))) (.seq (.block 1 (.seq (.leaf (cL (cB (cL (cR (cB (cB (cR (cL (cR (cR (cR (cR (cR (cR (bd Tryd.f19)))))))))))))))) (.leaf (cR (cB (cL (cR (cB (cB (cR (cL (cR (cR (cR (cR (cR (cR (bd Tryd.f19)))))))))))))))))) (.leaf (cR (cR (cB (cB (cR (cL (cR (cR (cR (cR (cR (cR (bd Tryd.f19))))))))))))))))))) (.cut 22 (.seq (.leaf (cL (cR (cR (cR (cR (cR (cR (cR (bd Tryd.f19)))))))))) (.seq (.seq (.leaf (cL (cL (cR (cR (cR (cR (cR (cR (cR (cR (bd Tryd.f19)))))))))))) (.block 2 (.loop 2 (.seq (.seq (.leaf (cL (cL (cB (cB (cR (cL (cR (cR (cR (cR (cR (cR (cR (cR (bd Tryd.f19)))))))))))))))) (.cnd (.tmp 75) (.leaf (cT (cR (cL (cB (cB (cR (cL (cR (cR (cR (cR (cR (cR (cR (cR (bd Tryd.f19))))))))))))))))) (.leaf (cE (cR (cL (cB (cB (cR (cL (cR (cR (cR (cR (cR (cR (cR (cR (bd Tryd.f19))))))))))))))))))) (.seq (.block 3 (.seq (.seq (.leaf (cL (cL (cB (cL (cR (cB (cB (cR (cL (cR (cR (cR (cR (cR (cR (cR (cR (bd Tryd.f19))))))))))))))))))) (.cnd (.tmp 102) (.seq (.leaf (cL (cT (cR (cL (cB (cL (cR (cB (cB (cR (cL (cR (cR (cR (cR (cR (cR (cR (cR (bd Tryd.f19))))))))))))))))))))) (.leaf (cR (cT (cR (cL (cB (cL (cR (cB (cB (cR (cL (cR (cR (cR (cR (cR (cR (cR (cR (bd Tryd.f19)))))))))))))))))))))) (.leaf (cE (cR (cL (cB (cL (cR (cB (cB (cR (cL (cR (cR (cR (cR (cR (cR (cR (cR (bd Tryd.f19)))))))))))))))))))))) (.cut 21 (.seq (.leaf (cL (cR (cB (cL (cR (cB (cB (cR (cL (cR (cR (cR (cR (cR (cR (cR (cR (bd Tryd.f19))))))))))))))))))) (.seq (.seq (.leaf (cL (cL (cR (cR (cB (cL (cR (cB (cB (cR (cL (cR (cR (cR (cR (cR (cR (cR (cR (bd Tryd.f19))))))))))))))))))))) (.block 4 (.loop 19 (.seq (.seq (.leaf (cL (cL (cB (cB (cR (cL (cR (cR (cB (cL (cR (cB (cB (cR (cL (cR (cR (cR (cR (cR (cR (cR (cR (bd Tryd.f19))))))))))))))))))))))))) (.cnd (.tmp 110) (.leaf (cT (cR (cL (cB (cB (cR (cL (cR (cR (cB (cL (cR (cB (cB (cR (cL (cR (cR (cR (cR (cR (cR (cR (cR (bd Tryd.f19)))))))))))))))))))))))))) (.leaf (cE (cR (cL (cB (cB (cR (cL (cR (cR (cB (cL (cR (cB (cB (cR (cL (cR (cR (cR (cR (cR (cR (cR (cR (bd Tryd.f19)))))))))))))))))))))))))))) (.seq (.block 5 (.seq (.leaf (cL (cB (cL (cR (cB (cB (cR (cL (cR (cR (cB (cL (cR (cB (cB (cR (cL (cR (cR (cR (cR (cR (cR (cR (cR (bd Tryd.f19))))))))))))))))))))))))))) (.seq (.seq (.leaf (cL (cL (cR (cB (cL (cR (cB (cB (cR (cL (cR (cR (cB (cL (cR (cB (cB (cR (cL (cR (cR (cR (cR (cR (cR (cR (cR (bd Tryd.f19))))))))))))))))))))))))))))) (.cnd (.tmp 127) (.leaf (cT (cR (cL (cR (cB (cL (cR (cB (cB (cR (cL (cR (cR (cB (cL (cR (cB (cB (cR (cL (cR (cR (cR (cR (cR (cR (cR (cR (bd Tryd.f19)))))))))))))))))))))))))))))) (.leaf (cE (cR (cL (cR (cB (cL (cR (cB (cB (cR (cL (cR (cR (cB (cL (cR (cB (cB (cR (cL (cR (cR (cR (cR (cR (cR (cR (cR (bd Tryd.f19)))))))))))))))))))))))))))))))) (.seq (.seq (.leaf (cL (cL (cR (cR (cB (cL (cR (cB (cB (cR (cL (cR (cR (cB (cL (cR (cB (cB (cR (cL (cR (cR (cR (cR (cR (cR (cR (cR (bd Tryd.f19)))))))))))))))))))))))))))))) (.cnd (.tmp 137) (.seq (.leaf (cL (cT (cR (cL (cR (cR (cB (cL (cR (cB (cB (cR (cL (cR (cR (cB (cL (cR (cB (cB (cR (cL (cR (cR (cR (cR (cR (cR (cR (cR (bd Tryd.f19)))))))))))))))))))))))))))))))) (.leaf (cR (cT (cR (cL (cR (cR (cB (cL (cR (cB (cB (cR (cL (cR (cR (cB (cL (cR (cB (cB (cR (cL (cR (cR (cR (cR (cR (cR (cR (cR (bd Tryd.f19))))))))))))))))))))))))))))))))) (.leaf (cE (cR (cL (cR (cR (cB (cL (cR (cB (cB (cR (cL (cR (cR (cB (cL (cR (cB (cB (cR (cL (cR (cR (cR (cR (cR (cR (cR (cR (bd Tryd.f19))))))))))))))))))))))))))))))))) (.cut 20 (.leaf (cR (cR (cR (cB (cL (cR (cB (cB (cR (cL (cR (cR (cB (cL (cR (cB (cB (cR (cL (cR (cR (cR (cR (cR (cR (cR (cR (bd Tryd.f19)))))))))))))))))))))))))))))))))) (.leaf (cR (cR (cB (cB (cR (cL (cR (cR (cB (cL (cR (cB (cB (cR (cL (cR (cR (cR (cR (cR (cR (cR (cR (bd Tryd.f19)))))))))))))))))))))))))))))) (.cut 18 (.seq (.seq (.leaf (cL (cL (cR (cR (cR (cB (cL (cR (cB (cB (cR (cL (cR (cR (cR (cR (cR (cR (cR (cR (bd Tryd.f19)))))))))))))))))))))) (.block 6 (.loop 16 (.seq (.seq (.leaf (cL (cL (cB (cB (cR (cL (cR (cR (cR (cB (cL (cR (cB (cB (cR (cL (cR (cR (cR (cR (cR (cR (cR (cR (bd Tryd.f19)))))))))))))))))))))))))) (.cnd (.tmp 172) (.leaf (cT (cR (cL (cB (cB (cR (cL (cR (cR (cR (cB (cL (cR (cB (cB (cR (cL (cR (cR (cR (cR (cR (cR (cR (cR (bd Tryd.f19))))))))))))))))))))))))))) (.leaf (cE (cR (cL (cB (cB (cR (cL (cR (cR (cR (cB (cL (cR (cB (cB (cR (cL (cR (cR (cR (cR (cR (cR (cR (cR (bd Tryd.f19))))))))))))))))))))))))))))) (.cut 17 (.seq (.block 7 (.leaf (cB (cL (cR (cB (cB (cR (cL (cR (cR (cR (cB (cL (cR (cB (cB (cR (cL (cR (cR (cR (cR (cR (cR (cR (cR (bd Tryd.f19)))))))))))))))))))))))))))) (.leaf (cR (cR (cB (cB (cR (cL (cR (cR (cR (cB (cL (cR (cB (cB (cR (cL (cR (cR (cR (cR (cR (cR (cR (cR (bd Tryd.f19)))))))))))))))))))))))))))))))) (.cut 15 (.seq (.leaf (cL (cR (cR (cR (cR (cB (cL (cR (cB (cB (cR (cL (cR (cR (cR (cR (cR (cR (cR (cR (bd Tryd.f19)))))))))))))))))))))) (.seq (.seq (.leaf (cL (cL (cR (cR (cR (cR (cR (cB (cL (cR (cB (cB (cR (cL (cR (cR (cR (cR (cR (cR (cR (cR (bd Tryd.f19)))))))))))))))))))))))) (.block 8 (.loop 11 (.seq (.seq (.leaf (cL (cL (cB (cB (cR (cL (cR (cR (cR (cR (cR (cB (cL (cR (cB (cB (cR (cL (cR (cR (cR (cR (cR (cR (cR (cR (bd Tryd.f19)))))))))))))))))))))))))))) (.cnd (.tmp 210) (.leaf (cT (cR (cL (cB (cB (cR (cL (cR (cR (cR (cR (cR (cB (cL (cR (cB (cB (cR (cL (cR (cR (cR (cR (cR (cR (cR (cR (bd Tryd.f19))))))))))))))))))))))))))))) (.leaf (cE (cR (cL (cB (cB (cR (cL (cR (cR (cR (cR (cR (cB (cL (cR (cB (cB (cR (cL (cR (cR (cR (cR (cR (cR (cR (cR (bd Tryd.f19))))))))))))))))))))))))))))))) (.cut 14 (.seq (.block 9 (.seq (.leaf (cL (cB (cL (cR (cB (cB (cR (cL (cR (cR (cR (cR (cR (cB (cL (cR (cB (cB (cR (cL (cR (cR (cR (cR (cR (cR (cR (cR (bd Tryd.f19)))))))))))))))))))))))))))))) (.seq (.seq (.leaf (cL (cL (cR (cB (cL (cR (cB (cB (cR (cL (cR (cR (cR (cR (cR (cB (cL (cR (cB (cB (cR (cL (cR (cR (cR (cR (cR (cR (cR (cR (bd Tryd.f19)))))))))))))))))))))))))))))))) (.cnd (.tmp 220) (.leaf (cT (cR (cL (cR (cB (cL (cR (cB (cB (cR (cL (cR (cR (cR (cR (cR (cB (cL (cR (cB (cB (cR (cL (cR (cR (cR (cR (cR (cR (cR (cR (bd Tryd.f19))))))))))))))))))))))))))))))))) (.leaf (cE (cR (cL (cR (cB (cL (cR (cB (cB (cR (cL (cR (cR (cR (cR (cR (cB (cL (cR (cB (cB (cR (cL (cR (cR (cR (cR (cR (cR (cR (cR (bd Tryd.f19))))))))))))))))))))))))))))))))))) (.cut 13 (.seq (.seq (.leaf (cL (cL (cR (cR (cB (cL (cR (cB (cB (cR (cL (cR (cR (cR (cR (cR (cB (cL (cR (cB (cB (cR (cL (cR (cR (cR (cR (cR (cR (cR (cR (bd Tryd.f19))))))))))))))))))))))))))))))))) (.cnd (.tmp 231) (.seq (.leaf (cL (cT (cR (cL (cR (cR (cB (cL (cR (cB (cB (cR (cL (cR (cR (cR (cR (cR (cB (cL (cR (cB (cB (cR (cL (cR (cR (cR (cR (cR (cR (cR (cR (bd Tryd.f19))))))))))))))))))))))))))))))))))) (.leaf (cR (cT (cR (cL (cR (cR (cB (cL (cR (cB (cB (cR (cL (cR (cR (cR (cR (cR (cB (cL (cR (cB (cB (cR (cL (cR (cR (cR (cR (cR (cR (cR (cR (bd Tryd.f19)))))))))))))))))))))))))))))))))))) (.leaf (cE (cR (cL (cR (cR (cB (cL (cR (cB (cB (cR (cL (cR (cR (cR (cR (cR (cB (cL (cR (cB (cB (cR (cL (cR (cR (cR (cR (cR (cR (cR (cR (bd Tryd.f19)))))))))))))))))))))))))))))))))))) (.seq (.leaf (cL (cR (cR (cR (cB (cL (cR (cB (cB (cR (cL (cR (cR (cR (cR (cR (cB (cL (cR (cB (cB (cR (cL (cR (cR (cR (cR (cR (cR (cR (cR (bd Tryd.f19))))))))))))))))))))))))))))))))) (.cnd (.tmp 236) (.cut 12 (.leaf (cT (cR (cR (cR (cR (cB (cL (cR (cB (cB (cR (cL (cR (cR (cR (cR (cR (cB (cL (cR (cB (cB (cR (cL (cR (cR (cR (cR (cR (cR (cR (cR (bd Tryd.f19))))))))))))))))))))))))))))))))))) (.leaf (cE (cR (cR (cR (cR (cB (cL (cR (cB (cB (cR (cL (cR (cR (cR (cR (cR (cB (cL (cR (cB (cB (cR (cL (cR (cR (cR (cR (cR (cR (cR (cR (bd Tryd.f19))))))))))))))))))))))))))))))))))))))))) (.leaf (cR (cR (cB (cB (cR (cL (cR (cR (cR (cR (cR (cB (cL (cR (cB (cB (cR (cL (cR (cR (cR (cR (cR (cR (cR (cR (bd Tryd.f19)))))))))))))))))))))))))))))))))) (.cut 10 (.seq (.leaf (cL (cR (cR (cR (cR (cR (cR (cB (cL (cR (cB (cB (cR (cL (cR (cR (cR (cR (cR (cR (cR (cR (bd Tryd.f19)))))))))))))))))))))))) (.seq (.leaf (cL (cR (cR (cR (cR (cR (cR (cR (cB (cL (cR (cB (cB (cR (cL (cR (cR (cR (cR (cR (cR (cR (cR (bd Tryd.f19))))))))))))))))))))))))) (.seq (.leaf (cL (cR (cR (cR (cR (cR (cR (cR (cR (cB (cL (cR (cB (cB (cR (cL (cR (cR (cR (cR (cR (cR (cR (cR (bd Tryd.f19)))))))))))))))))))))))))) (.cut 9 (.seq (.seq (.leaf (cL (cL (cR (cR (cR (cR (cR (cR (cR (cR (cR (cB (cL (cR (cB (cB (cR (cL (cR (cR (cR (cR (cR (cR (cR (cR (bd Tryd.f19)))))))))))))))))))))))))))) (.cnd (.tmp 281) (.seq (.leaf (cL (cT (cR (cL (cR (cR (cR (cR (cR (cR (cR (cR (cR (cB (cL (cR (cB (cB (cR (cL (cR (cR (cR (cR (cR (cR (cR (cR (bd Tryd.f19)))))))))))))))))))))))))))))) (.leaf (cR (cT (cR (cL (cR (cR (cR (cR (cR (cR (cR (cR (cR (cB (cL (cR (cB (cB (cR (cL (cR (cR (cR (cR (cR (cR (cR (cR (bd Tryd.f19))))))))))))))))))))))))))))))) (.leaf (cE (cR (cL (cR (cR (cR (cR (cR (cR (cR (cR (cR (cB (cL (cR (cB (cB (cR (cL (cR (cR (cR (cR (cR (cR (cR (cR (bd Tryd.f19))))))))))))))))))))))))))))))) (.cut 8 (.seq (.leaf (cL (cR (cR (cR (cR (cR (cR (cR (cR (cR (cR (cB (cL (cR (cB (cB (cR (cL (cR (cR (cR (cR (cR (cR (cR (cR (bd Tryd.f19)))))))))))))))))))))))))))) (.seq (.seq (.leaf (cL (cL (cR (cR (cR (cR (cR (cR (cR (cR (cR (cR (cR (cB (cL (cR (cB (cB (cR (cL (cR (cR (cR (cR (cR (cR (cR (cR (bd Tryd.f19)))))))))))))))))))))))))))))) (.cnd (.tmp 289) (.leaf (cT (cR (cL (cR (cR (cR (cR (cR (cR (cR (cR (cR (cR (cR (cB (cL (cR (cB (cB (cR (cL (cR (cR (cR (cR (cR (cR (cR (cR (bd Tryd.f19))))))))))))))))))))))))))))))) (.leaf (cE (cR (cL (cR (cR (cR (cR (cR (cR (cR (cR (cR (cR (cR (cB (cL (cR (cB (cB (cR (cL (cR (cR (cR (cR (cR (cR (cR (cR (bd Tryd.f19))))))))))))))))))))))))))))))))) (.cut 7 (.seq (.seq (.leaf (cL (cL (cR (cR (cR (cR (cR (cR (cR (cR (cR (cR (cR (cR (cB (cL (cR (cB (cB (cR (cL (cR (cR (cR (cR (cR (cR (cR (cR (bd Tryd.f19))))))))))))))))))))))))))))))) (.block 10 (.loop 5 (.seq (.seq (.leaf (cL (cL (cB (cB (cR (cL (cR (cR (cR (cR (cR (cR (cR (cR (cR (cR (cR (cR (cB (cL (cR (cB (cB (cR (cL (cR (cR (cR (cR (cR (cR (cR (cR (bd Tryd.f19))))))))))))))))))))))))))))))))))) (.cnd (.tmp 297) (.leaf (cT (cR (cL (cB (cB (cR (cL (cR (cR (cR (cR (cR (cR (cR (cR (cR (cR (cR (cR (cB (cL (cR (cB (cB (cR (cL (cR (cR (cR (cR (cR (cR (cR (cR (bd Tryd.f19)))))))))))))))))))))))))))))))))))) (.leaf (cE (cR (cL (cB (cB (cR (cL (cR (cR (cR (cR (cR (cR (cR (cR (cR (cR (cR (cR (cB (cL (cR (cB (cB (cR (cL (cR (cR (cR (cR (cR (cR (cR (cR (bd Tryd.f19)))))))))))))))))))))))))))))))))))))) (.cut 6 (.seq (.block 11 (.seq (.leaf (cL (cB (cL (cR (cB (cB (cR (cL (cR (cR (cR (cR (cR (cR (cR (cR (cR (cR (cR (cR (cB (cL (cR (cB (cB (cR (cL (cR (cR (cR (cR (cR (cR (cR (cR (bd Tryd.f19))))))))))))))))))))))))))))))))))))) (.cnd (.tmp 307) (.leaf (cT (cR (cB (cL (cR (cB (cB (cR (cL (cR (cR (cR (cR (cR (cR (cR (cR (cR (cR (cR (cR (cB (cL (cR (cB (cB (cR (cL (cR (cR (cR (cR (cR (cR (cR (cR (bd Tryd.f19)))))))))))))))))))))))))))))))))))))) (.leaf (cE (cR (cB (cL (cR (cB (cB (cR (cL (cR (cR (cR (cR (cR (cR (cR (cR (cR (cR (cR (cR (cB (cL (cR (cB (cB (cR (cL (cR (cR (cR (cR (cR (cR (cR (cR (bd Tryd.f19))))))))))))))))))))))))))))))))))))))))) (.leaf (cR (cR (cB (cB (cR (cL (cR (cR (cR (cR (cR (cR (cR (cR (cR (cR (cR (cR (cB (cL (cR (cB (cB (cR (cL (cR (cR (cR (cR (cR (cR (cR (cR (bd Tryd.f19))))))))))))))))))))))))))))))))))))))))) (.cut 4 (.seq (.seq (.leaf (cL (cL (cR (cR (cR (cR (cR (cR (cR (cR (cR (cR (cR (cR (cR (cB (cL (cR (cB (cB (cR (cL (cR (cR (cR (cR (cR (cR (cR (cR (bd Tryd.f19)))))))))))))))))))))))))))))))) (.cnd (.tmp 309) (.seq (.seq (.leaf (cL (cL (cT (cR (cL (cR (cR (cR (cR (cR (cR (cR (cR (cR (cR (cR (cR (cR (cB (cL (cR (cB (cB (cR (cL (cR (cR (cR (cR (cR (cR (cR (cR (bd Tryd.f19))))))))))))))))))))))))))))))))))) (.cnd (.tmp 323) (.seq (.leaf (cL (cT (cR (cL (cT (cR (cL (cR (cR (cR (cR (cR (cR (cR (cR (cR (cR (cR (cR (cR (cB (cL (cR (cB (cB (cR (cL (cR (cR (cR (cR (cR (cR (cR (cR (bd Tryd.f19))))))))))))))))))))))))))))))))))))) (.leaf (cR (cT (cR (cL (cT (cR (cL (cR (cR (cR (cR (cR (cR (cR (cR (cR (cR (cR (cR (cR (cB (cL (cR (cB (cB (cR (cL (cR (cR (cR (cR (cR (cR (cR (cR (bd Tryd.f19)))))))))))))))))))))))))))))))))))))) (.leaf (cE (cR (cL (cT (cR (cL (cR (cR (cR (cR (cR (cR (cR (cR (cR (cR (cR (cR (cR (cB (cL (cR (cB (cB (cR (cL (cR (cR (cR (cR (cR (cR (cR (cR (bd Tryd.f19)))))))))))))))))))))))))))))))))))))) (.leaf (cR (cT (cR (cL (cR (cR (cR (cR (cR (cR (cR (cR (cR (cR (cR (cR (cR (cB (cL (cR (cB (cB (cR (cL (cR (cR (cR (cR (cR (cR (cR (cR (bd Tryd.f19))))))))))))))))))))))))))))))))))) (.leaf (cE (cR (cL (cR (cR (cR (cR (cR (cR (cR (cR (cR (cR (cR (cR (cR (cB (cL (cR (cB (cB (cR (cL (cR (cR (cR (cR (cR (cR (cR (cR (bd Tryd.f19))))))))))))))))))))))))))))))))))) (.seq (.leaf (cL (cR (cR (cR (cR (cR (cR (cR (cR (cR (cR (cR (cR (cR (cR (cB (cL (cR (cB (cB (cR (cL (cR (cR (cR (cR (cR (cR (cR (cR (bd Tryd.f19)))))))))))))))))))))))))))))))) (.seq (.seq (.leaf (cL (cL (cR (cR (cR (cR (cR (cR (cR (cR (cR (cR (cR (cR (cR (cR (cR (cB (cL (cR (cB (cB (cR (cL (cR (cR (cR (cR (cR (cR (cR (cR (bd Tryd.f19)))))))))))))))))))))))))))))))))) (.cnd (.tmp 350) (.seq (.leaf (cL (cT (cR (cL (cR (cR (cR (cR (cR (cR (cR (cR (cR (cR (cR (cR (cR (cR (cR (cB (cL (cR (cB (cB (cR (cL (cR (cR (cR (cR (cR (cR (cR (cR (bd Tryd.f19)))))))))))))))))))))))))))))))))))) (.leaf (cR (cT (cR (cL (cR (cR (cR (cR (cR (cR (cR (cR (cR (cR (cR (cR (cR (cR (cR (cB (cL (cR (cB (cB (cR (cL (cR (cR (cR (cR (cR (cR (cR (cR (bd Tryd.f19))))))))))))))))))))))))))))))))))))) (.leaf (cE (cR (cL (cR (cR (cR (cR (cR (cR (cR (cR (cR (cR (cR (cR (cR (cR (cR (cB (cL (cR (cB (cB (cR (cL (cR (cR (cR (cR (cR (cR (cR (cR (bd Tryd.f19))))))))))))))))))))))))))))))))))))) (.cut 3 (.leaf (cR (cR (cR (cR (cR (cR (cR (cR (cR (cR (cR (cR (cR (cR (cR (cR (cB (cL (cR (cB (cB (cR (cL (cR (cR (cR (cR (cR (cR (cR (cR (bd Tryd.f19))))))))))))))))))))))))))))))))))))))))))))))))))))))))))) (.leaf (cR (cR (cB (cB (cR (cL (cR (cR (cR (cR (cR (cR (cR (cR (bd Tryd.f19))))))))))))))))))))) (.cut 1 (.seq (.leaf (cL (cR (cR (cR (cR (cR (cR (cR (cR (cR (bd Tryd.f19)))))))))))) (.leaf (cR (cR (cR (cR (cR (cR (cR (cR (cR (cR (bd Tryd.f19)))))))))))))))))))))))))) (J := trystlaw24_MixRounds.J0 R) LfYtoclhecldmahiaaDoor.mixed Tryd.func19 (by kernel_rfl) (by kernel_rfl) (mkSeq (mkSeq (mkCut (cutDef [(0, .slice), (1, .slice), (2, .bool)] (fun x w => trystlaw24_MixRounds.c24 R x.1 x.2.1 x.2.2 w) (fun _ _ => by kernel_rfl) (fun _ _ => by kernel_rfl)) (mkSeq (mkSeq (mkSeq (mkSeq (mkSeq (mkCut (cutDef [(1, .slice), (2, .bool), (7, .ptr), (9, .ptr), (10, .slice), (11, .slice), (12, .slice)] (fun x w => trystlaw24_MixRounds.c22 R x.1 x.2.1 x.2.2.1 x.2.2.2.1 x.2.2.2.2.1 x.2.2.2.2.2.1 x.2.2.2.2.2.2 w) (fun _ _ => by kernel_rfl) (fun _ _ => by kernel_rfl)) (mkSeq (mkSeq (mkCut (cutDef [] (fun x w => trystlaw24_MixRounds.c1 R w) (fun _ _ => by kernel_rfl) (fun _ _ => by kernel_rfl)) (mkSeq mkLeaf mkLeaf)) (mkSeq (mkBlock (mkLoop (loopDef LfYtoclhecldmahiaaDoor.mixed [(1, .slice), (2, .bool), (7, .ptr), (9, .ptr), (10, .slice), (11, .slice), (15, .addr), (12, .slice), (16, (.int .i64))] (by kernel_rfl) (fun M2 x w => trystlaw24_MixRounds.b2 R (fun y0 y1 y2 y3 y4 y5 y6 y7 y8 w => M2 (y0, y1, y2, y3, y4, y5, y6, y7, y8) w) x.1 x.2.1 x.2.2.1 x.2.2.2.1 x.2.2.2.2.1 x.2.2.2.2.2.1 x.2.2.2.2.2.2.1 x.2.2.2.2.2.2.2.1 x.2.2.2.2.2.2.2.2 w) (fun M2 => trystlaw24_MixRounds.J2 R (fun y0 y1 y2 y3 y4 y5 y6 y7 y8 w => M2 (y0, y1, y2, y3, y4, y5, y6, y7, y8) w)) (fun _ _ _ => by kernel_rfl) (fun M2 => (mkSeq (mkSeq mkLeaf (mkBlock (mkSeq (mkCut (cutDef [(1, .slice), (2, .bool), (7, .ptr), (9, .ptr), (10, .slice), (11, .slice), (12, .slice), (15, .addr), (16, (.int .i64))] (fun x w => trystlaw24_MixRounds.c21 R (fun y0 y1 y2 y3 y4 y5 y6 y7 y8 w => M2 (y0, y1, y2, y3, y4, y5, y6, y7, y8) w) x.1 x.2.1 x.2.2.1 x.2.2.2.1 x.2.2.2.2.1 x.2.2.2.2.2.1 x.2.2.2.2.2.2.1 x.2.2.2.2.2.2.2.1 x.2.2.2.2.2.2.2.2 w) (fun _ _ => by kernel_rfl) (fun _ _ => by kernel_rfl)) (mkSeq (mkSeq (mkCut (cutDef [(1, .slice), (2, .bool), (7, .ptr), (9, .ptr), (10, .slice), (11, .slice), (12, .slice), (15, .addr), (16, (.int .i64)), (17, .slice)] (fun x w => trystlaw24_MixRounds.c18 R (fun y0 y1 y2 y3 y4 y5 y6 y7 y8 w => M2 (y0, y1, y2, y3, y4, y5, y6, y7, y8) w) x.1 x.2.1 x.2.2.1 x.2.2.2.1 x.2.2.2.2.1 x.2.2.2.2.2.1 x.2.2.2.2.2.2.1 x.2.2.2.2.2.2.2.1 x.2.2.2.2.2.2.2.2.1 x.2.2.2.2.2.2.2.2.2 w) (fun _ _ => by kernel_rfl) (fun _ _ => by kernel_rfl)) (mkSeq (mkCut (cutDef [(1, .slice), (2, .bool), (7, .ptr), (9, .ptr), (10, .slice), (11, .slice), (12, .slice), (15, .addr), (16, (.int .i64)), (17, .slice)] (fun x w => trystlaw24_MixRounds.c15 R (fun y0 y1 y2 y3 y4 y5 y6 y7 y8 w => M2 (y0, y1, y2, y3, y4, y5, y6, y7, y8) w) x.1 x.2.1 x.2.2.1 x.2.2.2.1 x.2.2.2.2.1 x.2.2.2.2.2.1 x.2.2.2.2.2.2.1 x.2.2.2.2.2.2.2.1 x.2.2.2.2.2.2.2.2.1 x.2.2.2.2.2.2.2.2.2 w) (fun _ _ => by kernel_rfl) (fun _ _ => by kernel_rfl)) (mkSeq (mkSeq (mkCut (cutDef [(1, .slice), (2, .bool), (7, .ptr), (9, .ptr), (10, .slice), (11, .slice), (12, .slice), (15, .addr), (16, (.int .i64)), (17, .slice), (21, .slice)] (fun x w => trystlaw24_MixRounds.c10 R (fun y0 y1 y2 y3 y4 y5 y6 y7 y8 w => M2 (y0, y1, y2, y3, y4, y5, y6, y7, y8) w) x.1 x.2.1 x.2.2.1 x.2.2.2.1 x.2.2.2.2.1 x.2.2.2.2.2.1 x.2.2.2.2.2.2.1 x.2.2.2.2.2.2.2.1 x.2.2.2.2.2.2.2.2.1 x.2.2.2.2.2.2.2.2.2.1 x.2.2.2.2.2.2.2.2.2.2 w) (fun _ _ => by kernel_rfl) (fun _ _ => by kernel_rfl)) (mkSeq (mkSeq (mkSeq (mkCut (cutDef [(1, .slice), (2, .bool), (7, .ptr), (9, .ptr), (10, .slice), (11, .slice), (12, .slice), (15, .addr), (16, (.int .i64)), (17, .slice), (21, .slice), (24, .addr), (25, .slice), (26, .addr), (27, .slice), (29, .addr), (30, .slice), (31, (.int .i64))] (fun x w => trystlaw24_MixRounds.c9 R (fun y0 y1 y2 y3 y4 y5 y6 y7 y8 w => M2 (y0, y1, y2, y3, y4, y5, y6, y7, y8) w) x.1 x.2.1 x.2.2.1 x.2.2.2.1 x.2.2.2.2.1 x.2.2.2.2.2.1 x.2.2.2.2.2.2.1 x.2.2.2.2.2.2.2.1 x.2.2.2.2.2.2.2.2.1 x.2.2.2.2.2.2.2.2.2.1 x.2.2.2.2.2.2.2.2.2.2.1 x.2.2.2.2.2.2.2.2.2.2.2.1 x.2.2.2.2.2.2.2.2.2.2.2.2.1 x.2.2.2.2.2.2.2.2.2.2.2.2.2.1 x.2.2.2.2.2.2.2.2.2.2.2.2.2.2.1 x.2.2.2.2.2.2.2.2.2.2.2.2.2.2.2.1 x.2.2.2.2.2.2.2.2.2.2.2.2.2.2.2.2.1 x.2.2.2.2.2.2.2.2.2.2.2.2.2.2.2.2.2 w) (fun _ _ => by kernel_rfl) (fun _ _ => by kernel_rfl)) (mkSeq (mkCut (cutDef [(1, .slice), (2, .bool), (7, .ptr), (9, .ptr), (10, .slice), (11, .slice), (12, .slice), (15, .addr), (16, (.int .i64)), (17, .slice), (21, .slice), (29, .addr), (30, .slice), (31, (.int .i64))] (fun x w => trystlaw24_MixRounds.c8 R (fun y0 y1 y2 y3 y4 y5 y6 y7 y8 w => M2 (y0, y1, y2, y3, y4, y5, y6, y7, y8) w) x.1 x.2.1 x.2.2.1 x.2.2.2.1 x.2.2.2.2.1 x.2.2.2.2.2.1 x.2.2.2.2.2.2.1 x.2.2.2.2.2.2.2.1 x.2.2.2.2.2.2.2.2.1 x.2.2.2.2.2.2.2.2.2.1 x.2.2.2.2.2.2.2.2.2.2.1 x.2.2.2.2.2.2.2.2.2.2.2.1 x.2.2.2.2.2.2.2.2.2.2.2.2.1 x.2.2.2.2.2.2.2.2.2.2.2.2.2 w) (fun _ _ => by kernel_rfl) (fun _ _ => by kernel_rfl)) (mkSeq (mkSeq (mkCut (cutDef [(1, .slice), (2, .bool), (7, .ptr), (9, .ptr), (10, .slice), (11, .slice), (12, .slice), (15, .addr), (16, (.int .i64)), (17, .slice), (21, .slice), (29, .addr), (30, .slice), (31, (.int .i64)), (32, (.int .i64))] (fun x w => trystlaw24_MixRounds.c7 R (fun y0 y1 y2 y3 y4 y5 y6 y7 y8 w => M2 (y0, y1, y2, y3, y4, y5, y6, y7, y8) w) x.1 x.2.1 x.2.2.1 x.2.2.2.1 x.2.2.2.2.1 x.2.2.2.2.2.1 x.2.2.2.2.2.2.1 x.2.2.2.2.2.2.2.1 x.2.2.2.2.2.2.2.2.1 x.2.2.2.2.2.2.2.2.2.1 x.2.2.2.2.2.2.2.2.2.2.1 x.2.2.2.2.2.2.2.2.2.2.2.1 x.2.2.2.2.2.2.2.2.2.2.2.2.1 x.2.2.2.2.2.2.2.2.2.2.2.2.2.1 x.2.2.2.2.2.2.2.2.2.2.2.2.2.2 w) (fun _ _ => by kernel_rfl) (fun _ _ => by kernel_rfl)) (mkSeq (mkCut (cutDef [(1, .slice), (2, .bool), (7, .ptr), (9, .ptr), (10, .slice), (11, .slice), (12, .slice), (15, .addr), (16, (.int .i64)), (17, .slice), (21, .slice), (29, .addr), (30, .slice), (31, (.int .i64)), (32, (.int .i64))] (fun x w => trystlaw24_MixRounds.c4 R (fun y0 y1 y2 y3 y4 y5 y6 y7 y8 w => M2 (y0, y1, y2, y3, y4, y5, y6, y7, y8) w) x.1 x.2.1 x.2.2.1 x.2.2.2.1 x.2.2.2.2.1 x.2.2.2.2.2.1 x.2.2.2.2.2.2.1 x.2.2.2.2.2.2.2.1 x.2.2.2.2.2.2.2.2.1 x.2.2.2.2.2.2.2.2.2.1 x.2.2.2.2.2.2.2.2.2.2.1 x.2.2.2.2.2.2.2.2.2.2.2.1 x.2.2.2.2.2.2.2.2.2.2.2.2.1 x.2.2.2.2.2.2.2.2.2.2.2.2.2.1 x.2.2.2.2.2.2.2.2.2.2.2.2.2.2 w) (fun _ _ => by kernel_rfl) (fun _ _ => by kernel_rfl)) (mkSeq (mkSeq (mkSeq (mkCut (cutDef [(1, .slice), (2, .bool), (7, .ptr), (9, .ptr), (10, .slice), (11, .slice), (12, .slice), (15, .addr), (16, (.int .i64)), (34, .addr)] (fun x w => trystlaw24_MixRounds.c3 R (fun y0 y1 y2 y3 y4 y5 y6 y7 y8 w => M2 (y0, y1, y2, y3, y4, y5, y6, y7, y8) w) x.1 x.2.1 x.2.2.1 x.2.2.2.1 x.2.2.2.2.1 x.2.2.2.2.2.1 x.2.2.2.2.2.2.1 x.2.2.2.2.2.2.2.1 x.2.2.2.2.2.2.2.2.1 x.2.2.2.2.2.2.2.2.2 w) (fun _ _ => by kernel_rfl) (fun _ _ => by kernel_rfl)) mkLeaf) (mkSeq (mkCnd (mkSeq mkLeaf mkLeaf) mkLeaf) mkLeaf)) mkLeaf) (mkSeq (mkCnd (mkSeq mkLeaf (mkSeq (mkCnd (mkSeq mkLeaf mkLeaf) mkLeaf) mkLeaf)) mkLeaf) mkLeaf))) (mkSeq (mkBlock (mkLoop (loopDef LfYtoclhecldmahiaaDoor.mixed [(1, .slice), (2, .bool), (7, .ptr), (9, .ptr), (10, .slice), (11, .slice), (12, .slice), (15, .addr), (16, (.int .i64)), (17, .slice), (21, .slice), (29, .addr), (30, .slice), (31, (.int .i64)), (32, (.int .i64)), (33, (.int .i64))] (by kernel_rfl) (fun M5 x w => trystlaw24_MixRounds.b5 R (fun y0 y1 y2 y3 y4 y5 y6 y7 y8 w => M2 (y0, y1, y2, y3, y4, y5, y6, y7, y8) w) (fun y0 y1 y2 y3 y4 y5 y6 y7 y8 y9 y10 y11 y12 y13 y14 y15 w => M5 (y0, y1, y2, y3, y4, y5, y6, y7, y8, y9, y10, y11, y12, y13, y14, y15) w) x.1 x.2.1 x.2.2.1 x.2.2.2.1 x.2.2.2.2.1 x.2.2.2.2.2.1 x.2.2.2.2.2.2.1 x.2.2.2.2.2.2.2.1 x.2.2.2.2.2.2.2.2.1 x.2.2.2.2.2.2.2.2.2.1 x.2.2.2.2.2.2.2.2.2.2.1 x.2.2.2.2.2.2.2.2.2.2.2.1 x.2.2.2.2.2.2.2.2.2.2.2.2.1 x.2.2.2.2.2.2.2.2.2.2.2.2.2.1 x.2.2.2.2.2.2.2.2.2.2.2.2.2.2.1 x.2.2.2.2.2.2.2.2.2.2.2.2.2.2.2 w) (fun M5 => trystlaw24_MixRounds.J5 R (fun y0 y1 y2 y3 y4 y5 y6 y7 y8 w => M2 (y0, y1, y2, y3, y4, y5, y6, y7, y8) w) (fun y0 y1 y2 y3 y4 y5 y6 y7 y8 y9 y10 y11 y12 y13 y14 y15 w => M5 (y0, y1, y2, y3, y4, y5, y6, y7, y8, y9, y10, y11, y12, y13, y14, y15) w)) (fun _ _ _ => by kernel_rfl) (fun M5 => (mkSeq (mkCut (cutDef [(1, .slice), (2, .bool), (7, .ptr), (9, .ptr), (10, .slice), (11, .slice), (12, .slice), (15, .addr), (16, (.int .i64)), (17, .slice), (21, .slice), (29, .addr), (30, .slice), (31, (.int .i64)), (32, (.int .i64)), (33, (.int .i64))] (fun x w => trystlaw24_MixRounds.c6 R (fun y0 y1 y2 y3 y4 y5 y6 y7 y8 w => M2 (y0, y1, y2, y3, y4, y5, y6, y7, y8) w) (fun y0 y1 y2 y3 y4 y5 y6 y7 y8 y9 y10 y11 y12 y13 y14 y15 w => M5 (y0, y1, y2, y3, y4, y5, y6, y7, y8, y9, y10, y11, y12, y13, y14, y15) w) x.1 x.2.1 x.2.2.1 x.2.2.2.1 x.2.2.2.2.1 x.2.2.2.2.2.1 x.2.2.2.2.2.2.1 x.2.2.2.2.2.2.2.1 x.2.2.2.2.2.2.2.2.1 x.2.2.2.2.2.2.2.2.2.1 x.2.2.2.2.2.2.2.2.2.2.1 x.2.2.2.2.2.2.2.2.2.2.2.1 x.2.2.2.2.2.2.2.2.2.2.2.2.1 x.2.2.2.2.2.2.2.2.2.2.2.2.2.1 x.2.2.2.2.2.2.2.2.2.2.2.2.2.2.1 x.2.2.2.2.2.2.2.2.2.2.2.2.2.2.2 w) (fun _ _ => by kernel_rfl) (fun _ _ => by kernel_rfl)) (mkSeq mkLeaf (mkBlock (mkSeq (mkCnd mkLeaf mkLeaf) mkLeaf)))) (mkSeq (mkCnd mkLeaf mkLeaf) mkLeaf))) (fun x w => trystlaw24_MixRounds.l5 R (fun y0 y1 y2 y3 y4 y5 y6 y7 y8 w => M2 (y0, y1, y2, y3, y4, y5, y6, y7, y8) w) x.1 x.2.1 x.2.2.1 x.2.2.2.1 x.2.2.2.2.1 x.2.2.2.2.2.1 x.2.2.2.2.2.2.1 x.2.2.2.2.2.2.2.1 x.2.2.2.2.2.2.2.2.1 x.2.2.2.2.2.2.2.2.2.1 x.2.2.2.2.2.2.2.2.2.2.1 x.2.2.2.2.2.2.2.2.2.2.2.1 x.2.2.2.2.2.2.2.2.2.2.2.2.1 x.2.2.2.2.2.2.2.2.2.2.2.2.2.1 x.2.2.2.2.2.2.2.2.2.2.2.2.2.2.1 x.2.2.2.2.2.2.2.2.2.2.2.2.2.2.2 w) (by rintro ⟨c0, c1, c2, c3, c4, c5, c6, c7, c8, c9, c10, c11, c12, c13, s0⟩ w ⟨I, μ, h0, h1⟩; refine ⟨fun y w => y.1 = c0 ∧ y.2.1 = c1 ∧ y.2.2.1 = c2 ∧ y.2.2.2.1 = c3 ∧ y.2.2.2.2.1 = c4 ∧ y.2.2.2.2.2.1 = c5 ∧ y.2.2.2.2.2.2.1 = c6 ∧ y.2.2.2.2.2.2.2.1 = c7 ∧ y.2.2.2.2.2.2.2.2.1 = c8 ∧ y.2.2.2.2.2.2.2.2.2.1 = c9 ∧ y.2.2.2.2.2.2.2.2.2.2.1 = c10 ∧ y.2.2.2.2.2.2.2.2.2.2.2.1 = c11 ∧ y.2.2.2.2.2.2.2.2.2.2.2.2.1 = c12 ∧ y.2.2.2.2.2.2.2.2.2.2.2.2.2.1 = c13 ∧ I y.2.2.2.2.2.2.2.2.2.2.2.2.2.2 w, fun y w => μ y.2.2.2.2.2.2.2.2.2.2.2.2.2.2 w, ⟨rfl, rfl, rfl, rfl, rfl, rfl, rfl, rfl, rfl, rfl, rfl, rfl, rfl, rfl, h0⟩, ?_⟩; rintro ⟨d0, d1, d2, d3, d4, d5, d6, d7, d8, d9, d10, d11, d12, d13, t0⟩ w ⟨e0, e1, e2, e3, e4, e5, e6, e7, e8, e9, e10, e11, e12, e13, hI⟩; dsimp only at e0 e1 e2 e3 e4 e5 e6 e7 e8 e9 e10 e11 e12 e13 hI; subst e0; subst e1; subst e2; subst e3; subst e4; subst e5; subst e6; subst e7; subst e8; subst e9; subst e10; subst e11; subst e12; subst e13; exact h1 _ _ hI) (fun _ _ => by kernel_rfl)))) mkLeaf))) (mkSeq (mkCnd mkLeaf mkLeaf) mkLeaf)) mkLeaf)) (mkSeq (mkCnd (mkSeq mkLeaf mkLeaf) mkLeaf) mkLeaf))) mkLeaf) mkLeaf) mkLeaf)) (mkSeq (mkBlock (mkLoop (loopDef LfYtoclhecldmahiaaDoor.mixed [(1, .slice), (2, .bool), (7, .ptr), (9, .ptr), (10, .slice), (11, .slice), (12, .slice), (15, .addr), (16, (.int .i64)), (17, .slice), (21, .slice), (22, (.int .i64))] (by kernel_rfl) (fun M11 x w => trystlaw24_MixRounds.b11 R (fun y0 y1 y2 y3 y4 y5 y6 y7 y8 w => M2 (y0, y1, y2, y3, y4, y5, y6, y7, y8) w) (fun y0 y1 y2 y3 y4 y5 y6 y7 y8 y9 y10 y11 w => M11 (y0, y1, y2, y3, y4, y5, y6, y7, y8, y9, y10, y11) w) x.1 x.2.1 x.2.2.1 x.2.2.2.1 x.2.2.2.2.1 x.2.2.2.2.2.1 x.2.2.2.2.2.2.1 x.2.2.2.2.2.2.2.1 x.2.2.2.2.2.2.2.2.1 x.2.2.2.2.2.2.2.2.2.1 x.2.2.2.2.2.2.2.2.2.2.1 x.2.2.2.2.2.2.2.2.2.2.2 w) (fun M11 => trystlaw24_MixRounds.J11 R (fun y0 y1 y2 y3 y4 y5 y6 y7 y8 w => M2 (y0, y1, y2, y3, y4, y5, y6, y7, y8) w) (fun y0 y1 y2 y3 y4 y5 y6 y7 y8 y9 y10 y11 w => M11 (y0, y1, y2, y3, y4, y5, y6, y7, y8, y9, y10, y11) w)) (fun _ _ _ => by kernel_rfl) (fun M11 => (mkSeq (mkCut (cutDef [(1, .slice), (2, .bool), (7, .ptr), (9, .ptr), (10, .slice), (11, .slice), (12, .slice), (15, .addr), (16, (.int .i64)), (17, .slice), (21, .slice), (22, (.int .i64))] (fun x w => trystlaw24_MixRounds.c14 R (fun y0 y1 y2 y3 y4 y5 y6 y7 y8 w => M2 (y0, y1, y2, y3, y4, y5, y6, y7, y8) w) (fun y0 y1 y2 y3 y4 y5 y6 y7 y8 y9 y10 y11 w => M11 (y0, y1, y2, y3, y4, y5, y6, y7, y8, y9, y10, y11) w) x.1 x.2.1 x.2.2.1 x.2.2.2.1 x.2.2.2.2.1 x.2.2.2.2.2.1 x.2.2.2.2.2.2.1 x.2.2.2.2.2.2.2.1 x.2.2.2.2.2.2.2.2.1 x.2.2.2.2.2.2.2.2.2.1 x.2.2.2.2.2.2.2.2.2.2.1 x.2.2.2.2.2.2.2.2.2.2.2 w) (fun _ _ => by kernel_rfl) (fun _ _ => by kernel_rfl)) (mkSeq mkLeaf (mkBlock (mkSeq (mkSeq (mkCut (cutDef [(1, .slice), (2, .bool), (7, .ptr), (9, .ptr), (10, .slice), (11, .slice), (12, .slice), (15, .addr), (16, (.int .i64)), (17, .slice), (21, .slice), (22, (.int .i64)), (23, .slice)] (fun x w => trystlaw24_MixRounds.c13 R (fun y0 y1 y2 y3 y4 y5 y6 y7 y8 w => M2 (y0, y1, y2, y3, y4, y5, y6, y7, y8) w) (fun y0 y1 y2 y3 y4 y5 y6 y7 y8 y9 y10 y11 w => M11 (y0, y1, y2, y3, y4, y5, y6, y7, y8, y9, y10, y11) w) x.1 x.2.1 x.2.2.1 x.2.2.2.1 x.2.2.2.2.1 x.2.2.2.2.2.1 x.2.2.2.2.2.2.1 x.2.2.2.2.2.2.2.1 x.2.2.2.2.2.2.2.2.1 x.2.2.2.2.2.2.2.2.2.1 x.2.2.2.2.2.2.2.2.2.2.1 x.2.2.2.2.2.2.2.2.2.2.2.1 x.2.2.2.2.2.2.2.2.2.2.2.2 w) (fun _ _ => by kernel_rfl) (fun _ _ => by kernel_rfl)) (mkSeq (mkSeq (mkCnd (mkCut (cutDef [(1, .slice), (2, .bool), (7, .ptr), (9, .ptr), (10, .slice), (11, .slice), (12, .slice), (15, .addr), (16, (.int .i64)), (17, .slice), (21, .slice), (22, (.int .i64)), (23, .slice)] (fun x w => trystlaw24_MixRounds.c12 R (fun y0 y1 y2 y3 y4 y5 y6 y7 y8 w => M2 (y0, y1, y2, y3, y4, y5, y6, y7, y8) w) (fun y0 y1 y2 y3 y4 y5 y6 y7 y8 y9 y10 y11 w => M11 (y0, y1, y2, y3, y4, y5, y6, y7, y8, y9, y10, y11) w) x.1 x.2.1 x.2.2.1 x.2.2.2.1 x.2.2.2.2.1 x.2.2.2.2.2.1 x.2.2.2.2.2.2.1 x.2.2.2.2.2.2.2.1 x.2.2.2.2.2.2.2.2.1 x.2.2.2.2.2.2.2.2.2.1 x.2.2.2.2.2.2.2.2.2.2.1 x.2.2.2.2.2.2.2.2.2.2.2.1 x.2.2.2.2.2.2.2.2.2.2.2.2 w) (fun _ _ => by kernel_rfl) (fun _ _ => by kernel_rfl)) mkLeaf) mkLeaf) mkLeaf) (mkSeq (mkCnd (mkSeq mkLeaf mkLeaf) mkLeaf) mkLeaf))) (mkSeq (mkCnd mkLeaf mkLeaf) mkLeaf)) mkLeaf)))) (mkSeq (mkCnd mkLeaf mkLeaf) mkLeaf))) (fun x w => trystlaw24_MixRounds.l11 R (fun y0 y1 y2 y3 y4 y5 y6 y7 y8 w => M2 (y0, y1, y2, y3, y4, y5, y6, y7, y8) w) x.1 x.2.1 x.2.2.1 x.2.2.2.1 x.2.2.2.2.1 x.2.2.2.2.2.1 x.2.2.2.2.2.2.1 x.2.2.2.2.2.2.2.1 x.2.2.2.2.2.2.2.2.1 x.2.2.2.2.2.2.2.2.2.1 x.2.2.2.2.2.2.2.2.2.2.1 x.2.2.2.2.2.2.2.2.2.2.2 w) (by rintro ⟨c0, c1, c2, c3, c4, c5, c6, c7, c8, c9, s0⟩ w ⟨I, μ, h0, h1⟩; refine ⟨fun y w => y.1 = c0 ∧ y.2.1 = c1 ∧ y.2.2.1 = c2 ∧ y.2.2.2.1 = c3 ∧ y.2.2.2.2.1 = c4 ∧ y.2.2.2.2.2.1 = c5 ∧ y.2.2.2.2.2.2.1 = c6 ∧ y.2.2.2.2.2.2.2.1 = c7 ∧ y.2.2.2.2.2.2.2.2.1 = c8 ∧ y.2.2.2.2.2.2.2.2.2.1 = c9 ∧ I y.2.2.2.2.2.2.2.2.2.2 w, fun y w => μ y.2.2.2.2.2.2.2.2.2.2 w, ⟨rfl, rfl, rfl, rfl, rfl, rfl, rfl, rfl, rfl, rfl, h0⟩, ?_⟩; rintro ⟨d0, d1, d2, d3, d4, d5, d6, d7, d8, d9, t0⟩ w ⟨e0, e1, e2, e3, e4, e5, e6, e7, e8, e9, hI⟩; dsimp only at e0 e1 e2 e3 e4 e5 e6 e7 e8 e9 hI; subst e0; subst e1; subst e2; subst e3; subst e4; subst e5; subst e6; subst e7; subst e8; subst e9; exact h1 _ _ hI) (fun _ _ => by kernel_rfl)))) mkLeaf)) mkLeaf)) (mkSeq (mkBlock (mkLoop (loopDef LfYtoclhecldmahiaaDoor.mixed [(1, .slice), (2, .bool), (7, .ptr), (9, .ptr), (10, .slice), (11, .slice), (12, .slice), (15, .addr), (16, (.int .i64)), (17, .slice), (20, (.int .i64))] (by kernel_rfl) (fun M16 x w => trystlaw24_MixRounds.b16 R (fun y0 y1 y2 y3 y4 y5 y6 y7 y8 w => M2 (y0, y1, y2, y3, y4, y5, y6, y7, y8) w) (fun y0 y1 y2 y3 y4 y5 y6 y7 y8 y9 y10 w => M16 (y0, y1, y2, y3, y4, y5, y6, y7, y8, y9, y10) w) x.1 x.2.1 x.2.2.1 x.2.2.2.1 x.2.2.2.2.1 x.2.2.2.2.2.1 x.2.2.2.2.2.2.1 x.2.2.2.2.2.2.2.1 x.2.2.2.2.2.2.2.2.1 x.2.2.2.2.2.2.2.2.2.1 x.2.2.2.2.2.2.2.2.2.2 w) (fun M16 => trystlaw24_MixRounds.J16 R (fun y0 y1 y2 y3 y4 y5 y6 y7 y8 w => M2 (y0, y1, y2, y3, y4, y5, y6, y7, y8) w) (fun y0 y1 y2 y3 y4 y5 y6 y7 y8 y9 y10 w => M16 (y0, y1, y2, y3, y4, y5, y6, y7, y8, y9, y10) w)) (fun _ _ _ => by kernel_rfl) (fun M16 => (mkSeq (mkCut (cutDef [(1, .slice), (2, .bool), (7, .ptr), (9, .ptr), (10, .slice), (11, .slice), (12, .slice), (15, .addr), (16, (.int .i64)), (17, .slice), (20, (.int .i64))] (fun x w => trystlaw24_MixRounds.c17 R (fun y0 y1 y2 y3 y4 y5 y6 y7 y8 w => M2 (y0, y1, y2, y3, y4, y5, y6, y7, y8) w) (fun y0 y1 y2 y3 y4 y5 y6 y7 y8 y9 y10 w => M16 (y0, y1, y2, y3, y4, y5, y6, y7, y8, y9, y10) w) x.1 x.2.1 x.2.2.1 x.2.2.2.1 x.2.2.2.2.1 x.2.2.2.2.2.1 x.2.2.2.2.2.2.1 x.2.2.2.2.2.2.2.1 x.2.2.2.2.2.2.2.2.1 x.2.2.2.2.2.2.2.2.2.1 x.2.2.2.2.2.2.2.2.2.2 w) (fun _ _ => by kernel_rfl) (fun _ _ => by kernel_rfl)) (mkSeq mkLeaf (mkBlock mkLeaf))) (mkSeq (mkCnd mkLeaf mkLeaf) mkLeaf))) (fun x w => trystlaw24_MixRounds.l16 R (fun y0 y1 y2 y3 y4 y5 y6 y7 y8 w => M2 (y0, y1, y2, y3, y4, y5, y6, y7, y8) w) x.1 x.2.1 x.2.2.1 x.2.2.2.1 x.2.2.2.2.1 x.2.2.2.2.2.1 x.2.2.2.2.2.2.1 x.2.2.2.2.2.2.2.1 x.2.2.2.2.2.2.2.2.1 x.2.2.2.2.2.2.2.2.2.1 x.2.2.2.2.2.2.2.2.2.2 w) (by rintro ⟨c0, c1, c2, c3, c4, c5, c6, c7, c8, s0⟩ w ⟨I, μ, h0, h1⟩; refine ⟨fun y w => y.1 = c0 ∧ y.2.1 = c1 ∧ y.2.2.1 = c2 ∧ y.2.2.2.1 = c3 ∧ y.2.2.2.2.1 = c4 ∧ y.2.2.2.2.2.1 = c5 ∧ y.2.2.2.2.2.2.1 = c6 ∧ y.2.2.2.2.2.2.2.1 = c7 ∧ y.2.2.2.2.2.2.2.2.1 = c8 ∧ I y.2.2.2.2.2.2.2.2.2 w, fun y w => μ y.2.2.2.2.2.2.2.2.2 w, ⟨rfl, rfl, rfl, rfl, rfl, rfl, rfl, rfl, rfl, h0⟩, ?_⟩; rintro ⟨d0, d1, d2, d3, d4, d5, d6, d7, d8, t0⟩ w ⟨e0, e1, e2, e3, e4, e5, e6, e7, e8, hI⟩; dsimp only at e0 e1 e2 e3 e4 e5 e6 e7 e8 hI; subst e0; subst e1; subst e2; subst e3; subst e4; subst e5; subst e6; subst e7; subst e8; exact h1 _ _ hI) (fun _ _ => by kernel_rfl)))) mkLeaf))) (mkSeq (mkBlock (mkLoop (loopDef LfYtoclhecldmahiaaDoor.mixed [(1, .slice), (2, .bool), (7, .ptr), (9, .ptr), (10, .slice), (11, .slice), (15, .addr), (16, (.int .i64)), (12, .slice), (17, .slice), (18, (.int .i64))] (by kernel_rfl) (fun M19 x w => trystlaw24_MixRounds.b19 R (fun y0 y1 y2 y3 y4 y5 y6 y7 y8 w => M2 (y0, y1, y2, y3, y4, y5, y6, y7, y8) w) (fun y0 y1 y2 y3 y4 y5 y6 y7 y8 y9 y10 w => M19 (y0, y1, y2, y3, y4, y5, y6, y7, y8, y9, y10) w) x.1 x.2.1 x.2.2.1 x.2.2.2.1 x.2.2.2.2.1 x.2.2.2.2.2.1 x.2.2.2.2.2.2.1 x.2.2.2.2.2.2.2.1 x.2.2.2.2.2.2.2.2.1 x.2.2.2.2.2.2.2.2.2.1 x.2.2.2.2.2.2.2.2.2.2 w) (fun M19 => trystlaw24_MixRounds.J19 R (fun y0 y1 y2 y3 y4 y5 y6 y7 y8 w => M2 (y0, y1, y2, y3, y4, y5, y6, y7, y8) w) (fun y0 y1 y2 y3 y4 y5 y6 y7 y8 y9 y10 w => M19 (y0, y1, y2, y3, y4, y5, y6, y7, y8, y9, y10) w)) (fun _ _ _ => by kernel_rfl) (fun M19 => (mkSeq (mkSeq mkLeaf (mkBlock (mkSeq (mkSeq (mkSeq (mkCut (cutDef [(1, .slice), (2, .bool), (7, .ptr), (9, .ptr), (10, .slice), (11, .slice), (12, .slice), (15, .addr), (16, (.int .i64)), (17, .slice), (18, (.int .i64)), (19, (.int .i64))] (fun x w => trystlaw24_MixRounds.c20 R (fun y0 y1 y2 y3 y4 y5 y6 y7 y8 w => M2 (y0, y1, y2, y3, y4, y5, y6, y7, y8) w) (fun y0 y1 y2 y3 y4 y5 y6 y7 y8 y9 y10 w => M19 (y0, y1, y2, y3, y4, y5, y6, y7, y8, y9, y10) w) x.1 x.2.1 x.2.2.1 x.2.2.2.1 x.2.2.2.2.1 x.2.2.2.2.2.1 x.2.2.2.2.2.2.1 x.2.2.2.2.2.2.2.1 x.2.2.2.2.2.2.2.2.1 x.2.2.2.2.2.2.2.2.2.1 x.2.2.2.2.2.2.2.2.2.2.1 x.2.2.2.2.2.2.2.2.2.2.2 w) (fun _ _ => by kernel_rfl) (fun _ _ => by kernel_rfl)) mkLeaf) (mkSeq (mkCnd (mkSeq mkLeaf mkLeaf) mkLeaf) mkLeaf)) (mkSeq (mkCnd mkLeaf mkLeaf) mkLeaf)) mkLeaf))) (mkSeq (mkCnd mkLeaf mkLeaf) mkLeaf))) (fun x w => trystlaw24_MixRounds.l19 R (fun y0 y1 y2 y3 y4 y5 y6 y7 y8 w => M2 (y0, y1, y2, y3, y4, y5, y6, y7, y8) w) x.1 x.2.1 x.2.2.1 x.2.2.2.1 x.2.2.2.2.1 x.2.2.2.2.2.1 x.2.2.2.2.2.2.1 x.2.2.2.2.2.2.2.1 x.2.2.2.2.2.2.2.2.1 x.2.2.2.2.2.2.2.2.2.1 x.2.2.2.2.2.2.2.2.2.2 w) (by rintro ⟨c0, c1, c2, c3, c4, c5, c6, c7, s0⟩ w ⟨I, μ, h0, h1⟩; refine ⟨fun y w => y.1 = c0 ∧ y.2.1 = c1 ∧ y.2.2.1 = c2 ∧ y.2.2.2.1 = c3 ∧ y.2.2.2.2.1 = c4 ∧ y.2.2.2.2.2.1 = c5 ∧ y.2.2.2.2.2.2.1 = c6 ∧ y.2.2.2.2.2.2.2.1 = c7 ∧ I y.2.2.2.2.2.2.2.2 w, fun y w => μ y.2.2.2.2.2.2.2.2 w, ⟨rfl, rfl, rfl, rfl, rfl, rfl, rfl, rfl, h0⟩, ?_⟩; rintro ⟨d0, d1, d2, d3, d4, d5, d6, d7, t0⟩ w ⟨e0, e1, e2, e3, e4, e5, e6, e7, hI⟩; dsimp only at e0 e1 e2 e3 e4 e5 e6 e7 hI; subst e0; subst e1; subst e2; subst e3; subst e4; subst e5; subst e6; subst e7; exact h1 _ _ hI) (fun _ _ => by kernel_rfl)))) mkLeaf)) mkLeaf)) (mkSeq (mkCnd (mkSeq mkLeaf mkLeaf) mkLeaf) mkLeaf)))) (mkSeq (mkCnd mkLeaf mkLeaf) mkLeaf))) (fun x w => trystlaw24_MixRounds.l2 R x.1 x.2.1 x.2.2.1 x.2.2.2.1 x.2.2.2.2.1 x.2.2.2.2.2.1 x.2.2.2.2.2.2.1 x.2.2.2.2.2.2.2.1 x.2.2.2.2.2.2.2.2 w) (by rintro ⟨c0, c1, c2, c3, c4, c5, c6, s0⟩ w ⟨I, μ, h0, h1⟩; refine ⟨fun y w => y.1 = c0 ∧ y.2.1 = c1 ∧ y.2.2.1 = c2 ∧ y.2.2.2.1 = c3 ∧ y.2.2.2.2.1 = c4 ∧ y.2.2.2.2.2.1 = c5 ∧ y.2.2.2.2.2.2.1 = c6 ∧ I y.2.2.2.2.2.2.2 w, fun y w => μ y.2.2.2.2.2.2.2 w, ⟨rfl, rfl, rfl, rfl, rfl, rfl, rfl, h0⟩, ?_⟩; rintro ⟨d0, d1, d2, d3, d4, d5, d6, t0⟩ w ⟨e0, e1, e2, e3, e4, e5, e6, hI⟩; dsimp only at e0 e1 e2 e3 e4 e5 e6 hI; subst e0; subst e1; subst e2; subst e3; subst e4; subst e5; subst e6; exact h1 _ _ hI) (fun _ _ => by kernel_rfl)))) mkLeaf)) mkLeaf)) (mkSeq (mkBlock (mkLoop (loopDef LfYtoclhecldmahiaaDoor.mixed [(1, .slice), (2, .bool), (7, .ptr), (9, .ptr), (12, .slice), (10, .slice), (11, .slice), (13, (.int .i64))] (by kernel_rfl) (fun M23 x w => trystlaw24_MixRounds.b23 R (fun y0 y1 y2 y3 y4 y5 y6 y7 w => M23 (y0, y1, y2, y3, y4, y5, y6, y7) w) x.1 x.2.1 x.2.2.1 x.2.2.2.1 x.2.2.2.2.1 x.2.2.2.2.2.1 x.2.2.2.2.2.2.1 x.2.2.2.2.2.2.2 w) (fun M23 => fun _ _ _ => False) (fun _ _ _ => by kernel_rfl) (fun M23 => (mkSeq (mkSeq mkLeaf (mkBlock (mkSeq mkLeaf mkLeaf))) (mkSeq (mkCnd mkLeaf mkLeaf) mkLeaf))) (fun x w => trystlaw24_MixRounds.l23 R x.1 x.2.1 x.2.2.1 x.2.2.2.1 x.2.2.2.2.1 x.2.2.2.2.2.1 x.2.2.2.2.2.2.1 x.2.2.2.2.2.2.2 w) (by rintro ⟨c0, c1, c2, c3, c4, s0⟩ w ⟨I, μ, h0, h1⟩; refine ⟨fun y w => y.1 = c0 ∧ y.2.1 = c1 ∧ y.2.2.1 = c2 ∧ y.2.2.2.1 = c3 ∧ y.2.2.2.2.1 = c4 ∧ I y.2.2.2.2.2 w, fun y w => μ y.2.2.2.2.2 w, ⟨rfl, rfl, rfl, rfl, rfl, h0⟩, ?_⟩; rintro ⟨d0, d1, d2, d3, d4, t0⟩ w ⟨e0, e1, e2, e3, e4, hI⟩; dsimp only at e0 e1 e2 e3 e4 hI; subst e0; subst e1; subst e2; subst e3; subst e4; exact h1 _ _ hI) (fun _ _ => by kernel_rfl)))) mkLeaf)) mkLeaf) mkLeaf) (mkSeq (mkCnd (mkSeq mkLeaf mkLeaf) mkLeaf) mkLeaf)) mkLeaf)) (mkSeq (mkCnd (mkSeq mkLeaf mkLeaf) mkLeaf) mkLeaf)) mkLeaf) (kcast (by kernel_rfl) h)

/-! trystlaw24_perm -/
def trystlaw24_perm.c2 (R : Value → World → Prop) (N1 : Sl → Int → Sl → Int → World → Prop) (l0 : Sl) (n1 : Int) (out7 : Sl) (i9 : Int) (w : World) : Prop :=
  0 ≤ (i9 : Int) ∧ i9 < ((l0.len : Nat) : Int) ∧ ∃ q_1 : Addr, l0.a = some q_1 ∧
  ∃ x_2 : Int, w.cell? (q_1.add (i9 : Int).toNat) = some (.int .i64 x_2) ∧
  (IntKind.u64.wrap n1) ≠ 0 ∧
  (let k10_2 : Int := (IntKind.i64.wrap (Int.tmod (IntKind.u64.wrap x_2) (IntKind.u64.wrap n1)));
  ∃ S_4 : World → Prop, S_4 w.drew ∧
  0 ≤ (k10_2 : Int) ∧ k10_2 < ((out7.len : Nat) : Int) ∧ ∃ q_5 : Addr, out7.a = some q_5 ∧
  ∃ x_6 : Int, (∀ x, S_4 x → x.cell? (q_5.add (k10_2 : Int).toNat) = some (.int .i64 x_6)) ∧
  0 ≤ (i9 : Int) ∧ i9 < ((out7.len : Nat) : Int) ∧ ∃ q_7 : Addr, out7.a = some q_7 ∧
  ∃ x_8 : Int, (∀ x, S_4 x → x.cell? (q_7.add (i9 : Int).toNat) = some (.int .i64 x_8)) ∧
  0 ≤ (i9 : Int) ∧ i9 < ((out7.len : Nat) : Int) ∧ ∃ q_9 : Addr, out7.a = some q_9 ∧
  Wr w.drew (q_9.add (i9 : Int).toNat) ∧
  (let w1 := w.drew.setCell (q_9.add (i9 : Int).toNat) (.int .i64 x_6);
  0 ≤ (k10_2 : Int) ∧ k10_2 < ((out7.len : Nat) : Int) ∧ ∃ q_10 : Addr, out7.a = some q_10 ∧
  Wr w1 (q_10.add (k10_2 : Int).toNat) ∧
  (let w2 := w1.setCell (q_10.add (k10_2 : Int).toNat) (.int .i64 x_8);
  (let i9_10 : Int := (IntKind.i64.wrap (i9 + 1));
  N1 l0 n1 out7 i9_10 w2))))

def trystlaw24_perm.b1 (R : Value → World → Prop) (N1 : Sl → Int → Sl → Int → World → Prop) (l0 : Sl) (n1 : Int) (out7 : Sl) (i9 : Int) (w : World) : Prop :=
  cond (decide ((i9 : Int) < n1))
  (cond (decide ((i9 : Int) < ((l0.len : Nat) : Int)))
  (trystlaw24_perm.c2 R N1 l0 n1 out7 i9 w)
  (R (.slice out7.a out7.len out7.cap) w))
  (R (.slice out7.a out7.len out7.cap) w)

def trystlaw24_perm.l1 (R : Value → World → Prop) (l0 : Sl) (n1 : Int) (out7 : Sl) (i9 : Int) (w : World) : Prop :=
  ∃ (I : Int → World → Prop) (μ : Int → World → Nat), I i9 w ∧ ∀ s w, I s w → trystlaw24_perm.b1 R (fun l0' n1' out7' i9' w' => (l0' = l0 ∧ n1' = n1 ∧ out7' = out7 ∧ I i9' w') ∧ μ i9' w' < μ s w) l0 n1 out7 s w

def trystlaw24_perm.c3 (R : Value → World → Prop) (l0 : Sl) (n1 : Int) (out7 : Sl) (w : World) : Prop :=
  trystlaw24_perm.l1 R l0 n1 out7 0 w

def trystlaw24_perm.b4 (R : Value → World → Prop) (N4 : Sl → Int → Sl → Int → World → Prop) (l0 : Sl) (n1 : Int) (out7 : Sl) (i8 : Int) (w : World) : Prop :=
  cond (decide ((i8 : Int) < n1))
  (let w3 := w.alloc (.cells #[.int .i64 i8] 3);
  ∃ (a_12 : Option Addr) (l_13 c_14 : Nat), ∃ w4 : World, (builtin .append #[29, 29] 29 #[] #[.slice out7.a out7.len out7.cap, .slice (some (newA w)) 1 1]).run Tryd.prog w3 = .ok (.value (.slice a_12 l_13 c_14)) w4 ∧
  (let i8_14 : Int := (IntKind.i64.wrap (i8 + 1));
  N4 l0 n1 ⟨a_12, l_13, c_14⟩ i8_14 w4))
  (trystlaw24_perm.c3 R l0 n1 out7 w)

def trystlaw24_perm.l4 (R : Value → World → Prop) (l0 : Sl) (n1 : Int) (out7 : Sl) (i8 : Int) (w : World) : Prop :=
  ∃ (I : (Sl × Int) → World → Prop) (μ : (Sl × Int) → World → Nat), I (out7, i8) w ∧ ∀ s w, I s w → trystlaw24_perm.b4 R (fun l0' n1' out7' i8' w' => (l0' = l0 ∧ n1' = n1 ∧ I (out7', i8') w') ∧ μ (out7', i8') w' < μ s w) l0 n1 s.1 s.2 w

def trystlaw24_perm.main (R : Value → World → Prop) (l0 : Sl) (n1 : Int) (raw2 : Bool) (w : World) : Prop :=
  cond raw2
  (CallsV Tryd.prog n_trystkeep_TwinInts #[.slice l0.a l0.len l0.cap] w (fun v_16 w5 =>
  ∃ (a_17 : Option Addr) (l_18 c_19 : Nat), v_16 = .slice a_17 l_18 c_19 ∧
  R (.slice a_17 l_18 c_19) w5))
  (trystlaw24_perm.l4 R l0 n1 ⟨none, 0, 0⟩ 0 w)

def trystlaw24_perm.J1 (R : Value → World → Prop) (N1 : Sl → Int → Sl → Int → World → Prop) (k : Nat) (fr : Fr) (w : World) : Prop :=
  cond (Nat.beq k 2) (dec [(0, .slice), (1, (.int .i64)), (7, .slice), (9, (.int .i64))] fr fun x => trystlaw24_perm.c2 R N1 x.1 x.2.1 x.2.2.1 x.2.2.2 w) (False)

def trystlaw24_perm.J0 (R : Value → World → Prop) (k : Nat) (fr : Fr) (w : World) : Prop :=
  cond (Nat.beq k 4) (dec [(0, .slice), (1, (.int .i64)), (7, .slice), (8, (.int .i64))] fr fun x => trystlaw24_perm.l4 R x.1 x.2.1 x.2.2.1 x.2.2.2 w) (cond (Nat.beq k 3) (dec [(0, .slice), (1, (.int .i64)), (7, .slice)] fr fun x => trystlaw24_perm.c3 R x.1 x.2.1 x.2.2 w) (cond (Nat.beq k 1) (dec [(0, .slice), (1, (.int .i64)), (7, .slice), (9, (.int .i64))] fr fun x => trystlaw24_perm.l1 R x.1 x.2.1 x.2.2.1 x.2.2.2 w) (False)))

set_option maxRecDepth 100000 in
theorem trystlaw24_perm.lift {R : Value → World → Prop} {l0 : Sl} {n1 : Int} {raw2 : Bool} {w : World} (h : trystlaw24_perm.main R l0 n1 raw2 w) : CallsV Tryd.prog n_trystlaw24_perm #[.slice l0.a l0.len l0.cap, .int .i64 n1, .bool raw2] w R :=
  liftCalls (c := (.seq (.leaf (cL (bd Tryd.f88))) (.seq (.seq (.leaf (cL (cL (cR (bd Tryd.f88))))) (.cnd (.tmp 11) (.seq (.leaf (cL (cT (cR (cL (cR (bd Tryd.f88))))))) (.leaf (cR (cT (cR (cL (cR (bd Tryd.f88)))))))) (.leaf (cE (cR (cL (cR (bd Tryd.f88)))))))) (.seq (.leaf (cL (cR (cR (bd Tryd.f88))))) (.seq (.seq (.leaf (cL (cL (cR (cR (cR (bd Tryd.f88))))))) (.block 0 (.loop 4 (.seq (.seq (.leaf (cL (cL (cB (cB (cR (cL (cR (cR (cR (bd Tryd.f88))))))))))) (.cnd (.tmp 16) (.leaf (cT (cR (cL (cB (cB (cR (cL (cR (cR (cR (bd Tryd.f88)))))))))))) (.leaf (cE (cR (cL (cB (cB (cR (cL (cR (cR (cR (bd Tryd.f88)))))))))))))) (.seq (.block 1 (.leaf (cB (cL (cR (cB (cB (cR (cL (cR (cR (cR (bd Tryd.f88))))))))))))) (.leaf (cR (cR (cB (cB (cR (cL (cR (cR (cR (bd Tryd.f88)))))))))))))))) (.cut 3 (.seq (.seq (.leaf (cL (cL (cR (cR (cR (cR (bd Tryd.f88)))))))) (.block 2 (.loop 1 (.seq (.seq (.leaf (cL (cL (cB (cB (cR (cL (cR (cR (cR (cR (bd Tryd.f88)))))))))))) (.cnd (.tmp 31) (.leaf (cT (cR (cL (cB (cB (cR (cL (cR (cR (cR (cR (bd Tryd.f88))))))))))))) (.leaf (cE (cR (cL (cB (cB (cR (cL (cR (cR (cR (cR (bd Tryd.f88))))))))))))))) (.cut 2 (.seq (.block 3 (.seq (.leaf (cL (cB (cL (cR (cB (cB (cR (cL (cR (cR (cR (cR (bd Tryd.f88)))))))))))))) (.leaf (cR (cB (cL (cR (cB (cB (cR (cL (cR (cR (cR (cR (bd Tryd.f88)))))))))))))))) (.leaf (cR (cR (cB (cB (cR (cL (cR (cR (cR (cR (bd Tryd.f88)))))))))))))))))) (.seq (.leaf (cL (cR (cR (cR (cR (cR (bd Tryd.f88)))))))) (.leaf (cR (cR (cR (cR (cR (cR (bd Tryd.f88)))))))))))))))) (J := trystlaw24_perm.J0 R) LfYtoclhecldmahiaaDoor.mixed Tryd.func88 (by kernel_rfl) (by kernel_rfl) (mkSeq (mkSeq (mkSeq (mkSeq (mkCut (cutDef [(0, .slice), (1, (.int .i64)), (7, .slice)] (fun x w => trystlaw24_perm.c3 R x.1 x.2.1 x.2.2 w) (fun _ _ => by kernel_rfl) (fun _ _ => by kernel_rfl)) (mkSeq (mkSeq mkLeaf mkLeaf) (mkSeq (mkBlock (mkLoop (loopDef LfYtoclhecldmahiaaDoor.mixed [(0, .slice), (1, (.int .i64)), (7, .slice), (9, (.int .i64))] (by kernel_rfl) (fun M1 x w => trystlaw24_perm.b1 R (fun y0 y1 y2 y3 w => M1 (y0, y1, y2, y3) w) x.1 x.2.1 x.2.2.1 x.2.2.2 w) (fun M1 => trystlaw24_perm.J1 R (fun y0 y1 y2 y3 w => M1 (y0, y1, y2, y3) w)) (fun _ _ _ => by kernel_rfl) (fun M1 => (mkSeq (mkCut (cutDef [(0, .slice), (1, (.int .i64)), (7, .slice), (9, (.int .i64))] (fun x w => trystlaw24_perm.c2 R (fun y0 y1 y2 y3 w => M1 (y0, y1, y2, y3) w) x.1 x.2.1 x.2.2.1 x.2.2.2 w) (fun _ _ => by kernel_rfl) (fun _ _ => by kernel_rfl)) (mkSeq mkLeaf (mkBlock (mkSeq mkLeaf mkLeaf)))) (mkSeq (mkCnd mkLeaf mkLeaf) mkLeaf))) (fun x w => trystlaw24_perm.l1 R x.1 x.2.1 x.2.2.1 x.2.2.2 w) (by rintro ⟨c0, c1, c2, s0⟩ w ⟨I, μ, h0, h1⟩; refine ⟨fun y w => y.1 = c0 ∧ y.2.1 = c1 ∧ y.2.2.1 = c2 ∧ I y.2.2.2 w, fun y w => μ y.2.2.2 w, ⟨rfl, rfl, rfl, h0⟩, ?_⟩; rintro ⟨d0, d1, d2, t0⟩ w ⟨e0, e1, e2, hI⟩; dsimp only at e0 e1 e2 hI; subst e0; subst e1; subst e2; exact h1 _ _ hI) (fun _ _ => by kernel_rfl)))) mkLeaf))) (mkSeq (mkBlock (mkLoop (loopDef LfYtoclhecldmahiaaDoor.mixed [(0, .slice), (1, (.int .i64)), (7, .slice), (8, (.int .i64))] (by kernel_rfl) (fun M4 x w => trystlaw24_perm.b4 R (fun y0 y1 y2 y3 w => M4 (y0, y1, y2, y3) w) x.1 x.2.1 x.2.2.1 x.2.2.2 w) (fun M4 => fun _ _ _ => False) (fun _ _ _ => by kernel_rfl) (fun M4 => (mkSeq (mkSeq mkLeaf (mkBlock mkLeaf)) (mkSeq (mkCnd mkLeaf mkLeaf) mkLeaf))) (fun x w => trystlaw24_perm.l4 R x.1 x.2.1 x.2.2.1 x.2.2.2 w) (by rintro ⟨c0, c1, s0⟩ w ⟨I, μ, h0, h1⟩; refine ⟨fun y w => y.1 = c0 ∧ y.2.1 = c1 ∧ I y.2.2 w, fun y w => μ y.2.2 w, ⟨rfl, rfl, h0⟩, ?_⟩; rintro ⟨d0, d1, t0⟩ w ⟨e0, e1, hI⟩; dsimp only at e0 e1 hI; subst e0; subst e1; exact h1 _ _ hI) (fun _ _ => by kernel_rfl)))) mkLeaf)) mkLeaf) (mkSeq (mkCnd (mkSeq mkLeaf mkLeaf) mkLeaf) mkLeaf)) mkLeaf) (kcast (by kernel_rfl) h)

/-! trystlaw24_state -/
def trystlaw24_state.c1 (R : Value → World → Prop) (t4 : Addr) (out5 : Addr) (w : World) : Prop :=
  ∃ (a_1 : Option Addr) (l_2 c_3 : Nat), w.cell? out5 = some (.slice a_1 l_2 c_3) ∧
  ∃ (a_4 : Option Addr) (l_5 c_6 : Nat), w.cell? (out5.add 1) = some (.slice a_4 l_5 c_6) ∧
  ∃ (a_7 : Option Addr) (l_8 c_9 : Nat), w.cell? (out5.add 2) = some (.slice a_7 l_8 c_9) ∧
  ∃ (a_10 : Option Addr) (l_11 c_12 : Nat), w.cell? (out5.add 3) = some (.slice a_10 l_11 c_12) ∧
  (∀ j, j < 4 → Wr w (t4.add j)) ∧
  (let w1 := setCells t4 [.slice a_1 l_2 c_3, .slice a_4 l_5 c_6, .slice a_7 l_8 c_9, .slice a_10 l_11 c_12] 0 w;
  ∃ (a_13 : Option Addr) (l_14 c_15 : Nat), w1.cell? t4 = some (.slice a_13 l_14 c_15) ∧
  ∃ (a_16 : Option Addr) (l_17 c_18 : Nat), w1.cell? (t4.add 1) = some (.slice a_16 l_17 c_18) ∧
  ∃ (a_19 : Option Addr) (l_20 c_21 : Nat), w1.cell? (t4.add 2) = some (.slice a_19 l_20 c_21) ∧
  ∃ (a_22 : Option Addr) (l_23 c_24 : Nat), w1.cell? (t4.add 3) = some (.slice a_22 l_23 c_24) ∧
  R (.agg #[.slice a_13 l_14 c_15, .slice a_16 l_17 c_18, .slice a_19 l_20 c_21, .slice a_22 l_23 c_24]) w1)

def trystlaw24_state.b2 (R : Value → World → Prop) (N2 : Option Addr → Addr → Addr → Addr → Int → World → Prop) (p0 : Option Addr) (m3 : Addr) (t4 : Addr) (out5 : Addr) (i6 : Int) (w : World) : Prop :=
  cond (decide ((i6 : Int) < 3))
  (0 ≤ (i6 : Int) ∧ i6 < ((3 : Nat) : Int) ∧
  ∃ (a_25 : Option Addr) (l_26 c_27 : Nat), w.cell? ((m3.add 1).add (i6 : Int).toNat) = some (.slice a_25 l_26 c_27) ∧
  CallsV Tryd.prog n_trystlaw10_Pair_Ts #[.pointer p0, .slice a_25 l_26 c_27] w (fun v_28 w2 =>
  ∃ (a_29 : Option Addr) (l_30 c_31 : Nat), v_28 = .slice a_29 l_30 c_31 ∧
  0 ≤ (i6 : Int) ∧ i6 < ((3 : Nat) : Int) ∧
  Wr w2 ((out5.add 1).add (i6 : Int).toNat) ∧
  (let w3 := w2.setCell ((out5.add 1).add (i6 : Int).toNat) (.slice a_29 l_30 c_31);
  (let i6_31 : Int := (IntKind.i64.wrap (i6 + 1));
  N2 p0 m3 t4 out5 i6_31 w3))))
  (trystlaw24_state.c1 R t4 out5 w)

def trystlaw24_state.l2 (R : Value → World → Prop) (p0 : Option Addr) (m3 : Addr) (t4 : Addr) (out5 : Addr) (i6 : Int) (w : World) : Prop :=
  ∃ (I : Int → World → Prop) (μ : Int → World → Nat), I i6 w ∧ ∀ s w, I s w → trystlaw24_state.b2 R (fun p0' m3' t4' out5' i6' w' => (p0' = p0 ∧ m3' = m3 ∧ t4' = t4 ∧ out5' = out5 ∧ I i6' w') ∧ μ i6' w' < μ s w) p0 m3 t4 out5 s w

def trystlaw24_state.main (R : Value → World → Prop) (p0 : Option Addr) (m1_0 : Sl) (m1_1 : Sl) (m1_2 : Sl) (m1_3 : Sl) (w : World) : Prop :=
  let w4 := w.alloc (.cells #[.slice m1_0.a m1_0.len m1_0.cap, .slice m1_1.a m1_1.len m1_1.cap, .slice m1_2.a m1_2.len m1_2.cap, .slice m1_3.a m1_3.len m1_3.cap] 127);
  let w5 := w4.alloc (.cells #[.slice none 0 0, .slice none 0 0, .slice none 0 0, .slice none 0 0] 127);
  let w6 := w5.alloc (.cells #[.slice none 0 0, .slice none 0 0, .slice none 0 0, .slice none 0 0] 127);
  ∃ (a_33 : Option Addr) (l_34 c_35 : Nat), w6.cell? (newA w) = some (.slice a_33 l_34 c_35) ∧
  CallsV Tryd.prog n_trystlaw24_regs #[.pointer p0, .slice a_33 l_34 c_35] w6 (fun v_36 w7 =>
  ∃ (a_37 : Option Addr) (l_38 c_39 : Nat), v_36 = .slice a_37 l_38 c_39 ∧
  Wr w7 (newA w5) ∧
  (let w8 := w7.setCell (newA w5) (.slice a_37 l_38 c_39);
  trystlaw24_state.l2 R p0 (newA w) (newA w4) (newA w5) 0 w8))

def trystlaw24_state.J0 (R : Value → World → Prop) (k : Nat) (fr : Fr) (w : World) : Prop :=
  cond (Nat.beq k 2) (dec [(0, .ptr), (3, .addr), (4, .addr), (5, .addr), (6, (.int .i64))] fr fun x => trystlaw24_state.l2 R x.1 x.2.1 x.2.2.1 x.2.2.2.1 x.2.2.2.2 w) (cond (Nat.beq k 1) (dec [(4, .addr), (5, .addr)] fr fun x => trystlaw24_state.c1 R x.1 x.2 w) (False))

set_option maxRecDepth 100000 in
theorem trystlaw24_state.lift {R : Value → World → Prop} {p0 : Option Addr} {m1_0 : Sl} {m1_1 : Sl} {m1_2 : Sl} {m1_3 : Sl} {w : World} (h : trystlaw24_state.main R p0 m1_0 m1_1 m1_2 m1_3 w) : CallsV Tryd.prog n_trystlaw24_state #[.pointer p0, .agg #[.slice m1_0.a m1_0.len m1_0.cap, .slice m1_1.a m1_1.len m1_1.cap, .slice m1_2.a m1_2.len m1_2.cap, .slice m1_3.a m1_3.len m1_3.cap]] w R :=
  liftCalls (c := (.seq (.leaf (cL (bd Tryd.f89))) (.seq (.leaf (cL (cR (bd Tryd.f89)))) (.seq (.leaf (cL (cR (cR (bd Tryd.f89))))) (.seq (.seq (.leaf (cL (cL (cR (cR (cR (bd Tryd.f89))))))) (.block 0 (.loop 2 (.seq (.seq (.leaf (cL (cL (cB (cB (cR (cL (cR (cR (cR (bd Tryd.f89))))))))))) (.cnd (.tmp 13) (.leaf (cT (cR (cL (cB (cB (cR (cL (cR (cR (cR (bd Tryd.f89)))))))))))) (.leaf (cE (cR (cL (cB (cB (cR (cL (cR (cR (cR (bd Tryd.f89)))))))))))))) (.seq (.block 1 (.leaf (cB (cL (cR (cB (cB (cR (cL (cR (cR (cR (bd Tryd.f89))))))))))))) (.leaf (cR (cR (cB (cB (cR (cL (cR (cR (cR (bd Tryd.f89)))))))))))))))) (.cut 1 (.seq (.leaf (cL (cR (cR (cR (cR (bd Tryd.f89))))))) (.leaf (cR (cR (cR (cR (cR (bd Tryd.f89)))))))))))))) (J := trystlaw24_state.J0 R) LfYtoclhecldmahiaaDoor.mixed Tryd.func89 (by kernel_rfl) (by kernel_rfl) (mkSeq (mkSeq (mkSeq (mkSeq (mkCut (cutDef [(4, .addr), (5, .addr)] (fun x w => trystlaw24_state.c1 R x.1 x.2 w) (fun _ _ => by kernel_rfl) (fun _ _ => by kernel_rfl)) (mkSeq mkLeaf mkLeaf)) (mkSeq (mkBlock (mkLoop (loopDef LfYtoclhecldmahiaaDoor.mixed [(0, .ptr), (3, .addr), (4, .addr), (5, .addr), (6, (.int .i64))] (by kernel_rfl) (fun M2 x w => trystlaw24_state.b2 R (fun y0 y1 y2 y3 y4 w => M2 (y0, y1, y2, y3, y4) w) x.1 x.2.1 x.2.2.1 x.2.2.2.1 x.2.2.2.2 w) (fun M2 => fun _ _ _ => False) (fun _ _ _ => by kernel_rfl) (fun M2 => (mkSeq (mkSeq mkLeaf (mkBlock mkLeaf)) (mkSeq (mkCnd mkLeaf mkLeaf) mkLeaf))) (fun x w => trystlaw24_state.l2 R x.1 x.2.1 x.2.2.1 x.2.2.2.1 x.2.2.2.2 w) (by rintro ⟨c0, c1, c2, c3, s0⟩ w ⟨I, μ, h0, h1⟩; refine ⟨fun y w => y.1 = c0 ∧ y.2.1 = c1 ∧ y.2.2.1 = c2 ∧ y.2.2.2.1 = c3 ∧ I y.2.2.2.2 w, fun y w => μ y.2.2.2.2 w, ⟨rfl, rfl, rfl, rfl, h0⟩, ?_⟩; rintro ⟨d0, d1, d2, d3, t0⟩ w ⟨e0, e1, e2, e3, hI⟩; dsimp only at e0 e1 e2 e3 hI; subst e0; subst e1; subst e2; subst e3; exact h1 _ _ hI) (fun _ _ => by kernel_rfl)))) mkLeaf)) mkLeaf) mkLeaf) mkLeaf) (kcast (by kernel_rfl) h)

/-! trystkeep_TwinPerms -/
def trystkeep_TwinPerms.b1 (R : Value → World → Prop) (N1 : Sl → Sl → Int → World → Prop) (l0 : Sl) (out3 : Sl) (i4 : Int) (w : World) : Prop :=
  cond (decide ((i4 : Int) < ((l0.len : Nat) : Int)))
  (0 ≤ (i4 : Int) ∧ i4 < ((l0.len : Nat) : Int) ∧ ∃ q_1 : Addr, l0.a = some q_1 ∧
  ∃ (a_2 : Option Addr) (l_3 c_4 : Nat), w.cell? (q_1.add (i4 : Int).toNat) = some (.slice a_2 l_3 c_4) ∧
  CallsV Tryd.prog n_trystkeep_TwinInts #[.slice a_2 l_3 c_4] w (fun v_5 w1 =>
  ∃ (a_6 : Option Addr) (l_7 c_8 : Nat), v_5 = .slice a_6 l_7 c_8 ∧
  let w2 := w1.alloc (.cells #[.slice a_6 l_7 c_8] 29);
  ∃ (a_9 : Option Addr) (l_10 c_11 : Nat), ∃ w3 : World, (builtin .append #[128, 128] 128 #[] #[.slice out3.a out3.len out3.cap, .slice (some (newA w1)) 1 1]).run Tryd.prog w2 = .ok (.value (.slice a_9 l_10 c_11)) w3 ∧
  (let i4_11 : Int := (IntKind.i64.wrap (i4 + 1));
  N1 l0 ⟨a_9, l_10, c_11⟩ i4_11 w3)))
  (R (.slice out3.a out3.len out3.cap) w)

def trystkeep_TwinPerms.l1 (R : Value → World → Prop) (l0 : Sl) (out3 : Sl) (i4 : Int) (w : World) : Prop :=
  ∃ (I : (Sl × Int) → World → Prop) (μ : (Sl × Int) → World → Nat), I (out3, i4) w ∧ ∀ s w, I s w → trystkeep_TwinPerms.b1 R (fun l0' out3' i4' w' => (l0' = l0 ∧ I (out3', i4') w') ∧ μ (out3', i4') w' < μ s w) l0 s.1 s.2 w

def trystkeep_TwinPerms.main (R : Value → World → Prop) (l0 : Sl) (w : World) : Prop :=
  trystkeep_TwinPerms.l1 R l0 ⟨none, 0, 0⟩ 0 w

def trystkeep_TwinPerms.J0 (R : Value → World → Prop) (k : Nat) (fr : Fr) (w : World) : Prop :=
  cond (Nat.beq k 1) (dec [(0, .slice), (3, .slice), (4, (.int .i64))] fr fun x => trystkeep_TwinPerms.l1 R x.1 x.2.1 x.2.2 w) (False)

set_option maxRecDepth 100000 in
theorem trystkeep_TwinPerms.lift {R : Value → World → Prop} {l0 : Sl} {w : World} (h : trystkeep_TwinPerms.main R l0 w) : CallsV Tryd.prog n_trystkeep_TwinPerms #[.slice l0.a l0.len l0.cap] w R :=
  liftCalls (c := (.seq (.leaf (cL (bd Tryd.f91))) (.seq (.leaf (cL (cR (bd Tryd.f91)))) (.seq (.seq (.leaf (cL (cL (cR (cR (bd Tryd.f91)))))) (.block 0 (.loop 1 (.seq (.seq (.leaf (cL (cL (cB (cB (cR (cL (cR (cR (bd Tryd.f91)))))))))) (.cnd (.tmp 8) (.leaf (cT (cR (cL (cB (cB (cR (cL (cR (cR (bd Tryd.f91))))))))))) (.leaf (cE (cR (cL (cB (cB (cR (cL (cR (cR (bd Tryd.f91))))))))))))) (.seq (.block 1 (.leaf (cB (cL (cR (cB (cB (cR (cL (cR (cR (bd Tryd.f91)))))))))))) (.leaf (cR (cR (cB (cB (cR (cL (cR (cR (bd Tryd.f91))))))))))))))) (.seq (.leaf (cL (cR (cR (cR (bd Tryd.f91)))))) (.leaf (cR (cR (cR (cR (bd Tryd.f91))))))))))) (J := trystkeep_TwinPerms.J0 R) LfYtoclhecldmahiaaDoor.mixed Tryd.func91 (by kernel_rfl) (by kernel_rfl) (mkSeq (mkSeq (mkSeq (mkSeq mkLeaf mkLeaf) (mkSeq (mkBlock (mkLoop (loopDef LfYtoclhecldmahiaaDoor.mixed [(0, .slice), (3, .slice), (4, (.int .i64))] (by kernel_rfl) (fun M1 x w => trystkeep_TwinPerms.b1 R (fun y0 y1 y2 w => M1 (y0, y1, y2) w) x.1 x.2.1 x.2.2 w) (fun M1 => fun _ _ _ => False) (fun _ _ _ => by kernel_rfl) (fun M1 => (mkSeq (mkSeq mkLeaf (mkBlock mkLeaf)) (mkSeq (mkCnd mkLeaf mkLeaf) mkLeaf))) (fun x w => trystkeep_TwinPerms.l1 R x.1 x.2.1 x.2.2 w) (by rintro ⟨c0, s0⟩ w ⟨I, μ, h0, h1⟩; refine ⟨fun y w => y.1 = c0 ∧ I y.2 w, fun y w => μ y.2 w, ⟨rfl, h0⟩, ?_⟩; rintro ⟨d0, t0⟩ w ⟨e0, hI⟩; dsimp only at e0 hI; subst e0; exact h1 _ _ hI) (fun _ _ => by kernel_rfl)))) mkLeaf)) mkLeaf) mkLeaf) (kcast (by kernel_rfl) h)

/-! trystkeep_Mix -/
def trystkeep_Mix.c1 (R : Value → World → Prop) (a2 : Addr) (b3 : Addr) (w : World) : Prop :=
  ∃ (a_1 : Option Addr) (l_2 c_3 : Nat), w.cell? a2 = some (.slice a_1 l_2 c_3) ∧
  ∃ (a_4 : Option Addr) (l_5 c_6 : Nat), w.cell? b3 = some (.slice a_4 l_5 c_6) ∧
  CallsV Tryd.prog n_trystkeep_Regs #[.slice a_1 l_2 c_3, .slice a_4 l_5 c_6] w (fun v_7 w1 =>
  ∃ b_8 : Bool, v_7 = .bool b_8 ∧
  R (.bool b_8) w1)

def trystkeep_Mix.b2 (R : Value → World → Prop) (N2 : Addr → Addr → Int → World → Prop) (a2 : Addr) (b3 : Addr) (i5 : Int) (w : World) : Prop :=
  cond (decide ((i5 : Int) < 3))
  (∃ S_9 : World → Prop, S_9 w.drew ∧
  0 ≤ (i5 : Int) ∧ i5 < ((3 : Nat) : Int) ∧
  ∃ (a_10 : Option Addr) (l_11 c_12 : Nat), (∀ x, S_9 x → x.cell? ((a2.add 1).add (i5 : Int).toNat) = some (.slice a_10 l_11 c_12)) ∧
  0 ≤ (i5 : Int) ∧ i5 < ((3 : Nat) : Int) ∧
  ∃ (a_13 : Option Addr) (l_14 c_15 : Nat), (∀ x, S_9 x → x.cell? ((b3.add 1).add (i5 : Int).toNat) = some (.slice a_13 l_14 c_15)) ∧
  CallsV Tryd.prog n_trystkeep_Ints #[.slice a_10 l_11 c_12, .slice a_13 l_14 c_15] w.drew (fun v_16 w2 =>
  ∃ b_17 : Bool, v_16 = .bool b_17 ∧
  cond (!b_17)
  (R (.bool false) w2)
  ((let i5_17 : Int := (IntKind.i64.wrap (i5 + 1));
  N2 a2 b3 i5_17 w2))))
  (trystkeep_Mix.c1 R a2 b3 w)

def trystkeep_Mix.l2 (R : Value → World → Prop) (a2 : Addr) (b3 : Addr) (i5 : Int) (w : World) : Prop :=
  ∃ (I : Int → World → Prop) (μ : Int → World → Nat), I i5 w ∧ ∀ s w, I s w → trystkeep_Mix.b2 R (fun a2' b3' i5' w' => (a2' = a2 ∧ b3' = b3 ∧ I i5' w') ∧ μ i5' w' < μ s w) a2 b3 s w

def trystkeep_Mix.main (R : Value → World → Prop) (a0_0 : Sl) (a0_1 : Sl) (a0_2 : Sl) (a0_3 : Sl) (b1_0 : Sl) (b1_1 : Sl) (b1_2 : Sl) (b1_3 : Sl) (w : World) : Prop :=
  let w3 := w.alloc (.cells #[.slice a0_0.a a0_0.len a0_0.cap, .slice a0_1.a a0_1.len a0_1.cap, .slice a0_2.a a0_2.len a0_2.cap, .slice a0_3.a a0_3.len a0_3.cap] 127);
  let w4 := w3.alloc (.cells #[.slice b1_0.a b1_0.len b1_0.cap, .slice b1_1.a b1_1.len b1_1.cap, .slice b1_2.a b1_2.len b1_2.cap, .slice b1_3.a b1_3.len b1_3.cap] 127);
  trystkeep_Mix.l2 R (newA w) (newA w3) 0 w4

def trystkeep_Mix.J0 (R : Value → World → Prop) (k : Nat) (fr : Fr) (w : World) : Prop :=
  cond (Nat.beq k 2) (dec [(2, .addr), (3, .addr), (5, (.int .i64))] fr fun x => trystkeep_Mix.l2 R x.1 x.2.1 x.2.2 w) (cond (Nat.beq k 1) (dec [(2, .addr), (3, .addr)] fr fun x => trystkeep_Mix.c1 R x.1 x.2 w) (False))

set_option maxRecDepth 100000 in
theorem trystkeep_Mix.lift {R : Value → World → Prop} {a0_0 : Sl} {a0_1 : Sl} {a0_2 : Sl} {a0_3 : Sl} {b1_0 : Sl} {b1_1 : Sl} {b1_2 : Sl} {b1_3 : Sl} {w : World} (h : trystkeep_Mix.main R a0_0 a0_1 a0_2 a0_3 b1_0 b1_1 b1_2 b1_3 w) : CallsV Tryd.prog n_trystkeep_Mix #[.agg #[.slice a0_0.a a0_0.len a0_0.cap, .slice a0_1.a a0_1.len a0_1.cap, .slice a0_2.a a0_2.len a0_2.cap, .slice a0_3.a a0_3.len a0_3.cap], .agg #[.slice b1_0.a b1_0.len b1_0.cap, .slice b1_1.a b1_1.len b1_1.cap, .slice b1_2.a b1_2.len b1_2.cap, .slice b1_3.a b1_3.len b1_3.cap]] w R :=
  liftCalls (c := (.seq (.leaf (cL (bd Tryd.f93))) (.seq (.seq (.leaf (cL (cL (cR (bd Tryd.f93))))) (.block 0 (.loop 2 (.seq (.seq (.leaf (cL (cL (cB (cB (cR (cL (cR (bd Tryd.f93))))))))) (.cnd (.tmp 7) (.leaf (cT (cR (cL (cB (cB (cR (cL (cR (bd Tryd.f93)))))))))) (.leaf (cE (cR (cL (cB (cB (cR (cL (cR (bd Tryd.f93)))))))))))) (.seq (.block 1 (.seq (.leaf (cL (cB (cL (cR (cB (cB (cR (cL (cR (bd Tryd.f93))))))))))) (.cnd (.tmp 19) (.seq (.leaf (cL (cT (cR (cB (cL (cR (cB (cB (cR (cL (cR (bd Tryd.f93))))))))))))) (.leaf (cR (cT (cR (cB (cL (cR (cB (cB (cR (cL (cR (bd Tryd.f93)))))))))))))) (.leaf (cE (cR (cB (cL (cR (cB (cB (cR (cL (cR (bd Tryd.f93))))))))))))))) (.leaf (cR (cR (cB (cB (cR (cL (cR (bd Tryd.f93)))))))))))))) (.cut 1 (.seq (.leaf (cL (cR (cR (bd Tryd.f93))))) (.leaf (cR (cR (cR (bd Tryd.f93)))))))))) (J := trystkeep_Mix.J0 R) LfYtoclhecldmahiaaDoor.mixed Tryd.func93 (by kernel_rfl) (by kernel_rfl) (mkSeq (mkSeq (mkCut (cutDef [(2, .addr), (3, .addr)] (fun x w => trystkeep_Mix.c1 R x.1 x.2 w) (fun _ _ => by kernel_rfl) (fun _ _ => by kernel_rfl)) (mkSeq mkLeaf mkLeaf)) (mkSeq (mkBlock (mkLoop (loopDef LfYtoclhecldmahiaaDoor.mixed [(2, .addr), (3, .addr), (5, (.int .i64))] (by kernel_rfl) (fun M2 x w => trystkeep_Mix.b2 R (fun y0 y1 y2 w => M2 (y0, y1, y2) w) x.1 x.2.1 x.2.2 w) (fun M2 => fun _ _ _ => False) (fun _ _ _ => by kernel_rfl) (fun M2 => (mkSeq (mkSeq mkLeaf (mkBlock (mkSeq (mkCnd (mkSeq mkLeaf mkLeaf) mkLeaf) mkLeaf))) (mkSeq (mkCnd mkLeaf mkLeaf) mkLeaf))) (fun x w => trystkeep_Mix.l2 R x.1 x.2.1 x.2.2 w) (by rintro ⟨c0, c1, s0⟩ w ⟨I, μ, h0, h1⟩; refine ⟨fun y w => y.1 = c0 ∧ y.2.1 = c1 ∧ I y.2.2 w, fun y w => μ y.2.2 w, ⟨rfl, rfl, h0⟩, ?_⟩; rintro ⟨d0, d1, t0⟩ w ⟨e0, e1, hI⟩; dsimp only at e0 e1 hI; subst e0; subst e1; exact h1 _ _ hI) (fun _ _ => by kernel_rfl)))) mkLeaf)) mkLeaf) (kcast (by kernel_rfl) h)

/-! trystref22_Perm -/
def trystref22_Perm.c2 (R : Value → World → Prop) (N1 : Sl → Int → Sl → Int → World → Prop) (l0 : Sl) (n1 : Int) (seen5 : Sl) (i6 : Int) (w : World) : Prop :=
  0 ≤ (i6 : Int) ∧ i6 < ((l0.len : Nat) : Int) ∧ ∃ q_1 : Addr, l0.a = some q_1 ∧
  ∃ x_2 : Int, w.cell? (q_1.add (i6 : Int).toNat) = some (.int .i64 x_2) ∧
  0 ≤ (x_2 : Int) ∧ x_2 < ((seen5.len : Nat) : Int) ∧ ∃ q_3 : Addr, seen5.a = some q_3 ∧
  Wr w (q_3.add (x_2 : Int).toNat) ∧
  (let w1 := w.setCell (q_3.add (x_2 : Int).toNat) (.bool true);
  (let i6_3 : Int := (IntKind.i64.wrap (i6 + 1));
  N1 l0 n1 seen5 i6_3 w1))

def trystref22_Perm.b1 (R : Value → World → Prop) (N1 : Sl → Int → Sl → Int → World → Prop) (l0 : Sl) (n1 : Int) (seen5 : Sl) (i6 : Int) (w : World) : Prop :=
  cond (decide ((i6 : Int) < n1))
  (0 ≤ (i6 : Int) ∧ i6 < ((l0.len : Nat) : Int) ∧ ∃ q_5 : Addr, l0.a = some q_5 ∧
  ∃ x_6 : Int, w.cell? (q_5.add (i6 : Int).toNat) = some (.int .i64 x_6) ∧
  cond (decide ((x_6 : Int) < 0))
  (R (.bool false) w)
  (0 ≤ (i6 : Int) ∧ i6 < ((l0.len : Nat) : Int) ∧ ∃ q_7 : Addr, l0.a = some q_7 ∧
  ∃ x_8 : Int, w.cell? (q_7.add (i6 : Int).toNat) = some (.int .i64 x_8) ∧
  cond (decide ((x_8 : Int) ≥ n1))
  (R (.bool false) w)
  (0 ≤ (i6 : Int) ∧ i6 < ((l0.len : Nat) : Int) ∧ ∃ q_9 : Addr, l0.a = some q_9 ∧
  ∃ x_10 : Int, w.cell? (q_9.add (i6 : Int).toNat) = some (.int .i64 x_10) ∧
  0 ≤ (x_10 : Int) ∧ x_10 < ((seen5.len : Nat) : Int) ∧ ∃ q_11 : Addr, seen5.a = some q_11 ∧
  ∃ b_12 : Bool, w.cell? (q_11.add (x_10 : Int).toNat) = some (.bool b_12) ∧
  cond b_12
  (R (.bool false) w)
  (trystref22_Perm.c2 R N1 l0 n1 seen5 i6 w))))
  (R (.bool true) w)

def trystref22_Perm.l1 (R : Value → World → Prop) (l0 : Sl) (n1 : Int) (seen5 : Sl) (i6 : Int) (w : World) : Prop :=
  ∃ (I : Int → World → Prop) (μ : Int → World → Nat), I i6 w ∧ ∀ s w, I s w → trystref22_Perm.b1 R (fun l0' n1' seen5' i6' w' => (l0' = l0 ∧ n1' = n1 ∧ seen5' = seen5 ∧ I i6' w') ∧ μ i6' w' < μ s w) l0 n1 seen5 s w

def trystref22_Perm.main (R : Value → World → Prop) (l0 : Sl) (n1 : Int) (w : World) : Prop :=
  cond ((((l0.len : Nat) : Int) : Int) != n1)
  (R (.bool false) w)
  (0 ≤ (n1 : Int) ∧ (n1 : Int) ≤ n1 ∧ (1 : Int) * n1 ≤ 281474976710656 ∧ (n1 : Int) ≤ 9223372036854775807 ∧
  (let w2 := w.alloc (.cells ((Array.range ((n1 : Int).toNat * 1)).map ((#[.bool false] : Array Value)[· % (#[.bool false] : Array Value).size]!)) 4);
  trystref22_Perm.l1 R l0 n1 ⟨(some (newA w)), (n1 : Int).toNat, (n1 : Int).toNat⟩ 0 w2))

def trystref22_Perm.J1 (R : Value → World → Prop) (N1 : Sl → Int → Sl → Int → World → Prop) (k : Nat) (fr : Fr) (w : World) : Prop :=
  cond (Nat.beq k 2) (dec [(0, .slice), (1, (.int .i64)), (5, .slice), (6, (.int .i64))] fr fun x => trystref22_Perm.c2 R N1 x.1 x.2.1 x.2.2.1 x.2.2.2 w) (False)

def trystref22_Perm.J0 (R : Value → World → Prop) (k : Nat) (fr : Fr) (w : World) : Prop :=
  cond (Nat.beq k 1) (dec [(0, .slice), (1, (.int .i64)), (5, .slice), (6, (.int .i64))] fr fun x => trystref22_Perm.l1 R x.1 x.2.1 x.2.2.1 x.2.2.2 w) (False)

set_option maxRecDepth 100000 in
theorem trystref22_Perm.lift {R : Value → World → Prop} {l0 : Sl} {n1 : Int} {w : World} (h : trystref22_Perm.main R l0 n1 w) : CallsV Tryd.prog n_trystref22_Perm #[.slice l0.a l0.len l0.cap, .int .i64 n1] w R :=
  liftCalls (c := (.seq (.leaf (cL (bd Tryd.f94))) (.seq (.seq (.leaf (cL (cL (cR (bd Tryd.f94))))) (.cnd (.tmp 10) (.seq (.leaf (cL (cT (cR (cL (cR (bd Tryd.f94))))))) (.leaf (cR (cT (cR (cL (cR (bd Tryd.f94)))))))) (.leaf (cE (cR (cL (cR (bd Tryd.f94)))))))) (.seq (.leaf (cL (cR (cR (bd Tryd.f94))))) (.seq (.seq (.leaf (cL (cL (cR (cR (cR (bd Tryd.f94))))))) (.block 0 (.loop 1 (.seq (.seq (.leaf (cL (cL (cB (cB (cR (cL (cR (cR (cR (bd Tryd.f94))))))))))) (.cnd (.tmp 15) (.leaf (cT (cR (cL (cB (cB (cR (cL (cR (cR (cR (bd Tryd.f94)))))))))))) (.leaf (cE (cR (cL (cB (cB (cR (cL (cR (cR (cR (bd Tryd.f94)))))))))))))) (.seq (.block 1 (.seq (.seq (.leaf (cL (cL (cB (cL (cR (cB (cB (cR (cL (cR (cR (cR (bd Tryd.f94)))))))))))))) (.cnd (.tmp 39) (.seq (.leaf (cL (cT (cR (cL (cB (cL (cR (cB (cB (cR (cL (cR (cR (cR (bd Tryd.f94)))))))))))))))) (.leaf (cR (cT (cR (cL (cB (cL (cR (cB (cB (cR (cL (cR (cR (cR (bd Tryd.f94))))))))))))))))) (.leaf (cE (cR (cL (cB (cL (cR (cB (cB (cR (cL (cR (cR (cR (bd Tryd.f94))))))))))))))))) (.cut 2 (.leaf (cR (cB (cL (cR (cB (cB (cR (cL (cR (cR (cR (bd Tryd.f94)))))))))))))))) (.leaf (cR (cR (cB (cB (cR (cL (cR (cR (cR (bd Tryd.f94)))))))))))))))) (.seq (.leaf (cL (cR (cR (cR (cR (bd Tryd.f94))))))) (.leaf (cR (cR (cR (cR (cR (bd Tryd.f94))))))))))))) (J := trystref22_Perm.J0 R) LfYtoclhecldmahiaaDoor.mixed Tryd.func94 (by kernel_rfl) (by kernel_rfl) (mkSeq (mkSeq (mkSeq (mkSeq (mkSeq mkLeaf mkLeaf) (mkSeq (mkBlock (mkLoop (loopDef LfYtoclhecldmahiaaDoor.mixed [(0, .slice), (1, (.int .i64)), (5, .slice), (6, (.int .i64))] (by kernel_rfl) (fun M1 x w => trystref22_Perm.b1 R (fun y0 y1 y2 y3 w => M1 (y0, y1, y2, y3) w) x.1 x.2.1 x.2.2.1 x.2.2.2 w) (fun M1 => trystref22_Perm.J1 R (fun y0 y1 y2 y3 w => M1 (y0, y1, y2, y3) w)) (fun _ _ _ => by kernel_rfl) (fun M1 => (mkSeq (mkSeq mkLeaf (mkBlock (mkSeq (mkCut (cutDef [(0, .slice), (1, (.int .i64)), (5, .slice), (6, (.int .i64))] (fun x w => trystref22_Perm.c2 R (fun y0 y1 y2 y3 w => M1 (y0, y1, y2, y3) w) x.1 x.2.1 x.2.2.1 x.2.2.2 w) (fun _ _ => by kernel_rfl) (fun _ _ => by kernel_rfl)) mkLeaf) (mkSeq (mkCnd (mkSeq mkLeaf mkLeaf) mkLeaf) mkLeaf)))) (mkSeq (mkCnd mkLeaf mkLeaf) mkLeaf))) (fun x w => trystref22_Perm.l1 R x.1 x.2.1 x.2.2.1 x.2.2.2 w) (by rintro ⟨c0, c1, c2, s0⟩ w ⟨I, μ, h0, h1⟩; refine ⟨fun y w => y.1 = c0 ∧ y.2.1 = c1 ∧ y.2.2.1 = c2 ∧ I y.2.2.2 w, fun y w => μ y.2.2.2 w, ⟨rfl, rfl, rfl, h0⟩, ?_⟩; rintro ⟨d0, d1, d2, t0⟩ w ⟨e0, e1, e2, hI⟩; dsimp only at e0 e1 e2 hI; subst e0; subst e1; subst e2; exact h1 _ _ hI) (fun _ _ => by kernel_rfl)))) mkLeaf)) mkLeaf) (mkSeq (mkCnd (mkSeq mkLeaf mkLeaf) mkLeaf) mkLeaf)) mkLeaf) (kcast (by kernel_rfl) h)

end Go.Proofs.YtoclhecldmahiaaDoor
