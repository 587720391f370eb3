/-
  What the code of these functions comes to, and that it suffices for the call. Written by a program of ours, for this claim.
-/
import Derived.Test.YtoclhecldmahiaaDoorKwFns
set_option linter.unusedVariables false
set_option linter.unusedVariables false
namespace Go.Proofs.YtoclhecldmahiaaDoor
open Go.Lf
/-! know_newKnower -/
def know_newKnower.c2 (R : Value → World → Prop) (N1 : Option Addr → Option Addr → Int → Int → World → Prop) (a0 : Option Addr) (k4 : Option Addr) (i6 : Int) (t7 : Addr) (t38 : Int) (t39 : Int) (t168 : Bool) (w : World) : Prop :=
  cond t168
  (∃ (a_1 : Option Addr) (l_2 c_3 : Nat), w.cell? (t7.add 2) = some (.slice a_1 l_2 c_3) ∧
  cond ((((l_2 : Nat) : Int) : Int) == 0)
  (let w1 := w.alloc (.cells #[.int .i64 i6] 3);
  CallsV Tryd.prog n_know_knower_learn #[.pointer k4, .slice (some (newA w)) 1 1] w1 (fun v_4 w2 =>
  v_4 = .tuple #[] ∧
  N1 a0 k4 t38 (IntKind.i64.wrap (t39 + 1)) w2))
  (N1 a0 k4 t38 (IntKind.i64.wrap (t39 + 1)) w))
  (N1 a0 k4 t38 (IntKind.i64.wrap (t39 + 1)) w)

def know_newKnower.c3 (R : Value → World → Prop) (N1 : Option Addr → Option Addr → Int → Int → World → Prop) (a0 : Option Addr) (k4 : Option Addr) (i6 : Int) (t7 : Addr) (t38 : Int) (t39 : Int) (w : World) : Prop :=
  ∃ x_5 : Int, w.cell? t7 = some (.int .i64 x_5) ∧
  cond ((x_5 : Int) == 5)
  (∃ S_6 : World → Prop, S_6 w.drew ∧
  ∃ q_7 : Addr, k4 = some q_7 ∧
  ∃ (a_8 : Option Addr) (l_9 c_10 : Nat), (∀ x, S_6 x → x.cell? (q_7.add 5) = some (.slice a_8 l_9 c_10)) ∧
  ∃ (a_11 : Option Addr) (l_12 c_13 : Nat), (∀ x, S_6 x → x.cell? (t7.add 2) = some (.slice a_11 l_12 c_13)) ∧
  0 ≤ (0 : Int) ∧ 0 < ((l_12 : Nat) : Int) ∧ ∃ q_14 : Addr, a_11 = some q_14 ∧
  ∃ x_15 : Int, (∀ x, S_6 x → x.cell? (q_14.add (0 : Int).toNat) = some (.int .i64 x_15)) ∧
  0 ≤ (x_15 : Int) ∧ x_15 < ((l_9 : Nat) : Int) ∧ ∃ q_16 : Addr, a_8 = some q_16 ∧
  Wr w.drew (q_16.add (x_15 : Int).toNat) ∧
  (let w3 := w.drew.setCell (q_16.add (x_15 : Int).toNat) (.int .i64 i6);
  N1 a0 k4 t38 (IntKind.i64.wrap (t39 + 1)) w3))
  (cond ((x_5 : Int) == 7)
  (∃ S_17 : World → Prop, S_17 w.drew ∧
  ∃ q_18 : Addr, k4 = some q_18 ∧
  ∃ (a_19 : Option Addr) (l_20 c_21 : Nat), (∀ x, S_17 x → x.cell? (q_18.add 6) = some (.slice a_19 l_20 c_21)) ∧
  ∃ (a_22 : Option Addr) (l_23 c_24 : Nat), (∀ x, S_17 x → x.cell? (t7.add 2) = some (.slice a_22 l_23 c_24)) ∧
  0 ≤ (0 : Int) ∧ 0 < ((l_23 : Nat) : Int) ∧ ∃ q_25 : Addr, a_22 = some q_25 ∧
  ∃ x_26 : Int, (∀ x, S_17 x → x.cell? (q_25.add (0 : Int).toNat) = some (.int .i64 x_26)) ∧
  ∃ q_27 : Addr, k4 = some q_27 ∧
  ∃ (a_28 : Option Addr) (l_29 c_30 : Nat), (∀ x, S_17 x → x.cell? (q_27.add 6) = some (.slice a_28 l_29 c_30)) ∧
  ∃ (a_31 : Option Addr) (l_32 c_33 : Nat), (∀ x, S_17 x → x.cell? (t7.add 2) = some (.slice a_31 l_32 c_33)) ∧
  0 ≤ (0 : Int) ∧ 0 < ((l_32 : Nat) : Int) ∧ ∃ q_34 : Addr, a_31 = some q_34 ∧
  ∃ x_35 : Int, (∀ x, S_17 x → x.cell? (q_34.add (0 : Int).toNat) = some (.int .i64 x_35)) ∧
  0 ≤ (x_35 : Int) ∧ x_35 < ((l_29 : Nat) : Int) ∧ ∃ q_36 : Addr, a_28 = some q_36 ∧
  ∃ (a_37 : Option Addr) (l_38 c_39 : Nat), (∀ x, S_17 x → x.cell? (q_36.add (x_35 : Int).toNat) = some (.slice a_37 l_38 c_39)) ∧
  let w4 := w.drew.alloc (.cells #[.int .i64 i6] 3);
  S_17 w4 ∧
  ∃ (a_40 : Option Addr) (l_41 c_42 : Nat), ∃ w5 : World, (builtin .append #[29, 29] 29 #[] #[.slice a_37 l_38 c_39, .slice (some (newA w.drew)) 1 1]).run Tryd.prog w4 = .ok (.value (.slice a_40 l_41 c_42)) w5 ∧
  S_17 w5 ∧
  0 ≤ (x_26 : Int) ∧ x_26 < ((l_20 : Nat) : Int) ∧ ∃ q_43 : Addr, a_19 = some q_43 ∧
  Wr w5 (q_43.add (x_26 : Int).toNat) ∧
  (let w6 := w5.setCell (q_43.add (x_26 : Int).toNat) (.slice a_40 l_41 c_42);
  ∃ S_44 : World → Prop, S_44 w6.drew ∧
  ∃ q_45 : Addr, k4 = some q_45 ∧
  ∃ (a_46 : Option Addr) (l_47 c_48 : Nat), (∀ x, S_44 x → x.cell? (q_45.add 7) = some (.slice a_46 l_47 c_48)) ∧
  ∃ (a_49 : Option Addr) (l_50 c_51 : Nat), (∀ x, S_44 x → x.cell? (t7.add 2) = some (.slice a_49 l_50 c_51)) ∧
  0 ≤ (1 : Int) ∧ 1 < ((l_50 : Nat) : Int) ∧ ∃ q_52 : Addr, a_49 = some q_52 ∧
  ∃ x_53 : Int, (∀ x, S_44 x → x.cell? (q_52.add (1 : Int).toNat) = some (.int .i64 x_53)) ∧
  ∃ q_54 : Addr, k4 = some q_54 ∧
  ∃ (a_55 : Option Addr) (l_56 c_57 : Nat), (∀ x, S_44 x → x.cell? (q_54.add 7) = some (.slice a_55 l_56 c_57)) ∧
  ∃ (a_58 : Option Addr) (l_59 c_60 : Nat), (∀ x, S_44 x → x.cell? (t7.add 2) = some (.slice a_58 l_59 c_60)) ∧
  0 ≤ (1 : Int) ∧ 1 < ((l_59 : Nat) : Int) ∧ ∃ q_61 : Addr, a_58 = some q_61 ∧
  ∃ x_62 : Int, (∀ x, S_44 x → x.cell? (q_61.add (1 : Int).toNat) = some (.int .i64 x_62)) ∧
  0 ≤ (x_62 : Int) ∧ x_62 < ((l_56 : Nat) : Int) ∧ ∃ q_63 : Addr, a_55 = some q_63 ∧
  ∃ (a_64 : Option Addr) (l_65 c_66 : Nat), (∀ x, S_44 x → x.cell? (q_63.add (x_62 : Int).toNat) = some (.slice a_64 l_65 c_66)) ∧
  let w7 := w6.drew.alloc (.cells #[.int .i64 i6] 3);
  S_44 w7 ∧
  ∃ (a_67 : Option Addr) (l_68 c_69 : Nat), ∃ w8 : World, (builtin .append #[29, 29] 29 #[] #[.slice a_64 l_65 c_66, .slice (some (newA w6.drew)) 1 1]).run Tryd.prog w7 = .ok (.value (.slice a_67 l_68 c_69)) w8 ∧
  S_44 w8 ∧
  0 ≤ (x_53 : Int) ∧ x_53 < ((l_47 : Nat) : Int) ∧ ∃ q_70 : Addr, a_46 = some q_70 ∧
  Wr w8 (q_70.add (x_53 : Int).toNat) ∧
  (let w9 := w8.setCell (q_70.add (x_53 : Int).toNat) (.slice a_67 l_68 c_69);
  N1 a0 k4 t38 (IntKind.i64.wrap (t39 + 1)) w9)))
  (cond ((x_5 : Int) == 6)
  (∃ S_71 : World → Prop, S_71 w.drew ∧
  ∃ q_72 : Addr, k4 = some q_72 ∧
  ∃ (a_73 : Option Addr) (l_74 c_75 : Nat), (∀ x, S_71 x → x.cell? (q_72.add 7) = some (.slice a_73 l_74 c_75)) ∧
  ∃ (a_76 : Option Addr) (l_77 c_78 : Nat), (∀ x, S_71 x → x.cell? (t7.add 2) = some (.slice a_76 l_77 c_78)) ∧
  0 ≤ (0 : Int) ∧ 0 < ((l_77 : Nat) : Int) ∧ ∃ q_79 : Addr, a_76 = some q_79 ∧
  ∃ x_80 : Int, (∀ x, S_71 x → x.cell? (q_79.add (0 : Int).toNat) = some (.int .i64 x_80)) ∧
  ∃ q_81 : Addr, k4 = some q_81 ∧
  ∃ (a_82 : Option Addr) (l_83 c_84 : Nat), (∀ x, S_71 x → x.cell? (q_81.add 7) = some (.slice a_82 l_83 c_84)) ∧
  ∃ (a_85 : Option Addr) (l_86 c_87 : Nat), (∀ x, S_71 x → x.cell? (t7.add 2) = some (.slice a_85 l_86 c_87)) ∧
  0 ≤ (0 : Int) ∧ 0 < ((l_86 : Nat) : Int) ∧ ∃ q_88 : Addr, a_85 = some q_88 ∧
  ∃ x_89 : Int, (∀ x, S_71 x → x.cell? (q_88.add (0 : Int).toNat) = some (.int .i64 x_89)) ∧
  0 ≤ (x_89 : Int) ∧ x_89 < ((l_83 : Nat) : Int) ∧ ∃ q_90 : Addr, a_82 = some q_90 ∧
  ∃ (a_91 : Option Addr) (l_92 c_93 : Nat), (∀ x, S_71 x → x.cell? (q_90.add (x_89 : Int).toNat) = some (.slice a_91 l_92 c_93)) ∧
  let w10 := w.drew.alloc (.cells #[.int .i64 i6] 3);
  S_71 w10 ∧
  ∃ (a_94 : Option Addr) (l_95 c_96 : Nat), ∃ w11 : World, (builtin .append #[29, 29] 29 #[] #[.slice a_91 l_92 c_93, .slice (some (newA w.drew)) 1 1]).run Tryd.prog w10 = .ok (.value (.slice a_94 l_95 c_96)) w11 ∧
  S_71 w11 ∧
  0 ≤ (x_80 : Int) ∧ x_80 < ((l_74 : Nat) : Int) ∧ ∃ q_97 : Addr, a_73 = some q_97 ∧
  Wr w11 (q_97.add (x_80 : Int).toNat) ∧
  (let w12 := w11.setCell (q_97.add (x_80 : Int).toNat) (.slice a_94 l_95 c_96);
  N1 a0 k4 t38 (IntKind.i64.wrap (t39 + 1)) w12))
  (cond ((x_5 : Int) == 2)
  (let w13 := w.alloc (.cells #[.int .i64 i6] 3);
  CallsV Tryd.prog n_know_knower_learn #[.pointer k4, .slice (some (newA w)) 1 1] w13 (fun v_98 w14 =>
  v_98 = .tuple #[] ∧
  N1 a0 k4 t38 (IntKind.i64.wrap (t39 + 1)) w14))
  (cond ((x_5 : Int) == 3)
  (know_newKnower.c2 R N1 a0 k4 i6 t7 t38 t39 ((x_5 : Int) == 3) w)
  (know_newKnower.c2 R N1 a0 k4 i6 t7 t38 t39 ((x_5 : Int) == 9) w)))))

def know_newKnower.b4 (R : Value → World → Prop) (N1 : Option Addr → Option Addr → Int → Int → World → Prop) (N4 : Option Addr → Option Addr → Int → Addr → Int → Int → Sl → Int → Int → World → Prop) (a0 : Option Addr) (k4 : Option Addr) (i6 : Int) (t7 : Addr) (t38 : Int) (t39 : Int) (t55 : Sl) (t56 : Int) (t57 : Int) (w : World) : Prop :=
  cond (decide ((t57 : Int) < t56))
  (0 ≤ (t57 : Int) ∧ t57 < ((t55.len : Nat) : Int) ∧ ∃ q_99 : Addr, t55.a = some q_99 ∧
  ∃ x_100 : Int, w.cell? (q_99.add (t57 : Int).toNat) = some (.int .i64 x_100) ∧
  ∃ S_101 : World → Prop, S_101 w.drew ∧
  ∃ q_102 : Addr, k4 = some q_102 ∧
  ∃ (a_103 : Option Addr) (l_104 c_105 : Nat), (∀ x, S_101 x → x.cell? (q_102.add 4) = some (.slice a_103 l_104 c_105)) ∧
  ∃ q_106 : Addr, k4 = some q_106 ∧
  ∃ (a_107 : Option Addr) (l_108 c_109 : Nat), (∀ x, S_101 x → x.cell? (q_106.add 4) = some (.slice a_107 l_108 c_109)) ∧
  0 ≤ (x_100 : Int) ∧ x_100 < ((l_108 : Nat) : Int) ∧ ∃ q_110 : Addr, a_107 = some q_110 ∧
  ∃ (a_111 : Option Addr) (l_112 c_113 : Nat), (∀ x, S_101 x → x.cell? (q_110.add (x_100 : Int).toNat) = some (.slice a_111 l_112 c_113)) ∧
  let w15 := w.drew.alloc (.cells #[.int .i64 i6] 3);
  S_101 w15 ∧
  ∃ (a_114 : Option Addr) (l_115 c_116 : Nat), ∃ w16 : World, (builtin .append #[29, 29] 29 #[] #[.slice a_111 l_112 c_113, .slice (some (newA w.drew)) 1 1]).run Tryd.prog w15 = .ok (.value (.slice a_114 l_115 c_116)) w16 ∧
  S_101 w16 ∧
  0 ≤ (x_100 : Int) ∧ x_100 < ((l_104 : Nat) : Int) ∧ ∃ q_117 : Addr, a_103 = some q_117 ∧
  Wr w16 (q_117.add (x_100 : Int).toNat) ∧
  (let w17 := w16.setCell (q_117.add (x_100 : Int).toNat) (.slice a_114 l_115 c_116);
  N4 a0 k4 i6 t7 t38 t39 t55 t56 (IntKind.i64.wrap (t57 + 1)) w17))
  (know_newKnower.c3 R N1 a0 k4 i6 t7 t38 t39 w)

def know_newKnower.l4 (R : Value → World → Prop) (N1 : Option Addr → Option Addr → Int → Int → World → Prop) (a0 : Option Addr) (k4 : Option Addr) (i6 : Int) (t7 : Addr) (t38 : Int) (t39 : Int) (t55 : Sl) (t56 : Int) (t57 : Int) (w : World) : Prop :=
  ∃ (I : Int → World → Prop) (μ : Int → World → Nat), I t57 w ∧ ∀ s w, I s w → know_newKnower.b4 R N1 (fun a0' k4' i6' t7' t38' t39' t55' t56' t57' w' => (a0' = a0 ∧ k4' = k4 ∧ i6' = i6 ∧ t7' = t7 ∧ t38' = t38 ∧ t39' = t39 ∧ t55' = t55 ∧ t56' = t56 ∧ I t57' w') ∧ μ t57' w' < μ s w) a0 k4 i6 t7 t38 t39 t55 t56 s w

def know_newKnower.b1 (R : Value → World → Prop) (N1 : Option Addr → Option Addr → Int → Int → World → Prop) (a0 : Option Addr) (k4 : Option Addr) (t38 : Int) (t39 : Int) (w : World) : Prop :=
  cond (decide ((t39 : Int) < t38))
  (CallsV Tryd.prog n_term_Arena_At #[.pointer a0, .int .i64 t39] w (fun v_118 w18 =>
  ∃ x_119 : Int, ∃ x_120 : Int, ∃ (a_121 : Option Addr) (l_122 c_123 : Nat), v_118 = .agg #[.int .i64 x_119, .int .i64 x_120, .slice a_121 l_122 c_123] ∧
  let w19 := w18.alloc (.cells #[.int .i64 0, .int .i64 0, .slice none 0 0] 98);
  (∀ j, j < 3 → Wr w19 ((newA w18).add j)) ∧
  (let w20 := setCells (newA w18) [.int .i64 x_119, .int .i64 x_120, .slice a_121 l_122 c_123] 0 w19;
  ∃ S_124 : World → Prop, S_124 w20.drew ∧
  ∃ q_125 : Addr, k4 = some q_125 ∧
  ∃ (a_126 : Option Addr) (l_127 c_128 : Nat), (∀ x, S_124 x → x.cell? (q_125.add 3) = some (.slice a_126 l_127 c_128)) ∧
  ∃ (a_129 : Option Addr) (l_130 c_131 : Nat), (∀ x, S_124 x → x.cell? ((newA w18).add 2) = some (.slice a_129 l_130 c_131)) ∧
  0 ≤ (t39 : Int) ∧ t39 < ((l_127 : Nat) : Int) ∧ ∃ q_132 : Addr, a_126 = some q_132 ∧
  Wr w20.drew (q_132.add (t39 : Int).toNat) ∧
  (let w21 := w20.drew.setCell (q_132.add (t39 : Int).toNat) (.int .i64 ((l_130 : Nat) : Int));
  ∃ (a_133 : Option Addr) (l_134 c_135 : Nat), w21.cell? ((newA w18).add 2) = some (.slice a_133 l_134 c_135) ∧
  know_newKnower.l4 R N1 a0 k4 t39 (newA w18) t38 t39 ⟨a_133, l_134, c_135⟩ ((l_134 : Nat) : Int) 0 w21))))
  (R (.pointer k4) w)

def know_newKnower.l1 (R : Value → World → Prop) (a0 : Option Addr) (k4 : Option Addr) (t38 : Int) (t39 : Int) (w : World) : Prop :=
  ∃ (I : Int → World → Prop) (μ : Int → World → Nat), I t39 w ∧ ∀ s w, I s w → know_newKnower.b1 R (fun a0' k4' t38' t39' w' => (a0' = a0 ∧ k4' = k4 ∧ t38' = t38 ∧ I t39' w') ∧ μ t39' w' < μ s w) a0 k4 t38 s w

def know_newKnower.c5 (R : Value → World → Prop) (a0 : Option Addr) (n3 : Int) (k4 : Option Addr) (w : World) : Prop :=
  know_newKnower.l1 R a0 k4 n3 0 w

def know_newKnower.b6 (R : Value → World → Prop) (N6 : Option Addr → Int → Option Addr → Int → Int → World → Prop) (a0 : Option Addr) (n3 : Int) (k4 : Option Addr) (t27 : Int) (t28 : Int) (w : World) : Prop :=
  cond (decide ((t28 : Int) < t27))
  (∃ q_136 : Addr, k4 = some q_136 ∧
  ∃ (a_137 : Option Addr) (l_138 c_139 : Nat), w.cell? (q_136.add 5) = some (.slice a_137 l_138 c_139) ∧
  0 ≤ (t28 : Int) ∧ t28 < ((l_138 : Nat) : Int) ∧ ∃ q_140 : Addr, a_137 = some q_140 ∧
  Wr w (q_140.add (t28 : Int).toNat) ∧
  (let w22 := w.setCell (q_140.add (t28 : Int).toNat) (.int .i64 (-1));
  N6 a0 n3 k4 t27 (IntKind.i64.wrap (t28 + 1)) w22))
  (know_newKnower.c5 R a0 n3 k4 w)

def know_newKnower.l6 (R : Value → World → Prop) (a0 : Option Addr) (n3 : Int) (k4 : Option Addr) (t27 : Int) (t28 : Int) (w : World) : Prop :=
  ∃ (I : Int → World → Prop) (μ : Int → World → Nat), I t28 w ∧ ∀ s w, I s w → know_newKnower.b6 R (fun a0' n3' k4' t27' t28' w' => (a0' = a0 ∧ n3' = n3 ∧ k4' = k4 ∧ t27' = t27 ∧ I t28' w') ∧ μ t28' w' < μ s w) a0 n3 k4 t27 s w

def know_newKnower.mks : Nat → MkS
    | 2 => ⟨1, 1, .bool false, 4⟩
    | 4 => ⟨8, 1, .int .i64 0, 3⟩
    | 6 => ⟨24, 1, .slice none 0 0, 29⟩
    | 8 => ⟨8, 1, .int .i64 0, 3⟩
    | 10 => ⟨24, 1, .slice none 0 0, 29⟩
    | 12 => ⟨24, 1, .slice none 0 0, 29⟩
    | _ => ⟨0, 0, undef, 0⟩

def know_newKnower.mkd : Nat → Nat
    | 2 => 14
    | 4 => 16
    | 6 => 18
    | 8 => 20
    | 10 => 22
    | 12 => 24
    | _ => 0

def know_newKnower.p7 (R : Value → World → Prop) (a0 : Option Addr) (n3 : Int) (w : World) : Prop :=
  MkP know_newKnower.mks n3 (fun (A_142 : Nat → Addr) (w23 : World) =>
  let w24 := w23.alloc (.cells #[.pointer a0, .slice (some (A_142 2)) ((n3 : Int).toNat) ((n3 : Int).toNat), .slice none 0 0, .slice (some (A_142 4)) ((n3 : Int).toNat) ((n3 : Int).toNat), .slice (some (A_142 6)) ((n3 : Int).toNat) ((n3 : Int).toNat), .slice (some (A_142 8)) ((n3 : Int).toNat) ((n3 : Int).toNat), .slice (some (A_142 10)) ((n3 : Int).toNat) ((n3 : Int).toNat), .slice (some (A_142 12)) ((n3 : Int).toNat) ((n3 : Int).toNat)] 180);
  know_newKnower.l6 R a0 n3 (some (newA w23)) n3 0 w24) 6 [2, 4, 6, 8, 10, 12] (fun _ => ⟨0, 0, none⟩) w.drew

def know_newKnower.main (R : Value → World → Prop) (a0 : Option Addr) (w : World) : Prop :=
  CallsV Tryd.prog n_term_Arena_Len #[.pointer a0] w (fun v_143 w25 =>
  ∃ x_144 : Int, v_143 = .int .i64 x_144 ∧
  know_newKnower.p7 R a0 x_144 w25)

def know_newKnower.J1 (R : Value → World → Prop) (N1 : Option Addr → Option Addr → Int → Int → World → Prop) (k : Nat) (fr : Fr) (w : World) : Prop :=
  cond (Nat.beq k 4) (dec [(0, .ptr), (4, .ptr), (6, (.int .i64)), (7, .addr), (38, (.int .i64)), (39, (.int .i64)), (55, .slice), (56, (.int .i64)), (57, (.int .i64))] fr fun x => know_newKnower.l4 R N1 x.1 x.2.1 x.2.2.1 x.2.2.2.1 x.2.2.2.2.1 x.2.2.2.2.2.1 x.2.2.2.2.2.2.1 x.2.2.2.2.2.2.2.1 x.2.2.2.2.2.2.2.2 w) (cond (Nat.beq k 3) (dec [(0, .ptr), (4, .ptr), (6, (.int .i64)), (7, .addr), (38, (.int .i64)), (39, (.int .i64))] fr fun x => know_newKnower.c3 R N1 x.1 x.2.1 x.2.2.1 x.2.2.2.1 x.2.2.2.2.1 x.2.2.2.2.2 w) (cond (Nat.beq k 2) (dec [(0, .ptr), (4, .ptr), (6, (.int .i64)), (7, .addr), (38, (.int .i64)), (39, (.int .i64)), (168, .bool)] fr fun x => know_newKnower.c2 R N1 x.1 x.2.1 x.2.2.1 x.2.2.2.1 x.2.2.2.2.1 x.2.2.2.2.2.1 x.2.2.2.2.2.2 w) (False)))

def know_newKnower.J0 (R : Value → World → Prop) (k : Nat) (fr : Fr) (w : World) : Prop :=
  cond (Nat.beq k 7) (dec [(0, .ptr), (3, (.int .i64))] fr fun x => know_newKnower.p7 R x.1 x.2 w) (cond (Nat.beq k 6) (dec [(0, .ptr), (3, (.int .i64)), (4, .ptr), (27, (.int .i64)), (28, (.int .i64))] fr fun x => know_newKnower.l6 R x.1 x.2.1 x.2.2.1 x.2.2.2.1 x.2.2.2.2 w) (cond (Nat.beq k 5) (dec [(0, .ptr), (3, (.int .i64)), (4, .ptr)] fr fun x => know_newKnower.c5 R x.1 x.2.1 x.2.2 w) (cond (Nat.beq k 1) (dec [(0, .ptr), (4, .ptr), (38, (.int .i64)), (39, (.int .i64))] fr fun x => know_newKnower.l1 R x.1 x.2.1 x.2.2.1 x.2.2.2 w) (False))))

set_option maxRecDepth 100000 in
theorem know_newKnower.lift {R : Value → World → Prop} {a0 : Option Addr} {w : World} (h : know_newKnower.main R a0 w) : CallsV Tryd.prog n_know_newKnower #[.pointer a0] w R :=
  liftCalls (c := (.seq (.leaf (cL (bd Tryd.f120))) (.seq (.leaf (cL (cR (bd Tryd.f120)))) (.seq (.prim 7 (cL (cR (cR (bd Tryd.f120))))) (.seq (.seq (.leaf (cL (cL (cR (cR (cR (bd Tryd.f120))))))) (.block 0 (.loop 6 (.seq (.leaf (cL (cB (cB (cR (cL (cR (cR (cR (bd Tryd.f120)))))))))) (.seq (.cnd (.tmp 29) (.leaf (cT (cL (cR (cB (cB (cR (cL (cR (cR (cR (bd Tryd.f120)))))))))))) (.leaf (cE (cL (cR (cB (cB (cR (cL (cR (cR (cR (bd Tryd.f120))))))))))))) (.seq (.block 1 (.seq (.leaf (cL (cB (cL (cR (cR (cB (cB (cR (cL (cR (cR (cR (bd Tryd.f120)))))))))))))) (.leaf (cR (cB (cL (cR (cR (cB (cB (cR (cL (cR (cR (cR (bd Tryd.f120)))))))))))))))) (.leaf (cR (cR (cR (cB (cB (cR (cL (cR (cR (cR (bd Tryd.f120)))))))))))))))))) (.cut 5 (.seq (.seq (.leaf (cL (cL (cR (cR (cR (cR (bd Tryd.f120)))))))) (.block 2 (.loop 1 (.seq (.leaf (cL (cB (cB (cR (cL (cR (cR (cR (cR (bd Tryd.f120))))))))))) (.seq (.cnd (.tmp 40) (.leaf (cT (cL (cR (cB (cB (cR (cL (cR (cR (cR (cR (bd Tryd.f120))))))))))))) (.leaf (cE (cL (cR (cB (cB (cR (cL (cR (cR (cR (cR (bd Tryd.f120)))))))))))))) (.seq (.block 3 (.seq (.leaf (cL (cB (cL (cR (cR (cB (cB (cR (cL (cR (cR (cR (cR (bd Tryd.f120))))))))))))))) (.seq (.leaf (cL (cR (cB (cL (cR (cR (cB (cB (cR (cL (cR (cR (cR (cR (bd Tryd.f120)))))))))))))))) (.seq (.leaf (cL (cR (cR (cB (cL (cR (cR (cB (cB (cR (cL (cR (cR (cR (cR (bd Tryd.f120))))))))))))))))) (.seq (.seq (.leaf (cL (cL (cR (cR (cR (cB (cL (cR (cR (cB (cB (cR (cL (cR (cR (cR (cR (bd Tryd.f120))))))))))))))))))) (.block 4 (.loop 4 (.seq (.leaf (cL (cB (cB (cR (cL (cR (cR (cR (cB (cL (cR (cR (cB (cB (cR (cL (cR (cR (cR (cR (bd Tryd.f120)))))))))))))))))))))) (.seq (.cnd (.tmp 58) (.leaf (cT (cL (cR (cB (cB (cR (cL (cR (cR (cR (cB (cL (cR (cR (cB (cB (cR (cL (cR (cR (cR (cR (bd Tryd.f120)))))))))))))))))))))))) (.leaf (cE (cL (cR (cB (cB (cR (cL (cR (cR (cR (cB (cL (cR (cR (cB (cB (cR (cL (cR (cR (cR (cR (bd Tryd.f120))))))))))))))))))))))))) (.seq (.block 5 (.seq (.leaf (cL (cB (cL (cR (cR (cB (cB (cR (cL (cR (cR (cR (cB (cL (cR (cR (cB (cB (cR (cL (cR (cR (cR (cR (bd Tryd.f120)))))))))))))))))))))))))) (.leaf (cR (cB (cL (cR (cR (cB (cB (cR (cL (cR (cR (cR (cB (cL (cR (cR (cB (cB (cR (cL (cR (cR (cR (cR (bd Tryd.f120)))))))))))))))))))))))))))) (.leaf (cR (cR (cR (cB (cB (cR (cL (cR (cR (cR (cB (cL (cR (cR (cB (cB (cR (cL (cR (cR (cR (cR (bd Tryd.f120)))))))))))))))))))))))))))))) (.cut 3 (.seq (.leaf (cL (cR (cR (cR (cR (cB (cL (cR (cR (cB (cB (cR (cL (cR (cR (cR (cR (bd Tryd.f120))))))))))))))))))) (.block 6 (.seq (.leaf (cL (cB (cR (cR (cR (cR (cR (cB (cL (cR (cR (cB (cB (cR (cL (cR (cR (cR (cR (bd Tryd.f120))))))))))))))))))))) (.cnd (.tmp 80) (.leaf (cT (cR (cB (cR (cR (cR (cR (cR (cB (cL (cR (cR (cB (cB (cR (cL (cR (cR (cR (cR (bd Tryd.f120)))))))))))))))))))))) (.seq (.leaf (cL (cE (cR (cB (cR (cR (cR (cR (cR (cB (cL (cR (cR (cB (cB (cR (cL (cR (cR (cR (cR (bd Tryd.f120))))))))))))))))))))))) (.cnd (.tmp 92) (.seq (.leaf (cL (cT (cR (cE (cR (cB (cR (cR (cR (cR (cR (cB (cL (cR (cR (cB (cB (cR (cL (cR (cR (cR (cR (bd Tryd.f120))))))))))))))))))))))))) (.leaf (cR (cT (cR (cE (cR (cB (cR (cR (cR (cR (cR (cB (cL (cR (cR (cB (cB (cR (cL (cR (cR (cR (cR (bd Tryd.f120)))))))))))))))))))))))))) (.seq (.leaf (cL (cE (cR (cE (cR (cB (cR (cR (cR (cR (cR (cB (cL (cR (cR (cB (cB (cR (cL (cR (cR (cR (cR (bd Tryd.f120))))))))))))))))))))))))) (.cnd (.tmp 138) (.leaf (cT (cR (cE (cR (cE (cR (cB (cR (cR (cR (cR (cR (cB (cL (cR (cR (cB (cB (cR (cL (cR (cR (cR (cR (bd Tryd.f120)))))))))))))))))))))))))) (.seq (.leaf (cL (cE (cR (cE (cR (cE (cR (cB (cR (cR (cR (cR (cR (cB (cL (cR (cR (cB (cB (cR (cL (cR (cR (cR (cR (bd Tryd.f120))))))))))))))))))))))))))) (.cnd (.tmp 162) (.leaf (cT (cR (cE (cR (cE (cR (cE (cR (cB (cR (cR (cR (cR (cR (cB (cL (cR (cR (cB (cB (cR (cL (cR (cR (cR (cR (bd Tryd.f120)))))))))))))))))))))))))))) (.seq (.seq (.leaf (cL (cL (cE (cR (cE (cR (cE (cR (cE (cR (cB (cR (cR (cR (cR (cR (cB (cL (cR (cR (cB (cB (cR (cL (cR (cR (cR (cR (bd Tryd.f120)))))))))))))))))))))))))))))) (.cnd (.tmp 168) (.leaf (cT (cR (cL (cE (cR (cE (cR (cE (cR (cE (cR (cB (cR (cR (cR (cR (cR (cB (cL (cR (cR (cB (cB (cR (cL (cR (cR (cR (cR (bd Tryd.f120))))))))))))))))))))))))))))))) (.leaf (cE (cR (cL (cE (cR (cE (cR (cE (cR (cE (cR (cB (cR (cR (cR (cR (cR (cB (cL (cR (cR (cB (cB (cR (cL (cR (cR (cR (cR (bd Tryd.f120))))))))))))))))))))))))))))))))) (.cut 2 (.cnd (.tmp 168) (.seq (.leaf (cL (cT (cR (cE (cR (cE (cR (cE (cR (cE (cR (cB (cR (cR (cR (cR (cR (cB (cL (cR (cR (cB (cB (cR (cL (cR (cR (cR (cR (bd Tryd.f120))))))))))))))))))))))))))))))) (.cnd (.tmp 174) (.leaf (cT (cR (cT (cR (cE (cR (cE (cR (cE (cR (cE (cR (cB (cR (cR (cR (cR (cR (cB (cL (cR (cR (cB (cB (cR (cL (cR (cR (cR (cR (bd Tryd.f120)))))))))))))))))))))))))))))))) (.leaf (cE (cR (cT (cR (cE (cR (cE (cR (cE (cR (cE (cR (cB (cR (cR (cR (cR (cR (cB (cL (cR (cR (cB (cB (cR (cL (cR (cR (cR (cR (bd Tryd.f120)))))))))))))))))))))))))))))))))) (.leaf (cE (cR (cE (cR (cE (cR (cE (cR (cE (cR (cB (cR (cR (cR (cR (cR (cB (cL (cR (cR (cB (cB (cR (cL (cR (cR (cR (cR (bd Tryd.f120))))))))))))))))))))))))))))))))))))))))))))))))) (.leaf (cR (cR (cR (cB (cB (cR (cL (cR (cR (cR (cR (bd Tryd.f120))))))))))))))))))) (.seq (.leaf (cL (cR (cR (cR (cR (cR (bd Tryd.f120)))))))) (.leaf (cR (cR (cR (cR (cR (cR (bd Tryd.f120)))))))))))))))) (J := know_newKnower.J0 R) LfYtoclhecldmahiaaDoor.mixed Tryd.func120 (by kernel_rfl) (by kernel_rfl) (mkSeq (mkSeq (mkSeq (mkSeq (mkCut (cutDef [(0, .ptr), (3, (.int .i64)), (4, .ptr)] (fun x w => know_newKnower.c5 R x.1 x.2.1 x.2.2 w) (fun _ _ => by kernel_rfl) (fun _ _ => by kernel_rfl)) (mkSeq (mkSeq mkLeaf mkLeaf) (mkSeq (mkBlock (mkLoop (loopDef LfYtoclhecldmahiaaDoor.mixed [(0, .ptr), (4, .ptr), (38, (.int .i64)), (39, (.int .i64))] (by kernel_rfl) (fun M1 x w => know_newKnower.b1 R (fun y0 y1 y2 y3 w => M1 (y0, y1, y2, y3) w) x.1 x.2.1 x.2.2.1 x.2.2.2 w) (fun M1 => know_newKnower.J1 R (fun y0 y1 y2 y3 w => M1 (y0, y1, y2, y3) w)) (fun _ _ _ => by kernel_rfl) (fun M1 => (mkSeq (mkSeq (mkSeq mkLeaf (mkBlock (mkSeq (mkSeq (mkSeq (mkSeq (mkCut (cutDef [(0, .ptr), (4, .ptr), (6, (.int .i64)), (7, .addr), (38, (.int .i64)), (39, (.int .i64))] (fun x w => know_newKnower.c3 R (fun y0 y1 y2 y3 w => M1 (y0, y1, y2, y3) w) x.1 x.2.1 x.2.2.1 x.2.2.2.1 x.2.2.2.2.1 x.2.2.2.2.2 w) (fun _ _ => by kernel_rfl) (fun _ _ => by kernel_rfl)) (mkSeq (mkBlock (mkSeq (mkCnd mkLeaf (mkSeq (mkCnd (mkSeq mkLeaf mkLeaf) (mkSeq (mkCnd mkLeaf (mkSeq (mkCnd mkLeaf (mkSeq (mkCut (cutDef [(0, .ptr), (4, .ptr), (6, (.int .i64)), (7, .addr), (38, (.int .i64)), (39, (.int .i64)), (168, .bool)] (fun x w => know_newKnower.c2 R (fun y0 y1 y2 y3 w => M1 (y0, y1, y2, y3) w) x.1 x.2.1 x.2.2.1 x.2.2.2.1 x.2.2.2.2.1 x.2.2.2.2.2.1 x.2.2.2.2.2.2 w) (fun _ _ => by kernel_rfl) (fun _ _ => by kernel_rfl)) (mkCnd (mkSeq (mkCnd mkLeaf mkLeaf) mkLeaf) mkLeaf)) (mkSeq (mkCnd mkLeaf mkLeaf) mkLeaf))) mkLeaf)) mkLeaf)) mkLeaf)) mkLeaf)) mkLeaf)) (mkSeq (mkBlock (mkLoop (loopDef LfYtoclhecldmahiaaDoor.mixed [(0, .ptr), (4, .ptr), (6, (.int .i64)), (7, .addr), (38, (.int .i64)), (39, (.int .i64)), (55, .slice), (56, (.int .i64)), (57, (.int .i64))] (by kernel_rfl) (fun M4 x w => know_newKnower.b4 R (fun y0 y1 y2 y3 w => M1 (y0, y1, y2, y3) w) (fun y0 y1 y2 y3 y4 y5 y6 y7 y8 w => M4 (y0, y1, y2, y3, y4, y5, y6, y7, y8) w) x.1 x.2.1 x.2.2.1 x.2.2.2.1 x.2.2.2.2.1 x.2.2.2.2.2.1 x.2.2.2.2.2.2.1 x.2.2.2.2.2.2.2.1 x.2.2.2.2.2.2.2.2 w) (fun M4 => fun _ _ _ => False) (fun _ _ _ => by kernel_rfl) (fun M4 => (mkSeq (mkSeq (mkSeq mkLeaf (mkBlock (mkSeq mkLeaf mkLeaf))) (mkCnd mkLeaf mkLeaf)) mkLeaf)) (fun x w => know_newKnower.l4 R (fun y0 y1 y2 y3 w => M1 (y0, y1, y2, y3) w) x.1 x.2.1 x.2.2.1 x.2.2.2.1 x.2.2.2.2.1 x.2.2.2.2.2.1 x.2.2.2.2.2.2.1 x.2.2.2.2.2.2.2.1 x.2.2.2.2.2.2.2.2 w) (by rintro ⟨c0, c1, c2, c3, c4, c5, c6, c7, s0⟩ w ⟨I, μ, h0, h1⟩; refine ⟨fun y w => y.1 = c0 ∧ y.2.1 = c1 ∧ y.2.2.1 = c2 ∧ y.2.2.2.1 = c3 ∧ y.2.2.2.2.1 = c4 ∧ y.2.2.2.2.2.1 = c5 ∧ y.2.2.2.2.2.2.1 = c6 ∧ y.2.2.2.2.2.2.2.1 = c7 ∧ I y.2.2.2.2.2.2.2.2 w, fun y w => μ y.2.2.2.2.2.2.2.2 w, ⟨rfl, rfl, rfl, rfl, rfl, rfl, rfl, rfl, h0⟩, ?_⟩; rintro ⟨d0, d1, d2, d3, d4, d5, d6, d7, t0⟩ w ⟨e0, e1, e2, e3, e4, e5, e6, e7, hI⟩; dsimp only at e0 e1 e2 e3 e4 e5 e6 e7 hI; subst e0; subst e1; subst e2; subst e3; subst e4; subst e5; subst e6; subst e7; exact h1 _ _ hI) (fun _ _ => by kernel_rfl)))) mkLeaf)) mkLeaf) mkLeaf) mkLeaf))) (mkCnd mkLeaf mkLeaf)) mkLeaf)) (fun x w => know_newKnower.l1 R x.1 x.2.1 x.2.2.1 x.2.2.2 w) (by rintro ⟨c0, c1, c2, s0⟩ w ⟨I, μ, h0, h1⟩; refine ⟨fun y w => y.1 = c0 ∧ y.2.1 = c1 ∧ y.2.2.1 = c2 ∧ I y.2.2.2 w, fun y w => μ y.2.2.2 w, ⟨rfl, rfl, rfl, h0⟩, ?_⟩; rintro ⟨d0, d1, d2, t0⟩ w ⟨e0, e1, e2, hI⟩; dsimp only at e0 e1 e2 hI; subst e0; subst e1; subst e2; exact h1 _ _ hI) (fun _ _ => by kernel_rfl)))) mkLeaf))) (mkSeq (mkBlock (mkLoop (loopDef LfYtoclhecldmahiaaDoor.mixed [(0, .ptr), (3, (.int .i64)), (4, .ptr), (27, (.int .i64)), (28, (.int .i64))] (by kernel_rfl) (fun M6 x w => know_newKnower.b6 R (fun y0 y1 y2 y3 y4 w => M6 (y0, y1, y2, y3, y4) w) x.1 x.2.1 x.2.2.1 x.2.2.2.1 x.2.2.2.2 w) (fun M6 => fun _ _ _ => False) (fun _ _ _ => by kernel_rfl) (fun M6 => (mkSeq (mkSeq (mkSeq mkLeaf (mkBlock (mkSeq mkLeaf mkLeaf))) (mkCnd mkLeaf mkLeaf)) mkLeaf)) (fun x w => know_newKnower.l6 R x.1 x.2.1 x.2.2.1 x.2.2.2.1 x.2.2.2.2 w) (by rintro ⟨c0, c1, c2, c3, s0⟩ w ⟨I, μ, h0, h1⟩; refine ⟨fun y w => y.1 = c0 ∧ y.2.1 = c1 ∧ y.2.2.1 = c2 ∧ y.2.2.2.1 = c3 ∧ I y.2.2.2.2 w, fun y w => μ y.2.2.2.2 w, ⟨rfl, rfl, rfl, rfl, h0⟩, ?_⟩; rintro ⟨d0, d1, d2, d3, t0⟩ w ⟨e0, e1, e2, e3, hI⟩; dsimp only at e0 e1 e2 e3 hI; subst e0; subst e1; subst e2; subst e3; exact h1 _ _ hI) (fun _ _ => by kernel_rfl)))) mkLeaf)) (mkPrim (primDef [(0, .ptr), (3, (.int .i64))] (fun x w => know_newKnower.p7 R x.1 x.2 w) (fun _ _ => by kernel_rfl) (fun x Q hQ a w h hs => regionMk (Kf := _) (K := _) (fr1 := [(23, .int .i64 x.2), (21, .int .i64 x.2), (19, .int .i64 x.2), (17, .int .i64 x.2), (15, .int .i64 x.2), (13, .int .i64 x.2), (12, .pointer x.1), (0, .pointer x.1), (3, .int .i64 x.2)]) (x := x.2) (pre := [0, 1, 3, 5, 7, 9, 11]) (all := [2, 4, 6, 8, 10, 12]) (L1 := #[true, true, false, true, false, true, false, true, false, true, false, true, false, false, false, false]) (L2 := #[true, true, true, true, true, true, true, true, true, true, true, true, true, false, false, false]) (dst := know_newKnower.mkd) (spec := know_newKnower.mks) (f := 3) LfYtoclhecldmahiaaDoor.mixed (by kernel_rfl) (by kernel_rfl) (by kernel_rfl) (by kernel_rfl) (by kernel_rfl) (by decide) (by decide) (by decide) (by kernel_rfl) (by kernel_rfl) (by decide) (by kernel_rfl) hs h (fun _ _ hk => kcast (by kernel_rfl) hk) (fun _ _ _ hk hs => hQ _ _ _ _ hk hs))))) mkLeaf) mkLeaf) (kcast (by kernel_rfl) h)

end Go.Proofs.YtoclhecldmahiaaDoor
