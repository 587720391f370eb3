/-
  What the code of these functions comes to, and that it suffices for the call. Written by a program of ours, for this claim.
-/
import Derived.Test.YtoclhecldmahiaaDoorM1Fns
set_option linter.unusedVariables false
set_option linter.unusedVariables false
namespace Go.Proofs.YtoclhecldmahiaaDoor
open Go.Lf
abbrev n_trystlaw24_MixDoes : Nat := 8
abbrev n_trystlaw24_ask : Nat := 54
abbrev n_trystlaw24_regs : Nat := 58
/-! trystlaw24_MixDoes -/
def trystlaw24_MixDoes.c1 (R : Value → World → Prop) (p9 : Option Addr) (b11 : Option Addr) (in12 : Sl) (st14 : Sl) (has17 : Bool) (next23 : Sl) (out24 : Sl) (e25 : Int) (w : World) : Prop :=
  cond (!has17)
  (cond ((e25 : Int) == 8)
  (cond (((IntKind.i64.wrap (((next23.len : Nat) : Int) + ((out24.len : Nat) : Int))) : Int) == 0)
  (CallsV Tryd.prog n_trystlaw24_wakes #[] w (fun v_1 w1 =>
  ∃ b_2 : Bool, v_1 = .bool b_2 ∧
  R (.bool b_2) w1))
  (R (.bool false) w))
  (R (.bool false) w))
  (cond (decide ((((in12.len : Nat) : Int) : Int) > 100))
  (cond ((e25 : Int) == 2)
  (cond (((IntKind.i64.wrap (((next23.len : Nat) : Int) + ((out24.len : Nat) : Int))) : Int) == 0)
  (CallsV Tryd.prog n_trystlaw24_wakes #[] w (fun v_3 w2 =>
  ∃ b_4 : Bool, v_3 = .bool b_4 ∧
  R (.bool b_4) w2))
  (R (.bool false) w))
  (R (.bool false) w))
  (CallsV Tryd.prog n_trystref22_Do #[.pointer b11, .slice st14.a st14.len st14.cap, .slice in12.a in12.len in12.cap] w (fun v_5 w3 =>
  ∃ (a_6 : Option Addr) (l_7 c_8 : Nat), ∃ (a_9 : Option Addr) (l_10 c_11 : Nat), v_5 = .tuple #[.slice a_6 l_7 c_8, .slice a_9 l_10 c_11] ∧
  cond ((e25 : Int) == 0)
  (CallsV Tryd.prog n_trystlaw24_regs #[.pointer p9, .slice a_6 l_7 c_8] w3 (fun v_12 w4 =>
  ∃ (a_13 : Option Addr) (l_14 c_15 : Nat), v_12 = .slice a_13 l_14 c_15 ∧
  CallsV Tryd.prog n_trystkeep_Regs #[.slice next23.a next23.len next23.cap, .slice a_13 l_14 c_15] w4 (fun v_16 w5 =>
  ∃ b_17 : Bool, v_16 = .bool b_17 ∧
  cond b_17
  (CallsV Tryd.prog n_trystlaw10_Pair_Ts #[.pointer p9, .slice a_9 l_10 c_11] w5 (fun v_18 w6 =>
  ∃ (a_19 : Option Addr) (l_20 c_21 : Nat), v_18 = .slice a_19 l_20 c_21 ∧
  CallsV Tryd.prog n_trystkeep_Ints #[.slice out24.a out24.len out24.cap, .slice a_19 l_20 c_21] w6 (fun v_22 w7 =>
  ∃ b_23 : Bool, v_22 = .bool b_23 ∧
  cond b_23
  (CallsV Tryd.prog n_trystlaw24_wakes #[] w7 (fun v_24 w8 =>
  ∃ b_25 : Bool, v_24 = .bool b_25 ∧
  R (.bool b_25) w8))
  (R (.bool false) w7))))
  (R (.bool false) w5))))
  (R (.bool false) w3))))

def trystlaw24_MixDoes.c2 (R : Value → World → Prop) (p9 : Option Addr) (b11 : Option Addr) (in12 : Sl) (st14 : Sl) (has17 : Bool) (w : World) : Prop :=
  CallsV Tryd.prog n_trystlaw24_regs #[.pointer p9, .slice st14.a st14.len st14.cap] w (fun v_26 w9 =>
  ∃ (a_27 : Option Addr) (l_28 c_29 : Nat), v_26 = .slice a_27 l_28 c_29 ∧
  CallsV Tryd.prog n_trystlaw10_Pair_Ts #[.pointer p9, .slice in12.a in12.len in12.cap] w9 (fun v_30 w10 =>
  ∃ (a_31 : Option Addr) (l_32 c_33 : Nat), v_30 = .slice a_31 l_32 c_33 ∧
  CallsV Tryd.prog n_trystkeep_TwinRegs #[.slice a_27 l_28 c_29] w10 (fun v_34 w11 =>
  ∃ (a_35 : Option Addr) (l_36 c_37 : Nat), v_34 = .slice a_35 l_36 c_37 ∧
  CallsV Tryd.prog n_trystkeep_TwinInts #[.slice a_31 l_32 c_33] w11 (fun v_38 w12 =>
  ∃ (a_39 : Option Addr) (l_40 c_41 : Nat), v_38 = .slice a_39 l_40 c_41 ∧
  ∃ q_42 : Addr, p9 = some q_42 ∧
  ∃ p_43 : Option Addr, w12.cell? q_42 = some (.pointer p_43) ∧
  CallsV Tryd.prog n_mix_Do #[.pointer p_43, .slice a_35 l_36 c_37, .slice a_39 l_40 c_41] w12 (fun v_44 w13 =>
  ∃ (a_45 : Option Addr) (l_46 c_47 : Nat), ∃ (a_48 : Option Addr) (l_49 c_50 : Nat), ∃ x_51 : Int, v_44 = .tuple #[.slice a_45 l_46 c_47, .slice a_48 l_49 c_50, .int .i64 x_51] ∧
  CallsV Tryd.prog n_trystkeep_Regs #[.slice a_35 l_36 c_37, .slice a_27 l_28 c_29] w13 (fun v_52 w14 =>
  ∃ b_53 : Bool, v_52 = .bool b_53 ∧
  cond (!b_53)
  (R (.bool false) w14)
  (CallsV Tryd.prog n_trystkeep_Ints #[.slice a_39 l_40 c_41, .slice a_31 l_32 c_33] w14 (fun v_54 w15 =>
  ∃ b_55 : Bool, v_54 = .bool b_55 ∧
  cond (!b_55)
  (R (.bool false) w15)
  (trystlaw24_MixDoes.c1 R p9 b11 in12 st14 has17 ⟨a_45, l_46, c_47⟩ ⟨a_48, l_49, c_50⟩ x_51 w15)))))))))

def trystlaw24_MixDoes.b3 (R : Value → World → Prop) (N3 : Option Addr → Option Addr → Sl → Sl → Bool → Int → World → Prop) (p9 : Option Addr) (b11 : Option Addr) (in12 : Sl) (st14 : Sl) (has17 : Bool) (i18 : Int) (w : World) : Prop :=
  cond (decide ((i18 : Int) < ((st14.len : Nat) : Int)))
  (∃ S_56 : World → Prop, S_56 w.drew ∧
  cond has17
  (0 ≤ (i18 : Int) ∧ i18 < ((st14.len : Nat) : Int) ∧ ∃ q_57 : Addr, st14.a = some q_57 ∧
  ∃ x_58 : Int, (∀ x, S_56 x → x.cell? (q_57.add ((i18 : Int).toNat * 2)) = some (.int .i64 x_58)) ∧
  0 ≤ (i18 : Int) ∧ i18 < ((st14.len : Nat) : Int) ∧ ∃ q_59 : Addr, st14.a = some q_59 ∧
  ∃ x_60 : Int, (∀ x, S_56 x → x.cell? ((q_59.add ((i18 : Int).toNat * 2)).add 1) = some (.int .i64 x_60)) ∧
  let w16 := w.drew.alloc (.cells #[.int .i64 x_58, .int .i64 x_60] 3);
  CallsV Tryd.prog n_trystref10_Arena_Has #[.pointer b11, .slice (some (newA w.drew)) 2 2] w16 (fun v_61 w17 =>
  ∃ b_62 : Bool, v_61 = .bool b_62 ∧
  (let i18_62 : Int := (IntKind.i64.wrap (i18 + 1));
  N3 p9 b11 in12 st14 b_62 i18_62 w17)))
  ((let i18_63 : Int := (IntKind.i64.wrap (i18 + 1));
  N3 p9 b11 in12 st14 false i18_63 w.drew)))
  (trystlaw24_MixDoes.c2 R p9 b11 in12 st14 has17 w)

def trystlaw24_MixDoes.l3 (R : Value → World → Prop) (p9 : Option Addr) (b11 : Option Addr) (in12 : Sl) (st14 : Sl) (has17 : Bool) (i18 : Int) (w : World) : Prop :=
  ∃ (I : (Bool × Int) → World → Prop) (μ : (Bool × Int) → World → Nat), I (has17, i18) w ∧ ∀ s w, I s w → trystlaw24_MixDoes.b3 R (fun p9' b11' in12' st14' has17' i18' w' => (p9' = p9 ∧ b11' = b11 ∧ in12' = in12 ∧ st14' = st14 ∧ I (has17', i18') w') ∧ μ (has17', i18') w' < μ s w) p9 b11 in12 st14 s.1 s.2 w

def trystlaw24_MixDoes.c4 (R : Value → World → Prop) (p9 : Option Addr) (b11 : Option Addr) (in12 : Sl) (st14 : Sl) (w : World) : Prop :=
  CallsV Tryd.prog n_trystref10_Arena_Has #[.pointer b11, .slice in12.a in12.len in12.cap] w (fun v_65 w18 =>
  ∃ b_66 : Bool, v_65 = .bool b_66 ∧
  trystlaw24_MixDoes.l3 R p9 b11 in12 st14 b_66 0 w18)

def trystlaw24_MixDoes.c6 (R : Value → World → Prop) (N5 : Bool → Option Addr → Option Addr → Sl → Sl → Int → World → Prop) (raw3 : Bool) (p9 : Option Addr) (b11 : Option Addr) (in12 : Sl) (st14 : Sl) (i15 : Int) (w : World) : Prop :=
  ∃ S_67 : World → Prop, S_67 w.drew ∧
  0 ≤ (i15 : Int) ∧ i15 < ((st14.len : Nat) : Int) ∧ ∃ q_68 : Addr, st14.a = some q_68 ∧
  ∃ x_69 : Int, (∀ x, S_67 x → x.cell? (q_68.add ((i15 : Int).toNat * 2)) = some (.int .i64 x_69)) ∧
  0 ≤ (i15 : Int) ∧ i15 < ((st14.len : Nat) : Int) ∧ ∃ q_70 : Addr, st14.a = some q_70 ∧
  ∃ x_71 : Int, (∀ x, S_67 x → x.cell? ((q_70.add ((i15 : Int).toNat * 2)).add 1) = some (.int .i64 x_71)) ∧
  ∃ q_72 : Addr, b11 = some q_72 ∧
  ∃ (a_73 : Option Addr) (l_74 c_75 : Nat), (∀ x, S_67 x → x.cell? q_72 = some (.slice a_73 l_74 c_75)) ∧
  let w19 := w.drew.alloc (.cells #[.int .i64 x_69, .int .i64 x_71] 3);
  S_67 w19 ∧
  CallsV Tryd.prog n_trystlaw10_Some #[.slice (some (newA w.drew)) 2 2, .int .i64 ((l_74 : Nat) : Int)] w19 (fun v_76 w20 =>
  ∃ (a_77 : Option Addr) (l_78 c_79 : Nat), v_76 = .slice a_77 l_78 c_79 ∧
  ∃ S_80 : World → Prop, S_80 w20.drew ∧
  0 ≤ (0 : Int) ∧ 0 < ((l_78 : Nat) : Int) ∧ ∃ q_81 : Addr, a_77 = some q_81 ∧
  ∃ x_82 : Int, (∀ x, S_80 x → x.cell? (q_81.add (0 : Int).toNat) = some (.int .i64 x_82)) ∧
  0 ≤ (1 : Int) ∧ 1 < ((l_78 : Nat) : Int) ∧ ∃ q_83 : Addr, a_77 = some q_83 ∧
  ∃ x_84 : Int, (∀ x, S_80 x → x.cell? (q_83.add (1 : Int).toNat) = some (.int .i64 x_84)) ∧
  0 ≤ (i15 : Int) ∧ i15 < ((st14.len : Nat) : Int) ∧ ∃ q_85 : Addr, st14.a = some q_85 ∧
  Wr w20.drew (q_85.add ((i15 : Int).toNat * 2)) ∧
  (let w21 := w20.drew.setCell (q_85.add ((i15 : Int).toNat * 2)) (.int .i64 x_82);
  0 ≤ (i15 : Int) ∧ i15 < ((st14.len : Nat) : Int) ∧ ∃ q_86 : Addr, st14.a = some q_86 ∧
  Wr w21 ((q_86.add ((i15 : Int).toNat * 2)).add 1) ∧
  (let w22 := w21.setCell ((q_86.add ((i15 : Int).toNat * 2)).add 1) (.int .i64 x_84);
  (let i15_86 : Int := (IntKind.i64.wrap (i15 + 1));
  N5 raw3 p9 b11 in12 st14 i15_86 w22))))

def trystlaw24_MixDoes.b5 (R : Value → World → Prop) (N5 : Bool → Option Addr → Option Addr → Sl → Sl → Int → World → Prop) (raw3 : Bool) (p9 : Option Addr) (b11 : Option Addr) (in12 : Sl) (st14 : Sl) (i15 : Int) (w : World) : Prop :=
  cond (decide ((i15 : Int) < ((st14.len : Nat) : Int)))
  (cond (!raw3)
  (trystlaw24_MixDoes.c6 R N5 raw3 p9 b11 in12 st14 i15 w)
  (trystlaw24_MixDoes.c4 R p9 b11 in12 st14 w))
  (trystlaw24_MixDoes.c4 R p9 b11 in12 st14 w)

def trystlaw24_MixDoes.l5 (R : Value → World → Prop) (raw3 : Bool) (p9 : Option Addr) (b11 : Option Addr) (in12 : Sl) (st14 : Sl) (i15 : Int) (w : World) : Prop :=
  ∃ (I : Int → World → Prop) (μ : Int → World → Nat), I i15 w ∧ ∀ s w, I s w → trystlaw24_MixDoes.b5 R (fun raw3' p9' b11' in12' st14' i15' w' => (raw3' = raw3 ∧ p9' = p9 ∧ b11' = b11 ∧ in12' = in12 ∧ st14' = st14 ∧ I i15' w') ∧ μ i15' w' < μ s w) raw3 p9 b11 in12 st14 s w

def trystlaw24_MixDoes.c7 (R : Value → World → Prop) (old2 : Sl) (raw3 : Bool) (p9 : Option Addr) (b11 : Option Addr) (in12 : Sl) (w : World) : Prop :=
  CallsV Tryd.prog n_trystkeep_TwinRegs #[.slice old2.a old2.len old2.cap] w (fun v_88 w23 =>
  ∃ (a_89 : Option Addr) (l_90 c_91 : Nat), v_88 = .slice a_89 l_90 c_91 ∧
  trystlaw24_MixDoes.l5 R raw3 p9 b11 in12 ⟨a_89, l_90, c_91⟩ 0 w23)

def trystlaw24_MixDoes.b8 (R : Value → World → Prop) (N8 : Sl → Sl → Bool → Option Addr → Option Addr → Sl → Int → World → Prop) (asks1 : Sl) (old2 : Sl) (raw3 : Bool) (p9 : Option Addr) (b11 : Option Addr) (in12 : Sl) (i13 : Int) (w : World) : Prop :=
  cond (decide ((i13 : Int) < ((asks1.len : Nat) : Int)))
  (0 ≤ (i13 : Int) ∧ i13 < ((asks1.len : Nat) : Int) ∧ ∃ q_92 : Addr, asks1.a = some q_92 ∧
  ∃ x_93 : Int, w.cell? (q_92.add ((i13 : Int).toNat * 4)) = some (.int .i64 x_93) ∧
  ∃ x_94 : Int, w.cell? ((q_92.add ((i13 : Int).toNat * 4)).add 1) = some (.int .i64 x_94) ∧
  ∃ x_95 : Int, w.cell? ((q_92.add ((i13 : Int).toNat * 4)).add 2) = some (.int .i64 x_95) ∧
  ∃ b_96 : Bool, w.cell? ((q_92.add ((i13 : Int).toNat * 4)).add 3) = some (.bool b_96) ∧
  CallsV Tryd.prog n_trystlaw24_ask #[.pointer b11, .agg #[.int .i64 x_93, .int .i64 x_94, .int .i64 x_95, .bool b_96]] w (fun v_97 w24 =>
  ∃ x_98 : Int, v_97 = .int .i64 x_98 ∧
  let w25 := w24.alloc (.cells #[.int .i64 x_98] 3);
  ∃ (a_99 : Option Addr) (l_100 c_101 : Nat), ∃ w26 : World, (builtin .append #[29, 29] 29 #[] #[.slice in12.a in12.len in12.cap, .slice (some (newA w24)) 1 1]).run Tryd.prog w25 = .ok (.value (.slice a_99 l_100 c_101)) w26 ∧
  (let i13_101 : Int := (IntKind.i64.wrap (i13 + 1));
  N8 asks1 old2 raw3 p9 b11 ⟨a_99, l_100, c_101⟩ i13_101 w26)))
  (trystlaw24_MixDoes.c7 R old2 raw3 p9 b11 in12 w)

def trystlaw24_MixDoes.l8 (R : Value → World → Prop) (asks1 : Sl) (old2 : Sl) (raw3 : Bool) (p9 : Option Addr) (b11 : Option Addr) (in12 : Sl) (i13 : Int) (w : World) : Prop :=
  ∃ (I : (Sl × Int) → World → Prop) (μ : (Sl × Int) → World → Nat), I (in12, i13) w ∧ ∀ s w, I s w → trystlaw24_MixDoes.b8 R (fun asks1' old2' raw3' p9' b11' in12' i13' w' => (asks1' = asks1 ∧ old2' = old2 ∧ raw3' = raw3 ∧ p9' = p9 ∧ b11' = b11 ∧ I (in12', i13') w') ∧ μ (in12', i13') w' < μ s w) asks1 old2 raw3 p9 b11 s.1 s.2 w

def trystlaw24_MixDoes.c9 (R : Value → World → Prop) (l0 : Sl) (asks1 : Sl) (old2 : Sl) (raw3 : Bool) (w : World) : Prop :=
  CallsV Tryd.prog n_trystlaw10_Pairs #[.slice l0.a l0.len l0.cap] w (fun v_103 w27 =>
  ∃ p_104 : Option Addr, ∃ b_105 : Bool, v_103 = .tuple #[.pointer p_104, .bool b_105] ∧
  cond (!b_105)
  (R (.bool false) w27)
  (∃ q_106 : Addr, p_104 = some q_106 ∧
  ∃ p_107 : Option Addr, w27.cell? (q_106.add 1) = some (.pointer p_107) ∧
  trystlaw24_MixDoes.l8 R asks1 old2 raw3 p_104 p_107 ⟨none, 0, 0⟩ 0 w27))

def trystlaw24_MixDoes.main (R : Value → World → Prop) (l0 : Sl) (asks1 : Sl) (old2 : Sl) (raw3 : Bool) (w : World) : Prop :=
  CallsV Tryd.prog n_trystlaw10_Heavy #[.slice l0.a l0.len l0.cap] w (fun v_108 w28 =>
  ∃ b_109 : Bool, v_108 = .bool b_109 ∧
  cond b_109
  (R (.bool true) w28)
  (cond (decide ((((asks1.len : Nat) : Int) : Int) > 120))
  (R (.bool true) w28)
  (cond (decide ((((old2.len : Nat) : Int) : Int) > 30))
  (R (.bool true) w28)
  (trystlaw24_MixDoes.c9 R l0 asks1 old2 raw3 w28))))

def trystlaw24_MixDoes.J5 (R : Value → World → Prop) (N5 : Bool → Option Addr → Option Addr → Sl → Sl → Int → World → Prop) (k : Nat) (fr : Fr) (w : World) : Prop :=
  cond (Nat.beq k 6) (dec [(3, .bool), (9, .ptr), (11, .ptr), (12, .slice), (14, .slice), (15, (.int .i64))] fr fun x => trystlaw24_MixDoes.c6 R N5 x.1 x.2.1 x.2.2.1 x.2.2.2.1 x.2.2.2.2.1 x.2.2.2.2.2 w) (False)

def trystlaw24_MixDoes.J0 (R : Value → World → Prop) (k : Nat) (fr : Fr) (w : World) : Prop :=
  cond (Nat.beq k 9) (dec [(0, .slice), (1, .slice), (2, .slice), (3, .bool)] fr fun x => trystlaw24_MixDoes.c9 R x.1 x.2.1 x.2.2.1 x.2.2.2 w) (cond (Nat.beq k 8) (dec [(1, .slice), (2, .slice), (3, .bool), (9, .ptr), (11, .ptr), (12, .slice), (13, (.int .i64))] fr fun x => trystlaw24_MixDoes.l8 R x.1 x.2.1 x.2.2.1 x.2.2.2.1 x.2.2.2.2.1 x.2.2.2.2.2.1 x.2.2.2.2.2.2 w) (cond (Nat.beq k 7) (dec [(2, .slice), (3, .bool), (9, .ptr), (11, .ptr), (12, .slice)] fr fun x => trystlaw24_MixDoes.c7 R x.1 x.2.1 x.2.2.1 x.2.2.2.1 x.2.2.2.2 w) (cond (Nat.beq k 5) (dec [(3, .bool), (9, .ptr), (11, .ptr), (12, .slice), (14, .slice), (15, (.int .i64))] fr fun x => trystlaw24_MixDoes.l5 R x.1 x.2.1 x.2.2.1 x.2.2.2.1 x.2.2.2.2.1 x.2.2.2.2.2 w) (cond (Nat.beq k 4) (dec [(9, .ptr), (11, .ptr), (12, .slice), (14, .slice)] fr fun x => trystlaw24_MixDoes.c4 R x.1 x.2.1 x.2.2.1 x.2.2.2 w) (cond (Nat.beq k 3) (dec [(9, .ptr), (11, .ptr), (12, .slice), (14, .slice), (17, .bool), (18, (.int .i64))] fr fun x => trystlaw24_MixDoes.l3 R x.1 x.2.1 x.2.2.1 x.2.2.2.1 x.2.2.2.2.1 x.2.2.2.2.2 w) (cond (Nat.beq k 2) (dec [(9, .ptr), (11, .ptr), (12, .slice), (14, .slice), (17, .bool)] fr fun x => trystlaw24_MixDoes.c2 R x.1 x.2.1 x.2.2.1 x.2.2.2.1 x.2.2.2.2 w) (cond (Nat.beq k 1) (dec [(9, .ptr), (11, .ptr), (12, .slice), (14, .slice), (17, .bool), (23, .slice), (24, .slice), (25, (.int .i64))] fr fun x => trystlaw24_MixDoes.c1 R x.1 x.2.1 x.2.2.1 x.2.2.2.1 x.2.2.2.2.1 x.2.2.2.2.2.1 x.2.2.2.2.2.2.1 x.2.2.2.2.2.2.2 w) (False))))))))

set_option maxRecDepth 100000 in
theorem trystlaw24_MixDoes.lift {R : Value → World → Prop} {l0 : Sl} {asks1 : Sl} {old2 : Sl} {raw3 : Bool} {w : World} (h : trystlaw24_MixDoes.main R l0 asks1 old2 raw3 w) : CallsV Tryd.prog n_trystlaw24_MixDoes #[.slice l0.a l0.len l0.cap, .slice asks1.a asks1.len asks1.cap, .slice old2.a old2.len old2.cap, .bool raw3] w R :=
  liftCalls (c := (.seq (.leaf (cL (bd Tryd.f8))) (.seq (.seq (.leaf (cL (cL (cR (bd Tryd.f8))))) (.cnd (.tmp 39) (.seq (.leaf (cL (cT (cR (cL (cR (bd Tryd.f8))))))) (.leaf (cR (cT (cR (cL (cR (bd Tryd.f8)))))))) (.leaf (cE (cR (cL (cR (bd Tryd.f8)))))))) (.cut 9 (.seq (.leaf (cL (cR (cR (bd Tryd.f8))))) (.seq (.seq (.leaf (cL (cL (cR (cR (cR (bd Tryd.f8))))))) (.cnd (.tmp 46) (.seq (.leaf (cL (cT (cR (cL (cR (cR (cR (bd Tryd.f8))))))))) (.leaf (cR (cT (cR (cL (cR (cR (cR (bd Tryd.f8)))))))))) (.leaf (cE (cR (cL (cR (cR (cR (bd Tryd.f8)))))))))) (.seq (.leaf (cL (cR (cR (cR (cR (bd Tryd.f8))))))) (.seq (.leaf (cL (cR (cR (cR (cR (cR (bd Tryd.f8)))))))) (.seq (.seq (.leaf (cL (cL (cR (cR (cR (cR (cR (cR (bd Tryd.f8)))))))))) (.block 0 (.loop 8 (.seq (.seq (.leaf (cL (cL (cB (cB (cR (cL (cR (cR (cR (cR (cR (cR (bd Tryd.f8)))))))))))))) (.cnd (.tmp 54) (.leaf (cT (cR (cL (cB (cB (cR (cL (cR (cR (cR (cR (cR (cR (bd Tryd.f8))))))))))))))) (.leaf (cE (cR (cL (cB (cB (cR (cL (cR (cR (cR (cR (cR (cR (bd Tryd.f8))))))))))))))))) (.seq (.block 1 (.leaf (cB (cL (cR (cB (cB (cR (cL (cR (cR (cR (cR (cR (cR (bd Tryd.f8)))))))))))))))) (.leaf (cR (cR (cB (cB (cR (cL (cR (cR (cR (cR (cR (cR (bd Tryd.f8))))))))))))))))))) (.cut 7 (.seq (.leaf (cL (cR (cR (cR (cR (cR (cR (cR (bd Tryd.f8)))))))))) (.seq (.seq (.leaf (cL (cL (cR (cR (cR (cR (cR (cR (cR (cR (bd Tryd.f8)))))))))))) (.block 2 (.loop 5 (.seq (.seq (.leaf (cL (cL (cB (cB (cR (cL (cR (cR (cR (cR (cR (cR (cR (cR (bd Tryd.f8)))))))))))))))) (.cnd (.tmp 75) (.leaf (cT (cR (cL (cB (cB (cR (cL (cR (cR (cR (cR (cR (cR (cR (cR (bd Tryd.f8))))))))))))))))) (.leaf (cE (cR (cL (cB (cB (cR (cL (cR (cR (cR (cR (cR (cR (cR (cR (bd Tryd.f8))))))))))))))))))) (.cut 6 (.seq (.block 3 (.seq (.leaf (cL (cB (cL (cR (cB (cB (cR (cL (cR (cR (cR (cR (cR (cR (cR (cR (bd Tryd.f8)))))))))))))))))) (.leaf (cR (cB (cL (cR (cB (cB (cR (cL (cR (cR (cR (cR (cR (cR (cR (cR (bd Tryd.f8)))))))))))))))))))) (.leaf (cR (cR (cB (cB (cR (cL (cR (cR (cR (cR (cR (cR (cR (cR (bd Tryd.f8)))))))))))))))))))))) (.cut 4 (.seq (.leaf (cL (cR (cR (cR (cR (cR (cR (cR (cR (cR (bd Tryd.f8)))))))))))) (.seq (.seq (.leaf (cL (cL (cR (cR (cR (cR (cR (cR (cR (cR (cR (cR (bd Tryd.f8)))))))))))))) (.block 4 (.loop 3 (.seq (.seq (.leaf (cL (cL (cB (cB (cR (cL (cR (cR (cR (cR (cR (cR (cR (cR (cR (cR (bd Tryd.f8)))))))))))))))))) (.cnd (.tmp 115) (.leaf (cT (cR (cL (cB (cB (cR (cL (cR (cR (cR (cR (cR (cR (cR (cR (cR (cR (bd Tryd.f8))))))))))))))))))) (.leaf (cE (cR (cL (cB (cB (cR (cL (cR (cR (cR (cR (cR (cR (cR (cR (cR (cR (bd Tryd.f8))))))))))))))))))))) (.seq (.block 5 (.leaf (cB (cL (cR (cB (cB (cR (cL (cR (cR (cR (cR (cR (cR (cR (cR (cR (cR (bd Tryd.f8)))))))))))))))))))) (.leaf (cR (cR (cB (cB (cR (cL (cR (cR (cR (cR (cR (cR (cR (cR (cR (cR (bd Tryd.f8))))))))))))))))))))))) (.cut 2 (.seq (.leaf (cL (cR (cR (cR (cR (cR (cR (cR (cR (cR (cR (cR (bd Tryd.f8)))))))))))))) (.seq (.leaf (cL (cR (cR (cR (cR (cR (cR (cR (cR (cR (cR (cR (cR (bd Tryd.f8))))))))))))))) (.seq (.leaf (cL (cR (cR (cR (cR (cR (cR (cR (cR (cR (cR (cR (cR (cR (bd Tryd.f8)))))))))))))))) (.seq (.seq (.leaf (cL (cL (cR (cR (cR (cR (cR (cR (cR (cR (cR (cR (cR (cR (cR (cR (bd Tryd.f8)))))))))))))))))) (.cnd (.tmp 164) (.seq (.leaf (cL (cT (cR (cL (cR (cR (cR (cR (cR (cR (cR (cR (cR (cR (cR (cR (cR (cR (bd Tryd.f8)))))))))))))))))))) (.leaf (cR (cT (cR (cL (cR (cR (cR (cR (cR (cR (cR (cR (cR (cR (cR (cR (cR (cR (bd Tryd.f8))))))))))))))))))))) (.leaf (cE (cR (cL (cR (cR (cR (cR (cR (cR (cR (cR (cR (cR (cR (cR (cR (cR (bd Tryd.f8))))))))))))))))))))) (.cut 1 (.seq (.seq (.leaf (cL (cL (cR (cR (cR (cR (cR (cR (cR (cR (cR (cR (cR (cR (cR (cR (cR (bd Tryd.f8))))))))))))))))))) (.cnd (.tmp 166) (.seq (.leaf (cL (cT (cR (cL (cR (cR (cR (cR (cR (cR (cR (cR (cR (cR (cR (cR (cR (cR (cR (bd Tryd.f8))))))))))))))))))))) (.leaf (cR (cT (cR (cL (cR (cR (cR (cR (cR (cR (cR (cR (cR (cR (cR (cR (cR (cR (cR (bd Tryd.f8)))))))))))))))))))))) (.leaf (cE (cR (cL (cR (cR (cR (cR (cR (cR (cR (cR (cR (cR (cR (cR (cR (cR (cR (bd Tryd.f8)))))))))))))))))))))) (.seq (.seq (.leaf (cL (cL (cR (cR (cR (cR (cR (cR (cR (cR (cR (cR (cR (cR (cR (cR (cR (cR (bd Tryd.f8)))))))))))))))))))) (.cnd (.tmp 182) (.seq (.leaf (cL (cT (cR (cL (cR (cR (cR (cR (cR (cR (cR (cR (cR (cR (cR (cR (cR (cR (cR (cR (bd Tryd.f8)))))))))))))))))))))) (.leaf (cR (cT (cR (cL (cR (cR (cR (cR (cR (cR (cR (cR (cR (cR (cR (cR (cR (cR (cR (cR (bd Tryd.f8))))))))))))))))))))))) (.leaf (cE (cR (cL (cR (cR (cR (cR (cR (cR (cR (cR (cR (cR (cR (cR (cR (cR (cR (cR (bd Tryd.f8))))))))))))))))))))))) (.seq (.leaf (cL (cR (cR (cR (cR (cR (cR (cR (cR (cR (cR (cR (cR (cR (cR (cR (cR (cR (bd Tryd.f8)))))))))))))))))))) (.seq (.leaf (cL (cR (cR (cR (cR (cR (cR (cR (cR (cR (cR (cR (cR (cR (cR (cR (cR (cR (cR (bd Tryd.f8))))))))))))))))))))) (.leaf (cR (cR (cR (cR (cR (cR (cR (cR (cR (cR (cR (cR (cR (cR (cR (cR (cR (cR (cR (bd Tryd.f8)))))))))))))))))))))))))))))))))))))))))))))) (J := trystlaw24_MixDoes.J0 R) LfYtoclhecldmahiaaDoor.mixed Tryd.func8 (by kernel_rfl) (by kernel_rfl) (mkSeq (mkSeq (mkCut (cutDef [(0, .slice), (1, .slice), (2, .slice), (3, .bool)] (fun x w => trystlaw24_MixDoes.c9 R x.1 x.2.1 x.2.2.1 x.2.2.2 w) (fun _ _ => by kernel_rfl) (fun _ _ => by kernel_rfl)) (mkSeq (mkSeq (mkSeq (mkSeq (mkSeq (mkCut (cutDef [(2, .slice), (3, .bool), (9, .ptr), (11, .ptr), (12, .slice)] (fun x w => trystlaw24_MixDoes.c7 R x.1 x.2.1 x.2.2.1 x.2.2.2.1 x.2.2.2.2 w) (fun _ _ => by kernel_rfl) (fun _ _ => by kernel_rfl)) (mkSeq (mkSeq (mkCut (cutDef [(9, .ptr), (11, .ptr), (12, .slice), (14, .slice)] (fun x w => trystlaw24_MixDoes.c4 R x.1 x.2.1 x.2.2.1 x.2.2.2 w) (fun _ _ => by kernel_rfl) (fun _ _ => by kernel_rfl)) (mkSeq (mkSeq (mkCut (cutDef [(9, .ptr), (11, .ptr), (12, .slice), (14, .slice), (17, .bool)] (fun x w => trystlaw24_MixDoes.c2 R x.1 x.2.1 x.2.2.1 x.2.2.2.1 x.2.2.2.2 w) (fun _ _ => by kernel_rfl) (fun _ _ => by kernel_rfl)) (mkSeq (mkSeq (mkSeq (mkSeq (mkCut (cutDef [(9, .ptr), (11, .ptr), (12, .slice), (14, .slice), (17, .bool), (23, .slice), (24, .slice), (25, (.int .i64))] (fun x w => trystlaw24_MixDoes.c1 R x.1 x.2.1 x.2.2.1 x.2.2.2.1 x.2.2.2.2.1 x.2.2.2.2.2.1 x.2.2.2.2.2.2.1 x.2.2.2.2.2.2.2 w) (fun _ _ => by kernel_rfl) (fun _ _ => by kernel_rfl)) (mkSeq (mkSeq (mkSeq (mkSeq mkLeaf mkLeaf) mkLeaf) (mkSeq (mkCnd (mkSeq mkLeaf mkLeaf) mkLeaf) mkLeaf)) (mkSeq (mkCnd (mkSeq mkLeaf mkLeaf) mkLeaf) mkLeaf))) (mkSeq (mkCnd (mkSeq mkLeaf mkLeaf) mkLeaf) mkLeaf)) mkLeaf) mkLeaf) mkLeaf)) (mkSeq (mkBlock (mkLoop (loopDef LfYtoclhecldmahiaaDoor.mixed [(9, .ptr), (11, .ptr), (12, .slice), (14, .slice), (17, .bool), (18, (.int .i64))] (by kernel_rfl) (fun M3 x w => trystlaw24_MixDoes.b3 R (fun y0 y1 y2 y3 y4 y5 w => M3 (y0, y1, y2, y3, y4, y5) w) x.1 x.2.1 x.2.2.1 x.2.2.2.1 x.2.2.2.2.1 x.2.2.2.2.2 w) (fun M3 => fun _ _ _ => False) (fun _ _ _ => by kernel_rfl) (fun M3 => (mkSeq (mkSeq mkLeaf (mkBlock mkLeaf)) (mkSeq (mkCnd mkLeaf mkLeaf) mkLeaf))) (fun x w => trystlaw24_MixDoes.l3 R x.1 x.2.1 x.2.2.1 x.2.2.2.1 x.2.2.2.2.1 x.2.2.2.2.2 w) (by rintro ⟨c0, c1, c2, c3, s0⟩ w ⟨I, μ, h0, h1⟩; refine ⟨fun y w => y.1 = c0 ∧ y.2.1 = c1 ∧ y.2.2.1 = c2 ∧ y.2.2.2.1 = c3 ∧ I y.2.2.2.2 w, fun y w => μ y.2.2.2.2 w, ⟨rfl, rfl, rfl, rfl, h0⟩, ?_⟩; rintro ⟨d0, d1, d2, d3, t0⟩ w ⟨e0, e1, e2, e3, hI⟩; dsimp only at e0 e1 e2 e3 hI; subst e0; subst e1; subst e2; subst e3; exact h1 _ _ hI) (fun _ _ => by kernel_rfl)))) mkLeaf)) mkLeaf)) (mkSeq (mkBlock (mkLoop (loopDef LfYtoclhecldmahiaaDoor.mixed [(3, .bool), (9, .ptr), (11, .ptr), (12, .slice), (14, .slice), (15, (.int .i64))] (by kernel_rfl) (fun M5 x w => trystlaw24_MixDoes.b5 R (fun y0 y1 y2 y3 y4 y5 w => M5 (y0, y1, y2, y3, y4, y5) w) x.1 x.2.1 x.2.2.1 x.2.2.2.1 x.2.2.2.2.1 x.2.2.2.2.2 w) (fun M5 => trystlaw24_MixDoes.J5 R (fun y0 y1 y2 y3 y4 y5 w => M5 (y0, y1, y2, y3, y4, y5) w)) (fun _ _ _ => by kernel_rfl) (fun M5 => (mkSeq (mkCut (cutDef [(3, .bool), (9, .ptr), (11, .ptr), (12, .slice), (14, .slice), (15, (.int .i64))] (fun x w => trystlaw24_MixDoes.c6 R (fun y0 y1 y2 y3 y4 y5 w => M5 (y0, y1, y2, y3, y4, y5) w) x.1 x.2.1 x.2.2.1 x.2.2.2.1 x.2.2.2.2.1 x.2.2.2.2.2 w) (fun _ _ => by kernel_rfl) (fun _ _ => by kernel_rfl)) (mkSeq mkLeaf (mkBlock (mkSeq mkLeaf mkLeaf)))) (mkSeq (mkCnd mkLeaf mkLeaf) mkLeaf))) (fun x w => trystlaw24_MixDoes.l5 R x.1 x.2.1 x.2.2.1 x.2.2.2.1 x.2.2.2.2.1 x.2.2.2.2.2 w) (by rintro ⟨c0, c1, c2, c3, c4, s0⟩ w ⟨I, μ, h0, h1⟩; refine ⟨fun y w => y.1 = c0 ∧ y.2.1 = c1 ∧ y.2.2.1 = c2 ∧ y.2.2.2.1 = c3 ∧ y.2.2.2.2.1 = c4 ∧ I y.2.2.2.2.2 w, fun y w => μ y.2.2.2.2.2 w, ⟨rfl, rfl, rfl, rfl, rfl, h0⟩, ?_⟩; rintro ⟨d0, d1, d2, d3, d4, t0⟩ w ⟨e0, e1, e2, e3, e4, hI⟩; dsimp only at e0 e1 e2 e3 e4 hI; subst e0; subst e1; subst e2; subst e3; subst e4; exact h1 _ _ hI) (fun _ _ => by kernel_rfl)))) mkLeaf)) mkLeaf)) (mkSeq (mkBlock (mkLoop (loopDef LfYtoclhecldmahiaaDoor.mixed [(1, .slice), (2, .slice), (3, .bool), (9, .ptr), (11, .ptr), (12, .slice), (13, (.int .i64))] (by kernel_rfl) (fun M8 x w => trystlaw24_MixDoes.b8 R (fun y0 y1 y2 y3 y4 y5 y6 w => M8 (y0, y1, y2, y3, y4, y5, y6) w) x.1 x.2.1 x.2.2.1 x.2.2.2.1 x.2.2.2.2.1 x.2.2.2.2.2.1 x.2.2.2.2.2.2 w) (fun M8 => fun _ _ _ => False) (fun _ _ _ => by kernel_rfl) (fun M8 => (mkSeq (mkSeq mkLeaf (mkBlock mkLeaf)) (mkSeq (mkCnd mkLeaf mkLeaf) mkLeaf))) (fun x w => trystlaw24_MixDoes.l8 R x.1 x.2.1 x.2.2.1 x.2.2.2.1 x.2.2.2.2.1 x.2.2.2.2.2.1 x.2.2.2.2.2.2 w) (by rintro ⟨c0, c1, c2, c3, c4, s0⟩ w ⟨I, μ, h0, h1⟩; refine ⟨fun y w => y.1 = c0 ∧ y.2.1 = c1 ∧ y.2.2.1 = c2 ∧ y.2.2.2.1 = c3 ∧ y.2.2.2.2.1 = c4 ∧ I y.2.2.2.2.2 w, fun y w => μ y.2.2.2.2.2 w, ⟨rfl, rfl, rfl, rfl, rfl, h0⟩, ?_⟩; rintro ⟨d0, d1, d2, d3, d4, t0⟩ w ⟨e0, e1, e2, e3, e4, hI⟩; dsimp only at e0 e1 e2 e3 e4 hI; subst e0; subst e1; subst e2; subst e3; subst e4; exact h1 _ _ hI) (fun _ _ => by kernel_rfl)))) mkLeaf)) mkLeaf) mkLeaf) (mkSeq (mkCnd (mkSeq mkLeaf mkLeaf) mkLeaf) mkLeaf)) mkLeaf)) (mkSeq (mkCnd (mkSeq mkLeaf mkLeaf) mkLeaf) mkLeaf)) mkLeaf) (kcast (by kernel_rfl) h)

/-! trystlaw24_ask -/
def trystlaw24_ask.c1 (R : Value → World → Prop) (b0 : Option Addr) (x3 : Addr) (l6 : Sl) (w : World) : Prop :=
  ∃ x_1 : Int, w.cell? x3 = some (.int .i64 x_1) ∧
  cond ((x_1 : Int) == 72)
  (∃ S_2 : World → Prop, S_2 w.drew ∧
  0 ≤ (0 : Int) ∧ 0 < ((l6.len : Nat) : Int) ∧ ∃ q_3 : Addr, l6.a = some q_3 ∧
  ∃ x_4 : Int, (∀ x, S_2 x → x.cell? (q_3.add (0 : Int).toNat) = some (.int .i64 x_4)) ∧
  CallsV Tryd.prog n_trystref10_Arena_Word #[.pointer b0, .int .i64 72] w.drew (fun v_5 w1 =>
  ∃ x_6 : Int, v_5 = .int .i64 x_6 ∧
  S_2 w1 ∧
  let w2 := w1.alloc (.cells #[.int .i64 x_6, .int .i64 x_4] 3);
  CallsV Tryd.prog n_trystref10_Arena_Make #[.pointer b0, .int .i64 9, .int .i64 0, .slice (some (newA w1)) 2 2] w2 (fun v_7 w3 =>
  ∃ x_8 : Int, v_7 = .int .i64 x_8 ∧
  R (.int .i64 x_8) w3)))
  (∃ S_9 : World → Prop, S_9 w.drew ∧
  ∃ x_10 : Int, (∀ x, S_9 x → x.cell? x3 = some (.int .i64 x_10)) ∧
  0 ≤ (0 : Int) ∧ 0 < ((l6.len : Nat) : Int) ∧ ∃ q_11 : Addr, l6.a = some q_11 ∧
  ∃ x_12 : Int, (∀ x, S_9 x → x.cell? (q_11.add (0 : Int).toNat) = some (.int .i64 x_12)) ∧
  0 ≤ (1 : Int) ∧ 1 < ((l6.len : Nat) : Int) ∧ ∃ q_13 : Addr, l6.a = some q_13 ∧
  ∃ x_14 : Int, (∀ x, S_9 x → x.cell? (q_13.add (1 : Int).toNat) = some (.int .i64 x_14)) ∧
  CallsV Tryd.prog n_trystref10_Arena_Word #[.pointer b0, .int .i64 x_10] w.drew (fun v_15 w4 =>
  ∃ x_16 : Int, v_15 = .int .i64 x_16 ∧
  S_9 w4 ∧
  let w5 := w4.alloc (.cells #[.int .i64 x_16, .int .i64 x_12, .int .i64 x_14] 3);
  CallsV Tryd.prog n_trystref10_Arena_Make #[.pointer b0, .int .i64 9, .int .i64 0, .slice (some (newA w4)) 3 3] w5 (fun v_17 w6 =>
  ∃ x_18 : Int, v_17 = .int .i64 x_18 ∧
  R (.int .i64 x_18) w6)))

def trystlaw24_ask.c2 (R : Value → World → Prop) (l6 : Sl) (w : World) : Prop :=
  0 ≤ (0 : Int) ∧ 0 < ((l6.len : Nat) : Int) ∧ ∃ q_19 : Addr, l6.a = some q_19 ∧
  ∃ x_20 : Int, w.cell? (q_19.add (0 : Int).toNat) = some (.int .i64 x_20) ∧
  R (.int .i64 x_20) w

def trystlaw24_ask.main (R : Value → World → Prop) (b0 : Option Addr) (x1_0 : Int) (x1_1 : Int) (x1_2 : Int) (x1_3 : Bool) (w : World) : Prop :=
  let w7 := w.alloc (.cells #[.int .i64 x1_0, .int .i64 x1_1, .int .i64 x1_2, .bool x1_3] 68);
  ∃ q_21 : Addr, b0 = some q_21 ∧
  ∃ (a_22 : Option Addr) (l_23 c_24 : Nat), w7.cell? q_21 = some (.slice a_22 l_23 c_24) ∧
  ∃ x_25 : Int, w7.cell? ((newA w).add 1) = some (.int .i64 x_25) ∧
  ∃ x_26 : Int, w7.cell? ((newA w).add 2) = some (.int .i64 x_26) ∧
  let w8 := w7.alloc (.cells #[.int .i64 x_25, .int .i64 x_26] 3);
  CallsV Tryd.prog n_trystlaw10_Some #[.slice (some (newA w7)) 2 2, .int .i64 ((l_23 : Nat) : Int)] w8 (fun v_27 w9 =>
  ∃ (a_28 : Option Addr) (l_29 c_30 : Nat), v_27 = .slice a_28 l_29 c_30 ∧
  ∃ b_31 : Bool, w9.cell? ((newA w).add 3) = some (.bool b_31) ∧
  cond b_31
  (trystlaw24_ask.c2 R ⟨a_28, l_29, c_30⟩ w9)
  (∃ x_32 : Int, w9.cell? (newA w) = some (.int .i64 x_32) ∧
  cond (decide ((x_32 : Int) < 0))
  (trystlaw24_ask.c2 R ⟨a_28, l_29, c_30⟩ w9)
  (CallsV Tryd.prog n_trystref10_Arena_Has #[.pointer b0, .slice a_28 l_29 c_30] w9 (fun v_33 w10 =>
  ∃ b_34 : Bool, v_33 = .bool b_34 ∧
  cond (!b_34)
  (trystlaw24_ask.c2 R ⟨a_28, l_29, c_30⟩ w10)
  (trystlaw24_ask.c1 R b0 (newA w) ⟨a_28, l_29, c_30⟩ w10)))))

def trystlaw24_ask.J0 (R : Value → World → Prop) (k : Nat) (fr : Fr) (w : World) : Prop :=
  cond (Nat.beq k 2) (dec [(6, .slice)] fr fun x => trystlaw24_ask.c2 R x w) (cond (Nat.beq k 1) (dec [(0, .ptr), (3, .addr), (6, .slice)] fr fun x => trystlaw24_ask.c1 R x.1 x.2.1 x.2.2 w) (False))

set_option maxRecDepth 100000 in
theorem trystlaw24_ask.lift {R : Value → World → Prop} {b0 : Option Addr} {x1_0 : Int} {x1_1 : Int} {x1_2 : Int} {x1_3 : Bool} {w : World} (h : trystlaw24_ask.main R b0 x1_0 x1_1 x1_2 x1_3 w) : CallsV Tryd.prog n_trystlaw24_ask #[.pointer b0, .agg #[.int .i64 x1_0, .int .i64 x1_1, .int .i64 x1_2, .bool x1_3]] w R :=
  liftCalls (c := (.seq (.leaf (cL (bd Tryd.f54))) (.seq (.leaf (cL (cR (bd Tryd.f54)))) (.seq (.leaf (cL (cR (cR (bd Tryd.f54))))) (.seq (.seq (.leaf (cL (cL (cR (cR (cR (bd Tryd.f54))))))) (.cnd (.tmp 31) (.cut 2 (.seq (.leaf (cL (cT (cR (cL (cR (cR (cR (bd Tryd.f54))))))))) (.leaf (cR (cT (cR (cL (cR (cR (cR (bd Tryd.f54))))))))))) (.leaf (cE (cR (cL (cR (cR (cR (bd Tryd.f54)))))))))) (.cut 1 (.seq (.seq (.leaf (cL (cL (cR (cR (cR (cR (bd Tryd.f54)))))))) (.cnd (.tmp 37) (.seq (.leaf (cL (cT (cR (cL (cR (cR (cR (cR (bd Tryd.f54)))))))))) (.leaf (cR (cT (cR (cL (cR (cR (cR (cR (bd Tryd.f54))))))))))) (.leaf (cE (cR (cL (cR (cR (cR (cR (bd Tryd.f54))))))))))) (.seq (.leaf (cL (cR (cR (cR (cR (cR (bd Tryd.f54)))))))) (.leaf (cR (cR (cR (cR (cR (cR (bd Tryd.f54)))))))))))))))) (J := trystlaw24_ask.J0 R) LfYtoclhecldmahiaaDoor.mixed Tryd.func54 (by kernel_rfl) (by kernel_rfl) (mkSeq (mkSeq (mkSeq (mkSeq (mkCut (cutDef [(0, .ptr), (3, .addr), (6, .slice)] (fun x w => trystlaw24_ask.c1 R x.1 x.2.1 x.2.2 w) (fun _ _ => by kernel_rfl) (fun _ _ => by kernel_rfl)) (mkSeq (mkSeq mkLeaf mkLeaf) (mkSeq (mkCnd (mkSeq mkLeaf mkLeaf) mkLeaf) mkLeaf))) (mkSeq (mkCnd (mkCut (cutDef [(6, .slice)] (fun x w => trystlaw24_ask.c2 R x w) (fun _ _ => by kernel_rfl) (fun _ _ => by kernel_rfl)) (mkSeq mkLeaf mkLeaf)) mkLeaf) mkLeaf)) mkLeaf) mkLeaf) mkLeaf) (kcast (by kernel_rfl) h)

/-! trystlaw24_regs -/
def trystlaw24_regs.b1 (R : Value → World → Prop) (N1 : Option Addr → Sl → Sl → Int → World → Prop) (p0 : Option Addr) (l1 : Sl) (out5 : Sl) (i6 : Int) (w : World) : Prop :=
  cond (decide ((i6 : Int) < ((l1.len : Nat) : Int)))
  (∃ S_1 : World → Prop, S_1 w.drew ∧
  0 ≤ (i6 : Int) ∧ i6 < ((l1.len : Nat) : Int) ∧ ∃ q_2 : Addr, l1.a = some q_2 ∧
  ∃ x_3 : Int, (∀ x, S_1 x → x.cell? (q_2.add ((i6 : Int).toNat * 2)) = some (.int .i64 x_3)) ∧
  0 ≤ (i6 : Int) ∧ i6 < ((l1.len : Nat) : Int) ∧ ∃ q_4 : Addr, l1.a = some q_4 ∧
  ∃ x_5 : Int, (∀ x, S_1 x → x.cell? ((q_4.add ((i6 : Int).toNat * 2)).add 1) = some (.int .i64 x_5)) ∧
  CallsV Tryd.prog n_trystlaw10_Pair_T #[.pointer p0, .int .i64 x_3] w.drew (fun v_6 w1 =>
  ∃ x_7 : Int, v_6 = .int .i64 x_7 ∧
  S_1 w1 ∧
  CallsV Tryd.prog n_trystlaw10_Pair_T #[.pointer p0, .int .i64 x_5] w1 (fun v_8 w2 =>
  ∃ x_9 : Int, v_8 = .int .i64 x_9 ∧
  let w3 := w2.alloc (.cells #[.int .i64 x_7, .int .i64 x_9] 72);
  ∃ (a_10 : Option Addr) (l_11 c_12 : Nat), ∃ w4 : World, (builtin .append #[57, 57] 57 #[] #[.slice out5.a out5.len out5.cap, .slice (some (newA w2)) 1 1]).run Tryd.prog w3 = .ok (.value (.slice a_10 l_11 c_12)) w4 ∧
  (let i6_12 : Int := (IntKind.i64.wrap (i6 + 1));
  N1 p0 l1 ⟨a_10, l_11, c_12⟩ i6_12 w4))))
  (R (.slice out5.a out5.len out5.cap) w)

def trystlaw24_regs.l1 (R : Value → World → Prop) (p0 : Option Addr) (l1 : Sl) (out5 : Sl) (i6 : Int) (w : World) : Prop :=
  ∃ (I : (Sl × Int) → World → Prop) (μ : (Sl × Int) → World → Nat), I (out5, i6) w ∧ ∀ s w, I s w → trystlaw24_regs.b1 R (fun p0' l1' out5' i6' w' => (p0' = p0 ∧ l1' = l1 ∧ I (out5', i6') w') ∧ μ (out5', i6') w' < μ s w) p0 l1 s.1 s.2 w

def trystlaw24_regs.main (R : Value → World → Prop) (p0 : Option Addr) (l1 : Sl) (w : World) : Prop :=
  trystlaw24_regs.l1 R p0 l1 ⟨none, 0, 0⟩ 0 w

def trystlaw24_regs.J0 (R : Value → World → Prop) (k : Nat) (fr : Fr) (w : World) : Prop :=
  cond (Nat.beq k 1) (dec [(0, .ptr), (1, .slice), (5, .slice), (6, (.int .i64))] fr fun x => trystlaw24_regs.l1 R x.1 x.2.1 x.2.2.1 x.2.2.2 w) (False)

set_option maxRecDepth 100000 in
theorem trystlaw24_regs.lift {R : Value → World → Prop} {p0 : Option Addr} {l1 : Sl} {w : World} (h : trystlaw24_regs.main R p0 l1 w) : CallsV Tryd.prog n_trystlaw24_regs #[.pointer p0, .slice l1.a l1.len l1.cap] w R :=
  liftCalls (c := (.seq (.leaf (cL (bd Tryd.f58))) (.seq (.leaf (cL (cR (bd Tryd.f58)))) (.seq (.seq (.leaf (cL (cL (cR (cR (bd Tryd.f58)))))) (.block 0 (.loop 1 (.seq (.seq (.leaf (cL (cL (cB (cB (cR (cL (cR (cR (bd Tryd.f58)))))))))) (.cnd (.tmp 10) (.leaf (cT (cR (cL (cB (cB (cR (cL (cR (cR (bd Tryd.f58))))))))))) (.leaf (cE (cR (cL (cB (cB (cR (cL (cR (cR (bd Tryd.f58))))))))))))) (.seq (.block 1 (.leaf (cB (cL (cR (cB (cB (cR (cL (cR (cR (bd Tryd.f58)))))))))))) (.leaf (cR (cR (cB (cB (cR (cL (cR (cR (bd Tryd.f58))))))))))))))) (.seq (.leaf (cL (cR (cR (cR (bd Tryd.f58)))))) (.leaf (cR (cR (cR (cR (bd Tryd.f58))))))))))) (J := trystlaw24_regs.J0 R) LfYtoclhecldmahiaaDoor.mixed Tryd.func58 (by kernel_rfl) (by kernel_rfl) (mkSeq (mkSeq (mkSeq (mkSeq mkLeaf mkLeaf) (mkSeq (mkBlock (mkLoop (loopDef LfYtoclhecldmahiaaDoor.mixed [(0, .ptr), (1, .slice), (5, .slice), (6, (.int .i64))] (by kernel_rfl) (fun M1 x w => trystlaw24_regs.b1 R (fun y0 y1 y2 y3 w => M1 (y0, y1, y2, y3) w) x.1 x.2.1 x.2.2.1 x.2.2.2 w) (fun M1 => fun _ _ _ => False) (fun _ _ _ => by kernel_rfl) (fun M1 => (mkSeq (mkSeq mkLeaf (mkBlock mkLeaf)) (mkSeq (mkCnd mkLeaf mkLeaf) mkLeaf))) (fun x w => trystlaw24_regs.l1 R x.1 x.2.1 x.2.2.1 x.2.2.2 w) (by rintro ⟨c0, c1, s0⟩ w ⟨I, μ, h0, h1⟩; refine ⟨fun y w => y.1 = c0 ∧ y.2.1 = c1 ∧ I y.2.2 w, fun y w => μ y.2.2 w, ⟨rfl, rfl, h0⟩, ?_⟩; rintro ⟨d0, d1, t0⟩ w ⟨e0, e1, hI⟩; dsimp only at e0 e1 hI; subst e0; subst e1; exact h1 _ _ hI) (fun _ _ => by kernel_rfl)))) mkLeaf)) mkLeaf) mkLeaf) (kcast (by kernel_rfl) h)

end Go.Proofs.YtoclhecldmahiaaDoor
