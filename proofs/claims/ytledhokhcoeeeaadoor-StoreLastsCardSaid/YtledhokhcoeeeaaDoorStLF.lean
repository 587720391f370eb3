/-
  What the code of these functions comes to, and that it suffices for the call. Written by a program of ours, for this claim.
-/
import Derived.Test.YtledhokhcoeeeaaDoorStFns
set_option linter.unusedVariables false
set_option linter.unusedVariables false
namespace Go.Proofs.YtledhokhcoeeeaaDoor
open Go.Lf
abbrev n_trystlaw14_StoreLasts : Nat := 6
abbrev n_trystlaw14_heavy : Nat := 18
abbrev n_trystlaw14_state : Nat := 19
/-! trystlaw14_StoreLasts -/
def trystlaw14_StoreLasts.c1 (R : Value → World → Prop) (d3 : Option Addr) (was6 : Sl) (w : World) : Prop :=
  CallsV Tryd.prog n_disk_Disk_Crash #[.pointer d3, .slice none 0 0, .int .i64 (-1)] w (fun v_1 w1 =>
  v_1 = .tuple #[] ∧
  CallsV Tryd.prog n_disk_Disk_Start #[.pointer d3] w1 (fun v_2 w2 =>
  v_2 = .tuple #[] ∧
  CallsV Tryd.prog n_store_Open #[.pointer d3] w2 (fun v_3 w3 =>
  ∃ p_4 : Option Addr, ∃ x_5 : Int, v_3 = .tuple #[.pointer p_4, .int .i64 x_5] ∧
  cond ((x_5 : Int) == 0)
  (cond (!(p_4).isNone)
  (CallsV Tryd.prog n_store_Store_State #[.pointer p_4] w3 (fun v_6 w4 =>
  ∃ (a_7 : Option Addr) (l_8 c_9 : Nat), v_6 = .slice a_7 l_8 c_9 ∧
  CallsV Tryd.prog n_trystkeep_Bytes #[.slice a_7 l_8 c_9, .slice was6.a was6.len was6.cap] w4 (fun v_10 w5 =>
  ∃ b_11 : Bool, v_10 = .bool b_11 ∧
  cond b_11
  (CallsV Tryd.prog n_trystlaw14_wakes #[] w5 (fun v_12 w6 =>
  ∃ b_13 : Bool, v_12 = .bool b_13 ∧
  R (.bool b_13) w6))
  (R (.bool false) w5))))
  (R (.bool false) w3))
  (R (.bool false) w3))))

def trystlaw14_StoreLasts.c3 (R : Value → World → Prop) (N2 : Sl → Option Addr → Option Addr → Sl → Int → World → Prop) (l0 : Sl) (d3 : Option Addr) (s5 : Option Addr) (i7 : Int) (w : World) : Prop :=
  CallsV Tryd.prog n_store_Store_State #[.pointer s5] w (fun v_14 w7 =>
  ∃ (a_15 : Option Addr) (l_16 c_17 : Nat), v_14 = .slice a_15 l_16 c_17 ∧
  CallsV Tryd.prog n_trystkeep_Twin #[.slice a_15 l_16 c_17] w7 (fun v_18 w8 =>
  ∃ (a_19 : Option Addr) (l_20 c_21 : Nat), v_18 = .slice a_19 l_20 c_21 ∧
  (let i7_21 : Int := (IntKind.i64.wrap (i7 + 1));
  N2 l0 d3 s5 ⟨a_19, l_20, c_21⟩ i7_21 w8)))

def trystlaw14_StoreLasts.c4 (R : Value → World → Prop) (N2 : Sl → Option Addr → Option Addr → Sl → Int → World → Prop) (l0 : Sl) (d3 : Option Addr) (was6 : Sl) (i7 : Int) (next8 : Sl) (w : World) : Prop :=
  CallsV Tryd.prog n_disk_Disk_Start #[.pointer d3] w (fun v_23 w9 =>
  v_23 = .tuple #[] ∧
  CallsV Tryd.prog n_disk_Disk_Trip #[.pointer d3, .int .i64 0, .slice none 0 0, .int .i64 0] w9 (fun v_24 w10 =>
  v_24 = .tuple #[] ∧
  CallsV Tryd.prog n_store_Open #[.pointer d3] w10 (fun v_25 w11 =>
  ∃ p_26 : Option Addr, ∃ x_27 : Int, v_25 = .tuple #[.pointer p_26, .int .i64 x_27] ∧
  cond ((x_27 : Int) != 0)
  (R (.bool false) w11)
  (cond ((p_26).isNone)
  (R (.bool false) w11)
  (CallsV Tryd.prog n_store_Store_State #[.pointer p_26] w11 (fun v_28 w12 =>
  ∃ (a_29 : Option Addr) (l_30 c_31 : Nat), v_28 = .slice a_29 l_30 c_31 ∧
  CallsV Tryd.prog n_trystkeep_Bytes #[.slice a_29 l_30 c_31, .slice was6.a was6.len was6.cap] w12 (fun v_32 w13 =>
  ∃ b_33 : Bool, v_32 = .bool b_33 ∧
  cond (!b_33)
  (CallsV Tryd.prog n_store_Store_State #[.pointer p_26] w13 (fun v_34 w14 =>
  ∃ (a_35 : Option Addr) (l_36 c_37 : Nat), v_34 = .slice a_35 l_36 c_37 ∧
  CallsV Tryd.prog n_trystkeep_Bytes #[.slice a_35 l_36 c_37, .slice next8.a next8.len next8.cap] w14 (fun v_38 w15 =>
  ∃ b_39 : Bool, v_38 = .bool b_39 ∧
  cond (!b_39)
  (R (.bool false) w15)
  (trystlaw14_StoreLasts.c3 R N2 l0 d3 p_26 i7 w15))))
  (trystlaw14_StoreLasts.c3 R N2 l0 d3 p_26 i7 w13))))))))

def trystlaw14_StoreLasts.c6 (R : Value → World → Prop) (N2 : Sl → Option Addr → Option Addr → Sl → Int → World → Prop) (N5 : Sl → Option Addr → Sl → Int → Sl → Int → World → Prop) (l0 : Sl) (d3 : Option Addr) (was6 : Sl) (i7 : Int) (next8 : Sl) (k11 : Int) (w : World) : Prop :=
  CallsV Tryd.prog n_disk_Disk_Crash #[.pointer d3, .slice none 0 0, .int .i64 (-1)] w (fun v_40 w16 =>
  v_40 = .tuple #[] ∧
  (let k11_40 : Int := (IntKind.i64.wrap (k11 + 1));
  N5 l0 d3 was6 i7 next8 k11_40 w16))

def trystlaw14_StoreLasts.b5 (R : Value → World → Prop) (N2 : Sl → Option Addr → Option Addr → Sl → Int → World → Prop) (N5 : Sl → Option Addr → Sl → Int → Sl → Int → World → Prop) (l0 : Sl) (d3 : Option Addr) (was6 : Sl) (i7 : Int) (next8 : Sl) (k11 : Int) (w : World) : Prop :=
  0 ≤ (i7 : Int) ∧ i7 < ((l0.len : Nat) : Int) ∧ ∃ q_42 : Addr, l0.a = some q_42 ∧
  ∃ (a_43 : Option Addr) (l_44 c_45 : Nat), w.cell? ((q_42.add ((i7 : Int).toNat * 6)).add 5) = some (.slice a_43 l_44 c_45) ∧
  cond (decide ((k11 : Int) < ((l_44 : Nat) : Int)))
  (CallsV Tryd.prog n_disk_Disk_Start #[.pointer d3] w (fun v_46 w17 =>
  v_46 = .tuple #[] ∧
  ∃ S_47 : World → Prop, S_47 w17.drew ∧
  0 ≤ (i7 : Int) ∧ i7 < ((l0.len : Nat) : Int) ∧ ∃ q_48 : Addr, l0.a = some q_48 ∧
  ∃ (a_49 : Option Addr) (l_50 c_51 : Nat), (∀ x, S_47 x → x.cell? ((q_48.add ((i7 : Int).toNat * 6)).add 5) = some (.slice a_49 l_50 c_51)) ∧
  0 ≤ (k11 : Int) ∧ k11 < ((l_50 : Nat) : Int) ∧ ∃ q_52 : Addr, a_49 = some q_52 ∧
  ∃ x_53 : Int, (∀ x, S_47 x → x.cell? (q_52.add (k11 : Int).toNat) = some (.int .i64 x_53)) ∧
  0 ≤ (i7 : Int) ∧ i7 < ((l0.len : Nat) : Int) ∧ ∃ q_54 : Addr, l0.a = some q_54 ∧
  ∃ (a_55 : Option Addr) (l_56 c_57 : Nat), (∀ x, S_47 x → x.cell? ((q_54.add ((i7 : Int).toNat * 6)).add 3) = some (.slice a_55 l_56 c_57)) ∧
  0 ≤ (i7 : Int) ∧ i7 < ((l0.len : Nat) : Int) ∧ ∃ q_58 : Addr, l0.a = some q_58 ∧
  ∃ x_59 : Int, (∀ x, S_47 x → x.cell? ((q_58.add ((i7 : Int).toNat * 6)).add 4) = some (.int .i64 x_59)) ∧
  CallsV Tryd.prog n_disk_Disk_Trip #[.pointer d3, .int .i64 x_53, .slice a_55 l_56 c_57, .int .i64 x_59] w17.drew (fun v_60 w18 =>
  v_60 = .tuple #[] ∧
  CallsV Tryd.prog n_store_Open #[.pointer d3] w18 (fun v_61 w19 =>
  ∃ p_62 : Option Addr, ∃ x_63 : Int, v_61 = .tuple #[.pointer p_62, .int .i64 x_63] ∧
  cond ((x_63 : Int) == 0)
  (cond ((p_62).isNone)
  (R (.bool false) w19)
  (CallsV Tryd.prog n_store_Store_State #[.pointer p_62] w19 (fun v_64 w20 =>
  ∃ (a_65 : Option Addr) (l_66 c_67 : Nat), v_64 = .slice a_65 l_66 c_67 ∧
  CallsV Tryd.prog n_trystkeep_Bytes #[.slice a_65 l_66 c_67, .slice was6.a was6.len was6.cap] w20 (fun v_68 w21 =>
  ∃ b_69 : Bool, v_68 = .bool b_69 ∧
  cond (!b_69)
  (CallsV Tryd.prog n_store_Store_State #[.pointer p_62] w21 (fun v_70 w22 =>
  ∃ (a_71 : Option Addr) (l_72 c_73 : Nat), v_70 = .slice a_71 l_72 c_73 ∧
  CallsV Tryd.prog n_trystkeep_Bytes #[.slice a_71 l_72 c_73, .slice next8.a next8.len next8.cap] w22 (fun v_74 w23 =>
  ∃ b_75 : Bool, v_74 = .bool b_75 ∧
  cond (!b_75)
  (R (.bool false) w23)
  (cond ((x_63 : Int) != 0)
  (cond ((x_63 : Int) != 9)
  (R (.bool false) w23)
  (cond (!(p_62).isNone)
  (R (.bool false) w23)
  (trystlaw14_StoreLasts.c6 R N2 N5 l0 d3 was6 i7 next8 k11 w23)))
  (trystlaw14_StoreLasts.c6 R N2 N5 l0 d3 was6 i7 next8 k11 w23)))))
  (cond ((x_63 : Int) != 0)
  (cond ((x_63 : Int) != 9)
  (R (.bool false) w21)
  (cond (!(p_62).isNone)
  (R (.bool false) w21)
  (trystlaw14_StoreLasts.c6 R N2 N5 l0 d3 was6 i7 next8 k11 w21)))
  (trystlaw14_StoreLasts.c6 R N2 N5 l0 d3 was6 i7 next8 k11 w21))))))
  (cond ((x_63 : Int) != 0)
  (cond ((x_63 : Int) != 9)
  (R (.bool false) w19)
  (cond (!(p_62).isNone)
  (R (.bool false) w19)
  (trystlaw14_StoreLasts.c6 R N2 N5 l0 d3 was6 i7 next8 k11 w19)))
  (trystlaw14_StoreLasts.c6 R N2 N5 l0 d3 was6 i7 next8 k11 w19))))))
  (trystlaw14_StoreLasts.c4 R N2 l0 d3 was6 i7 next8 w)

def trystlaw14_StoreLasts.l5 (R : Value → World → Prop) (N2 : Sl → Option Addr → Option Addr → Sl → Int → World → Prop) (l0 : Sl) (d3 : Option Addr) (was6 : Sl) (i7 : Int) (next8 : Sl) (k11 : Int) (w : World) : Prop :=
  ∃ (I : Int → World → Prop) (μ : Int → World → Nat), I k11 w ∧ ∀ s w, I s w → trystlaw14_StoreLasts.b5 R N2 (fun l0' d3' was6' i7' next8' k11' w' => (l0' = l0 ∧ d3' = d3 ∧ was6' = was6 ∧ i7' = i7 ∧ next8' = next8 ∧ I k11' w') ∧ μ k11' w' < μ s w) l0 d3 was6 i7 next8 s w

def trystlaw14_StoreLasts.c7 (R : Value → World → Prop) (N2 : Sl → Option Addr → Option Addr → Sl → Int → World → Prop) (l0 : Sl) (d3 : Option Addr) (was6 : Sl) (i7 : Int) (next8 : Sl) (w : World) : Prop :=
  trystlaw14_StoreLasts.l5 R N2 l0 d3 was6 i7 next8 0 w

def trystlaw14_StoreLasts.c8 (R : Value → World → Prop) (N2 : Sl → Option Addr → Option Addr → Sl → Int → World → Prop) (l0 : Sl) (d3 : Option Addr) (s5 : Option Addr) (was6 : Sl) (i7 : Int) (w : World) : Prop :=
  0 ≤ (i7 : Int) ∧ i7 < ((l0.len : Nat) : Int) ∧ ∃ q_76 : Addr, l0.a = some q_76 ∧
  ∃ (a_77 : Option Addr) (l_78 c_79 : Nat), w.cell? (q_76.add ((i7 : Int).toNat * 6)) = some (.slice a_77 l_78 c_79) ∧
  ∃ x_80 : Int, w.cell? ((q_76.add ((i7 : Int).toNat * 6)).add 1) = some (.int .i64 x_80) ∧
  ∃ x_81 : Int, w.cell? ((q_76.add ((i7 : Int).toNat * 6)).add 2) = some (.int .i64 x_81) ∧
  ∃ (a_82 : Option Addr) (l_83 c_84 : Nat), w.cell? ((q_76.add ((i7 : Int).toNat * 6)).add 3) = some (.slice a_82 l_83 c_84) ∧
  ∃ x_85 : Int, w.cell? ((q_76.add ((i7 : Int).toNat * 6)).add 4) = some (.int .i64 x_85) ∧
  ∃ (a_86 : Option Addr) (l_87 c_88 : Nat), w.cell? ((q_76.add ((i7 : Int).toNat * 6)).add 5) = some (.slice a_86 l_87 c_88) ∧
  CallsV Tryd.prog n_trystlaw14_state #[.agg #[.slice a_77 l_78 c_79, .int .i64 x_80, .int .i64 x_81, .slice a_82 l_83 c_84, .int .i64 x_85, .slice a_86 l_87 c_88]] w (fun v_89 w24 =>
  ∃ (a_90 : Option Addr) (l_91 c_92 : Nat), v_89 = .slice a_90 l_91 c_92 ∧
  ∃ S_93 : World → Prop, S_93 w24.drew ∧
  0 ≤ (i7 : Int) ∧ i7 < ((l0.len : Nat) : Int) ∧ ∃ q_94 : Addr, l0.a = some q_94 ∧
  ∃ x_95 : Int, (∀ x, S_93 x → x.cell? ((q_94.add ((i7 : Int).toNat * 6)).add 2) = some (.int .i64 x_95)) ∧
  0 ≤ (i7 : Int) ∧ i7 < ((l0.len : Nat) : Int) ∧ ∃ q_96 : Addr, l0.a = some q_96 ∧
  ∃ (a_97 : Option Addr) (l_98 c_99 : Nat), (∀ x, S_93 x → x.cell? ((q_96.add ((i7 : Int).toNat * 6)).add 3) = some (.slice a_97 l_98 c_99)) ∧
  0 ≤ (i7 : Int) ∧ i7 < ((l0.len : Nat) : Int) ∧ ∃ q_100 : Addr, l0.a = some q_100 ∧
  ∃ x_101 : Int, (∀ x, S_93 x → x.cell? ((q_100.add ((i7 : Int).toNat * 6)).add 4) = some (.int .i64 x_101)) ∧
  CallsV Tryd.prog n_disk_Disk_Trip #[.pointer d3, .int .i64 x_95, .slice a_97 l_98 c_99, .int .i64 x_101] w24.drew (fun v_102 w25 =>
  v_102 = .tuple #[] ∧
  CallsV Tryd.prog n_trystkeep_Twin #[.slice a_90 l_91 c_92] w25 (fun v_103 w26 =>
  ∃ (a_104 : Option Addr) (l_105 c_106 : Nat), v_103 = .slice a_104 l_105 c_106 ∧
  CallsV Tryd.prog n_store_Store_Save #[.pointer s5, .slice a_104 l_105 c_106] w26 (fun v_107 w27 =>
  ∃ x_108 : Int, v_107 = .int .i64 x_108 ∧
  CallsV Tryd.prog n_trystkeep_Bytes #[.slice a_104 l_105 c_106, .slice a_90 l_91 c_92] w27 (fun v_109 w28 =>
  ∃ b_110 : Bool, v_109 = .bool b_110 ∧
  cond (!b_110)
  (R (.bool false) w28)
  (CallsV Tryd.prog n_trystkeep_SpoilBytes #[.slice a_104 l_105 c_106] w28 (fun v_111 w29 =>
  v_111 = .tuple #[] ∧
  cond ((x_108 : Int) == 0)
  (CallsV Tryd.prog n_disk_Disk_Trip #[.pointer d3, .int .i64 0, .slice none 0 0, .int .i64 0] w29 (fun v_112 w30 =>
  v_112 = .tuple #[] ∧
  CallsV Tryd.prog n_store_Store_State #[.pointer s5] w30 (fun v_113 w31 =>
  ∃ (a_114 : Option Addr) (l_115 c_116 : Nat), v_113 = .slice a_114 l_115 c_116 ∧
  CallsV Tryd.prog n_trystkeep_Bytes #[.slice a_114 l_115 c_116, .slice a_90 l_91 c_92] w31 (fun v_117 w32 =>
  ∃ b_118 : Bool, v_117 = .bool b_118 ∧
  cond (!b_118)
  (R (.bool false) w32)
  ((let i7_118 : Int := (IntKind.i64.wrap (i7 + 1));
  N2 l0 d3 s5 ⟨a_90, l_91, c_92⟩ i7_118 w32))))))
  (cond ((x_108 : Int) != 9)
  (R (.bool false) w29)
  (CallsV Tryd.prog n_disk_Disk_Off #[.pointer d3] w29 (fun v_120 w33 =>
  ∃ b_121 : Bool, v_120 = .bool b_121 ∧
  cond (!b_121)
  (R (.bool false) w33)
  (trystlaw14_StoreLasts.c7 R N2 l0 d3 was6 i7 ⟨a_90, l_91, c_92⟩ w33)))))))))))

def trystlaw14_StoreLasts.b2 (R : Value → World → Prop) (N2 : Sl → Option Addr → Option Addr → Sl → Int → World → Prop) (l0 : Sl) (d3 : Option Addr) (s5 : Option Addr) (was6 : Sl) (i7 : Int) (w : World) : Prop :=
  cond (decide ((i7 : Int) < ((l0.len : Nat) : Int)))
  (cond (decide ((i7 : Int) < 25))
  (trystlaw14_StoreLasts.c8 R N2 l0 d3 s5 was6 i7 w)
  (trystlaw14_StoreLasts.c1 R d3 was6 w))
  (trystlaw14_StoreLasts.c1 R d3 was6 w)

def trystlaw14_StoreLasts.l2 (R : Value → World → Prop) (l0 : Sl) (d3 : Option Addr) (s5 : Option Addr) (was6 : Sl) (i7 : Int) (w : World) : Prop :=
  ∃ (I : ((Option Addr) × Sl × Int) → World → Prop) (μ : ((Option Addr) × Sl × Int) → World → Nat), I (s5, was6, i7) w ∧ ∀ s w, I s w → trystlaw14_StoreLasts.b2 R (fun l0' d3' s5' was6' i7' w' => (l0' = l0 ∧ d3' = d3 ∧ I (s5', was6', i7') w') ∧ μ (s5', was6', i7') w' < μ s w) l0 d3 s.1 s.2.1 s.2.2 w

def trystlaw14_StoreLasts.c9 (R : Value → World → Prop) (l0 : Sl) (d3 : Option Addr) (s5 : Option Addr) (w : World) : Prop :=
  trystlaw14_StoreLasts.l2 R l0 d3 s5 ⟨none, 0, 0⟩ 0 w

def trystlaw14_StoreLasts.c10 (R : Value → World → Prop) (l0 : Sl) (d3 : Option Addr) (w : World) : Prop :=
  CallsV Tryd.prog n_store_Open #[.pointer d3] w (fun v_122 w34 =>
  ∃ p_123 : Option Addr, ∃ x_124 : Int, v_122 = .tuple #[.pointer p_123, .int .i64 x_124] ∧
  cond ((x_124 : Int) != 0)
  (R (.bool false) w34)
  (cond ((p_123).isNone)
  (R (.bool false) w34)
  (trystlaw14_StoreLasts.c9 R l0 d3 p_123 w34)))

def trystlaw14_StoreLasts.main (R : Value → World → Prop) (l0 : Sl) (w : World) : Prop :=
  CallsV Tryd.prog n_trystlaw14_heavy #[.slice l0.a l0.len l0.cap] w (fun v_125 w35 =>
  ∃ b_126 : Bool, v_125 = .bool b_126 ∧
  cond b_126
  (R (.bool true) w35)
  (CallsV Tryd.prog n_disk_New #[.int .i64 512] w35 (fun v_127 w36 =>
  ∃ p_128 : Option Addr, ∃ x_129 : Int, v_127 = .tuple #[.pointer p_128, .int .i64 x_129] ∧
  cond ((x_129 : Int) != 0)
  (R (.bool false) w36)
  (cond ((p_128).isNone)
  (R (.bool false) w36)
  (trystlaw14_StoreLasts.c10 R l0 p_128 w36)))))

def trystlaw14_StoreLasts.J2 (R : Value → World → Prop) (N2 : Sl → Option Addr → Option Addr → Sl → Int → World → Prop) (k : Nat) (fr : Fr) (w : World) : Prop :=
  cond (Nat.beq k 8) (dec [(0, .slice), (3, .ptr), (5, .ptr), (6, .slice), (7, (.int .i64))] fr fun x => trystlaw14_StoreLasts.c8 R N2 x.1 x.2.1 x.2.2.1 x.2.2.2.1 x.2.2.2.2 w) (cond (Nat.beq k 7) (dec [(0, .slice), (3, .ptr), (6, .slice), (7, (.int .i64)), (8, .slice)] fr fun x => trystlaw14_StoreLasts.c7 R N2 x.1 x.2.1 x.2.2.1 x.2.2.2.1 x.2.2.2.2 w) (cond (Nat.beq k 5) (dec [(0, .slice), (3, .ptr), (6, .slice), (7, (.int .i64)), (8, .slice), (11, (.int .i64))] fr fun x => trystlaw14_StoreLasts.l5 R N2 x.1 x.2.1 x.2.2.1 x.2.2.2.1 x.2.2.2.2.1 x.2.2.2.2.2 w) (cond (Nat.beq k 4) (dec [(0, .slice), (3, .ptr), (6, .slice), (7, (.int .i64)), (8, .slice)] fr fun x => trystlaw14_StoreLasts.c4 R N2 x.1 x.2.1 x.2.2.1 x.2.2.2.1 x.2.2.2.2 w) (cond (Nat.beq k 3) (dec [(0, .slice), (3, .ptr), (5, .ptr), (7, (.int .i64))] fr fun x => trystlaw14_StoreLasts.c3 R N2 x.1 x.2.1 x.2.2.1 x.2.2.2 w) (False)))))

def trystlaw14_StoreLasts.J5 (R : Value → World → Prop) (N2 : Sl → Option Addr → Option Addr → Sl → Int → World → Prop) (N5 : Sl → Option Addr → Sl → Int → Sl → Int → World → Prop) (k : Nat) (fr : Fr) (w : World) : Prop :=
  cond (Nat.beq k 6) (dec [(0, .slice), (3, .ptr), (6, .slice), (7, (.int .i64)), (8, .slice), (11, (.int .i64))] fr fun x => trystlaw14_StoreLasts.c6 R N2 N5 x.1 x.2.1 x.2.2.1 x.2.2.2.1 x.2.2.2.2.1 x.2.2.2.2.2 w) (False)

def trystlaw14_StoreLasts.J0 (R : Value → World → Prop) (k : Nat) (fr : Fr) (w : World) : Prop :=
  cond (Nat.beq k 10) (dec [(0, .slice), (3, .ptr)] fr fun x => trystlaw14_StoreLasts.c10 R x.1 x.2 w) (cond (Nat.beq k 9) (dec [(0, .slice), (3, .ptr), (5, .ptr)] fr fun x => trystlaw14_StoreLasts.c9 R x.1 x.2.1 x.2.2 w) (cond (Nat.beq k 2) (dec [(0, .slice), (3, .ptr), (5, .ptr), (6, .slice), (7, (.int .i64))] fr fun x => trystlaw14_StoreLasts.l2 R x.1 x.2.1 x.2.2.1 x.2.2.2.1 x.2.2.2.2 w) (cond (Nat.beq k 1) (dec [(3, .ptr), (6, .slice)] fr fun x => trystlaw14_StoreLasts.c1 R x.1 x.2 w) (False))))

set_option maxRecDepth 100000 in
theorem trystlaw14_StoreLasts.lift {R : Value → World → Prop} {l0 : Sl} {w : World} (h : trystlaw14_StoreLasts.main R l0 w) : CallsV Tryd.prog n_trystlaw14_StoreLasts #[.slice l0.a l0.len l0.cap] w R :=
  liftCalls (c := (.seq (.leaf (cL (bd Tryd.f6))) (.seq (.seq (.leaf (cL (cL (cR (bd Tryd.f6))))) (.cnd (.tmp 15) (.seq (.leaf (cL (cT (cR (cL (cR (bd Tryd.f6))))))) (.leaf (cR (cT (cR (cL (cR (bd Tryd.f6)))))))) (.leaf (cE (cR (cL (cR (bd Tryd.f6)))))))) (.seq (.leaf (cL (cR (cR (bd Tryd.f6))))) (.seq (.seq (.leaf (cL (cL (cR (cR (cR (bd Tryd.f6))))))) (.cnd (.tmp 25) (.seq (.leaf (cL (cT (cR (cL (cR (cR (cR (bd Tryd.f6))))))))) (.leaf (cR (cT (cR (cL (cR (cR (cR (bd Tryd.f6)))))))))) (.leaf (cE (cR (cL (cR (cR (cR (bd Tryd.f6)))))))))) (.cut 10 (.seq (.leaf (cL (cR (cR (cR (cR (bd Tryd.f6))))))) (.seq (.seq (.leaf (cL (cL (cR (cR (cR (cR (cR (bd Tryd.f6))))))))) (.cnd (.tmp 36) (.seq (.leaf (cL (cT (cR (cL (cR (cR (cR (cR (cR (bd Tryd.f6))))))))))) (.leaf (cR (cT (cR (cL (cR (cR (cR (cR (cR (bd Tryd.f6)))))))))))) (.leaf (cE (cR (cL (cR (cR (cR (cR (cR (bd Tryd.f6)))))))))))) (.cut 9 (.seq (.leaf (cL (cR (cR (cR (cR (cR (cR (bd Tryd.f6))))))))) (.seq (.seq (.leaf (cL (cL (cR (cR (cR (cR (cR (cR (cR (bd Tryd.f6))))))))))) (.block 0 (.loop 2 (.seq (.seq (.leaf (cL (cL (cB (cB (cR (cL (cR (cR (cR (cR (cR (cR (cR (bd Tryd.f6))))))))))))))) (.cnd (.tmp 44) (.leaf (cT (cR (cL (cB (cB (cR (cL (cR (cR (cR (cR (cR (cR (cR (bd Tryd.f6)))))))))))))))) (.leaf (cE (cR (cL (cB (cB (cR (cL (cR (cR (cR (cR (cR (cR (cR (bd Tryd.f6)))))))))))))))))) (.cut 8 (.seq (.block 1 (.seq (.leaf (cL (cB (cL (cR (cB (cB (cR (cL (cR (cR (cR (cR (cR (cR (cR (bd Tryd.f6))))))))))))))))) (.seq (.leaf (cL (cR (cB (cL (cR (cB (cB (cR (cL (cR (cR (cR (cR (cR (cR (cR (bd Tryd.f6)))))))))))))))))) (.seq (.leaf (cL (cR (cR (cB (cL (cR (cB (cB (cR (cL (cR (cR (cR (cR (cR (cR (cR (bd Tryd.f6))))))))))))))))))) (.seq (.leaf (cL (cR (cR (cR (cB (cL (cR (cB (cB (cR (cL (cR (cR (cR (cR (cR (cR (cR (bd Tryd.f6)))))))))))))))))))) (.seq (.seq (.leaf (cL (cL (cR (cR (cR (cR (cB (cL (cR (cB (cB (cR (cL (cR (cR (cR (cR (cR (cR (cR (bd Tryd.f6)))))))))))))))))))))) (.cnd (.tmp 77) (.seq (.leaf (cL (cT (cR (cL (cR (cR (cR (cR (cB (cL (cR (cB (cB (cR (cL (cR (cR (cR (cR (cR (cR (cR (bd Tryd.f6)))))))))))))))))))))))) (.leaf (cR (cT (cR (cL (cR (cR (cR (cR (cB (cL (cR (cB (cB (cR (cL (cR (cR (cR (cR (cR (cR (cR (bd Tryd.f6))))))))))))))))))))))))) (.leaf (cE (cR (cL (cR (cR (cR (cR (cB (cL (cR (cB (cB (cR (cL (cR (cR (cR (cR (cR (cR (cR (bd Tryd.f6))))))))))))))))))))))))) (.seq (.leaf (cL (cR (cR (cR (cR (cR (cB (cL (cR (cB (cB (cR (cL (cR (cR (cR (cR (cR (cR (cR (bd Tryd.f6)))))))))))))))))))))) (.seq (.seq (.leaf (cL (cL (cR (cR (cR (cR (cR (cR (cB (cL (cR (cB (cB (cR (cL (cR (cR (cR (cR (cR (cR (cR (bd Tryd.f6)))))))))))))))))))))))) (.cnd (.tmp 81) (.seq (.leaf (cL (cT (cR (cL (cR (cR (cR (cR (cR (cR (cB (cL (cR (cB (cB (cR (cL (cR (cR (cR (cR (cR (cR (cR (bd Tryd.f6)))))))))))))))))))))))))) (.seq (.leaf (cL (cR (cT (cR (cL (cR (cR (cR (cR (cR (cR (cB (cL (cR (cB (cB (cR (cL (cR (cR (cR (cR (cR (cR (cR (bd Tryd.f6))))))))))))))))))))))))))) (.seq (.seq (.leaf (cL (cL (cR (cR (cT (cR (cL (cR (cR (cR (cR (cR (cR (cB (cL (cR (cB (cB (cR (cL (cR (cR (cR (cR (cR (cR (cR (bd Tryd.f6))))))))))))))))))))))))))))) (.cnd (.tmp 89) (.seq (.leaf (cL (cT (cR (cL (cR (cR (cT (cR (cL (cR (cR (cR (cR (cR (cR (cB (cL (cR (cB (cB (cR (cL (cR (cR (cR (cR (cR (cR (cR (bd Tryd.f6))))))))))))))))))))))))))))))) (.leaf (cR (cT (cR (cL (cR (cR (cT (cR (cL (cR (cR (cR (cR (cR (cR (cB (cL (cR (cB (cB (cR (cL (cR (cR (cR (cR (cR (cR (cR (bd Tryd.f6)))))))))))))))))))))))))))))))) (.leaf (cE (cR (cL (cR (cR (cT (cR (cL (cR (cR (cR (cR (cR (cR (cB (cL (cR (cB (cB (cR (cL (cR (cR (cR (cR (cR (cR (cR (bd Tryd.f6)))))))))))))))))))))))))))))))) (.leaf (cR (cR (cR (cT (cR (cL (cR (cR (cR (cR (cR (cR (cB (cL (cR (cB (cB (cR (cL (cR (cR (cR (cR (cR (cR (cR (bd Tryd.f6))))))))))))))))))))))))))))))) (.leaf (cE (cR (cL (cR (cR (cR (cR (cR (cR (cB (cL (cR (cB (cB (cR (cL (cR (cR (cR (cR (cR (cR (cR (bd Tryd.f6))))))))))))))))))))))))))) (.seq (.seq (.leaf (cL (cL (cR (cR (cR (cR (cR (cR (cR (cB (cL (cR (cB (cB (cR (cL (cR (cR (cR (cR (cR (cR (cR (bd Tryd.f6))))))))))))))))))))))))) (.cnd (.tmp 96) (.seq (.leaf (cL (cT (cR (cL (cR (cR (cR (cR (cR (cR (cR (cB (cL (cR (cB (cB (cR (cL (cR (cR (cR (cR (cR (cR (cR (bd Tryd.f6))))))))))))))))))))))))))) (.leaf (cR (cT (cR (cL (cR (cR (cR (cR (cR (cR (cR (cB (cL (cR (cB (cB (cR (cL (cR (cR (cR (cR (cR (cR (cR (bd Tryd.f6)))))))))))))))))))))))))))) (.leaf (cE (cR (cL (cR (cR (cR (cR (cR (cR (cR (cB (cL (cR (cB (cB (cR (cL (cR (cR (cR (cR (cR (cR (cR (bd Tryd.f6)))))))))))))))))))))))))))) (.cut 7 (.seq (.seq (.leaf (cL (cL (cR (cR (cR (cR (cR (cR (cR (cR (cB (cL (cR (cB (cB (cR (cL (cR (cR (cR (cR (cR (cR (cR (bd Tryd.f6)))))))))))))))))))))))))) (.block 2 (.loop 5 (.seq (.seq (.leaf (cL (cL (cB (cB (cR (cL (cR (cR (cR (cR (cR (cR (cR (cR (cB (cL (cR (cB (cB (cR (cL (cR (cR (cR (cR (cR (cR (cR (bd Tryd.f6)))))))))))))))))))))))))))))) (.cnd (.tmp 104) (.leaf (cT (cR (cL (cB (cB (cR (cL (cR (cR (cR (cR (cR (cR (cR (cR (cB (cL (cR (cB (cB (cR (cL (cR (cR (cR (cR (cR (cR (cR (bd Tryd.f6))))))))))))))))))))))))))))))) (.leaf (cE (cR (cL (cB (cB (cR (cL (cR (cR (cR (cR (cR (cR (cR (cR (cB (cL (cR (cB (cB (cR (cL (cR (cR (cR (cR (cR (cR (cR (bd Tryd.f6))))))))))))))))))))))))))))))))) (.seq (.block 3 (.seq (.leaf (cL (cB (cL (cR (cB (cB (cR (cL (cR (cR (cR (cR (cR (cR (cR (cR (cB (cL (cR (cB (cB (cR (cL (cR (cR (cR (cR (cR (cR (cR (bd Tryd.f6)))))))))))))))))))))))))))))))) (.seq (.leaf (cL (cR (cB (cL (cR (cB (cB (cR (cL (cR (cR (cR (cR (cR (cR (cR (cR (cB (cL (cR (cB (cB (cR (cL (cR (cR (cR (cR (cR (cR (cR (bd Tryd.f6))))))))))))))))))))))))))))))))) (.seq (.leaf (cL (cR (cR (cB (cL (cR (cB (cB (cR (cL (cR (cR (cR (cR (cR (cR (cR (cR (cB (cL (cR (cB (cB (cR (cL (cR (cR (cR (cR (cR (cR (cR (bd Tryd.f6)))))))))))))))))))))))))))))))))) (.seq (.seq (.leaf (cL (cL (cR (cR (cR (cB (cL (cR (cB (cB (cR (cL (cR (cR (cR (cR (cR (cR (cR (cR (cB (cL (cR (cB (cB (cR (cL (cR (cR (cR (cR (cR (cR (cR (bd Tryd.f6)))))))))))))))))))))))))))))))))))) (.cnd (.tmp 165) (.seq (.leaf (cL (cT (cR (cL (cR (cR (cR (cB (cL (cR (cB (cB (cR (cL (cR (cR (cR (cR (cR (cR (cR (cR (cB (cL (cR (cB (cB (cR (cL (cR (cR (cR (cR (cR (cR (cR (bd Tryd.f6)))))))))))))))))))))))))))))))))))))) (.leaf (cR (cT (cR (cL (cR (cR (cR (cB (cL (cR (cB (cB (cR (cL (cR (cR (cR (cR (cR (cR (cR (cR (cB (cL (cR (cB (cB (cR (cL (cR (cR (cR (cR (cR (cR (cR (bd Tryd.f6))))))))))))))))))))))))))))))))))))))) (.leaf (cE (cR (cL (cR (cR (cR (cB (cL (cR (cB (cB (cR (cL (cR (cR (cR (cR (cR (cR (cR (cR (cB (cL (cR (cB (cB (cR (cL (cR (cR (cR (cR (cR (cR (cR (bd Tryd.f6))))))))))))))))))))))))))))))))))))))) (.cut 6 (.leaf (cR (cR (cR (cR (cB (cL (cR (cB (cB (cR (cL (cR (cR (cR (cR (cR (cR (cR (cR (cB (cL (cR (cB (cB (cR (cL (cR (cR (cR (cR (cR (cR (cR (bd Tryd.f6))))))))))))))))))))))))))))))))))))))))) (.leaf (cR (cR (cB (cB (cR (cL (cR (cR (cR (cR (cR (cR (cR (cR (cB (cL (cR (cB (cB (cR (cL (cR (cR (cR (cR (cR (cR (cR (bd Tryd.f6))))))))))))))))))))))))))))))))))) (.cut 4 (.seq (.leaf (cL (cR (cR (cR (cR (cR (cR (cR (cR (cR (cB (cL (cR (cB (cB (cR (cL (cR (cR (cR (cR (cR (cR (cR (bd Tryd.f6)))))))))))))))))))))))))) (.seq (.leaf (cL (cR (cR (cR (cR (cR (cR (cR (cR (cR (cR (cB (cL (cR (cB (cB (cR (cL (cR (cR (cR (cR (cR (cR (cR (bd Tryd.f6))))))))))))))))))))))))))) (.seq (.leaf (cL (cR (cR (cR (cR (cR (cR (cR (cR (cR (cR (cR (cB (cL (cR (cB (cB (cR (cL (cR (cR (cR (cR (cR (cR (cR (bd Tryd.f6)))))))))))))))))))))))))))) (.seq (.seq (.leaf (cL (cL (cR (cR (cR (cR (cR (cR (cR (cR (cR (cR (cR (cR (cB (cL (cR (cB (cB (cR (cL (cR (cR (cR (cR (cR (cR (cR (bd Tryd.f6)))))))))))))))))))))))))))))) (.cnd (.tmp 196) (.seq (.leaf (cL (cT (cR (cL (cR (cR (cR (cR (cR (cR (cR (cR (cR (cR (cR (cR (cB (cL (cR (cB (cB (cR (cL (cR (cR (cR (cR (cR (cR (cR (bd Tryd.f6)))))))))))))))))))))))))))))))) (.leaf (cR (cT (cR (cL (cR (cR (cR (cR (cR (cR (cR (cR (cR (cR (cR (cR (cB (cL (cR (cB (cB (cR (cL (cR (cR (cR (cR (cR (cR (cR (bd Tryd.f6))))))))))))))))))))))))))))))))) (.leaf (cE (cR (cL (cR (cR (cR (cR (cR (cR (cR (cR (cR (cR (cR (cR (cB (cL (cR (cB (cB (cR (cL (cR (cR (cR (cR (cR (cR (cR (bd Tryd.f6))))))))))))))))))))))))))))))))) (.cut 3 (.leaf (cR (cR (cR (cR (cR (cR (cR (cR (cR (cR (cR (cR (cR (cB (cL (cR (cB (cB (cR (cL (cR (cR (cR (cR (cR (cR (cR (bd Tryd.f6)))))))))))))))))))))))))))))))))))))))))))))) (.leaf (cR (cR (cB (cB (cR (cL (cR (cR (cR (cR (cR (cR (cR (bd Tryd.f6))))))))))))))))))))) (.cut 1 (.seq (.leaf (cL (cR (cR (cR (cR (cR (cR (cR (cR (bd Tryd.f6))))))))))) (.seq (.leaf (cL (cR (cR (cR (cR (cR (cR (cR (cR (cR (bd Tryd.f6)))))))))))) (.seq (.leaf (cL (cR (cR (cR (cR (cR (cR (cR (cR (cR (cR (bd Tryd.f6))))))))))))) (.seq (.leaf (cL (cR (cR (cR (cR (cR (cR (cR (cR (cR (cR (cR (bd Tryd.f6)))))))))))))) (.leaf (cR (cR (cR (cR (cR (cR (cR (cR (cR (cR (cR (cR (bd Tryd.f6)))))))))))))))))))))))))))))) (J := trystlaw14_StoreLasts.J0 R) LfYtledhokhcoeeeaaDoor.mixed Tryd.func6 (by kernel_rfl) (by kernel_rfl) (mkSeq (mkSeq (mkSeq (mkSeq (mkCut (cutDef [(0, .slice), (3, .ptr)] (fun x w => trystlaw14_StoreLasts.c10 R x.1 x.2 w) (fun _ _ => by kernel_rfl) (fun _ _ => by kernel_rfl)) (mkSeq (mkSeq (mkCut (cutDef [(0, .slice), (3, .ptr), (5, .ptr)] (fun x w => trystlaw14_StoreLasts.c9 R x.1 x.2.1 x.2.2 w) (fun _ _ => by kernel_rfl) (fun _ _ => by kernel_rfl)) (mkSeq (mkSeq (mkCut (cutDef [(3, .ptr), (6, .slice)] (fun x w => trystlaw14_StoreLasts.c1 R x.1 x.2 w) (fun _ _ => by kernel_rfl) (fun _ _ => by kernel_rfl)) (mkSeq (mkSeq (mkSeq (mkSeq mkLeaf mkLeaf) mkLeaf) mkLeaf) mkLeaf)) (mkSeq (mkBlock (mkLoop (loopDef LfYtledhokhcoeeeaaDoor.mixed [(0, .slice), (3, .ptr), (5, .ptr), (6, .slice), (7, (.int .i64))] (by kernel_rfl) (fun M2 x w => trystlaw14_StoreLasts.b2 R (fun y0 y1 y2 y3 y4 w => M2 (y0, y1, y2, y3, y4) w) x.1 x.2.1 x.2.2.1 x.2.2.2.1 x.2.2.2.2 w) (fun M2 => trystlaw14_StoreLasts.J2 R (fun y0 y1 y2 y3 y4 w => M2 (y0, y1, y2, y3, y4) w)) (fun _ _ _ => by kernel_rfl) (fun M2 => (mkSeq (mkCut (cutDef [(0, .slice), (3, .ptr), (5, .ptr), (6, .slice), (7, (.int .i64))] (fun x w => trystlaw14_StoreLasts.c8 R (fun y0 y1 y2 y3 y4 w => M2 (y0, y1, y2, y3, y4) w) x.1 x.2.1 x.2.2.1 x.2.2.2.1 x.2.2.2.2 w) (fun _ _ => by kernel_rfl) (fun _ _ => by kernel_rfl)) (mkSeq mkLeaf (mkBlock (mkSeq (mkSeq (mkSeq (mkSeq (mkSeq (mkSeq (mkSeq (mkSeq (mkCut (cutDef [(0, .slice), (3, .ptr), (6, .slice), (7, (.int .i64)), (8, .slice)] (fun x w => trystlaw14_StoreLasts.c7 R (fun y0 y1 y2 y3 y4 w => M2 (y0, y1, y2, y3, y4) w) x.1 x.2.1 x.2.2.1 x.2.2.2.1 x.2.2.2.2 w) (fun _ _ => by kernel_rfl) (fun _ _ => by kernel_rfl)) (mkSeq (mkCut (cutDef [(0, .slice), (3, .ptr), (6, .slice), (7, (.int .i64)), (8, .slice)] (fun x w => trystlaw14_StoreLasts.c4 R (fun y0 y1 y2 y3 y4 w => M2 (y0, y1, y2, y3, y4) w) x.1 x.2.1 x.2.2.1 x.2.2.2.1 x.2.2.2.2 w) (fun _ _ => by kernel_rfl) (fun _ _ => by kernel_rfl)) (mkSeq (mkSeq (mkSeq (mkSeq (mkCut (cutDef [(0, .slice), (3, .ptr), (5, .ptr), (7, (.int .i64))] (fun x w => trystlaw14_StoreLasts.c3 R (fun y0 y1 y2 y3 y4 w => M2 (y0, y1, y2, y3, y4) w) x.1 x.2.1 x.2.2.1 x.2.2.2 w) (fun _ _ => by kernel_rfl) (fun _ _ => by kernel_rfl)) mkLeaf) (mkSeq (mkCnd (mkSeq mkLeaf mkLeaf) mkLeaf) mkLeaf)) mkLeaf) mkLeaf) mkLeaf)) (mkSeq (mkBlock (mkLoop (loopDef LfYtledhokhcoeeeaaDoor.mixed [(0, .slice), (3, .ptr), (6, .slice), (7, (.int .i64)), (8, .slice), (11, (.int .i64))] (by kernel_rfl) (fun M5 x w => trystlaw14_StoreLasts.b5 R (fun y0 y1 y2 y3 y4 w => M2 (y0, y1, y2, y3, y4) w) (fun y0 y1 y2 y3 y4 y5 w => M5 (y0, y1, y2, y3, y4, y5) w) x.1 x.2.1 x.2.2.1 x.2.2.2.1 x.2.2.2.2.1 x.2.2.2.2.2 w) (fun M5 => trystlaw14_StoreLasts.J5 R (fun y0 y1 y2 y3 y4 w => M2 (y0, y1, y2, y3, y4) w) (fun y0 y1 y2 y3 y4 y5 w => M5 (y0, y1, y2, y3, y4, y5) w)) (fun _ _ _ => by kernel_rfl) (fun M5 => (mkSeq (mkSeq mkLeaf (mkBlock (mkSeq (mkSeq (mkSeq (mkSeq (mkCut (cutDef [(0, .slice), (3, .ptr), (6, .slice), (7, (.int .i64)), (8, .slice), (11, (.int .i64))] (fun x w => trystlaw14_StoreLasts.c6 R (fun y0 y1 y2 y3 y4 w => M2 (y0, y1, y2, y3, y4) w) (fun y0 y1 y2 y3 y4 y5 w => M5 (y0, y1, y2, y3, y4, y5) w) x.1 x.2.1 x.2.2.1 x.2.2.2.1 x.2.2.2.2.1 x.2.2.2.2.2 w) (fun _ _ => by kernel_rfl) (fun _ _ => by kernel_rfl)) mkLeaf) (mkSeq (mkCnd (mkSeq mkLeaf mkLeaf) mkLeaf) mkLeaf)) mkLeaf) mkLeaf) mkLeaf))) (mkSeq (mkCnd mkLeaf mkLeaf) mkLeaf))) (fun x w => trystlaw14_StoreLasts.l5 R (fun y0 y1 y2 y3 y4 w => M2 (y0, y1, y2, y3, y4) w) x.1 x.2.1 x.2.2.1 x.2.2.2.1 x.2.2.2.2.1 x.2.2.2.2.2 w) (by rintro ⟨c0, c1, c2, c3, c4, s0⟩ w ⟨I, μ, h0, h1⟩; refine ⟨fun y w => y.1 = c0 ∧ y.2.1 = c1 ∧ y.2.2.1 = c2 ∧ y.2.2.2.1 = c3 ∧ y.2.2.2.2.1 = c4 ∧ I y.2.2.2.2.2 w, fun y w => μ y.2.2.2.2.2 w, ⟨rfl, rfl, rfl, rfl, rfl, h0⟩, ?_⟩; rintro ⟨d0, d1, d2, d3, d4, t0⟩ w ⟨e0, e1, e2, e3, e4, hI⟩; dsimp only at e0 e1 e2 e3 e4 hI; subst e0; subst e1; subst e2; subst e3; subst e4; exact h1 _ _ hI) (fun _ _ => by kernel_rfl)))) mkLeaf))) (mkSeq (mkCnd (mkSeq mkLeaf mkLeaf) mkLeaf) mkLeaf)) (mkSeq (mkCnd (mkSeq (mkSeq (mkSeq mkLeaf (mkSeq (mkCnd (mkSeq mkLeaf mkLeaf) mkLeaf) mkLeaf)) mkLeaf) mkLeaf) mkLeaf) mkLeaf)) mkLeaf) (mkSeq (mkCnd (mkSeq mkLeaf mkLeaf) mkLeaf) mkLeaf)) mkLeaf) mkLeaf) mkLeaf) mkLeaf)))) (mkSeq (mkCnd mkLeaf mkLeaf) mkLeaf))) (fun x w => trystlaw14_StoreLasts.l2 R x.1 x.2.1 x.2.2.1 x.2.2.2.1 x.2.2.2.2 w) (by rintro ⟨c0, c1, s0⟩ w ⟨I, μ, h0, h1⟩; refine ⟨fun y w => y.1 = c0 ∧ y.2.1 = c1 ∧ I y.2.2 w, fun y w => μ y.2.2 w, ⟨rfl, rfl, h0⟩, ?_⟩; rintro ⟨d0, d1, t0⟩ w ⟨e0, e1, hI⟩; dsimp only at e0 e1 hI; subst e0; subst e1; exact h1 _ _ hI) (fun _ _ => by kernel_rfl)))) mkLeaf)) mkLeaf)) (mkSeq (mkCnd (mkSeq mkLeaf mkLeaf) mkLeaf) mkLeaf)) mkLeaf)) (mkSeq (mkCnd (mkSeq mkLeaf mkLeaf) mkLeaf) mkLeaf)) mkLeaf) (mkSeq (mkCnd (mkSeq mkLeaf mkLeaf) mkLeaf) mkLeaf)) mkLeaf) (kcast (by kernel_rfl) h)

/-! trystlaw14_heavy -/
def trystlaw14_heavy.c2 (R : Value → World → Prop) (N1 : Sl → Int → World → Prop) (l0 : Sl) (i3 : Int) (w : World) : Prop :=
  0 ≤ (i3 : Int) ∧ i3 < ((l0.len : Nat) : Int) ∧ ∃ q_1 : Addr, l0.a = some q_1 ∧
  ∃ (a_2 : Option Addr) (l_3 c_4 : Nat), w.cell? (q_1.add ((i3 : Int).toNat * 6)) = some (.slice a_2 l_3 c_4) ∧
  cond (decide ((((l_3 : Nat) : Int) : Int) > 300))
  (R (.bool true) w)
  (0 ≤ (i3 : Int) ∧ i3 < ((l0.len : Nat) : Int) ∧ ∃ q_5 : Addr, l0.a = some q_5 ∧
  ∃ (a_6 : Option Addr) (l_7 c_8 : Nat), w.cell? ((q_5.add ((i3 : Int).toNat * 6)).add 3) = some (.slice a_6 l_7 c_8) ∧
  cond (decide ((((l_7 : Nat) : Int) : Int) > 600))
  (R (.bool true) w)
  (0 ≤ (i3 : Int) ∧ i3 < ((l0.len : Nat) : Int) ∧ ∃ q_9 : Addr, l0.a = some q_9 ∧
  ∃ (a_10 : Option Addr) (l_11 c_12 : Nat), w.cell? ((q_9.add ((i3 : Int).toNat * 6)).add 5) = some (.slice a_10 l_11 c_12) ∧
  cond (decide ((((l_11 : Nat) : Int) : Int) > 5))
  (R (.bool true) w)
  ((let i3_12 : Int := (IntKind.i64.wrap (i3 + 1));
  N1 l0 i3_12 w))))

def trystlaw14_heavy.b1 (R : Value → World → Prop) (N1 : Sl → Int → World → Prop) (l0 : Sl) (i3 : Int) (w : World) : Prop :=
  cond (decide ((i3 : Int) < ((l0.len : Nat) : Int)))
  (cond (decide ((i3 : Int) < 25))
  (trystlaw14_heavy.c2 R N1 l0 i3 w)
  (R (.bool false) w))
  (R (.bool false) w)

def trystlaw14_heavy.l1 (R : Value → World → Prop) (l0 : Sl) (i3 : Int) (w : World) : Prop :=
  ∃ (I : Int → World → Prop) (μ : Int → World → Nat), I i3 w ∧ ∀ s w, I s w → trystlaw14_heavy.b1 R (fun l0' i3' w' => (l0' = l0 ∧ I i3' w') ∧ μ i3' w' < μ s w) l0 s w

def trystlaw14_heavy.main (R : Value → World → Prop) (l0 : Sl) (w : World) : Prop :=
  cond (decide ((((l0.len : Nat) : Int) : Int) > 100))
  (R (.bool true) w)
  (trystlaw14_heavy.l1 R l0 0 w)

def trystlaw14_heavy.J1 (R : Value → World → Prop) (N1 : Sl → Int → World → Prop) (k : Nat) (fr : Fr) (w : World) : Prop :=
  cond (Nat.beq k 2) (dec [(0, .slice), (3, (.int .i64))] fr fun x => trystlaw14_heavy.c2 R N1 x.1 x.2 w) (False)

def trystlaw14_heavy.J0 (R : Value → World → Prop) (k : Nat) (fr : Fr) (w : World) : Prop :=
  cond (Nat.beq k 1) (dec [(0, .slice), (3, (.int .i64))] fr fun x => trystlaw14_heavy.l1 R x.1 x.2 w) (False)

set_option maxRecDepth 100000 in
theorem trystlaw14_heavy.lift {R : Value → World → Prop} {l0 : Sl} {w : World} (h : trystlaw14_heavy.main R l0 w) : CallsV Tryd.prog n_trystlaw14_heavy #[.slice l0.a l0.len l0.cap] w R :=
  liftCalls (c := (.seq (.leaf (cL (bd Tryd.f18))) (.seq (.seq (.leaf (cL (cL (cR (bd Tryd.f18))))) (.cnd (.tmp 6) (.seq (.leaf (cL (cT (cR (cL (cR (bd Tryd.f18))))))) (.leaf (cR (cT (cR (cL (cR (bd Tryd.f18)))))))) (.leaf (cE (cR (cL (cR (bd Tryd.f18)))))))) (.seq (.seq (.leaf (cL (cL (cR (cR (bd Tryd.f18)))))) (.block 0 (.loop 1 (.seq (.seq (.leaf (cL (cL (cB (cB (cR (cL (cR (cR (bd Tryd.f18)))))))))) (.cnd (.tmp 14) (.leaf (cT (cR (cL (cB (cB (cR (cL (cR (cR (bd Tryd.f18))))))))))) (.leaf (cE (cR (cL (cB (cB (cR (cL (cR (cR (bd Tryd.f18))))))))))))) (.cut 2 (.seq (.block 1 (.seq (.leaf (cL (cB (cL (cR (cB (cB (cR (cL (cR (cR (bd Tryd.f18)))))))))))) (.cnd (.tmp 41) (.seq (.leaf (cL (cT (cR (cB (cL (cR (cB (cB (cR (cL (cR (cR (bd Tryd.f18)))))))))))))) (.leaf (cR (cT (cR (cB (cL (cR (cB (cB (cR (cL (cR (cR (bd Tryd.f18))))))))))))))) (.leaf (cE (cR (cB (cL (cR (cB (cB (cR (cL (cR (cR (bd Tryd.f18)))))))))))))))) (.leaf (cR (cR (cB (cB (cR (cL (cR (cR (bd Tryd.f18)))))))))))))))) (.seq (.leaf (cL (cR (cR (cR (bd Tryd.f18)))))) (.leaf (cR (cR (cR (cR (bd Tryd.f18))))))))))) (J := trystlaw14_heavy.J0 R) LfYtledhokhcoeeeaaDoor.mixed Tryd.func18 (by kernel_rfl) (by kernel_rfl) (mkSeq (mkSeq (mkSeq (mkSeq mkLeaf mkLeaf) (mkSeq (mkBlock (mkLoop (loopDef LfYtledhokhcoeeeaaDoor.mixed [(0, .slice), (3, (.int .i64))] (by kernel_rfl) (fun M1 x w => trystlaw14_heavy.b1 R (fun y0 y1 w => M1 (y0, y1) w) x.1 x.2 w) (fun M1 => trystlaw14_heavy.J1 R (fun y0 y1 w => M1 (y0, y1) w)) (fun _ _ _ => by kernel_rfl) (fun M1 => (mkSeq (mkCut (cutDef [(0, .slice), (3, (.int .i64))] (fun x w => trystlaw14_heavy.c2 R (fun y0 y1 w => M1 (y0, y1) w) x.1 x.2 w) (fun _ _ => by kernel_rfl) (fun _ _ => by kernel_rfl)) (mkSeq mkLeaf (mkBlock (mkSeq (mkCnd (mkSeq mkLeaf mkLeaf) mkLeaf) mkLeaf)))) (mkSeq (mkCnd mkLeaf mkLeaf) mkLeaf))) (fun x w => trystlaw14_heavy.l1 R x.1 x.2 w) (by rintro ⟨c0, s0⟩ w ⟨I, μ, h0, h1⟩; refine ⟨fun y w => y.1 = c0 ∧ I y.2 w, fun y w => μ y.2 w, ⟨rfl, h0⟩, ?_⟩; rintro ⟨d0, t0⟩ w ⟨e0, hI⟩; dsimp only at e0 hI; subst e0; exact h1 _ _ hI) (fun _ _ => by kernel_rfl)))) mkLeaf)) (mkSeq (mkCnd (mkSeq mkLeaf mkLeaf) mkLeaf) mkLeaf)) mkLeaf) (kcast (by kernel_rfl) h)

/-! trystlaw14_state -/
def trystlaw14_state.c2 (R : Value → World → Prop) (N1 : Addr → Sl → Int → World → Prop) (s1 : Addr) (out3 : Sl) (k4 : Int) (w : World) : Prop :=
  ∃ (a_1 : Option Addr) (l_2 c_3 : Nat), w.cell? s1 = some (.slice a_1 l_2 c_3) ∧
  ∃ (a_4 : Option Addr) (l_5 c_6 : Nat), ∃ w1 : World, (builtin .append #[30, 30] 30 #[] #[.slice out3.a out3.len out3.cap, .slice a_1 l_2 c_3]).run Tryd.prog w = .ok (.value (.slice a_4 l_5 c_6)) w1 ∧
  (let k4_6 : Int := (IntKind.i64.wrap (k4 - 1));
  N1 s1 ⟨a_4, l_5, c_6⟩ k4_6 w1)

def trystlaw14_state.b1 (R : Value → World → Prop) (N1 : Addr → Sl → Int → World → Prop) (s1 : Addr) (out3 : Sl) (k4 : Int) (w : World) : Prop :=
  cond (decide ((k4 : Int) ≥ 0))
  (∃ (a_8 : Option Addr) (l_9 c_10 : Nat), w.cell? s1 = some (.slice a_8 l_9 c_10) ∧
  cond (decide (((IntKind.i64.wrap (((out3.len : Nat) : Int) + ((l_9 : Nat) : Int))) : Int) ≤ 8000))
  (trystlaw14_state.c2 R N1 s1 out3 k4 w)
  (R (.slice out3.a out3.len out3.cap) w))
  (R (.slice out3.a out3.len out3.cap) w)

def trystlaw14_state.l1 (R : Value → World → Prop) (s1 : Addr) (out3 : Sl) (k4 : Int) (w : World) : Prop :=
  ∃ (I : (Sl × Int) → World → Prop) (μ : (Sl × Int) → World → Nat), I (out3, k4) w ∧ ∀ s w, I s w → trystlaw14_state.b1 R (fun s1' out3' k4' w' => (s1' = s1 ∧ I (out3', k4') w') ∧ μ (out3', k4') w' < μ s w) s1 s.1 s.2 w

def trystlaw14_state.main (R : Value → World → Prop) (s0_0 : Sl) (s0_1 : Int) (s0_2 : Int) (s0_3 : Sl) (s0_4 : Int) (s0_5 : Sl) (w : World) : Prop :=
  let w2 := w.alloc (.cells #[.slice s0_0.a s0_0.len s0_0.cap, .int .i64 s0_1, .int .i64 s0_2, .slice s0_3.a s0_3.len s0_3.cap, .int .i64 s0_4, .slice s0_5.a s0_5.len s0_5.cap] 47);
  ∃ x_11 : Int, w2.cell? ((newA w).add 1) = some (.int .i64 x_11) ∧
  (30 : Int) ≠ 0 ∧
  (let k4_11 : Int := (IntKind.i64.wrap (Int.tmod (IntKind.u64.wrap x_11) 30));
  trystlaw14_state.l1 R (newA w) ⟨none, 0, 0⟩ k4_11 w2)

def trystlaw14_state.J1 (R : Value → World → Prop) (N1 : Addr → Sl → Int → World → Prop) (k : Nat) (fr : Fr) (w : World) : Prop :=
  cond (Nat.beq k 2) (dec [(1, .addr), (3, .slice), (4, (.int .i64))] fr fun x => trystlaw14_state.c2 R N1 x.1 x.2.1 x.2.2 w) (False)

def trystlaw14_state.J0 (R : Value → World → Prop) (k : Nat) (fr : Fr) (w : World) : Prop :=
  cond (Nat.beq k 1) (dec [(1, .addr), (3, .slice), (4, (.int .i64))] fr fun x => trystlaw14_state.l1 R x.1 x.2.1 x.2.2 w) (False)

set_option maxRecDepth 100000 in
theorem trystlaw14_state.lift {R : Value → World → Prop} {s0_0 : Sl} {s0_1 : Int} {s0_2 : Int} {s0_3 : Sl} {s0_4 : Int} {s0_5 : Sl} {w : World} (h : trystlaw14_state.main R s0_0 s0_1 s0_2 s0_3 s0_4 s0_5 w) : CallsV Tryd.prog n_trystlaw14_state #[.agg #[.slice s0_0.a s0_0.len s0_0.cap, .int .i64 s0_1, .int .i64 s0_2, .slice s0_3.a s0_3.len s0_3.cap, .int .i64 s0_4, .slice s0_5.a s0_5.len s0_5.cap]] w R :=
  liftCalls (c := (.seq (.leaf (cL (bd Tryd.f19))) (.seq (.leaf (cL (cR (bd Tryd.f19)))) (.seq (.seq (.leaf (cL (cL (cR (cR (bd Tryd.f19)))))) (.block 0 (.loop 1 (.seq (.seq (.leaf (cL (cL (cB (cB (cR (cL (cR (cR (bd Tryd.f19)))))))))) (.cnd (.tmp 20) (.leaf (cT (cR (cL (cB (cB (cR (cL (cR (cR (bd Tryd.f19))))))))))) (.leaf (cE (cR (cL (cB (cB (cR (cL (cR (cR (bd Tryd.f19))))))))))))) (.cut 2 (.seq (.block 1 (.leaf (cB (cL (cR (cB (cB (cR (cL (cR (cR (bd Tryd.f19)))))))))))) (.leaf (cR (cR (cB (cB (cR (cL (cR (cR (bd Tryd.f19)))))))))))))))) (.seq (.leaf (cL (cR (cR (cR (bd Tryd.f19)))))) (.leaf (cR (cR (cR (cR (bd Tryd.f19))))))))))) (J := trystlaw14_state.J0 R) LfYtledhokhcoeeeaaDoor.mixed Tryd.func19 (by kernel_rfl) (by kernel_rfl) (mkSeq (mkSeq (mkSeq (mkSeq mkLeaf mkLeaf) (mkSeq (mkBlock (mkLoop (loopDef LfYtledhokhcoeeeaaDoor.mixed [(1, .addr), (3, .slice), (4, (.int .i64))] (by kernel_rfl) (fun M1 x w => trystlaw14_state.b1 R (fun y0 y1 y2 w => M1 (y0, y1, y2) w) x.1 x.2.1 x.2.2 w) (fun M1 => trystlaw14_state.J1 R (fun y0 y1 y2 w => M1 (y0, y1, y2) w)) (fun _ _ _ => by kernel_rfl) (fun M1 => (mkSeq (mkCut (cutDef [(1, .addr), (3, .slice), (4, (.int .i64))] (fun x w => trystlaw14_state.c2 R (fun y0 y1 y2 w => M1 (y0, y1, y2) w) x.1 x.2.1 x.2.2 w) (fun _ _ => by kernel_rfl) (fun _ _ => by kernel_rfl)) (mkSeq mkLeaf (mkBlock mkLeaf))) (mkSeq (mkCnd mkLeaf mkLeaf) mkLeaf))) (fun x w => trystlaw14_state.l1 R x.1 x.2.1 x.2.2 w) (by rintro ⟨c0, s0⟩ w ⟨I, μ, h0, h1⟩; refine ⟨fun y w => y.1 = c0 ∧ I y.2 w, fun y w => μ y.2 w, ⟨rfl, h0⟩, ?_⟩; rintro ⟨d0, t0⟩ w ⟨e0, hI⟩; dsimp only at e0 hI; subst e0; exact h1 _ _ hI) (fun _ _ => by kernel_rfl)))) mkLeaf)) mkLeaf) mkLeaf) (kcast (by kernel_rfl) h)

end Go.Proofs.YtledhokhcoeeeaaDoor
