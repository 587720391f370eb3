/-
  What the code of these functions comes to, and that it suffices for the call. Written by a program of ours, for this claim.
-/
import Derived.Test.YtoclhecldmahiaaDoorProg
import Derived.Test.YtoclhecldmahiaaDoorLift
import Derived.Test.YtoclhecldmahiaaDoorLiftB
set_option linter.unusedVariables false
set_option linter.unusedVariables false
namespace Go.Proofs.YtoclhecldmahiaaDoor
open Go.Lf
theorem LfYtoclhecldmahiaaDoor.mixed : Tryd.prog.follows .mixedOrders = true := by kernel_rfl
abbrev n_trystlaw10_Heavy : Nat := 24
abbrev n_trystlaw10_Pairs : Nat := 25
abbrev n_trystref10_Arena_Make : Nat := 41
abbrev n_trystref10_Arena_Kdf : Nat := 43
abbrev n_term_New : Nat := 46
abbrev n_term_Arena_Make : Nat := 47
abbrev n_trystlaw10_Some : Nat := 56
abbrev n_trystref10_Arena_Has : Nat := 57
abbrev n_trystlaw10_Pair_Ts : Nat := 59
abbrev n_trystkeep_TwinInts : Nat := 60
abbrev n_trystkeep_Ints : Nat := 61
abbrev n_trystref10_Arena_Pub : Nat := 63
abbrev n_trystlaw10_Pair_T : Nat := 64
abbrev n_trystref10_Arena_Is : Nat := 65
abbrev n_trystlaw10_Build : Nat := 71
abbrev n_term_Arena_Len : Nat := 87
abbrev n_trystref10_Arena_Word : Nat := 96
abbrev n_term_Arena_Open : Nat := 97
abbrev n_term_Arena_Has : Nat := 102
abbrev n_trystref10_Arena_Put : Nat := 103
abbrev n_term_many : Nat := 105
abbrev n_term_key : Nat := 106
abbrev n_slices_Clone_int : Nat := 107
abbrev n_term_Arena_At : Nat := 108
abbrev n_term_Arena_Unbox : Nat := 110
abbrev n_trystref10_Arena_Unbox : Nat := 117
abbrev n_trystref10_Arena_Open : Nat := 118
abbrev n_trystkeep_SpoilInts : Nat := 119
abbrev n_term_Arena_Node : Nat := 127
abbrev n_trystref10_count : Nat := 135
abbrev n_trystkeep_Term : Nat := 136
abbrev n_strconv_AppendInt : Nat := 137
/-! trystlaw10_Heavy -/
def trystlaw10_Heavy.c2 (R : Value → World → Prop) (N1 : Sl → Int → World → Prop) (l0 : Sl) (i3 : Int) (w : World) : Prop :=
  0 ≤ (i3 : Int) ∧ i3 < ((l0.len : Nat) : Int) ∧ ∃ q_1 : Addr, l0.a = some q_1 ∧
  ∃ (a_2 : Option Addr) (l_3 c_4 : Nat), w.cell? ((q_1.add ((i3 : Int).toNat * 4)).add 2) = some (.slice a_2 l_3 c_4) ∧
  cond (decide ((((l_3 : Nat) : Int) : Int) > 420))
  (R (.bool true) w)
  ((let i3_4 : Int := (IntKind.i64.wrap (i3 + 1));
  N1 l0 i3_4 w))

def trystlaw10_Heavy.b1 (R : Value → World → Prop) (N1 : Sl → Int → World → Prop) (l0 : Sl) (i3 : Int) (w : World) : Prop :=
  cond (decide ((i3 : Int) < ((l0.len : Nat) : Int)))
  (cond (decide ((i3 : Int) < 150))
  (trystlaw10_Heavy.c2 R N1 l0 i3 w)
  (R (.bool false) w))
  (R (.bool false) w)

def trystlaw10_Heavy.l1 (R : Value → World → Prop) (l0 : Sl) (i3 : Int) (w : World) : Prop :=
  ∃ (I : Int → World → Prop) (μ : Int → World → Nat), I i3 w ∧ ∀ s w, I s w → trystlaw10_Heavy.b1 R (fun l0' i3' w' => (l0' = l0 ∧ I i3' w') ∧ μ i3' w' < μ s w) l0 s w

def trystlaw10_Heavy.main (R : Value → World → Prop) (l0 : Sl) (w : World) : Prop :=
  cond (decide ((((l0.len : Nat) : Int) : Int) > 600))
  (R (.bool true) w)
  (trystlaw10_Heavy.l1 R l0 0 w)

def trystlaw10_Heavy.J1 (R : Value → World → Prop) (N1 : Sl → Int → World → Prop) (k : Nat) (fr : Fr) (w : World) : Prop :=
  cond (Nat.beq k 2) (dec [(0, .slice), (3, (.int .i64))] fr fun x => trystlaw10_Heavy.c2 R N1 x.1 x.2 w) (False)

def trystlaw10_Heavy.J0 (R : Value → World → Prop) (k : Nat) (fr : Fr) (w : World) : Prop :=
  cond (Nat.beq k 1) (dec [(0, .slice), (3, (.int .i64))] fr fun x => trystlaw10_Heavy.l1 R x.1 x.2 w) (False)

set_option maxRecDepth 100000 in
theorem trystlaw10_Heavy.lift {R : Value → World → Prop} {l0 : Sl} {w : World} (h : trystlaw10_Heavy.main R l0 w) : CallsV Tryd.prog n_trystlaw10_Heavy #[.slice l0.a l0.len l0.cap] w R :=
  liftCalls (c := (.seq (.leaf (cL (bd Tryd.f24))) (.seq (.seq (.leaf (cL (cL (cR (bd Tryd.f24))))) (.cnd (.tmp 6) (.seq (.leaf (cL (cT (cR (cL (cR (bd Tryd.f24))))))) (.leaf (cR (cT (cR (cL (cR (bd Tryd.f24)))))))) (.leaf (cE (cR (cL (cR (bd Tryd.f24)))))))) (.seq (.seq (.leaf (cL (cL (cR (cR (bd Tryd.f24)))))) (.block 0 (.loop 1 (.seq (.seq (.leaf (cL (cL (cB (cB (cR (cL (cR (cR (bd Tryd.f24)))))))))) (.cnd (.tmp 14) (.leaf (cT (cR (cL (cB (cB (cR (cL (cR (cR (bd Tryd.f24))))))))))) (.leaf (cE (cR (cL (cB (cB (cR (cL (cR (cR (bd Tryd.f24))))))))))))) (.cut 2 (.seq (.block 1 (.seq (.leaf (cL (cB (cL (cR (cB (cB (cR (cL (cR (cR (bd Tryd.f24)))))))))))) (.cnd (.tmp 23) (.seq (.leaf (cL (cT (cR (cB (cL (cR (cB (cB (cR (cL (cR (cR (bd Tryd.f24)))))))))))))) (.leaf (cR (cT (cR (cB (cL (cR (cB (cB (cR (cL (cR (cR (bd Tryd.f24))))))))))))))) (.leaf (cE (cR (cB (cL (cR (cB (cB (cR (cL (cR (cR (bd Tryd.f24)))))))))))))))) (.leaf (cR (cR (cB (cB (cR (cL (cR (cR (bd Tryd.f24)))))))))))))))) (.seq (.leaf (cL (cR (cR (cR (bd Tryd.f24)))))) (.leaf (cR (cR (cR (cR (bd Tryd.f24))))))))))) (J := trystlaw10_Heavy.J0 R) LfYtoclhecldmahiaaDoor.mixed Tryd.func24 (by kernel_rfl) (by kernel_rfl) (mkSeq (mkSeq (mkSeq (mkSeq mkLeaf mkLeaf) (mkSeq (mkBlock (mkLoop (loopDef LfYtoclhecldmahiaaDoor.mixed [(0, .slice), (3, (.int .i64))] (by kernel_rfl) (fun M1 x w => trystlaw10_Heavy.b1 R (fun y0 y1 w => M1 (y0, y1) w) x.1 x.2 w) (fun M1 => trystlaw10_Heavy.J1 R (fun y0 y1 w => M1 (y0, y1) w)) (fun _ _ _ => by kernel_rfl) (fun M1 => (mkSeq (mkCut (cutDef [(0, .slice), (3, (.int .i64))] (fun x w => trystlaw10_Heavy.c2 R (fun y0 y1 w => M1 (y0, y1) w) x.1 x.2 w) (fun _ _ => by kernel_rfl) (fun _ _ => by kernel_rfl)) (mkSeq mkLeaf (mkBlock (mkSeq (mkCnd (mkSeq mkLeaf mkLeaf) mkLeaf) mkLeaf)))) (mkSeq (mkCnd mkLeaf mkLeaf) mkLeaf))) (fun x w => trystlaw10_Heavy.l1 R x.1 x.2 w) (by rintro ⟨c0, s0⟩ w ⟨I, μ, h0, h1⟩; refine ⟨fun y w => y.1 = c0 ∧ I y.2 w, fun y w => μ y.2 w, ⟨rfl, h0⟩, ?_⟩; rintro ⟨d0, t0⟩ w ⟨e0, hI⟩; dsimp only at e0 hI; subst e0; exact h1 _ _ hI) (fun _ _ => by kernel_rfl)))) mkLeaf)) (mkSeq (mkCnd (mkSeq mkLeaf mkLeaf) mkLeaf) mkLeaf)) mkLeaf) (kcast (by kernel_rfl) h)

/-! trystlaw10_Pairs -/
def trystlaw10_Pairs.main (R : Value → World → Prop) (l0 : Sl) (w : World) : Prop :=
  CallsV Tryd.prog n_trystlaw10_Build #[.slice l0.a l0.len l0.cap] w (fun v_1 w1 =>
  ∃ p_2 : Option Addr, ∃ p_3 : Option Addr, ∃ b_4 : Bool, v_1 = .tuple #[.pointer p_2, .pointer p_3, .bool b_4] ∧
  cond (!b_4)
  (R (.tuple #[.pointer none, .bool false]) w1)
  (let w2 := w1.alloc (.cells #[.pointer p_2, .pointer p_3, .slice none 0 0] 31);
  R (.tuple #[.pointer (some (newA w1)), .bool true]) w2))

def trystlaw10_Pairs.J0 (_ : Value → World → Prop) (_ : Nat) (_ : Fr) (_ : World) : Prop := False

set_option maxRecDepth 100000 in
theorem trystlaw10_Pairs.lift {R : Value → World → Prop} {l0 : Sl} {w : World} (h : trystlaw10_Pairs.main R l0 w) : CallsV Tryd.prog n_trystlaw10_Pairs #[.slice l0.a l0.len l0.cap] w R :=
  liftCalls (c := (.seq (.leaf (cL (bd Tryd.f25))) (.seq (.leaf (cL (cR (bd Tryd.f25)))) (.seq (.seq (.leaf (cL (cL (cR (cR (bd Tryd.f25)))))) (.cnd (.tmp 14) (.seq (.leaf (cL (cT (cR (cL (cR (cR (bd Tryd.f25)))))))) (.leaf (cR (cT (cR (cL (cR (cR (bd Tryd.f25))))))))) (.leaf (cE (cR (cL (cR (cR (bd Tryd.f25))))))))) (.seq (.leaf (cL (cR (cR (cR (bd Tryd.f25)))))) (.leaf (cR (cR (cR (cR (bd Tryd.f25))))))))))) (J := trystlaw10_Pairs.J0 R) LfYtoclhecldmahiaaDoor.mixed Tryd.func25 (by kernel_rfl) (by kernel_rfl) (mkSeq (mkSeq (mkSeq (mkSeq mkLeaf mkLeaf) (mkSeq (mkCnd (mkSeq mkLeaf mkLeaf) mkLeaf) mkLeaf)) mkLeaf) mkLeaf) (kcast (by kernel_rfl) h)

/-! trystref10_Arena_Make -/
def trystref10_Arena_Make.main (R : Value → World → Prop) (a0 : Option Addr) (kind1 : Int) (n2 : Int) (args3 : Sl) (w : World) : Prop :=
  CallsV Tryd.prog n_trystref10_Arena_Put #[.pointer a0, .int .i64 kind1, .int .i64 n2, .slice args3.a args3.len args3.cap] w (fun v_1 w1 =>
  ∃ x_2 : Int, ∃ x_3 : Int, v_1 = .tuple #[.int .i64 x_2, .int .i64 x_3] ∧
  R (.int .i64 x_2) w1)

def trystref10_Arena_Make.J0 (_ : Value → World → Prop) (_ : Nat) (_ : Fr) (_ : World) : Prop := False

set_option maxRecDepth 100000 in
theorem trystref10_Arena_Make.lift {R : Value → World → Prop} {a0 : Option Addr} {kind1 : Int} {n2 : Int} {args3 : Sl} {w : World} (h : trystref10_Arena_Make.main R a0 kind1 n2 args3 w) : CallsV Tryd.prog n_trystref10_Arena_Make #[.pointer a0, .int .i64 kind1, .int .i64 n2, .slice args3.a args3.len args3.cap] w R :=
  liftCalls (c := (.seq (.leaf (cL (bd Tryd.f41))) (.seq (.leaf (cL (cR (bd Tryd.f41)))) (.seq (.leaf (cL (cR (cR (bd Tryd.f41))))) (.leaf (cR (cR (cR (bd Tryd.f41))))))))) (J := trystref10_Arena_Make.J0 R) LfYtoclhecldmahiaaDoor.mixed Tryd.func41 (by kernel_rfl) (by kernel_rfl) (mkSeq (mkSeq (mkSeq mkLeaf mkLeaf) mkLeaf) mkLeaf) (kcast (by kernel_rfl) h)

/-! trystref10_Arena_Kdf -/
def trystref10_Arena_Kdf.main (R : Value → World → Prop) (a0 : Option Addr) (x1 : Int) (n2 : Int) (w : World) : Prop :=
  let w1 := w.alloc (.cells #[.int .i64 x1] 3);
  CallsV Tryd.prog n_trystref10_Arena_Make #[.pointer a0, .int .i64 4, .int .i64 n2, .slice (some (newA w)) 1 1] w1 (fun v_1 w2 =>
  ∃ x_2 : Int, v_1 = .int .i64 x_2 ∧
  R (.int .i64 x_2) w2)

def trystref10_Arena_Kdf.J0 (_ : Value → World → Prop) (_ : Nat) (_ : Fr) (_ : World) : Prop := False

set_option maxRecDepth 100000 in
theorem trystref10_Arena_Kdf.lift {R : Value → World → Prop} {a0 : Option Addr} {x1 : Int} {n2 : Int} {w : World} (h : trystref10_Arena_Kdf.main R a0 x1 n2 w) : CallsV Tryd.prog n_trystref10_Arena_Kdf #[.pointer a0, .int .i64 x1, .int .i64 n2] w R :=
  liftCalls (c := (.seq (.leaf (cL (bd Tryd.f43))) (.seq (.leaf (cL (cR (bd Tryd.f43)))) (.leaf (cR (cR (bd Tryd.f43))))))) (J := trystref10_Arena_Kdf.J0 R) LfYtoclhecldmahiaaDoor.mixed Tryd.func43 (by kernel_rfl) (by kernel_rfl) (mkSeq (mkSeq mkLeaf mkLeaf) mkLeaf) (kcast (by kernel_rfl) h)

/-! term_New -/
def term_New.main (R : Value → World → Prop)  (w : World) : Prop :=
  let w1 := w.alloc (.map #[] 0);
  let w2 := w1.alloc (.cells #[.slice none 0 0, .map (some w.heap.size)] 157);
  R (.pointer (some (newA w1))) w2

def term_New.J0 (_ : Value → World → Prop) (_ : Nat) (_ : Fr) (_ : World) : Prop := False

set_option maxRecDepth 100000 in
theorem term_New.lift {R : Value → World → Prop}  {w : World} (h : term_New.main R  w) : CallsV Tryd.prog n_term_New #[] w R :=
  liftCalls (c := (.seq (.leaf (cL (bd Tryd.f46))) (.seq (.leaf (cL (cR (bd Tryd.f46)))) (.leaf (cR (cR (bd Tryd.f46))))))) (J := term_New.J0 R) LfYtoclhecldmahiaaDoor.mixed Tryd.func46 (by kernel_rfl) (by kernel_rfl) (mkSeq (mkSeq mkLeaf mkLeaf) mkLeaf) (kcast (by kernel_rfl) h)

/-! term_Arena_Make -/
def term_Arena_Make.c1 (R : Value → World → Prop) (a0 : Option Addr) (kind1 : Int) (n2 : Int) (args3 : Sl) (w : World) : Prop :=
  CallsV Tryd.prog n_term_key #[.int .i64 kind1, .int .i64 n2, .slice args3.a args3.len args3.cap] w (fun v_1 w1 =>
  ∃ s_2 : ByteArray, v_1 = .string s_2 ∧
  ∃ q_3 : Addr, a0 = some q_3 ∧
  ∃ m_4 : Option Nat, w1.cell? (q_3.add 1) = some (.map m_4) ∧
  ∃ x_5 : Int, ∃ b_6 : Bool, ∃ w2 : World, (do pure (.value (← Instr.lookup 155 (.map m_4) (.string s_2) true)) : Sem Next).run Tryd.prog w1 = .ok (.value (.tuple #[.int .i64 x_5, .bool b_6])) w2 ∧
  cond b_6
  (R (.tuple #[.int .i64 x_5, .int .i64 0]) w2)
  (∃ q_7 : Addr, a0 = some q_7 ∧
  ∃ (a_8 : Option Addr) (l_9 c_10 : Nat), w2.cell? q_7 = some (.slice a_8 l_9 c_10) ∧
  (let t81_10 : Bool := (decide ((((l_9 : Nat) : Int) : Int) ≥ 1048576));
  cond t81_10
  (R (.tuple #[.int .i64 0, .int .i64 7]) w2)
  (∃ S_12 : World → Prop, S_12 w2.drew ∧
  ∃ q_13 : Addr, a0 = some q_13 ∧
  ∃ m_14 : Option Nat, (∀ x, S_12 x → x.cell? (q_13.add 1) = some (.map m_14)) ∧
  ∃ q_15 : Addr, a0 = some q_15 ∧
  ∃ (a_16 : Option Addr) (l_17 c_18 : Nat), (∀ x, S_12 x → x.cell? q_15 = some (.slice a_16 l_17 c_18)) ∧
  ∃ w3 : World, (do Instr.mapUpdate 155 (.map m_14) (.string s_2) (.int .i64 ((l_17 : Nat) : Int)); pure .skip : Sem Next).run Tryd.prog w2.drew = .ok .skip w3 ∧
  ∃ S_19 : World → Prop, S_19 w3.drew ∧
  ∃ q_20 : Addr, a0 = some q_20 ∧
  ∃ (a_21 : Option Addr) (l_22 c_23 : Nat), (∀ x, S_19 x → x.cell? q_20 = some (.slice a_21 l_22 c_23)) ∧
  CallsV Tryd.prog n_slices_Clone_int #[.slice args3.a args3.len args3.cap] w3.drew (fun v_24 w4 =>
  ∃ (a_25 : Option Addr) (l_26 c_27 : Nat), v_24 = .slice a_25 l_26 c_27 ∧
  S_19 w4 ∧
  let w5 := w4.alloc (.cells #[.int .i64 kind1, .int .i64 n2, .slice a_25 l_26 c_27] 98);
  S_19 w5 ∧
  ∃ (a_28 : Option Addr) (l_29 c_30 : Nat), ∃ w6 : World, (builtin .append #[73, 73] 73 #[] #[.slice a_21 l_22 c_23, .slice (some (newA w4)) 1 1]).run Tryd.prog w5 = .ok (.value (.slice a_28 l_29 c_30)) w6 ∧
  ∃ q_31 : Addr, a0 = some q_31 ∧
  Wr w6 q_31 ∧
  (let w7 := w6.setCell q_31 (.slice a_28 l_29 c_30);
  ∃ q_32 : Addr, a0 = some q_32 ∧
  ∃ (a_33 : Option Addr) (l_34 c_35 : Nat), w7.cell? q_32 = some (.slice a_33 l_34 c_35) ∧
  (let t8_35 : Int := (IntKind.i64.wrap (((l_34 : Nat) : Int) - 1));
  R (.tuple #[.int .i64 t8_35, .int .i64 0]) w7)))))))

def term_Arena_Make.c2 (R : Value → World → Prop) (a0 : Option Addr) (kind1 : Int) (n2 : Int) (args3 : Sl) (w : World) : Prop :=
  CallsV Tryd.prog n_term_Arena_Has #[.pointer a0, .slice args3.a args3.len args3.cap] w (fun v_37 w8 =>
  ∃ b_38 : Bool, v_37 = .bool b_38 ∧
  cond (!b_38)
  (R (.tuple #[.int .i64 0, .int .i64 8]) w8)
  (term_Arena_Make.c1 R a0 kind1 n2 args3 w8))

def term_Arena_Make.c3 (R : Value → World → Prop) (a0 : Option Addr) (kind1 : Int) (n2 : Int) (args3 : Sl) (least11 : Int) (most12 : Int) (w : World) : Prop :=
  cond (decide ((((args3.len : Nat) : Int) : Int) < least11))
  (R (.tuple #[.int .i64 0, .int .i64 2]) w)
  ((let t49_38 : Bool := (decide ((((args3.len : Nat) : Int) : Int) > most12));
  cond t49_38
  (R (.tuple #[.int .i64 0, .int .i64 2]) w)
  (term_Arena_Make.c2 R a0 kind1 n2 args3 w)))

def term_Arena_Make.c4 (R : Value → World → Prop) (a0 : Option Addr) (kind1 : Int) (n2 : Int) (args3 : Sl) (numbered10 : Bool) (least11 : Int) (most12 : Int) (w : World) : Prop :=
  cond (decide ((n2 : Int) < 0))
  (R (.tuple #[.int .i64 0, .int .i64 1]) w)
  (cond (decide ((n2 : Int) > 0))
  (cond (!numbered10)
  (R (.tuple #[.int .i64 0, .int .i64 1]) w)
  (term_Arena_Make.c3 R a0 kind1 n2 args3 least11 most12 w))
  (term_Arena_Make.c3 R a0 kind1 n2 args3 least11 most12 w))

def term_Arena_Make.c5 (R : Value → World → Prop) (a0 : Option Addr) (kind1 : Int) (n2 : Int) (args3 : Sl) (numbered10 : Bool) (w : World) : Prop :=
  CallsV Tryd.prog n_term_many #[.int .i64 kind1] w (fun v_40 w9 =>
  ∃ x_41 : Int, ∃ x_42 : Int, v_40 = .tuple #[.int .i64 x_41, .int .i64 x_42] ∧
  cond (decide ((kind1 : Int) < 1))
  (R (.tuple #[.int .i64 0, .int .i64 6]) w9)
  ((let t31_42 : Bool := (decide ((kind1 : Int) > 9));
  cond t31_42
  (R (.tuple #[.int .i64 0, .int .i64 6]) w9)
  (term_Arena_Make.c4 R a0 kind1 n2 args3 numbered10 x_41 x_42 w9))))

def term_Arena_Make.main (R : Value → World → Prop) (a0 : Option Addr) (kind1 : Int) (n2 : Int) (args3 : Sl) (w : World) : Prop :=
  cond ((kind1 : Int) == 1)
  (term_Arena_Make.c5 R a0 kind1 n2 args3 true w)
  (cond ((kind1 : Int) == 2)
  (term_Arena_Make.c5 R a0 kind1 n2 args3 true w)
  (term_Arena_Make.c5 R a0 kind1 n2 args3 ((kind1 : Int) == 4) w))

def term_Arena_Make.J0 (R : Value → World → Prop) (k : Nat) (fr : Fr) (w : World) : Prop :=
  cond (Nat.beq k 5) (dec [(0, .ptr), (1, (.int .i64)), (2, (.int .i64)), (3, .slice), (10, .bool)] fr fun x => term_Arena_Make.c5 R x.1 x.2.1 x.2.2.1 x.2.2.2.1 x.2.2.2.2 w) (cond (Nat.beq k 4) (dec [(0, .ptr), (1, (.int .i64)), (2, (.int .i64)), (3, .slice), (10, .bool), (11, (.int .i64)), (12, (.int .i64))] fr fun x => term_Arena_Make.c4 R x.1 x.2.1 x.2.2.1 x.2.2.2.1 x.2.2.2.2.1 x.2.2.2.2.2.1 x.2.2.2.2.2.2 w) (cond (Nat.beq k 3) (dec [(0, .ptr), (1, (.int .i64)), (2, (.int .i64)), (3, .slice), (11, (.int .i64)), (12, (.int .i64))] fr fun x => term_Arena_Make.c3 R x.1 x.2.1 x.2.2.1 x.2.2.2.1 x.2.2.2.2.1 x.2.2.2.2.2 w) (cond (Nat.beq k 2) (dec [(0, .ptr), (1, (.int .i64)), (2, (.int .i64)), (3, .slice)] fr fun x => term_Arena_Make.c2 R x.1 x.2.1 x.2.2.1 x.2.2.2 w) (cond (Nat.beq k 1) (dec [(0, .ptr), (1, (.int .i64)), (2, (.int .i64)), (3, .slice)] fr fun x => term_Arena_Make.c1 R x.1 x.2.1 x.2.2.1 x.2.2.2 w) (False)))))

set_option maxRecDepth 100000 in
theorem term_Arena_Make.lift {R : Value → World → Prop} {a0 : Option Addr} {kind1 : Int} {n2 : Int} {args3 : Sl} {w : World} (h : term_Arena_Make.main R a0 kind1 n2 args3 w) : CallsV Tryd.prog n_term_Arena_Make #[.pointer a0, .int .i64 kind1, .int .i64 n2, .slice args3.a args3.len args3.cap] w R :=
  liftCalls (c := (.seq (.leaf (cL (bd Tryd.f47))) (.seq (.leaf (cL (cR (bd Tryd.f47)))) (.cut 5 (.seq (.leaf (cL (cR (cR (bd Tryd.f47))))) (.seq (.block 0 (.seq (.leaf (cL (cB (cL (cR (cR (cR (bd Tryd.f47)))))))) (.cnd (.tmp 31) (.seq (.leaf (cL (cT (cR (cB (cL (cR (cR (cR (bd Tryd.f47)))))))))) (.leaf (cR (cT (cR (cB (cL (cR (cR (cR (bd Tryd.f47))))))))))) (.cut 4 (.seq (.leaf (cL (cE (cR (cB (cL (cR (cR (cR (bd Tryd.f47)))))))))) (.cnd (.tmp 38) (.seq (.leaf (cL (cT (cR (cE (cR (cB (cL (cR (cR (cR (bd Tryd.f47)))))))))))) (.leaf (cR (cT (cR (cE (cR (cB (cL (cR (cR (cR (bd Tryd.f47))))))))))))) (.cut 3 (.seq (.leaf (cL (cE (cR (cE (cR (cB (cL (cR (cR (cR (bd Tryd.f47)))))))))))) (.cnd (.tmp 49) (.seq (.leaf (cL (cT (cR (cE (cR (cE (cR (cB (cL (cR (cR (cR (bd Tryd.f47)))))))))))))) (.leaf (cR (cT (cR (cE (cR (cE (cR (cB (cL (cR (cR (cR (bd Tryd.f47))))))))))))))) (.cut 2 (.seq (.leaf (cL (cE (cR (cE (cR (cE (cR (cB (cL (cR (cR (cR (bd Tryd.f47)))))))))))))) (.cnd (.tmp 60) (.seq (.leaf (cL (cT (cR (cE (cR (cE (cR (cE (cR (cB (cL (cR (cR (cR (bd Tryd.f47)))))))))))))))) (.leaf (cR (cT (cR (cE (cR (cE (cR (cE (cR (cB (cL (cR (cR (cR (bd Tryd.f47))))))))))))))))) (.leaf (cE (cR (cE (cR (cE (cR (cE (cR (cB (cL (cR (cR (cR (bd Tryd.f47))))))))))))))))))))))))))) (.cut 1 (.seq (.leaf (cL (cR (cR (cR (cR (bd Tryd.f47))))))) (.seq (.leaf (cL (cR (cR (cR (cR (cR (bd Tryd.f47)))))))) (.seq (.block 1 (.seq (.leaf (cL (cB (cL (cR (cR (cR (cR (cR (cR (bd Tryd.f47))))))))))) (.cnd (.tmp 78) (.seq (.leaf (cL (cT (cR (cB (cL (cR (cR (cR (cR (cR (cR (bd Tryd.f47))))))))))))) (.leaf (cR (cT (cR (cB (cL (cR (cR (cR (cR (cR (cR (bd Tryd.f47)))))))))))))) (.seq (.leaf (cL (cE (cR (cB (cL (cR (cR (cR (cR (cR (cR (bd Tryd.f47))))))))))))) (.cnd (.tmp 81) (.seq (.leaf (cL (cT (cR (cE (cR (cB (cL (cR (cR (cR (cR (cR (cR (bd Tryd.f47))))))))))))))) (.leaf (cR (cT (cR (cE (cR (cB (cL (cR (cR (cR (cR (cR (cR (bd Tryd.f47)))))))))))))))) (.leaf (cE (cR (cE (cR (cB (cL (cR (cR (cR (cR (cR (cR (bd Tryd.f47))))))))))))))))))) (.seq (.leaf (cL (cR (cR (cR (cR (cR (cR (cR (bd Tryd.f47)))))))))) (.seq (.leaf (cL (cR (cR (cR (cR (cR (cR (cR (cR (bd Tryd.f47))))))))))) (.seq (.leaf (cL (cR (cR (cR (cR (cR (cR (cR (cR (cR (bd Tryd.f47)))))))))))) (.leaf (cR (cR (cR (cR (cR (cR (cR (cR (cR (cR (bd Tryd.f47))))))))))))))))))))))))) (J := term_Arena_Make.J0 R) LfYtoclhecldmahiaaDoor.mixed Tryd.func47 (by kernel_rfl) (by kernel_rfl) (mkSeq (mkSeq (mkCut (cutDef [(0, .ptr), (1, (.int .i64)), (2, (.int .i64)), (3, .slice), (10, .bool)] (fun x w => term_Arena_Make.c5 R x.1 x.2.1 x.2.2.1 x.2.2.2.1 x.2.2.2.2 w) (fun _ _ => by kernel_rfl) (fun _ _ => by kernel_rfl)) (mkSeq (mkSeq (mkCut (cutDef [(0, .ptr), (1, (.int .i64)), (2, (.int .i64)), (3, .slice)] (fun x w => term_Arena_Make.c1 R x.1 x.2.1 x.2.2.1 x.2.2.2 w) (fun _ _ => by kernel_rfl) (fun _ _ => by kernel_rfl)) (mkSeq (mkSeq (mkSeq (mkSeq (mkSeq (mkSeq mkLeaf mkLeaf) mkLeaf) mkLeaf) (mkBlock (mkSeq (mkCnd (mkSeq mkLeaf mkLeaf) (mkSeq (mkCnd (mkSeq mkLeaf mkLeaf) mkLeaf) mkLeaf)) mkLeaf))) mkLeaf) mkLeaf)) (mkBlock (mkSeq (mkCnd (mkSeq mkLeaf mkLeaf) (mkCut (cutDef [(0, .ptr), (1, (.int .i64)), (2, (.int .i64)), (3, .slice), (10, .bool), (11, (.int .i64)), (12, (.int .i64))] (fun x w => term_Arena_Make.c4 R x.1 x.2.1 x.2.2.1 x.2.2.2.1 x.2.2.2.2.1 x.2.2.2.2.2.1 x.2.2.2.2.2.2 w) (fun _ _ => by kernel_rfl) (fun _ _ => by kernel_rfl)) (mkSeq (mkCnd (mkSeq mkLeaf mkLeaf) (mkCut (cutDef [(0, .ptr), (1, (.int .i64)), (2, (.int .i64)), (3, .slice), (11, (.int .i64)), (12, (.int .i64))] (fun x w => term_Arena_Make.c3 R x.1 x.2.1 x.2.2.1 x.2.2.2.1 x.2.2.2.2.1 x.2.2.2.2.2 w) (fun _ _ => by kernel_rfl) (fun _ _ => by kernel_rfl)) (mkSeq (mkCnd (mkSeq mkLeaf mkLeaf) (mkCut (cutDef [(0, .ptr), (1, (.int .i64)), (2, (.int .i64)), (3, .slice)] (fun x w => term_Arena_Make.c2 R x.1 x.2.1 x.2.2.1 x.2.2.2 w) (fun _ _ => by kernel_rfl) (fun _ _ => by kernel_rfl)) (mkSeq (mkCnd (mkSeq mkLeaf mkLeaf) mkLeaf) mkLeaf))) mkLeaf))) mkLeaf))) mkLeaf))) mkLeaf)) mkLeaf) mkLeaf) (kcast (by kernel_rfl) h)

/-! trystlaw10_Some -/
def trystlaw10_Some.c2 (R : Value → World → Prop) (N1 : Sl → Int → Sl → Int → World → Prop) (l0 : Sl) (n1 : Int) (out5 : Sl) (i6 : Int) (x7 : Int) (w : World) : Prop :=
  let w1 := w.alloc (.cells #[.int .i64 x7] 3);
  ∃ (a_1 : Option Addr) (l_2 c_3 : Nat), ∃ w2 : World, (builtin .append #[29, 29] 29 #[] #[.slice out5.a out5.len out5.cap, .slice (some (newA w)) 1 1]).run Tryd.prog w1 = .ok (.value (.slice a_1 l_2 c_3)) w2 ∧
  (let i6_3 : Int := (IntKind.i64.wrap (i6 + 1));
  N1 l0 n1 ⟨a_1, l_2, c_3⟩ i6_3 w2)

def trystlaw10_Some.b1 (R : Value → World → Prop) (N1 : Sl → Int → Sl → Int → World → Prop) (l0 : Sl) (n1 : Int) (out5 : Sl) (i6 : Int) (w : World) : Prop :=
  cond (decide ((i6 : Int) < ((l0.len : Nat) : Int)))
  (0 ≤ (i6 : Int) ∧ i6 < ((l0.len : Nat) : Int) ∧ ∃ q_5 : Addr, l0.a = some q_5 ∧
  ∃ x_6 : Int, w.cell? (q_5.add (i6 : Int).toNat) = some (.int .i64 x_6) ∧
  cond (decide ((n1 : Int) > 0))
  (cond (decide ((x_6 : Int) ≥ 0))
  (n1 ≠ 0 ∧
  trystlaw10_Some.c2 R N1 l0 n1 out5 i6 (Int.tmod x_6 n1) w)
  (trystlaw10_Some.c2 R N1 l0 n1 out5 i6 x_6 w))
  (trystlaw10_Some.c2 R N1 l0 n1 out5 i6 x_6 w))
  (R (.slice out5.a out5.len out5.cap) w)

def trystlaw10_Some.l1 (R : Value → World → Prop) (l0 : Sl) (n1 : Int) (out5 : Sl) (i6 : Int) (w : World) : Prop :=
  ∃ (I : (Sl × Int) → World → Prop) (μ : (Sl × Int) → World → Nat), I (out5, i6) w ∧ ∀ s w, I s w → trystlaw10_Some.b1 R (fun l0' n1' out5' i6' w' => (l0' = l0 ∧ n1' = n1 ∧ I (out5', i6') w') ∧ μ (out5', i6') w' < μ s w) l0 n1 s.1 s.2 w

def trystlaw10_Some.main (R : Value → World → Prop) (l0 : Sl) (n1 : Int) (w : World) : Prop :=
  trystlaw10_Some.l1 R l0 n1 ⟨none, 0, 0⟩ 0 w

def trystlaw10_Some.J1 (R : Value → World → Prop) (N1 : Sl → Int → Sl → Int → World → Prop) (k : Nat) (fr : Fr) (w : World) : Prop :=
  cond (Nat.beq k 2) (dec [(0, .slice), (1, (.int .i64)), (5, .slice), (6, (.int .i64)), (7, (.int .i64))] fr fun x => trystlaw10_Some.c2 R N1 x.1 x.2.1 x.2.2.1 x.2.2.2.1 x.2.2.2.2 w) (False)

def trystlaw10_Some.J0 (R : Value → World → Prop) (k : Nat) (fr : Fr) (w : World) : Prop :=
  cond (Nat.beq k 1) (dec [(0, .slice), (1, (.int .i64)), (5, .slice), (6, (.int .i64))] fr fun x => trystlaw10_Some.l1 R x.1 x.2.1 x.2.2.1 x.2.2.2 w) (False)

set_option maxRecDepth 100000 in
theorem trystlaw10_Some.lift {R : Value → World → Prop} {l0 : Sl} {n1 : Int} {w : World} (h : trystlaw10_Some.main R l0 n1 w) : CallsV Tryd.prog n_trystlaw10_Some #[.slice l0.a l0.len l0.cap, .int .i64 n1] w R :=
  liftCalls (c := (.seq (.leaf (cL (bd Tryd.f56))) (.seq (.leaf (cL (cR (bd Tryd.f56)))) (.seq (.seq (.leaf (cL (cL (cR (cR (bd Tryd.f56)))))) (.block 0 (.loop 1 (.seq (.seq (.leaf (cL (cL (cB (cB (cR (cL (cR (cR (bd Tryd.f56)))))))))) (.cnd (.tmp 11) (.leaf (cT (cR (cL (cB (cB (cR (cL (cR (cR (bd Tryd.f56))))))))))) (.leaf (cE (cR (cL (cB (cB (cR (cL (cR (cR (bd Tryd.f56))))))))))))) (.seq (.block 1 (.seq (.leaf (cL (cB (cL (cR (cB (cB (cR (cL (cR (cR (bd Tryd.f56)))))))))))) (.seq (.seq (.leaf (cL (cL (cR (cB (cL (cR (cB (cB (cR (cL (cR (cR (bd Tryd.f56)))))))))))))) (.cnd (.tmp 23) (.leaf (cT (cR (cL (cR (cB (cL (cR (cB (cB (cR (cL (cR (cR (bd Tryd.f56))))))))))))))) (.leaf (cE (cR (cL (cR (cB (cL (cR (cB (cB (cR (cL (cR (cR (bd Tryd.f56))))))))))))))))) (.cut 2 (.leaf (cR (cR (cB (cL (cR (cB (cB (cR (cL (cR (cR (bd Tryd.f56))))))))))))))))) (.leaf (cR (cR (cB (cB (cR (cL (cR (cR (bd Tryd.f56))))))))))))))) (.seq (.leaf (cL (cR (cR (cR (bd Tryd.f56)))))) (.leaf (cR (cR (cR (cR (bd Tryd.f56))))))))))) (J := trystlaw10_Some.J0 R) LfYtoclhecldmahiaaDoor.mixed Tryd.func56 (by kernel_rfl) (by kernel_rfl) (mkSeq (mkSeq (mkSeq (mkSeq mkLeaf mkLeaf) (mkSeq (mkBlock (mkLoop (loopDef LfYtoclhecldmahiaaDoor.mixed [(0, .slice), (1, (.int .i64)), (5, .slice), (6, (.int .i64))] (by kernel_rfl) (fun M1 x w => trystlaw10_Some.b1 R (fun y0 y1 y2 y3 w => M1 (y0, y1, y2, y3) w) x.1 x.2.1 x.2.2.1 x.2.2.2 w) (fun M1 => trystlaw10_Some.J1 R (fun y0 y1 y2 y3 w => M1 (y0, y1, y2, y3) w)) (fun _ _ _ => by kernel_rfl) (fun M1 => (mkSeq (mkSeq mkLeaf (mkBlock (mkSeq (mkSeq (mkCut (cutDef [(0, .slice), (1, (.int .i64)), (5, .slice), (6, (.int .i64)), (7, (.int .i64))] (fun x w => trystlaw10_Some.c2 R (fun y0 y1 y2 y3 w => M1 (y0, y1, y2, y3) w) x.1 x.2.1 x.2.2.1 x.2.2.2.1 x.2.2.2.2 w) (fun _ _ => by kernel_rfl) (fun _ _ => by kernel_rfl)) mkLeaf) (mkSeq (mkCnd mkLeaf mkLeaf) mkLeaf)) mkLeaf))) (mkSeq (mkCnd mkLeaf mkLeaf) mkLeaf))) (fun x w => trystlaw10_Some.l1 R x.1 x.2.1 x.2.2.1 x.2.2.2 w) (by rintro ⟨c0, c1, s0⟩ w ⟨I, μ, h0, h1⟩; refine ⟨fun y w => y.1 = c0 ∧ y.2.1 = c1 ∧ I y.2.2 w, fun y w => μ y.2.2 w, ⟨rfl, rfl, h0⟩, ?_⟩; rintro ⟨d0, d1, t0⟩ w ⟨e0, e1, hI⟩; dsimp only at e0 e1 hI; subst e0; subst e1; exact h1 _ _ hI) (fun _ _ => by kernel_rfl)))) mkLeaf)) mkLeaf) mkLeaf) (kcast (by kernel_rfl) h)

/-! trystref10_Arena_Has -/
def trystref10_Arena_Has.b1 (R : Value → World → Prop) (N1 : Option Addr → Sl → Int → World → Prop) (a0 : Option Addr) (l1 : Sl) (i5 : Int) (w : World) : Prop :=
  cond (decide ((i5 : Int) < ((l1.len : Nat) : Int)))
  (0 ≤ (i5 : Int) ∧ i5 < ((l1.len : Nat) : Int) ∧ ∃ q_1 : Addr, l1.a = some q_1 ∧
  ∃ x_2 : Int, w.cell? (q_1.add (i5 : Int).toNat) = some (.int .i64 x_2) ∧
  cond (decide ((x_2 : Int) < 0))
  (R (.bool false) w.drew)
  (0 ≤ (i5 : Int) ∧ i5 < ((l1.len : Nat) : Int) ∧ ∃ q_3 : Addr, l1.a = some q_3 ∧
  ∃ x_4 : Int, w.cell? (q_3.add (i5 : Int).toNat) = some (.int .i64 x_4) ∧
  ∃ q_5 : Addr, a0 = some q_5 ∧
  ∃ (a_6 : Option Addr) (l_7 c_8 : Nat), w.cell? q_5 = some (.slice a_6 l_7 c_8) ∧
  cond (decide ((x_4 : Int) ≥ ((l_7 : Nat) : Int)))
  (R (.bool false) w.drew)
  ((let i5_8 : Int := (IntKind.i64.wrap (i5 + 1));
  N1 a0 l1 i5_8 w.drew))))
  (R (.bool true) w)

def trystref10_Arena_Has.l1 (R : Value → World → Prop) (a0 : Option Addr) (l1 : Sl) (i5 : Int) (w : World) : Prop :=
  ∃ (I : Int → World → Prop) (μ : Int → World → Nat), I i5 w ∧ ∀ s w, I s w → trystref10_Arena_Has.b1 R (fun a0' l1' i5' w' => (a0' = a0 ∧ l1' = l1 ∧ I i5' w') ∧ μ i5' w' < μ s w) a0 l1 s w

def trystref10_Arena_Has.main (R : Value → World → Prop) (a0 : Option Addr) (l1 : Sl) (w : World) : Prop :=
  trystref10_Arena_Has.l1 R a0 l1 0 w

def trystref10_Arena_Has.J0 (R : Value → World → Prop) (k : Nat) (fr : Fr) (w : World) : Prop :=
  cond (Nat.beq k 1) (dec [(0, .ptr), (1, .slice), (5, (.int .i64))] fr fun x => trystref10_Arena_Has.l1 R x.1 x.2.1 x.2.2 w) (False)

set_option maxRecDepth 100000 in
theorem trystref10_Arena_Has.lift {R : Value → World → Prop} {a0 : Option Addr} {l1 : Sl} {w : World} (h : trystref10_Arena_Has.main R a0 l1 w) : CallsV Tryd.prog n_trystref10_Arena_Has #[.pointer a0, .slice l1.a l1.len l1.cap] w R :=
  liftCalls (c := (.seq (.leaf (cL (bd Tryd.f57))) (.seq (.seq (.leaf (cL (cL (cR (bd Tryd.f57))))) (.block 0 (.loop 1 (.seq (.seq (.leaf (cL (cL (cB (cB (cR (cL (cR (bd Tryd.f57))))))))) (.cnd (.tmp 9) (.leaf (cT (cR (cL (cB (cB (cR (cL (cR (bd Tryd.f57)))))))))) (.leaf (cE (cR (cL (cB (cB (cR (cL (cR (bd Tryd.f57)))))))))))) (.seq (.block 1 (.seq (.leaf (cL (cB (cL (cR (cB (cB (cR (cL (cR (bd Tryd.f57))))))))))) (.cnd (.tmp 28) (.seq (.leaf (cL (cT (cR (cB (cL (cR (cB (cB (cR (cL (cR (bd Tryd.f57))))))))))))) (.leaf (cR (cT (cR (cB (cL (cR (cB (cB (cR (cL (cR (bd Tryd.f57)))))))))))))) (.leaf (cE (cR (cB (cL (cR (cB (cB (cR (cL (cR (bd Tryd.f57))))))))))))))) (.leaf (cR (cR (cB (cB (cR (cL (cR (bd Tryd.f57)))))))))))))) (.seq (.leaf (cL (cR (cR (bd Tryd.f57))))) (.leaf (cR (cR (cR (bd Tryd.f57))))))))) (J := trystref10_Arena_Has.J0 R) LfYtoclhecldmahiaaDoor.mixed Tryd.func57 (by kernel_rfl) (by kernel_rfl) (mkSeq (mkSeq (mkSeq mkLeaf mkLeaf) (mkSeq (mkBlock (mkLoop (loopDef LfYtoclhecldmahiaaDoor.mixed [(0, .ptr), (1, .slice), (5, (.int .i64))] (by kernel_rfl) (fun M1 x w => trystref10_Arena_Has.b1 R (fun y0 y1 y2 w => M1 (y0, y1, y2) w) x.1 x.2.1 x.2.2 w) (fun M1 => fun _ _ _ => False) (fun _ _ _ => by kernel_rfl) (fun M1 => (mkSeq (mkSeq mkLeaf (mkBlock (mkSeq (mkCnd (mkSeq mkLeaf mkLeaf) mkLeaf) mkLeaf))) (mkSeq (mkCnd mkLeaf mkLeaf) mkLeaf))) (fun x w => trystref10_Arena_Has.l1 R x.1 x.2.1 x.2.2 w) (by rintro ⟨c0, c1, s0⟩ w ⟨I, μ, h0, h1⟩; refine ⟨fun y w => y.1 = c0 ∧ y.2.1 = c1 ∧ I y.2.2 w, fun y w => μ y.2.2 w, ⟨rfl, rfl, h0⟩, ?_⟩; rintro ⟨d0, d1, t0⟩ w ⟨e0, e1, hI⟩; dsimp only at e0 e1 hI; subst e0; subst e1; exact h1 _ _ hI) (fun _ _ => by kernel_rfl)))) mkLeaf)) mkLeaf) (kcast (by kernel_rfl) h)

/-! trystlaw10_Pair_Ts -/
def trystlaw10_Pair_Ts.b1 (R : Value → World → Prop) (N1 : Option Addr → Sl → Sl → Int → World → Prop) (p0 : Option Addr) (l1 : Sl) (out5 : Sl) (i6 : Int) (w : World) : Prop :=
  cond (decide ((i6 : Int) < ((l1.len : Nat) : Int)))
  (0 ≤ (i6 : Int) ∧ i6 < ((l1.len : Nat) : Int) ∧ ∃ q_1 : Addr, l1.a = some q_1 ∧
  ∃ x_2 : Int, w.cell? (q_1.add (i6 : Int).toNat) = some (.int .i64 x_2) ∧
  CallsV Tryd.prog n_trystlaw10_Pair_T #[.pointer p0, .int .i64 x_2] w (fun v_3 w1 =>
  ∃ x_4 : Int, v_3 = .int .i64 x_4 ∧
  let w2 := w1.alloc (.cells #[.int .i64 x_4] 3);
  ∃ (a_5 : Option Addr) (l_6 c_7 : Nat), ∃ w3 : World, (builtin .append #[29, 29] 29 #[] #[.slice out5.a out5.len out5.cap, .slice (some (newA w1)) 1 1]).run Tryd.prog w2 = .ok (.value (.slice a_5 l_6 c_7)) w3 ∧
  (let i6_7 : Int := (IntKind.i64.wrap (i6 + 1));
  N1 p0 l1 ⟨a_5, l_6, c_7⟩ i6_7 w3)))
  (R (.slice out5.a out5.len out5.cap) w)

def trystlaw10_Pair_Ts.l1 (R : Value → World → Prop) (p0 : Option Addr) (l1 : Sl) (out5 : Sl) (i6 : Int) (w : World) : Prop :=
  ∃ (I : (Sl × Int) → World → Prop) (μ : (Sl × Int) → World → Nat), I (out5, i6) w ∧ ∀ s w, I s w → trystlaw10_Pair_Ts.b1 R (fun p0' l1' out5' i6' w' => (p0' = p0 ∧ l1' = l1 ∧ I (out5', i6') w') ∧ μ (out5', i6') w' < μ s w) p0 l1 s.1 s.2 w

def trystlaw10_Pair_Ts.main (R : Value → World → Prop) (p0 : Option Addr) (l1 : Sl) (w : World) : Prop :=
  trystlaw10_Pair_Ts.l1 R p0 l1 ⟨none, 0, 0⟩ 0 w

def trystlaw10_Pair_Ts.J0 (R : Value → World → Prop) (k : Nat) (fr : Fr) (w : World) : Prop :=
  cond (Nat.beq k 1) (dec [(0, .ptr), (1, .slice), (5, .slice), (6, (.int .i64))] fr fun x => trystlaw10_Pair_Ts.l1 R x.1 x.2.1 x.2.2.1 x.2.2.2 w) (False)

set_option maxRecDepth 100000 in
theorem trystlaw10_Pair_Ts.lift {R : Value → World → Prop} {p0 : Option Addr} {l1 : Sl} {w : World} (h : trystlaw10_Pair_Ts.main R p0 l1 w) : CallsV Tryd.prog n_trystlaw10_Pair_Ts #[.pointer p0, .slice l1.a l1.len l1.cap] w R :=
  liftCalls (c := (.seq (.leaf (cL (bd Tryd.f59))) (.seq (.leaf (cL (cR (bd Tryd.f59)))) (.seq (.seq (.leaf (cL (cL (cR (cR (bd Tryd.f59)))))) (.block 0 (.loop 1 (.seq (.seq (.leaf (cL (cL (cB (cB (cR (cL (cR (cR (bd Tryd.f59)))))))))) (.cnd (.tmp 10) (.leaf (cT (cR (cL (cB (cB (cR (cL (cR (cR (bd Tryd.f59))))))))))) (.leaf (cE (cR (cL (cB (cB (cR (cL (cR (cR (bd Tryd.f59))))))))))))) (.seq (.block 1 (.leaf (cB (cL (cR (cB (cB (cR (cL (cR (cR (bd Tryd.f59)))))))))))) (.leaf (cR (cR (cB (cB (cR (cL (cR (cR (bd Tryd.f59))))))))))))))) (.seq (.leaf (cL (cR (cR (cR (bd Tryd.f59)))))) (.leaf (cR (cR (cR (cR (bd Tryd.f59))))))))))) (J := trystlaw10_Pair_Ts.J0 R) LfYtoclhecldmahiaaDoor.mixed Tryd.func59 (by kernel_rfl) (by kernel_rfl) (mkSeq (mkSeq (mkSeq (mkSeq mkLeaf mkLeaf) (mkSeq (mkBlock (mkLoop (loopDef LfYtoclhecldmahiaaDoor.mixed [(0, .ptr), (1, .slice), (5, .slice), (6, (.int .i64))] (by kernel_rfl) (fun M1 x w => trystlaw10_Pair_Ts.b1 R (fun y0 y1 y2 y3 w => M1 (y0, y1, y2, y3) w) x.1 x.2.1 x.2.2.1 x.2.2.2 w) (fun M1 => fun _ _ _ => False) (fun _ _ _ => by kernel_rfl) (fun M1 => (mkSeq (mkSeq mkLeaf (mkBlock mkLeaf)) (mkSeq (mkCnd mkLeaf mkLeaf) mkLeaf))) (fun x w => trystlaw10_Pair_Ts.l1 R x.1 x.2.1 x.2.2.1 x.2.2.2 w) (by rintro ⟨c0, c1, s0⟩ w ⟨I, μ, h0, h1⟩; refine ⟨fun y w => y.1 = c0 ∧ y.2.1 = c1 ∧ I y.2.2 w, fun y w => μ y.2.2 w, ⟨rfl, rfl, h0⟩, ?_⟩; rintro ⟨d0, d1, t0⟩ w ⟨e0, e1, hI⟩; dsimp only at e0 e1 hI; subst e0; subst e1; exact h1 _ _ hI) (fun _ _ => by kernel_rfl)))) mkLeaf)) mkLeaf) mkLeaf) (kcast (by kernel_rfl) h)

/-! trystkeep_TwinInts -/
def trystkeep_TwinInts.main (R : Value → World → Prop) (l0 : Sl) (w : World) : Prop :=
  ∃ (a_1 : Option Addr) (l_2 c_3 : Nat), ∃ w1 : World, (builtin .append #[29, 29] 29 #[] #[.slice none 0 0, .slice l0.a l0.len l0.cap]).run Tryd.prog w = .ok (.value (.slice a_1 l_2 c_3)) w1 ∧
  R (.slice a_1 l_2 c_3) w1

def trystkeep_TwinInts.J0 (_ : Value → World → Prop) (_ : Nat) (_ : Fr) (_ : World) : Prop := False

set_option maxRecDepth 100000 in
theorem trystkeep_TwinInts.lift {R : Value → World → Prop} {l0 : Sl} {w : World} (h : trystkeep_TwinInts.main R l0 w) : CallsV Tryd.prog n_trystkeep_TwinInts #[.slice l0.a l0.len l0.cap] w R :=
  liftCalls (c := (.seq (.leaf (cL (bd Tryd.f60))) (.seq (.leaf (cL (cR (bd Tryd.f60)))) (.seq (.leaf (cL (cR (cR (bd Tryd.f60))))) (.leaf (cR (cR (cR (bd Tryd.f60))))))))) (J := trystkeep_TwinInts.J0 R) LfYtoclhecldmahiaaDoor.mixed Tryd.func60 (by kernel_rfl) (by kernel_rfl) (mkSeq (mkSeq (mkSeq mkLeaf mkLeaf) mkLeaf) mkLeaf) (kcast (by kernel_rfl) h)

/-! trystkeep_Ints -/
def trystkeep_Ints.b1 (R : Value → World → Prop) (N1 : Sl → Sl → Int → World → Prop) (a0 : Sl) (b1 : Sl) (i5 : Int) (w : World) : Prop :=
  cond (decide ((i5 : Int) < ((a0.len : Nat) : Int)))
  (0 ≤ (i5 : Int) ∧ i5 < ((a0.len : Nat) : Int) ∧ ∃ q_1 : Addr, a0.a = some q_1 ∧
  ∃ x_2 : Int, w.cell? (q_1.add (i5 : Int).toNat) = some (.int .i64 x_2) ∧
  0 ≤ (i5 : Int) ∧ i5 < ((b1.len : Nat) : Int) ∧ ∃ q_3 : Addr, b1.a = some q_3 ∧
  ∃ x_4 : Int, w.cell? (q_3.add (i5 : Int).toNat) = some (.int .i64 x_4) ∧
  cond ((x_2 : Int) != x_4)
  (R (.bool false) w.drew)
  ((let i5_4 : Int := (IntKind.i64.wrap (i5 + 1));
  N1 a0 b1 i5_4 w.drew)))
  (R (.bool true) w)

def trystkeep_Ints.l1 (R : Value → World → Prop) (a0 : Sl) (b1 : Sl) (i5 : Int) (w : World) : Prop :=
  ∃ (I : Int → World → Prop) (μ : Int → World → Nat), I i5 w ∧ ∀ s w, I s w → trystkeep_Ints.b1 R (fun a0' b1' i5' w' => (a0' = a0 ∧ b1' = b1 ∧ I i5' w') ∧ μ i5' w' < μ s w) a0 b1 s w

def trystkeep_Ints.main (R : Value → World → Prop) (a0 : Sl) (b1 : Sl) (w : World) : Prop :=
  cond ((((a0.len : Nat) : Int) : Int) != ((b1.len : Nat) : Int))
  (R (.bool false) w)
  (trystkeep_Ints.l1 R a0 b1 0 w)

def trystkeep_Ints.J0 (R : Value → World → Prop) (k : Nat) (fr : Fr) (w : World) : Prop :=
  cond (Nat.beq k 1) (dec [(0, .slice), (1, .slice), (5, (.int .i64))] fr fun x => trystkeep_Ints.l1 R x.1 x.2.1 x.2.2 w) (False)

set_option maxRecDepth 100000 in
theorem trystkeep_Ints.lift {R : Value → World → Prop} {a0 : Sl} {b1 : Sl} {w : World} (h : trystkeep_Ints.main R a0 b1 w) : CallsV Tryd.prog n_trystkeep_Ints #[.slice a0.a a0.len a0.cap, .slice b1.a b1.len b1.cap] w R :=
  liftCalls (c := (.seq (.leaf (cL (bd Tryd.f61))) (.seq (.seq (.leaf (cL (cL (cR (bd Tryd.f61))))) (.cnd (.tmp 10) (.seq (.leaf (cL (cT (cR (cL (cR (bd Tryd.f61))))))) (.leaf (cR (cT (cR (cL (cR (bd Tryd.f61)))))))) (.leaf (cE (cR (cL (cR (bd Tryd.f61)))))))) (.seq (.seq (.leaf (cL (cL (cR (cR (bd Tryd.f61)))))) (.block 0 (.loop 1 (.seq (.seq (.leaf (cL (cL (cB (cB (cR (cL (cR (cR (bd Tryd.f61)))))))))) (.cnd (.tmp 14) (.leaf (cT (cR (cL (cB (cB (cR (cL (cR (cR (bd Tryd.f61))))))))))) (.leaf (cE (cR (cL (cB (cB (cR (cL (cR (cR (bd Tryd.f61))))))))))))) (.seq (.block 1 (.seq (.leaf (cL (cB (cL (cR (cB (cB (cR (cL (cR (cR (bd Tryd.f61)))))))))))) (.cnd (.tmp 25) (.seq (.leaf (cL (cT (cR (cB (cL (cR (cB (cB (cR (cL (cR (cR (bd Tryd.f61)))))))))))))) (.leaf (cR (cT (cR (cB (cL (cR (cB (cB (cR (cL (cR (cR (bd Tryd.f61))))))))))))))) (.leaf (cE (cR (cB (cL (cR (cB (cB (cR (cL (cR (cR (bd Tryd.f61)))))))))))))))) (.leaf (cR (cR (cB (cB (cR (cL (cR (cR (bd Tryd.f61))))))))))))))) (.seq (.leaf (cL (cR (cR (cR (bd Tryd.f61)))))) (.leaf (cR (cR (cR (cR (bd Tryd.f61))))))))))) (J := trystkeep_Ints.J0 R) LfYtoclhecldmahiaaDoor.mixed Tryd.func61 (by kernel_rfl) (by kernel_rfl) (mkSeq (mkSeq (mkSeq (mkSeq mkLeaf mkLeaf) (mkSeq (mkBlock (mkLoop (loopDef LfYtoclhecldmahiaaDoor.mixed [(0, .slice), (1, .slice), (5, (.int .i64))] (by kernel_rfl) (fun M1 x w => trystkeep_Ints.b1 R (fun y0 y1 y2 w => M1 (y0, y1, y2) w) x.1 x.2.1 x.2.2 w) (fun M1 => fun _ _ _ => False) (fun _ _ _ => by kernel_rfl) (fun M1 => (mkSeq (mkSeq mkLeaf (mkBlock (mkSeq (mkCnd (mkSeq mkLeaf mkLeaf) mkLeaf) mkLeaf))) (mkSeq (mkCnd mkLeaf mkLeaf) mkLeaf))) (fun x w => trystkeep_Ints.l1 R x.1 x.2.1 x.2.2 w) (by rintro ⟨c0, c1, s0⟩ w ⟨I, μ, h0, h1⟩; refine ⟨fun y w => y.1 = c0 ∧ y.2.1 = c1 ∧ I y.2.2 w, fun y w => μ y.2.2 w, ⟨rfl, rfl, h0⟩, ?_⟩; rintro ⟨d0, d1, t0⟩ w ⟨e0, e1, hI⟩; dsimp only at e0 e1 hI; subst e0; subst e1; exact h1 _ _ hI) (fun _ _ => by kernel_rfl)))) mkLeaf)) (mkSeq (mkCnd (mkSeq mkLeaf mkLeaf) mkLeaf) mkLeaf)) mkLeaf) (kcast (by kernel_rfl) h)

/-! trystref10_Arena_Pub -/
def trystref10_Arena_Pub.main (R : Value → World → Prop) (a0 : Option Addr) (x1 : Int) (w : World) : Prop :=
  let w1 := w.alloc (.cells #[.int .i64 x1] 3);
  CallsV Tryd.prog n_trystref10_Arena_Make #[.pointer a0, .int .i64 5, .int .i64 0, .slice (some (newA w)) 1 1] w1 (fun v_1 w2 =>
  ∃ x_2 : Int, v_1 = .int .i64 x_2 ∧
  R (.int .i64 x_2) w2)

def trystref10_Arena_Pub.J0 (_ : Value → World → Prop) (_ : Nat) (_ : Fr) (_ : World) : Prop := False

set_option maxRecDepth 100000 in
theorem trystref10_Arena_Pub.lift {R : Value → World → Prop} {a0 : Option Addr} {x1 : Int} {w : World} (h : trystref10_Arena_Pub.main R a0 x1 w) : CallsV Tryd.prog n_trystref10_Arena_Pub #[.pointer a0, .int .i64 x1] w R :=
  liftCalls (c := (.seq (.leaf (cL (bd Tryd.f63))) (.seq (.leaf (cL (cR (bd Tryd.f63)))) (.leaf (cR (cR (bd Tryd.f63))))))) (J := trystref10_Arena_Pub.J0 R) LfYtoclhecldmahiaaDoor.mixed Tryd.func63 (by kernel_rfl) (by kernel_rfl) (mkSeq (mkSeq mkLeaf mkLeaf) mkLeaf) (kcast (by kernel_rfl) h)

/-! trystlaw10_Pair_T -/
def trystlaw10_Pair_T.c1 (R : Value → World → Prop) (p0 : Option Addr) (i1 : Int) (w : World) : Prop :=
  ∃ q_1 : Addr, p0 = some q_1 ∧
  ∃ (a_2 : Option Addr) (l_3 c_4 : Nat), w.cell? (q_1.add 2) = some (.slice a_2 l_3 c_4) ∧
  0 ≤ (i1 : Int) ∧ i1 < ((l_3 : Nat) : Int) ∧ ∃ q_5 : Addr, a_2 = some q_5 ∧
  ∃ x_6 : Int, w.cell? (q_5.add (i1 : Int).toNat) = some (.int .i64 x_6) ∧
  R (.int .i64 x_6) w

def trystlaw10_Pair_T.c2 (R : Value → World → Prop) (p0 : Option Addr) (i1 : Int) (w : World) : Prop :=
  cond (decide ((i1 : Int) < 0))
  (R (.int .i64 (-1)) w)
  (∃ q_7 : Addr, p0 = some q_7 ∧
  ∃ (a_8 : Option Addr) (l_9 c_10 : Nat), w.cell? (q_7.add 2) = some (.slice a_8 l_9 c_10) ∧
  cond (decide ((i1 : Int) ≥ ((l_9 : Nat) : Int)))
  (R (.int .i64 (-1)) w)
  (trystlaw10_Pair_T.c1 R p0 i1 w))

def trystlaw10_Pair_T.c4 (R : Value → World → Prop) (N3 : Option Addr → Int → Int → World → Prop) (p0 : Option Addr) (i1 : Int) (n5 : Int) (x7 : Int) (w : World) : Prop :=
  ∃ q_11 : Addr, p0 = some q_11 ∧
  ∃ (a_12 : Option Addr) (l_13 c_14 : Nat), w.cell? (q_11.add 2) = some (.slice a_12 l_13 c_14) ∧
  let w1 := w.alloc (.cells #[.int .i64 x7] 3);
  ∃ (a_15 : Option Addr) (l_16 c_17 : Nat), ∃ w2 : World, (builtin .append #[29, 29] 29 #[] #[.slice a_12 l_13 c_14, .slice (some (newA w)) 1 1]).run Tryd.prog w1 = .ok (.value (.slice a_15 l_16 c_17)) w2 ∧
  ∃ q_18 : Addr, p0 = some q_18 ∧
  Wr w2 (q_18.add 2) ∧
  (let w3 := w2.setCell (q_18.add 2) (.slice a_15 l_16 c_17);
  (let n5_18 : Int := (IntKind.i64.wrap (n5 + 1));
  N3 p0 i1 n5_18 w3))

def trystlaw10_Pair_T.c5 (R : Value → World → Prop) (N3 : Option Addr → Int → Int → World → Prop) (p0 : Option Addr) (i1 : Int) (n5 : Int) (w : World) : Prop :=
  ∃ q_20 : Addr, p0 = some q_20 ∧
  ∃ p_21 : Option Addr, w.cell? (q_20.add 1) = some (.pointer p_21) ∧
  ∃ q_22 : Addr, p_21 = some q_22 ∧
  ∃ (a_23 : Option Addr) (l_24 c_25 : Nat), w.cell? q_22 = some (.slice a_23 l_24 c_25) ∧
  0 ≤ (n5 : Int) ∧ n5 < ((l_24 : Nat) : Int) ∧ ∃ q_26 : Addr, a_23 = some q_26 ∧
  ∃ x_27 : Int, w.cell? (q_26.add ((n5 : Int).toNat * 3)) = some (.int .i64 x_27) ∧
  ∃ x_28 : Int, w.cell? ((q_26.add ((n5 : Int).toNat * 3)).add 1) = some (.int .i64 x_28) ∧
  ∃ (a_29 : Option Addr) (l_30 c_31 : Nat), w.cell? ((q_26.add ((n5 : Int).toNat * 3)).add 2) = some (.slice a_29 l_30 c_31) ∧
  let w4 := w.alloc (.cells #[.int .i64 0, .int .i64 0, .slice none 0 0] 98);
  (∀ j, j < 3 → Wr w4 ((newA w).add j)) ∧
  (let w5 := setCells (newA w) [.int .i64 x_27, .int .i64 x_28, .slice a_29 l_30 c_31] 0 w4;
  ∃ S_32 : World → Prop, S_32 w5.drew ∧
  ∃ q_33 : Addr, p0 = some q_33 ∧
  ∃ p_34 : Option Addr, (∀ x, S_32 x → x.cell? q_33 = some (.pointer p_34)) ∧
  ∃ x_35 : Int, (∀ x, S_32 x → x.cell? (newA w) = some (.int .i64 x_35)) ∧
  ∃ x_36 : Int, (∀ x, S_32 x → x.cell? ((newA w).add 1) = some (.int .i64 x_36)) ∧
  ∃ (a_37 : Option Addr) (l_38 c_39 : Nat), (∀ x, S_32 x → x.cell? ((newA w).add 2) = some (.slice a_37 l_38 c_39)) ∧
  CallsV Tryd.prog n_trystlaw10_Pair_Ts #[.pointer p0, .slice a_37 l_38 c_39] w5.drew (fun v_40 w6 =>
  ∃ (a_41 : Option Addr) (l_42 c_43 : Nat), v_40 = .slice a_41 l_42 c_43 ∧
  S_32 w6 ∧
  CallsV Tryd.prog n_term_Arena_Make #[.pointer p_34, .int .i64 x_35, .int .i64 x_36, .slice a_41 l_42 c_43] w6 (fun v_44 w7 =>
  ∃ x_45 : Int, ∃ x_46 : Int, v_44 = .tuple #[.int .i64 x_45, .int .i64 x_46] ∧
  cond ((x_46 : Int) != 0)
  (trystlaw10_Pair_T.c4 R N3 p0 i1 n5 (-1) w7)
  (trystlaw10_Pair_T.c4 R N3 p0 i1 n5 x_45 w7))))

def trystlaw10_Pair_T.b3 (R : Value → World → Prop) (N3 : Option Addr → Int → Int → World → Prop) (p0 : Option Addr) (i1 : Int) (n5 : Int) (w : World) : Prop :=
  cond (decide ((n5 : Int) ≤ i1))
  (∃ q_47 : Addr, p0 = some q_47 ∧
  ∃ p_48 : Option Addr, w.cell? (q_47.add 1) = some (.pointer p_48) ∧
  ∃ q_49 : Addr, p_48 = some q_49 ∧
  ∃ (a_50 : Option Addr) (l_51 c_52 : Nat), w.cell? q_49 = some (.slice a_50 l_51 c_52) ∧
  cond (decide ((n5 : Int) < ((l_51 : Nat) : Int)))
  (trystlaw10_Pair_T.c5 R N3 p0 i1 n5 w)
  (trystlaw10_Pair_T.c2 R p0 i1 w))
  (trystlaw10_Pair_T.c2 R p0 i1 w)

def trystlaw10_Pair_T.l3 (R : Value → World → Prop) (p0 : Option Addr) (i1 : Int) (n5 : Int) (w : World) : Prop :=
  ∃ (I : Int → World → Prop) (μ : Int → World → Nat), I n5 w ∧ ∀ s w, I s w → trystlaw10_Pair_T.b3 R (fun p0' i1' n5' w' => (p0' = p0 ∧ i1' = i1 ∧ I n5' w') ∧ μ n5' w' < μ s w) p0 i1 s w

def trystlaw10_Pair_T.main (R : Value → World → Prop) (p0 : Option Addr) (i1 : Int) (w : World) : Prop :=
  ∃ q_53 : Addr, p0 = some q_53 ∧
  ∃ (a_54 : Option Addr) (l_55 c_56 : Nat), w.cell? (q_53.add 2) = some (.slice a_54 l_55 c_56) ∧
  trystlaw10_Pair_T.l3 R p0 i1 ((l_55 : Nat) : Int) w

def trystlaw10_Pair_T.J3 (R : Value → World → Prop) (N3 : Option Addr → Int → Int → World → Prop) (k : Nat) (fr : Fr) (w : World) : Prop :=
  cond (Nat.beq k 5) (dec [(0, .ptr), (1, (.int .i64)), (5, (.int .i64))] fr fun x => trystlaw10_Pair_T.c5 R N3 x.1 x.2.1 x.2.2 w) (cond (Nat.beq k 4) (dec [(0, .ptr), (1, (.int .i64)), (5, (.int .i64)), (7, (.int .i64))] fr fun x => trystlaw10_Pair_T.c4 R N3 x.1 x.2.1 x.2.2.1 x.2.2.2 w) (False))

def trystlaw10_Pair_T.J0 (R : Value → World → Prop) (k : Nat) (fr : Fr) (w : World) : Prop :=
  cond (Nat.beq k 3) (dec [(0, .ptr), (1, (.int .i64)), (5, (.int .i64))] fr fun x => trystlaw10_Pair_T.l3 R x.1 x.2.1 x.2.2 w) (cond (Nat.beq k 2) (dec [(0, .ptr), (1, (.int .i64))] fr fun x => trystlaw10_Pair_T.c2 R x.1 x.2 w) (cond (Nat.beq k 1) (dec [(0, .ptr), (1, (.int .i64))] fr fun x => trystlaw10_Pair_T.c1 R x.1 x.2 w) (False)))

set_option maxRecDepth 100000 in
theorem trystlaw10_Pair_T.lift {R : Value → World → Prop} {p0 : Option Addr} {i1 : Int} {w : World} (h : trystlaw10_Pair_T.main R p0 i1 w) : CallsV Tryd.prog n_trystlaw10_Pair_T #[.pointer p0, .int .i64 i1] w R :=
  liftCalls (c := (.seq (.leaf (cL (bd Tryd.f64))) (.seq (.seq (.leaf (cL (cL (cR (bd Tryd.f64))))) (.block 0 (.loop 3 (.seq (.seq (.leaf (cL (cL (cB (cB (cR (cL (cR (bd Tryd.f64))))))))) (.cnd (.tmp 28) (.leaf (cT (cR (cL (cB (cB (cR (cL (cR (bd Tryd.f64)))))))))) (.leaf (cE (cR (cL (cB (cB (cR (cL (cR (bd Tryd.f64)))))))))))) (.cut 5 (.seq (.block 1 (.seq (.leaf (cL (cB (cL (cR (cB (cB (cR (cL (cR (bd Tryd.f64))))))))))) (.seq (.leaf (cL (cR (cB (cL (cR (cB (cB (cR (cL (cR (bd Tryd.f64)))))))))))) (.seq (.seq (.leaf (cL (cL (cR (cR (cB (cL (cR (cB (cB (cR (cL (cR (bd Tryd.f64)))))))))))))) (.cnd (.tmp 58) (.leaf (cT (cR (cL (cR (cR (cB (cL (cR (cB (cB (cR (cL (cR (bd Tryd.f64))))))))))))))) (.leaf (cE (cR (cL (cR (cR (cB (cL (cR (cB (cB (cR (cL (cR (bd Tryd.f64))))))))))))))))) (.cut 4 (.leaf (cR (cR (cR (cB (cL (cR (cB (cB (cR (cL (cR (bd Tryd.f64)))))))))))))))))) (.leaf (cR (cR (cB (cB (cR (cL (cR (bd Tryd.f64))))))))))))))) (.cut 2 (.seq (.seq (.leaf (cL (cL (cR (cR (bd Tryd.f64)))))) (.cnd (.tmp 79) (.seq (.leaf (cL (cT (cR (cL (cR (cR (bd Tryd.f64)))))))) (.leaf (cR (cT (cR (cL (cR (cR (bd Tryd.f64))))))))) (.leaf (cE (cR (cL (cR (cR (bd Tryd.f64))))))))) (.cut 1 (.seq (.leaf (cL (cR (cR (cR (bd Tryd.f64)))))) (.leaf (cR (cR (cR (cR (bd Tryd.f64))))))))))))) (J := trystlaw10_Pair_T.J0 R) LfYtoclhecldmahiaaDoor.mixed Tryd.func64 (by kernel_rfl) (by kernel_rfl) (mkSeq (mkSeq (mkCut (cutDef [(0, .ptr), (1, (.int .i64))] (fun x w => trystlaw10_Pair_T.c2 R x.1 x.2 w) (fun _ _ => by kernel_rfl) (fun _ _ => by kernel_rfl)) (mkSeq (mkCut (cutDef [(0, .ptr), (1, (.int .i64))] (fun x w => trystlaw10_Pair_T.c1 R x.1 x.2 w) (fun _ _ => by kernel_rfl) (fun _ _ => by kernel_rfl)) (mkSeq mkLeaf mkLeaf)) (mkSeq (mkCnd (mkSeq mkLeaf mkLeaf) mkLeaf) mkLeaf))) (mkSeq (mkBlock (mkLoop (loopDef LfYtoclhecldmahiaaDoor.mixed [(0, .ptr), (1, (.int .i64)), (5, (.int .i64))] (by kernel_rfl) (fun M3 x w => trystlaw10_Pair_T.b3 R (fun y0 y1 y2 w => M3 (y0, y1, y2) w) x.1 x.2.1 x.2.2 w) (fun M3 => trystlaw10_Pair_T.J3 R (fun y0 y1 y2 w => M3 (y0, y1, y2) w)) (fun _ _ _ => by kernel_rfl) (fun M3 => (mkSeq (mkCut (cutDef [(0, .ptr), (1, (.int .i64)), (5, (.int .i64))] (fun x w => trystlaw10_Pair_T.c5 R (fun y0 y1 y2 w => M3 (y0, y1, y2) w) x.1 x.2.1 x.2.2 w) (fun _ _ => by kernel_rfl) (fun _ _ => by kernel_rfl)) (mkSeq mkLeaf (mkBlock (mkSeq (mkSeq (mkSeq (mkCut (cutDef [(0, .ptr), (1, (.int .i64)), (5, (.int .i64)), (7, (.int .i64))] (fun x w => trystlaw10_Pair_T.c4 R (fun y0 y1 y2 w => M3 (y0, y1, y2) w) x.1 x.2.1 x.2.2.1 x.2.2.2 w) (fun _ _ => by kernel_rfl) (fun _ _ => by kernel_rfl)) mkLeaf) (mkSeq (mkCnd mkLeaf mkLeaf) mkLeaf)) mkLeaf) mkLeaf)))) (mkSeq (mkCnd mkLeaf mkLeaf) mkLeaf))) (fun x w => trystlaw10_Pair_T.l3 R x.1 x.2.1 x.2.2 w) (by rintro ⟨c0, c1, s0⟩ w ⟨I, μ, h0, h1⟩; refine ⟨fun y w => y.1 = c0 ∧ y.2.1 = c1 ∧ I y.2.2 w, fun y w => μ y.2.2 w, ⟨rfl, rfl, h0⟩, ?_⟩; rintro ⟨d0, d1, t0⟩ w ⟨e0, e1, hI⟩; dsimp only at e0 e1 hI; subst e0; subst e1; exact h1 _ _ hI) (fun _ _ => by kernel_rfl)))) mkLeaf)) mkLeaf) (kcast (by kernel_rfl) h)

/-! trystref10_Arena_Is -/
def trystref10_Arena_Is.main (R : Value → World → Prop) (a0 : Option Addr) (i1 : Int) (kind2 : Int) (w : World) : Prop :=
  let w1 := w.alloc (.cells #[.int .i64 i1] 3);
  CallsV Tryd.prog n_trystref10_Arena_Has #[.pointer a0, .slice (some (newA w)) 1 1] w1 (fun v_1 w2 =>
  ∃ b_2 : Bool, v_1 = .bool b_2 ∧
  cond b_2
  (∃ q_3 : Addr, a0 = some q_3 ∧
  ∃ (a_4 : Option Addr) (l_5 c_6 : Nat), w2.cell? q_3 = some (.slice a_4 l_5 c_6) ∧
  0 ≤ (i1 : Int) ∧ i1 < ((l_5 : Nat) : Int) ∧ ∃ q_7 : Addr, a_4 = some q_7 ∧
  ∃ x_8 : Int, w2.cell? (q_7.add ((i1 : Int).toNat * 3)) = some (.int .i64 x_8) ∧
  R (.bool ((x_8 : Int) == kind2)) w2)
  (R (.bool false) w2))

def trystref10_Arena_Is.J0 (_ : Value → World → Prop) (_ : Nat) (_ : Fr) (_ : World) : Prop := False

set_option maxRecDepth 100000 in
theorem trystref10_Arena_Is.lift {R : Value → World → Prop} {a0 : Option Addr} {i1 : Int} {kind2 : Int} {w : World} (h : trystref10_Arena_Is.main R a0 i1 kind2 w) : CallsV Tryd.prog n_trystref10_Arena_Is #[.pointer a0, .int .i64 i1, .int .i64 kind2] w R :=
  liftCalls (c := (.seq (.leaf (cL (bd Tryd.f65))) (.seq (.leaf (cL (cR (bd Tryd.f65)))) (.leaf (cR (cR (bd Tryd.f65))))))) (J := trystref10_Arena_Is.J0 R) LfYtoclhecldmahiaaDoor.mixed Tryd.func65 (by kernel_rfl) (by kernel_rfl) (mkSeq (mkSeq mkLeaf mkLeaf) mkLeaf) (kcast (by kernel_rfl) h)

/-! trystlaw10_Build -/
def trystlaw10_Build.c1 (R : Value → World → Prop) (a5 : Option Addr) (b6 : Option Addr) (w : World) : Prop :=
  ∃ S_1 : World → Prop, S_1 w.drew ∧
  ∃ q_2 : Addr, b6 = some q_2 ∧
  ∃ (a_3 : Option Addr) (l_4 c_5 : Nat), (∀ x, S_1 x → x.cell? q_2 = some (.slice a_3 l_4 c_5)) ∧
  CallsV Tryd.prog n_term_Arena_Len #[.pointer a5] w.drew (fun v_6 w1 =>
  ∃ x_7 : Int, v_6 = .int .i64 x_7 ∧
  S_1 w1 ∧
  (let t4_7 : Bool := ((x_7 : Int) == ((l_4 : Nat) : Int));
  R (.tuple #[.pointer a5, .pointer b6, .bool t4_7]) w1))

def trystlaw10_Build.c3 (R : Value → World → Prop) (N2 : Sl → Option Addr → Option Addr → Int → World → Prop) (l0 : Sl) (a5 : Option Addr) (b6 : Option Addr) (i7 : Int) (in9 : Sl) (w : World) : Prop :=
  CallsV Tryd.prog n_trystkeep_SpoilInts #[.slice in9.a in9.len in9.cap] w (fun v_9 w2 =>
  v_9 = .tuple #[] ∧
  (let i7_9 : Int := (IntKind.i64.wrap (i7 + 1));
  N2 l0 a5 b6 i7_9 w2))

def trystlaw10_Build.c4 (R : Value → World → Prop) (N2 : Sl → Option Addr → Option Addr → Int → World → Prop) (l0 : Sl) (a5 : Option Addr) (b6 : Option Addr) (i7 : Int) (args8 : Sl) (w : World) : Prop :=
  CallsV Tryd.prog n_trystkeep_TwinInts #[.slice args8.a args8.len args8.cap] w (fun v_11 w3 =>
  ∃ (a_12 : Option Addr) (l_13 c_14 : Nat), v_11 = .slice a_12 l_13 c_14 ∧
  ∃ S_15 : World → Prop, S_15 w3.drew ∧
  0 ≤ (i7 : Int) ∧ i7 < ((l0.len : Nat) : Int) ∧ ∃ q_16 : Addr, l0.a = some q_16 ∧
  ∃ x_17 : Int, (∀ x, S_15 x → x.cell? (q_16.add ((i7 : Int).toNat * 4)) = some (.int .i64 x_17)) ∧
  0 ≤ (i7 : Int) ∧ i7 < ((l0.len : Nat) : Int) ∧ ∃ q_18 : Addr, l0.a = some q_18 ∧
  ∃ x_19 : Int, (∀ x, S_15 x → x.cell? ((q_18.add ((i7 : Int).toNat * 4)).add 1) = some (.int .i64 x_19)) ∧
  CallsV Tryd.prog n_term_Arena_Make #[.pointer a5, .int .i64 x_17, .int .i64 x_19, .slice a_12 l_13 c_14] w3.drew (fun v_20 w4 =>
  ∃ x_21 : Int, ∃ x_22 : Int, v_20 = .tuple #[.int .i64 x_21, .int .i64 x_22] ∧
  ∃ S_23 : World → Prop, S_23 w4.drew ∧
  0 ≤ (i7 : Int) ∧ i7 < ((l0.len : Nat) : Int) ∧ ∃ q_24 : Addr, l0.a = some q_24 ∧
  ∃ x_25 : Int, (∀ x, S_23 x → x.cell? (q_24.add ((i7 : Int).toNat * 4)) = some (.int .i64 x_25)) ∧
  0 ≤ (i7 : Int) ∧ i7 < ((l0.len : Nat) : Int) ∧ ∃ q_26 : Addr, l0.a = some q_26 ∧
  ∃ x_27 : Int, (∀ x, S_23 x → x.cell? ((q_26.add ((i7 : Int).toNat * 4)).add 1) = some (.int .i64 x_27)) ∧
  CallsV Tryd.prog n_trystref10_Arena_Put #[.pointer b6, .int .i64 x_25, .int .i64 x_27, .slice args8.a args8.len args8.cap] w4.drew (fun v_28 w5 =>
  ∃ x_29 : Int, ∃ x_30 : Int, v_28 = .tuple #[.int .i64 x_29, .int .i64 x_30] ∧
  cond ((x_21 : Int) != x_29)
  (R (.tuple #[.pointer none, .pointer none, .bool false]) w5)
  (cond ((x_22 : Int) != x_30)
  (R (.tuple #[.pointer none, .pointer none, .bool false]) w5)
  (CallsV Tryd.prog n_trystkeep_Ints #[.slice a_12 l_13 c_14, .slice args8.a args8.len args8.cap] w5 (fun v_31 w6 =>
  ∃ b_32 : Bool, v_31 = .bool b_32 ∧
  cond (!b_32)
  (R (.tuple #[.pointer none, .pointer none, .bool false]) w6)
  (trystlaw10_Build.c3 R N2 l0 a5 b6 i7 ⟨a_12, l_13, c_14⟩ w6)))))))

def trystlaw10_Build.c5 (R : Value → World → Prop) (N2 : Sl → Option Addr → Option Addr → Int → World → Prop) (l0 : Sl) (a5 : Option Addr) (b6 : Option Addr) (i7 : Int) (w : World) : Prop :=
  0 ≤ (i7 : Int) ∧ i7 < ((l0.len : Nat) : Int) ∧ ∃ q_33 : Addr, l0.a = some q_33 ∧
  ∃ (a_34 : Option Addr) (l_35 c_36 : Nat), w.cell? ((q_33.add ((i7 : Int).toNat * 4)).add 2) = some (.slice a_34 l_35 c_36) ∧
  0 ≤ (i7 : Int) ∧ i7 < ((l0.len : Nat) : Int) ∧ ∃ q_37 : Addr, l0.a = some q_37 ∧
  ∃ b_38 : Bool, w.cell? ((q_37.add ((i7 : Int).toNat * 4)).add 3) = some (.bool b_38) ∧
  cond (!b_38)
  (∃ q_39 : Addr, b6 = some q_39 ∧
  ∃ (a_40 : Option Addr) (l_41 c_42 : Nat), w.cell? q_39 = some (.slice a_40 l_41 c_42) ∧
  CallsV Tryd.prog n_trystlaw10_Some #[.slice a_34 l_35 c_36, .int .i64 ((l_41 : Nat) : Int)] w (fun v_43 w7 =>
  ∃ (a_44 : Option Addr) (l_45 c_46 : Nat), v_43 = .slice a_44 l_45 c_46 ∧
  trystlaw10_Build.c4 R N2 l0 a5 b6 i7 ⟨a_44, l_45, c_46⟩ w7))
  (trystlaw10_Build.c4 R N2 l0 a5 b6 i7 ⟨a_34, l_35, c_36⟩ w)

def trystlaw10_Build.b2 (R : Value → World → Prop) (N2 : Sl → Option Addr → Option Addr → Int → World → Prop) (l0 : Sl) (a5 : Option Addr) (b6 : Option Addr) (i7 : Int) (w : World) : Prop :=
  cond (decide ((i7 : Int) < ((l0.len : Nat) : Int)))
  (cond (decide ((i7 : Int) < 150))
  (trystlaw10_Build.c5 R N2 l0 a5 b6 i7 w)
  (trystlaw10_Build.c1 R a5 b6 w))
  (trystlaw10_Build.c1 R a5 b6 w)

def trystlaw10_Build.l2 (R : Value → World → Prop) (l0 : Sl) (a5 : Option Addr) (b6 : Option Addr) (i7 : Int) (w : World) : Prop :=
  ∃ (I : Int → World → Prop) (μ : Int → World → Nat), I i7 w ∧ ∀ s w, I s w → trystlaw10_Build.b2 R (fun l0' a5' b6' i7' w' => (l0' = l0 ∧ a5' = a5 ∧ b6' = b6 ∧ I i7' w') ∧ μ i7' w' < μ s w) l0 a5 b6 s w

def trystlaw10_Build.main (R : Value → World → Prop) (l0 : Sl) (w : World) : Prop :=
  CallsV Tryd.prog n_term_New #[] w (fun v_47 w8 =>
  ∃ p_48 : Option Addr, v_47 = .pointer p_48 ∧
  let w9 := w8.alloc (.cells #[.slice none 0 0] 75);
  cond ((p_48).isNone)
  (R (.tuple #[.pointer none, .pointer none, .bool false]) w9)
  (trystlaw10_Build.l2 R l0 p_48 (some (newA w8)) 0 w9))

def trystlaw10_Build.J2 (R : Value → World → Prop) (N2 : Sl → Option Addr → Option Addr → Int → World → Prop) (k : Nat) (fr : Fr) (w : World) : Prop :=
  cond (Nat.beq k 5) (dec [(0, .slice), (5, .ptr), (6, .ptr), (7, (.int .i64))] fr fun x => trystlaw10_Build.c5 R N2 x.1 x.2.1 x.2.2.1 x.2.2.2 w) (cond (Nat.beq k 4) (dec [(0, .slice), (5, .ptr), (6, .ptr), (7, (.int .i64)), (8, .slice)] fr fun x => trystlaw10_Build.c4 R N2 x.1 x.2.1 x.2.2.1 x.2.2.2.1 x.2.2.2.2 w) (cond (Nat.beq k 3) (dec [(0, .slice), (5, .ptr), (6, .ptr), (7, (.int .i64)), (9, .slice)] fr fun x => trystlaw10_Build.c3 R N2 x.1 x.2.1 x.2.2.1 x.2.2.2.1 x.2.2.2.2 w) (False)))

def trystlaw10_Build.J0 (R : Value → World → Prop) (k : Nat) (fr : Fr) (w : World) : Prop :=
  cond (Nat.beq k 2) (dec [(0, .slice), (5, .ptr), (6, .ptr), (7, (.int .i64))] fr fun x => trystlaw10_Build.l2 R x.1 x.2.1 x.2.2.1 x.2.2.2 w) (cond (Nat.beq k 1) (dec [(5, .ptr), (6, .ptr)] fr fun x => trystlaw10_Build.c1 R x.1 x.2 w) (False))

set_option maxRecDepth 100000 in
theorem trystlaw10_Build.lift {R : Value → World → Prop} {l0 : Sl} {w : World} (h : trystlaw10_Build.main R l0 w) : CallsV Tryd.prog n_trystlaw10_Build #[.slice l0.a l0.len l0.cap] w R :=
  liftCalls (c := (.seq (.leaf (cL (bd Tryd.f71))) (.seq (.leaf (cL (cR (bd Tryd.f71)))) (.seq (.seq (.leaf (cL (cL (cR (cR (bd Tryd.f71)))))) (.cnd (.tmp 18) (.seq (.leaf (cL (cT (cR (cL (cR (cR (bd Tryd.f71)))))))) (.leaf (cR (cT (cR (cL (cR (cR (bd Tryd.f71))))))))) (.leaf (cE (cR (cL (cR (cR (bd Tryd.f71))))))))) (.seq (.seq (.leaf (cL (cL (cR (cR (cR (bd Tryd.f71))))))) (.block 0 (.loop 2 (.seq (.seq (.leaf (cL (cL (cB (cB (cR (cL (cR (cR (cR (bd Tryd.f71))))))))))) (.cnd (.tmp 26) (.leaf (cT (cR (cL (cB (cB (cR (cL (cR (cR (cR (bd Tryd.f71)))))))))))) (.leaf (cE (cR (cL (cB (cB (cR (cL (cR (cR (cR (bd Tryd.f71)))))))))))))) (.cut 5 (.seq (.block 1 (.seq (.leaf (cL (cB (cL (cR (cB (cB (cR (cL (cR (cR (cR (bd Tryd.f71))))))))))))) (.seq (.seq (.leaf (cL (cL (cR (cB (cL (cR (cB (cB (cR (cL (cR (cR (cR (bd Tryd.f71))))))))))))))) (.cnd (.tmp 39) (.leaf (cT (cR (cL (cR (cB (cL (cR (cB (cB (cR (cL (cR (cR (cR (bd Tryd.f71)))))))))))))))) (.leaf (cE (cR (cL (cR (cB (cL (cR (cB (cB (cR (cL (cR (cR (cR (bd Tryd.f71)))))))))))))))))) (.cut 4 (.seq (.leaf (cL (cR (cR (cB (cL (cR (cB (cB (cR (cL (cR (cR (cR (bd Tryd.f71))))))))))))))) (.seq (.leaf (cL (cR (cR (cR (cB (cL (cR (cB (cB (cR (cL (cR (cR (cR (bd Tryd.f71)))))))))))))))) (.seq (.leaf (cL (cR (cR (cR (cR (cB (cL (cR (cB (cB (cR (cL (cR (cR (cR (bd Tryd.f71))))))))))))))))) (.seq (.seq (.leaf (cL (cL (cR (cR (cR (cR (cR (cB (cL (cR (cB (cB (cR (cL (cR (cR (cR (bd Tryd.f71))))))))))))))))))) (.cnd (.tmp 94) (.seq (.leaf (cL (cT (cR (cL (cR (cR (cR (cR (cR (cB (cL (cR (cB (cB (cR (cL (cR (cR (cR (bd Tryd.f71))))))))))))))))))))) (.leaf (cR (cT (cR (cL (cR (cR (cR (cR (cR (cB (cL (cR (cB (cB (cR (cL (cR (cR (cR (bd Tryd.f71)))))))))))))))))))))) (.leaf (cE (cR (cL (cR (cR (cR (cR (cR (cB (cL (cR (cB (cB (cR (cL (cR (cR (cR (bd Tryd.f71)))))))))))))))))))))) (.cut 3 (.leaf (cR (cR (cR (cR (cR (cR (cB (cL (cR (cB (cB (cR (cL (cR (cR (cR (bd Tryd.f71))))))))))))))))))))))))))) (.leaf (cR (cR (cB (cB (cR (cL (cR (cR (cR (bd Tryd.f71))))))))))))))))) (.cut 1 (.seq (.leaf (cL (cR (cR (cR (cR (bd Tryd.f71))))))) (.leaf (cR (cR (cR (cR (cR (bd Tryd.f71)))))))))))))) (J := trystlaw10_Build.J0 R) LfYtoclhecldmahiaaDoor.mixed Tryd.func71 (by kernel_rfl) (by kernel_rfl) (mkSeq (mkSeq (mkSeq (mkSeq (mkCut (cutDef [(5, .ptr), (6, .ptr)] (fun x w => trystlaw10_Build.c1 R x.1 x.2 w) (fun _ _ => by kernel_rfl) (fun _ _ => by kernel_rfl)) (mkSeq mkLeaf mkLeaf)) (mkSeq (mkBlock (mkLoop (loopDef LfYtoclhecldmahiaaDoor.mixed [(0, .slice), (5, .ptr), (6, .ptr), (7, (.int .i64))] (by kernel_rfl) (fun M2 x w => trystlaw10_Build.b2 R (fun y0 y1 y2 y3 w => M2 (y0, y1, y2, y3) w) x.1 x.2.1 x.2.2.1 x.2.2.2 w) (fun M2 => trystlaw10_Build.J2 R (fun y0 y1 y2 y3 w => M2 (y0, y1, y2, y3) w)) (fun _ _ _ => by kernel_rfl) (fun M2 => (mkSeq (mkCut (cutDef [(0, .slice), (5, .ptr), (6, .ptr), (7, (.int .i64))] (fun x w => trystlaw10_Build.c5 R (fun y0 y1 y2 y3 w => M2 (y0, y1, y2, y3) w) x.1 x.2.1 x.2.2.1 x.2.2.2 w) (fun _ _ => by kernel_rfl) (fun _ _ => by kernel_rfl)) (mkSeq mkLeaf (mkBlock (mkSeq (mkSeq (mkCut (cutDef [(0, .slice), (5, .ptr), (6, .ptr), (7, (.int .i64)), (8, .slice)] (fun x w => trystlaw10_Build.c4 R (fun y0 y1 y2 y3 w => M2 (y0, y1, y2, y3) w) x.1 x.2.1 x.2.2.1 x.2.2.2.1 x.2.2.2.2 w) (fun _ _ => by kernel_rfl) (fun _ _ => by kernel_rfl)) (mkSeq (mkSeq (mkSeq (mkSeq (mkCut (cutDef [(0, .slice), (5, .ptr), (6, .ptr), (7, (.int .i64)), (9, .slice)] (fun x w => trystlaw10_Build.c3 R (fun y0 y1 y2 y3 w => M2 (y0, y1, y2, y3) w) x.1 x.2.1 x.2.2.1 x.2.2.2.1 x.2.2.2.2 w) (fun _ _ => by kernel_rfl) (fun _ _ => by kernel_rfl)) mkLeaf) (mkSeq (mkCnd (mkSeq mkLeaf mkLeaf) mkLeaf) mkLeaf)) mkLeaf) mkLeaf) mkLeaf)) (mkSeq (mkCnd mkLeaf mkLeaf) mkLeaf)) mkLeaf)))) (mkSeq (mkCnd mkLeaf mkLeaf) mkLeaf))) (fun x w => trystlaw10_Build.l2 R x.1 x.2.1 x.2.2.1 x.2.2.2 w) (by rintro ⟨c0, c1, c2, s0⟩ w ⟨I, μ, h0, h1⟩; refine ⟨fun y w => y.1 = c0 ∧ y.2.1 = c1 ∧ y.2.2.1 = c2 ∧ I y.2.2.2 w, fun y w => μ y.2.2.2 w, ⟨rfl, rfl, rfl, h0⟩, ?_⟩; rintro ⟨d0, d1, d2, t0⟩ w ⟨e0, e1, e2, hI⟩; dsimp only at e0 e1 e2 hI; subst e0; subst e1; subst e2; exact h1 _ _ hI) (fun _ _ => by kernel_rfl)))) mkLeaf)) (mkSeq (mkCnd (mkSeq mkLeaf mkLeaf) mkLeaf) mkLeaf)) mkLeaf) mkLeaf) (kcast (by kernel_rfl) h)

/-! term_Arena_Len -/
def term_Arena_Len.main (R : Value → World → Prop) (a0 : Option Addr) (w : World) : Prop :=
  ∃ q_1 : Addr, a0 = some q_1 ∧
  ∃ (a_2 : Option Addr) (l_3 c_4 : Nat), w.cell? q_1 = some (.slice a_2 l_3 c_4) ∧
  R (.int .i64 ((l_3 : Nat) : Int)) w

def term_Arena_Len.J0 (_ : Value → World → Prop) (_ : Nat) (_ : Fr) (_ : World) : Prop := False

set_option maxRecDepth 100000 in
theorem term_Arena_Len.lift {R : Value → World → Prop} {a0 : Option Addr} {w : World} (h : term_Arena_Len.main R a0 w) : CallsV Tryd.prog n_term_Arena_Len #[.pointer a0] w R :=
  liftCalls (c := (.seq (.leaf (cL (bd Tryd.f87))) (.seq (.leaf (cL (cR (bd Tryd.f87)))) (.leaf (cR (cR (bd Tryd.f87))))))) (J := term_Arena_Len.J0 R) LfYtoclhecldmahiaaDoor.mixed Tryd.func87 (by kernel_rfl) (by kernel_rfl) (mkSeq (mkSeq mkLeaf mkLeaf) mkLeaf) (kcast (by kernel_rfl) h)

/-! trystref10_Arena_Word -/
def trystref10_Arena_Word.main (R : Value → World → Prop) (a0 : Option Addr) (n1 : Int) (w : World) : Prop :=
  CallsV Tryd.prog n_trystref10_Arena_Make #[.pointer a0, .int .i64 2, .int .i64 n1, .slice none 0 0] w (fun v_1 w1 =>
  ∃ x_2 : Int, v_1 = .int .i64 x_2 ∧
  R (.int .i64 x_2) w1)

def trystref10_Arena_Word.J0 (_ : Value → World → Prop) (_ : Nat) (_ : Fr) (_ : World) : Prop := False

set_option maxRecDepth 100000 in
theorem trystref10_Arena_Word.lift {R : Value → World → Prop} {a0 : Option Addr} {n1 : Int} {w : World} (h : trystref10_Arena_Word.main R a0 n1 w) : CallsV Tryd.prog n_trystref10_Arena_Word #[.pointer a0, .int .i64 n1] w R :=
  liftCalls (c := (.seq (.leaf (cL (bd Tryd.f96))) (.seq (.leaf (cL (cR (bd Tryd.f96)))) (.leaf (cR (cR (bd Tryd.f96))))))) (J := trystref10_Arena_Word.J0 R) LfYtoclhecldmahiaaDoor.mixed Tryd.func96 (by kernel_rfl) (by kernel_rfl) (mkSeq (mkSeq mkLeaf mkLeaf) mkLeaf) (kcast (by kernel_rfl) h)

/-! term_Arena_Open -/
def term_Arena_Open.main (R : Value → World → Prop) (a0 : Option Addr) (seal1 : Int) (key2 : Int) (w : World) : Prop :=
  let w1 := w.alloc (.cells #[.int .i64 seal1, .int .i64 key2] 3);
  CallsV Tryd.prog n_term_Arena_Has #[.pointer a0, .slice (some (newA w)) 2 2] w1 (fun v_1 w2 =>
  ∃ b_2 : Bool, v_1 = .bool b_2 ∧
  cond (!b_2)
  (R (.tuple #[.slice none 0 0, .int .i64 8]) w2)
  (∃ q_3 : Addr, a0 = some q_3 ∧
  ∃ (a_4 : Option Addr) (l_5 c_6 : Nat), w2.cell? q_3 = some (.slice a_4 l_5 c_6) ∧
  0 ≤ (seal1 : Int) ∧ seal1 < ((l_5 : Nat) : Int) ∧ ∃ q_7 : Addr, a_4 = some q_7 ∧
  ∃ x_8 : Int, w2.cell? (q_7.add ((seal1 : Int).toNat * 3)) = some (.int .i64 x_8) ∧
  cond ((x_8 : Int) != 6)
  (R (.tuple #[.slice none 0 0, .int .i64 6]) w2)
  (∃ q_9 : Addr, a0 = some q_9 ∧
  ∃ (a_10 : Option Addr) (l_11 c_12 : Nat), w2.cell? q_9 = some (.slice a_10 l_11 c_12) ∧
  0 ≤ (seal1 : Int) ∧ seal1 < ((l_11 : Nat) : Int) ∧ ∃ q_13 : Addr, a_10 = some q_13 ∧
  ∃ (a_14 : Option Addr) (l_15 c_16 : Nat), w2.cell? ((q_13.add ((seal1 : Int).toNat * 3)).add 2) = some (.slice a_14 l_15 c_16) ∧
  0 ≤ (0 : Int) ∧ 0 < ((l_15 : Nat) : Int) ∧ ∃ q_17 : Addr, a_14 = some q_17 ∧
  ∃ x_18 : Int, w2.cell? (q_17.add (0 : Int).toNat) = some (.int .i64 x_18) ∧
  cond ((x_18 : Int) != key2)
  (R (.tuple #[.slice none 0 0, .int .i64 3]) w2)
  (∃ q_19 : Addr, a0 = some q_19 ∧
  ∃ (a_20 : Option Addr) (l_21 c_22 : Nat), w2.cell? q_19 = some (.slice a_20 l_21 c_22) ∧
  0 ≤ (seal1 : Int) ∧ seal1 < ((l_21 : Nat) : Int) ∧ ∃ q_23 : Addr, a_20 = some q_23 ∧
  ∃ (a_24 : Option Addr) (l_25 c_26 : Nat), w2.cell? ((q_23.add ((seal1 : Int).toNat * 3)).add 2) = some (.slice a_24 l_25 c_26) ∧
  0 ≤ (1 : Int) ∧ (1 : Int) ≤ ((l_25 : Nat) : Int) ∧ (((l_25 : Nat) : Int) : Int) ≤ ((c_26 : Nat) : Int) ∧ (((c_26 : Nat) : Int) : Int) ≤ ((c_26 : Nat) : Int) ∧
  CallsV Tryd.prog n_slices_Clone_int #[.slice (if ((((c_26 : Nat) : Int) : Int)).toNat = ((1 : Int)).toNat then a_24 else (a_24).map (·.add ((1 : Int)).toNat)) (((((l_25 : Nat) : Int) : Int)).toNat - ((1 : Int)).toNat) (((((c_26 : Nat) : Int) : Int)).toNat - ((1 : Int)).toNat)] w2 (fun v_27 w3 =>
  ∃ (a_28 : Option Addr) (l_29 c_30 : Nat), v_27 = .slice a_28 l_29 c_30 ∧
  R (.tuple #[.slice a_28 l_29 c_30, .int .i64 0]) w3)))))

def term_Arena_Open.J0 (_ : Value → World → Prop) (_ : Nat) (_ : Fr) (_ : World) : Prop := False

set_option maxRecDepth 100000 in
theorem term_Arena_Open.lift {R : Value → World → Prop} {a0 : Option Addr} {seal1 : Int} {key2 : Int} {w : World} (h : term_Arena_Open.main R a0 seal1 key2 w) : CallsV Tryd.prog n_term_Arena_Open #[.pointer a0, .int .i64 seal1, .int .i64 key2] w R :=
  liftCalls (c := (.seq (.leaf (cL (bd Tryd.f97))) (.seq (.block 0 (.seq (.leaf (cL (cB (cL (cR (bd Tryd.f97)))))) (.cnd (.tmp 8) (.seq (.leaf (cL (cT (cR (cB (cL (cR (bd Tryd.f97)))))))) (.leaf (cR (cT (cR (cB (cL (cR (bd Tryd.f97))))))))) (.seq (.leaf (cL (cE (cR (cB (cL (cR (bd Tryd.f97)))))))) (.cnd (.tmp 15) (.seq (.leaf (cL (cT (cR (cE (cR (cB (cL (cR (bd Tryd.f97)))))))))) (.leaf (cR (cT (cR (cE (cR (cB (cL (cR (bd Tryd.f97))))))))))) (.seq (.leaf (cL (cE (cR (cE (cR (cB (cL (cR (bd Tryd.f97)))))))))) (.cnd (.tmp 25) (.seq (.leaf (cL (cT (cR (cE (cR (cE (cR (cB (cL (cR (bd Tryd.f97)))))))))))) (.leaf (cR (cT (cR (cE (cR (cE (cR (cB (cL (cR (bd Tryd.f97))))))))))))) (.leaf (cE (cR (cE (cR (cE (cR (cB (cL (cR (bd Tryd.f97)))))))))))))))))) (.seq (.leaf (cL (cR (cR (bd Tryd.f97))))) (.leaf (cR (cR (cR (bd Tryd.f97))))))))) (J := term_Arena_Open.J0 R) LfYtoclhecldmahiaaDoor.mixed Tryd.func97 (by kernel_rfl) (by kernel_rfl) (mkSeq (mkSeq (mkSeq mkLeaf mkLeaf) (mkBlock (mkSeq (mkCnd (mkSeq mkLeaf mkLeaf) (mkSeq (mkCnd (mkSeq mkLeaf mkLeaf) (mkSeq (mkCnd (mkSeq mkLeaf mkLeaf) mkLeaf) mkLeaf)) mkLeaf)) mkLeaf))) mkLeaf) (kcast (by kernel_rfl) h)

/-! term_Arena_Has -/
def term_Arena_Has.b1 (R : Value → World → Prop) (N1 : Option Addr → Sl → Int → Int → World → Prop) (a0 : Option Addr) (t7 : Sl) (t8 : Int) (t9 : Int) (w : World) : Prop :=
  cond (decide ((t9 : Int) < t8))
  (0 ≤ (t9 : Int) ∧ t9 < ((t7.len : Nat) : Int) ∧ ∃ q_1 : Addr, t7.a = some q_1 ∧
  ∃ x_2 : Int, w.cell? (q_1.add (t9 : Int).toNat) = some (.int .i64 x_2) ∧
  cond (decide ((x_2 : Int) < 0))
  (R (.bool false) w)
  (∃ q_3 : Addr, a0 = some q_3 ∧
  ∃ (a_4 : Option Addr) (l_5 c_6 : Nat), w.cell? q_3 = some (.slice a_4 l_5 c_6) ∧
  cond (decide ((x_2 : Int) ≥ ((l_5 : Nat) : Int)))
  (R (.bool false) w)
  (N1 a0 t7 t8 (IntKind.i64.wrap (t9 + 1)) w)))
  (R (.bool true) w)

def term_Arena_Has.l1 (R : Value → World → Prop) (a0 : Option Addr) (t7 : Sl) (t8 : Int) (t9 : Int) (w : World) : Prop :=
  ∃ (I : Int → World → Prop) (μ : Int → World → Nat), I t9 w ∧ ∀ s w, I s w → term_Arena_Has.b1 R (fun a0' t7' t8' t9' w' => (a0' = a0 ∧ t7' = t7 ∧ t8' = t8 ∧ I t9' w') ∧ μ t9' w' < μ s w) a0 t7 t8 s w

def term_Arena_Has.main (R : Value → World → Prop) (a0 : Option Addr) (l1 : Sl) (w : World) : Prop :=
  term_Arena_Has.l1 R a0 l1 ((l1.len : Nat) : Int) 0 w

def term_Arena_Has.J0 (R : Value → World → Prop) (k : Nat) (fr : Fr) (w : World) : Prop :=
  cond (Nat.beq k 1) (dec [(0, .ptr), (7, .slice), (8, (.int .i64)), (9, (.int .i64))] fr fun x => term_Arena_Has.l1 R x.1 x.2.1 x.2.2.1 x.2.2.2 w) (False)

set_option maxRecDepth 100000 in
theorem term_Arena_Has.lift {R : Value → World → Prop} {a0 : Option Addr} {l1 : Sl} {w : World} (h : term_Arena_Has.main R a0 l1 w) : CallsV Tryd.prog n_term_Arena_Has #[.pointer a0, .slice l1.a l1.len l1.cap] w R :=
  liftCalls (c := (.seq (.leaf (cL (bd Tryd.f102))) (.seq (.seq (.leaf (cL (cL (cR (bd Tryd.f102))))) (.block 0 (.loop 1 (.seq (.leaf (cL (cB (cB (cR (cL (cR (bd Tryd.f102)))))))) (.seq (.cnd (.tmp 10) (.leaf (cT (cL (cR (cB (cB (cR (cL (cR (bd Tryd.f102)))))))))) (.leaf (cE (cL (cR (cB (cB (cR (cL (cR (bd Tryd.f102))))))))))) (.seq (.block 1 (.seq (.leaf (cL (cB (cL (cR (cR (cB (cB (cR (cL (cR (bd Tryd.f102)))))))))))) (.seq (.leaf (cL (cR (cB (cL (cR (cR (cB (cB (cR (cL (cR (bd Tryd.f102))))))))))))) (.cnd (.tmp 23) (.seq (.leaf (cL (cT (cR (cR (cB (cL (cR (cR (cB (cB (cR (cL (cR (bd Tryd.f102))))))))))))))) (.leaf (cR (cT (cR (cR (cB (cL (cR (cR (cB (cB (cR (cL (cR (bd Tryd.f102)))))))))))))))) (.leaf (cE (cR (cR (cB (cL (cR (cR (cB (cB (cR (cL (cR (bd Tryd.f102)))))))))))))))))) (.leaf (cR (cR (cR (cB (cB (cR (cL (cR (bd Tryd.f102)))))))))))))))) (.seq (.leaf (cL (cR (cR (bd Tryd.f102))))) (.leaf (cR (cR (cR (bd Tryd.f102))))))))) (J := term_Arena_Has.J0 R) LfYtoclhecldmahiaaDoor.mixed Tryd.func102 (by kernel_rfl) (by kernel_rfl) (mkSeq (mkSeq (mkSeq mkLeaf mkLeaf) (mkSeq (mkBlock (mkLoop (loopDef LfYtoclhecldmahiaaDoor.mixed [(0, .ptr), (7, .slice), (8, (.int .i64)), (9, (.int .i64))] (by kernel_rfl) (fun M1 x w => term_Arena_Has.b1 R (fun y0 y1 y2 y3 w => M1 (y0, y1, y2, y3) w) x.1 x.2.1 x.2.2.1 x.2.2.2 w) (fun M1 => fun _ _ _ => False) (fun _ _ _ => by kernel_rfl) (fun M1 => (mkSeq (mkSeq (mkSeq mkLeaf (mkBlock (mkSeq (mkSeq (mkCnd (mkSeq mkLeaf mkLeaf) mkLeaf) mkLeaf) mkLeaf))) (mkCnd mkLeaf mkLeaf)) mkLeaf)) (fun x w => term_Arena_Has.l1 R x.1 x.2.1 x.2.2.1 x.2.2.2 w) (by rintro ⟨c0, c1, c2, s0⟩ w ⟨I, μ, h0, h1⟩; refine ⟨fun y w => y.1 = c0 ∧ y.2.1 = c1 ∧ y.2.2.1 = c2 ∧ I y.2.2.2 w, fun y w => μ y.2.2.2 w, ⟨rfl, rfl, rfl, h0⟩, ?_⟩; rintro ⟨d0, d1, d2, t0⟩ w ⟨e0, e1, e2, hI⟩; dsimp only at e0 e1 e2 hI; subst e0; subst e1; subst e2; exact h1 _ _ hI) (fun _ _ => by kernel_rfl)))) mkLeaf)) mkLeaf) (kcast (by kernel_rfl) h)

/-! trystref10_Arena_Put -/
def trystref10_Arena_Put.c1 (R : Value → World → Prop) (a0 : Option Addr) (args3 : Sl) (t10 : Addr) (w : World) : Prop :=
  ∃ q_1 : Addr, a0 = some q_1 ∧
  ∃ (a_2 : Option Addr) (l_3 c_4 : Nat), w.cell? q_1 = some (.slice a_2 l_3 c_4) ∧
  cond (decide ((((l_3 : Nat) : Int) : Int) ≥ 1048576))
  (R (.tuple #[.int .i64 0, .int .i64 7]) w)
  (CallsV Tryd.prog n_trystkeep_TwinInts #[.slice args3.a args3.len args3.cap] w (fun v_5 w1 =>
  ∃ (a_6 : Option Addr) (l_7 c_8 : Nat), v_5 = .slice a_6 l_7 c_8 ∧
  Wr w1 (t10.add 2) ∧
  (let w2 := w1.setCell (t10.add 2) (.slice a_6 l_7 c_8);
  ∃ S_9 : World → Prop, S_9 w2.drew ∧
  ∃ q_10 : Addr, a0 = some q_10 ∧
  ∃ (a_11 : Option Addr) (l_12 c_13 : Nat), (∀ x, S_9 x → x.cell? q_10 = some (.slice a_11 l_12 c_13)) ∧
  ∃ x_14 : Int, (∀ x, S_9 x → x.cell? t10 = some (.int .i64 x_14)) ∧
  ∃ x_15 : Int, (∀ x, S_9 x → x.cell? (t10.add 1) = some (.int .i64 x_15)) ∧
  ∃ (a_16 : Option Addr) (l_17 c_18 : Nat), (∀ x, S_9 x → x.cell? (t10.add 2) = some (.slice a_16 l_17 c_18)) ∧
  let w3 := w2.drew.alloc (.cells #[.int .i64 x_14, .int .i64 x_15, .slice a_16 l_17 c_18] 98);
  S_9 w3 ∧
  ∃ (a_19 : Option Addr) (l_20 c_21 : Nat), ∃ w4 : World, (builtin .append #[73, 73] 73 #[] #[.slice a_11 l_12 c_13, .slice (some (newA w2.drew)) 1 1]).run Tryd.prog w3 = .ok (.value (.slice a_19 l_20 c_21)) w4 ∧
  ∃ q_22 : Addr, a0 = some q_22 ∧
  Wr w4 q_22 ∧
  (let w5 := w4.setCell q_22 (.slice a_19 l_20 c_21);
  ∃ q_23 : Addr, a0 = some q_23 ∧
  ∃ (a_24 : Option Addr) (l_25 c_26 : Nat), w5.cell? q_23 = some (.slice a_24 l_25 c_26) ∧
  (let t8_26 : Int := (IntKind.i64.wrap (((l_25 : Nat) : Int) - 1));
  R (.tuple #[.int .i64 t8_26, .int .i64 0]) w5)))))

def trystref10_Arena_Put.b2 (R : Value → World → Prop) (N2 : Option Addr → Sl → Addr → Int → World → Prop) (a0 : Option Addr) (args3 : Sl) (t10 : Addr) (i11 : Int) (w : World) : Prop :=
  ∃ q_28 : Addr, a0 = some q_28 ∧
  ∃ (a_29 : Option Addr) (l_30 c_31 : Nat), w.cell? q_28 = some (.slice a_29 l_30 c_31) ∧
  cond (decide ((i11 : Int) < ((l_30 : Nat) : Int)))
  (∃ S_32 : World → Prop, S_32 w.drew ∧
  ∃ q_33 : Addr, a0 = some q_33 ∧
  ∃ (a_34 : Option Addr) (l_35 c_36 : Nat), (∀ x, S_32 x → x.cell? q_33 = some (.slice a_34 l_35 c_36)) ∧
  0 ≤ (i11 : Int) ∧ i11 < ((l_35 : Nat) : Int) ∧ ∃ q_37 : Addr, a_34 = some q_37 ∧
  ∃ x_38 : Int, (∀ x, S_32 x → x.cell? (q_37.add ((i11 : Int).toNat * 3)) = some (.int .i64 x_38)) ∧
  ∃ x_39 : Int, (∀ x, S_32 x → x.cell? ((q_37.add ((i11 : Int).toNat * 3)).add 1) = some (.int .i64 x_39)) ∧
  ∃ (a_40 : Option Addr) (l_41 c_42 : Nat), (∀ x, S_32 x → x.cell? ((q_37.add ((i11 : Int).toNat * 3)).add 2) = some (.slice a_40 l_41 c_42)) ∧
  ∃ x_43 : Int, (∀ x, S_32 x → x.cell? t10 = some (.int .i64 x_43)) ∧
  ∃ x_44 : Int, (∀ x, S_32 x → x.cell? (t10.add 1) = some (.int .i64 x_44)) ∧
  ∃ (a_45 : Option Addr) (l_46 c_47 : Nat), (∀ x, S_32 x → x.cell? (t10.add 2) = some (.slice a_45 l_46 c_47)) ∧
  CallsV Tryd.prog n_trystkeep_Term #[.agg #[.int .i64 x_38, .int .i64 x_39, .slice a_40 l_41 c_42], .agg #[.int .i64 x_43, .int .i64 x_44, .slice a_45 l_46 c_47]] w.drew (fun v_48 w6 =>
  ∃ b_49 : Bool, v_48 = .bool b_49 ∧
  cond b_49
  (R (.tuple #[.int .i64 i11, .int .i64 0]) w6)
  ((let i11_49 : Int := (IntKind.i64.wrap (i11 + 1));
  N2 a0 args3 t10 i11_49 w6))))
  (trystref10_Arena_Put.c1 R a0 args3 t10 w)

def trystref10_Arena_Put.l2 (R : Value → World → Prop) (a0 : Option Addr) (args3 : Sl) (t10 : Addr) (i11 : Int) (w : World) : Prop :=
  ∃ (I : Int → World → Prop) (μ : Int → World → Nat), I i11 w ∧ ∀ s w, I s w → trystref10_Arena_Put.b2 R (fun a0' args3' t10' i11' w' => (a0' = a0 ∧ args3' = args3 ∧ t10' = t10 ∧ I i11' w') ∧ μ i11' w' < μ s w) a0 args3 t10 s w

def trystref10_Arena_Put.c3 (R : Value → World → Prop) (a0 : Option Addr) (kind1 : Int) (n2 : Int) (args3 : Sl) (w : World) : Prop :=
  CallsV Tryd.prog n_trystref10_count #[.int .i64 kind1, .int .i64 ((args3.len : Nat) : Int)] w (fun v_51 w7 =>
  ∃ b_52 : Bool, v_51 = .bool b_52 ∧
  cond (!b_52)
  (R (.tuple #[.int .i64 0, .int .i64 2]) w7)
  (CallsV Tryd.prog n_trystref10_Arena_Has #[.pointer a0, .slice args3.a args3.len args3.cap] w7 (fun v_53 w8 =>
  ∃ b_54 : Bool, v_53 = .bool b_54 ∧
  cond (!b_54)
  (R (.tuple #[.int .i64 0, .int .i64 8]) w8)
  (let w9 := w8.alloc (.cells #[.int .i64 0, .int .i64 0, .slice none 0 0] 98);
  (∀ j, j < 3 → Wr w9 ((newA w8).add j)) ∧
  (let w10 := setCells (newA w8) [.int .i64 kind1, .int .i64 n2, .slice args3.a args3.len args3.cap] 0 w9;
  trystref10_Arena_Put.l2 R a0 args3 (newA w8) 0 w10)))))

def trystref10_Arena_Put.c4 (R : Value → World → Prop) (a0 : Option Addr) (kind1 : Int) (n2 : Int) (args3 : Sl) (w : World) : Prop :=
  cond (decide ((n2 : Int) < 0))
  (R (.tuple #[.int .i64 0, .int .i64 1]) w)
  (cond (decide ((n2 : Int) > 0))
  (cond ((kind1 : Int) != 1)
  (cond ((kind1 : Int) != 2)
  (cond ((kind1 : Int) != 4)
  (R (.tuple #[.int .i64 0, .int .i64 1]) w)
  (trystref10_Arena_Put.c3 R a0 kind1 n2 args3 w))
  (trystref10_Arena_Put.c3 R a0 kind1 n2 args3 w))
  (trystref10_Arena_Put.c3 R a0 kind1 n2 args3 w))
  (trystref10_Arena_Put.c3 R a0 kind1 n2 args3 w))

def trystref10_Arena_Put.main (R : Value → World → Prop) (a0 : Option Addr) (kind1 : Int) (n2 : Int) (args3 : Sl) (w : World) : Prop :=
  cond (decide ((kind1 : Int) < 1))
  (R (.tuple #[.int .i64 0, .int .i64 6]) w)
  (cond (decide ((kind1 : Int) > 9))
  (R (.tuple #[.int .i64 0, .int .i64 6]) w)
  (trystref10_Arena_Put.c4 R a0 kind1 n2 args3 w))

def trystref10_Arena_Put.J0 (R : Value → World → Prop) (k : Nat) (fr : Fr) (w : World) : Prop :=
  cond (Nat.beq k 4) (dec [(0, .ptr), (1, (.int .i64)), (2, (.int .i64)), (3, .slice)] fr fun x => trystref10_Arena_Put.c4 R x.1 x.2.1 x.2.2.1 x.2.2.2 w) (cond (Nat.beq k 3) (dec [(0, .ptr), (1, (.int .i64)), (2, (.int .i64)), (3, .slice)] fr fun x => trystref10_Arena_Put.c3 R x.1 x.2.1 x.2.2.1 x.2.2.2 w) (cond (Nat.beq k 2) (dec [(0, .ptr), (3, .slice), (10, .addr), (11, (.int .i64))] fr fun x => trystref10_Arena_Put.l2 R x.1 x.2.1 x.2.2.1 x.2.2.2 w) (cond (Nat.beq k 1) (dec [(0, .ptr), (3, .slice), (10, .addr)] fr fun x => trystref10_Arena_Put.c1 R x.1 x.2.1 x.2.2 w) (False))))

set_option maxRecDepth 100000 in
theorem trystref10_Arena_Put.lift {R : Value → World → Prop} {a0 : Option Addr} {kind1 : Int} {n2 : Int} {args3 : Sl} {w : World} (h : trystref10_Arena_Put.main R a0 kind1 n2 args3 w) : CallsV Tryd.prog n_trystref10_Arena_Put #[.pointer a0, .int .i64 kind1, .int .i64 n2, .slice args3.a args3.len args3.cap] w R :=
  liftCalls (c := (.seq (.leaf (cL (bd Tryd.f103))) (.seq (.seq (.leaf (cL (cL (cR (bd Tryd.f103))))) (.cnd (.tmp 17) (.seq (.leaf (cL (cT (cR (cL (cR (bd Tryd.f103))))))) (.leaf (cR (cT (cR (cL (cR (bd Tryd.f103)))))))) (.leaf (cE (cR (cL (cR (bd Tryd.f103)))))))) (.cut 4 (.seq (.seq (.leaf (cL (cL (cR (cR (bd Tryd.f103)))))) (.cnd (.tmp 35) (.seq (.leaf (cL (cT (cR (cL (cR (cR (bd Tryd.f103)))))))) (.leaf (cR (cT (cR (cL (cR (cR (bd Tryd.f103))))))))) (.leaf (cE (cR (cL (cR (cR (bd Tryd.f103))))))))) (.cut 3 (.seq (.seq (.leaf (cL (cL (cR (cR (cR (bd Tryd.f103))))))) (.cnd (.tmp 40) (.seq (.leaf (cL (cT (cR (cL (cR (cR (cR (bd Tryd.f103))))))))) (.leaf (cR (cT (cR (cL (cR (cR (cR (bd Tryd.f103)))))))))) (.leaf (cE (cR (cL (cR (cR (cR (bd Tryd.f103)))))))))) (.seq (.seq (.leaf (cL (cL (cR (cR (cR (cR (bd Tryd.f103)))))))) (.cnd (.tmp 44) (.seq (.leaf (cL (cT (cR (cL (cR (cR (cR (cR (bd Tryd.f103)))))))))) (.leaf (cR (cT (cR (cL (cR (cR (cR (cR (bd Tryd.f103))))))))))) (.leaf (cE (cR (cL (cR (cR (cR (cR (bd Tryd.f103))))))))))) (.seq (.leaf (cL (cR (cR (cR (cR (cR (bd Tryd.f103)))))))) (.seq (.seq (.leaf (cL (cL (cR (cR (cR (cR (cR (cR (bd Tryd.f103)))))))))) (.block 0 (.loop 2 (.seq (.seq (.leaf (cL (cL (cB (cB (cR (cL (cR (cR (cR (cR (cR (cR (bd Tryd.f103)))))))))))))) (.cnd (.tmp 55) (.leaf (cT (cR (cL (cB (cB (cR (cL (cR (cR (cR (cR (cR (cR (bd Tryd.f103))))))))))))))) (.leaf (cE (cR (cL (cB (cB (cR (cL (cR (cR (cR (cR (cR (cR (bd Tryd.f103))))))))))))))))) (.seq (.block 1 (.seq (.leaf (cL (cB (cL (cR (cB (cB (cR (cL (cR (cR (cR (cR (cR (cR (bd Tryd.f103)))))))))))))))) (.cnd (.tmp 66) (.seq (.leaf (cL (cT (cR (cB (cL (cR (cB (cB (cR (cL (cR (cR (cR (cR (cR (cR (bd Tryd.f103)))))))))))))))))) (.leaf (cR (cT (cR (cB (cL (cR (cB (cB (cR (cL (cR (cR (cR (cR (cR (cR (bd Tryd.f103))))))))))))))))))) (.leaf (cE (cR (cB (cL (cR (cB (cB (cR (cL (cR (cR (cR (cR (cR (cR (bd Tryd.f103)))))))))))))))))))) (.leaf (cR (cR (cB (cB (cR (cL (cR (cR (cR (cR (cR (cR (bd Tryd.f103))))))))))))))))))) (.cut 1 (.seq (.seq (.leaf (cL (cL (cR (cR (cR (cR (cR (cR (cR (bd Tryd.f103))))))))))) (.cnd (.tmp 73) (.seq (.leaf (cL (cT (cR (cL (cR (cR (cR (cR (cR (cR (cR (bd Tryd.f103))))))))))))) (.leaf (cR (cT (cR (cL (cR (cR (cR (cR (cR (cR (cR (bd Tryd.f103)))))))))))))) (.leaf (cE (cR (cL (cR (cR (cR (cR (cR (cR (cR (bd Tryd.f103)))))))))))))) (.seq (.leaf (cL (cR (cR (cR (cR (cR (cR (cR (cR (bd Tryd.f103))))))))))) (.seq (.leaf (cL (cR (cR (cR (cR (cR (cR (cR (cR (cR (bd Tryd.f103)))))))))))) (.seq (.leaf (cL (cR (cR (cR (cR (cR (cR (cR (cR (cR (cR (bd Tryd.f103))))))))))))) (.leaf (cR (cR (cR (cR (cR (cR (cR (cR (cR (cR (cR (bd Tryd.f103)))))))))))))))))))))))))))) (J := trystref10_Arena_Put.J0 R) LfYtoclhecldmahiaaDoor.mixed Tryd.func103 (by kernel_rfl) (by kernel_rfl) (mkSeq (mkSeq (mkCut (cutDef [(0, .ptr), (1, (.int .i64)), (2, (.int .i64)), (3, .slice)] (fun x w => trystref10_Arena_Put.c4 R x.1 x.2.1 x.2.2.1 x.2.2.2 w) (fun _ _ => by kernel_rfl) (fun _ _ => by kernel_rfl)) (mkSeq (mkCut (cutDef [(0, .ptr), (1, (.int .i64)), (2, (.int .i64)), (3, .slice)] (fun x w => trystref10_Arena_Put.c3 R x.1 x.2.1 x.2.2.1 x.2.2.2 w) (fun _ _ => by kernel_rfl) (fun _ _ => by kernel_rfl)) (mkSeq (mkSeq (mkSeq (mkSeq (mkCut (cutDef [(0, .ptr), (3, .slice), (10, .addr)] (fun x w => trystref10_Arena_Put.c1 R x.1 x.2.1 x.2.2 w) (fun _ _ => by kernel_rfl) (fun _ _ => by kernel_rfl)) (mkSeq (mkSeq (mkSeq (mkSeq mkLeaf mkLeaf) mkLeaf) mkLeaf) (mkSeq (mkCnd (mkSeq mkLeaf mkLeaf) mkLeaf) mkLeaf))) (mkSeq (mkBlock (mkLoop (loopDef LfYtoclhecldmahiaaDoor.mixed [(0, .ptr), (3, .slice), (10, .addr), (11, (.int .i64))] (by kernel_rfl) (fun M2 x w => trystref10_Arena_Put.b2 R (fun y0 y1 y2 y3 w => M2 (y0, y1, y2, y3) w) x.1 x.2.1 x.2.2.1 x.2.2.2 w) (fun M2 => fun _ _ _ => False) (fun _ _ _ => by kernel_rfl) (fun M2 => (mkSeq (mkSeq mkLeaf (mkBlock (mkSeq (mkCnd (mkSeq mkLeaf mkLeaf) mkLeaf) mkLeaf))) (mkSeq (mkCnd mkLeaf mkLeaf) mkLeaf))) (fun x w => trystref10_Arena_Put.l2 R x.1 x.2.1 x.2.2.1 x.2.2.2 w) (by rintro ⟨c0, c1, c2, s0⟩ w ⟨I, μ, h0, h1⟩; refine ⟨fun y w => y.1 = c0 ∧ y.2.1 = c1 ∧ y.2.2.1 = c2 ∧ I y.2.2.2 w, fun y w => μ y.2.2.2 w, ⟨rfl, rfl, rfl, h0⟩, ?_⟩; rintro ⟨d0, d1, d2, t0⟩ w ⟨e0, e1, e2, hI⟩; dsimp only at e0 e1 e2 hI; subst e0; subst e1; subst e2; exact h1 _ _ hI) (fun _ _ => by kernel_rfl)))) mkLeaf)) mkLeaf) (mkSeq (mkCnd (mkSeq mkLeaf mkLeaf) mkLeaf) mkLeaf)) (mkSeq (mkCnd (mkSeq mkLeaf mkLeaf) mkLeaf) mkLeaf))) (mkSeq (mkCnd (mkSeq mkLeaf mkLeaf) mkLeaf) mkLeaf))) (mkSeq (mkCnd (mkSeq mkLeaf mkLeaf) mkLeaf) mkLeaf)) mkLeaf) (kcast (by kernel_rfl) h)

/-! term_many -/
def term_many.c1 (R : Value → World → Prop) (t4 : Int) (t11 : Bool) (w : World) : Prop :=
  cond t11
  (R (.tuple #[.int .i64 1, .int .i64 400]) w)
  (cond ((t4 : Int) == 7)
  (R (.tuple #[.int .i64 2, .int .i64 400]) w)
  (R (.tuple #[.int .i64 0, .int .i64 400]) w))

def term_many.c2 (R : Value → World → Prop) (t4 : Int) (t8 : Bool) (w : World) : Prop :=
  cond t8
  (R (.tuple #[.int .i64 1, .int .i64 1]) w)
  (cond ((t4 : Int) == 6)
  (term_many.c1 R t4 ((t4 : Int) == 6) w)
  (term_many.c1 R t4 ((t4 : Int) == 8) w))

def term_many.c3 (R : Value → World → Prop) (t4 : Int) (t5 : Bool) (w : World) : Prop :=
  cond t5
  (R (.tuple #[.int .i64 0, .int .i64 0]) w)
  (cond ((t4 : Int) == 4)
  (term_many.c2 R t4 ((t4 : Int) == 4) w)
  (term_many.c2 R t4 ((t4 : Int) == 5) w))

def term_many.main (R : Value → World → Prop) (kind0 : Int) (w : World) : Prop :=
  cond ((kind0 : Int) == 1)
  (term_many.c3 R kind0 ((kind0 : Int) == 1) w)
  (term_many.c3 R kind0 ((kind0 : Int) == 2) w)

def term_many.J0 (R : Value → World → Prop) (k : Nat) (fr : Fr) (w : World) : Prop :=
  cond (Nat.beq k 3) (dec [(4, (.int .i64)), (5, .bool)] fr fun x => term_many.c3 R x.1 x.2 w) (cond (Nat.beq k 2) (dec [(4, (.int .i64)), (8, .bool)] fr fun x => term_many.c2 R x.1 x.2 w) (cond (Nat.beq k 1) (dec [(4, (.int .i64)), (11, .bool)] fr fun x => term_many.c1 R x.1 x.2 w) (False)))

set_option maxRecDepth 100000 in
theorem term_many.lift {R : Value → World → Prop} {kind0 : Int} {w : World} (h : term_many.main R kind0 w) : CallsV Tryd.prog n_term_many #[.int .i64 kind0] w R :=
  liftCalls (c := (.seq (.leaf (cL (bd Tryd.f105))) (.seq (.seq (.leaf (cL (cL (cR (bd Tryd.f105))))) (.block 0 (.seq (.seq (.leaf (cL (cL (cB (cR (cL (cR (bd Tryd.f105)))))))) (.cnd (.tmp 5) (.leaf (cT (cR (cL (cB (cR (cL (cR (bd Tryd.f105))))))))) (.leaf (cE (cR (cL (cB (cR (cL (cR (bd Tryd.f105))))))))))) (.cut 3 (.cnd (.tmp 5) (.seq (.leaf (cL (cT (cR (cB (cR (cL (cR (bd Tryd.f105))))))))) (.leaf (cR (cT (cR (cB (cR (cL (cR (bd Tryd.f105)))))))))) (.seq (.seq (.leaf (cL (cL (cE (cR (cB (cR (cL (cR (bd Tryd.f105)))))))))) (.cnd (.tmp 8) (.leaf (cT (cR (cL (cE (cR (cB (cR (cL (cR (bd Tryd.f105))))))))))) (.leaf (cE (cR (cL (cE (cR (cB (cR (cL (cR (bd Tryd.f105))))))))))))) (.cut 2 (.cnd (.tmp 8) (.seq (.leaf (cL (cT (cR (cE (cR (cB (cR (cL (cR (bd Tryd.f105))))))))))) (.leaf (cR (cT (cR (cE (cR (cB (cR (cL (cR (bd Tryd.f105)))))))))))) (.seq (.seq (.leaf (cL (cL (cE (cR (cE (cR (cB (cR (cL (cR (bd Tryd.f105)))))))))))) (.cnd (.tmp 11) (.leaf (cT (cR (cL (cE (cR (cE (cR (cB (cR (cL (cR (bd Tryd.f105))))))))))))) (.leaf (cE (cR (cL (cE (cR (cE (cR (cB (cR (cL (cR (bd Tryd.f105))))))))))))))) (.cut 1 (.cnd (.tmp 11) (.seq (.leaf (cL (cT (cR (cE (cR (cE (cR (cB (cR (cL (cR (bd Tryd.f105))))))))))))) (.leaf (cR (cT (cR (cE (cR (cE (cR (cB (cR (cL (cR (bd Tryd.f105)))))))))))))) (.seq (.leaf (cL (cE (cR (cE (cR (cE (cR (cB (cR (cL (cR (bd Tryd.f105))))))))))))) (.cnd (.tmp 14) (.seq (.leaf (cL (cT (cR (cE (cR (cE (cR (cE (cR (cB (cR (cL (cR (bd Tryd.f105))))))))))))))) (.leaf (cR (cT (cR (cE (cR (cE (cR (cE (cR (cB (cR (cL (cR (bd Tryd.f105)))))))))))))))) (.leaf (cE (cR (cE (cR (cE (cR (cE (cR (cB (cR (cL (cR (bd Tryd.f105))))))))))))))))))))))))))) (.seq (.leaf (cL (cR (cR (bd Tryd.f105))))) (.leaf (cR (cR (cR (bd Tryd.f105))))))))) (J := term_many.J0 R) LfYtoclhecldmahiaaDoor.mixed Tryd.func105 (by kernel_rfl) (by kernel_rfl) (mkSeq (mkSeq (mkSeq mkLeaf mkLeaf) (mkSeq (mkBlock (mkSeq (mkCut (cutDef [(4, (.int .i64)), (5, .bool)] (fun x w => term_many.c3 R x.1 x.2 w) (fun _ _ => by kernel_rfl) (fun _ _ => by kernel_rfl)) (mkCnd (mkSeq mkLeaf mkLeaf) (mkSeq (mkCut (cutDef [(4, (.int .i64)), (8, .bool)] (fun x w => term_many.c2 R x.1 x.2 w) (fun _ _ => by kernel_rfl) (fun _ _ => by kernel_rfl)) (mkCnd (mkSeq mkLeaf mkLeaf) (mkSeq (mkCut (cutDef [(4, (.int .i64)), (11, .bool)] (fun x w => term_many.c1 R x.1 x.2 w) (fun _ _ => by kernel_rfl) (fun _ _ => by kernel_rfl)) (mkCnd (mkSeq mkLeaf mkLeaf) (mkSeq (mkCnd (mkSeq mkLeaf mkLeaf) mkLeaf) mkLeaf))) (mkSeq (mkCnd mkLeaf mkLeaf) mkLeaf)))) (mkSeq (mkCnd mkLeaf mkLeaf) mkLeaf)))) (mkSeq (mkCnd mkLeaf mkLeaf) mkLeaf))) mkLeaf)) mkLeaf) (kcast (by kernel_rfl) h)

/-! term_key -/
def term_key.b1 (R : Value → World → Prop) (N1 : Sl → Int → Sl → Int → World → Prop) (t14 : Sl) (t15 : Int) (b7 : Sl) (t16 : Int) (w : World) : Prop :=
  cond (decide ((t16 : Int) < t15))
  (0 ≤ (t16 : Int) ∧ t16 < ((t14.len : Nat) : Int) ∧ ∃ q_1 : Addr, t14.a = some q_1 ∧
  ∃ x_2 : Int, w.cell? (q_1.add (t16 : Int).toNat) = some (.int .i64 x_2) ∧
  CallsV Tryd.prog n_strconv_AppendInt #[.slice b7.a b7.len b7.cap, .int .i64 x_2, .int .i64 10] w (fun v_3 w1 =>
  ∃ (a_4 : Option Addr) (l_5 c_6 : Nat), v_3 = .slice a_4 l_5 c_6 ∧
  let w2 := w1.alloc (.cells #[.int .u8 32] 5);
  ∃ (a_7 : Option Addr) (l_8 c_9 : Nat), ∃ w3 : World, (builtin .append #[198, 198] 198 #[] #[.slice a_4 l_5 c_6, .slice (some (newA w1)) 1 1]).run Tryd.prog w2 = .ok (.value (.slice a_7 l_8 c_9)) w3 ∧
  N1 t14 t15 ⟨a_7, l_8, c_9⟩ (IntKind.i64.wrap (t16 + 1)) w3))
  (∃ s_10 : ByteArray, ∃ w4 : World, (do pure (.value (← convert 198 9 (.slice b7.a b7.len b7.cap))) : Sem Next).run Tryd.prog w = .ok (.value (.string s_10)) w4 ∧
  R (.string s_10) w4)

def term_key.l1 (R : Value → World → Prop) (t14 : Sl) (t15 : Int) (b7 : Sl) (t16 : Int) (w : World) : Prop :=
  ∃ (I : (Sl × Int) → World → Prop) (μ : (Sl × Int) → World → Nat), I (b7, t16) w ∧ ∀ s w, I s w → term_key.b1 R (fun t14' t15' b7' t16' w' => (t14' = t14 ∧ t15' = t15 ∧ I (b7', t16') w') ∧ μ (b7', t16') w' < μ s w) t14 t15 s.1 s.2 w

def term_key.main (R : Value → World → Prop) (kind0 : Int) (n1 : Int) (args2 : Sl) (w : World) : Prop :=
  let w5 := w.alloc (.cells #[.int .i64 kind0, .int .i64 n1] 3);
  ∃ (a_11 : Option Addr) (l_12 c_13 : Nat), ∃ w6 : World, (builtin .append #[29, 29] 29 #[] #[.slice (some (newA w)) 2 2, .slice args2.a args2.len args2.cap]).run Tryd.prog w5 = .ok (.value (.slice a_11 l_12 c_13)) w6 ∧
  term_key.l1 R ⟨a_11, l_12, c_13⟩ ((l_12 : Nat) : Int) ⟨none, 0, 0⟩ 0 w6

def term_key.J0 (R : Value → World → Prop) (k : Nat) (fr : Fr) (w : World) : Prop :=
  cond (Nat.beq k 1) (dec [(14, .slice), (15, (.int .i64)), (7, .slice), (16, (.int .i64))] fr fun x => term_key.l1 R x.1 x.2.1 x.2.2.1 x.2.2.2 w) (False)

set_option maxRecDepth 100000 in
theorem term_key.lift {R : Value → World → Prop} {kind0 : Int} {n1 : Int} {args2 : Sl} {w : World} (h : term_key.main R kind0 n1 args2 w) : CallsV Tryd.prog n_term_key #[.int .i64 kind0, .int .i64 n1, .slice args2.a args2.len args2.cap] w R :=
  liftCalls (c := (.seq (.leaf (cL (bd Tryd.f106))) (.seq (.leaf (cL (cR (bd Tryd.f106)))) (.seq (.seq (.leaf (cL (cL (cR (cR (bd Tryd.f106)))))) (.block 0 (.loop 1 (.seq (.leaf (cL (cB (cB (cR (cL (cR (cR (bd Tryd.f106))))))))) (.seq (.cnd (.tmp 17) (.leaf (cT (cL (cR (cB (cB (cR (cL (cR (cR (bd Tryd.f106))))))))))) (.leaf (cE (cL (cR (cB (cB (cR (cL (cR (cR (bd Tryd.f106)))))))))))) (.seq (.block 1 (.seq (.leaf (cL (cB (cL (cR (cR (cB (cB (cR (cL (cR (cR (bd Tryd.f106))))))))))))) (.leaf (cR (cB (cL (cR (cR (cB (cB (cR (cL (cR (cR (bd Tryd.f106))))))))))))))) (.leaf (cR (cR (cR (cB (cB (cR (cL (cR (cR (bd Tryd.f106))))))))))))))))) (.seq (.leaf (cL (cR (cR (cR (bd Tryd.f106)))))) (.leaf (cR (cR (cR (cR (bd Tryd.f106))))))))))) (J := term_key.J0 R) LfYtoclhecldmahiaaDoor.mixed Tryd.func106 (by kernel_rfl) (by kernel_rfl) (mkSeq (mkSeq (mkSeq (mkSeq mkLeaf mkLeaf) (mkSeq (mkBlock (mkLoop (loopDef LfYtoclhecldmahiaaDoor.mixed [(14, .slice), (15, (.int .i64)), (7, .slice), (16, (.int .i64))] (by kernel_rfl) (fun M1 x w => term_key.b1 R (fun y0 y1 y2 y3 w => M1 (y0, y1, y2, y3) w) x.1 x.2.1 x.2.2.1 x.2.2.2 w) (fun M1 => fun _ _ _ => False) (fun _ _ _ => by kernel_rfl) (fun M1 => (mkSeq (mkSeq (mkSeq mkLeaf (mkBlock (mkSeq mkLeaf mkLeaf))) (mkCnd mkLeaf mkLeaf)) mkLeaf)) (fun x w => term_key.l1 R x.1 x.2.1 x.2.2.1 x.2.2.2 w) (by rintro ⟨c0, c1, s0⟩ w ⟨I, μ, h0, h1⟩; refine ⟨fun y w => y.1 = c0 ∧ y.2.1 = c1 ∧ I y.2.2 w, fun y w => μ y.2.2 w, ⟨rfl, rfl, h0⟩, ?_⟩; rintro ⟨d0, d1, t0⟩ w ⟨e0, e1, hI⟩; dsimp only at e0 e1 hI; subst e0; subst e1; exact h1 _ _ hI) (fun _ _ => by kernel_rfl)))) mkLeaf)) mkLeaf) mkLeaf) (kcast (by kernel_rfl) h)

/-! slices_Clone_int -/
def slices_Clone_int.main (R : Value → World → Prop) (s0 : Sl) (w : World) : Prop :=
  cond ((s0.a).isNone)
  (R (.slice none 0 0) w)
  (let w1 := w.alloc (.cells #[] 3);
  ∃ (a_1 : Option Addr) (l_2 c_3 : Nat), ∃ w2 : World, (builtin .append #[29, 29] 29 #[] #[.slice (some (newA w)) 0 0, .slice s0.a s0.len s0.cap]).run Tryd.prog w1 = .ok (.value (.slice a_1 l_2 c_3)) w2 ∧
  R (.slice a_1 l_2 c_3) w2)

def slices_Clone_int.J0 (_ : Value → World → Prop) (_ : Nat) (_ : Fr) (_ : World) : Prop := False

set_option maxRecDepth 100000 in
theorem slices_Clone_int.lift {R : Value → World → Prop} {s0 : Sl} {w : World} (h : slices_Clone_int.main R s0 w) : CallsV Tryd.prog n_slices_Clone_int #[.slice s0.a s0.len s0.cap] w R :=
  liftCalls (c := (.seq (.leaf (cL (bd Tryd.f107))) (.seq (.seq (.leaf (cL (cL (cR (bd Tryd.f107))))) (.cnd (.tmp 4) (.seq (.leaf (cL (cT (cR (cL (cR (bd Tryd.f107))))))) (.leaf (cR (cT (cR (cL (cR (bd Tryd.f107)))))))) (.leaf (cE (cR (cL (cR (bd Tryd.f107)))))))) (.seq (.leaf (cL (cR (cR (bd Tryd.f107))))) (.leaf (cR (cR (cR (bd Tryd.f107))))))))) (J := slices_Clone_int.J0 R) LfYtoclhecldmahiaaDoor.mixed Tryd.func107 (by kernel_rfl) (by kernel_rfl) (mkSeq (mkSeq (mkSeq mkLeaf mkLeaf) (mkSeq (mkCnd (mkSeq mkLeaf mkLeaf) mkLeaf) mkLeaf)) mkLeaf) (kcast (by kernel_rfl) h)

/-! term_Arena_At -/
def term_Arena_At.main (R : Value → World → Prop) (a0 : Option Addr) (i1 : Int) (w : World) : Prop :=
  let w1 := w.alloc (.cells #[.int .i64 0, .int .i64 0, .slice none 0 0] 98);
  ∃ q_1 : Addr, a0 = some q_1 ∧
  ∃ (a_2 : Option Addr) (l_3 c_4 : Nat), w1.cell? q_1 = some (.slice a_2 l_3 c_4) ∧
  0 ≤ (i1 : Int) ∧ i1 < ((l_3 : Nat) : Int) ∧ ∃ q_5 : Addr, a_2 = some q_5 ∧
  ∃ x_6 : Int, w1.cell? (q_5.add ((i1 : Int).toNat * 3)) = some (.int .i64 x_6) ∧
  ∃ x_7 : Int, w1.cell? ((q_5.add ((i1 : Int).toNat * 3)).add 1) = some (.int .i64 x_7) ∧
  ∃ (a_8 : Option Addr) (l_9 c_10 : Nat), w1.cell? ((q_5.add ((i1 : Int).toNat * 3)).add 2) = some (.slice a_8 l_9 c_10) ∧
  (∀ j, j < 3 → Wr w1 ((newA w).add j)) ∧
  (let w2 := setCells (newA w) [.int .i64 x_6, .int .i64 x_7, .slice a_8 l_9 c_10] 0 w1;
  ∃ x_11 : Int, w2.cell? (newA w) = some (.int .i64 x_11) ∧
  ∃ x_12 : Int, w2.cell? ((newA w).add 1) = some (.int .i64 x_12) ∧
  ∃ (a_13 : Option Addr) (l_14 c_15 : Nat), w2.cell? ((newA w).add 2) = some (.slice a_13 l_14 c_15) ∧
  R (.agg #[.int .i64 x_11, .int .i64 x_12, .slice a_13 l_14 c_15]) w2)

def term_Arena_At.J0 (_ : Value → World → Prop) (_ : Nat) (_ : Fr) (_ : World) : Prop := False

set_option maxRecDepth 100000 in
theorem term_Arena_At.lift {R : Value → World → Prop} {a0 : Option Addr} {i1 : Int} {w : World} (h : term_Arena_At.main R a0 i1 w) : CallsV Tryd.prog n_term_Arena_At #[.pointer a0, .int .i64 i1] w R :=
  liftCalls (c := (.seq (.leaf (cL (bd Tryd.f108))) (.seq (.leaf (cL (cR (bd Tryd.f108)))) (.leaf (cR (cR (bd Tryd.f108))))))) (J := term_Arena_At.J0 R) LfYtoclhecldmahiaaDoor.mixed Tryd.func108 (by kernel_rfl) (by kernel_rfl) (mkSeq (mkSeq mkLeaf mkLeaf) mkLeaf) (kcast (by kernel_rfl) h)

/-! term_Arena_Unbox -/
def term_Arena_Unbox.c1 (R : Value → World → Prop) (t8 : Addr) (w : World) : Prop :=
  ∃ (a_1 : Option Addr) (l_2 c_3 : Nat), w.cell? (t8.add 2) = some (.slice a_1 l_2 c_3) ∧
  0 ≤ (2 : Int) ∧ (2 : Int) ≤ ((l_2 : Nat) : Int) ∧ (((l_2 : Nat) : Int) : Int) ≤ ((c_3 : Nat) : Int) ∧ (((c_3 : Nat) : Int) : Int) ≤ ((c_3 : Nat) : Int) ∧
  CallsV Tryd.prog n_slices_Clone_int #[.slice (if ((((c_3 : Nat) : Int) : Int)).toNat = ((2 : Int)).toNat then a_1 else (a_1).map (·.add ((2 : Int)).toNat)) (((((l_2 : Nat) : Int) : Int)).toNat - ((2 : Int)).toNat) (((((c_3 : Nat) : Int) : Int)).toNat - ((2 : Int)).toNat)] w (fun v_4 w1 =>
  ∃ (a_5 : Option Addr) (l_6 c_7 : Nat), v_4 = .slice a_5 l_6 c_7 ∧
  R (.tuple #[.slice a_5 l_6 c_7, .int .i64 0]) w1)

def term_Arena_Unbox.main (R : Value → World → Prop) (a0 : Option Addr) (box1 : Int) (secret2 : Int) (w : World) : Prop :=
  let w2 := w.alloc (.cells #[.int .i64 box1, .int .i64 secret2] 3);
  CallsV Tryd.prog n_term_Arena_Has #[.pointer a0, .slice (some (newA w)) 2 2] w2 (fun v_8 w3 =>
  ∃ b_9 : Bool, v_8 = .bool b_9 ∧
  cond (!b_9)
  (R (.tuple #[.slice none 0 0, .int .i64 8]) w3)
  (∃ q_10 : Addr, a0 = some q_10 ∧
  ∃ (a_11 : Option Addr) (l_12 c_13 : Nat), w3.cell? q_10 = some (.slice a_11 l_12 c_13) ∧
  0 ≤ (box1 : Int) ∧ box1 < ((l_12 : Nat) : Int) ∧ ∃ q_14 : Addr, a_11 = some q_14 ∧
  ∃ x_15 : Int, w3.cell? (q_14.add ((box1 : Int).toNat * 3)) = some (.int .i64 x_15) ∧
  ∃ x_16 : Int, w3.cell? ((q_14.add ((box1 : Int).toNat * 3)).add 1) = some (.int .i64 x_16) ∧
  ∃ (a_17 : Option Addr) (l_18 c_19 : Nat), w3.cell? ((q_14.add ((box1 : Int).toNat * 3)).add 2) = some (.slice a_17 l_18 c_19) ∧
  let w4 := w3.alloc (.cells #[.int .i64 0, .int .i64 0, .slice none 0 0] 98);
  (∀ j, j < 3 → Wr w4 ((newA w3).add j)) ∧
  (let w5 := setCells (newA w3) [.int .i64 x_15, .int .i64 x_16, .slice a_17 l_18 c_19] 0 w4;
  ∃ x_20 : Int, w5.cell? (newA w3) = some (.int .i64 x_20) ∧
  cond ((x_20 : Int) != 7)
  (R (.tuple #[.slice none 0 0, .int .i64 6]) w5)
  (∃ S_21 : World → Prop, S_21 w5.drew ∧
  ∃ q_22 : Addr, a0 = some q_22 ∧
  ∃ (a_23 : Option Addr) (l_24 c_25 : Nat), (∀ x, S_21 x → x.cell? q_22 = some (.slice a_23 l_24 c_25)) ∧
  ∃ (a_26 : Option Addr) (l_27 c_28 : Nat), (∀ x, S_21 x → x.cell? ((newA w3).add 2) = some (.slice a_26 l_27 c_28)) ∧
  0 ≤ (0 : Int) ∧ 0 < ((l_27 : Nat) : Int) ∧ ∃ q_29 : Addr, a_26 = some q_29 ∧
  ∃ x_30 : Int, (∀ x, S_21 x → x.cell? (q_29.add (0 : Int).toNat) = some (.int .i64 x_30)) ∧
  0 ≤ (x_30 : Int) ∧ x_30 < ((l_24 : Nat) : Int) ∧ ∃ q_31 : Addr, a_23 = some q_31 ∧
  ∃ x_32 : Int, (∀ x, S_21 x → x.cell? (q_31.add ((x_30 : Int).toNat * 3)) = some (.int .i64 x_32)) ∧
  ∃ x_33 : Int, (∀ x, S_21 x → x.cell? ((q_31.add ((x_30 : Int).toNat * 3)).add 1) = some (.int .i64 x_33)) ∧
  ∃ (a_34 : Option Addr) (l_35 c_36 : Nat), (∀ x, S_21 x → x.cell? ((q_31.add ((x_30 : Int).toNat * 3)).add 2) = some (.slice a_34 l_35 c_36)) ∧
  let w6 := w5.drew.alloc (.cells #[.int .i64 0, .int .i64 0, .slice none 0 0] 98);
  S_21 w6 ∧
  (∀ j, j < 3 → Wr w6 ((newA w5.drew).add j)) ∧
  (let w7 := setCells (newA w5.drew) [.int .i64 x_32, .int .i64 x_33, .slice a_34 l_35 c_36] 0 w6;
  ∃ x_37 : Int, w7.cell? (newA w5.drew) = some (.int .i64 x_37) ∧
  cond ((x_37 : Int) != 5)
  (R (.tuple #[.slice none 0 0, .int .i64 3]) w7)
  (∃ (a_38 : Option Addr) (l_39 c_40 : Nat), w7.cell? ((newA w5.drew).add 2) = some (.slice a_38 l_39 c_40) ∧
  0 ≤ (0 : Int) ∧ 0 < ((l_39 : Nat) : Int) ∧ ∃ q_41 : Addr, a_38 = some q_41 ∧
  ∃ x_42 : Int, w7.cell? (q_41.add (0 : Int).toNat) = some (.int .i64 x_42) ∧
  cond ((x_42 : Int) != secret2)
  (R (.tuple #[.slice none 0 0, .int .i64 3]) w7)
  (term_Arena_Unbox.c1 R (newA w3) w7)))))))

def term_Arena_Unbox.J0 (R : Value → World → Prop) (k : Nat) (fr : Fr) (w : World) : Prop :=
  cond (Nat.beq k 1) (dec [(8, .addr)] fr fun x => term_Arena_Unbox.c1 R x w) (False)

set_option maxRecDepth 100000 in
theorem term_Arena_Unbox.lift {R : Value → World → Prop} {a0 : Option Addr} {box1 : Int} {secret2 : Int} {w : World} (h : term_Arena_Unbox.main R a0 box1 secret2 w) : CallsV Tryd.prog n_term_Arena_Unbox #[.pointer a0, .int .i64 box1, .int .i64 secret2] w R :=
  liftCalls (c := (.seq (.leaf (cL (bd Tryd.f110))) (.seq (.seq (.leaf (cL (cL (cR (bd Tryd.f110))))) (.cnd (.tmp 15) (.seq (.leaf (cL (cT (cR (cL (cR (bd Tryd.f110))))))) (.leaf (cR (cT (cR (cL (cR (bd Tryd.f110)))))))) (.leaf (cE (cR (cL (cR (bd Tryd.f110)))))))) (.seq (.leaf (cL (cR (cR (bd Tryd.f110))))) (.seq (.seq (.leaf (cL (cL (cR (cR (cR (bd Tryd.f110))))))) (.cnd (.tmp 25) (.seq (.leaf (cL (cT (cR (cL (cR (cR (cR (bd Tryd.f110))))))))) (.leaf (cR (cT (cR (cL (cR (cR (cR (bd Tryd.f110)))))))))) (.leaf (cE (cR (cL (cR (cR (cR (bd Tryd.f110)))))))))) (.seq (.leaf (cL (cR (cR (cR (cR (bd Tryd.f110))))))) (.seq (.seq (.leaf (cL (cL (cR (cR (cR (cR (cR (bd Tryd.f110))))))))) (.cnd (.tmp 46) (.seq (.leaf (cL (cT (cR (cL (cR (cR (cR (cR (cR (bd Tryd.f110))))))))))) (.leaf (cR (cT (cR (cL (cR (cR (cR (cR (cR (bd Tryd.f110)))))))))))) (.leaf (cE (cR (cL (cR (cR (cR (cR (cR (bd Tryd.f110)))))))))))) (.cut 1 (.seq (.leaf (cL (cR (cR (cR (cR (cR (cR (bd Tryd.f110))))))))) (.leaf (cR (cR (cR (cR (cR (cR (cR (bd Tryd.f110)))))))))))))))))) (J := term_Arena_Unbox.J0 R) LfYtoclhecldmahiaaDoor.mixed Tryd.func110 (by kernel_rfl) (by kernel_rfl) (mkSeq (mkSeq (mkSeq (mkSeq (mkSeq (mkSeq (mkCut (cutDef [(8, .addr)] (fun x w => term_Arena_Unbox.c1 R x w) (fun _ _ => by kernel_rfl) (fun _ _ => by kernel_rfl)) (mkSeq mkLeaf mkLeaf)) (mkSeq (mkCnd (mkSeq mkLeaf mkLeaf) mkLeaf) mkLeaf)) mkLeaf) (mkSeq (mkCnd (mkSeq mkLeaf mkLeaf) mkLeaf) mkLeaf)) mkLeaf) (mkSeq (mkCnd (mkSeq mkLeaf mkLeaf) mkLeaf) mkLeaf)) mkLeaf) (kcast (by kernel_rfl) h)

/-! trystref10_Arena_Unbox -/
def trystref10_Arena_Unbox.c1 (R : Value → World → Prop) (a0 : Option Addr) (box1 : Int) (w : World) : Prop :=
  ∃ q_1 : Addr, a0 = some q_1 ∧
  ∃ (a_2 : Option Addr) (l_3 c_4 : Nat), w.cell? q_1 = some (.slice a_2 l_3 c_4) ∧
  0 ≤ (box1 : Int) ∧ box1 < ((l_3 : Nat) : Int) ∧ ∃ q_5 : Addr, a_2 = some q_5 ∧
  ∃ (a_6 : Option Addr) (l_7 c_8 : Nat), w.cell? ((q_5.add ((box1 : Int).toNat * 3)).add 2) = some (.slice a_6 l_7 c_8) ∧
  0 ≤ (2 : Int) ∧ (2 : Int) ≤ ((l_7 : Nat) : Int) ∧ (((l_7 : Nat) : Int) : Int) ≤ ((c_8 : Nat) : Int) ∧ (((c_8 : Nat) : Int) : Int) ≤ ((c_8 : Nat) : Int) ∧
  R (.tuple #[.slice (if ((((c_8 : Nat) : Int) : Int)).toNat = ((2 : Int)).toNat then a_6 else (a_6).map (·.add ((2 : Int)).toNat)) (((((l_7 : Nat) : Int) : Int)).toNat - ((2 : Int)).toNat) (((((c_8 : Nat) : Int) : Int)).toNat - ((2 : Int)).toNat), .int .i64 0]) w

def trystref10_Arena_Unbox.main (R : Value → World → Prop) (a0 : Option Addr) (box1 : Int) (secret2 : Int) (w : World) : Prop :=
  let w1 := w.alloc (.cells #[.int .i64 box1, .int .i64 secret2] 3);
  CallsV Tryd.prog n_trystref10_Arena_Has #[.pointer a0, .slice (some (newA w)) 2 2] w1 (fun v_9 w2 =>
  ∃ b_10 : Bool, v_9 = .bool b_10 ∧
  cond (!b_10)
  (R (.tuple #[.slice none 0 0, .int .i64 8]) w2)
  (∃ q_11 : Addr, a0 = some q_11 ∧
  ∃ (a_12 : Option Addr) (l_13 c_14 : Nat), w2.cell? q_11 = some (.slice a_12 l_13 c_14) ∧
  0 ≤ (box1 : Int) ∧ box1 < ((l_13 : Nat) : Int) ∧ ∃ q_15 : Addr, a_12 = some q_15 ∧
  ∃ x_16 : Int, w2.cell? (q_15.add ((box1 : Int).toNat * 3)) = some (.int .i64 x_16) ∧
  cond ((x_16 : Int) != 7)
  (R (.tuple #[.slice none 0 0, .int .i64 6]) w2)
  (∃ S_17 : World → Prop, S_17 w2.drew ∧
  ∃ q_18 : Addr, a0 = some q_18 ∧
  ∃ (a_19 : Option Addr) (l_20 c_21 : Nat), (∀ x, S_17 x → x.cell? q_18 = some (.slice a_19 l_20 c_21)) ∧
  ∃ q_22 : Addr, a0 = some q_22 ∧
  ∃ (a_23 : Option Addr) (l_24 c_25 : Nat), (∀ x, S_17 x → x.cell? q_22 = some (.slice a_23 l_24 c_25)) ∧
  0 ≤ (box1 : Int) ∧ box1 < ((l_24 : Nat) : Int) ∧ ∃ q_26 : Addr, a_23 = some q_26 ∧
  ∃ (a_27 : Option Addr) (l_28 c_29 : Nat), (∀ x, S_17 x → x.cell? ((q_26.add ((box1 : Int).toNat * 3)).add 2) = some (.slice a_27 l_28 c_29)) ∧
  0 ≤ (0 : Int) ∧ 0 < ((l_28 : Nat) : Int) ∧ ∃ q_30 : Addr, a_27 = some q_30 ∧
  ∃ x_31 : Int, (∀ x, S_17 x → x.cell? (q_30.add (0 : Int).toNat) = some (.int .i64 x_31)) ∧
  0 ≤ (x_31 : Int) ∧ x_31 < ((l_20 : Nat) : Int) ∧ ∃ q_32 : Addr, a_19 = some q_32 ∧
  ∃ x_33 : Int, (∀ x, S_17 x → x.cell? (q_32.add ((x_31 : Int).toNat * 3)) = some (.int .i64 x_33)) ∧
  ∃ x_34 : Int, (∀ x, S_17 x → x.cell? ((q_32.add ((x_31 : Int).toNat * 3)).add 1) = some (.int .i64 x_34)) ∧
  ∃ (a_35 : Option Addr) (l_36 c_37 : Nat), (∀ x, S_17 x → x.cell? ((q_32.add ((x_31 : Int).toNat * 3)).add 2) = some (.slice a_35 l_36 c_37)) ∧
  let w3 := w2.drew.alloc (.cells #[.int .i64 0, .int .i64 0, .slice none 0 0] 98);
  S_17 w3 ∧
  (∀ j, j < 3 → Wr w3 ((newA w2.drew).add j)) ∧
  (let w4 := setCells (newA w2.drew) [.int .i64 x_33, .int .i64 x_34, .slice a_35 l_36 c_37] 0 w3;
  ∃ x_38 : Int, w4.cell? (newA w2.drew) = some (.int .i64 x_38) ∧
  cond ((x_38 : Int) != 5)
  (R (.tuple #[.slice none 0 0, .int .i64 3]) w4)
  (∃ (a_39 : Option Addr) (l_40 c_41 : Nat), w4.cell? ((newA w2.drew).add 2) = some (.slice a_39 l_40 c_41) ∧
  0 ≤ (0 : Int) ∧ 0 < ((l_40 : Nat) : Int) ∧ ∃ q_42 : Addr, a_39 = some q_42 ∧
  ∃ x_43 : Int, w4.cell? (q_42.add (0 : Int).toNat) = some (.int .i64 x_43) ∧
  cond ((x_43 : Int) != secret2)
  (R (.tuple #[.slice none 0 0, .int .i64 3]) w4)
  (trystref10_Arena_Unbox.c1 R a0 box1 w4))))))

def trystref10_Arena_Unbox.J0 (R : Value → World → Prop) (k : Nat) (fr : Fr) (w : World) : Prop :=
  cond (Nat.beq k 1) (dec [(0, .ptr), (1, (.int .i64))] fr fun x => trystref10_Arena_Unbox.c1 R x.1 x.2 w) (False)

set_option maxRecDepth 100000 in
theorem trystref10_Arena_Unbox.lift {R : Value → World → Prop} {a0 : Option Addr} {box1 : Int} {secret2 : Int} {w : World} (h : trystref10_Arena_Unbox.main R a0 box1 secret2 w) : CallsV Tryd.prog n_trystref10_Arena_Unbox #[.pointer a0, .int .i64 box1, .int .i64 secret2] w R :=
  liftCalls (c := (.seq (.leaf (cL (bd Tryd.f117))) (.seq (.seq (.leaf (cL (cL (cR (bd Tryd.f117))))) (.cnd (.tmp 14) (.seq (.leaf (cL (cT (cR (cL (cR (bd Tryd.f117))))))) (.leaf (cR (cT (cR (cL (cR (bd Tryd.f117)))))))) (.leaf (cE (cR (cL (cR (bd Tryd.f117)))))))) (.seq (.seq (.leaf (cL (cL (cR (cR (bd Tryd.f117)))))) (.cnd (.tmp 23) (.seq (.leaf (cL (cT (cR (cL (cR (cR (bd Tryd.f117)))))))) (.leaf (cR (cT (cR (cL (cR (cR (bd Tryd.f117))))))))) (.leaf (cE (cR (cL (cR (cR (bd Tryd.f117))))))))) (.seq (.leaf (cL (cR (cR (cR (bd Tryd.f117)))))) (.seq (.seq (.leaf (cL (cL (cR (cR (cR (cR (bd Tryd.f117)))))))) (.cnd (.tmp 50) (.seq (.leaf (cL (cT (cR (cL (cR (cR (cR (cR (bd Tryd.f117)))))))))) (.leaf (cR (cT (cR (cL (cR (cR (cR (cR (bd Tryd.f117))))))))))) (.leaf (cE (cR (cL (cR (cR (cR (cR (bd Tryd.f117))))))))))) (.cut 1 (.seq (.leaf (cL (cR (cR (cR (cR (cR (bd Tryd.f117)))))))) (.leaf (cR (cR (cR (cR (cR (cR (bd Tryd.f117)))))))))))))))) (J := trystref10_Arena_Unbox.J0 R) LfYtoclhecldmahiaaDoor.mixed Tryd.func117 (by kernel_rfl) (by kernel_rfl) (mkSeq (mkSeq (mkSeq (mkSeq (mkSeq (mkCut (cutDef [(0, .ptr), (1, (.int .i64))] (fun x w => trystref10_Arena_Unbox.c1 R x.1 x.2 w) (fun _ _ => by kernel_rfl) (fun _ _ => by kernel_rfl)) (mkSeq mkLeaf mkLeaf)) (mkSeq (mkCnd (mkSeq mkLeaf mkLeaf) mkLeaf) mkLeaf)) mkLeaf) (mkSeq (mkCnd (mkSeq mkLeaf mkLeaf) mkLeaf) mkLeaf)) (mkSeq (mkCnd (mkSeq mkLeaf mkLeaf) mkLeaf) mkLeaf)) mkLeaf) (kcast (by kernel_rfl) h)

/-! trystref10_Arena_Open -/
def trystref10_Arena_Open.main (R : Value → World → Prop) (a0 : Option Addr) (seal1 : Int) (key2 : Int) (w : World) : Prop :=
  let w1 := w.alloc (.cells #[.int .i64 seal1, .int .i64 key2] 3);
  CallsV Tryd.prog n_trystref10_Arena_Has #[.pointer a0, .slice (some (newA w)) 2 2] w1 (fun v_1 w2 =>
  ∃ b_2 : Bool, v_1 = .bool b_2 ∧
  cond (!b_2)
  (R (.tuple #[.slice none 0 0, .int .i64 8]) w2)
  (∃ q_3 : Addr, a0 = some q_3 ∧
  ∃ (a_4 : Option Addr) (l_5 c_6 : Nat), w2.cell? q_3 = some (.slice a_4 l_5 c_6) ∧
  0 ≤ (seal1 : Int) ∧ seal1 < ((l_5 : Nat) : Int) ∧ ∃ q_7 : Addr, a_4 = some q_7 ∧
  ∃ x_8 : Int, w2.cell? (q_7.add ((seal1 : Int).toNat * 3)) = some (.int .i64 x_8) ∧
  cond ((x_8 : Int) != 6)
  (R (.tuple #[.slice none 0 0, .int .i64 6]) w2)
  (∃ q_9 : Addr, a0 = some q_9 ∧
  ∃ (a_10 : Option Addr) (l_11 c_12 : Nat), w2.cell? q_9 = some (.slice a_10 l_11 c_12) ∧
  0 ≤ (seal1 : Int) ∧ seal1 < ((l_11 : Nat) : Int) ∧ ∃ q_13 : Addr, a_10 = some q_13 ∧
  ∃ (a_14 : Option Addr) (l_15 c_16 : Nat), w2.cell? ((q_13.add ((seal1 : Int).toNat * 3)).add 2) = some (.slice a_14 l_15 c_16) ∧
  0 ≤ (0 : Int) ∧ 0 < ((l_15 : Nat) : Int) ∧ ∃ q_17 : Addr, a_14 = some q_17 ∧
  ∃ x_18 : Int, w2.cell? (q_17.add (0 : Int).toNat) = some (.int .i64 x_18) ∧
  cond ((x_18 : Int) != key2)
  (R (.tuple #[.slice none 0 0, .int .i64 3]) w2)
  (∃ q_19 : Addr, a0 = some q_19 ∧
  ∃ (a_20 : Option Addr) (l_21 c_22 : Nat), w2.cell? q_19 = some (.slice a_20 l_21 c_22) ∧
  0 ≤ (seal1 : Int) ∧ seal1 < ((l_21 : Nat) : Int) ∧ ∃ q_23 : Addr, a_20 = some q_23 ∧
  ∃ (a_24 : Option Addr) (l_25 c_26 : Nat), w2.cell? ((q_23.add ((seal1 : Int).toNat * 3)).add 2) = some (.slice a_24 l_25 c_26) ∧
  0 ≤ (1 : Int) ∧ (1 : Int) ≤ ((l_25 : Nat) : Int) ∧ (((l_25 : Nat) : Int) : Int) ≤ ((c_26 : Nat) : Int) ∧ (((c_26 : Nat) : Int) : Int) ≤ ((c_26 : Nat) : Int) ∧
  R (.tuple #[.slice (if ((((c_26 : Nat) : Int) : Int)).toNat = ((1 : Int)).toNat then a_24 else (a_24).map (·.add ((1 : Int)).toNat)) (((((l_25 : Nat) : Int) : Int)).toNat - ((1 : Int)).toNat) (((((c_26 : Nat) : Int) : Int)).toNat - ((1 : Int)).toNat), .int .i64 0]) w2))))

def trystref10_Arena_Open.J0 (_ : Value → World → Prop) (_ : Nat) (_ : Fr) (_ : World) : Prop := False

set_option maxRecDepth 100000 in
theorem trystref10_Arena_Open.lift {R : Value → World → Prop} {a0 : Option Addr} {seal1 : Int} {key2 : Int} {w : World} (h : trystref10_Arena_Open.main R a0 seal1 key2 w) : CallsV Tryd.prog n_trystref10_Arena_Open #[.pointer a0, .int .i64 seal1, .int .i64 key2] w R :=
  liftCalls (c := (.seq (.leaf (cL (bd Tryd.f118))) (.seq (.seq (.leaf (cL (cL (cR (bd Tryd.f118))))) (.cnd (.tmp 13) (.seq (.leaf (cL (cT (cR (cL (cR (bd Tryd.f118))))))) (.leaf (cR (cT (cR (cL (cR (bd Tryd.f118)))))))) (.leaf (cE (cR (cL (cR (bd Tryd.f118)))))))) (.seq (.seq (.leaf (cL (cL (cR (cR (bd Tryd.f118)))))) (.cnd (.tmp 22) (.seq (.leaf (cL (cT (cR (cL (cR (cR (bd Tryd.f118)))))))) (.leaf (cR (cT (cR (cL (cR (cR (bd Tryd.f118))))))))) (.leaf (cE (cR (cL (cR (cR (bd Tryd.f118))))))))) (.seq (.seq (.leaf (cL (cL (cR (cR (cR (bd Tryd.f118))))))) (.cnd (.tmp 34) (.seq (.leaf (cL (cT (cR (cL (cR (cR (cR (bd Tryd.f118))))))))) (.leaf (cR (cT (cR (cL (cR (cR (cR (bd Tryd.f118)))))))))) (.leaf (cE (cR (cL (cR (cR (cR (bd Tryd.f118)))))))))) (.seq (.leaf (cL (cR (cR (cR (cR (bd Tryd.f118))))))) (.leaf (cR (cR (cR (cR (cR (bd Tryd.f118))))))))))))) (J := trystref10_Arena_Open.J0 R) LfYtoclhecldmahiaaDoor.mixed Tryd.func118 (by kernel_rfl) (by kernel_rfl) (mkSeq (mkSeq (mkSeq (mkSeq (mkSeq mkLeaf mkLeaf) (mkSeq (mkCnd (mkSeq mkLeaf mkLeaf) mkLeaf) mkLeaf)) (mkSeq (mkCnd (mkSeq mkLeaf mkLeaf) mkLeaf) mkLeaf)) (mkSeq (mkCnd (mkSeq mkLeaf mkLeaf) mkLeaf) mkLeaf)) mkLeaf) (kcast (by kernel_rfl) h)

/-! trystkeep_SpoilInts -/
def trystkeep_SpoilInts.b1 (R : Value → World → Prop) (N1 : Sl → Int → World → Prop) (l0 : Sl) (i2 : Int) (w : World) : Prop :=
  cond (decide ((i2 : Int) < ((l0.len : Nat) : Int)))
  (0 ≤ (i2 : Int) ∧ i2 < ((l0.len : Nat) : Int) ∧ ∃ q_1 : Addr, l0.a = some q_1 ∧
  Wr w (q_1.add (i2 : Int).toNat) ∧
  (let w1 := w.setCell (q_1.add (i2 : Int).toNat) (.int .i64 (-7777));
  (let i2_1 : Int := (IntKind.i64.wrap (i2 + 1));
  N1 l0 i2_1 w1)))
  (R (.tuple #[]) w)

def trystkeep_SpoilInts.l1 (R : Value → World → Prop) (l0 : Sl) (i2 : Int) (w : World) : Prop :=
  ∃ (I : Int → World → Prop) (μ : Int → World → Nat), I i2 w ∧ ∀ s w, I s w → trystkeep_SpoilInts.b1 R (fun l0' i2' w' => (l0' = l0 ∧ I i2' w') ∧ μ i2' w' < μ s w) l0 s w

def trystkeep_SpoilInts.main (R : Value → World → Prop) (l0 : Sl) (w : World) : Prop :=
  trystkeep_SpoilInts.l1 R l0 0 w

def trystkeep_SpoilInts.J0 (R : Value → World → Prop) (k : Nat) (fr : Fr) (w : World) : Prop :=
  cond (Nat.beq k 1) (dec [(0, .slice), (2, (.int .i64))] fr fun x => trystkeep_SpoilInts.l1 R x.1 x.2 w) (False)

set_option maxRecDepth 100000 in
theorem trystkeep_SpoilInts.lift {R : Value → World → Prop} {l0 : Sl} {w : World} (h : trystkeep_SpoilInts.main R l0 w) : CallsV Tryd.prog n_trystkeep_SpoilInts #[.slice l0.a l0.len l0.cap] w R :=
  liftCalls (c := (.seq (.leaf (cL (bd Tryd.f119))) (.block 0 (.loop 1 (.seq (.seq (.leaf (cL (cL (cB (cB (cR (bd Tryd.f119))))))) (.cnd (.tmp 6) (.leaf (cT (cR (cL (cB (cB (cR (bd Tryd.f119)))))))) (.leaf (cE (cR (cL (cB (cB (cR (bd Tryd.f119)))))))))) (.seq (.block 1 (.leaf (cB (cL (cR (cB (cB (cR (bd Tryd.f119))))))))) (.leaf (cR (cR (cB (cB (cR (bd Tryd.f119))))))))))))) (J := trystkeep_SpoilInts.J0 R) LfYtoclhecldmahiaaDoor.mixed Tryd.func119 (by kernel_rfl) (by kernel_rfl) (mkSeq (mkBlock (mkLoop (loopDef LfYtoclhecldmahiaaDoor.mixed [(0, .slice), (2, (.int .i64))] (by kernel_rfl) (fun M1 x w => trystkeep_SpoilInts.b1 R (fun y0 y1 w => M1 (y0, y1) w) x.1 x.2 w) (fun M1 => fun _ _ _ => False) (fun _ _ _ => by kernel_rfl) (fun M1 => (mkSeq (mkSeq mkLeaf (mkBlock mkLeaf)) (mkSeq (mkCnd mkLeaf mkLeaf) mkLeaf))) (fun x w => trystkeep_SpoilInts.l1 R x.1 x.2 w) (by rintro ⟨c0, s0⟩ w ⟨I, μ, h0, h1⟩; refine ⟨fun y w => y.1 = c0 ∧ I y.2 w, fun y w => μ y.2 w, ⟨rfl, h0⟩, ?_⟩; rintro ⟨d0, t0⟩ w ⟨e0, hI⟩; dsimp only at e0 hI; subst e0; exact h1 _ _ hI) (fun _ _ => by kernel_rfl)))) mkLeaf) (kcast (by kernel_rfl) h)

/-! term_Arena_Node -/
def term_Arena_Node.main (R : Value → World → Prop) (a0 : Option Addr) (i1 : Int) (w : World) : Prop :=
  let w1 := w.alloc (.cells #[.int .i64 0, .int .i64 0, .slice none 0 0] 98);
  let w2 := w1.alloc (.cells #[.int .i64 i1] 3);
  CallsV Tryd.prog n_term_Arena_Has #[.pointer a0, .slice (some (newA w1)) 1 1] w2 (fun v_1 w3 =>
  ∃ b_2 : Bool, v_1 = .bool b_2 ∧
  cond (!b_2)
  ((∀ j, j < 3 → Wr w3 ((newA w).add j)) ∧
  (let w4 := setCells (newA w) [.int .i64 0, .int .i64 0, .slice none 0 0] 0 w3;
  ∃ x_3 : Int, w4.cell? (newA w) = some (.int .i64 x_3) ∧
  ∃ x_4 : Int, w4.cell? ((newA w).add 1) = some (.int .i64 x_4) ∧
  ∃ (a_5 : Option Addr) (l_6 c_7 : Nat), w4.cell? ((newA w).add 2) = some (.slice a_5 l_6 c_7) ∧
  R (.tuple #[.agg #[.int .i64 x_3, .int .i64 x_4, .slice a_5 l_6 c_7], .int .i64 8]) w4))
  (∃ q_8 : Addr, a0 = some q_8 ∧
  ∃ (a_9 : Option Addr) (l_10 c_11 : Nat), w3.cell? q_8 = some (.slice a_9 l_10 c_11) ∧
  0 ≤ (i1 : Int) ∧ i1 < ((l_10 : Nat) : Int) ∧ ∃ q_12 : Addr, a_9 = some q_12 ∧
  ∃ x_13 : Int, w3.cell? (q_12.add ((i1 : Int).toNat * 3)) = some (.int .i64 x_13) ∧
  ∃ x_14 : Int, w3.cell? ((q_12.add ((i1 : Int).toNat * 3)).add 1) = some (.int .i64 x_14) ∧
  ∃ (a_15 : Option Addr) (l_16 c_17 : Nat), w3.cell? ((q_12.add ((i1 : Int).toNat * 3)).add 2) = some (.slice a_15 l_16 c_17) ∧
  let w5 := w3.alloc (.cells #[.int .i64 0, .int .i64 0, .slice none 0 0] 98);
  (∀ j, j < 3 → Wr w5 ((newA w3).add j)) ∧
  (let w6 := setCells (newA w3) [.int .i64 x_13, .int .i64 x_14, .slice a_15 l_16 c_17] 0 w5;
  ∃ (a_18 : Option Addr) (l_19 c_20 : Nat), w6.cell? ((newA w3).add 2) = some (.slice a_18 l_19 c_20) ∧
  CallsV Tryd.prog n_slices_Clone_int #[.slice a_18 l_19 c_20] w6 (fun v_21 w7 =>
  ∃ (a_22 : Option Addr) (l_23 c_24 : Nat), v_21 = .slice a_22 l_23 c_24 ∧
  Wr w7 ((newA w3).add 2) ∧
  (let w8 := w7.setCell ((newA w3).add 2) (.slice a_22 l_23 c_24);
  ∃ x_25 : Int, w8.cell? (newA w3) = some (.int .i64 x_25) ∧
  ∃ x_26 : Int, w8.cell? ((newA w3).add 1) = some (.int .i64 x_26) ∧
  ∃ (a_27 : Option Addr) (l_28 c_29 : Nat), w8.cell? ((newA w3).add 2) = some (.slice a_27 l_28 c_29) ∧
  (∀ j, j < 3 → Wr w8 ((newA w).add j)) ∧
  (let w9 := setCells (newA w) [.int .i64 x_25, .int .i64 x_26, .slice a_27 l_28 c_29] 0 w8;
  ∃ x_30 : Int, w9.cell? (newA w) = some (.int .i64 x_30) ∧
  ∃ x_31 : Int, w9.cell? ((newA w).add 1) = some (.int .i64 x_31) ∧
  ∃ (a_32 : Option Addr) (l_33 c_34 : Nat), w9.cell? ((newA w).add 2) = some (.slice a_32 l_33 c_34) ∧
  R (.tuple #[.agg #[.int .i64 x_30, .int .i64 x_31, .slice a_32 l_33 c_34], .int .i64 0]) w9))))))

def term_Arena_Node.J0 (_ : Value → World → Prop) (_ : Nat) (_ : Fr) (_ : World) : Prop := False

set_option maxRecDepth 100000 in
theorem term_Arena_Node.lift {R : Value → World → Prop} {a0 : Option Addr} {i1 : Int} {w : World} (h : term_Arena_Node.main R a0 i1 w) : CallsV Tryd.prog n_term_Arena_Node #[.pointer a0, .int .i64 i1] w R :=
  liftCalls (c := (.seq (.leaf (cL (bd Tryd.f127))) (.seq (.seq (.leaf (cL (cL (cR (bd Tryd.f127))))) (.cnd (.tmp 11) (.seq (.leaf (cL (cT (cR (cL (cR (bd Tryd.f127))))))) (.leaf (cR (cT (cR (cL (cR (bd Tryd.f127)))))))) (.leaf (cE (cR (cL (cR (bd Tryd.f127)))))))) (.seq (.leaf (cL (cR (cR (bd Tryd.f127))))) (.seq (.leaf (cL (cR (cR (cR (bd Tryd.f127)))))) (.seq (.leaf (cL (cR (cR (cR (cR (bd Tryd.f127))))))) (.leaf (cR (cR (cR (cR (cR (bd Tryd.f127))))))))))))) (J := term_Arena_Node.J0 R) LfYtoclhecldmahiaaDoor.mixed Tryd.func127 (by kernel_rfl) (by kernel_rfl) (mkSeq (mkSeq (mkSeq (mkSeq (mkSeq mkLeaf mkLeaf) mkLeaf) mkLeaf) (mkSeq (mkCnd (mkSeq mkLeaf mkLeaf) mkLeaf) mkLeaf)) mkLeaf) (kcast (by kernel_rfl) h)

/-! trystref10_count -/
def trystref10_count.c1 (R : Value → World → Prop) (n1 : Int) (t7 : Int) (t18 : Bool) (w : World) : Prop :=
  cond t18
  ((let t4_0 : Bool := (decide ((n1 : Int) ≥ 1));
  R (.bool t4_0) w))
  (cond ((t7 : Int) == 7)
  ((let t4_1 : Bool := (decide ((n1 : Int) ≥ 2));
  R (.bool t4_1) w))
  (R (.bool true) w))

def trystref10_count.c2 (R : Value → World → Prop) (n1 : Int) (t7 : Int) (t13 : Bool) (w : World) : Prop :=
  cond t13
  (R (.bool ((n1 : Int) == 1)) w)
  (cond ((t7 : Int) == 6)
  (trystref10_count.c1 R n1 t7 ((t7 : Int) == 6) w)
  (trystref10_count.c1 R n1 t7 ((t7 : Int) == 8) w))

def trystref10_count.c3 (R : Value → World → Prop) (n1 : Int) (t7 : Int) (t8 : Bool) (w : World) : Prop :=
  cond t8
  (R (.bool ((n1 : Int) == 0)) w)
  (cond ((t7 : Int) == 4)
  (trystref10_count.c2 R n1 t7 ((t7 : Int) == 4) w)
  (trystref10_count.c2 R n1 t7 ((t7 : Int) == 5) w))

def trystref10_count.main (R : Value → World → Prop) (kind0 : Int) (n1 : Int) (w : World) : Prop :=
  cond (decide ((n1 : Int) > 400))
  (R (.bool false) w)
  (cond ((kind0 : Int) == 1)
  (trystref10_count.c3 R n1 kind0 ((kind0 : Int) == 1) w)
  (trystref10_count.c3 R n1 kind0 ((kind0 : Int) == 2) w))

def trystref10_count.J0 (R : Value → World → Prop) (k : Nat) (fr : Fr) (w : World) : Prop :=
  cond (Nat.beq k 3) (dec [(1, (.int .i64)), (7, (.int .i64)), (8, .bool)] fr fun x => trystref10_count.c3 R x.1 x.2.1 x.2.2 w) (cond (Nat.beq k 2) (dec [(1, (.int .i64)), (7, (.int .i64)), (13, .bool)] fr fun x => trystref10_count.c2 R x.1 x.2.1 x.2.2 w) (cond (Nat.beq k 1) (dec [(1, (.int .i64)), (7, (.int .i64)), (18, .bool)] fr fun x => trystref10_count.c1 R x.1 x.2.1 x.2.2 w) (False)))

set_option maxRecDepth 100000 in
theorem trystref10_count.lift {R : Value → World → Prop} {kind0 : Int} {n1 : Int} {w : World} (h : trystref10_count.main R kind0 n1 w) : CallsV Tryd.prog n_trystref10_count #[.int .i64 kind0, .int .i64 n1] w R :=
  liftCalls (c := (.seq (.leaf (cL (bd Tryd.f135))) (.seq (.seq (.leaf (cL (cL (cR (bd Tryd.f135))))) (.cnd (.tmp 6) (.seq (.leaf (cL (cT (cR (cL (cR (bd Tryd.f135))))))) (.leaf (cR (cT (cR (cL (cR (bd Tryd.f135)))))))) (.leaf (cE (cR (cL (cR (bd Tryd.f135)))))))) (.seq (.seq (.leaf (cL (cL (cR (cR (bd Tryd.f135)))))) (.block 0 (.seq (.seq (.leaf (cL (cL (cB (cR (cL (cR (cR (bd Tryd.f135))))))))) (.cnd (.tmp 8) (.leaf (cT (cR (cL (cB (cR (cL (cR (cR (bd Tryd.f135)))))))))) (.leaf (cE (cR (cL (cB (cR (cL (cR (cR (bd Tryd.f135)))))))))))) (.cut 3 (.cnd (.tmp 8) (.seq (.leaf (cL (cT (cR (cB (cR (cL (cR (cR (bd Tryd.f135)))))))))) (.leaf (cR (cT (cR (cB (cR (cL (cR (cR (bd Tryd.f135))))))))))) (.seq (.seq (.leaf (cL (cL (cE (cR (cB (cR (cL (cR (cR (bd Tryd.f135))))))))))) (.cnd (.tmp 13) (.leaf (cT (cR (cL (cE (cR (cB (cR (cL (cR (cR (bd Tryd.f135)))))))))))) (.leaf (cE (cR (cL (cE (cR (cB (cR (cL (cR (cR (bd Tryd.f135)))))))))))))) (.cut 2 (.cnd (.tmp 13) (.seq (.leaf (cL (cT (cR (cE (cR (cB (cR (cL (cR (cR (bd Tryd.f135)))))))))))) (.leaf (cR (cT (cR (cE (cR (cB (cR (cL (cR (cR (bd Tryd.f135))))))))))))) (.seq (.seq (.leaf (cL (cL (cE (cR (cE (cR (cB (cR (cL (cR (cR (bd Tryd.f135))))))))))))) (.cnd (.tmp 18) (.leaf (cT (cR (cL (cE (cR (cE (cR (cB (cR (cL (cR (cR (bd Tryd.f135)))))))))))))) (.leaf (cE (cR (cL (cE (cR (cE (cR (cB (cR (cL (cR (cR (bd Tryd.f135)))))))))))))))) (.cut 1 (.cnd (.tmp 18) (.seq (.leaf (cL (cT (cR (cE (cR (cE (cR (cB (cR (cL (cR (cR (bd Tryd.f135)))))))))))))) (.leaf (cR (cT (cR (cE (cR (cE (cR (cB (cR (cL (cR (cR (bd Tryd.f135))))))))))))))) (.seq (.leaf (cL (cE (cR (cE (cR (cE (cR (cB (cR (cL (cR (cR (bd Tryd.f135)))))))))))))) (.cnd (.tmp 23) (.seq (.leaf (cL (cT (cR (cE (cR (cE (cR (cE (cR (cB (cR (cL (cR (cR (bd Tryd.f135)))))))))))))))) (.leaf (cR (cT (cR (cE (cR (cE (cR (cE (cR (cB (cR (cL (cR (cR (bd Tryd.f135))))))))))))))))) (.leaf (cE (cR (cE (cR (cE (cR (cE (cR (cB (cR (cL (cR (cR (bd Tryd.f135)))))))))))))))))))))))))))) (.seq (.leaf (cL (cR (cR (cR (bd Tryd.f135)))))) (.leaf (cR (cR (cR (cR (bd Tryd.f135))))))))))) (J := trystref10_count.J0 R) LfYtoclhecldmahiaaDoor.mixed Tryd.func135 (by kernel_rfl) (by kernel_rfl) (mkSeq (mkSeq (mkSeq (mkSeq mkLeaf mkLeaf) (mkSeq (mkBlock (mkSeq (mkCut (cutDef [(1, (.int .i64)), (7, (.int .i64)), (8, .bool)] (fun x w => trystref10_count.c3 R x.1 x.2.1 x.2.2 w) (fun _ _ => by kernel_rfl) (fun _ _ => by kernel_rfl)) (mkCnd (mkSeq mkLeaf mkLeaf) (mkSeq (mkCut (cutDef [(1, (.int .i64)), (7, (.int .i64)), (13, .bool)] (fun x w => trystref10_count.c2 R x.1 x.2.1 x.2.2 w) (fun _ _ => by kernel_rfl) (fun _ _ => by kernel_rfl)) (mkCnd (mkSeq mkLeaf mkLeaf) (mkSeq (mkCut (cutDef [(1, (.int .i64)), (7, (.int .i64)), (18, .bool)] (fun x w => trystref10_count.c1 R x.1 x.2.1 x.2.2 w) (fun _ _ => by kernel_rfl) (fun _ _ => by kernel_rfl)) (mkCnd (mkSeq mkLeaf mkLeaf) (mkSeq (mkCnd (mkSeq mkLeaf mkLeaf) mkLeaf) mkLeaf))) (mkSeq (mkCnd mkLeaf mkLeaf) mkLeaf)))) (mkSeq (mkCnd mkLeaf mkLeaf) mkLeaf)))) (mkSeq (mkCnd mkLeaf mkLeaf) mkLeaf))) mkLeaf)) (mkSeq (mkCnd (mkSeq mkLeaf mkLeaf) mkLeaf) mkLeaf)) mkLeaf) (kcast (by kernel_rfl) h)

/-! trystkeep_Term -/
def trystkeep_Term.main (R : Value → World → Prop) (a0_0 : Int) (a0_1 : Int) (a0_2 : Sl) (b1_0 : Int) (b1_1 : Int) (b1_2 : Sl) (w : World) : Prop :=
  let w1 := w.alloc (.cells #[.int .i64 a0_0, .int .i64 a0_1, .slice a0_2.a a0_2.len a0_2.cap] 98);
  let w2 := w1.alloc (.cells #[.int .i64 b1_0, .int .i64 b1_1, .slice b1_2.a b1_2.len b1_2.cap] 98);
  ∃ x_1 : Int, w2.cell? (newA w) = some (.int .i64 x_1) ∧
  ∃ x_2 : Int, w2.cell? (newA w1) = some (.int .i64 x_2) ∧
  cond ((x_1 : Int) == x_2)
  (∃ x_3 : Int, w2.cell? ((newA w).add 1) = some (.int .i64 x_3) ∧
  ∃ x_4 : Int, w2.cell? ((newA w1).add 1) = some (.int .i64 x_4) ∧
  cond ((x_3 : Int) == x_4)
  (∃ (a_5 : Option Addr) (l_6 c_7 : Nat), w2.cell? ((newA w).add 2) = some (.slice a_5 l_6 c_7) ∧
  ∃ (a_8 : Option Addr) (l_9 c_10 : Nat), w2.cell? ((newA w1).add 2) = some (.slice a_8 l_9 c_10) ∧
  CallsV Tryd.prog n_trystkeep_Ints #[.slice a_5 l_6 c_7, .slice a_8 l_9 c_10] w2 (fun v_11 w3 =>
  ∃ b_12 : Bool, v_11 = .bool b_12 ∧
  R (.bool b_12) w3))
  (R (.bool false) w2))
  (R (.bool false) w2)

def trystkeep_Term.J0 (_ : Value → World → Prop) (_ : Nat) (_ : Fr) (_ : World) : Prop := False

set_option maxRecDepth 100000 in
theorem trystkeep_Term.lift {R : Value → World → Prop} {a0_0 : Int} {a0_1 : Int} {a0_2 : Sl} {b1_0 : Int} {b1_1 : Int} {b1_2 : Sl} {w : World} (h : trystkeep_Term.main R a0_0 a0_1 a0_2 b1_0 b1_1 b1_2 w) : CallsV Tryd.prog n_trystkeep_Term #[.agg #[.int .i64 a0_0, .int .i64 a0_1, .slice a0_2.a a0_2.len a0_2.cap], .agg #[.int .i64 b1_0, .int .i64 b1_1, .slice b1_2.a b1_2.len b1_2.cap]] w R :=
  liftCalls (c := (.seq (.leaf (cL (bd Tryd.f136))) (.seq (.leaf (cL (cR (bd Tryd.f136)))) (.leaf (cR (cR (bd Tryd.f136))))))) (J := trystkeep_Term.J0 R) LfYtoclhecldmahiaaDoor.mixed Tryd.func136 (by kernel_rfl) (by kernel_rfl) (mkSeq (mkSeq mkLeaf mkLeaf) mkLeaf) (kcast (by kernel_rfl) h)

end Go.Proofs.YtoclhecldmahiaaDoor
