/-
  What the code of these functions comes to, and that it suffices for the call. Written by a program of ours, for this claim.
-/
import Derived.Test.YtledhokhcoeeeaaDoorDiFns
set_option linter.unusedVariables false
set_option linter.unusedVariables false
namespace Go.Proofs.YtledhokhcoeeeaaDoor
open Go.Lf
abbrev n_store_Open : Nat := 9
abbrev n_trystkeep_Twin : Nat := 10
abbrev n_store_Store_Save : Nat := 11
abbrev n_trystkeep_SpoilBytes : Nat := 12
abbrev n_store_Store_State : Nat := 13
abbrev n_trystlaw14_wakes : Nat := 15
abbrev n_store_Store_last : Nat := 24
abbrev n_store_Store_read : Nat := 25
abbrev n_store_number : Nat := 26
abbrev n_store_Store_save : Nat := 27
abbrev n_store_wrap : Nat := 31
abbrev n_errors_Is : Nat := 32
abbrev n_store_low : Nat := 33
abbrev n_store_place : Nat := 34
abbrev n_errors_As : Nat := 35
abbrev n_store_mark_sector : Nat := 38
/-! store_Open -/
def store_Open.c1 (R : Value → World → Prop) (s4 : Option Addr) (err6 : Value) (w : World) : Prop :=
  ∃ b_1 : Bool, nilB err6 = some b_1 ∧
  cond (!b_1)
  (CallsV Tryd.prog n_store_number #[err6] w (fun v_2 w1 =>
  ∃ x_3 : Int, v_2 = .int .i64 x_3 ∧
  R (.tuple #[.pointer none, .int .i64 x_3]) w1))
  (R (.tuple #[.pointer s4, .int .i64 0]) w)

def store_Open.main (R : Value → World → Prop) (d0 : Option Addr) (w : World) : Prop :=
  CallsV Tryd.prog n_disk_Disk_Off #[.pointer d0] w (fun v_4 w2 =>
  ∃ b_5 : Bool, v_4 = .bool b_5 ∧
  cond b_5
  (R (.tuple #[.pointer none, .int .i64 9]) w2)
  (CallsV Tryd.prog n_disk_Disk_Sectors #[.pointer d0] w2 (fun v_6 w3 =>
  ∃ x_7 : Int, v_6 = .int .i64 x_7 ∧
  (let t10_7 : Bool := (decide ((x_7 : Int) < 300));
  cond t10_7
  (R (.tuple #[.pointer none, .int .i64 7]) w3)
  (let w4 := w3.alloc (.cells #[.pointer d0, .slice none 0 0] 61);
  CallsV Tryd.prog n_store_Store_last #[.pointer (some (newA w3))] w4 (fun v_9 w5 =>
  ∃ x_10 : Int, ∃ x_11 : Int, ∃ v_12 : Value, v_9 = .tuple #[.agg #[.int .u64 x_10, .int .i64 x_11], v_12] ∧
  let w6 := w5.alloc (.cells #[.int .u64 0, .int .i64 0] 64);
  (∀ j, j < 2 → Wr w6 ((newA w5).add j)) ∧
  (let w7 := setCells (newA w5) [.int .u64 x_10, .int .i64 x_11] 0 w6;
  ∃ b_13 : Bool, nilB v_12 = some b_13 ∧
  cond b_13
  (∃ x_14 : Int, w7.cell? (newA w5) = some (.int .u64 x_14) ∧
  ∃ x_15 : Int, w7.cell? ((newA w5).add 1) = some (.int .i64 x_15) ∧
  CallsV Tryd.prog n_store_Store_read #[.pointer (some (newA w3)), .agg #[.int .u64 x_14, .int .i64 x_15]] w7 (fun v_16 w8 =>
  ∃ (a_17 : Option Addr) (l_18 c_19 : Nat), ∃ v_20 : Value, v_16 = .tuple #[.slice a_17 l_18 c_19, v_20] ∧
  ∃ q_21 : Addr, some (newA w3) = some q_21 ∧
  Wr w8 (q_21.add 1) ∧
  (let w9 := w8.setCell (q_21.add 1) (.slice a_17 l_18 c_19);
  store_Open.c1 R (some (newA w3)) v_20 w9)))
  (store_Open.c1 R (some (newA w3)) v_12 w7))))))))

def store_Open.J0 (R : Value → World → Prop) (k : Nat) (fr : Fr) (w : World) : Prop :=
  cond (Nat.beq k 1) (dec [(4, .ptr), (6, .any)] fr fun x => store_Open.c1 R x.1 x.2 w) (False)

set_option maxRecDepth 100000 in
theorem store_Open.lift {R : Value → World → Prop} {d0 : Option Addr} {w : World} (h : store_Open.main R d0 w) : CallsV Tryd.prog n_store_Open #[.pointer d0] w R :=
  liftCalls (c := (.seq (.leaf (cL (bd Tryd.f9))) (.seq (.block 0 (.seq (.leaf (cL (cB (cL (cR (bd Tryd.f9)))))) (.cnd (.tmp 7) (.seq (.leaf (cL (cT (cR (cB (cL (cR (bd Tryd.f9)))))))) (.leaf (cR (cT (cR (cB (cL (cR (bd Tryd.f9))))))))) (.seq (.leaf (cL (cE (cR (cB (cL (cR (bd Tryd.f9)))))))) (.cnd (.tmp 10) (.seq (.leaf (cL (cT (cR (cE (cR (cB (cL (cR (bd Tryd.f9)))))))))) (.leaf (cR (cT (cR (cE (cR (cB (cL (cR (bd Tryd.f9))))))))))) (.leaf (cE (cR (cE (cR (cB (cL (cR (bd Tryd.f9)))))))))))))) (.seq (.leaf (cL (cR (cR (bd Tryd.f9))))) (.seq (.leaf (cL (cR (cR (cR (bd Tryd.f9)))))) (.seq (.seq (.leaf (cL (cL (cR (cR (cR (cR (bd Tryd.f9)))))))) (.cnd (.tmp 23) (.leaf (cT (cR (cL (cR (cR (cR (cR (bd Tryd.f9))))))))) (.leaf (cE (cR (cL (cR (cR (cR (cR (bd Tryd.f9))))))))))) (.cut 1 (.seq (.seq (.leaf (cL (cL (cR (cR (cR (cR (cR (bd Tryd.f9))))))))) (.cnd (.tmp 34) (.seq (.leaf (cL (cT (cR (cL (cR (cR (cR (cR (cR (bd Tryd.f9))))))))))) (.leaf (cR (cT (cR (cL (cR (cR (cR (cR (cR (bd Tryd.f9)))))))))))) (.leaf (cE (cR (cL (cR (cR (cR (cR (cR (bd Tryd.f9)))))))))))) (.seq (.leaf (cL (cR (cR (cR (cR (cR (cR (bd Tryd.f9))))))))) (.leaf (cR (cR (cR (cR (cR (cR (cR (bd Tryd.f9)))))))))))))))))) (J := store_Open.J0 R) LfYtledhokhcoeeeaaDoor.mixed Tryd.func9 (by kernel_rfl) (by kernel_rfl) (mkSeq (mkSeq (mkSeq (mkSeq (mkSeq (mkCut (cutDef [(4, .ptr), (6, .any)] (fun x w => store_Open.c1 R x.1 x.2 w) (fun _ _ => by kernel_rfl) (fun _ _ => by kernel_rfl)) (mkSeq (mkSeq mkLeaf mkLeaf) (mkSeq (mkCnd (mkSeq mkLeaf mkLeaf) mkLeaf) mkLeaf))) (mkSeq (mkCnd mkLeaf mkLeaf) mkLeaf)) mkLeaf) mkLeaf) (mkBlock (mkSeq (mkCnd (mkSeq mkLeaf mkLeaf) (mkSeq (mkCnd (mkSeq mkLeaf mkLeaf) mkLeaf) mkLeaf)) mkLeaf))) mkLeaf) (kcast (by kernel_rfl) h)

/-! trystkeep_Twin -/
def trystkeep_Twin.main (R : Value → World → Prop) (b0 : Sl) (w : World) : Prop :=
  ∃ (a_1 : Option Addr) (l_2 c_3 : Nat), ∃ w1 : World, (builtin .append #[30, 30] 30 #[] #[.slice none 0 0, .slice b0.a b0.len b0.cap]).run Tryd.prog w = .ok (.value (.slice a_1 l_2 c_3)) w1 ∧
  R (.slice a_1 l_2 c_3) w1

def trystkeep_Twin.J0 (_ : Value → World → Prop) (_ : Nat) (_ : Fr) (_ : World) : Prop := False

set_option maxRecDepth 100000 in
theorem trystkeep_Twin.lift {R : Value → World → Prop} {b0 : Sl} {w : World} (h : trystkeep_Twin.main R b0 w) : CallsV Tryd.prog n_trystkeep_Twin #[.slice b0.a b0.len b0.cap] w R :=
  liftCalls (c := (.seq (.leaf (cL (bd Tryd.f10))) (.seq (.leaf (cL (cR (bd Tryd.f10)))) (.seq (.leaf (cL (cR (cR (bd Tryd.f10))))) (.leaf (cR (cR (cR (bd Tryd.f10))))))))) (J := trystkeep_Twin.J0 R) LfYtledhokhcoeeeaaDoor.mixed Tryd.func10 (by kernel_rfl) (by kernel_rfl) (mkSeq (mkSeq (mkSeq mkLeaf mkLeaf) mkLeaf) mkLeaf) (kcast (by kernel_rfl) h)

/-! store_Store_Save -/
def store_Store_Save.main (R : Value → World → Prop) (s0 : Option Addr) (b1 : Sl) (w : World) : Prop :=
  ∃ q_1 : Addr, s0 = some q_1 ∧
  ∃ p_2 : Option Addr, w.cell? q_1 = some (.pointer p_2) ∧
  CallsV Tryd.prog n_disk_Disk_Off #[.pointer p_2] w (fun v_3 w1 =>
  ∃ b_4 : Bool, v_3 = .bool b_4 ∧
  cond b_4
  (R (.int .i64 9) w1)
  ((let t12_4 : Bool := (decide ((((b1.len : Nat) : Int) : Int) > 8000));
  cond t12_4
  (R (.int .i64 2) w1)
  (CallsV Tryd.prog n_store_Store_save #[.pointer s0, .slice b1.a b1.len b1.cap] w1 (fun v_6 w2 =>
  ∃ v_7 : Value, v_6 = v_7 ∧
  ∃ b_8 : Bool, nilB v_7 = some b_8 ∧
  cond (!b_8)
  (CallsV Tryd.prog n_store_number #[v_7] w2 (fun v_9 w3 =>
  ∃ x_10 : Int, v_9 = .int .i64 x_10 ∧
  R (.int .i64 x_10) w3))
  (CallsV Tryd.prog n_slices_Clone_byte #[.slice b1.a b1.len b1.cap] w2 (fun v_11 w4 =>
  ∃ (a_12 : Option Addr) (l_13 c_14 : Nat), v_11 = .slice a_12 l_13 c_14 ∧
  ∃ q_15 : Addr, s0 = some q_15 ∧
  Wr w4 (q_15.add 1) ∧
  (let w5 := w4.setCell (q_15.add 1) (.slice a_12 l_13 c_14);
  R (.int .i64 0) w5))))))))

def store_Store_Save.J0 (_ : Value → World → Prop) (_ : Nat) (_ : Fr) (_ : World) : Prop := False

set_option maxRecDepth 100000 in
theorem store_Store_Save.lift {R : Value → World → Prop} {s0 : Option Addr} {b1 : Sl} {w : World} (h : store_Store_Save.main R s0 b1 w) : CallsV Tryd.prog n_store_Store_Save #[.pointer s0, .slice b1.a b1.len b1.cap] w R :=
  liftCalls (c := (.seq (.leaf (cL (bd Tryd.f11))) (.seq (.block 0 (.seq (.leaf (cL (cB (cL (cR (bd Tryd.f11)))))) (.cnd (.tmp 6) (.seq (.leaf (cL (cT (cR (cB (cL (cR (bd Tryd.f11)))))))) (.leaf (cR (cT (cR (cB (cL (cR (bd Tryd.f11))))))))) (.seq (.leaf (cL (cE (cR (cB (cL (cR (bd Tryd.f11)))))))) (.cnd (.tmp 12) (.seq (.leaf (cL (cT (cR (cE (cR (cB (cL (cR (bd Tryd.f11)))))))))) (.leaf (cR (cT (cR (cE (cR (cB (cL (cR (bd Tryd.f11))))))))))) (.leaf (cE (cR (cE (cR (cB (cL (cR (bd Tryd.f11)))))))))))))) (.seq (.leaf (cL (cR (cR (bd Tryd.f11))))) (.seq (.seq (.leaf (cL (cL (cR (cR (cR (bd Tryd.f11))))))) (.cnd (.tmp 20) (.seq (.leaf (cL (cT (cR (cL (cR (cR (cR (bd Tryd.f11))))))))) (.leaf (cR (cT (cR (cL (cR (cR (cR (bd Tryd.f11)))))))))) (.leaf (cE (cR (cL (cR (cR (cR (bd Tryd.f11)))))))))) (.seq (.leaf (cL (cR (cR (cR (cR (bd Tryd.f11))))))) (.seq (.leaf (cL (cR (cR (cR (cR (cR (bd Tryd.f11)))))))) (.leaf (cR (cR (cR (cR (cR (cR (bd Tryd.f11))))))))))))))) (J := store_Store_Save.J0 R) LfYtledhokhcoeeeaaDoor.mixed Tryd.func11 (by kernel_rfl) (by kernel_rfl) (mkSeq (mkSeq (mkSeq (mkSeq (mkSeq (mkSeq mkLeaf mkLeaf) mkLeaf) (mkSeq (mkCnd (mkSeq mkLeaf mkLeaf) mkLeaf) mkLeaf)) mkLeaf) (mkBlock (mkSeq (mkCnd (mkSeq mkLeaf mkLeaf) (mkSeq (mkCnd (mkSeq mkLeaf mkLeaf) mkLeaf) mkLeaf)) mkLeaf))) mkLeaf) (kcast (by kernel_rfl) h)

/-! trystkeep_SpoilBytes -/
def trystkeep_SpoilBytes.b1 (R : Value → World → Prop) (N1 : Sl → Int → World → Prop) (b0 : Sl) (i2 : Int) (w : World) : Prop :=
  cond (decide ((i2 : Int) < ((b0.len : Nat) : Int)))
  (0 ≤ (i2 : Int) ∧ i2 < ((b0.len : Nat) : Int) ∧ ∃ q_1 : Addr, b0.a = some q_1 ∧
  ∃ x_2 : Int, w.cell? (q_1.add (i2 : Int).toNat) = some (.int .u8 x_2) ∧
  0 ≤ (i2 : Int) ∧ i2 < ((b0.len : Nat) : Int) ∧ ∃ q_3 : Addr, b0.a = some q_3 ∧
  Wr w (q_3.add (i2 : Int).toNat) ∧
  (let w1 := w.setCell (q_3.add (i2 : Int).toNat) (.int .u8 (IntKind.u8.wrap (x_2 + 101)));
  (let i2_3 : Int := (IntKind.i64.wrap (i2 + 1));
  N1 b0 i2_3 w1)))
  (R (.tuple #[]) w)

def trystkeep_SpoilBytes.l1 (R : Value → World → Prop) (b0 : Sl) (i2 : Int) (w : World) : Prop :=
  ∃ (I : Int → World → Prop) (μ : Int → World → Nat), I i2 w ∧ ∀ s w, I s w → trystkeep_SpoilBytes.b1 R (fun b0' i2' w' => (b0' = b0 ∧ I i2' w') ∧ μ i2' w' < μ s w) b0 s w

def trystkeep_SpoilBytes.main (R : Value → World → Prop) (b0 : Sl) (w : World) : Prop :=
  trystkeep_SpoilBytes.l1 R b0 0 w

def trystkeep_SpoilBytes.J0 (R : Value → World → Prop) (k : Nat) (fr : Fr) (w : World) : Prop :=
  cond (Nat.beq k 1) (dec [(0, .slice), (2, (.int .i64))] fr fun x => trystkeep_SpoilBytes.l1 R x.1 x.2 w) (False)

set_option maxRecDepth 100000 in
theorem trystkeep_SpoilBytes.lift {R : Value → World → Prop} {b0 : Sl} {w : World} (h : trystkeep_SpoilBytes.main R b0 w) : CallsV Tryd.prog n_trystkeep_SpoilBytes #[.slice b0.a b0.len b0.cap] w R :=
  liftCalls (c := (.seq (.leaf (cL (bd Tryd.f12))) (.block 0 (.loop 1 (.seq (.seq (.leaf (cL (cL (cB (cB (cR (bd Tryd.f12))))))) (.cnd (.tmp 6) (.leaf (cT (cR (cL (cB (cB (cR (bd Tryd.f12)))))))) (.leaf (cE (cR (cL (cB (cB (cR (bd Tryd.f12)))))))))) (.seq (.block 1 (.leaf (cB (cL (cR (cB (cB (cR (bd Tryd.f12))))))))) (.leaf (cR (cR (cB (cB (cR (bd Tryd.f12))))))))))))) (J := trystkeep_SpoilBytes.J0 R) LfYtledhokhcoeeeaaDoor.mixed Tryd.func12 (by kernel_rfl) (by kernel_rfl) (mkSeq (mkBlock (mkLoop (loopDef LfYtledhokhcoeeeaaDoor.mixed [(0, .slice), (2, (.int .i64))] (by kernel_rfl) (fun M1 x w => trystkeep_SpoilBytes.b1 R (fun y0 y1 w => M1 (y0, y1) w) x.1 x.2 w) (fun M1 => fun _ _ _ => False) (fun _ _ _ => by kernel_rfl) (fun M1 => (mkSeq (mkSeq mkLeaf (mkBlock mkLeaf)) (mkSeq (mkCnd mkLeaf mkLeaf) mkLeaf))) (fun x w => trystkeep_SpoilBytes.l1 R x.1 x.2 w) (by rintro ⟨c0, s0⟩ w ⟨I, μ, h0, h1⟩; refine ⟨fun y w => y.1 = c0 ∧ I y.2 w, fun y w => μ y.2 w, ⟨rfl, h0⟩, ?_⟩; rintro ⟨d0, t0⟩ w ⟨e0, hI⟩; dsimp only at e0 hI; subst e0; exact h1 _ _ hI) (fun _ _ => by kernel_rfl)))) mkLeaf) (kcast (by kernel_rfl) h)

/-! store_Store_State -/
def store_Store_State.main (R : Value → World → Prop) (s0 : Option Addr) (w : World) : Prop :=
  ∃ q_1 : Addr, s0 = some q_1 ∧
  ∃ (a_2 : Option Addr) (l_3 c_4 : Nat), w.cell? (q_1.add 1) = some (.slice a_2 l_3 c_4) ∧
  CallsV Tryd.prog n_slices_Clone_byte #[.slice a_2 l_3 c_4] w (fun v_5 w1 =>
  ∃ (a_6 : Option Addr) (l_7 c_8 : Nat), v_5 = .slice a_6 l_7 c_8 ∧
  R (.slice a_6 l_7 c_8) w1)

def store_Store_State.J0 (_ : Value → World → Prop) (_ : Nat) (_ : Fr) (_ : World) : Prop := False

set_option maxRecDepth 100000 in
theorem store_Store_State.lift {R : Value → World → Prop} {s0 : Option Addr} {w : World} (h : store_Store_State.main R s0 w) : CallsV Tryd.prog n_store_Store_State #[.pointer s0] w R :=
  liftCalls (c := (.seq (.leaf (cL (bd Tryd.f13))) (.seq (.leaf (cL (cR (bd Tryd.f13)))) (.leaf (cR (cR (bd Tryd.f13))))))) (J := store_Store_State.J0 R) LfYtledhokhcoeeeaaDoor.mixed Tryd.func13 (by kernel_rfl) (by kernel_rfl) (mkSeq (mkSeq mkLeaf mkLeaf) mkLeaf) (kcast (by kernel_rfl) h)

/-! trystlaw14_wakes -/
def trystlaw14_wakes.c1 (R : Value → World → Prop) (d1 : Option Addr) (w : World) : Prop :=
  CallsV Tryd.prog n_store_Open #[.pointer d1] w (fun v_1 w1 =>
  ∃ p_2 : Option Addr, ∃ x_3 : Int, v_1 = .tuple #[.pointer p_2, .int .i64 x_3] ∧
  cond ((x_3 : Int) == 0)
  (cond (!(p_2).isNone)
  (CallsV Tryd.prog n_store_Store_State #[.pointer p_2] w1 (fun v_4 w2 =>
  ∃ (a_5 : Option Addr) (l_6 c_7 : Nat), v_4 = .slice a_5 l_6 c_7 ∧
  ∃ s_8 : ByteArray, ∃ w3 : World, (do pure (.value (← convert 30 9 (.slice a_5 l_6 c_7))) : Sem Next).run Tryd.prog w2 = .ok (.value (.string s_8)) w3 ∧
  (let t0_8 : Bool := ((s_8 : ByteArray).toList == (⟨#[120]⟩ : ByteArray).toList);
  R (.bool t0_8) w3)))
  (R (.bool false) w1))
  (R (.bool false) w1))

def trystlaw14_wakes.c2 (R : Value → World → Prop) (d1 : Option Addr) (w : World) : Prop :=
  CallsV Tryd.prog n_store_Open #[.pointer d1] w (fun v_10 w4 =>
  ∃ p_11 : Option Addr, ∃ x_12 : Int, v_10 = .tuple #[.pointer p_11, .int .i64 x_12] ∧
  cond ((x_12 : Int) != 0)
  (R (.bool false) w4)
  (cond ((p_11).isNone)
  (R (.bool false) w4)
  (CallsV Tryd.prog n_store_Store_State #[.pointer p_11] w4 (fun v_13 w5 =>
  ∃ (a_14 : Option Addr) (l_15 c_16 : Nat), v_13 = .slice a_14 l_15 c_16 ∧
  cond (decide ((((l_15 : Nat) : Int) : Int) > 0))
  (R (.bool false) w5)
  (let w6 := w5.alloc (.cells #[.int .u8 120] 5);
  ∃ (a_17 : Option Addr) (l_18 c_19 : Nat), ∃ w7 : World, (do pure (.value (← convert 30 30 (.slice (some (newA w5)) 1 1))) : Sem Next).run Tryd.prog w6 = .ok (.value (.slice a_17 l_18 c_19)) w7 ∧
  CallsV Tryd.prog n_store_Store_Save #[.pointer p_11, .slice a_17 l_18 c_19] w7 (fun v_20 w8 =>
  ∃ x_21 : Int, v_20 = .int .i64 x_21 ∧
  cond ((x_21 : Int) != 0)
  (R (.bool false) w8)
  (trystlaw14_wakes.c1 R d1 w8)))))))

def trystlaw14_wakes.main (R : Value → World → Prop)  (w : World) : Prop :=
  CallsV Tryd.prog n_disk_New #[.int .i64 512] w (fun v_22 w9 =>
  ∃ p_23 : Option Addr, ∃ x_24 : Int, v_22 = .tuple #[.pointer p_23, .int .i64 x_24] ∧
  cond ((x_24 : Int) != 0)
  (R (.bool false) w9)
  (cond ((p_23).isNone)
  (R (.bool false) w9)
  (trystlaw14_wakes.c2 R p_23 w9)))

def trystlaw14_wakes.J0 (R : Value → World → Prop) (k : Nat) (fr : Fr) (w : World) : Prop :=
  cond (Nat.beq k 2) (dec [(1, .ptr)] fr fun x => trystlaw14_wakes.c2 R x w) (cond (Nat.beq k 1) (dec [(1, .ptr)] fr fun x => trystlaw14_wakes.c1 R x w) (False))

set_option maxRecDepth 100000 in
theorem trystlaw14_wakes.lift {R : Value → World → Prop}  {w : World} (h : trystlaw14_wakes.main R  w) : CallsV Tryd.prog n_trystlaw14_wakes #[] w R :=
  liftCalls (c := (.seq (.leaf (cL (bd Tryd.f15))) (.seq (.leaf (cL (cR (bd Tryd.f15)))) (.seq (.seq (.leaf (cL (cL (cR (cR (bd Tryd.f15)))))) (.cnd (.tmp 13) (.seq (.leaf (cL (cT (cR (cL (cR (cR (bd Tryd.f15)))))))) (.leaf (cR (cT (cR (cL (cR (cR (bd Tryd.f15))))))))) (.leaf (cE (cR (cL (cR (cR (bd Tryd.f15))))))))) (.cut 2 (.seq (.leaf (cL (cR (cR (cR (bd Tryd.f15)))))) (.seq (.seq (.leaf (cL (cL (cR (cR (cR (cR (bd Tryd.f15)))))))) (.cnd (.tmp 37) (.seq (.leaf (cL (cT (cR (cL (cR (cR (cR (cR (bd Tryd.f15)))))))))) (.leaf (cR (cT (cR (cL (cR (cR (cR (cR (bd Tryd.f15))))))))))) (.leaf (cE (cR (cL (cR (cR (cR (cR (bd Tryd.f15))))))))))) (.cut 1 (.seq (.leaf (cL (cR (cR (cR (cR (cR (bd Tryd.f15)))))))) (.seq (.leaf (cL (cR (cR (cR (cR (cR (cR (bd Tryd.f15))))))))) (.leaf (cR (cR (cR (cR (cR (cR (cR (bd Tryd.f15))))))))))))))))))) (J := trystlaw14_wakes.J0 R) LfYtledhokhcoeeeaaDoor.mixed Tryd.func15 (by kernel_rfl) (by kernel_rfl) (mkSeq (mkSeq (mkSeq (mkCut (cutDef [(1, .ptr)] (fun x w => trystlaw14_wakes.c2 R x w) (fun _ _ => by kernel_rfl) (fun _ _ => by kernel_rfl)) (mkSeq (mkSeq (mkCut (cutDef [(1, .ptr)] (fun x w => trystlaw14_wakes.c1 R x w) (fun _ _ => by kernel_rfl) (fun _ _ => by kernel_rfl)) (mkSeq (mkSeq mkLeaf mkLeaf) mkLeaf)) (mkSeq (mkCnd (mkSeq mkLeaf mkLeaf) mkLeaf) mkLeaf)) mkLeaf)) (mkSeq (mkCnd (mkSeq mkLeaf mkLeaf) mkLeaf) mkLeaf)) mkLeaf) mkLeaf) (kcast (by kernel_rfl) h)

/-! store_Store_last -/
def store_Store_last.c1 (R : Value → World → Prop) (t2 : Addr) (out4 : Addr) (w : World) : Prop :=
  ∃ x_1 : Int, w.cell? out4 = some (.int .u64 x_1) ∧
  ∃ x_2 : Int, w.cell? (out4.add 1) = some (.int .i64 x_2) ∧
  (∀ j, j < 2 → Wr w (t2.add j)) ∧
  (let w1 := setCells t2 [.int .u64 x_1, .int .i64 x_2] 0 w;
  ∃ x_3 : Int, w1.cell? t2 = some (.int .u64 x_3) ∧
  ∃ x_4 : Int, w1.cell? (t2.add 1) = some (.int .i64 x_4) ∧
  R (.tuple #[.agg #[.int .u64 x_3, .int .i64 x_4], .nilIface]) w1)

def store_Store_last.b2 (R : Value → World → Prop) (N2 : Option Addr → Addr → Addr → Int → World → Prop) (s0 : Option Addr) (t2 : Addr) (out4 : Addr) (t10 : Int) (w : World) : Prop :=
  cond (decide ((t10 : Int) < 2))
  (∃ q_5 : Addr, s0 = some q_5 ∧
  ∃ p_6 : Option Addr, w.cell? q_5 = some (.pointer p_6) ∧
  CallsV Tryd.prog n_disk_Disk_Read #[.pointer p_6, .int .i64 t10] w (fun v_7 w2 =>
  ∃ (a_8 : Option Addr) (l_9 c_10 : Nat), ∃ x_11 : Int, v_7 = .tuple #[.slice a_8 l_9 c_10, .int .i64 x_11] ∧
  CallsV Tryd.prog n_store_wrap #[.string (⟨#[97, 32, 109, 97, 114, 107]⟩), .int .i64 x_11] w2 (fun v_12 w3 =>
  ∃ v_13 : Value, v_12 = v_13 ∧
  CallsV Tryd.prog n_errors_Is #[v_13, .iface 24 (.int .i64 10)] w3 (fun v_14 w4 =>
  ∃ b_15 : Bool, v_14 = .bool b_15 ∧
  cond b_15
  (N2 s0 t2 out4 (IntKind.i64.wrap (t10 + 1)) w4)
  (∃ b_16 : Bool, nilB v_13 = some b_16 ∧
  cond (!b_16)
  ((∀ j, j < 2 → Wr w4 (t2.add j)) ∧
  (let w5 := setCells t2 [.int .u64 0, .int .i64 0] 0 w4;
  ∃ x_17 : Int, w5.cell? t2 = some (.int .u64 x_17) ∧
  ∃ x_18 : Int, w5.cell? (t2.add 1) = some (.int .i64 x_18) ∧
  R (.tuple #[.agg #[.int .u64 x_17, .int .i64 x_18], v_13]) w5))
  (∃ S_19 : World → Prop, S_19 w4.drew ∧
  0 ≤ ((0 : Int) : Int) ∧ ((0 : Int) : Int) ≤ 8 ∧ (8 : Int) ≤ ((c_10 : Nat) : Int) ∧ (((c_10 : Nat) : Int) : Int) ≤ ((c_10 : Nat) : Int) ∧
  0 ≤ (8 : Int) ∧ (8 : Int) ≤ 16 ∧ (16 : Int) ≤ ((c_10 : Nat) : Int) ∧ (((c_10 : Nat) : Int) : Int) ≤ ((c_10 : Nat) : Int) ∧
  (CallsV Tryd.prog n_store_low #[.slice (if ((((c_10 : Nat) : Int) : Int)).toNat = (((0 : Int) : Int)).toNat then a_8 else (a_8).map (·.add (((0 : Int) : Int)).toNat)) (((8 : Int)).toNat - (((0 : Int) : Int)).toNat) (((((c_10 : Nat) : Int) : Int)).toNat - (((0 : Int) : Int)).toNat)] w4.drew (fun v_20 w6 =>
  ∃ x_21 : Int, v_20 = .int .u64 x_21 ∧
  (CallsV Tryd.prog n_store_low #[.slice (if ((((c_10 : Nat) : Int) : Int)).toNat = ((8 : Int)).toNat then a_8 else (a_8).map (·.add ((8 : Int)).toNat)) (((16 : Int)).toNat - ((8 : Int)).toNat) (((((c_10 : Nat) : Int) : Int)).toNat - ((8 : Int)).toNat)] w6 (fun v_22 w7 =>
  ∃ x_23 : Int, v_22 = .int .u64 x_23 ∧
  let w8 := w7.alloc (.cells #[.int .u64 0, .int .i64 0] 64);
  (∀ j, j < 2 → Wr w8 ((newA w7).add j)) ∧
  (let w9 := setCells (newA w7) [.int .u64 x_21, .int .i64 (IntKind.i64.wrap (if 8000 < x_23 then 8000 else x_23))] 0 w8;
  ∃ x_24 : Int, w9.cell? (newA w7) = some (.int .u64 x_24) ∧
  ∃ x_25 : Int, w9.cell? out4 = some (.int .u64 x_25) ∧
  cond (decide ((x_24 : Int) > x_25))
  (∃ x_26 : Int, w9.cell? (newA w7) = some (.int .u64 x_26) ∧
  (2 : Int) ≠ 0 ∧
  cond (((Int.tmod x_26 2) : Int) == (IntKind.u64.wrap t10))
  (∃ x_27 : Int, w9.cell? (newA w7) = some (.int .u64 x_27) ∧
  ∃ x_28 : Int, w9.cell? ((newA w7).add 1) = some (.int .i64 x_28) ∧
  (∀ j, j < 2 → Wr w9 (out4.add j)) ∧
  (let w10 := setCells out4 [.int .u64 x_27, .int .i64 x_28] 0 w9;
  N2 s0 t2 out4 (IntKind.i64.wrap (t10 + 1)) w10))
  (N2 s0 t2 out4 (IntKind.i64.wrap (t10 + 1)) w9))
  (N2 s0 t2 out4 (IntKind.i64.wrap (t10 + 1)) w9)))) ∧
  (let w11 := w6.alloc (.cells #[.int .u64 0, .int .i64 0] 64);
  CallsV Tryd.prog n_store_low #[.slice (if ((((c_10 : Nat) : Int) : Int)).toNat = ((8 : Int)).toNat then a_8 else (a_8).map (·.add ((8 : Int)).toNat)) (((16 : Int)).toNat - ((8 : Int)).toNat) (((((c_10 : Nat) : Int) : Int)).toNat - ((8 : Int)).toNat)] w11 (fun v_29 w12 =>
  ∃ x_30 : Int, v_29 = .int .u64 x_30 ∧
  (∀ j, j < 2 → Wr w12 ((newA w6).add j)) ∧
  (let w13 := setCells (newA w6) [.int .u64 x_21, .int .i64 (IntKind.i64.wrap (if 8000 < x_30 then 8000 else x_30))] 0 w12;
  ∃ x_31 : Int, w13.cell? (newA w6) = some (.int .u64 x_31) ∧
  ∃ x_32 : Int, w13.cell? out4 = some (.int .u64 x_32) ∧
  cond (decide ((x_31 : Int) > x_32))
  (∃ x_33 : Int, w13.cell? (newA w6) = some (.int .u64 x_33) ∧
  (2 : Int) ≠ 0 ∧
  cond (((Int.tmod x_33 2) : Int) == (IntKind.u64.wrap t10))
  (∃ x_34 : Int, w13.cell? (newA w6) = some (.int .u64 x_34) ∧
  ∃ x_35 : Int, w13.cell? ((newA w6).add 1) = some (.int .i64 x_35) ∧
  (∀ j, j < 2 → Wr w13 (out4.add j)) ∧
  (let w14 := setCells out4 [.int .u64 x_34, .int .i64 x_35] 0 w13;
  N2 s0 t2 out4 (IntKind.i64.wrap (t10 + 1)) w14))
  (N2 s0 t2 out4 (IntKind.i64.wrap (t10 + 1)) w13))
  (N2 s0 t2 out4 (IntKind.i64.wrap (t10 + 1)) w13)))))) ∧
  (let w15 := w4.drew.alloc (.cells #[.int .u64 0, .int .i64 0] 64);
  CallsV Tryd.prog n_store_low #[.slice (if ((((c_10 : Nat) : Int) : Int)).toNat = (((0 : Int) : Int)).toNat then a_8 else (a_8).map (·.add (((0 : Int) : Int)).toNat)) (((8 : Int)).toNat - (((0 : Int) : Int)).toNat) (((((c_10 : Nat) : Int) : Int)).toNat - (((0 : Int) : Int)).toNat)] w15 (fun v_36 w16 =>
  ∃ x_37 : Int, v_36 = .int .u64 x_37 ∧
  CallsV Tryd.prog n_store_low #[.slice (if ((((c_10 : Nat) : Int) : Int)).toNat = ((8 : Int)).toNat then a_8 else (a_8).map (·.add ((8 : Int)).toNat)) (((16 : Int)).toNat - ((8 : Int)).toNat) (((((c_10 : Nat) : Int) : Int)).toNat - ((8 : Int)).toNat)] w16 (fun v_38 w17 =>
  ∃ x_39 : Int, v_38 = .int .u64 x_39 ∧
  (∀ j, j < 2 → Wr w17 ((newA w4.drew).add j)) ∧
  (let w18 := setCells (newA w4.drew) [.int .u64 x_37, .int .i64 (IntKind.i64.wrap (if 8000 < x_39 then 8000 else x_39))] 0 w17;
  ∃ x_40 : Int, w18.cell? (newA w4.drew) = some (.int .u64 x_40) ∧
  ∃ x_41 : Int, w18.cell? out4 = some (.int .u64 x_41) ∧
  cond (decide ((x_40 : Int) > x_41))
  (∃ x_42 : Int, w18.cell? (newA w4.drew) = some (.int .u64 x_42) ∧
  (2 : Int) ≠ 0 ∧
  cond (((Int.tmod x_42 2) : Int) == (IntKind.u64.wrap t10))
  (∃ x_43 : Int, w18.cell? (newA w4.drew) = some (.int .u64 x_43) ∧
  ∃ x_44 : Int, w18.cell? ((newA w4.drew).add 1) = some (.int .i64 x_44) ∧
  (∀ j, j < 2 → Wr w18 (out4.add j)) ∧
  (let w19 := setCells out4 [.int .u64 x_43, .int .i64 x_44] 0 w18;
  N2 s0 t2 out4 (IntKind.i64.wrap (t10 + 1)) w19))
  (N2 s0 t2 out4 (IntKind.i64.wrap (t10 + 1)) w18))
  (N2 s0 t2 out4 (IntKind.i64.wrap (t10 + 1)) w18)))))))))))
  (store_Store_last.c1 R t2 out4 w)

def store_Store_last.l2 (R : Value → World → Prop) (s0 : Option Addr) (t2 : Addr) (out4 : Addr) (t10 : Int) (w : World) : Prop :=
  ∃ (I : Int → World → Prop) (μ : Int → World → Nat), I t10 w ∧ ∀ s w, I s w → store_Store_last.b2 R (fun s0' t2' out4' t10' w' => (s0' = s0 ∧ t2' = t2 ∧ out4' = out4 ∧ I t10' w') ∧ μ t10' w' < μ s w) s0 t2 out4 s w

def store_Store_last.main (R : Value → World → Prop) (s0 : Option Addr) (w : World) : Prop :=
  let w20 := w.alloc (.cells #[.int .u64 0, .int .i64 0] 64);
  let w21 := w20.alloc (.cells #[.int .u64 0, .int .i64 0] 64);
  store_Store_last.l2 R s0 (newA w) (newA w20) 0 w21

def store_Store_last.J0 (R : Value → World → Prop) (k : Nat) (fr : Fr) (w : World) : Prop :=
  cond (Nat.beq k 2) (dec [(0, .ptr), (2, .addr), (4, .addr), (10, (.int .i64))] fr fun x => store_Store_last.l2 R x.1 x.2.1 x.2.2.1 x.2.2.2 w) (cond (Nat.beq k 1) (dec [(2, .addr), (4, .addr)] fr fun x => store_Store_last.c1 R x.1 x.2 w) (False))

set_option maxRecDepth 100000 in
theorem store_Store_last.lift {R : Value → World → Prop} {s0 : Option Addr} {w : World} (h : store_Store_last.main R s0 w) : CallsV Tryd.prog n_store_Store_last #[.pointer s0] w R :=
  liftCalls (c := (.seq (.leaf (cL (bd Tryd.f24))) (.seq (.leaf (cL (cR (bd Tryd.f24)))) (.seq (.seq (.leaf (cL (cL (cR (cR (bd Tryd.f24)))))) (.block 0 (.loop 2 (.seq (.leaf (cL (cB (cB (cR (cL (cR (cR (bd Tryd.f24))))))))) (.seq (.cnd (.tmp 11) (.leaf (cT (cL (cR (cB (cB (cR (cL (cR (cR (bd Tryd.f24))))))))))) (.leaf (cE (cL (cR (cB (cB (cR (cL (cR (cR (bd Tryd.f24)))))))))))) (.seq (.block 1 (.seq (.leaf (cL (cB (cL (cR (cR (cB (cB (cR (cL (cR (cR (bd Tryd.f24))))))))))))) (.seq (.leaf (cL (cR (cB (cL (cR (cR (cB (cB (cR (cL (cR (cR (bd Tryd.f24)))))))))))))) (.seq (.leaf (cL (cR (cR (cB (cL (cR (cR (cB (cB (cR (cL (cR (cR (bd Tryd.f24))))))))))))))) (.seq (.block 2 (.seq (.leaf (cL (cB (cL (cR (cR (cR (cB (cL (cR (cR (cB (cB (cR (cL (cR (cR (bd Tryd.f24)))))))))))))))))) (.cnd (.tmp 24) (.leaf (cT (cR (cB (cL (cR (cR (cR (cB (cL (cR (cR (cB (cB (cR (cL (cR (cR (bd Tryd.f24))))))))))))))))))) (.seq (.leaf (cL (cE (cR (cB (cL (cR (cR (cR (cB (cL (cR (cR (cB (cB (cR (cL (cR (cR (bd Tryd.f24)))))))))))))))))))) (.cnd (.tmp 28) (.seq (.leaf (cL (cT (cR (cE (cR (cB (cL (cR (cR (cR (cB (cL (cR (cR (cB (cB (cR (cL (cR (cR (bd Tryd.f24)))))))))))))))))))))) (.leaf (cR (cT (cR (cE (cR (cB (cL (cR (cR (cR (cB (cL (cR (cR (cB (cB (cR (cL (cR (cR (bd Tryd.f24))))))))))))))))))))))) (.leaf (cE (cR (cE (cR (cB (cL (cR (cR (cR (cB (cL (cR (cR (cB (cB (cR (cL (cR (cR (bd Tryd.f24)))))))))))))))))))))))))) (.seq (.leaf (cL (cR (cR (cR (cR (cB (cL (cR (cR (cB (cB (cR (cL (cR (cR (bd Tryd.f24))))))))))))))))) (.seq (.leaf (cL (cR (cR (cR (cR (cR (cB (cL (cR (cR (cB (cB (cR (cL (cR (cR (bd Tryd.f24)))))))))))))))))) (.cnd (.tmp 54) (.leaf (cT (cR (cR (cR (cR (cR (cR (cB (cL (cR (cR (cB (cB (cR (cL (cR (cR (bd Tryd.f24))))))))))))))))))) (.leaf (cE (cR (cR (cR (cR (cR (cR (cB (cL (cR (cR (cB (cB (cR (cL (cR (cR (bd Tryd.f24))))))))))))))))))))))))))) (.leaf (cR (cR (cR (cB (cB (cR (cL (cR (cR (bd Tryd.f24))))))))))))))))) (.cut 1 (.seq (.leaf (cL (cR (cR (cR (bd Tryd.f24)))))) (.leaf (cR (cR (cR (cR (bd Tryd.f24)))))))))))) (J := store_Store_last.J0 R) LfYtledhokhcoeeeaaDoor.mixed Tryd.func24 (by kernel_rfl) (by kernel_rfl) (mkSeq (mkSeq (mkSeq (mkCut (cutDef [(2, .addr), (4, .addr)] (fun x w => store_Store_last.c1 R x.1 x.2 w) (fun _ _ => by kernel_rfl) (fun _ _ => by kernel_rfl)) (mkSeq mkLeaf mkLeaf)) (mkSeq (mkBlock (mkLoop (loopDef LfYtledhokhcoeeeaaDoor.mixed [(0, .ptr), (2, .addr), (4, .addr), (10, (.int .i64))] (by kernel_rfl) (fun M2 x w => store_Store_last.b2 R (fun y0 y1 y2 y3 w => M2 (y0, y1, y2, y3) w) x.1 x.2.1 x.2.2.1 x.2.2.2 w) (fun M2 => fun _ _ _ => False) (fun _ _ _ => by kernel_rfl) (fun M2 => (mkSeq (mkSeq (mkSeq mkLeaf (mkBlock (mkSeq (mkSeq (mkSeq (mkSeq (mkSeq (mkSeq (mkCnd mkLeaf mkLeaf) mkLeaf) mkLeaf) (mkBlock (mkSeq (mkCnd mkLeaf (mkSeq (mkCnd (mkSeq mkLeaf mkLeaf) mkLeaf) mkLeaf)) mkLeaf))) mkLeaf) mkLeaf) mkLeaf))) (mkCnd mkLeaf mkLeaf)) mkLeaf)) (fun x w => store_Store_last.l2 R x.1 x.2.1 x.2.2.1 x.2.2.2 w) (by rintro ⟨c0, c1, c2, s0⟩ w ⟨I, μ, h0, h1⟩; refine ⟨fun y w => y.1 = c0 ∧ y.2.1 = c1 ∧ y.2.2.1 = c2 ∧ I y.2.2.2 w, fun y w => μ y.2.2.2 w, ⟨rfl, rfl, rfl, h0⟩, ?_⟩; rintro ⟨d0, d1, d2, t0⟩ w ⟨e0, e1, e2, hI⟩; dsimp only at e0 e1 e2 hI; subst e0; subst e1; subst e2; exact h1 _ _ hI) (fun _ _ => by kernel_rfl)))) mkLeaf)) mkLeaf) mkLeaf) (kcast (by kernel_rfl) h)

/-! store_Store_read -/
def store_Store_read.c1 (R : Value → World → Prop) (m3 : Addr) (out6 : Sl) (w : World) : Prop :=
  ∃ x_1 : Int, w.cell? (m3.add 1) = some (.int .i64 x_1) ∧
  0 ≤ ((0 : Int) : Int) ∧ ((0 : Int) : Int) ≤ (if ((out6.len : Nat) : Int) < x_1 then ((out6.len : Nat) : Int) else x_1) ∧ ((if ((out6.len : Nat) : Int) < x_1 then ((out6.len : Nat) : Int) else x_1) : Int) ≤ ((out6.cap : Nat) : Int) ∧ (((out6.cap : Nat) : Int) : Int) ≤ ((out6.cap : Nat) : Int) ∧
  R (.tuple #[.slice (if ((((out6.cap : Nat) : Int) : Int)).toNat = (((0 : Int) : Int)).toNat then out6.a else (out6.a).map (·.add (((0 : Int) : Int)).toNat)) ((((if ((out6.len : Nat) : Int) < x_1 then ((out6.len : Nat) : Int) else x_1) : Int)).toNat - (((0 : Int) : Int)).toNat) (((((out6.cap : Nat) : Int) : Int)).toNat - (((0 : Int) : Int)).toNat), .nilIface]) w

def store_Store_read.c3 (R : Value → World → Prop) (N2 : Option Addr → Addr → Sl → Int → World → Prop) (s0 : Option Addr) (m3 : Addr) (out6 : Sl) (k7 : Int) (w : World) : Prop :=
  ∃ S_2 : World → Prop, S_2 w.drew ∧
  ∃ q_3 : Addr, s0 = some q_3 ∧
  ∃ p_4 : Option Addr, (∀ x, S_2 x → x.cell? q_3 = some (.pointer p_4)) ∧
  ∃ x_5 : Int, (∀ x, S_2 x → x.cell? m3 = some (.int .u64 x_5)) ∧
  CallsV Tryd.prog n_store_place #[.int .u64 x_5, .int .i64 k7] w.drew (fun v_6 w1 =>
  ∃ x_7 : Int, v_6 = .int .i64 x_7 ∧
  S_2 w1 ∧
  CallsV Tryd.prog n_disk_Disk_Read #[.pointer p_4, .int .i64 x_7] w1 (fun v_8 w2 =>
  ∃ (a_9 : Option Addr) (l_10 c_11 : Nat), ∃ x_12 : Int, v_8 = .tuple #[.slice a_9 l_10 c_11, .int .i64 x_12] ∧
  CallsV Tryd.prog n_store_wrap #[.string (⟨#[97, 110, 32, 97, 114, 101, 97]⟩), .int .i64 x_12] w2 (fun v_13 w3 =>
  ∃ v_14 : Value, v_13 = v_14 ∧
  ∃ b_15 : Bool, nilB v_14 = some b_15 ∧
  cond (!b_15)
  (R (.tuple #[.slice none 0 0, v_14]) w3)
  (∃ (a_16 : Option Addr) (l_17 c_18 : Nat), ∃ w4 : World, (builtin .append #[30, 30] 30 #[] #[.slice out6.a out6.len out6.cap, .slice a_9 l_10 c_11]).run Tryd.prog w3 = .ok (.value (.slice a_16 l_17 c_18)) w4 ∧
  (let k7_18 : Int := (IntKind.i64.wrap (k7 + 1));
  N2 s0 m3 ⟨a_16, l_17, c_18⟩ k7_18 w4)))))

def store_Store_read.b2 (R : Value → World → Prop) (N2 : Option Addr → Addr → Sl → Int → World → Prop) (s0 : Option Addr) (m3 : Addr) (out6 : Sl) (k7 : Int) (w : World) : Prop :=
  ∃ x_20 : Int, w.cell? m3 = some (.int .u64 x_20) ∧
  cond (decide ((x_20 : Int) > 0))
  (∃ x_21 : Int, w.cell? (m3.add 1) = some (.int .i64 x_21) ∧
  cond (decide ((((out6.len : Nat) : Int) : Int) < x_21))
  (store_Store_read.c3 R N2 s0 m3 out6 k7 w)
  (store_Store_read.c1 R m3 out6 w))
  (store_Store_read.c1 R m3 out6 w)

def store_Store_read.l2 (R : Value → World → Prop) (s0 : Option Addr) (m3 : Addr) (out6 : Sl) (k7 : Int) (w : World) : Prop :=
  ∃ (I : (Sl × Int) → World → Prop) (μ : (Sl × Int) → World → Nat), I (out6, k7) w ∧ ∀ s w, I s w → store_Store_read.b2 R (fun s0' m3' out6' k7' w' => (s0' = s0 ∧ m3' = m3 ∧ I (out6', k7') w') ∧ μ (out6', k7') w' < μ s w) s0 m3 s.1 s.2 w

def store_Store_read.main (R : Value → World → Prop) (s0 : Option Addr) (m1_0 : Int) (m1_1 : Int) (w : World) : Prop :=
  let w5 := w.alloc (.cells #[.int .u64 m1_0, .int .i64 m1_1] 64);
  store_Store_read.l2 R s0 (newA w) ⟨none, 0, 0⟩ 0 w5

def store_Store_read.J2 (R : Value → World → Prop) (N2 : Option Addr → Addr → Sl → Int → World → Prop) (k : Nat) (fr : Fr) (w : World) : Prop :=
  cond (Nat.beq k 3) (dec [(0, .ptr), (3, .addr), (6, .slice), (7, (.int .i64))] fr fun x => store_Store_read.c3 R N2 x.1 x.2.1 x.2.2.1 x.2.2.2 w) (False)

def store_Store_read.J0 (R : Value → World → Prop) (k : Nat) (fr : Fr) (w : World) : Prop :=
  cond (Nat.beq k 2) (dec [(0, .ptr), (3, .addr), (6, .slice), (7, (.int .i64))] fr fun x => store_Store_read.l2 R x.1 x.2.1 x.2.2.1 x.2.2.2 w) (cond (Nat.beq k 1) (dec [(3, .addr), (6, .slice)] fr fun x => store_Store_read.c1 R x.1 x.2 w) (False))

set_option maxRecDepth 100000 in
theorem store_Store_read.lift {R : Value → World → Prop} {s0 : Option Addr} {m1_0 : Int} {m1_1 : Int} {w : World} (h : store_Store_read.main R s0 m1_0 m1_1 w) : CallsV Tryd.prog n_store_Store_read #[.pointer s0, .agg #[.int .u64 m1_0, .int .i64 m1_1]] w R :=
  liftCalls (c := (.seq (.leaf (cL (bd Tryd.f25))) (.seq (.leaf (cL (cR (bd Tryd.f25)))) (.seq (.seq (.leaf (cL (cL (cR (cR (bd Tryd.f25)))))) (.block 0 (.loop 2 (.seq (.seq (.leaf (cL (cL (cB (cB (cR (cL (cR (cR (bd Tryd.f25)))))))))) (.cnd (.tmp 20) (.leaf (cT (cR (cL (cB (cB (cR (cL (cR (cR (bd Tryd.f25))))))))))) (.leaf (cE (cR (cL (cB (cB (cR (cL (cR (cR (bd Tryd.f25))))))))))))) (.cut 3 (.seq (.block 1 (.seq (.leaf (cL (cB (cL (cR (cB (cB (cR (cL (cR (cR (bd Tryd.f25)))))))))))) (.seq (.seq (.leaf (cL (cL (cR (cB (cL (cR (cB (cB (cR (cL (cR (cR (bd Tryd.f25)))))))))))))) (.seq (.leaf (cL (cR (cL (cR (cB (cL (cR (cB (cB (cR (cL (cR (cR (bd Tryd.f25))))))))))))))) (.cnd (.tmp 38) (.seq (.leaf (cL (cT (cR (cR (cL (cR (cB (cL (cR (cB (cB (cR (cL (cR (cR (bd Tryd.f25))))))))))))))))) (.leaf (cR (cT (cR (cR (cL (cR (cB (cL (cR (cB (cB (cR (cL (cR (cR (bd Tryd.f25)))))))))))))))))) (.leaf (cE (cR (cR (cL (cR (cB (cL (cR (cB (cB (cR (cL (cR (cR (bd Tryd.f25))))))))))))))))))) (.leaf (cR (cR (cB (cL (cR (cB (cB (cR (cL (cR (cR (bd Tryd.f25)))))))))))))))) (.leaf (cR (cR (cB (cB (cR (cL (cR (cR (bd Tryd.f25)))))))))))))))) (.cut 1 (.seq (.leaf (cL (cR (cR (cR (bd Tryd.f25)))))) (.leaf (cR (cR (cR (cR (bd Tryd.f25)))))))))))) (J := store_Store_read.J0 R) LfYtledhokhcoeeeaaDoor.mixed Tryd.func25 (by kernel_rfl) (by kernel_rfl) (mkSeq (mkSeq (mkSeq (mkCut (cutDef [(3, .addr), (6, .slice)] (fun x w => store_Store_read.c1 R x.1 x.2 w) (fun _ _ => by kernel_rfl) (fun _ _ => by kernel_rfl)) (mkSeq mkLeaf mkLeaf)) (mkSeq (mkBlock (mkLoop (loopDef LfYtledhokhcoeeeaaDoor.mixed [(0, .ptr), (3, .addr), (6, .slice), (7, (.int .i64))] (by kernel_rfl) (fun M2 x w => store_Store_read.b2 R (fun y0 y1 y2 y3 w => M2 (y0, y1, y2, y3) w) x.1 x.2.1 x.2.2.1 x.2.2.2 w) (fun M2 => store_Store_read.J2 R (fun y0 y1 y2 y3 w => M2 (y0, y1, y2, y3) w)) (fun _ _ _ => by kernel_rfl) (fun M2 => (mkSeq (mkCut (cutDef [(0, .ptr), (3, .addr), (6, .slice), (7, (.int .i64))] (fun x w => store_Store_read.c3 R (fun y0 y1 y2 y3 w => M2 (y0, y1, y2, y3) w) x.1 x.2.1 x.2.2.1 x.2.2.2 w) (fun _ _ => by kernel_rfl) (fun _ _ => by kernel_rfl)) (mkSeq mkLeaf (mkBlock (mkSeq (mkSeq mkLeaf (mkSeq (mkSeq (mkCnd (mkSeq mkLeaf mkLeaf) mkLeaf) mkLeaf) mkLeaf)) mkLeaf)))) (mkSeq (mkCnd mkLeaf mkLeaf) mkLeaf))) (fun x w => store_Store_read.l2 R x.1 x.2.1 x.2.2.1 x.2.2.2 w) (by rintro ⟨c0, c1, s0⟩ w ⟨I, μ, h0, h1⟩; refine ⟨fun y w => y.1 = c0 ∧ y.2.1 = c1 ∧ I y.2.2 w, fun y w => μ y.2.2 w, ⟨rfl, rfl, h0⟩, ?_⟩; rintro ⟨d0, d1, t0⟩ w ⟨e0, e1, hI⟩; dsimp only at e0 e1 hI; subst e0; subst e1; exact h1 _ _ hI) (fun _ _ => by kernel_rfl)))) mkLeaf)) mkLeaf) mkLeaf) (kcast (by kernel_rfl) h)

/-! store_number -/
def store_number.main (R : Value → World → Prop) (err0 : Value) (w : World) : Prop :=
  let w1 := w.alloc (.cells #[.int .i64 0] 24);
  CallsV Tryd.prog n_errors_As #[err0, .iface 85 (.pointer (some (newA w)))] w1 (fun v_1 w2 =>
  ∃ b_2 : Bool, v_1 = .bool b_2 ∧
  cond b_2
  (∃ x_3 : Int, w2.cell? (newA w) = some (.int .i64 x_3) ∧
  R (.int .i64 x_3) w2)
  (R (.int .i64 0) w2))

def store_number.J0 (_ : Value → World → Prop) (_ : Nat) (_ : Fr) (_ : World) : Prop := False

set_option maxRecDepth 100000 in
theorem store_number.lift {R : Value → World → Prop} {err0 : Value} {w : World} (h : store_number.main R err0 w) : CallsV Tryd.prog n_store_number #[err0] w R :=
  liftCalls (c := (.seq (.leaf (cL (bd Tryd.f26))) (.seq (.leaf (cL (cR (bd Tryd.f26)))) (.seq (.seq (.leaf (cL (cL (cR (cR (bd Tryd.f26)))))) (.cnd (.tmp 6) (.seq (.leaf (cL (cT (cR (cL (cR (cR (bd Tryd.f26)))))))) (.leaf (cR (cT (cR (cL (cR (cR (bd Tryd.f26))))))))) (.leaf (cE (cR (cL (cR (cR (bd Tryd.f26))))))))) (.seq (.leaf (cL (cR (cR (cR (bd Tryd.f26)))))) (.leaf (cR (cR (cR (cR (bd Tryd.f26))))))))))) (J := store_number.J0 R) LfYtledhokhcoeeeaaDoor.mixed Tryd.func26 (by kernel_rfl) (by kernel_rfl) (mkSeq (mkSeq (mkSeq (mkSeq mkLeaf mkLeaf) (mkSeq (mkCnd (mkSeq mkLeaf mkLeaf) mkLeaf) mkLeaf)) mkLeaf) mkLeaf) (kcast (by kernel_rfl) h)

/-! store_Store_save -/
def store_Store_save.c1 (R : Value → World → Prop) (s0 : Option Addr) (m5 : Addr) (w : World) : Prop :=
  ∃ q_1 : Addr, s0 = some q_1 ∧
  ∃ p_2 : Option Addr, w.cell? q_1 = some (.pointer p_2) ∧
  CallsV Tryd.prog n_disk_Disk_Sync #[.pointer p_2] w (fun v_3 w1 =>
  ∃ x_4 : Int, v_3 = .int .i64 x_4 ∧
  CallsV Tryd.prog n_store_wrap #[.string (⟨#[97, 110, 32, 97, 114, 101, 97]⟩), .int .i64 x_4] w1 (fun v_5 w2 =>
  ∃ v_6 : Value, v_5 = v_6 ∧
  ∃ b_7 : Bool, nilB v_6 = some b_7 ∧
  cond (!b_7)
  (R (v_6) w2)
  (∃ S_8 : World → Prop, S_8 w2.drew ∧
  ∃ q_9 : Addr, s0 = some q_9 ∧
  ∃ p_10 : Option Addr, (∀ x, S_8 x → x.cell? q_9 = some (.pointer p_10)) ∧
  ∃ x_11 : Int, (∀ x, S_8 x → x.cell? m5 = some (.int .u64 x_11)) ∧
  (2 : Int) ≠ 0 ∧
  ∃ x_12 : Int, (∀ x, S_8 x → x.cell? m5 = some (.int .u64 x_12)) ∧
  ∃ x_13 : Int, (∀ x, S_8 x → x.cell? (m5.add 1) = some (.int .i64 x_13)) ∧
  CallsV Tryd.prog n_store_mark_sector #[.agg #[.int .u64 x_12, .int .i64 x_13]] w2.drew (fun v_14 w3 =>
  ∃ (a_15 : Option Addr) (l_16 c_17 : Nat), v_14 = .slice a_15 l_16 c_17 ∧
  S_8 w3 ∧
  CallsV Tryd.prog n_disk_Disk_Write #[.pointer p_10, .int .i64 (IntKind.i64.wrap (Int.tmod x_11 2)), .slice a_15 l_16 c_17] w3 (fun v_18 w4 =>
  ∃ x_19 : Int, v_18 = .int .i64 x_19 ∧
  CallsV Tryd.prog n_store_wrap #[.string (⟨#[97, 32, 109, 97, 114, 107]⟩), .int .i64 x_19] w4 (fun v_20 w5 =>
  ∃ v_21 : Value, v_20 = v_21 ∧
  ∃ b_22 : Bool, nilB v_21 = some b_22 ∧
  cond (!b_22)
  (R (v_21) w5)
  (∃ q_23 : Addr, s0 = some q_23 ∧
  ∃ p_24 : Option Addr, w5.cell? q_23 = some (.pointer p_24) ∧
  CallsV Tryd.prog n_disk_Disk_Sync #[.pointer p_24] w5 (fun v_25 w6 =>
  ∃ x_26 : Int, v_25 = .int .i64 x_26 ∧
  CallsV Tryd.prog n_store_wrap #[.string (⟨#[97, 32, 109, 97, 114, 107]⟩), .int .i64 x_26] w6 (fun v_27 w7 =>
  ∃ v_28 : Value, v_27 = v_28 ∧
  R (v_28) w7)))))))))

def store_Store_save.b2 (R : Value → World → Prop) (N2 : Option Addr → Sl → Addr → Int → World → Prop) (s0 : Option Addr) (b1 : Sl) (m5 : Addr) (k7 : Int) (w : World) : Prop :=
  cond (decide (((IntKind.i64.wrap (k7 * 64)) : Int) < ((b1.len : Nat) : Int)))
  (0 ≤ (64 : Int) ∧ (64 : Int) ≤ 64 ∧ (1 : Int) * 64 ≤ 281474976710656 ∧ (64 : Int) ≤ 9223372036854775807 ∧
  (let w8 := w.alloc (.cells ((Array.range ((64 : Int).toNat * 1)).map ((#[.int .u8 0] : Array Value)[· % (#[.int .u8 0] : Array Value).size]!)) 5);
  0 ≤ ((IntKind.i64.wrap (k7 * 64)) : Int) ∧ ((IntKind.i64.wrap (k7 * 64)) : Int) ≤ ((b1.len : Nat) : Int) ∧ (((b1.len : Nat) : Int) : Int) ≤ ((b1.cap : Nat) : Int) ∧ (((b1.cap : Nat) : Int) : Int) ≤ ((b1.cap : Nat) : Int) ∧
  ∃ x_29 : Int, ∃ w9 : World, (builtin .copy #[30, 30] 3 #[] #[.slice (some (newA w)) ((64 : Int).toNat) ((64 : Int).toNat), .slice (if ((((b1.cap : Nat) : Int) : Int)).toNat = (((IntKind.i64.wrap (k7 * 64)) : Int)).toNat then b1.a else (b1.a).map (·.add (((IntKind.i64.wrap (k7 * 64)) : Int)).toNat)) (((((b1.len : Nat) : Int) : Int)).toNat - (((IntKind.i64.wrap (k7 * 64)) : Int)).toNat) (((((b1.cap : Nat) : Int) : Int)).toNat - (((IntKind.i64.wrap (k7 * 64)) : Int)).toNat)]).run Tryd.prog w8 = .ok (.value (.int .i64 x_29)) w9 ∧
  ∃ S_30 : World → Prop, S_30 w9.drew ∧
  ∃ q_31 : Addr, s0 = some q_31 ∧
  ∃ p_32 : Option Addr, (∀ x, S_30 x → x.cell? q_31 = some (.pointer p_32)) ∧
  ∃ x_33 : Int, (∀ x, S_30 x → x.cell? m5 = some (.int .u64 x_33)) ∧
  CallsV Tryd.prog n_store_place #[.int .u64 x_33, .int .i64 k7] w9.drew (fun v_34 w10 =>
  ∃ x_35 : Int, v_34 = .int .i64 x_35 ∧
  S_30 w10 ∧
  CallsV Tryd.prog n_disk_Disk_Write #[.pointer p_32, .int .i64 x_35, .slice (some (newA w)) ((64 : Int).toNat) ((64 : Int).toNat)] w10 (fun v_36 w11 =>
  ∃ x_37 : Int, v_36 = .int .i64 x_37 ∧
  CallsV Tryd.prog n_store_wrap #[.string (⟨#[97, 110, 32, 97, 114, 101, 97]⟩), .int .i64 x_37] w11 (fun v_38 w12 =>
  ∃ v_39 : Value, v_38 = v_39 ∧
  ∃ b_40 : Bool, nilB v_39 = some b_40 ∧
  cond (!b_40)
  (R (v_39) w12)
  ((let k7_40 : Int := (IntKind.i64.wrap (k7 + 1));
  N2 s0 b1 m5 k7_40 w12)))))))
  (store_Store_save.c1 R s0 m5 w)

def store_Store_save.l2 (R : Value → World → Prop) (s0 : Option Addr) (b1 : Sl) (m5 : Addr) (k7 : Int) (w : World) : Prop :=
  ∃ (I : Int → World → Prop) (μ : Int → World → Nat), I k7 w ∧ ∀ s w, I s w → store_Store_save.b2 R (fun s0' b1' m5' k7' w' => (s0' = s0 ∧ b1' = b1 ∧ m5' = m5 ∧ I k7' w') ∧ μ k7' w' < μ s w) s0 b1 m5 s w

def store_Store_save.main (R : Value → World → Prop) (s0 : Option Addr) (b1 : Sl) (w : World) : Prop :=
  CallsV Tryd.prog n_store_Store_last #[.pointer s0] w (fun v_42 w13 =>
  ∃ x_43 : Int, ∃ x_44 : Int, ∃ v_45 : Value, v_42 = .tuple #[.agg #[.int .u64 x_43, .int .i64 x_44], v_45] ∧
  let w14 := w13.alloc (.cells #[.int .u64 0, .int .i64 0] 64);
  (∀ j, j < 2 → Wr w14 ((newA w13).add j)) ∧
  (let w15 := setCells (newA w13) [.int .u64 x_43, .int .i64 x_44] 0 w14;
  ∃ b_46 : Bool, nilB v_45 = some b_46 ∧
  cond (!b_46)
  (R (v_45) w15)
  (∃ x_47 : Int, w15.cell? (newA w13) = some (.int .u64 x_47) ∧
  (∀ j, j < 2 → Wr w15 ((newA w13).add j)) ∧
  (let w16 := setCells (newA w13) [.int .u64 (IntKind.u64.wrap (x_47 + 1)), .int .i64 ((b1.len : Nat) : Int)] 0 w15;
  store_Store_save.l2 R s0 b1 (newA w13) 0 w16))))

def store_Store_save.J0 (R : Value → World → Prop) (k : Nat) (fr : Fr) (w : World) : Prop :=
  cond (Nat.beq k 2) (dec [(0, .ptr), (1, .slice), (5, .addr), (7, (.int .i64))] fr fun x => store_Store_save.l2 R x.1 x.2.1 x.2.2.1 x.2.2.2 w) (cond (Nat.beq k 1) (dec [(0, .ptr), (5, .addr)] fr fun x => store_Store_save.c1 R x.1 x.2 w) (False))

set_option maxRecDepth 100000 in
theorem store_Store_save.lift {R : Value → World → Prop} {s0 : Option Addr} {b1 : Sl} {w : World} (h : store_Store_save.main R s0 b1 w) : CallsV Tryd.prog n_store_Store_save #[.pointer s0, .slice b1.a b1.len b1.cap] w R :=
  liftCalls (c := (.seq (.leaf (cL (bd Tryd.f27))) (.seq (.leaf (cL (cR (bd Tryd.f27)))) (.seq (.seq (.leaf (cL (cL (cR (cR (bd Tryd.f27)))))) (.cnd (.tmp 18) (.seq (.leaf (cL (cT (cR (cL (cR (cR (bd Tryd.f27)))))))) (.leaf (cR (cT (cR (cL (cR (cR (bd Tryd.f27))))))))) (.leaf (cE (cR (cL (cR (cR (bd Tryd.f27))))))))) (.seq (.leaf (cL (cR (cR (cR (bd Tryd.f27)))))) (.seq (.seq (.leaf (cL (cL (cR (cR (cR (cR (bd Tryd.f27)))))))) (.block 0 (.loop 2 (.seq (.seq (.leaf (cL (cL (cB (cB (cR (cL (cR (cR (cR (cR (bd Tryd.f27)))))))))))) (.cnd (.tmp 30) (.leaf (cT (cR (cL (cB (cB (cR (cL (cR (cR (cR (cR (bd Tryd.f27))))))))))))) (.leaf (cE (cR (cL (cB (cB (cR (cL (cR (cR (cR (cR (bd Tryd.f27))))))))))))))) (.seq (.block 1 (.seq (.leaf (cL (cB (cL (cR (cB (cB (cR (cL (cR (cR (cR (cR (bd Tryd.f27)))))))))))))) (.seq (.leaf (cL (cR (cB (cL (cR (cB (cB (cR (cL (cR (cR (cR (cR (bd Tryd.f27))))))))))))))) (.seq (.leaf (cL (cR (cR (cB (cL (cR (cB (cB (cR (cL (cR (cR (cR (cR (bd Tryd.f27)))))))))))))))) (.seq (.leaf (cL (cR (cR (cR (cB (cL (cR (cB (cB (cR (cL (cR (cR (cR (cR (bd Tryd.f27))))))))))))))))) (.cnd (.tmp 52) (.seq (.leaf (cL (cT (cR (cR (cR (cR (cB (cL (cR (cB (cB (cR (cL (cR (cR (cR (cR (bd Tryd.f27))))))))))))))))))) (.leaf (cR (cT (cR (cR (cR (cR (cB (cL (cR (cB (cB (cR (cL (cR (cR (cR (cR (bd Tryd.f27)))))))))))))))))))) (.leaf (cE (cR (cR (cR (cR (cB (cL (cR (cB (cB (cR (cL (cR (cR (cR (cR (bd Tryd.f27)))))))))))))))))))))))) (.leaf (cR (cR (cB (cB (cR (cL (cR (cR (cR (cR (bd Tryd.f27))))))))))))))))) (.cut 1 (.seq (.seq (.leaf (cL (cL (cR (cR (cR (cR (cR (bd Tryd.f27))))))))) (.seq (.leaf (cL (cR (cL (cR (cR (cR (cR (cR (bd Tryd.f27)))))))))) (.cnd (.tmp 61) (.seq (.leaf (cL (cT (cR (cR (cL (cR (cR (cR (cR (cR (bd Tryd.f27)))))))))))) (.leaf (cR (cT (cR (cR (cL (cR (cR (cR (cR (cR (bd Tryd.f27))))))))))))) (.leaf (cE (cR (cR (cL (cR (cR (cR (cR (cR (bd Tryd.f27)))))))))))))) (.seq (.seq (.leaf (cL (cL (cR (cR (cR (cR (cR (cR (bd Tryd.f27)))))))))) (.seq (.leaf (cL (cR (cL (cR (cR (cR (cR (cR (cR (bd Tryd.f27))))))))))) (.cnd (.tmp 76) (.seq (.leaf (cL (cT (cR (cR (cL (cR (cR (cR (cR (cR (cR (bd Tryd.f27))))))))))))) (.leaf (cR (cT (cR (cR (cL (cR (cR (cR (cR (cR (cR (bd Tryd.f27)))))))))))))) (.leaf (cE (cR (cR (cL (cR (cR (cR (cR (cR (cR (bd Tryd.f27))))))))))))))) (.seq (.leaf (cL (cR (cR (cR (cR (cR (cR (cR (bd Tryd.f27)))))))))) (.leaf (cR (cR (cR (cR (cR (cR (cR (cR (bd Tryd.f27)))))))))))))))))))) (J := store_Store_save.J0 R) LfYtledhokhcoeeeaaDoor.mixed Tryd.func27 (by kernel_rfl) (by kernel_rfl) (mkSeq (mkSeq (mkSeq (mkSeq (mkSeq (mkCut (cutDef [(0, .ptr), (5, .addr)] (fun x w => store_Store_save.c1 R x.1 x.2 w) (fun _ _ => by kernel_rfl) (fun _ _ => by kernel_rfl)) (mkSeq (mkSeq (mkSeq mkLeaf mkLeaf) (mkSeq (mkSeq (mkCnd (mkSeq mkLeaf mkLeaf) mkLeaf) mkLeaf) mkLeaf)) (mkSeq (mkSeq (mkCnd (mkSeq mkLeaf mkLeaf) mkLeaf) mkLeaf) mkLeaf))) (mkSeq (mkBlock (mkLoop (loopDef LfYtledhokhcoeeeaaDoor.mixed [(0, .ptr), (1, .slice), (5, .addr), (7, (.int .i64))] (by kernel_rfl) (fun M2 x w => store_Store_save.b2 R (fun y0 y1 y2 y3 w => M2 (y0, y1, y2, y3) w) x.1 x.2.1 x.2.2.1 x.2.2.2 w) (fun M2 => fun _ _ _ => False) (fun _ _ _ => by kernel_rfl) (fun M2 => (mkSeq (mkSeq mkLeaf (mkBlock (mkSeq (mkSeq (mkSeq (mkSeq (mkCnd (mkSeq mkLeaf mkLeaf) mkLeaf) mkLeaf) mkLeaf) mkLeaf) mkLeaf))) (mkSeq (mkCnd mkLeaf mkLeaf) mkLeaf))) (fun x w => store_Store_save.l2 R x.1 x.2.1 x.2.2.1 x.2.2.2 w) (by rintro ⟨c0, c1, c2, s0⟩ w ⟨I, μ, h0, h1⟩; refine ⟨fun y w => y.1 = c0 ∧ y.2.1 = c1 ∧ y.2.2.1 = c2 ∧ I y.2.2.2 w, fun y w => μ y.2.2.2 w, ⟨rfl, rfl, rfl, h0⟩, ?_⟩; rintro ⟨d0, d1, d2, t0⟩ w ⟨e0, e1, e2, hI⟩; dsimp only at e0 e1 e2 hI; subst e0; subst e1; subst e2; exact h1 _ _ hI) (fun _ _ => by kernel_rfl)))) mkLeaf)) mkLeaf) (mkSeq (mkCnd (mkSeq mkLeaf mkLeaf) mkLeaf) mkLeaf)) mkLeaf) mkLeaf) (kcast (by kernel_rfl) h)

/-! store_wrap -/
def store_wrap.main (R : Value → World → Prop) (where0 : ByteArray) (e1 : Int) (w : World) : Prop :=
  cond ((e1 : Int) == 0)
  (R (.nilIface) w)
  (let w1 := w.alloc (.cells #[.string where0, .iface 24 (.int .i64 e1)] 91);
  R (.iface 89 (.pointer (some (newA w)))) w1)

def store_wrap.J0 (_ : Value → World → Prop) (_ : Nat) (_ : Fr) (_ : World) : Prop := False

set_option maxRecDepth 100000 in
theorem store_wrap.lift {R : Value → World → Prop} {where0 : ByteArray} {e1 : Int} {w : World} (h : store_wrap.main R where0 e1 w) : CallsV Tryd.prog n_store_wrap #[.string where0, .int .i64 e1] w R :=
  liftCalls (c := (.seq (.leaf (cL (bd Tryd.f31))) (.seq (.seq (.leaf (cL (cL (cR (bd Tryd.f31))))) (.cnd (.tmp 6) (.seq (.leaf (cL (cT (cR (cL (cR (bd Tryd.f31))))))) (.leaf (cR (cT (cR (cL (cR (bd Tryd.f31)))))))) (.leaf (cE (cR (cL (cR (bd Tryd.f31)))))))) (.seq (.leaf (cL (cR (cR (bd Tryd.f31))))) (.leaf (cR (cR (cR (bd Tryd.f31))))))))) (J := store_wrap.J0 R) LfYtledhokhcoeeeaaDoor.mixed Tryd.func31 (by kernel_rfl) (by kernel_rfl) (mkSeq (mkSeq (mkSeq mkLeaf mkLeaf) (mkSeq (mkCnd (mkSeq mkLeaf mkLeaf) mkLeaf) mkLeaf)) mkLeaf) (kcast (by kernel_rfl) h)

/-! store_low -/
def store_low.b1 (R : Value → World → Prop) (N1 : Sl → Int → Int → Int → World → Prop) (t6 : Sl) (t7 : Int) (x3 : Int) (t8 : Int) (w : World) : Prop :=
  cond (decide ((t8 : Int) < t7))
  (0 ≤ (t8 : Int) ∧ t8 < ((t6.len : Nat) : Int) ∧ ∃ q_1 : Addr, t6.a = some q_1 ∧
  ∃ x_2 : Int, w.cell? (q_1.add (t8 : Int).toNat) = some (.int .u8 x_2) ∧
  0 ≤ ((IntKind.i64.wrap (8 * t8)) : Int) ∧
  (let x3_2 : Int := (Go.bits BinOp.or .u64 x3 (IntKind.u64.wrap ((IntKind.u64.wrap x_2) * 2 ^ (min ((IntKind.i64.wrap (8 * t8)) : Int).toNat IntKind.u64.bits))));
  N1 t6 t7 x3_2 (IntKind.i64.wrap (t8 + 1)) w))
  (R (.int .u64 x3) w)

def store_low.l1 (R : Value → World → Prop) (t6 : Sl) (t7 : Int) (x3 : Int) (t8 : Int) (w : World) : Prop :=
  ∃ (I : (Int × Int) → World → Prop) (μ : (Int × Int) → World → Nat), I (x3, t8) w ∧ ∀ s w, I s w → store_low.b1 R (fun t6' t7' x3' t8' w' => (t6' = t6 ∧ t7' = t7 ∧ I (x3', t8') w') ∧ μ (x3', t8') w' < μ s w) t6 t7 s.1 s.2 w

def store_low.main (R : Value → World → Prop) (b0 : Sl) (w : World) : Prop :=
  store_low.l1 R b0 ((b0.len : Nat) : Int) 0 0 w

def store_low.J0 (R : Value → World → Prop) (k : Nat) (fr : Fr) (w : World) : Prop :=
  cond (Nat.beq k 1) (dec [(6, .slice), (7, (.int .i64)), (3, (.int .u64)), (8, (.int .i64))] fr fun x => store_low.l1 R x.1 x.2.1 x.2.2.1 x.2.2.2 w) (False)

set_option maxRecDepth 100000 in
theorem store_low.lift {R : Value → World → Prop} {b0 : Sl} {w : World} (h : store_low.main R b0 w) : CallsV Tryd.prog n_store_low #[.slice b0.a b0.len b0.cap] w R :=
  liftCalls (c := (.seq (.leaf (cL (bd Tryd.f33))) (.seq (.leaf (cL (cR (bd Tryd.f33)))) (.seq (.seq (.leaf (cL (cL (cR (cR (bd Tryd.f33)))))) (.block 0 (.loop 1 (.seq (.leaf (cL (cB (cB (cR (cL (cR (cR (bd Tryd.f33))))))))) (.seq (.cnd (.tmp 9) (.leaf (cT (cL (cR (cB (cB (cR (cL (cR (cR (bd Tryd.f33))))))))))) (.leaf (cE (cL (cR (cB (cB (cR (cL (cR (cR (bd Tryd.f33)))))))))))) (.seq (.block 1 (.seq (.leaf (cL (cB (cL (cR (cR (cB (cB (cR (cL (cR (cR (bd Tryd.f33))))))))))))) (.leaf (cR (cB (cL (cR (cR (cB (cB (cR (cL (cR (cR (bd Tryd.f33))))))))))))))) (.leaf (cR (cR (cR (cB (cB (cR (cL (cR (cR (bd Tryd.f33))))))))))))))))) (.seq (.leaf (cL (cR (cR (cR (bd Tryd.f33)))))) (.leaf (cR (cR (cR (cR (bd Tryd.f33))))))))))) (J := store_low.J0 R) LfYtledhokhcoeeeaaDoor.mixed Tryd.func33 (by kernel_rfl) (by kernel_rfl) (mkSeq (mkSeq (mkSeq (mkSeq mkLeaf mkLeaf) (mkSeq (mkBlock (mkLoop (loopDef LfYtledhokhcoeeeaaDoor.mixed [(6, .slice), (7, (.int .i64)), (3, (.int .u64)), (8, (.int .i64))] (by kernel_rfl) (fun M1 x w => store_low.b1 R (fun y0 y1 y2 y3 w => M1 (y0, y1, y2, y3) w) x.1 x.2.1 x.2.2.1 x.2.2.2 w) (fun M1 => fun _ _ _ => False) (fun _ _ _ => by kernel_rfl) (fun M1 => (mkSeq (mkSeq (mkSeq mkLeaf (mkBlock (mkSeq mkLeaf mkLeaf))) (mkCnd mkLeaf mkLeaf)) mkLeaf)) (fun x w => store_low.l1 R x.1 x.2.1 x.2.2.1 x.2.2.2 w) (by rintro ⟨c0, c1, s0⟩ w ⟨I, μ, h0, h1⟩; refine ⟨fun y w => y.1 = c0 ∧ y.2.1 = c1 ∧ I y.2.2 w, fun y w => μ y.2.2 w, ⟨rfl, rfl, h0⟩, ?_⟩; rintro ⟨d0, d1, t0⟩ w ⟨e0, e1, hI⟩; dsimp only at e0 e1 hI; subst e0; subst e1; exact h1 _ _ hI) (fun _ _ => by kernel_rfl)))) mkLeaf)) mkLeaf) mkLeaf) (kcast (by kernel_rfl) h)

/-! store_place -/
def store_place.main (R : Value → World → Prop) (count0 : Int) (k1 : Int) (w : World) : Prop :=
  (2 : Int) ≠ 0 ∧
  (let t4_0 : Int := (IntKind.i64.wrap ((IntKind.i64.wrap (2 + (IntKind.i64.wrap ((IntKind.i64.wrap (Int.tmod count0 2)) * 125)))) + k1));
  R (.int .i64 t4_0) w)

def store_place.J0 (_ : Value → World → Prop) (_ : Nat) (_ : Fr) (_ : World) : Prop := False

set_option maxRecDepth 100000 in
theorem store_place.lift {R : Value → World → Prop} {count0 : Int} {k1 : Int} {w : World} (h : store_place.main R count0 k1 w) : CallsV Tryd.prog n_store_place #[.int .u64 count0, .int .i64 k1] w R :=
  liftCalls (c := (.seq (.leaf (cL (bd Tryd.f34))) (.seq (.leaf (cL (cR (bd Tryd.f34)))) (.leaf (cR (cR (bd Tryd.f34))))))) (J := store_place.J0 R) LfYtledhokhcoeeeaaDoor.mixed Tryd.func34 (by kernel_rfl) (by kernel_rfl) (mkSeq (mkSeq mkLeaf mkLeaf) mkLeaf) (kcast (by kernel_rfl) h)

/-! store_mark_sector -/
def store_mark_sector.b1 (R : Value → World → Prop) (N1 : Addr → Sl → Int → World → Prop) (m1 : Addr) (b3 : Sl) (t6 : Int) (w : World) : Prop :=
  cond (decide ((t6 : Int) < 8))
  (∃ S_1 : World → Prop, S_1 w.drew ∧
  ∃ x_2 : Int, (∀ x, S_1 x → x.cell? m1 = some (.int .u64 x_2)) ∧
  0 ≤ ((IntKind.i64.wrap (8 * t6)) : Int) ∧
  ∃ x_3 : Int, (∀ x, S_1 x → x.cell? (m1.add 1) = some (.int .i64 x_3)) ∧
  0 ≤ ((IntKind.i64.wrap (8 * t6)) : Int) ∧
  0 ≤ (t6 : Int) ∧ t6 < ((b3.len : Nat) : Int) ∧ ∃ q_4 : Addr, b3.a = some q_4 ∧
  Wr w.drew (q_4.add (t6 : Int).toNat) ∧
  (let w1 := w.drew.setCell (q_4.add (t6 : Int).toNat) (.int .u8 (IntKind.u8.wrap (Int.fdiv x_2 (2 ^ (min ((IntKind.i64.wrap (8 * t6)) : Int).toNat IntKind.u64.bits)))));
  S_1 w1 ∧
  0 ≤ ((IntKind.i64.wrap (8 + t6)) : Int) ∧ (IntKind.i64.wrap (8 + t6)) < ((b3.len : Nat) : Int) ∧ ∃ q_5 : Addr, b3.a = some q_5 ∧
  Wr w1 (q_5.add (ixOff ((IntKind.i64.wrap (8 + t6)) : Int).toNat 1)) ∧
  (let w2 := w1.setCell (q_5.add (ixOff ((IntKind.i64.wrap (8 + t6)) : Int).toNat 1)) (.int .u8 (IntKind.u8.wrap (Int.fdiv (IntKind.u64.wrap x_3) (2 ^ (min ((IntKind.i64.wrap (8 * t6)) : Int).toNat IntKind.u64.bits)))));
  N1 m1 b3 (IntKind.i64.wrap (t6 + 1)) w2)))
  (R (.slice b3.a b3.len b3.cap) w)

def store_mark_sector.l1 (R : Value → World → Prop) (m1 : Addr) (b3 : Sl) (t6 : Int) (w : World) : Prop :=
  ∃ (I : Int → World → Prop) (μ : Int → World → Nat), I t6 w ∧ ∀ s w, I s w → store_mark_sector.b1 R (fun m1' b3' t6' w' => (m1' = m1 ∧ b3' = b3 ∧ I t6' w') ∧ μ t6' w' < μ s w) m1 b3 s w

def store_mark_sector.main (R : Value → World → Prop) (m0_0 : Int) (m0_1 : Int) (w : World) : Prop :=
  let w3 := w.alloc (.cells #[.int .u64 m0_0, .int .i64 m0_1] 64);
  0 ≤ (64 : Int) ∧ (64 : Int) ≤ 64 ∧ (1 : Int) * 64 ≤ 281474976710656 ∧ (64 : Int) ≤ 9223372036854775807 ∧
  (let w4 := w3.alloc (.cells ((Array.range ((64 : Int).toNat * 1)).map ((#[.int .u8 0] : Array Value)[· % (#[.int .u8 0] : Array Value).size]!)) 5);
  store_mark_sector.l1 R (newA w) ⟨(some (newA w3)), (64 : Int).toNat, (64 : Int).toNat⟩ 0 w4)

def store_mark_sector.J0 (R : Value → World → Prop) (k : Nat) (fr : Fr) (w : World) : Prop :=
  cond (Nat.beq k 1) (dec [(1, .addr), (3, .slice), (6, (.int .i64))] fr fun x => store_mark_sector.l1 R x.1 x.2.1 x.2.2 w) (False)

set_option maxRecDepth 100000 in
theorem store_mark_sector.lift {R : Value → World → Prop} {m0_0 : Int} {m0_1 : Int} {w : World} (h : store_mark_sector.main R m0_0 m0_1 w) : CallsV Tryd.prog n_store_mark_sector #[.agg #[.int .u64 m0_0, .int .i64 m0_1]] w R :=
  liftCalls (c := (.seq (.leaf (cL (bd Tryd.f38))) (.seq (.leaf (cL (cR (bd Tryd.f38)))) (.seq (.seq (.leaf (cL (cL (cR (cR (bd Tryd.f38)))))) (.block 0 (.loop 1 (.seq (.leaf (cL (cB (cB (cR (cL (cR (cR (bd Tryd.f38))))))))) (.seq (.cnd (.tmp 7) (.leaf (cT (cL (cR (cB (cB (cR (cL (cR (cR (bd Tryd.f38))))))))))) (.leaf (cE (cL (cR (cB (cB (cR (cL (cR (cR (bd Tryd.f38)))))))))))) (.seq (.block 1 (.seq (.leaf (cL (cB (cL (cR (cR (cB (cB (cR (cL (cR (cR (bd Tryd.f38))))))))))))) (.leaf (cR (cB (cL (cR (cR (cB (cB (cR (cL (cR (cR (bd Tryd.f38))))))))))))))) (.leaf (cR (cR (cR (cB (cB (cR (cL (cR (cR (bd Tryd.f38))))))))))))))))) (.seq (.leaf (cL (cR (cR (cR (bd Tryd.f38)))))) (.leaf (cR (cR (cR (cR (bd Tryd.f38))))))))))) (J := store_mark_sector.J0 R) LfYtledhokhcoeeeaaDoor.mixed Tryd.func38 (by kernel_rfl) (by kernel_rfl) (mkSeq (mkSeq (mkSeq (mkSeq mkLeaf mkLeaf) (mkSeq (mkBlock (mkLoop (loopDef LfYtledhokhcoeeeaaDoor.mixed [(1, .addr), (3, .slice), (6, (.int .i64))] (by kernel_rfl) (fun M1 x w => store_mark_sector.b1 R (fun y0 y1 y2 w => M1 (y0, y1, y2) w) x.1 x.2.1 x.2.2 w) (fun M1 => fun _ _ _ => False) (fun _ _ _ => by kernel_rfl) (fun M1 => (mkSeq (mkSeq (mkSeq mkLeaf (mkBlock (mkSeq mkLeaf mkLeaf))) (mkCnd mkLeaf mkLeaf)) mkLeaf)) (fun x w => store_mark_sector.l1 R x.1 x.2.1 x.2.2 w) (by rintro ⟨c0, c1, s0⟩ w ⟨I, μ, h0, h1⟩; refine ⟨fun y w => y.1 = c0 ∧ y.2.1 = c1 ∧ I y.2.2 w, fun y w => μ y.2.2 w, ⟨rfl, rfl, h0⟩, ?_⟩; rintro ⟨d0, d1, t0⟩ w ⟨e0, e1, hI⟩; dsimp only at e0 e1 hI; subst e0; subst e1; exact h1 _ _ hI) (fun _ _ => by kernel_rfl)))) mkLeaf)) mkLeaf) mkLeaf) (kcast (by kernel_rfl) h)

end Go.Proofs.YtledhokhcoeeeaaDoor
