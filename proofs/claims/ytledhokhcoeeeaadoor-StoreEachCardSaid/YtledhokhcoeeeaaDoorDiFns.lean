/-
  What the code of these functions comes to, and that it suffices for the call. Written by a program of ours, for this claim.
-/
import Derived.Test.YtledhokhcoeeeaaDoorProg
import Derived.Test.YtledhokhcoeeeaaDoorLift
import Derived.Test.YtledhokhcoeeeaaDoorLiftA
set_option linter.unusedVariables false
set_option linter.unusedVariables false
namespace Go.Proofs.YtledhokhcoeeeaaDoor
open Go.Lf
theorem LfYtledhokhcoeeeaaDoor.mixed : Tryd.prog.follows .mixedOrders = true := by kernel_rfl
abbrev n_disk_New : Nat := 8
abbrev n_trystkeep_Bytes : Nat := 14
abbrev n_disk_Disk_Crash : Nat := 16
abbrev n_disk_Disk_Start : Nat := 17
abbrev n_disk_Disk_Trip : Nat := 20
abbrev n_disk_Disk_Off : Nat := 21
abbrev n_slices_Clone_sector : Nat := 22
abbrev n_disk_Disk_Sectors : Nat := 23
abbrev n_slices_Clone_byte : Nat := 28
abbrev n_slices_Clone_bool : Nat := 29
abbrev n_disk_Disk_Read : Nat := 30
abbrev n_disk_Disk_Write : Nat := 36
abbrev n_disk_Disk_Sync : Nat := 37
abbrev n_disk_Disk_wrong : Nat := 39
abbrev n_disk_Disk_trips : Nat := 46
/-! disk_New -/
def disk_New.c1 (R : Value → World → Prop) (d4 : Option Addr) (w : World) : Prop :=
  ∃ q_1 : Addr, d4 = some q_1 ∧
  ∃ (a_2 : Option Addr) (l_3 c_4 : Nat), w.cell? q_1 = some (.slice a_2 l_3 c_4) ∧
  CallsV Tryd.prog n_slices_Clone_sector #[.slice a_2 l_3 c_4] w (fun v_5 w1 =>
  ∃ (a_6 : Option Addr) (l_7 c_8 : Nat), v_5 = .slice a_6 l_7 c_8 ∧
  ∃ q_9 : Addr, d4 = some q_9 ∧
  Wr w1 (q_9.add 1) ∧
  (let w2 := w1.setCell (q_9.add 1) (.slice a_6 l_7 c_8);
  R (.tuple #[.pointer d4, .int .i64 0]) w2))

def disk_New.b2 (R : Value → World → Prop) (N2 : Option Addr → Int → Int → World → Prop) (d4 : Option Addr) (t13 : Int) (t14 : Int) (w : World) : Prop :=
  cond (decide ((t14 : Int) < t13))
  (∃ S_10 : World → Prop, S_10 w.drew ∧
  ∃ q_11 : Addr, d4 = some q_11 ∧
  ∃ (a_12 : Option Addr) (l_13 c_14 : Nat), (∀ x, S_10 x → x.cell? q_11 = some (.slice a_12 l_13 c_14)) ∧
  0 ≤ (64 : Int) ∧ (64 : Int) ≤ 64 ∧ (1 : Int) * 64 ≤ 281474976710656 ∧ (64 : Int) ≤ 9223372036854775807 ∧
  (let w3 := w.drew.alloc (.cells ((Array.range ((64 : Int).toNat * 1)).map ((#[.int .u8 0] : Array Value)[· % (#[.int .u8 0] : Array Value).size]!)) 5);
  S_10 w3 ∧
  let w4 := w3.alloc (.cells #[.slice (some (newA w.drew)) ((64 : Int).toNat) ((64 : Int).toNat), .bool false] 57);
  S_10 w4 ∧
  ∃ (a_15 : Option Addr) (l_16 c_17 : Nat), ∃ w5 : World, (builtin .append #[51, 51] 51 #[] #[.slice a_12 l_13 c_14, .slice (some (newA w3)) 1 1]).run Tryd.prog w4 = .ok (.value (.slice a_15 l_16 c_17)) w5 ∧
  ∃ q_18 : Addr, d4 = some q_18 ∧
  Wr w5 q_18 ∧
  (let w6 := w5.setCell q_18 (.slice a_15 l_16 c_17);
  N2 d4 t13 (IntKind.i64.wrap (t14 + 1)) w6)))
  (disk_New.c1 R d4 w)

def disk_New.l2 (R : Value → World → Prop) (d4 : Option Addr) (t13 : Int) (t14 : Int) (w : World) : Prop :=
  ∃ (I : Int → World → Prop) (μ : Int → World → Nat), I t14 w ∧ ∀ s w, I s w → disk_New.b2 R (fun d4' t13' t14' w' => (d4' = d4 ∧ t13' = t13 ∧ I t14' w') ∧ μ t14' w' < μ s w) d4 t13 s w

def disk_New.c3 (R : Value → World → Prop) (sectors0 : Int) (w : World) : Prop :=
  let w7 := w.alloc (.cells #[.slice none 0 0, .slice none 0 0, .slice none 0 0, .bool false, .pointer none] 55);
  disk_New.l2 R (some (newA w)) sectors0 0 w7

def disk_New.main (R : Value → World → Prop) (sectors0 : Int) (w : World) : Prop :=
  cond (decide ((sectors0 : Int) < 1))
  (R (.tuple #[.pointer none, .int .i64 1]) w)
  (cond (decide ((sectors0 : Int) > 512))
  (R (.tuple #[.pointer none, .int .i64 1]) w)
  (disk_New.c3 R sectors0 w))

def disk_New.J0 (R : Value → World → Prop) (k : Nat) (fr : Fr) (w : World) : Prop :=
  cond (Nat.beq k 3) (dec [(0, (.int .i64))] fr fun x => disk_New.c3 R x w) (cond (Nat.beq k 2) (dec [(4, .ptr), (13, (.int .i64)), (14, (.int .i64))] fr fun x => disk_New.l2 R x.1 x.2.1 x.2.2 w) (cond (Nat.beq k 1) (dec [(4, .ptr)] fr fun x => disk_New.c1 R x w) (False)))

set_option maxRecDepth 100000 in
theorem disk_New.lift {R : Value → World → Prop} {sectors0 : Int} {w : World} (h : disk_New.main R sectors0 w) : CallsV Tryd.prog n_disk_New #[.int .i64 sectors0] w R :=
  liftCalls (c := (.seq (.leaf (cL (bd Tryd.f8))) (.seq (.seq (.leaf (cL (cL (cR (bd Tryd.f8))))) (.cnd (.tmp 10) (.seq (.leaf (cL (cT (cR (cL (cR (bd Tryd.f8))))))) (.leaf (cR (cT (cR (cL (cR (bd Tryd.f8)))))))) (.leaf (cE (cR (cL (cR (bd Tryd.f8)))))))) (.cut 3 (.seq (.leaf (cL (cR (cR (bd Tryd.f8))))) (.seq (.seq (.leaf (cL (cL (cR (cR (cR (bd Tryd.f8))))))) (.block 0 (.loop 2 (.seq (.leaf (cL (cB (cB (cR (cL (cR (cR (cR (bd Tryd.f8)))))))))) (.seq (.cnd (.tmp 15) (.leaf (cT (cL (cR (cB (cB (cR (cL (cR (cR (cR (bd Tryd.f8)))))))))))) (.leaf (cE (cL (cR (cB (cB (cR (cL (cR (cR (cR (bd Tryd.f8))))))))))))) (.seq (.block 1 (.leaf (cB (cL (cR (cR (cB (cB (cR (cL (cR (cR (cR (bd Tryd.f8)))))))))))))) (.leaf (cR (cR (cR (cB (cB (cR (cL (cR (cR (cR (bd Tryd.f8)))))))))))))))))) (.cut 1 (.seq (.leaf (cL (cR (cR (cR (cR (bd Tryd.f8))))))) (.seq (.leaf (cL (cR (cR (cR (cR (cR (bd Tryd.f8)))))))) (.leaf (cR (cR (cR (cR (cR (cR (bd Tryd.f8))))))))))))))))) (J := disk_New.J0 R) LfYtledhokhcoeeeaaDoor.mixed Tryd.func8 (by kernel_rfl) (by kernel_rfl) (mkSeq (mkSeq (mkCut (cutDef [(0, (.int .i64))] (fun x w => disk_New.c3 R x w) (fun _ _ => by kernel_rfl) (fun _ _ => by kernel_rfl)) (mkSeq (mkSeq (mkCut (cutDef [(4, .ptr)] (fun x w => disk_New.c1 R x w) (fun _ _ => by kernel_rfl) (fun _ _ => by kernel_rfl)) (mkSeq (mkSeq mkLeaf mkLeaf) mkLeaf)) (mkSeq (mkBlock (mkLoop (loopDef LfYtledhokhcoeeeaaDoor.mixed [(4, .ptr), (13, (.int .i64)), (14, (.int .i64))] (by kernel_rfl) (fun M2 x w => disk_New.b2 R (fun y0 y1 y2 w => M2 (y0, y1, y2) w) x.1 x.2.1 x.2.2 w) (fun M2 => fun _ _ _ => False) (fun _ _ _ => by kernel_rfl) (fun M2 => (mkSeq (mkSeq (mkSeq mkLeaf (mkBlock mkLeaf)) (mkCnd mkLeaf mkLeaf)) mkLeaf)) (fun x w => disk_New.l2 R x.1 x.2.1 x.2.2 w) (by rintro ⟨c0, c1, s0⟩ w ⟨I, μ, h0, h1⟩; refine ⟨fun y w => y.1 = c0 ∧ y.2.1 = c1 ∧ I y.2.2 w, fun y w => μ y.2.2 w, ⟨rfl, rfl, h0⟩, ?_⟩; rintro ⟨d0, d1, t0⟩ w ⟨e0, e1, hI⟩; dsimp only at e0 e1 hI; subst e0; subst e1; exact h1 _ _ hI) (fun _ _ => by kernel_rfl)))) mkLeaf)) mkLeaf)) (mkSeq (mkCnd (mkSeq mkLeaf mkLeaf) mkLeaf) mkLeaf)) mkLeaf) (kcast (by kernel_rfl) h)

/-! trystkeep_Bytes -/
def trystkeep_Bytes.b1 (R : Value → World → Prop) (N1 : Sl → Sl → Int → World → Prop) (a0 : Sl) (b1 : Sl) (i5 : Int) (w : World) : Prop :=
  cond (decide ((i5 : Int) < ((a0.len : Nat) : Int)))
  (0 ≤ (i5 : Int) ∧ i5 < ((a0.len : Nat) : Int) ∧ ∃ q_1 : Addr, a0.a = some q_1 ∧
  ∃ x_2 : Int, w.cell? (q_1.add (i5 : Int).toNat) = some (.int .u8 x_2) ∧
  0 ≤ (i5 : Int) ∧ i5 < ((b1.len : Nat) : Int) ∧ ∃ q_3 : Addr, b1.a = some q_3 ∧
  ∃ x_4 : Int, w.cell? (q_3.add (i5 : Int).toNat) = some (.int .u8 x_4) ∧
  cond ((x_2 : Int) != x_4)
  (R (.bool false) w.drew)
  ((let i5_4 : Int := (IntKind.i64.wrap (i5 + 1));
  N1 a0 b1 i5_4 w.drew)))
  (R (.bool true) w)

def trystkeep_Bytes.l1 (R : Value → World → Prop) (a0 : Sl) (b1 : Sl) (i5 : Int) (w : World) : Prop :=
  ∃ (I : Int → World → Prop) (μ : Int → World → Nat), I i5 w ∧ ∀ s w, I s w → trystkeep_Bytes.b1 R (fun a0' b1' i5' w' => (a0' = a0 ∧ b1' = b1 ∧ I i5' w') ∧ μ i5' w' < μ s w) a0 b1 s w

def trystkeep_Bytes.main (R : Value → World → Prop) (a0 : Sl) (b1 : Sl) (w : World) : Prop :=
  cond ((((a0.len : Nat) : Int) : Int) != ((b1.len : Nat) : Int))
  (R (.bool false) w)
  (trystkeep_Bytes.l1 R a0 b1 0 w)

def trystkeep_Bytes.J0 (R : Value → World → Prop) (k : Nat) (fr : Fr) (w : World) : Prop :=
  cond (Nat.beq k 1) (dec [(0, .slice), (1, .slice), (5, (.int .i64))] fr fun x => trystkeep_Bytes.l1 R x.1 x.2.1 x.2.2 w) (False)

set_option maxRecDepth 100000 in
theorem trystkeep_Bytes.lift {R : Value → World → Prop} {a0 : Sl} {b1 : Sl} {w : World} (h : trystkeep_Bytes.main R a0 b1 w) : CallsV Tryd.prog n_trystkeep_Bytes #[.slice a0.a a0.len a0.cap, .slice b1.a b1.len b1.cap] w R :=
  liftCalls (c := (.seq (.leaf (cL (bd Tryd.f14))) (.seq (.seq (.leaf (cL (cL (cR (bd Tryd.f14))))) (.cnd (.tmp 10) (.seq (.leaf (cL (cT (cR (cL (cR (bd Tryd.f14))))))) (.leaf (cR (cT (cR (cL (cR (bd Tryd.f14)))))))) (.leaf (cE (cR (cL (cR (bd Tryd.f14)))))))) (.seq (.seq (.leaf (cL (cL (cR (cR (bd Tryd.f14)))))) (.block 0 (.loop 1 (.seq (.seq (.leaf (cL (cL (cB (cB (cR (cL (cR (cR (bd Tryd.f14)))))))))) (.cnd (.tmp 14) (.leaf (cT (cR (cL (cB (cB (cR (cL (cR (cR (bd Tryd.f14))))))))))) (.leaf (cE (cR (cL (cB (cB (cR (cL (cR (cR (bd Tryd.f14))))))))))))) (.seq (.block 1 (.seq (.leaf (cL (cB (cL (cR (cB (cB (cR (cL (cR (cR (bd Tryd.f14)))))))))))) (.cnd (.tmp 25) (.seq (.leaf (cL (cT (cR (cB (cL (cR (cB (cB (cR (cL (cR (cR (bd Tryd.f14)))))))))))))) (.leaf (cR (cT (cR (cB (cL (cR (cB (cB (cR (cL (cR (cR (bd Tryd.f14))))))))))))))) (.leaf (cE (cR (cB (cL (cR (cB (cB (cR (cL (cR (cR (bd Tryd.f14)))))))))))))))) (.leaf (cR (cR (cB (cB (cR (cL (cR (cR (bd Tryd.f14))))))))))))))) (.seq (.leaf (cL (cR (cR (cR (bd Tryd.f14)))))) (.leaf (cR (cR (cR (cR (bd Tryd.f14))))))))))) (J := trystkeep_Bytes.J0 R) LfYtledhokhcoeeeaaDoor.mixed Tryd.func14 (by kernel_rfl) (by kernel_rfl) (mkSeq (mkSeq (mkSeq (mkSeq mkLeaf mkLeaf) (mkSeq (mkBlock (mkLoop (loopDef LfYtledhokhcoeeeaaDoor.mixed [(0, .slice), (1, .slice), (5, (.int .i64))] (by kernel_rfl) (fun M1 x w => trystkeep_Bytes.b1 R (fun y0 y1 y2 w => M1 (y0, y1, y2) w) x.1 x.2.1 x.2.2 w) (fun M1 => fun _ _ _ => False) (fun _ _ _ => by kernel_rfl) (fun M1 => (mkSeq (mkSeq mkLeaf (mkBlock (mkSeq (mkCnd (mkSeq mkLeaf mkLeaf) mkLeaf) mkLeaf))) (mkSeq (mkCnd mkLeaf mkLeaf) mkLeaf))) (fun x w => trystkeep_Bytes.l1 R x.1 x.2.1 x.2.2 w) (by rintro ⟨c0, c1, s0⟩ w ⟨I, μ, h0, h1⟩; refine ⟨fun y w => y.1 = c0 ∧ y.2.1 = c1 ∧ I y.2.2 w, fun y w => μ y.2.2 w, ⟨rfl, rfl, h0⟩, ?_⟩; rintro ⟨d0, d1, t0⟩ w ⟨e0, e1, hI⟩; dsimp only at e0 e1 hI; subst e0; subst e1; exact h1 _ _ hI) (fun _ _ => by kernel_rfl)))) mkLeaf)) (mkSeq (mkCnd (mkSeq mkLeaf mkLeaf) mkLeaf) mkLeaf)) mkLeaf) (kcast (by kernel_rfl) h)

/-! disk_Disk_Crash -/
def disk_Disk_Crash.c1 (R : Value → World → Prop) (d0 : Option Addr) (w : World) : Prop :=
  ∃ q_1 : Addr, d0 = some q_1 ∧
  ∃ (a_2 : Option Addr) (l_3 c_4 : Nat), w.cell? q_1 = some (.slice a_2 l_3 c_4) ∧
  CallsV Tryd.prog n_slices_Clone_sector #[.slice a_2 l_3 c_4] w (fun v_5 w1 =>
  ∃ (a_6 : Option Addr) (l_7 c_8 : Nat), v_5 = .slice a_6 l_7 c_8 ∧
  ∃ q_9 : Addr, d0 = some q_9 ∧
  Wr w1 (q_9.add 1) ∧
  (let w2 := w1.setCell (q_9.add 1) (.slice a_6 l_7 c_8);
  ∃ q_10 : Addr, d0 = some q_10 ∧
  Wr w2 (q_10.add 2) ∧
  (let w3 := w2.setCell (q_10.add 2) (.slice none 0 0);
  ∃ q_11 : Addr, d0 = some q_11 ∧
  Wr w3 (q_11.add 4) ∧
  (let w4 := w3.setCell (q_11.add 4) (.pointer none);
  ∃ q_12 : Addr, d0 = some q_12 ∧
  Wr w4 (q_12.add 3) ∧
  (let w5 := w4.setCell (q_12.add 3) (.bool true);
  R (.tuple #[]) w5)))))

def disk_Disk_Crash.c3 (R : Value → World → Prop) (N2 : Option Addr → Sl → Int → Sl → Int → Int → World → Prop) (d0 : Option Addr) (keep1 : Sl) (torn2 : Int) (wv7 : Addr) (t15 : Sl) (t16 : Int) (t17 : Int) (w : World) : Prop :=
  ∃ S_13 : World → Prop, S_13 w.drew ∧
  ∃ q_14 : Addr, d0 = some q_14 ∧
  ∃ (a_15 : Option Addr) (l_16 c_17 : Nat), (∀ x, S_13 x → x.cell? q_14 = some (.slice a_15 l_16 c_17)) ∧
  ∃ x_18 : Int, (∀ x, S_13 x → x.cell? wv7 = some (.int .i64 x_18)) ∧
  ∃ (a_19 : Option Addr) (l_20 c_21 : Nat), (∀ x, S_13 x → x.cell? (wv7.add 1) = some (.slice a_19 l_20 c_21)) ∧
  0 ≤ (x_18 : Int) ∧ x_18 < ((l_16 : Nat) : Int) ∧ ∃ q_22 : Addr, a_15 = some q_22 ∧
  (∀ j, j < 2 → Wr w.drew ((q_22.add ((x_18 : Int).toNat * 2)).add j)) ∧
  (let w6 := setCells (q_22.add ((x_18 : Int).toNat * 2)) [.slice a_19 l_20 c_21, .bool false] 0 w.drew;
  N2 d0 keep1 torn2 t15 t16 (IntKind.i64.wrap (t17 + 1)) w6)

def disk_Disk_Crash.b2 (R : Value → World → Prop) (N2 : Option Addr → Sl → Int → Sl → Int → Int → World → Prop) (d0 : Option Addr) (keep1 : Sl) (torn2 : Int) (t15 : Sl) (t16 : Int) (t17 : Int) (w : World) : Prop :=
  cond (decide ((t17 : Int) < t16))
  (0 ≤ (t17 : Int) ∧ t17 < ((t15.len : Nat) : Int) ∧ ∃ q_23 : Addr, t15.a = some q_23 ∧
  ∃ x_24 : Int, w.cell? (q_23.add ((t17 : Int).toNat * 2)) = some (.int .i64 x_24) ∧
  ∃ (a_25 : Option Addr) (l_26 c_27 : Nat), w.cell? ((q_23.add ((t17 : Int).toNat * 2)).add 1) = some (.slice a_25 l_26 c_27) ∧
  let w7 := w.alloc (.cells #[.int .i64 0, .slice none 0 0] 74);
  (∀ j, j < 2 → Wr w7 ((newA w).add j)) ∧
  (let w8 := setCells (newA w) [.int .i64 x_24, .slice a_25 l_26 c_27] 0 w7;
  cond ((t17 : Int) == torn2)
  (∃ S_28 : World → Prop, S_28 w8.drew ∧
  ∃ q_29 : Addr, d0 = some q_29 ∧
  ∃ (a_30 : Option Addr) (l_31 c_32 : Nat), (∀ x, S_28 x → x.cell? q_29 = some (.slice a_30 l_31 c_32)) ∧
  ∃ x_33 : Int, (∀ x, S_28 x → x.cell? (newA w) = some (.int .i64 x_33)) ∧
  0 ≤ (x_33 : Int) ∧ x_33 < ((l_31 : Nat) : Int) ∧ ∃ q_34 : Addr, a_30 = some q_34 ∧
  (∀ j, j < 2 → Wr w8.drew ((q_34.add ((x_33 : Int).toNat * 2)).add j)) ∧
  (let w9 := setCells (q_34.add ((x_33 : Int).toNat * 2)) [.slice none 0 0, .bool true] 0 w8.drew;
  N2 d0 keep1 torn2 t15 t16 (IntKind.i64.wrap (t17 + 1)) w9))
  (cond (decide ((t17 : Int) < ((keep1.len : Nat) : Int)))
  (0 ≤ (t17 : Int) ∧ t17 < ((keep1.len : Nat) : Int) ∧ ∃ q_35 : Addr, keep1.a = some q_35 ∧
  ∃ b_36 : Bool, w8.cell? (q_35.add (t17 : Int).toNat) = some (.bool b_36) ∧
  cond b_36
  (disk_Disk_Crash.c3 R N2 d0 keep1 torn2 (newA w) t15 t16 t17 w8)
  (N2 d0 keep1 torn2 t15 t16 (IntKind.i64.wrap (t17 + 1)) w8))
  (N2 d0 keep1 torn2 t15 t16 (IntKind.i64.wrap (t17 + 1)) w8))))
  (disk_Disk_Crash.c1 R d0 w)

def disk_Disk_Crash.l2 (R : Value → World → Prop) (d0 : Option Addr) (keep1 : Sl) (torn2 : Int) (t15 : Sl) (t16 : Int) (t17 : Int) (w : World) : Prop :=
  ∃ (I : Int → World → Prop) (μ : Int → World → Nat), I t17 w ∧ ∀ s w, I s w → disk_Disk_Crash.b2 R (fun d0' keep1' torn2' t15' t16' t17' w' => (d0' = d0 ∧ keep1' = keep1 ∧ torn2' = torn2 ∧ t15' = t15 ∧ t16' = t16 ∧ I t17' w') ∧ μ t17' w' < μ s w) d0 keep1 torn2 t15 t16 s w

def disk_Disk_Crash.main (R : Value → World → Prop) (d0 : Option Addr) (keep1 : Sl) (torn2 : Int) (w : World) : Prop :=
  ∃ q_37 : Addr, d0 = some q_37 ∧
  ∃ b_38 : Bool, w.cell? (q_37.add 3) = some (.bool b_38) ∧
  cond b_38
  (R (.tuple #[]) w)
  (∃ q_39 : Addr, d0 = some q_39 ∧
  ∃ (a_40 : Option Addr) (l_41 c_42 : Nat), w.cell? (q_39.add 2) = some (.slice a_40 l_41 c_42) ∧
  disk_Disk_Crash.l2 R d0 keep1 torn2 ⟨a_40, l_41, c_42⟩ ((l_41 : Nat) : Int) 0 w)

def disk_Disk_Crash.J2 (R : Value → World → Prop) (N2 : Option Addr → Sl → Int → Sl → Int → Int → World → Prop) (k : Nat) (fr : Fr) (w : World) : Prop :=
  cond (Nat.beq k 3) (dec [(0, .ptr), (1, .slice), (2, (.int .i64)), (7, .addr), (15, .slice), (16, (.int .i64)), (17, (.int .i64))] fr fun x => disk_Disk_Crash.c3 R N2 x.1 x.2.1 x.2.2.1 x.2.2.2.1 x.2.2.2.2.1 x.2.2.2.2.2.1 x.2.2.2.2.2.2 w) (False)

def disk_Disk_Crash.J0 (R : Value → World → Prop) (k : Nat) (fr : Fr) (w : World) : Prop :=
  cond (Nat.beq k 2) (dec [(0, .ptr), (1, .slice), (2, (.int .i64)), (15, .slice), (16, (.int .i64)), (17, (.int .i64))] fr fun x => disk_Disk_Crash.l2 R x.1 x.2.1 x.2.2.1 x.2.2.2.1 x.2.2.2.2.1 x.2.2.2.2.2 w) (cond (Nat.beq k 1) (dec [(0, .ptr)] fr fun x => disk_Disk_Crash.c1 R x w) (False))

set_option maxRecDepth 100000 in
theorem disk_Disk_Crash.lift {R : Value → World → Prop} {d0 : Option Addr} {keep1 : Sl} {torn2 : Int} {w : World} (h : disk_Disk_Crash.main R d0 keep1 torn2 w) : CallsV Tryd.prog n_disk_Disk_Crash #[.pointer d0, .slice keep1.a keep1.len keep1.cap, .int .i64 torn2] w R :=
  liftCalls (c := (.seq (.seq (.leaf (cL (cL (bd Tryd.f16)))) (.cnd (.tmp 11) (.leaf (cT (cR (cL (bd Tryd.f16))))) (.leaf (cE (cR (cL (bd Tryd.f16))))))) (.seq (.seq (.leaf (cL (cL (cR (bd Tryd.f16))))) (.block 0 (.loop 2 (.seq (.leaf (cL (cB (cB (cR (cL (cR (bd Tryd.f16)))))))) (.seq (.cnd (.tmp 18) (.leaf (cT (cL (cR (cB (cB (cR (cL (cR (bd Tryd.f16)))))))))) (.leaf (cE (cL (cR (cB (cB (cR (cL (cR (bd Tryd.f16))))))))))) (.seq (.block 1 (.seq (.leaf (cL (cB (cL (cR (cR (cB (cB (cR (cL (cR (bd Tryd.f16)))))))))))) (.block 2 (.seq (.leaf (cL (cB (cR (cB (cL (cR (cR (cB (cB (cR (cL (cR (bd Tryd.f16)))))))))))))) (.cnd (.tmp 22) (.leaf (cT (cR (cB (cR (cB (cL (cR (cR (cB (cB (cR (cL (cR (bd Tryd.f16))))))))))))))) (.seq (.leaf (cL (cE (cR (cB (cR (cB (cL (cR (cR (cB (cB (cR (cL (cR (bd Tryd.f16)))))))))))))))) (.cnd (.tmp 34) (.cut 3 (.leaf (cT (cR (cE (cR (cB (cR (cB (cL (cR (cR (cB (cB (cR (cL (cR (bd Tryd.f16)))))))))))))))))) (.leaf (cE (cR (cE (cR (cB (cR (cB (cL (cR (cR (cB (cB (cR (cL (cR (bd Tryd.f16)))))))))))))))))))))))) (.leaf (cR (cR (cR (cB (cB (cR (cL (cR (bd Tryd.f16)))))))))))))))) (.cut 1 (.leaf (cR (cR (bd Tryd.f16)))))))) (J := disk_Disk_Crash.J0 R) LfYtledhokhcoeeeaaDoor.mixed Tryd.func16 (by kernel_rfl) (by kernel_rfl) (mkSeq (mkSeq (mkCut (cutDef [(0, .ptr)] (fun x w => disk_Disk_Crash.c1 R x w) (fun _ _ => by kernel_rfl) (fun _ _ => by kernel_rfl)) mkLeaf) (mkSeq (mkBlock (mkLoop (loopDef LfYtledhokhcoeeeaaDoor.mixed [(0, .ptr), (1, .slice), (2, (.int .i64)), (15, .slice), (16, (.int .i64)), (17, (.int .i64))] (by kernel_rfl) (fun M2 x w => disk_Disk_Crash.b2 R (fun y0 y1 y2 y3 y4 y5 w => M2 (y0, y1, y2, y3, y4, y5) w) x.1 x.2.1 x.2.2.1 x.2.2.2.1 x.2.2.2.2.1 x.2.2.2.2.2 w) (fun M2 => disk_Disk_Crash.J2 R (fun y0 y1 y2 y3 y4 y5 w => M2 (y0, y1, y2, y3, y4, y5) w)) (fun _ _ _ => by kernel_rfl) (fun M2 => (mkSeq (mkSeq (mkSeq mkLeaf (mkBlock (mkSeq (mkBlock (mkSeq (mkCnd mkLeaf (mkSeq (mkCnd (mkCut (cutDef [(0, .ptr), (1, .slice), (2, (.int .i64)), (7, .addr), (15, .slice), (16, (.int .i64)), (17, (.int .i64))] (fun x w => disk_Disk_Crash.c3 R (fun y0 y1 y2 y3 y4 y5 w => M2 (y0, y1, y2, y3, y4, y5) w) x.1 x.2.1 x.2.2.1 x.2.2.2.1 x.2.2.2.2.1 x.2.2.2.2.2.1 x.2.2.2.2.2.2 w) (fun _ _ => by kernel_rfl) (fun _ _ => by kernel_rfl)) mkLeaf) mkLeaf) mkLeaf)) mkLeaf)) mkLeaf))) (mkCnd mkLeaf mkLeaf)) mkLeaf)) (fun x w => disk_Disk_Crash.l2 R x.1 x.2.1 x.2.2.1 x.2.2.2.1 x.2.2.2.2.1 x.2.2.2.2.2 w) (by rintro ⟨c0, c1, c2, c3, c4, s0⟩ w ⟨I, μ, h0, h1⟩; refine ⟨fun y w => y.1 = c0 ∧ y.2.1 = c1 ∧ y.2.2.1 = c2 ∧ y.2.2.2.1 = c3 ∧ y.2.2.2.2.1 = c4 ∧ I y.2.2.2.2.2 w, fun y w => μ y.2.2.2.2.2 w, ⟨rfl, rfl, rfl, rfl, rfl, h0⟩, ?_⟩; rintro ⟨d0, d1, d2, d3, d4, t0⟩ w ⟨e0, e1, e2, e3, e4, hI⟩; dsimp only at e0 e1 e2 e3 e4 hI; subst e0; subst e1; subst e2; subst e3; subst e4; exact h1 _ _ hI) (fun _ _ => by kernel_rfl)))) mkLeaf)) (mkSeq (mkCnd mkLeaf mkLeaf) mkLeaf)) (kcast (by kernel_rfl) h)

/-! disk_Disk_Start -/
def disk_Disk_Start.main (R : Value → World → Prop) (d0 : Option Addr) (w : World) : Prop :=
  ∃ q_1 : Addr, d0 = some q_1 ∧
  Wr w (q_1.add 3) ∧
  (let w1 := w.setCell (q_1.add 3) (.bool false);
  R (.tuple #[]) w1)

def disk_Disk_Start.J0 (_ : Value → World → Prop) (_ : Nat) (_ : Fr) (_ : World) : Prop := False

set_option maxRecDepth 100000 in
theorem disk_Disk_Start.lift {R : Value → World → Prop} {d0 : Option Addr} {w : World} (h : disk_Disk_Start.main R d0 w) : CallsV Tryd.prog n_disk_Disk_Start #[.pointer d0] w R :=
  liftCalls (c := (.leaf (bd Tryd.f17))) (J := disk_Disk_Start.J0 R) LfYtledhokhcoeeeaaDoor.mixed Tryd.func17 (by kernel_rfl) (by kernel_rfl) mkLeaf (kcast (by kernel_rfl) h)

/-! disk_Disk_Trip -/
def disk_Disk_Trip.main (R : Value → World → Prop) (d0 : Option Addr) (n1 : Int) (keep2 : Sl) (torn3 : Int) (w : World) : Prop :=
  ∃ q_1 : Addr, d0 = some q_1 ∧
  Wr w (q_1.add 4) ∧
  (let w1 := w.setCell (q_1.add 4) (.pointer none);
  cond (decide ((n1 : Int) ≥ 1))
  (CallsV Tryd.prog n_slices_Clone_bool #[.slice keep2.a keep2.len keep2.cap] w1 (fun v_2 w2 =>
  ∃ (a_3 : Option Addr) (l_4 c_5 : Nat), v_2 = .slice a_3 l_4 c_5 ∧
  let w3 := w2.alloc (.cells #[.int .i64 n1, .slice a_3 l_4 c_5, .int .i64 torn3] 77);
  ∃ q_6 : Addr, d0 = some q_6 ∧
  Wr w3 (q_6.add 4) ∧
  (let w4 := w3.setCell (q_6.add 4) (.pointer (some (newA w2)));
  R (.tuple #[]) w4)))
  (R (.tuple #[]) w1))

def disk_Disk_Trip.J0 (_ : Value → World → Prop) (_ : Nat) (_ : Fr) (_ : World) : Prop := False

set_option maxRecDepth 100000 in
theorem disk_Disk_Trip.lift {R : Value → World → Prop} {d0 : Option Addr} {n1 : Int} {keep2 : Sl} {torn3 : Int} {w : World} (h : disk_Disk_Trip.main R d0 n1 keep2 torn3 w) : CallsV Tryd.prog n_disk_Disk_Trip #[.pointer d0, .int .i64 n1, .slice keep2.a keep2.len keep2.cap, .int .i64 torn3] w R :=
  liftCalls (c := (.seq (.leaf (cL (bd Tryd.f20))) (.seq (.leaf (cL (cR (bd Tryd.f20)))) (.cnd (.tmp 12) (.leaf (cT (cR (cR (bd Tryd.f20))))) (.leaf (cE (cR (cR (bd Tryd.f20))))))))) (J := disk_Disk_Trip.J0 R) LfYtledhokhcoeeeaaDoor.mixed Tryd.func20 (by kernel_rfl) (by kernel_rfl) (mkSeq (mkSeq (mkCnd mkLeaf mkLeaf) mkLeaf) mkLeaf) (kcast (by kernel_rfl) h)

/-! disk_Disk_Off -/
def disk_Disk_Off.main (R : Value → World → Prop) (d0 : Option Addr) (w : World) : Prop :=
  ∃ q_1 : Addr, d0 = some q_1 ∧
  ∃ b_2 : Bool, w.cell? (q_1.add 3) = some (.bool b_2) ∧
  R (.bool b_2) w

def disk_Disk_Off.J0 (_ : Value → World → Prop) (_ : Nat) (_ : Fr) (_ : World) : Prop := False

set_option maxRecDepth 100000 in
theorem disk_Disk_Off.lift {R : Value → World → Prop} {d0 : Option Addr} {w : World} (h : disk_Disk_Off.main R d0 w) : CallsV Tryd.prog n_disk_Disk_Off #[.pointer d0] w R :=
  liftCalls (c := (.seq (.leaf (cL (bd Tryd.f21))) (.seq (.leaf (cL (cR (bd Tryd.f21)))) (.leaf (cR (cR (bd Tryd.f21))))))) (J := disk_Disk_Off.J0 R) LfYtledhokhcoeeeaaDoor.mixed Tryd.func21 (by kernel_rfl) (by kernel_rfl) (mkSeq (mkSeq mkLeaf mkLeaf) mkLeaf) (kcast (by kernel_rfl) h)

/-! slices_Clone_sector -/
def slices_Clone_sector.main (R : Value → World → Prop) (s0 : Sl) (w : World) : Prop :=
  cond ((s0.a).isNone)
  (R (.slice none 0 0) w)
  (let w1 := w.alloc (.cells #[] 57);
  ∃ (a_1 : Option Addr) (l_2 c_3 : Nat), ∃ w2 : World, (builtin .append #[51, 51] 51 #[] #[.slice (some (newA w)) 0 0, .slice s0.a s0.len s0.cap]).run Tryd.prog w1 = .ok (.value (.slice a_1 l_2 c_3)) w2 ∧
  R (.slice a_1 l_2 c_3) w2)

def slices_Clone_sector.J0 (_ : Value → World → Prop) (_ : Nat) (_ : Fr) (_ : World) : Prop := False

set_option maxRecDepth 100000 in
theorem slices_Clone_sector.lift {R : Value → World → Prop} {s0 : Sl} {w : World} (h : slices_Clone_sector.main R s0 w) : CallsV Tryd.prog n_slices_Clone_sector #[.slice s0.a s0.len s0.cap] w R :=
  liftCalls (c := (.seq (.leaf (cL (bd Tryd.f22))) (.seq (.seq (.leaf (cL (cL (cR (bd Tryd.f22))))) (.cnd (.tmp 4) (.seq (.leaf (cL (cT (cR (cL (cR (bd Tryd.f22))))))) (.leaf (cR (cT (cR (cL (cR (bd Tryd.f22)))))))) (.leaf (cE (cR (cL (cR (bd Tryd.f22)))))))) (.seq (.leaf (cL (cR (cR (bd Tryd.f22))))) (.leaf (cR (cR (cR (bd Tryd.f22))))))))) (J := slices_Clone_sector.J0 R) LfYtledhokhcoeeeaaDoor.mixed Tryd.func22 (by kernel_rfl) (by kernel_rfl) (mkSeq (mkSeq (mkSeq mkLeaf mkLeaf) (mkSeq (mkCnd (mkSeq mkLeaf mkLeaf) mkLeaf) mkLeaf)) mkLeaf) (kcast (by kernel_rfl) h)

/-! disk_Disk_Sectors -/
def disk_Disk_Sectors.main (R : Value → World → Prop) (d0 : Option Addr) (w : World) : Prop :=
  ∃ q_1 : Addr, d0 = some q_1 ∧
  ∃ (a_2 : Option Addr) (l_3 c_4 : Nat), w.cell? q_1 = some (.slice a_2 l_3 c_4) ∧
  R (.int .i64 ((l_3 : Nat) : Int)) w

def disk_Disk_Sectors.J0 (_ : Value → World → Prop) (_ : Nat) (_ : Fr) (_ : World) : Prop := False

set_option maxRecDepth 100000 in
theorem disk_Disk_Sectors.lift {R : Value → World → Prop} {d0 : Option Addr} {w : World} (h : disk_Disk_Sectors.main R d0 w) : CallsV Tryd.prog n_disk_Disk_Sectors #[.pointer d0] w R :=
  liftCalls (c := (.seq (.leaf (cL (bd Tryd.f23))) (.seq (.leaf (cL (cR (bd Tryd.f23)))) (.leaf (cR (cR (bd Tryd.f23))))))) (J := disk_Disk_Sectors.J0 R) LfYtledhokhcoeeeaaDoor.mixed Tryd.func23 (by kernel_rfl) (by kernel_rfl) (mkSeq (mkSeq mkLeaf mkLeaf) mkLeaf) (kcast (by kernel_rfl) h)

/-! slices_Clone_byte -/
def slices_Clone_byte.main (R : Value → World → Prop) (s0 : Sl) (w : World) : Prop :=
  cond ((s0.a).isNone)
  (R (.slice none 0 0) w)
  (let w1 := w.alloc (.cells #[] 5);
  ∃ (a_1 : Option Addr) (l_2 c_3 : Nat), ∃ w2 : World, (builtin .append #[30, 30] 30 #[] #[.slice (some (newA w)) 0 0, .slice s0.a s0.len s0.cap]).run Tryd.prog w1 = .ok (.value (.slice a_1 l_2 c_3)) w2 ∧
  R (.slice a_1 l_2 c_3) w2)

def slices_Clone_byte.J0 (_ : Value → World → Prop) (_ : Nat) (_ : Fr) (_ : World) : Prop := False

set_option maxRecDepth 100000 in
theorem slices_Clone_byte.lift {R : Value → World → Prop} {s0 : Sl} {w : World} (h : slices_Clone_byte.main R s0 w) : CallsV Tryd.prog n_slices_Clone_byte #[.slice s0.a s0.len s0.cap] w R :=
  liftCalls (c := (.seq (.leaf (cL (bd Tryd.f28))) (.seq (.seq (.leaf (cL (cL (cR (bd Tryd.f28))))) (.cnd (.tmp 4) (.seq (.leaf (cL (cT (cR (cL (cR (bd Tryd.f28))))))) (.leaf (cR (cT (cR (cL (cR (bd Tryd.f28)))))))) (.leaf (cE (cR (cL (cR (bd Tryd.f28)))))))) (.seq (.leaf (cL (cR (cR (bd Tryd.f28))))) (.leaf (cR (cR (cR (bd Tryd.f28))))))))) (J := slices_Clone_byte.J0 R) LfYtledhokhcoeeeaaDoor.mixed Tryd.func28 (by kernel_rfl) (by kernel_rfl) (mkSeq (mkSeq (mkSeq mkLeaf mkLeaf) (mkSeq (mkCnd (mkSeq mkLeaf mkLeaf) mkLeaf) mkLeaf)) mkLeaf) (kcast (by kernel_rfl) h)

/-! slices_Clone_bool -/
def slices_Clone_bool.main (R : Value → World → Prop) (s0 : Sl) (w : World) : Prop :=
  cond ((s0.a).isNone)
  (R (.slice none 0 0) w)
  (let w1 := w.alloc (.cells #[] 4);
  ∃ (a_1 : Option Addr) (l_2 c_3 : Nat), ∃ w2 : World, (builtin .append #[44, 44] 44 #[] #[.slice (some (newA w)) 0 0, .slice s0.a s0.len s0.cap]).run Tryd.prog w1 = .ok (.value (.slice a_1 l_2 c_3)) w2 ∧
  R (.slice a_1 l_2 c_3) w2)

def slices_Clone_bool.J0 (_ : Value → World → Prop) (_ : Nat) (_ : Fr) (_ : World) : Prop := False

set_option maxRecDepth 100000 in
theorem slices_Clone_bool.lift {R : Value → World → Prop} {s0 : Sl} {w : World} (h : slices_Clone_bool.main R s0 w) : CallsV Tryd.prog n_slices_Clone_bool #[.slice s0.a s0.len s0.cap] w R :=
  liftCalls (c := (.seq (.leaf (cL (bd Tryd.f29))) (.seq (.seq (.leaf (cL (cL (cR (bd Tryd.f29))))) (.cnd (.tmp 4) (.seq (.leaf (cL (cT (cR (cL (cR (bd Tryd.f29))))))) (.leaf (cR (cT (cR (cL (cR (bd Tryd.f29)))))))) (.leaf (cE (cR (cL (cR (bd Tryd.f29)))))))) (.seq (.leaf (cL (cR (cR (bd Tryd.f29))))) (.leaf (cR (cR (cR (bd Tryd.f29))))))))) (J := slices_Clone_bool.J0 R) LfYtledhokhcoeeeaaDoor.mixed Tryd.func29 (by kernel_rfl) (by kernel_rfl) (mkSeq (mkSeq (mkSeq mkLeaf mkLeaf) (mkSeq (mkCnd (mkSeq mkLeaf mkLeaf) mkLeaf) mkLeaf)) mkLeaf) (kcast (by kernel_rfl) h)

/-! disk_Disk_Read -/
def disk_Disk_Read.main (R : Value → World → Prop) (d0 : Option Addr) (i1 : Int) (w : World) : Prop :=
  CallsV Tryd.prog n_disk_Disk_wrong #[.pointer d0, .int .i64 i1] w (fun v_1 w1 =>
  ∃ x_2 : Int, v_1 = .int .i64 x_2 ∧
  cond ((x_2 : Int) != 0)
  (R (.tuple #[.slice none 0 0, .int .i64 x_2]) w1)
  (∃ q_3 : Addr, d0 = some q_3 ∧
  ∃ (a_4 : Option Addr) (l_5 c_6 : Nat), w1.cell? (q_3.add 1) = some (.slice a_4 l_5 c_6) ∧
  0 ≤ (i1 : Int) ∧ i1 < ((l_5 : Nat) : Int) ∧ ∃ q_7 : Addr, a_4 = some q_7 ∧
  ∃ b_8 : Bool, w1.cell? ((q_7.add ((i1 : Int).toNat * 2)).add 1) = some (.bool b_8) ∧
  cond b_8
  (R (.tuple #[.slice none 0 0, .int .i64 10]) w1)
  (∃ q_9 : Addr, d0 = some q_9 ∧
  ∃ (a_10 : Option Addr) (l_11 c_12 : Nat), w1.cell? (q_9.add 1) = some (.slice a_10 l_11 c_12) ∧
  0 ≤ (i1 : Int) ∧ i1 < ((l_11 : Nat) : Int) ∧ ∃ q_13 : Addr, a_10 = some q_13 ∧
  ∃ (a_14 : Option Addr) (l_15 c_16 : Nat), w1.cell? (q_13.add ((i1 : Int).toNat * 2)) = some (.slice a_14 l_15 c_16) ∧
  CallsV Tryd.prog n_slices_Clone_byte #[.slice a_14 l_15 c_16] w1 (fun v_17 w2 =>
  ∃ (a_18 : Option Addr) (l_19 c_20 : Nat), v_17 = .slice a_18 l_19 c_20 ∧
  R (.tuple #[.slice a_18 l_19 c_20, .int .i64 0]) w2))))

def disk_Disk_Read.J0 (_ : Value → World → Prop) (_ : Nat) (_ : Fr) (_ : World) : Prop := False

set_option maxRecDepth 100000 in
theorem disk_Disk_Read.lift {R : Value → World → Prop} {d0 : Option Addr} {i1 : Int} {w : World} (h : disk_Disk_Read.main R d0 i1 w) : CallsV Tryd.prog n_disk_Disk_Read #[.pointer d0, .int .i64 i1] w R :=
  liftCalls (c := (.seq (.leaf (cL (bd Tryd.f30))) (.seq (.leaf (cL (cR (bd Tryd.f30)))) (.seq (.block 0 (.seq (.leaf (cL (cB (cL (cR (cR (bd Tryd.f30))))))) (.cnd (.tmp 10) (.seq (.leaf (cL (cT (cR (cB (cL (cR (cR (bd Tryd.f30))))))))) (.leaf (cR (cT (cR (cB (cL (cR (cR (bd Tryd.f30)))))))))) (.seq (.leaf (cL (cE (cR (cB (cL (cR (cR (bd Tryd.f30))))))))) (.cnd (.tmp 14) (.seq (.leaf (cL (cT (cR (cE (cR (cB (cL (cR (cR (bd Tryd.f30))))))))))) (.leaf (cR (cT (cR (cE (cR (cB (cL (cR (cR (bd Tryd.f30)))))))))))) (.leaf (cE (cR (cE (cR (cB (cL (cR (cR (bd Tryd.f30))))))))))))))) (.seq (.leaf (cL (cR (cR (cR (bd Tryd.f30)))))) (.leaf (cR (cR (cR (cR (bd Tryd.f30))))))))))) (J := disk_Disk_Read.J0 R) LfYtledhokhcoeeeaaDoor.mixed Tryd.func30 (by kernel_rfl) (by kernel_rfl) (mkSeq (mkSeq (mkSeq (mkSeq mkLeaf mkLeaf) (mkBlock (mkSeq (mkCnd (mkSeq mkLeaf mkLeaf) (mkSeq (mkCnd (mkSeq mkLeaf mkLeaf) mkLeaf) mkLeaf)) mkLeaf))) mkLeaf) mkLeaf) (kcast (by kernel_rfl) h)

/-! disk_Disk_Write -/
def disk_Disk_Write.main (R : Value → World → Prop) (d0 : Option Addr) (i1 : Int) (b2 : Sl) (w : World) : Prop :=
  CallsV Tryd.prog n_disk_Disk_wrong #[.pointer d0, .int .i64 i1] w (fun v_1 w1 =>
  ∃ x_2 : Int, v_1 = .int .i64 x_2 ∧
  cond ((x_2 : Int) != 0)
  (R (.int .i64 x_2) w1)
  ((let t15_2 : Bool := ((((b2.len : Nat) : Int) : Int) != 64);
  cond t15_2
  (R (.int .i64 2) w1)
  (∃ S_4 : World → Prop, S_4 w1.drew ∧
  ∃ q_5 : Addr, d0 = some q_5 ∧
  ∃ (a_6 : Option Addr) (l_7 c_8 : Nat), (∀ x, S_4 x → x.cell? (q_5.add 2) = some (.slice a_6 l_7 c_8)) ∧
  CallsV Tryd.prog n_slices_Clone_byte #[.slice b2.a b2.len b2.cap] w1.drew (fun v_9 w2 =>
  ∃ (a_10 : Option Addr) (l_11 c_12 : Nat), v_9 = .slice a_10 l_11 c_12 ∧
  S_4 w2 ∧
  let w3 := w2.alloc (.cells #[.int .i64 i1, .slice a_10 l_11 c_12] 74);
  S_4 w3 ∧
  ∃ (a_13 : Option Addr) (l_14 c_15 : Nat), ∃ w4 : World, (builtin .append #[52, 52] 52 #[] #[.slice a_6 l_7 c_8, .slice (some (newA w2)) 1 1]).run Tryd.prog w3 = .ok (.value (.slice a_13 l_14 c_15)) w4 ∧
  ∃ q_16 : Addr, d0 = some q_16 ∧
  Wr w4 (q_16.add 2) ∧
  (let w5 := w4.setCell (q_16.add 2) (.slice a_13 l_14 c_15);
  ∃ S_17 : World → Prop, S_17 w5.drew ∧
  ∃ q_18 : Addr, d0 = some q_18 ∧
  ∃ (a_19 : Option Addr) (l_20 c_21 : Nat), (∀ x, S_17 x → x.cell? (q_18.add 1) = some (.slice a_19 l_20 c_21)) ∧
  CallsV Tryd.prog n_slices_Clone_byte #[.slice b2.a b2.len b2.cap] w5.drew (fun v_22 w6 =>
  ∃ (a_23 : Option Addr) (l_24 c_25 : Nat), v_22 = .slice a_23 l_24 c_25 ∧
  S_17 w6 ∧
  0 ≤ (i1 : Int) ∧ i1 < ((l_20 : Nat) : Int) ∧ ∃ q_26 : Addr, a_19 = some q_26 ∧
  (∀ j, j < 2 → Wr w6 ((q_26.add ((i1 : Int).toNat * 2)).add j)) ∧
  (let w7 := setCells (q_26.add ((i1 : Int).toNat * 2)) [.slice a_23 l_24 c_25, .bool false] 0 w6;
  CallsV Tryd.prog n_disk_Disk_trips #[.pointer d0] w7 (fun v_27 w8 =>
  ∃ b_28 : Bool, v_27 = .bool b_28 ∧
  cond b_28
  (R (.int .i64 9) w8)
  (R (.int .i64 0) w8))))))))))

def disk_Disk_Write.J0 (_ : Value → World → Prop) (_ : Nat) (_ : Fr) (_ : World) : Prop := False

set_option maxRecDepth 100000 in
theorem disk_Disk_Write.lift {R : Value → World → Prop} {d0 : Option Addr} {i1 : Int} {b2 : Sl} {w : World} (h : disk_Disk_Write.main R d0 i1 b2 w) : CallsV Tryd.prog n_disk_Disk_Write #[.pointer d0, .int .i64 i1, .slice b2.a b2.len b2.cap] w R :=
  liftCalls (c := (.seq (.leaf (cL (bd Tryd.f36))) (.seq (.leaf (cL (cR (bd Tryd.f36)))) (.seq (.block 0 (.seq (.leaf (cL (cB (cL (cR (cR (bd Tryd.f36))))))) (.cnd (.tmp 11) (.seq (.leaf (cL (cT (cR (cB (cL (cR (cR (bd Tryd.f36))))))))) (.leaf (cR (cT (cR (cB (cL (cR (cR (bd Tryd.f36)))))))))) (.seq (.leaf (cL (cE (cR (cB (cL (cR (cR (bd Tryd.f36))))))))) (.cnd (.tmp 15) (.seq (.leaf (cL (cT (cR (cE (cR (cB (cL (cR (cR (bd Tryd.f36))))))))))) (.leaf (cR (cT (cR (cE (cR (cB (cL (cR (cR (bd Tryd.f36)))))))))))) (.leaf (cE (cR (cE (cR (cB (cL (cR (cR (bd Tryd.f36))))))))))))))) (.seq (.leaf (cL (cR (cR (cR (bd Tryd.f36)))))) (.seq (.leaf (cL (cR (cR (cR (cR (bd Tryd.f36))))))) (.seq (.seq (.leaf (cL (cL (cR (cR (cR (cR (cR (bd Tryd.f36))))))))) (.cnd (.tmp 42) (.seq (.leaf (cL (cT (cR (cL (cR (cR (cR (cR (cR (bd Tryd.f36))))))))))) (.leaf (cR (cT (cR (cL (cR (cR (cR (cR (cR (bd Tryd.f36)))))))))))) (.leaf (cE (cR (cL (cR (cR (cR (cR (cR (bd Tryd.f36)))))))))))) (.seq (.leaf (cL (cR (cR (cR (cR (cR (cR (bd Tryd.f36))))))))) (.leaf (cR (cR (cR (cR (cR (cR (cR (bd Tryd.f36))))))))))))))))) (J := disk_Disk_Write.J0 R) LfYtledhokhcoeeeaaDoor.mixed Tryd.func36 (by kernel_rfl) (by kernel_rfl) (mkSeq (mkSeq (mkSeq (mkSeq (mkSeq (mkSeq (mkSeq mkLeaf mkLeaf) (mkSeq (mkCnd (mkSeq mkLeaf mkLeaf) mkLeaf) mkLeaf)) mkLeaf) mkLeaf) (mkBlock (mkSeq (mkCnd (mkSeq mkLeaf mkLeaf) (mkSeq (mkCnd (mkSeq mkLeaf mkLeaf) mkLeaf) mkLeaf)) mkLeaf))) mkLeaf) mkLeaf) (kcast (by kernel_rfl) h)

/-! disk_Disk_Sync -/
def disk_Disk_Sync.c1 (R : Value → World → Prop) (d0 : Option Addr) (w : World) : Prop :=
  ∃ q_1 : Addr, d0 = some q_1 ∧
  Wr w (q_1.add 2) ∧
  (let w1 := w.setCell (q_1.add 2) (.slice none 0 0);
  R (.int .i64 0) w1)

def disk_Disk_Sync.b2 (R : Value → World → Prop) (N2 : Option Addr → Sl → Int → Int → World → Prop) (d0 : Option Addr) (t16 : Sl) (t17 : Int) (t18 : Int) (w : World) : Prop :=
  cond (decide ((t18 : Int) < t17))
  (0 ≤ (t18 : Int) ∧ t18 < ((t16.len : Nat) : Int) ∧ ∃ q_2 : Addr, t16.a = some q_2 ∧
  ∃ x_3 : Int, w.cell? (q_2.add ((t18 : Int).toNat * 2)) = some (.int .i64 x_3) ∧
  ∃ (a_4 : Option Addr) (l_5 c_6 : Nat), w.cell? ((q_2.add ((t18 : Int).toNat * 2)).add 1) = some (.slice a_4 l_5 c_6) ∧
  let w2 := w.alloc (.cells #[.int .i64 0, .slice none 0 0] 74);
  (∀ j, j < 2 → Wr w2 ((newA w).add j)) ∧
  (let w3 := setCells (newA w) [.int .i64 x_3, .slice a_4 l_5 c_6] 0 w2;
  ∃ S_7 : World → Prop, S_7 w3.drew ∧
  ∃ q_8 : Addr, d0 = some q_8 ∧
  ∃ (a_9 : Option Addr) (l_10 c_11 : Nat), (∀ x, S_7 x → x.cell? q_8 = some (.slice a_9 l_10 c_11)) ∧
  ∃ x_12 : Int, (∀ x, S_7 x → x.cell? (newA w) = some (.int .i64 x_12)) ∧
  ∃ (a_13 : Option Addr) (l_14 c_15 : Nat), (∀ x, S_7 x → x.cell? ((newA w).add 1) = some (.slice a_13 l_14 c_15)) ∧
  0 ≤ (x_12 : Int) ∧ x_12 < ((l_10 : Nat) : Int) ∧ ∃ q_16 : Addr, a_9 = some q_16 ∧
  (∀ j, j < 2 → Wr w3.drew ((q_16.add ((x_12 : Int).toNat * 2)).add j)) ∧
  (let w4 := setCells (q_16.add ((x_12 : Int).toNat * 2)) [.slice a_13 l_14 c_15, .bool false] 0 w3.drew;
  N2 d0 t16 t17 (IntKind.i64.wrap (t18 + 1)) w4)))
  (disk_Disk_Sync.c1 R d0 w)

def disk_Disk_Sync.l2 (R : Value → World → Prop) (d0 : Option Addr) (t16 : Sl) (t17 : Int) (t18 : Int) (w : World) : Prop :=
  ∃ (I : Int → World → Prop) (μ : Int → World → Nat), I t18 w ∧ ∀ s w, I s w → disk_Disk_Sync.b2 R (fun d0' t16' t17' t18' w' => (d0' = d0 ∧ t16' = t16 ∧ t17' = t17 ∧ I t18' w') ∧ μ t18' w' < μ s w) d0 t16 t17 s w

def disk_Disk_Sync.c3 (R : Value → World → Prop) (d0 : Option Addr) (w : World) : Prop :=
  ∃ q_17 : Addr, d0 = some q_17 ∧
  ∃ (a_18 : Option Addr) (l_19 c_20 : Nat), w.cell? (q_17.add 2) = some (.slice a_18 l_19 c_20) ∧
  disk_Disk_Sync.l2 R d0 ⟨a_18, l_19, c_20⟩ ((l_19 : Nat) : Int) 0 w

def disk_Disk_Sync.main (R : Value → World → Prop) (d0 : Option Addr) (w : World) : Prop :=
  ∃ q_21 : Addr, d0 = some q_21 ∧
  ∃ b_22 : Bool, w.cell? (q_21.add 3) = some (.bool b_22) ∧
  cond b_22
  (R (.int .i64 9) w)
  (CallsV Tryd.prog n_disk_Disk_trips #[.pointer d0] w (fun v_23 w5 =>
  ∃ b_24 : Bool, v_23 = .bool b_24 ∧
  cond b_24
  (R (.int .i64 9) w5)
  (disk_Disk_Sync.c3 R d0 w5)))

def disk_Disk_Sync.J0 (R : Value → World → Prop) (k : Nat) (fr : Fr) (w : World) : Prop :=
  cond (Nat.beq k 3) (dec [(0, .ptr)] fr fun x => disk_Disk_Sync.c3 R x w) (cond (Nat.beq k 2) (dec [(0, .ptr), (16, .slice), (17, (.int .i64)), (18, (.int .i64))] fr fun x => disk_Disk_Sync.l2 R x.1 x.2.1 x.2.2.1 x.2.2.2 w) (cond (Nat.beq k 1) (dec [(0, .ptr)] fr fun x => disk_Disk_Sync.c1 R x w) (False)))

set_option maxRecDepth 100000 in
theorem disk_Disk_Sync.lift {R : Value → World → Prop} {d0 : Option Addr} {w : World} (h : disk_Disk_Sync.main R d0 w) : CallsV Tryd.prog n_disk_Disk_Sync #[.pointer d0] w R :=
  liftCalls (c := (.seq (.leaf (cL (bd Tryd.f37))) (.seq (.seq (.leaf (cL (cL (cR (bd Tryd.f37))))) (.cnd (.tmp 12) (.seq (.leaf (cL (cT (cR (cL (cR (bd Tryd.f37))))))) (.leaf (cR (cT (cR (cL (cR (bd Tryd.f37)))))))) (.leaf (cE (cR (cL (cR (bd Tryd.f37)))))))) (.cut 3 (.seq (.seq (.leaf (cL (cL (cR (cR (bd Tryd.f37)))))) (.block 0 (.loop 2 (.seq (.leaf (cL (cB (cB (cR (cL (cR (cR (bd Tryd.f37))))))))) (.seq (.cnd (.tmp 19) (.leaf (cT (cL (cR (cB (cB (cR (cL (cR (cR (bd Tryd.f37))))))))))) (.leaf (cE (cL (cR (cB (cB (cR (cL (cR (cR (bd Tryd.f37)))))))))))) (.seq (.block 1 (.seq (.leaf (cL (cB (cL (cR (cR (cB (cB (cR (cL (cR (cR (bd Tryd.f37))))))))))))) (.leaf (cR (cB (cL (cR (cR (cB (cB (cR (cL (cR (cR (bd Tryd.f37))))))))))))))) (.leaf (cR (cR (cR (cB (cB (cR (cL (cR (cR (bd Tryd.f37))))))))))))))))) (.cut 1 (.seq (.leaf (cL (cR (cR (cR (bd Tryd.f37)))))) (.seq (.leaf (cL (cR (cR (cR (cR (bd Tryd.f37))))))) (.leaf (cR (cR (cR (cR (cR (bd Tryd.f37))))))))))))))) (J := disk_Disk_Sync.J0 R) LfYtledhokhcoeeeaaDoor.mixed Tryd.func37 (by kernel_rfl) (by kernel_rfl) (mkSeq (mkSeq (mkCut (cutDef [(0, .ptr)] (fun x w => disk_Disk_Sync.c3 R x w) (fun _ _ => by kernel_rfl) (fun _ _ => by kernel_rfl)) (mkSeq (mkCut (cutDef [(0, .ptr)] (fun x w => disk_Disk_Sync.c1 R x w) (fun _ _ => by kernel_rfl) (fun _ _ => by kernel_rfl)) (mkSeq (mkSeq mkLeaf mkLeaf) mkLeaf)) (mkSeq (mkBlock (mkLoop (loopDef LfYtledhokhcoeeeaaDoor.mixed [(0, .ptr), (16, .slice), (17, (.int .i64)), (18, (.int .i64))] (by kernel_rfl) (fun M2 x w => disk_Disk_Sync.b2 R (fun y0 y1 y2 y3 w => M2 (y0, y1, y2, y3) w) x.1 x.2.1 x.2.2.1 x.2.2.2 w) (fun M2 => fun _ _ _ => False) (fun _ _ _ => by kernel_rfl) (fun M2 => (mkSeq (mkSeq (mkSeq mkLeaf (mkBlock (mkSeq mkLeaf mkLeaf))) (mkCnd mkLeaf mkLeaf)) mkLeaf)) (fun x w => disk_Disk_Sync.l2 R x.1 x.2.1 x.2.2.1 x.2.2.2 w) (by rintro ⟨c0, c1, c2, s0⟩ w ⟨I, μ, h0, h1⟩; refine ⟨fun y w => y.1 = c0 ∧ y.2.1 = c1 ∧ y.2.2.1 = c2 ∧ I y.2.2.2 w, fun y w => μ y.2.2.2 w, ⟨rfl, rfl, rfl, h0⟩, ?_⟩; rintro ⟨d0, d1, d2, t0⟩ w ⟨e0, e1, e2, hI⟩; dsimp only at e0 e1 e2 hI; subst e0; subst e1; subst e2; exact h1 _ _ hI) (fun _ _ => by kernel_rfl)))) mkLeaf))) (mkSeq (mkCnd (mkSeq mkLeaf mkLeaf) mkLeaf) mkLeaf)) mkLeaf) (kcast (by kernel_rfl) h)

/-! disk_Disk_wrong -/
def disk_Disk_wrong.main (R : Value → World → Prop) (d0 : Option Addr) (i1 : Int) (w : World) : Prop :=
  ∃ q_1 : Addr, d0 = some q_1 ∧
  ∃ b_2 : Bool, w.cell? (q_1.add 3) = some (.bool b_2) ∧
  cond b_2
  (R (.int .i64 9) w)
  (cond (decide ((i1 : Int) < 0))
  (R (.int .i64 1) w)
  (∃ q_3 : Addr, d0 = some q_3 ∧
  ∃ (a_4 : Option Addr) (l_5 c_6 : Nat), w.cell? q_3 = some (.slice a_4 l_5 c_6) ∧
  (let t10_6 : Bool := (decide ((i1 : Int) ≥ ((l_5 : Nat) : Int)));
  cond t10_6
  (R (.int .i64 1) w)
  (R (.int .i64 0) w))))

def disk_Disk_wrong.J0 (_ : Value → World → Prop) (_ : Nat) (_ : Fr) (_ : World) : Prop := False

set_option maxRecDepth 100000 in
theorem disk_Disk_wrong.lift {R : Value → World → Prop} {d0 : Option Addr} {i1 : Int} {w : World} (h : disk_Disk_wrong.main R d0 i1 w) : CallsV Tryd.prog n_disk_Disk_wrong #[.pointer d0, .int .i64 i1] w R :=
  liftCalls (c := (.seq (.leaf (cL (bd Tryd.f39))) (.seq (.block 0 (.seq (.leaf (cL (cB (cL (cR (bd Tryd.f39)))))) (.cnd (.tmp 5) (.seq (.leaf (cL (cT (cR (cB (cL (cR (bd Tryd.f39)))))))) (.leaf (cR (cT (cR (cB (cL (cR (bd Tryd.f39))))))))) (.seq (.leaf (cL (cE (cR (cB (cL (cR (bd Tryd.f39)))))))) (.cnd (.tmp 10) (.seq (.leaf (cL (cT (cR (cE (cR (cB (cL (cR (bd Tryd.f39)))))))))) (.leaf (cR (cT (cR (cE (cR (cB (cL (cR (bd Tryd.f39))))))))))) (.leaf (cE (cR (cE (cR (cB (cL (cR (bd Tryd.f39)))))))))))))) (.seq (.leaf (cL (cR (cR (bd Tryd.f39))))) (.leaf (cR (cR (cR (bd Tryd.f39))))))))) (J := disk_Disk_wrong.J0 R) LfYtledhokhcoeeeaaDoor.mixed Tryd.func39 (by kernel_rfl) (by kernel_rfl) (mkSeq (mkSeq (mkSeq mkLeaf mkLeaf) (mkBlock (mkSeq (mkCnd (mkSeq mkLeaf mkLeaf) (mkSeq (mkCnd (mkSeq mkLeaf mkLeaf) mkLeaf) mkLeaf)) mkLeaf))) mkLeaf) (kcast (by kernel_rfl) h)

/-! disk_Disk_trips -/
def disk_Disk_trips.main (R : Value → World → Prop) (d0 : Option Addr) (w : World) : Prop :=
  ∃ q_1 : Addr, d0 = some q_1 ∧
  ∃ p_2 : Option Addr, w.cell? (q_1.add 4) = some (.pointer p_2) ∧
  cond ((p_2).isNone)
  (R (.bool false) w)
  (∃ q_3 : Addr, d0 = some q_3 ∧
  ∃ p_4 : Option Addr, w.cell? (q_3.add 4) = some (.pointer p_4) ∧
  ∃ q_5 : Addr, p_4 = some q_5 ∧
  ∃ x_6 : Int, w.cell? q_5 = some (.int .i64 x_6) ∧
  ∃ q_7 : Addr, p_4 = some q_7 ∧
  Wr w q_7 ∧
  (let w1 := w.setCell q_7 (.int .i64 (IntKind.i64.wrap (x_6 - 1)));
  ∃ q_8 : Addr, d0 = some q_8 ∧
  ∃ p_9 : Option Addr, w1.cell? (q_8.add 4) = some (.pointer p_9) ∧
  ∃ q_10 : Addr, p_9 = some q_10 ∧
  ∃ x_11 : Int, w1.cell? q_10 = some (.int .i64 x_11) ∧
  cond (decide ((x_11 : Int) > 0))
  (R (.bool false) w1)
  (∃ S_12 : World → Prop, S_12 w1.drew ∧
  ∃ q_13 : Addr, d0 = some q_13 ∧
  ∃ p_14 : Option Addr, (∀ x, S_12 x → x.cell? (q_13.add 4) = some (.pointer p_14)) ∧
  ∃ q_15 : Addr, p_14 = some q_15 ∧
  ∃ (a_16 : Option Addr) (l_17 c_18 : Nat), (∀ x, S_12 x → x.cell? (q_15.add 1) = some (.slice a_16 l_17 c_18)) ∧
  ∃ q_19 : Addr, d0 = some q_19 ∧
  ∃ p_20 : Option Addr, (∀ x, S_12 x → x.cell? (q_19.add 4) = some (.pointer p_20)) ∧
  ∃ q_21 : Addr, p_20 = some q_21 ∧
  ∃ x_22 : Int, (∀ x, S_12 x → x.cell? (q_21.add 2) = some (.int .i64 x_22)) ∧
  CallsV Tryd.prog n_disk_Disk_Crash #[.pointer d0, .slice a_16 l_17 c_18, .int .i64 x_22] w1.drew (fun v_23 w2 =>
  v_23 = .tuple #[] ∧
  R (.bool true) w2))))

def disk_Disk_trips.J0 (_ : Value → World → Prop) (_ : Nat) (_ : Fr) (_ : World) : Prop := False

set_option maxRecDepth 100000 in
theorem disk_Disk_trips.lift {R : Value → World → Prop} {d0 : Option Addr} {w : World} (h : disk_Disk_trips.main R d0 w) : CallsV Tryd.prog n_disk_Disk_trips #[.pointer d0] w R :=
  liftCalls (c := (.seq (.leaf (cL (bd Tryd.f46))) (.seq (.seq (.leaf (cL (cL (cR (bd Tryd.f46))))) (.cnd (.tmp 7) (.seq (.leaf (cL (cT (cR (cL (cR (bd Tryd.f46))))))) (.leaf (cR (cT (cR (cL (cR (bd Tryd.f46)))))))) (.leaf (cE (cR (cL (cR (bd Tryd.f46)))))))) (.seq (.leaf (cL (cR (cR (bd Tryd.f46))))) (.seq (.seq (.leaf (cL (cL (cR (cR (cR (bd Tryd.f46))))))) (.cnd (.tmp 25) (.seq (.leaf (cL (cT (cR (cL (cR (cR (cR (bd Tryd.f46))))))))) (.leaf (cR (cT (cR (cL (cR (cR (cR (bd Tryd.f46)))))))))) (.leaf (cE (cR (cL (cR (cR (cR (bd Tryd.f46)))))))))) (.seq (.leaf (cL (cR (cR (cR (cR (bd Tryd.f46))))))) (.seq (.leaf (cL (cR (cR (cR (cR (cR (bd Tryd.f46)))))))) (.leaf (cR (cR (cR (cR (cR (cR (bd Tryd.f46))))))))))))))) (J := disk_Disk_trips.J0 R) LfYtledhokhcoeeeaaDoor.mixed Tryd.func46 (by kernel_rfl) (by kernel_rfl) (mkSeq (mkSeq (mkSeq (mkSeq (mkSeq (mkSeq mkLeaf mkLeaf) mkLeaf) (mkSeq (mkCnd (mkSeq mkLeaf mkLeaf) mkLeaf) mkLeaf)) mkLeaf) (mkSeq (mkCnd (mkSeq mkLeaf mkLeaf) mkLeaf) mkLeaf)) mkLeaf) (kcast (by kernel_rfl) h)

end Go.Proofs.YtledhokhcoeeeaaDoor
