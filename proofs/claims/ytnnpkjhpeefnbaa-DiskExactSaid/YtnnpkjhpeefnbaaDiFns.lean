/-
  What the code of these functions comes to, and that it suffices for the call. Written by a program of ours, for this claim.
-/
import Derived.Test.YtnnpkjhpeefnbaaProg
import Derived.Test.YtnnpkjhpeefnbaaLift
set_option linter.unusedVariables false
namespace Go.Proofs.Ytnnpkjhpeefnbaa
open Go.Lf
theorem LfYtnnpkjhpeefnbaa.mixed : Try.prog.follows .mixedOrders = true := by kernel_rfl
abbrev n_trystlaw13_DiskChoice : Nat := 8
abbrev n_trystlaw13_DiskSafe : Nat := 9
abbrev n_trystlaw13_DiskTrips : Nat := 10
abbrev n_trystlaw13_DiskExact : Nat := 11
abbrev n_disk_New : Nat := 25
abbrev n_disk_Disk_Write : Nat := 26
abbrev n_trystlaw13_Sector : Nat := 27
abbrev n_disk_Disk_Crash : Nat := 28
abbrev n_disk_Disk_Read : Nat := 29
abbrev n_disk_Disk_Off : Nat := 30
abbrev n_disk_Disk_Start : Nat := 31
abbrev n_trystlaw13_wakes : Nat := 32
abbrev n_trystlaw13_heavy : Nat := 33
abbrev n_disk_Disk_Sync : Nat := 34
abbrev n_disk_Disk_Trip : Nat := 35
abbrev n_trystkeep_Bytes : Nat := 36
abbrev n_trystref10_New : Nat := 37
abbrev n_trystlaw13_step : Nat := 38
abbrev n_trystlaw13_same : Nat := 39
abbrev n_slices_Clone_sector : Nat := 47
abbrev n_disk_Disk_wrong : Nat := 48
abbrev n_slices_Clone_byte : Nat := 49
abbrev n_disk_Disk_trips : Nat := 50
abbrev n_slices_Clone_bool : Nat := 51
abbrev n_trystref10_Disk_Sync : Nat := 52
abbrev n_trystkeep_TwinBools : Nat := 53
abbrev n_trystref10_Disk_Crash : Nat := 54
abbrev n_trystkeep_Bools : Nat := 55
abbrev n_trystref10_Disk_Trip : Nat := 56
abbrev n_trystref10_Disk_Read : Nat := 57
abbrev n_trystkeep_SpoilBytes : Nat := 58
abbrev n_trystkeep_Twin : Nat := 59
abbrev n_trystref10_Disk_Write : Nat := 60
abbrev n_disk_Disk_Sectors : Nat := 61
abbrev n_trystref10_Disk_trips : Nat := 63
/-! trystlaw13_DiskChoice -/
def trystlaw13_DiskChoice.c1 (R : Value → World → Prop) (w : World) : Prop :=
  CallsV Try.prog n_trystlaw13_wakes #[] w (fun v_1 w1 =>
  ∃ b_2 : Bool, v_1 = .bool b_2 ∧
  R (.bool b_2) w1)

def trystlaw13_DiskChoice.c3 (R : Value → World → Prop) (N2 : Option Addr → Sl → Int → World → Prop) (d7 : Option Addr) (want9 : Sl) (i12 : Int) (w : World) : Prop :=
  CallsV Try.prog n_disk_Disk_Read #[.pointer d7, .int .i64 i12] w (fun v_3 w2 =>
  ∃ (a_4 : Option Addr) (l_5 c_6 : Nat), ∃ x_7 : Int, v_3 = .tuple #[.slice a_4 l_5 c_6, .int .i64 x_7] ∧
  cond ((x_7 : Int) != 0)
  (R (.bool false) w2)
  (0 ≤ (0 : Int) ∧ 0 < ((l_5 : Nat) : Int) ∧ ∃ q_8 : Addr, a_4 = some q_8 ∧
  ∃ x_9 : Int, w2.cell? (q_8.add (0 : Int).toNat) = some (.int .u8 x_9) ∧
  cond ((x_9 : Int) != 0)
  (R (.bool false) w2)
  ((let i12_9 : Int := (IntKind.i64.wrap (i12 + 1));
  N2 d7 want9 i12_9 w2))))

def trystlaw13_DiskChoice.b2 (R : Value → World → Prop) (N2 : Option Addr → Sl → Int → World → Prop) (d7 : Option Addr) (want9 : Sl) (i12 : Int) (w : World) : Prop :=
  cond (decide ((i12 : Int) < 4))
  (CallsV Try.prog n_disk_Disk_Read #[.pointer d7, .int .i64 i12] w (fun v_11 w3 =>
  ∃ (a_12 : Option Addr) (l_13 c_14 : Nat), ∃ x_15 : Int, v_11 = .tuple #[.slice a_12 l_13 c_14, .int .i64 x_15] ∧
  0 ≤ (i12 : Int) ∧ i12 < ((want9.len : Nat) : Int) ∧ ∃ q_16 : Addr, want9.a = some q_16 ∧
  ∃ x_17 : Int, w3.cell? (q_16.add (i12 : Int).toNat) = some (.int .i64 x_17) ∧
  cond (decide ((x_17 : Int) < 0))
  (cond ((x_15 : Int) != 10)
  (R (.bool false) w3)
  (cond (decide ((((l_13 : Nat) : Int) : Int) > 0))
  (R (.bool false) w3)
  (CallsV Try.prog n_trystlaw13_Sector #[.slice none 0 0] w3 (fun v_18 w4 =>
  ∃ (a_19 : Option Addr) (l_20 c_21 : Nat), v_18 = .slice a_19 l_20 c_21 ∧
  CallsV Try.prog n_disk_Disk_Write #[.pointer d7, .int .i64 i12, .slice a_19 l_20 c_21] w4 (fun v_22 w5 =>
  ∃ x_23 : Int, v_22 = .int .i64 x_23 ∧
  cond ((x_23 : Int) != 0)
  (R (.bool false) w5)
  (trystlaw13_DiskChoice.c3 R N2 d7 want9 i12 w5))))))
  (cond ((x_15 : Int) != 0)
  (R (.bool false) w3.drew)
  (0 ≤ (0 : Int) ∧ 0 < ((l_13 : Nat) : Int) ∧ ∃ q_24 : Addr, a_12 = some q_24 ∧
  ∃ x_25 : Int, w3.cell? (q_24.add (0 : Int).toNat) = some (.int .u8 x_25) ∧
  0 ≤ (i12 : Int) ∧ i12 < ((want9.len : Nat) : Int) ∧ ∃ q_26 : Addr, want9.a = some q_26 ∧
  ∃ x_27 : Int, w3.cell? (q_26.add (i12 : Int).toNat) = some (.int .i64 x_27) ∧
  cond (((IntKind.i64.wrap x_25) : Int) != x_27)
  (R (.bool false) w3.drew)
  ((let i12_27 : Int := (IntKind.i64.wrap (i12 + 1));
  N2 d7 want9 i12_27 w3.drew))))))
  (trystlaw13_DiskChoice.c1 R w)

def trystlaw13_DiskChoice.l2 (R : Value → World → Prop) (d7 : Option Addr) (want9 : Sl) (i12 : Int) (w : World) : Prop :=
  ∃ (I : Int → World → Prop) (μ : Int → World → Nat), I i12 w ∧ ∀ s w, I s w → trystlaw13_DiskChoice.b2 R (fun d7' want9' i12' w' => (d7' = d7 ∧ want9' = want9 ∧ I i12' w') ∧ μ i12' w' < μ s w) d7 want9 s w

def trystlaw13_DiskChoice.c4 (R : Value → World → Prop) (d7 : Option Addr) (want9 : Sl) (w : World) : Prop :=
  CallsV Try.prog n_disk_Disk_Start #[.pointer d7] w (fun v_29 w6 =>
  v_29 = .tuple #[] ∧
  trystlaw13_DiskChoice.l2 R d7 want9 0 w6)

def trystlaw13_DiskChoice.c5 (R : Value → World → Prop) (keep1 : Sl) (torn2 : Int) (d7 : Option Addr) (want9 : Sl) (w : World) : Prop :=
  CallsV Try.prog n_disk_Disk_Crash #[.pointer d7, .slice keep1.a keep1.len keep1.cap, .int .i64 torn2] w (fun v_30 w7 =>
  v_30 = .tuple #[] ∧
  CallsV Try.prog n_disk_Disk_Read #[.pointer d7, .int .i64 0] w7 (fun v_31 w8 =>
  ∃ (a_32 : Option Addr) (l_33 c_34 : Nat), ∃ x_35 : Int, v_31 = .tuple #[.slice a_32 l_33 c_34, .int .i64 x_35] ∧
  CallsV Try.prog n_disk_Disk_Off #[.pointer d7] w8 (fun v_36 w9 =>
  ∃ b_37 : Bool, v_36 = .bool b_37 ∧
  cond (!b_37)
  (R (.bool false) w9)
  (cond ((x_35 : Int) != 9)
  (R (.bool false) w9)
  (trystlaw13_DiskChoice.c4 R d7 want9 w9)))))

def trystlaw13_DiskChoice.c7 (R : Value → World → Prop) (N6 : Sl → Sl → Int → Option Addr → Sl → Int → World → Prop) (places0 : Sl) (keep1 : Sl) (torn2 : Int) (d7 : Option Addr) (want9 : Sl) (k10 : Int) (i11 : Int) (w : World) : Prop :=
  0 ≤ (i11 : Int) ∧ i11 < ((want9.len : Nat) : Int) ∧ ∃ q_38 : Addr, want9.a = some q_38 ∧
  Wr w (q_38.add (i11 : Int).toNat) ∧
  (let w10 := w.setCell (q_38.add (i11 : Int).toNat) (.int .i64 (IntKind.i64.wrap (k10 + 1)));
  (let k10_38 : Int := (IntKind.i64.wrap (k10 + 1));
  N6 places0 keep1 torn2 d7 want9 k10_38 w10))

def trystlaw13_DiskChoice.b6 (R : Value → World → Prop) (N6 : Sl → Sl → Int → Option Addr → Sl → Int → World → Prop) (places0 : Sl) (keep1 : Sl) (torn2 : Int) (d7 : Option Addr) (want9 : Sl) (k10 : Int) (w : World) : Prop :=
  cond (decide ((k10 : Int) < ((places0.len : Nat) : Int)))
  (0 ≤ (k10 : Int) ∧ k10 < ((places0.len : Nat) : Int) ∧ ∃ q_40 : Addr, places0.a = some q_40 ∧
  ∃ x_41 : Int, w.cell? (q_40.add (k10 : Int).toNat) = some (.int .i64 x_41) ∧
  (4 : Int) ≠ 0 ∧
  (let i11_41 : Int := (IntKind.i64.wrap (Int.tmod (IntKind.u64.wrap x_41) 4));
  let w11 := w.alloc (.cells #[.int .u8 (IntKind.u8.wrap (IntKind.i64.wrap (k10 + 1)))] 5);
  CallsV Try.prog n_trystlaw13_Sector #[.slice (some (newA w)) 1 1] w11 (fun v_43 w12 =>
  ∃ (a_44 : Option Addr) (l_45 c_46 : Nat), v_43 = .slice a_44 l_45 c_46 ∧
  CallsV Try.prog n_disk_Disk_Write #[.pointer d7, .int .i64 i11_41, .slice a_44 l_45 c_46] w12 (fun v_47 w13 =>
  ∃ x_48 : Int, v_47 = .int .i64 x_48 ∧
  cond ((x_48 : Int) != 0)
  (R (.bool false) w13)
  (cond ((k10 : Int) == torn2)
  (0 ≤ (i11_41 : Int) ∧ i11_41 < ((want9.len : Nat) : Int) ∧ ∃ q_49 : Addr, want9.a = some q_49 ∧
  Wr w13 (q_49.add (i11_41 : Int).toNat) ∧
  (let w14 := w13.setCell (q_49.add (i11_41 : Int).toNat) (.int .i64 (-1));
  (let k10_49 : Int := (IntKind.i64.wrap (k10 + 1));
  N6 places0 keep1 torn2 d7 want9 k10_49 w14)))
  (cond (decide ((k10 : Int) < ((keep1.len : Nat) : Int)))
  (0 ≤ (k10 : Int) ∧ k10 < ((keep1.len : Nat) : Int) ∧ ∃ q_51 : Addr, keep1.a = some q_51 ∧
  ∃ b_52 : Bool, w13.cell? (q_51.add (k10 : Int).toNat) = some (.bool b_52) ∧
  cond b_52
  (trystlaw13_DiskChoice.c7 R N6 places0 keep1 torn2 d7 want9 k10 i11_41 w13)
  ((let k10_52 : Int := (IntKind.i64.wrap (k10 + 1));
  N6 places0 keep1 torn2 d7 want9 k10_52 w13)))
  ((let k10_53 : Int := (IntKind.i64.wrap (k10 + 1));
  N6 places0 keep1 torn2 d7 want9 k10_53 w13))))))))
  (trystlaw13_DiskChoice.c5 R keep1 torn2 d7 want9 w)

def trystlaw13_DiskChoice.l6 (R : Value → World → Prop) (places0 : Sl) (keep1 : Sl) (torn2 : Int) (d7 : Option Addr) (want9 : Sl) (k10 : Int) (w : World) : Prop :=
  ∃ (I : Int → World → Prop) (μ : Int → World → Nat), I k10 w ∧ ∀ s w, I s w → trystlaw13_DiskChoice.b6 R (fun places0' keep1' torn2' d7' want9' k10' w' => (places0' = places0 ∧ keep1' = keep1 ∧ torn2' = torn2 ∧ d7' = d7 ∧ want9' = want9 ∧ I k10' w') ∧ μ k10' w' < μ s w) places0 keep1 torn2 d7 want9 s w

def trystlaw13_DiskChoice.c8 (R : Value → World → Prop) (places0 : Sl) (keep1 : Sl) (torn2 : Int) (d7 : Option Addr) (w : World) : Prop :=
  0 ≤ (4 : Int) ∧ (4 : Int) ≤ 4 ∧ (8 : Int) * 4 ≤ 281474976710656 ∧ (4 : Int) ≤ 9223372036854775807 ∧
  (let w15 := w.alloc (.cells ((Array.range ((4 : Int).toNat * 1)).map ((#[.int .i64 0] : Array Value)[· % (#[.int .i64 0] : Array Value).size]!)) 3);
  trystlaw13_DiskChoice.l6 R places0 keep1 torn2 d7 ⟨(some (newA w)), (4 : Int).toNat, (4 : Int).toNat⟩ 0 w15)

def trystlaw13_DiskChoice.c9 (R : Value → World → Prop) (places0 : Sl) (keep1 : Sl) (torn2 : Int) (w : World) : Prop :=
  CallsV Try.prog n_disk_New #[.int .i64 4] w (fun v_55 w16 =>
  ∃ p_56 : Option Addr, ∃ x_57 : Int, v_55 = .tuple #[.pointer p_56, .int .i64 x_57] ∧
  cond ((x_57 : Int) != 0)
  (R (.bool false) w16)
  (cond ((p_56).isNone)
  (R (.bool false) w16)
  (trystlaw13_DiskChoice.c8 R places0 keep1 torn2 p_56 w16)))

def trystlaw13_DiskChoice.main (R : Value → World → Prop) (places0 : Sl) (keep1 : Sl) (torn2 : Int) (w : World) : Prop :=
  cond (decide ((((places0.len : Nat) : Int) : Int) > 40))
  (R (.bool true) w)
  (cond (decide ((((keep1.len : Nat) : Int) : Int) > 60))
  (R (.bool true) w)
  (trystlaw13_DiskChoice.c9 R places0 keep1 torn2 w))

def trystlaw13_DiskChoice.J2 (R : Value → World → Prop) (N2 : Option Addr → Sl → Int → World → Prop) (k : Nat) (fr : Fr) (w : World) : Prop :=
  cond (Nat.beq k 3) (dec [(7, .ptr), (9, .slice), (12, (.int .i64))] fr fun x => trystlaw13_DiskChoice.c3 R N2 x.1 x.2.1 x.2.2 w) (False)

def trystlaw13_DiskChoice.J6 (R : Value → World → Prop) (N6 : Sl → Sl → Int → Option Addr → Sl → Int → World → Prop) (k : Nat) (fr : Fr) (w : World) : Prop :=
  cond (Nat.beq k 7) (dec [(0, .slice), (1, .slice), (2, (.int .i64)), (7, .ptr), (9, .slice), (10, (.int .i64)), (11, (.int .i64))] fr fun x => trystlaw13_DiskChoice.c7 R N6 x.1 x.2.1 x.2.2.1 x.2.2.2.1 x.2.2.2.2.1 x.2.2.2.2.2.1 x.2.2.2.2.2.2 w) (False)

def trystlaw13_DiskChoice.J0 (R : Value → World → Prop) (k : Nat) (fr : Fr) (w : World) : Prop :=
  cond (Nat.beq k 9) (dec [(0, .slice), (1, .slice), (2, (.int .i64))] fr fun x => trystlaw13_DiskChoice.c9 R x.1 x.2.1 x.2.2 w) (cond (Nat.beq k 8) (dec [(0, .slice), (1, .slice), (2, (.int .i64)), (7, .ptr)] fr fun x => trystlaw13_DiskChoice.c8 R x.1 x.2.1 x.2.2.1 x.2.2.2 w) (cond (Nat.beq k 6) (dec [(0, .slice), (1, .slice), (2, (.int .i64)), (7, .ptr), (9, .slice), (10, (.int .i64))] fr fun x => trystlaw13_DiskChoice.l6 R x.1 x.2.1 x.2.2.1 x.2.2.2.1 x.2.2.2.2.1 x.2.2.2.2.2 w) (cond (Nat.beq k 5) (dec [(1, .slice), (2, (.int .i64)), (7, .ptr), (9, .slice)] fr fun x => trystlaw13_DiskChoice.c5 R x.1 x.2.1 x.2.2.1 x.2.2.2 w) (cond (Nat.beq k 4) (dec [(7, .ptr), (9, .slice)] fr fun x => trystlaw13_DiskChoice.c4 R x.1 x.2 w) (cond (Nat.beq k 2) (dec [(7, .ptr), (9, .slice), (12, (.int .i64))] fr fun x => trystlaw13_DiskChoice.l2 R x.1 x.2.1 x.2.2 w) (cond (Nat.beq k 1) (dec [] fr fun x => trystlaw13_DiskChoice.c1 R w) (False)))))))

set_option maxRecDepth 100000 in
theorem trystlaw13_DiskChoice.lift {R : Value → World → Prop} {places0 : Sl} {keep1 : Sl} {torn2 : Int} {w : World} (h : trystlaw13_DiskChoice.main R places0 keep1 torn2 w) : CallsV Try.prog n_trystlaw13_DiskChoice #[.slice places0.a places0.len places0.cap, .slice keep1.a keep1.len keep1.cap, .int .i64 torn2] w R :=
  liftCalls (c := (.seq (.leaf (cL (bd Try.f8))) (.seq (.seq (.leaf (cL (cL (cR (bd Try.f8))))) (.cnd (.tmp 22) (.seq (.leaf (cL (cT (cR (cL (cR (bd Try.f8))))))) (.leaf (cR (cT (cR (cL (cR (bd Try.f8)))))))) (.leaf (cE (cR (cL (cR (bd Try.f8)))))))) (.cut 9 (.seq (.leaf (cL (cR (cR (bd Try.f8))))) (.seq (.seq (.leaf (cL (cL (cR (cR (cR (bd Try.f8))))))) (.cnd (.tmp 32) (.seq (.leaf (cL (cT (cR (cL (cR (cR (cR (bd Try.f8))))))))) (.leaf (cR (cT (cR (cL (cR (cR (cR (bd Try.f8)))))))))) (.leaf (cE (cR (cL (cR (cR (cR (bd Try.f8)))))))))) (.cut 8 (.seq (.leaf (cL (cR (cR (cR (cR (bd Try.f8))))))) (.seq (.seq (.leaf (cL (cL (cR (cR (cR (cR (cR (bd Try.f8))))))))) (.block 0 (.loop 6 (.seq (.seq (.leaf (cL (cL (cB (cB (cR (cL (cR (cR (cR (cR (cR (bd Try.f8))))))))))))) (.cnd (.tmp 37) (.leaf (cT (cR (cL (cB (cB (cR (cL (cR (cR (cR (cR (cR (bd Try.f8)))))))))))))) (.leaf (cE (cR (cL (cB (cB (cR (cL (cR (cR (cR (cR (cR (bd Try.f8)))))))))))))))) (.seq (.block 1 (.seq (.leaf (cL (cB (cL (cR (cB (cB (cR (cL (cR (cR (cR (cR (cR (bd Try.f8))))))))))))))) (.seq (.seq (.leaf (cL (cL (cR (cB (cL (cR (cB (cB (cR (cL (cR (cR (cR (cR (cR (bd Try.f8))))))))))))))))) (.cnd (.tmp 55) (.seq (.leaf (cL (cT (cR (cL (cR (cB (cL (cR (cB (cB (cR (cL (cR (cR (cR (cR (cR (bd Try.f8))))))))))))))))))) (.leaf (cR (cT (cR (cL (cR (cB (cL (cR (cB (cB (cR (cL (cR (cR (cR (cR (cR (bd Try.f8)))))))))))))))))))) (.leaf (cE (cR (cL (cR (cB (cL (cR (cB (cB (cR (cL (cR (cR (cR (cR (cR (bd Try.f8)))))))))))))))))))) (.seq (.leaf (cL (cR (cR (cB (cL (cR (cB (cB (cR (cL (cR (cR (cR (cR (cR (bd Try.f8))))))))))))))))) (.cnd (.tmp 58) (.leaf (cT (cR (cR (cR (cB (cL (cR (cB (cB (cR (cL (cR (cR (cR (cR (cR (bd Try.f8)))))))))))))))))) (.seq (.leaf (cL (cE (cR (cR (cR (cB (cL (cR (cB (cB (cR (cL (cR (cR (cR (cR (cR (bd Try.f8))))))))))))))))))) (.cnd (.tmp 71) (.cut 7 (.leaf (cT (cR (cE (cR (cR (cR (cB (cL (cR (cB (cB (cR (cL (cR (cR (cR (cR (cR (bd Try.f8))))))))))))))))))))) (.leaf (cE (cR (cE (cR (cR (cR (cB (cL (cR (cB (cB (cR (cL (cR (cR (cR (cR (cR (bd Try.f8))))))))))))))))))))))))))) (.leaf (cR (cR (cB (cB (cR (cL (cR (cR (cR (cR (cR (bd Try.f8)))))))))))))))))) (.cut 5 (.seq (.leaf (cL (cR (cR (cR (cR (cR (cR (bd Try.f8))))))))) (.seq (.leaf (cL (cR (cR (cR (cR (cR (cR (cR (bd Try.f8)))))))))) (.seq (.seq (.leaf (cL (cL (cR (cR (cR (cR (cR (cR (cR (cR (bd Try.f8)))))))))))) (.cnd (.tmp 92) (.seq (.leaf (cL (cT (cR (cL (cR (cR (cR (cR (cR (cR (cR (cR (bd Try.f8)))))))))))))) (.leaf (cR (cT (cR (cL (cR (cR (cR (cR (cR (cR (cR (cR (bd Try.f8))))))))))))))) (.leaf (cE (cR (cL (cR (cR (cR (cR (cR (cR (cR (cR (bd Try.f8))))))))))))))) (.cut 4 (.seq (.leaf (cL (cR (cR (cR (cR (cR (cR (cR (cR (cR (bd Try.f8)))))))))))) (.seq (.seq (.leaf (cL (cL (cR (cR (cR (cR (cR (cR (cR (cR (cR (cR (bd Try.f8)))))))))))))) (.block 2 (.loop 2 (.seq (.seq (.leaf (cL (cL (cB (cB (cR (cL (cR (cR (cR (cR (cR (cR (cR (cR (cR (cR (bd Try.f8)))))))))))))))))) (.cnd (.tmp 96) (.leaf (cT (cR (cL (cB (cB (cR (cL (cR (cR (cR (cR (cR (cR (cR (cR (cR (cR (bd Try.f8))))))))))))))))))) (.leaf (cE (cR (cL (cB (cB (cR (cL (cR (cR (cR (cR (cR (cR (cR (cR (cR (cR (bd Try.f8))))))))))))))))))))) (.seq (.block 3 (.seq (.leaf (cL (cB (cL (cR (cB (cB (cR (cL (cR (cR (cR (cR (cR (cR (cR (cR (cR (cR (bd Try.f8)))))))))))))))))))) (.seq (.leaf (cL (cR (cB (cL (cR (cB (cB (cR (cL (cR (cR (cR (cR (cR (cR (cR (cR (cR (cR (bd Try.f8))))))))))))))))))))) (.cnd (.tmp 109) (.seq (.seq (.leaf (cL (cL (cT (cR (cR (cB (cL (cR (cB (cB (cR (cL (cR (cR (cR (cR (cR (cR (cR (cR (cR (cR (bd Try.f8)))))))))))))))))))))))) (.cnd (.tmp 123) (.seq (.leaf (cL (cT (cR (cL (cT (cR (cR (cB (cL (cR (cB (cB (cR (cL (cR (cR (cR (cR (cR (cR (cR (cR (cR (cR (bd Try.f8)))))))))))))))))))))))))) (.leaf (cR (cT (cR (cL (cT (cR (cR (cB (cL (cR (cB (cB (cR (cL (cR (cR (cR (cR (cR (cR (cR (cR (cR (cR (bd Try.f8))))))))))))))))))))))))))) (.leaf (cE (cR (cL (cT (cR (cR (cB (cL (cR (cB (cB (cR (cL (cR (cR (cR (cR (cR (cR (cR (cR (cR (cR (bd Try.f8))))))))))))))))))))))))))) (.cut 3 (.seq (.leaf (cL (cR (cT (cR (cR (cB (cL (cR (cB (cB (cR (cL (cR (cR (cR (cR (cR (cR (cR (cR (cR (cR (bd Try.f8)))))))))))))))))))))))) (.seq (.leaf (cL (cR (cR (cT (cR (cR (cB (cL (cR (cB (cB (cR (cL (cR (cR (cR (cR (cR (cR (cR (cR (cR (cR (bd Try.f8))))))))))))))))))))))))) (.cnd (.tmp 137) (.seq (.leaf (cL (cT (cR (cR (cR (cT (cR (cR (cB (cL (cR (cB (cB (cR (cL (cR (cR (cR (cR (cR (cR (cR (cR (cR (cR (bd Try.f8))))))))))))))))))))))))))) (.leaf (cR (cT (cR (cR (cR (cT (cR (cR (cB (cL (cR (cB (cB (cR (cL (cR (cR (cR (cR (cR (cR (cR (cR (cR (cR (bd Try.f8)))))))))))))))))))))))))))) (.leaf (cE (cR (cR (cR (cT (cR (cR (cB (cL (cR (cB (cB (cR (cL (cR (cR (cR (cR (cR (cR (cR (cR (cR (cR (bd Try.f8))))))))))))))))))))))))))))))) (.seq (.leaf (cL (cE (cR (cR (cB (cL (cR (cB (cB (cR (cL (cR (cR (cR (cR (cR (cR (cR (cR (cR (cR (bd Try.f8))))))))))))))))))))))) (.cnd (.tmp 150) (.seq (.leaf (cL (cT (cR (cE (cR (cR (cB (cL (cR (cB (cB (cR (cL (cR (cR (cR (cR (cR (cR (cR (cR (cR (cR (bd Try.f8))))))))))))))))))))))))) (.leaf (cR (cT (cR (cE (cR (cR (cB (cL (cR (cB (cB (cR (cL (cR (cR (cR (cR (cR (cR (cR (cR (cR (cR (bd Try.f8)))))))))))))))))))))))))) (.leaf (cE (cR (cE (cR (cR (cB (cL (cR (cB (cB (cR (cL (cR (cR (cR (cR (cR (cR (cR (cR (cR (cR (bd Try.f8)))))))))))))))))))))))))))))) (.leaf (cR (cR (cB (cB (cR (cL (cR (cR (cR (cR (cR (cR (cR (cR (cR (cR (bd Try.f8))))))))))))))))))))))) (.cut 1 (.seq (.leaf (cL (cR (cR (cR (cR (cR (cR (cR (cR (cR (cR (cR (bd Try.f8)))))))))))))) (.leaf (cR (cR (cR (cR (cR (cR (cR (cR (cR (cR (cR (cR (bd Try.f8)))))))))))))))))))))))))))))))) (J := trystlaw13_DiskChoice.J0 R) LfYtnnpkjhpeefnbaa.mixed Try.func8 (by kernel_rfl) (by kernel_rfl) (mkSeq (mkSeq (mkCut (cutDef [(0, .slice), (1, .slice), (2, (.int .i64))] (fun x w => trystlaw13_DiskChoice.c9 R x.1 x.2.1 x.2.2 w) (fun _ _ => by kernel_rfl) (fun _ _ => by kernel_rfl)) (mkSeq (mkSeq (mkCut (cutDef [(0, .slice), (1, .slice), (2, (.int .i64)), (7, .ptr)] (fun x w => trystlaw13_DiskChoice.c8 R x.1 x.2.1 x.2.2.1 x.2.2.2 w) (fun _ _ => by kernel_rfl) (fun _ _ => by kernel_rfl)) (mkSeq (mkSeq (mkCut (cutDef [(1, .slice), (2, (.int .i64)), (7, .ptr), (9, .slice)] (fun x w => trystlaw13_DiskChoice.c5 R x.1 x.2.1 x.2.2.1 x.2.2.2 w) (fun _ _ => by kernel_rfl) (fun _ _ => by kernel_rfl)) (mkSeq (mkSeq (mkSeq (mkCut (cutDef [(7, .ptr), (9, .slice)] (fun x w => trystlaw13_DiskChoice.c4 R x.1 x.2 w) (fun _ _ => by kernel_rfl) (fun _ _ => by kernel_rfl)) (mkSeq (mkSeq (mkCut (cutDef [] (fun x w => trystlaw13_DiskChoice.c1 R w) (fun _ _ => by kernel_rfl) (fun _ _ => by kernel_rfl)) (mkSeq mkLeaf mkLeaf)) (mkSeq (mkBlock (mkLoop (loopDef LfYtnnpkjhpeefnbaa.mixed [(7, .ptr), (9, .slice), (12, (.int .i64))] (by kernel_rfl) (fun M2 x w => trystlaw13_DiskChoice.b2 R (fun y0 y1 y2 w => M2 (y0, y1, y2) w) x.1 x.2.1 x.2.2 w) (fun M2 => trystlaw13_DiskChoice.J2 R (fun y0 y1 y2 w => M2 (y0, y1, y2) w)) (fun _ _ _ => by kernel_rfl) (fun M2 => (mkSeq (mkSeq mkLeaf (mkBlock (mkSeq (mkSeq (mkCnd (mkSeq (mkCut (cutDef [(7, .ptr), (9, .slice), (12, (.int .i64))] (fun x w => trystlaw13_DiskChoice.c3 R (fun y0 y1 y2 w => M2 (y0, y1, y2) w) x.1 x.2.1 x.2.2 w) (fun _ _ => by kernel_rfl) (fun _ _ => by kernel_rfl)) (mkSeq (mkSeq (mkCnd (mkSeq mkLeaf mkLeaf) mkLeaf) mkLeaf) mkLeaf)) (mkSeq (mkCnd (mkSeq mkLeaf mkLeaf) mkLeaf) mkLeaf)) (mkSeq (mkCnd (mkSeq mkLeaf mkLeaf) mkLeaf) mkLeaf)) mkLeaf) mkLeaf))) (mkSeq (mkCnd mkLeaf mkLeaf) mkLeaf))) (fun x w => trystlaw13_DiskChoice.l2 R x.1 x.2.1 x.2.2 w) (by rintro ⟨c0, c1, s0⟩ w ⟨I, μ, h0, h1⟩; refine ⟨fun y w => y.1 = c0 ∧ y.2.1 = c1 ∧ I y.2.2 w, fun y w => μ y.2.2 w, ⟨rfl, rfl, h0⟩, ?_⟩; rintro ⟨d0, d1, t0⟩ w ⟨e0, e1, hI⟩; dsimp only at e0 e1 hI; subst e0; subst e1; exact h1 _ _ hI) (fun _ _ => by kernel_rfl)))) mkLeaf)) mkLeaf)) (mkSeq (mkCnd (mkSeq mkLeaf mkLeaf) mkLeaf) mkLeaf)) mkLeaf) mkLeaf)) (mkSeq (mkBlock (mkLoop (loopDef LfYtnnpkjhpeefnbaa.mixed [(0, .slice), (1, .slice), (2, (.int .i64)), (7, .ptr), (9, .slice), (10, (.int .i64))] (by kernel_rfl) (fun M6 x w => trystlaw13_DiskChoice.b6 R (fun y0 y1 y2 y3 y4 y5 w => M6 (y0, y1, y2, y3, y4, y5) w) x.1 x.2.1 x.2.2.1 x.2.2.2.1 x.2.2.2.2.1 x.2.2.2.2.2 w) (fun M6 => trystlaw13_DiskChoice.J6 R (fun y0 y1 y2 y3 y4 y5 w => M6 (y0, y1, y2, y3, y4, y5) w)) (fun _ _ _ => by kernel_rfl) (fun M6 => (mkSeq (mkSeq mkLeaf (mkBlock (mkSeq (mkSeq (mkSeq (mkCnd mkLeaf (mkSeq (mkCnd (mkCut (cutDef [(0, .slice), (1, .slice), (2, (.int .i64)), (7, .ptr), (9, .slice), (10, (.int .i64)), (11, (.int .i64))] (fun x w => trystlaw13_DiskChoice.c7 R (fun y0 y1 y2 y3 y4 y5 w => M6 (y0, y1, y2, y3, y4, y5) w) x.1 x.2.1 x.2.2.1 x.2.2.2.1 x.2.2.2.2.1 x.2.2.2.2.2.1 x.2.2.2.2.2.2 w) (fun _ _ => by kernel_rfl) (fun _ _ => by kernel_rfl)) mkLeaf) mkLeaf) mkLeaf)) mkLeaf) (mkSeq (mkCnd (mkSeq mkLeaf mkLeaf) mkLeaf) mkLeaf)) mkLeaf))) (mkSeq (mkCnd mkLeaf mkLeaf) mkLeaf))) (fun x w => trystlaw13_DiskChoice.l6 R x.1 x.2.1 x.2.2.1 x.2.2.2.1 x.2.2.2.2.1 x.2.2.2.2.2 w) (by rintro ⟨c0, c1, c2, c3, c4, s0⟩ w ⟨I, μ, h0, h1⟩; refine ⟨fun y w => y.1 = c0 ∧ y.2.1 = c1 ∧ y.2.2.1 = c2 ∧ y.2.2.2.1 = c3 ∧ y.2.2.2.2.1 = c4 ∧ I y.2.2.2.2.2 w, fun y w => μ y.2.2.2.2.2 w, ⟨rfl, rfl, rfl, rfl, rfl, h0⟩, ?_⟩; rintro ⟨d0, d1, d2, d3, d4, t0⟩ w ⟨e0, e1, e2, e3, e4, hI⟩; dsimp only at e0 e1 e2 e3 e4 hI; subst e0; subst e1; subst e2; subst e3; subst e4; exact h1 _ _ hI) (fun _ _ => by kernel_rfl)))) mkLeaf)) mkLeaf)) (mkSeq (mkCnd (mkSeq mkLeaf mkLeaf) mkLeaf) mkLeaf)) mkLeaf)) (mkSeq (mkCnd (mkSeq mkLeaf mkLeaf) mkLeaf) mkLeaf)) mkLeaf) (kcast (by kernel_rfl) h)

/-! trystlaw13_DiskSafe -/
def trystlaw13_DiskSafe.c1 (R : Value → World → Prop) (w : World) : Prop :=
  CallsV Try.prog n_trystlaw13_wakes #[] w (fun v_1 w1 =>
  ∃ b_2 : Bool, v_1 = .bool b_2 ∧
  R (.bool b_2) w1)

def trystlaw13_DiskSafe.b2 (R : Value → World → Prop) (N2 : Option Addr → Sl → Int → World → Prop) (d5 : Option Addr) (want7 : Sl) (i11 : Int) (w : World) : Prop :=
  cond (decide ((i11 : Int) < ((want7.len : Nat) : Int)))
  (CallsV Try.prog n_disk_Disk_Read #[.pointer d5, .int .i64 i11] w (fun v_3 w2 =>
  ∃ (a_4 : Option Addr) (l_5 c_6 : Nat), ∃ x_7 : Int, v_3 = .tuple #[.slice a_4 l_5 c_6, .int .i64 x_7] ∧
  cond ((x_7 : Int) != 0)
  (R (.bool false) w2)
  (0 ≤ (i11 : Int) ∧ i11 < ((want7.len : Nat) : Int) ∧ ∃ q_8 : Addr, want7.a = some q_8 ∧
  ∃ (a_9 : Option Addr) (l_10 c_11 : Nat), w2.cell? (q_8.add (i11 : Int).toNat) = some (.slice a_9 l_10 c_11) ∧
  CallsV Try.prog n_trystkeep_Bytes #[.slice a_4 l_5 c_6, .slice a_9 l_10 c_11] w2 (fun v_12 w3 =>
  ∃ b_13 : Bool, v_12 = .bool b_13 ∧
  cond (!b_13)
  (R (.bool false) w3)
  ((let i11_13 : Int := (IntKind.i64.wrap (i11 + 1));
  N2 d5 want7 i11_13 w3))))))
  (trystlaw13_DiskSafe.c1 R w)

def trystlaw13_DiskSafe.l2 (R : Value → World → Prop) (d5 : Option Addr) (want7 : Sl) (i11 : Int) (w : World) : Prop :=
  ∃ (I : Int → World → Prop) (μ : Int → World → Nat), I i11 w ∧ ∀ s w, I s w → trystlaw13_DiskSafe.b2 R (fun d5' want7' i11' w' => (d5' = d5 ∧ want7' = want7 ∧ I i11' w') ∧ μ i11' w' < μ s w) d5 want7 s w

def trystlaw13_DiskSafe.c3 (R : Value → World → Prop) (d5 : Option Addr) (want7 : Sl) (w : World) : Prop :=
  CallsV Try.prog n_disk_Disk_Start #[.pointer d5] w (fun v_15 w4 =>
  v_15 = .tuple #[] ∧
  trystlaw13_DiskSafe.l2 R d5 want7 0 w4)

def trystlaw13_DiskSafe.c5 (R : Value → World → Prop) (N4 : Sl → Option Addr → Sl → Int → World → Prop) (l1 : Sl) (d5 : Option Addr) (want7 : Sl) (i9 : Int) (w : World) : Prop :=
  0 ≤ (i9 : Int) ∧ i9 < ((l1.len : Nat) : Int) ∧ ∃ q_16 : Addr, l1.a = some q_16 ∧
  ∃ x_17 : Int, w.cell? (q_16.add ((i9 : Int).toNat * 6)) = some (.int .i64 x_17) ∧
  ∃ x_18 : Int, w.cell? ((q_16.add ((i9 : Int).toNat * 6)).add 1) = some (.int .i64 x_18) ∧
  ∃ (a_19 : Option Addr) (l_20 c_21 : Nat), w.cell? ((q_16.add ((i9 : Int).toNat * 6)).add 2) = some (.slice a_19 l_20 c_21) ∧
  ∃ b_22 : Bool, w.cell? ((q_16.add ((i9 : Int).toNat * 6)).add 3) = some (.bool b_22) ∧
  ∃ (a_23 : Option Addr) (l_24 c_25 : Nat), w.cell? ((q_16.add ((i9 : Int).toNat * 6)).add 4) = some (.slice a_23 l_24 c_25) ∧
  ∃ x_26 : Int, w.cell? ((q_16.add ((i9 : Int).toNat * 6)).add 5) = some (.int .i64 x_26) ∧
  let w5 := w.alloc (.cells #[.int .i64 0, .int .i64 0, .slice none 0 0, .bool false, .slice none 0 0, .int .i64 0] 63);
  (∀ j, j < 6 → Wr w5 ((newA w).add j)) ∧
  (let w6 := setCells (newA w) [.int .i64 x_17, .int .i64 x_18, .slice a_19 l_20 c_21, .bool b_22, .slice a_23 l_24 c_25, .int .i64 x_26] 0 w5;
  ∃ x_27 : Int, w6.cell? (newA w) = some (.int .i64 x_27) ∧
  (8 : Int) ≠ 0 ∧
  (let t96_27 : Bool := (((Int.tmod (IntKind.u64.wrap x_27) 8) : Int) == 3);
  cond t96_27
  (CallsV Try.prog n_disk_Disk_Sync #[.pointer d5] w6 (fun v_29 w7 =>
  ∃ x_30 : Int, v_29 = .int .i64 x_30 ∧
  (let i9_30 : Int := (IntKind.i64.wrap (i9 + 1));
  N4 l1 d5 want7 i9_30 w7)))
  ((let t100_31 : Bool := (((Int.tmod (IntKind.u64.wrap x_27) 8) : Int) == 4);
  cond t100_31
  (∃ (a_33 : Option Addr) (l_34 c_35 : Nat), w6.cell? ((newA w).add 4) = some (.slice a_33 l_34 c_35) ∧
  ∃ x_36 : Int, w6.cell? ((newA w).add 5) = some (.int .i64 x_36) ∧
  CallsV Try.prog n_disk_Disk_Crash #[.pointer d5, .slice a_33 l_34 c_35, .int .i64 x_36] w6 (fun v_37 w8 =>
  v_37 = .tuple #[] ∧
  (let i9_37 : Int := (IntKind.i64.wrap (i9 + 1));
  N4 l1 d5 want7 i9_37 w8)))
  ((let t108_38 : Bool := (((Int.tmod (IntKind.u64.wrap x_27) 8) : Int) == 5);
  cond t108_38
  (CallsV Try.prog n_disk_Disk_Start #[.pointer d5] w6 (fun v_40 w9 =>
  v_40 = .tuple #[] ∧
  (let i9_40 : Int := (IntKind.i64.wrap (i9 + 1));
  N4 l1 d5 want7 i9_40 w9)))
  ((let t112_41 : Bool := (((Int.tmod (IntKind.u64.wrap x_27) 8) : Int) == 6);
  cond t112_41
  (∃ x_43 : Int, w6.cell? ((newA w).add 1) = some (.int .i64 x_43) ∧
  ∃ (a_44 : Option Addr) (l_45 c_46 : Nat), w6.cell? ((newA w).add 4) = some (.slice a_44 l_45 c_46) ∧
  ∃ x_47 : Int, w6.cell? ((newA w).add 5) = some (.int .i64 x_47) ∧
  CallsV Try.prog n_disk_Disk_Trip #[.pointer d5, .int .i64 x_43, .slice a_44 l_45 c_46, .int .i64 x_47] w6 (fun v_48 w10 =>
  v_48 = .tuple #[] ∧
  (let i9_48 : Int := (IntKind.i64.wrap (i9 + 1));
  N4 l1 d5 want7 i9_48 w10)))
  ((let t122_49 : Bool := (((Int.tmod (IntKind.u64.wrap x_27) 8) : Int) == 7);
  cond t122_49
  (∃ x_51 : Int, w6.cell? ((newA w).add 1) = some (.int .i64 x_51) ∧
  CallsV Try.prog n_disk_Disk_Read #[.pointer d5, .int .i64 x_51] w6 (fun v_52 w11 =>
  ∃ (a_53 : Option Addr) (l_54 c_55 : Nat), ∃ x_56 : Int, v_52 = .tuple #[.slice a_53 l_54 c_55, .int .i64 x_56] ∧
  (let i9_56 : Int := (IntKind.i64.wrap (i9 + 1));
  N4 l1 d5 want7 i9_56 w11)))
  (∃ S_58 : World → Prop, S_58 w6.drew ∧
  ∃ x_59 : Int, (∀ x, S_58 x → x.cell? ((newA w).add 1) = some (.int .i64 x_59)) ∧
  (10 : Int) ≠ 0 ∧
  ∃ (a_60 : Option Addr) (l_61 c_62 : Nat), (∀ x, S_58 x → x.cell? ((newA w).add 2) = some (.slice a_60 l_61 c_62)) ∧
  CallsV Try.prog n_trystlaw13_Sector #[.slice a_60 l_61 c_62] w6.drew (fun v_63 w12 =>
  ∃ (a_64 : Option Addr) (l_65 c_66 : Nat), v_63 = .slice a_64 l_65 c_66 ∧
  S_58 w12 ∧
  CallsV Try.prog n_disk_Disk_Write #[.pointer d5, .int .i64 (IntKind.i64.wrap (10 + (IntKind.i64.wrap (Int.tmod (IntKind.u64.wrap x_59) 10)))), .slice a_64 l_65 c_66] w12 (fun v_67 w13 =>
  ∃ x_68 : Int, v_67 = .int .i64 x_68 ∧
  (let i9_68 : Int := (IntKind.i64.wrap (i9 + 1));
  N4 l1 d5 want7 i9_68 w13))))))))))))))

def trystlaw13_DiskSafe.b4 (R : Value → World → Prop) (N4 : Sl → Option Addr → Sl → Int → World → Prop) (l1 : Sl) (d5 : Option Addr) (want7 : Sl) (i9 : Int) (w : World) : Prop :=
  cond (decide ((i9 : Int) < ((l1.len : Nat) : Int)))
  (cond (decide ((i9 : Int) < 100))
  (trystlaw13_DiskSafe.c5 R N4 l1 d5 want7 i9 w)
  (trystlaw13_DiskSafe.c3 R d5 want7 w))
  (trystlaw13_DiskSafe.c3 R d5 want7 w)

def trystlaw13_DiskSafe.l4 (R : Value → World → Prop) (l1 : Sl) (d5 : Option Addr) (want7 : Sl) (i9 : Int) (w : World) : Prop :=
  ∃ (I : Int → World → Prop) (μ : Int → World → Nat), I i9 w ∧ ∀ s w, I s w → trystlaw13_DiskSafe.b4 R (fun l1' d5' want7' i9' w' => (l1' = l1 ∧ d5' = d5 ∧ want7' = want7 ∧ I i9' w') ∧ μ i9' w' < μ s w) l1 d5 want7 s w

def trystlaw13_DiskSafe.c6 (R : Value → World → Prop) (l1 : Sl) (d5 : Option Addr) (want7 : Sl) (w : World) : Prop :=
  CallsV Try.prog n_disk_Disk_Sync #[.pointer d5] w (fun v_70 w14 =>
  ∃ x_71 : Int, v_70 = .int .i64 x_71 ∧
  cond ((x_71 : Int) != 0)
  (R (.bool false) w14)
  (trystlaw13_DiskSafe.l4 R l1 d5 want7 0 w14))

def trystlaw13_DiskSafe.b7 (R : Value → World → Prop) (N7 : Sl → Sl → Option Addr → Sl → Int → World → Prop) (rows0 : Sl) (l1 : Sl) (d5 : Option Addr) (want7 : Sl) (i8 : Int) (w : World) : Prop :=
  cond (decide ((i8 : Int) < ((rows0.len : Nat) : Int)))
  (0 ≤ (i8 : Int) ∧ i8 < ((rows0.len : Nat) : Int) ∧ ∃ q_72 : Addr, rows0.a = some q_72 ∧
  ∃ (a_73 : Option Addr) (l_74 c_75 : Nat), w.cell? (q_72.add (i8 : Int).toNat) = some (.slice a_73 l_74 c_75) ∧
  cond (decide ((((l_74 : Nat) : Int) : Int) > 500))
  (R (.bool true) w)
  (0 ≤ (i8 : Int) ∧ i8 < ((rows0.len : Nat) : Int) ∧ ∃ q_76 : Addr, rows0.a = some q_76 ∧
  ∃ (a_77 : Option Addr) (l_78 c_79 : Nat), w.cell? (q_76.add (i8 : Int).toNat) = some (.slice a_77 l_78 c_79) ∧
  CallsV Try.prog n_trystlaw13_Sector #[.slice a_77 l_78 c_79] w (fun v_80 w15 =>
  ∃ (a_81 : Option Addr) (l_82 c_83 : Nat), v_80 = .slice a_81 l_82 c_83 ∧
  let w16 := w15.alloc (.cells #[.slice a_81 l_82 c_83] 52);
  ∃ (a_84 : Option Addr) (l_85 c_86 : Nat), ∃ w17 : World, (builtin .append #[58, 58] 58 #[] #[.slice want7.a want7.len want7.cap, .slice (some (newA w15)) 1 1]).run Try.prog w16 = .ok (.value (.slice a_84 l_85 c_86)) w17 ∧
  0 ≤ (i8 : Int) ∧ i8 < ((l_85 : Nat) : Int) ∧ ∃ q_87 : Addr, a_84 = some q_87 ∧
  ∃ (a_88 : Option Addr) (l_89 c_90 : Nat), w17.cell? (q_87.add (i8 : Int).toNat) = some (.slice a_88 l_89 c_90) ∧
  CallsV Try.prog n_disk_Disk_Write #[.pointer d5, .int .i64 i8, .slice a_88 l_89 c_90] w17 (fun v_91 w18 =>
  ∃ x_92 : Int, v_91 = .int .i64 x_92 ∧
  cond ((x_92 : Int) != 0)
  (R (.bool false) w18)
  ((let i8_92 : Int := (IntKind.i64.wrap (i8 + 1));
  N7 rows0 l1 d5 ⟨a_84, l_85, c_86⟩ i8_92 w18))))))
  (trystlaw13_DiskSafe.c6 R l1 d5 want7 w)

def trystlaw13_DiskSafe.l7 (R : Value → World → Prop) (rows0 : Sl) (l1 : Sl) (d5 : Option Addr) (want7 : Sl) (i8 : Int) (w : World) : Prop :=
  ∃ (I : (Sl × Int) → World → Prop) (μ : (Sl × Int) → World → Nat), I (want7, i8) w ∧ ∀ s w, I s w → trystlaw13_DiskSafe.b7 R (fun rows0' l1' d5' want7' i8' w' => (rows0' = rows0 ∧ l1' = l1 ∧ d5' = d5 ∧ I (want7', i8') w') ∧ μ (want7', i8') w' < μ s w) rows0 l1 d5 s.1 s.2 w

def trystlaw13_DiskSafe.c8 (R : Value → World → Prop) (rows0 : Sl) (l1 : Sl) (d5 : Option Addr) (w : World) : Prop :=
  trystlaw13_DiskSafe.l7 R rows0 l1 d5 ⟨none, 0, 0⟩ 0 w

def trystlaw13_DiskSafe.c9 (R : Value → World → Prop) (rows0 : Sl) (l1 : Sl) (w : World) : Prop :=
  CallsV Try.prog n_disk_New #[.int .i64 20] w (fun v_94 w19 =>
  ∃ p_95 : Option Addr, ∃ x_96 : Int, v_94 = .tuple #[.pointer p_95, .int .i64 x_96] ∧
  cond ((x_96 : Int) != 0)
  (R (.bool false) w19)
  (cond ((p_95).isNone)
  (R (.bool false) w19)
  (trystlaw13_DiskSafe.c8 R rows0 l1 p_95 w19)))

def trystlaw13_DiskSafe.main (R : Value → World → Prop) (rows0 : Sl) (l1 : Sl) (w : World) : Prop :=
  CallsV Try.prog n_trystlaw13_heavy #[.slice l1.a l1.len l1.cap] w (fun v_97 w20 =>
  ∃ b_98 : Bool, v_97 = .bool b_98 ∧
  cond b_98
  (R (.bool true) w20)
  (cond (decide ((((rows0.len : Nat) : Int) : Int) < 1))
  (R (.bool true) w20)
  (cond (decide ((((rows0.len : Nat) : Int) : Int) > 10))
  (R (.bool true) w20)
  (trystlaw13_DiskSafe.c9 R rows0 l1 w20))))

def trystlaw13_DiskSafe.J4 (R : Value → World → Prop) (N4 : Sl → Option Addr → Sl → Int → World → Prop) (k : Nat) (fr : Fr) (w : World) : Prop :=
  cond (Nat.beq k 5) (dec [(1, .slice), (5, .ptr), (7, .slice), (9, (.int .i64))] fr fun x => trystlaw13_DiskSafe.c5 R N4 x.1 x.2.1 x.2.2.1 x.2.2.2 w) (False)

def trystlaw13_DiskSafe.J0 (R : Value → World → Prop) (k : Nat) (fr : Fr) (w : World) : Prop :=
  cond (Nat.beq k 9) (dec [(0, .slice), (1, .slice)] fr fun x => trystlaw13_DiskSafe.c9 R x.1 x.2 w) (cond (Nat.beq k 8) (dec [(0, .slice), (1, .slice), (5, .ptr)] fr fun x => trystlaw13_DiskSafe.c8 R x.1 x.2.1 x.2.2 w) (cond (Nat.beq k 7) (dec [(0, .slice), (1, .slice), (5, .ptr), (7, .slice), (8, (.int .i64))] fr fun x => trystlaw13_DiskSafe.l7 R x.1 x.2.1 x.2.2.1 x.2.2.2.1 x.2.2.2.2 w) (cond (Nat.beq k 6) (dec [(1, .slice), (5, .ptr), (7, .slice)] fr fun x => trystlaw13_DiskSafe.c6 R x.1 x.2.1 x.2.2 w) (cond (Nat.beq k 4) (dec [(1, .slice), (5, .ptr), (7, .slice), (9, (.int .i64))] fr fun x => trystlaw13_DiskSafe.l4 R x.1 x.2.1 x.2.2.1 x.2.2.2 w) (cond (Nat.beq k 3) (dec [(5, .ptr), (7, .slice)] fr fun x => trystlaw13_DiskSafe.c3 R x.1 x.2 w) (cond (Nat.beq k 2) (dec [(5, .ptr), (7, .slice), (11, (.int .i64))] fr fun x => trystlaw13_DiskSafe.l2 R x.1 x.2.1 x.2.2 w) (cond (Nat.beq k 1) (dec [] fr fun x => trystlaw13_DiskSafe.c1 R w) (False))))))))

set_option maxRecDepth 100000 in
theorem trystlaw13_DiskSafe.lift {R : Value → World → Prop} {rows0 : Sl} {l1 : Sl} {w : World} (h : trystlaw13_DiskSafe.main R rows0 l1 w) : CallsV Try.prog n_trystlaw13_DiskSafe #[.slice rows0.a rows0.len rows0.cap, .slice l1.a l1.len l1.cap] w R :=
  liftCalls (c := (.seq (.leaf (cL (bd Try.f9))) (.seq (.seq (.leaf (cL (cL (cR (bd Try.f9))))) (.cnd (.tmp 25) (.seq (.leaf (cL (cT (cR (cL (cR (bd Try.f9))))))) (.leaf (cR (cT (cR (cL (cR (bd Try.f9)))))))) (.leaf (cE (cR (cL (cR (bd Try.f9)))))))) (.cut 9 (.seq (.leaf (cL (cR (cR (bd Try.f9))))) (.seq (.seq (.leaf (cL (cL (cR (cR (cR (bd Try.f9))))))) (.cnd (.tmp 35) (.seq (.leaf (cL (cT (cR (cL (cR (cR (cR (bd Try.f9))))))))) (.leaf (cR (cT (cR (cL (cR (cR (cR (bd Try.f9)))))))))) (.leaf (cE (cR (cL (cR (cR (cR (bd Try.f9)))))))))) (.cut 8 (.seq (.leaf (cL (cR (cR (cR (cR (bd Try.f9))))))) (.seq (.seq (.leaf (cL (cL (cR (cR (cR (cR (cR (bd Try.f9))))))))) (.block 0 (.loop 7 (.seq (.seq (.leaf (cL (cL (cB (cB (cR (cL (cR (cR (cR (cR (cR (bd Try.f9))))))))))))) (.cnd (.tmp 39) (.leaf (cT (cR (cL (cB (cB (cR (cL (cR (cR (cR (cR (cR (bd Try.f9)))))))))))))) (.leaf (cE (cR (cL (cB (cB (cR (cL (cR (cR (cR (cR (cR (bd Try.f9)))))))))))))))) (.seq (.block 1 (.seq (.seq (.leaf (cL (cL (cB (cL (cR (cB (cB (cR (cL (cR (cR (cR (cR (cR (bd Try.f9)))))))))))))))) (.cnd (.tmp 47) (.seq (.leaf (cL (cT (cR (cL (cB (cL (cR (cB (cB (cR (cL (cR (cR (cR (cR (cR (bd Try.f9)))))))))))))))))) (.leaf (cR (cT (cR (cL (cB (cL (cR (cB (cB (cR (cL (cR (cR (cR (cR (cR (bd Try.f9))))))))))))))))))) (.leaf (cE (cR (cL (cB (cL (cR (cB (cB (cR (cL (cR (cR (cR (cR (cR (bd Try.f9))))))))))))))))))) (.seq (.leaf (cL (cR (cB (cL (cR (cB (cB (cR (cL (cR (cR (cR (cR (cR (bd Try.f9)))))))))))))))) (.seq (.leaf (cL (cR (cR (cB (cL (cR (cB (cB (cR (cL (cR (cR (cR (cR (cR (bd Try.f9))))))))))))))))) (.cnd (.tmp 63) (.seq (.leaf (cL (cT (cR (cR (cR (cB (cL (cR (cB (cB (cR (cL (cR (cR (cR (cR (cR (bd Try.f9))))))))))))))))))) (.leaf (cR (cT (cR (cR (cR (cB (cL (cR (cB (cB (cR (cL (cR (cR (cR (cR (cR (bd Try.f9)))))))))))))))))))) (.leaf (cE (cR (cR (cR (cB (cL (cR (cB (cB (cR (cL (cR (cR (cR (cR (cR (bd Try.f9))))))))))))))))))))))) (.leaf (cR (cR (cB (cB (cR (cL (cR (cR (cR (cR (cR (bd Try.f9)))))))))))))))))) (.cut 6 (.seq (.seq (.leaf (cL (cL (cR (cR (cR (cR (cR (cR (bd Try.f9)))))))))) (.cnd (.tmp 66) (.seq (.leaf (cL (cT (cR (cL (cR (cR (cR (cR (cR (cR (bd Try.f9)))))))))))) (.leaf (cR (cT (cR (cL (cR (cR (cR (cR (cR (cR (bd Try.f9))))))))))))) (.leaf (cE (cR (cL (cR (cR (cR (cR (cR (cR (bd Try.f9))))))))))))) (.seq (.seq (.leaf (cL (cL (cR (cR (cR (cR (cR (cR (cR (bd Try.f9))))))))))) (.block 2 (.loop 4 (.seq (.seq (.leaf (cL (cL (cB (cB (cR (cL (cR (cR (cR (cR (cR (cR (cR (bd Try.f9))))))))))))))) (.cnd (.tmp 74) (.leaf (cT (cR (cL (cB (cB (cR (cL (cR (cR (cR (cR (cR (cR (cR (bd Try.f9)))))))))))))))) (.leaf (cE (cR (cL (cB (cB (cR (cL (cR (cR (cR (cR (cR (cR (cR (bd Try.f9)))))))))))))))))) (.cut 5 (.seq (.block 3 (.seq (.leaf (cL (cB (cL (cR (cB (cB (cR (cL (cR (cR (cR (cR (cR (cR (cR (bd Try.f9))))))))))))))))) (.seq (.leaf (cL (cR (cB (cL (cR (cB (cB (cR (cL (cR (cR (cR (cR (cR (cR (cR (bd Try.f9)))))))))))))))))) (.block 4 (.seq (.leaf (cL (cB (cR (cR (cB (cL (cR (cB (cB (cR (cL (cR (cR (cR (cR (cR (cR (cR (bd Try.f9)))))))))))))))))))) (.cnd (.tmp 96) (.leaf (cT (cR (cB (cR (cR (cB (cL (cR (cB (cB (cR (cL (cR (cR (cR (cR (cR (cR (cR (bd Try.f9))))))))))))))))))))) (.seq (.leaf (cL (cE (cR (cB (cR (cR (cB (cL (cR (cB (cB (cR (cL (cR (cR (cR (cR (cR (cR (cR (bd Try.f9)))))))))))))))))))))) (.cnd (.tmp 100) (.leaf (cT (cR (cE (cR (cB (cR (cR (cB (cL (cR (cB (cB (cR (cL (cR (cR (cR (cR (cR (cR (cR (bd Try.f9))))))))))))))))))))))) (.seq (.leaf (cL (cE (cR (cE (cR (cB (cR (cR (cB (cL (cR (cB (cB (cR (cL (cR (cR (cR (cR (cR (cR (cR (bd Try.f9)))))))))))))))))))))))) (.cnd (.tmp 108) (.leaf (cT (cR (cE (cR (cE (cR (cB (cR (cR (cB (cL (cR (cB (cB (cR (cL (cR (cR (cR (cR (cR (cR (cR (bd Try.f9))))))))))))))))))))))))) (.seq (.leaf (cL (cE (cR (cE (cR (cE (cR (cB (cR (cR (cB (cL (cR (cB (cB (cR (cL (cR (cR (cR (cR (cR (cR (cR (bd Try.f9)))))))))))))))))))))))))) (.cnd (.tmp 112) (.leaf (cT (cR (cE (cR (cE (cR (cE (cR (cB (cR (cR (cB (cL (cR (cB (cB (cR (cL (cR (cR (cR (cR (cR (cR (cR (bd Try.f9))))))))))))))))))))))))))) (.seq (.leaf (cL (cE (cR (cE (cR (cE (cR (cE (cR (cB (cR (cR (cB (cL (cR (cB (cB (cR (cL (cR (cR (cR (cR (cR (cR (cR (bd Try.f9)))))))))))))))))))))))))))) (.cnd (.tmp 122) (.leaf (cT (cR (cE (cR (cE (cR (cE (cR (cE (cR (cB (cR (cR (cB (cL (cR (cB (cB (cR (cL (cR (cR (cR (cR (cR (cR (cR (bd Try.f9))))))))))))))))))))))))))))) (.leaf (cE (cR (cE (cR (cE (cR (cE (cR (cE (cR (cB (cR (cR (cB (cL (cR (cB (cB (cR (cL (cR (cR (cR (cR (cR (cR (cR (bd Try.f9))))))))))))))))))))))))))))))))))))))))))) (.leaf (cR (cR (cB (cB (cR (cL (cR (cR (cR (cR (cR (cR (cR (bd Try.f9))))))))))))))))))))) (.cut 3 (.seq (.leaf (cL (cR (cR (cR (cR (cR (cR (cR (cR (bd Try.f9))))))))))) (.seq (.seq (.leaf (cL (cL (cR (cR (cR (cR (cR (cR (cR (cR (cR (bd Try.f9))))))))))))) (.block 5 (.loop 2 (.seq (.seq (.leaf (cL (cL (cB (cB (cR (cL (cR (cR (cR (cR (cR (cR (cR (cR (cR (bd Try.f9))))))))))))))))) (.cnd (.tmp 133) (.leaf (cT (cR (cL (cB (cB (cR (cL (cR (cR (cR (cR (cR (cR (cR (cR (cR (bd Try.f9)))))))))))))))))) (.leaf (cE (cR (cL (cB (cB (cR (cL (cR (cR (cR (cR (cR (cR (cR (cR (cR (bd Try.f9)))))))))))))))))))) (.seq (.block 6 (.seq (.leaf (cL (cB (cL (cR (cB (cB (cR (cL (cR (cR (cR (cR (cR (cR (cR (cR (cR (bd Try.f9))))))))))))))))))) (.seq (.leaf (cL (cR (cB (cL (cR (cB (cB (cR (cL (cR (cR (cR (cR (cR (cR (cR (cR (cR (bd Try.f9)))))))))))))))))))) (.cnd (.tmp 152) (.seq (.leaf (cL (cT (cR (cR (cB (cL (cR (cB (cB (cR (cL (cR (cR (cR (cR (cR (cR (cR (cR (cR (bd Try.f9)))))))))))))))))))))) (.leaf (cR (cT (cR (cR (cB (cL (cR (cB (cB (cR (cL (cR (cR (cR (cR (cR (cR (cR (cR (cR (bd Try.f9))))))))))))))))))))))) (.leaf (cE (cR (cR (cB (cL (cR (cB (cB (cR (cL (cR (cR (cR (cR (cR (cR (cR (cR (cR (bd Try.f9))))))))))))))))))))))))) (.leaf (cR (cR (cB (cB (cR (cL (cR (cR (cR (cR (cR (cR (cR (cR (cR (bd Try.f9)))))))))))))))))))))) (.cut 1 (.seq (.leaf (cL (cR (cR (cR (cR (cR (cR (cR (cR (cR (cR (bd Try.f9))))))))))))) (.leaf (cR (cR (cR (cR (cR (cR (cR (cR (cR (cR (cR (bd Try.f9)))))))))))))))))))))))))))))) (J := trystlaw13_DiskSafe.J0 R) LfYtnnpkjhpeefnbaa.mixed Try.func9 (by kernel_rfl) (by kernel_rfl) (mkSeq (mkSeq (mkCut (cutDef [(0, .slice), (1, .slice)] (fun x w => trystlaw13_DiskSafe.c9 R x.1 x.2 w) (fun _ _ => by kernel_rfl) (fun _ _ => by kernel_rfl)) (mkSeq (mkSeq (mkCut (cutDef [(0, .slice), (1, .slice), (5, .ptr)] (fun x w => trystlaw13_DiskSafe.c8 R x.1 x.2.1 x.2.2 w) (fun _ _ => by kernel_rfl) (fun _ _ => by kernel_rfl)) (mkSeq (mkSeq (mkCut (cutDef [(1, .slice), (5, .ptr), (7, .slice)] (fun x w => trystlaw13_DiskSafe.c6 R x.1 x.2.1 x.2.2 w) (fun _ _ => by kernel_rfl) (fun _ _ => by kernel_rfl)) (mkSeq (mkSeq (mkCut (cutDef [(5, .ptr), (7, .slice)] (fun x w => trystlaw13_DiskSafe.c3 R x.1 x.2 w) (fun _ _ => by kernel_rfl) (fun _ _ => by kernel_rfl)) (mkSeq (mkSeq (mkCut (cutDef [] (fun x w => trystlaw13_DiskSafe.c1 R w) (fun _ _ => by kernel_rfl) (fun _ _ => by kernel_rfl)) (mkSeq mkLeaf mkLeaf)) (mkSeq (mkBlock (mkLoop (loopDef LfYtnnpkjhpeefnbaa.mixed [(5, .ptr), (7, .slice), (11, (.int .i64))] (by kernel_rfl) (fun M2 x w => trystlaw13_DiskSafe.b2 R (fun y0 y1 y2 w => M2 (y0, y1, y2) w) x.1 x.2.1 x.2.2 w) (fun M2 => fun _ _ _ => False) (fun _ _ _ => by kernel_rfl) (fun M2 => (mkSeq (mkSeq mkLeaf (mkBlock (mkSeq (mkSeq (mkCnd (mkSeq mkLeaf mkLeaf) mkLeaf) mkLeaf) mkLeaf))) (mkSeq (mkCnd mkLeaf mkLeaf) mkLeaf))) (fun x w => trystlaw13_DiskSafe.l2 R x.1 x.2.1 x.2.2 w) (by rintro ⟨c0, c1, s0⟩ w ⟨I, μ, h0, h1⟩; refine ⟨fun y w => y.1 = c0 ∧ y.2.1 = c1 ∧ I y.2.2 w, fun y w => μ y.2.2 w, ⟨rfl, rfl, h0⟩, ?_⟩; rintro ⟨d0, d1, t0⟩ w ⟨e0, e1, hI⟩; dsimp only at e0 e1 hI; subst e0; subst e1; exact h1 _ _ hI) (fun _ _ => by kernel_rfl)))) mkLeaf)) mkLeaf)) (mkSeq (mkBlock (mkLoop (loopDef LfYtnnpkjhpeefnbaa.mixed [(1, .slice), (5, .ptr), (7, .slice), (9, (.int .i64))] (by kernel_rfl) (fun M4 x w => trystlaw13_DiskSafe.b4 R (fun y0 y1 y2 y3 w => M4 (y0, y1, y2, y3) w) x.1 x.2.1 x.2.2.1 x.2.2.2 w) (fun M4 => trystlaw13_DiskSafe.J4 R (fun y0 y1 y2 y3 w => M4 (y0, y1, y2, y3) w)) (fun _ _ _ => by kernel_rfl) (fun M4 => (mkSeq (mkCut (cutDef [(1, .slice), (5, .ptr), (7, .slice), (9, (.int .i64))] (fun x w => trystlaw13_DiskSafe.c5 R (fun y0 y1 y2 y3 w => M4 (y0, y1, y2, y3) w) x.1 x.2.1 x.2.2.1 x.2.2.2 w) (fun _ _ => by kernel_rfl) (fun _ _ => by kernel_rfl)) (mkSeq mkLeaf (mkBlock (mkSeq (mkSeq (mkBlock (mkSeq (mkCnd mkLeaf (mkSeq (mkCnd mkLeaf (mkSeq (mkCnd mkLeaf (mkSeq (mkCnd mkLeaf (mkSeq (mkCnd mkLeaf mkLeaf) mkLeaf)) mkLeaf)) mkLeaf)) mkLeaf)) mkLeaf)) mkLeaf) mkLeaf)))) (mkSeq (mkCnd mkLeaf mkLeaf) mkLeaf))) (fun x w => trystlaw13_DiskSafe.l4 R x.1 x.2.1 x.2.2.1 x.2.2.2 w) (by rintro ⟨c0, c1, c2, s0⟩ w ⟨I, μ, h0, h1⟩; refine ⟨fun y w => y.1 = c0 ∧ y.2.1 = c1 ∧ y.2.2.1 = c2 ∧ I y.2.2.2 w, fun y w => μ y.2.2.2 w, ⟨rfl, rfl, rfl, h0⟩, ?_⟩; rintro ⟨d0, d1, d2, t0⟩ w ⟨e0, e1, e2, hI⟩; dsimp only at e0 e1 e2 hI; subst e0; subst e1; subst e2; exact h1 _ _ hI) (fun _ _ => by kernel_rfl)))) mkLeaf)) (mkSeq (mkCnd (mkSeq mkLeaf mkLeaf) mkLeaf) mkLeaf))) (mkSeq (mkBlock (mkLoop (loopDef LfYtnnpkjhpeefnbaa.mixed [(0, .slice), (1, .slice), (5, .ptr), (7, .slice), (8, (.int .i64))] (by kernel_rfl) (fun M7 x w => trystlaw13_DiskSafe.b7 R (fun y0 y1 y2 y3 y4 w => M7 (y0, y1, y2, y3, y4) w) x.1 x.2.1 x.2.2.1 x.2.2.2.1 x.2.2.2.2 w) (fun M7 => fun _ _ _ => False) (fun _ _ _ => by kernel_rfl) (fun M7 => (mkSeq (mkSeq mkLeaf (mkBlock (mkSeq (mkSeq (mkSeq (mkCnd (mkSeq mkLeaf mkLeaf) mkLeaf) mkLeaf) mkLeaf) (mkSeq (mkCnd (mkSeq mkLeaf mkLeaf) mkLeaf) mkLeaf)))) (mkSeq (mkCnd mkLeaf mkLeaf) mkLeaf))) (fun x w => trystlaw13_DiskSafe.l7 R x.1 x.2.1 x.2.2.1 x.2.2.2.1 x.2.2.2.2 w) (by rintro ⟨c0, c1, c2, s0⟩ w ⟨I, μ, h0, h1⟩; refine ⟨fun y w => y.1 = c0 ∧ y.2.1 = c1 ∧ y.2.2.1 = c2 ∧ I y.2.2.2 w, fun y w => μ y.2.2.2 w, ⟨rfl, rfl, rfl, h0⟩, ?_⟩; rintro ⟨d0, d1, d2, t0⟩ w ⟨e0, e1, e2, hI⟩; dsimp only at e0 e1 e2 hI; subst e0; subst e1; subst e2; exact h1 _ _ hI) (fun _ _ => by kernel_rfl)))) mkLeaf)) mkLeaf)) (mkSeq (mkCnd (mkSeq mkLeaf mkLeaf) mkLeaf) mkLeaf)) mkLeaf)) (mkSeq (mkCnd (mkSeq mkLeaf mkLeaf) mkLeaf) mkLeaf)) mkLeaf) (kcast (by kernel_rfl) h)

/-! trystlaw13_DiskTrips -/
def trystlaw13_DiskTrips.c1 (R : Value → World → Prop) (d9 : Option Addr) (w : World) : Prop :=
  CallsV Try.prog n_disk_Disk_Sync #[.pointer d9] w (fun v_1 w1 =>
  ∃ x_2 : Int, v_1 = .int .i64 x_2 ∧
  cond ((x_2 : Int) == 9)
  (CallsV Try.prog n_disk_Disk_Off #[.pointer d9] w1 (fun v_3 w2 =>
  ∃ b_4 : Bool, v_3 = .bool b_4 ∧
  cond b_4
  (CallsV Try.prog n_trystlaw13_wakes #[] w2 (fun v_5 w3 =>
  ∃ b_6 : Bool, v_5 = .bool b_6 ∧
  R (.bool b_6) w3))
  (R (.bool false) w2)))
  (R (.bool false) w1))

def trystlaw13_DiskTrips.c2 (R : Value → World → Prop) (d9 : Option Addr) (w : World) : Prop :=
  CallsV Try.prog n_disk_Disk_Trip #[.pointer d9, .int .i64 1, .slice none 0 0, .int .i64 (-1)] w (fun v_7 w4 =>
  v_7 = .tuple #[] ∧
  CallsV Try.prog n_trystlaw13_Sector #[.slice none 0 0] w4 (fun v_8 w5 =>
  ∃ (a_9 : Option Addr) (l_10 c_11 : Nat), v_8 = .slice a_9 l_10 c_11 ∧
  CallsV Try.prog n_disk_Disk_Write #[.pointer d9, .int .i64 9, .slice a_9 l_10 c_11] w5 (fun v_12 w6 =>
  ∃ x_13 : Int, v_12 = .int .i64 x_13 ∧
  cond ((x_13 : Int) != 1)
  (R (.bool false) w6)
  (CallsV Try.prog n_disk_Disk_Write #[.pointer d9, .int .i64 0, .slice none 0 0] w6 (fun v_14 w7 =>
  ∃ x_15 : Int, v_14 = .int .i64 x_15 ∧
  cond ((x_15 : Int) != 2)
  (R (.bool false) w7)
  (CallsV Try.prog n_disk_Disk_Off #[.pointer d9] w7 (fun v_16 w8 =>
  ∃ b_17 : Bool, v_16 = .bool b_17 ∧
  cond b_17
  (R (.bool false) w8)
  (trystlaw13_DiskTrips.c1 R d9 w8))))))))

def trystlaw13_DiskTrips.c4 (R : Value → World → Prop) (N3 : Int → Sl → Option Addr → Int → World → Prop) (n0 : Int) (syncs1 : Sl) (d9 : Option Addr) (i11 : Int) (w : World) : Prop :=
  CallsV Try.prog n_disk_Disk_Start #[.pointer d9] w (fun v_18 w9 =>
  v_18 = .tuple #[] ∧
  (let i11_18 : Int := (IntKind.i64.wrap (i11 + 1));
  N3 n0 syncs1 d9 i11_18 w9))

def trystlaw13_DiskTrips.c5 (R : Value → World → Prop) (N3 : Int → Sl → Option Addr → Int → World → Prop) (n0 : Int) (syncs1 : Sl) (d9 : Option Addr) (i11 : Int) (e12 : Int) (w : World) : Prop :=
  cond (((IntKind.i64.wrap (i11 + 1)) : Int) == n0)
  (cond ((e12 : Int) != 9)
  (R (.bool false) w)
  (CallsV Try.prog n_disk_Disk_Off #[.pointer d9] w (fun v_20 w10 =>
  ∃ b_21 : Bool, v_20 = .bool b_21 ∧
  cond (!b_21)
  (R (.bool false) w10)
  (CallsV Try.prog n_disk_Disk_Sync #[.pointer d9] w10 (fun v_22 w11 =>
  ∃ x_23 : Int, v_22 = .int .i64 x_23 ∧
  cond ((x_23 : Int) != 9)
  (R (.bool false) w11)
  (CallsV Try.prog n_trystlaw13_Sector #[.slice none 0 0] w11 (fun v_24 w12 =>
  ∃ (a_25 : Option Addr) (l_26 c_27 : Nat), v_24 = .slice a_25 l_26 c_27 ∧
  CallsV Try.prog n_disk_Disk_Write #[.pointer d9, .int .i64 0, .slice a_25 l_26 c_27] w12 (fun v_28 w13 =>
  ∃ x_29 : Int, v_28 = .int .i64 x_29 ∧
  cond ((x_29 : Int) != 9)
  (R (.bool false) w13)
  (trystlaw13_DiskTrips.c4 R N3 n0 syncs1 d9 i11 w13)))))))))
  (cond ((e12 : Int) != 0)
  (R (.bool false) w)
  (CallsV Try.prog n_disk_Disk_Off #[.pointer d9] w (fun v_30 w14 =>
  ∃ b_31 : Bool, v_30 = .bool b_31 ∧
  cond b_31
  (R (.bool false) w14)
  ((let i11_31 : Int := (IntKind.i64.wrap (i11 + 1));
  N3 n0 syncs1 d9 i11_31 w14)))))

def trystlaw13_DiskTrips.b3 (R : Value → World → Prop) (N3 : Int → Sl → Option Addr → Int → World → Prop) (n0 : Int) (syncs1 : Sl) (d9 : Option Addr) (i11 : Int) (w : World) : Prop :=
  cond (decide ((i11 : Int) < ((syncs1.len : Nat) : Int)))
  (0 ≤ (i11 : Int) ∧ i11 < ((syncs1.len : Nat) : Int) ∧ ∃ q_33 : Addr, syncs1.a = some q_33 ∧
  ∃ b_34 : Bool, w.cell? (q_33.add (i11 : Int).toNat) = some (.bool b_34) ∧
  cond b_34
  (CallsV Try.prog n_disk_Disk_Sync #[.pointer d9] w (fun v_35 w15 =>
  ∃ x_36 : Int, v_35 = .int .i64 x_36 ∧
  trystlaw13_DiskTrips.c5 R N3 n0 syncs1 d9 i11 x_36 w15))
  ((4 : Int) ≠ 0 ∧
  let w16 := w.alloc (.cells #[.int .u8 (IntKind.u8.wrap i11)] 5);
  CallsV Try.prog n_trystlaw13_Sector #[.slice (some (newA w)) 1 1] w16 (fun v_37 w17 =>
  ∃ (a_38 : Option Addr) (l_39 c_40 : Nat), v_37 = .slice a_38 l_39 c_40 ∧
  CallsV Try.prog n_disk_Disk_Write #[.pointer d9, .int .i64 (Int.tmod i11 4), .slice a_38 l_39 c_40] w17 (fun v_41 w18 =>
  ∃ x_42 : Int, v_41 = .int .i64 x_42 ∧
  trystlaw13_DiskTrips.c5 R N3 n0 syncs1 d9 i11 x_42 w18))))
  (trystlaw13_DiskTrips.c2 R d9 w)

def trystlaw13_DiskTrips.l3 (R : Value → World → Prop) (n0 : Int) (syncs1 : Sl) (d9 : Option Addr) (i11 : Int) (w : World) : Prop :=
  ∃ (I : Int → World → Prop) (μ : Int → World → Nat), I i11 w ∧ ∀ s w, I s w → trystlaw13_DiskTrips.b3 R (fun n0' syncs1' d9' i11' w' => (n0' = n0 ∧ syncs1' = syncs1 ∧ d9' = d9 ∧ I i11' w') ∧ μ i11' w' < μ s w) n0 syncs1 d9 s w

def trystlaw13_DiskTrips.c6 (R : Value → World → Prop) (n0 : Int) (syncs1 : Sl) (keep2 : Sl) (torn3 : Int) (d9 : Option Addr) (w : World) : Prop :=
  CallsV Try.prog n_disk_Disk_Trip #[.pointer d9, .int .i64 3, .slice none 0 0, .int .i64 0] w (fun v_43 w19 =>
  v_43 = .tuple #[] ∧
  CallsV Try.prog n_disk_Disk_Trip #[.pointer d9, .int .i64 n0, .slice keep2.a keep2.len keep2.cap, .int .i64 torn3] w19 (fun v_44 w20 =>
  v_44 = .tuple #[] ∧
  trystlaw13_DiskTrips.l3 R n0 syncs1 d9 0 w20))

def trystlaw13_DiskTrips.c7 (R : Value → World → Prop) (n0 : Int) (syncs1 : Sl) (keep2 : Sl) (torn3 : Int) (w : World) : Prop :=
  CallsV Try.prog n_disk_New #[.int .i64 4] w (fun v_45 w21 =>
  ∃ p_46 : Option Addr, ∃ x_47 : Int, v_45 = .tuple #[.pointer p_46, .int .i64 x_47] ∧
  cond ((x_47 : Int) != 0)
  (R (.bool false) w21)
  (cond ((p_46).isNone)
  (R (.bool false) w21)
  (trystlaw13_DiskTrips.c6 R n0 syncs1 keep2 torn3 p_46 w21)))

def trystlaw13_DiskTrips.main (R : Value → World → Prop) (n0 : Int) (syncs1 : Sl) (keep2 : Sl) (torn3 : Int) (w : World) : Prop :=
  cond (decide ((((syncs1.len : Nat) : Int) : Int) > 60))
  (R (.bool true) w)
  (cond (decide ((((keep2.len : Nat) : Int) : Int) > 100))
  (R (.bool true) w)
  (trystlaw13_DiskTrips.c7 R n0 syncs1 keep2 torn3 w))

def trystlaw13_DiskTrips.J3 (R : Value → World → Prop) (N3 : Int → Sl → Option Addr → Int → World → Prop) (k : Nat) (fr : Fr) (w : World) : Prop :=
  cond (Nat.beq k 5) (dec [(0, (.int .i64)), (1, .slice), (9, .ptr), (11, (.int .i64)), (12, (.int .i64))] fr fun x => trystlaw13_DiskTrips.c5 R N3 x.1 x.2.1 x.2.2.1 x.2.2.2.1 x.2.2.2.2 w) (cond (Nat.beq k 4) (dec [(0, (.int .i64)), (1, .slice), (9, .ptr), (11, (.int .i64))] fr fun x => trystlaw13_DiskTrips.c4 R N3 x.1 x.2.1 x.2.2.1 x.2.2.2 w) (False))

def trystlaw13_DiskTrips.J0 (R : Value → World → Prop) (k : Nat) (fr : Fr) (w : World) : Prop :=
  cond (Nat.beq k 7) (dec [(0, (.int .i64)), (1, .slice), (2, .slice), (3, (.int .i64))] fr fun x => trystlaw13_DiskTrips.c7 R x.1 x.2.1 x.2.2.1 x.2.2.2 w) (cond (Nat.beq k 6) (dec [(0, (.int .i64)), (1, .slice), (2, .slice), (3, (.int .i64)), (9, .ptr)] fr fun x => trystlaw13_DiskTrips.c6 R x.1 x.2.1 x.2.2.1 x.2.2.2.1 x.2.2.2.2 w) (cond (Nat.beq k 3) (dec [(0, (.int .i64)), (1, .slice), (9, .ptr), (11, (.int .i64))] fr fun x => trystlaw13_DiskTrips.l3 R x.1 x.2.1 x.2.2.1 x.2.2.2 w) (cond (Nat.beq k 2) (dec [(9, .ptr)] fr fun x => trystlaw13_DiskTrips.c2 R x w) (cond (Nat.beq k 1) (dec [(9, .ptr)] fr fun x => trystlaw13_DiskTrips.c1 R x w) (False)))))

set_option maxRecDepth 100000 in
theorem trystlaw13_DiskTrips.lift {R : Value → World → Prop} {n0 : Int} {syncs1 : Sl} {keep2 : Sl} {torn3 : Int} {w : World} (h : trystlaw13_DiskTrips.main R n0 syncs1 keep2 torn3 w) : CallsV Try.prog n_trystlaw13_DiskTrips #[.int .i64 n0, .slice syncs1.a syncs1.len syncs1.cap, .slice keep2.a keep2.len keep2.cap, .int .i64 torn3] w R :=
  liftCalls (c := (.seq (.leaf (cL (bd Try.f10))) (.seq (.seq (.leaf (cL (cL (cR (bd Try.f10))))) (.cnd (.tmp 20) (.seq (.leaf (cL (cT (cR (cL (cR (bd Try.f10))))))) (.leaf (cR (cT (cR (cL (cR (bd Try.f10)))))))) (.leaf (cE (cR (cL (cR (bd Try.f10)))))))) (.cut 7 (.seq (.leaf (cL (cR (cR (bd Try.f10))))) (.seq (.seq (.leaf (cL (cL (cR (cR (cR (bd Try.f10))))))) (.cnd (.tmp 30) (.seq (.leaf (cL (cT (cR (cL (cR (cR (cR (bd Try.f10))))))))) (.leaf (cR (cT (cR (cL (cR (cR (cR (bd Try.f10)))))))))) (.leaf (cE (cR (cL (cR (cR (cR (bd Try.f10)))))))))) (.cut 6 (.seq (.leaf (cL (cR (cR (cR (cR (bd Try.f10))))))) (.seq (.leaf (cL (cR (cR (cR (cR (cR (bd Try.f10)))))))) (.seq (.seq (.leaf (cL (cL (cR (cR (cR (cR (cR (cR (bd Try.f10)))))))))) (.block 0 (.loop 3 (.seq (.seq (.leaf (cL (cL (cB (cB (cR (cL (cR (cR (cR (cR (cR (cR (bd Try.f10)))))))))))))) (.cnd (.tmp 41) (.leaf (cT (cR (cL (cB (cB (cR (cL (cR (cR (cR (cR (cR (cR (bd Try.f10))))))))))))))) (.leaf (cE (cR (cL (cB (cB (cR (cL (cR (cR (cR (cR (cR (cR (bd Try.f10))))))))))))))))) (.seq (.block 1 (.seq (.leaf (cL (cB (cL (cR (cB (cB (cR (cL (cR (cR (cR (cR (cR (cR (bd Try.f10)))))))))))))))) (.seq (.seq (.leaf (cL (cL (cR (cB (cL (cR (cB (cB (cR (cL (cR (cR (cR (cR (cR (cR (bd Try.f10)))))))))))))))))) (.cnd (.tmp 47) (.leaf (cT (cR (cL (cR (cB (cL (cR (cB (cB (cR (cL (cR (cR (cR (cR (cR (cR (bd Try.f10))))))))))))))))))) (.leaf (cE (cR (cL (cR (cB (cL (cR (cB (cB (cR (cL (cR (cR (cR (cR (cR (cR (bd Try.f10))))))))))))))))))))) (.cut 5 (.seq (.seq (.leaf (cL (cL (cR (cR (cB (cL (cR (cB (cB (cR (cL (cR (cR (cR (cR (cR (cR (bd Try.f10))))))))))))))))))) (.cnd (.tmp 61) (.seq (.seq (.leaf (cL (cL (cT (cR (cL (cR (cR (cB (cL (cR (cB (cB (cR (cL (cR (cR (cR (cR (cR (cR (bd Try.f10)))))))))))))))))))))) (.cnd (.tmp 79) (.seq (.leaf (cL (cT (cR (cL (cT (cR (cL (cR (cR (cB (cL (cR (cB (cB (cR (cL (cR (cR (cR (cR (cR (cR (bd Try.f10)))))))))))))))))))))))) (.leaf (cR (cT (cR (cL (cT (cR (cL (cR (cR (cB (cL (cR (cB (cB (cR (cL (cR (cR (cR (cR (cR (cR (bd Try.f10))))))))))))))))))))))))) (.leaf (cE (cR (cL (cT (cR (cL (cR (cR (cB (cL (cR (cB (cB (cR (cL (cR (cR (cR (cR (cR (cR (bd Try.f10))))))))))))))))))))))))) (.cut 4 (.seq (.leaf (cL (cR (cT (cR (cL (cR (cR (cB (cL (cR (cB (cB (cR (cL (cR (cR (cR (cR (cR (cR (bd Try.f10)))))))))))))))))))))) (.leaf (cR (cR (cT (cR (cL (cR (cR (cB (cL (cR (cB (cB (cR (cL (cR (cR (cR (cR (cR (cR (bd Try.f10))))))))))))))))))))))))) (.leaf (cE (cR (cL (cR (cR (cB (cL (cR (cB (cB (cR (cL (cR (cR (cR (cR (cR (cR (bd Try.f10)))))))))))))))))))))) (.seq (.leaf (cL (cR (cR (cR (cB (cL (cR (cB (cB (cR (cL (cR (cR (cR (cR (cR (cR (bd Try.f10))))))))))))))))))) (.cnd (.tmp 87) (.seq (.leaf (cL (cT (cR (cR (cR (cR (cB (cL (cR (cB (cB (cR (cL (cR (cR (cR (cR (cR (cR (bd Try.f10))))))))))))))))))))) (.leaf (cR (cT (cR (cR (cR (cR (cB (cL (cR (cB (cB (cR (cL (cR (cR (cR (cR (cR (cR (bd Try.f10)))))))))))))))))))))) (.leaf (cE (cR (cR (cR (cR (cB (cL (cR (cB (cB (cR (cL (cR (cR (cR (cR (cR (cR (bd Try.f10))))))))))))))))))))))))))) (.leaf (cR (cR (cB (cB (cR (cL (cR (cR (cR (cR (cR (cR (bd Try.f10))))))))))))))))))) (.cut 2 (.seq (.leaf (cL (cR (cR (cR (cR (cR (cR (cR (bd Try.f10)))))))))) (.seq (.seq (.leaf (cL (cL (cR (cR (cR (cR (cR (cR (cR (cR (bd Try.f10)))))))))))) (.cnd (.tmp 102) (.seq (.leaf (cL (cT (cR (cL (cR (cR (cR (cR (cR (cR (cR (cR (bd Try.f10)))))))))))))) (.leaf (cR (cT (cR (cL (cR (cR (cR (cR (cR (cR (cR (cR (bd Try.f10))))))))))))))) (.leaf (cE (cR (cL (cR (cR (cR (cR (cR (cR (cR (cR (bd Try.f10))))))))))))))) (.cut 1 (.seq (.leaf (cL (cR (cR (cR (cR (cR (cR (cR (cR (cR (bd Try.f10)))))))))))) (.leaf (cR (cR (cR (cR (cR (cR (cR (cR (cR (cR (bd Try.f10))))))))))))))))))))))))))) (J := trystlaw13_DiskTrips.J0 R) LfYtnnpkjhpeefnbaa.mixed Try.func10 (by kernel_rfl) (by kernel_rfl) (mkSeq (mkSeq (mkCut (cutDef [(0, (.int .i64)), (1, .slice), (2, .slice), (3, (.int .i64))] (fun x w => trystlaw13_DiskTrips.c7 R x.1 x.2.1 x.2.2.1 x.2.2.2 w) (fun _ _ => by kernel_rfl) (fun _ _ => by kernel_rfl)) (mkSeq (mkSeq (mkCut (cutDef [(0, (.int .i64)), (1, .slice), (2, .slice), (3, (.int .i64)), (9, .ptr)] (fun x w => trystlaw13_DiskTrips.c6 R x.1 x.2.1 x.2.2.1 x.2.2.2.1 x.2.2.2.2 w) (fun _ _ => by kernel_rfl) (fun _ _ => by kernel_rfl)) (mkSeq (mkSeq (mkSeq (mkCut (cutDef [(9, .ptr)] (fun x w => trystlaw13_DiskTrips.c2 R x w) (fun _ _ => by kernel_rfl) (fun _ _ => by kernel_rfl)) (mkSeq (mkSeq (mkCut (cutDef [(9, .ptr)] (fun x w => trystlaw13_DiskTrips.c1 R x w) (fun _ _ => by kernel_rfl) (fun _ _ => by kernel_rfl)) (mkSeq mkLeaf mkLeaf)) (mkSeq (mkCnd (mkSeq mkLeaf mkLeaf) mkLeaf) mkLeaf)) mkLeaf)) (mkSeq (mkBlock (mkLoop (loopDef LfYtnnpkjhpeefnbaa.mixed [(0, (.int .i64)), (1, .slice), (9, .ptr), (11, (.int .i64))] (by kernel_rfl) (fun M3 x w => trystlaw13_DiskTrips.b3 R (fun y0 y1 y2 y3 w => M3 (y0, y1, y2, y3) w) x.1 x.2.1 x.2.2.1 x.2.2.2 w) (fun M3 => trystlaw13_DiskTrips.J3 R (fun y0 y1 y2 y3 w => M3 (y0, y1, y2, y3) w)) (fun _ _ _ => by kernel_rfl) (fun M3 => (mkSeq (mkSeq mkLeaf (mkBlock (mkSeq (mkSeq (mkCut (cutDef [(0, (.int .i64)), (1, .slice), (9, .ptr), (11, (.int .i64)), (12, (.int .i64))] (fun x w => trystlaw13_DiskTrips.c5 R (fun y0 y1 y2 y3 w => M3 (y0, y1, y2, y3) w) x.1 x.2.1 x.2.2.1 x.2.2.2.1 x.2.2.2.2 w) (fun _ _ => by kernel_rfl) (fun _ _ => by kernel_rfl)) (mkSeq (mkSeq (mkCnd (mkSeq mkLeaf mkLeaf) mkLeaf) mkLeaf) (mkSeq (mkCnd (mkSeq (mkCut (cutDef [(0, (.int .i64)), (1, .slice), (9, .ptr), (11, (.int .i64))] (fun x w => trystlaw13_DiskTrips.c4 R (fun y0 y1 y2 y3 w => M3 (y0, y1, y2, y3) w) x.1 x.2.1 x.2.2.1 x.2.2.2 w) (fun _ _ => by kernel_rfl) (fun _ _ => by kernel_rfl)) (mkSeq mkLeaf mkLeaf)) (mkSeq (mkCnd (mkSeq mkLeaf mkLeaf) mkLeaf) mkLeaf)) mkLeaf) mkLeaf))) (mkSeq (mkCnd mkLeaf mkLeaf) mkLeaf)) mkLeaf))) (mkSeq (mkCnd mkLeaf mkLeaf) mkLeaf))) (fun x w => trystlaw13_DiskTrips.l3 R x.1 x.2.1 x.2.2.1 x.2.2.2 w) (by rintro ⟨c0, c1, c2, s0⟩ w ⟨I, μ, h0, h1⟩; refine ⟨fun y w => y.1 = c0 ∧ y.2.1 = c1 ∧ y.2.2.1 = c2 ∧ I y.2.2.2 w, fun y w => μ y.2.2.2 w, ⟨rfl, rfl, rfl, h0⟩, ?_⟩; rintro ⟨d0, d1, d2, t0⟩ w ⟨e0, e1, e2, hI⟩; dsimp only at e0 e1 e2 hI; subst e0; subst e1; subst e2; exact h1 _ _ hI) (fun _ _ => by kernel_rfl)))) mkLeaf)) mkLeaf) mkLeaf)) (mkSeq (mkCnd (mkSeq mkLeaf mkLeaf) mkLeaf) mkLeaf)) mkLeaf)) (mkSeq (mkCnd (mkSeq mkLeaf mkLeaf) mkLeaf) mkLeaf)) mkLeaf) (kcast (by kernel_rfl) h)

/-! trystlaw13_DiskExact -/
def trystlaw13_DiskExact.c1 (R : Value → World → Prop) (d5 : Option Addr) (r7 : Option Addr) (w : World) : Prop :=
  CallsV Try.prog n_trystlaw13_same #[.pointer d5, .pointer r7] w (fun v_1 w1 =>
  ∃ b_2 : Bool, v_1 = .bool b_2 ∧
  cond b_2
  (CallsV Try.prog n_trystlaw13_wakes #[] w1 (fun v_3 w2 =>
  ∃ b_4 : Bool, v_3 = .bool b_4 ∧
  R (.bool b_4) w2))
  (R (.bool false) w1))

def trystlaw13_DiskExact.c3 (R : Value → World → Prop) (N2 : Int → Sl → Option Addr → Option Addr → Int → World → Prop) (n0 : Int) (l1 : Sl) (d5 : Option Addr) (r7 : Option Addr) (i8 : Int) (w : World) : Prop :=
  0 ≤ (i8 : Int) ∧ i8 < ((l1.len : Nat) : Int) ∧ ∃ q_5 : Addr, l1.a = some q_5 ∧
  ∃ x_6 : Int, w.cell? (q_5.add ((i8 : Int).toNat * 6)) = some (.int .i64 x_6) ∧
  ∃ x_7 : Int, w.cell? ((q_5.add ((i8 : Int).toNat * 6)).add 1) = some (.int .i64 x_7) ∧
  ∃ (a_8 : Option Addr) (l_9 c_10 : Nat), w.cell? ((q_5.add ((i8 : Int).toNat * 6)).add 2) = some (.slice a_8 l_9 c_10) ∧
  ∃ b_11 : Bool, w.cell? ((q_5.add ((i8 : Int).toNat * 6)).add 3) = some (.bool b_11) ∧
  ∃ (a_12 : Option Addr) (l_13 c_14 : Nat), w.cell? ((q_5.add ((i8 : Int).toNat * 6)).add 4) = some (.slice a_12 l_13 c_14) ∧
  ∃ x_15 : Int, w.cell? ((q_5.add ((i8 : Int).toNat * 6)).add 5) = some (.int .i64 x_15) ∧
  CallsV Try.prog n_trystlaw13_step #[.pointer d5, .pointer r7, .agg #[.int .i64 x_6, .int .i64 x_7, .slice a_8 l_9 c_10, .bool b_11, .slice a_12 l_13 c_14, .int .i64 x_15]] w (fun v_16 w3 =>
  ∃ b_17 : Bool, v_16 = .bool b_17 ∧
  cond (!b_17)
  (R (.bool false) w3)
  (cond (decide ((n0 : Int) ≤ 20))
  (CallsV Try.prog n_trystlaw13_same #[.pointer d5, .pointer r7] w3 (fun v_18 w4 =>
  ∃ b_19 : Bool, v_18 = .bool b_19 ∧
  cond (!b_19)
  (R (.bool false) w4)
  ((let i8_19 : Int := (IntKind.i64.wrap (i8 + 1));
  N2 n0 l1 d5 r7 i8_19 w4))))
  ((let i8_20 : Int := (IntKind.i64.wrap (i8 + 1));
  N2 n0 l1 d5 r7 i8_20 w3))))

def trystlaw13_DiskExact.b2 (R : Value → World → Prop) (N2 : Int → Sl → Option Addr → Option Addr → Int → World → Prop) (n0 : Int) (l1 : Sl) (d5 : Option Addr) (r7 : Option Addr) (i8 : Int) (w : World) : Prop :=
  cond (decide ((i8 : Int) < ((l1.len : Nat) : Int)))
  (cond (decide ((i8 : Int) < 100))
  (trystlaw13_DiskExact.c3 R N2 n0 l1 d5 r7 i8 w)
  (trystlaw13_DiskExact.c1 R d5 r7 w))
  (trystlaw13_DiskExact.c1 R d5 r7 w)

def trystlaw13_DiskExact.l2 (R : Value → World → Prop) (n0 : Int) (l1 : Sl) (d5 : Option Addr) (r7 : Option Addr) (i8 : Int) (w : World) : Prop :=
  ∃ (I : Int → World → Prop) (μ : Int → World → Nat), I i8 w ∧ ∀ s w, I s w → trystlaw13_DiskExact.b2 R (fun n0' l1' d5' r7' i8' w' => (n0' = n0 ∧ l1' = l1 ∧ d5' = d5 ∧ r7' = r7 ∧ I i8' w') ∧ μ i8' w' < μ s w) n0 l1 d5 r7 s w

def trystlaw13_DiskExact.c4 (R : Value → World → Prop) (n0 : Int) (l1 : Sl) (d5 : Option Addr) (r7 : Option Addr) (w : World) : Prop :=
  trystlaw13_DiskExact.l2 R n0 l1 d5 r7 0 w

def trystlaw13_DiskExact.main (R : Value → World → Prop) (n0 : Int) (l1 : Sl) (w : World) : Prop :=
  CallsV Try.prog n_trystlaw13_heavy #[.slice l1.a l1.len l1.cap] w (fun v_22 w5 =>
  ∃ b_23 : Bool, v_22 = .bool b_23 ∧
  cond b_23
  (R (.bool true) w5)
  (CallsV Try.prog n_disk_New #[.int .i64 n0] w5 (fun v_24 w6 =>
  ∃ p_25 : Option Addr, ∃ x_26 : Int, v_24 = .tuple #[.pointer p_25, .int .i64 x_26] ∧
  CallsV Try.prog n_trystref10_New #[.int .i64 n0] w6 (fun v_27 w7 =>
  ∃ p_28 : Option Addr, v_27 = .pointer p_28 ∧
  cond ((p_28).isNone)
  (cond ((x_26 : Int) == 1)
  (cond ((p_25).isNone)
  (CallsV Try.prog n_trystlaw13_wakes #[] w7 (fun v_29 w8 =>
  ∃ b_30 : Bool, v_29 = .bool b_30 ∧
  R (.bool b_30) w8))
  (R (.bool false) w7))
  (R (.bool false) w7))
  (cond ((x_26 : Int) != 0)
  (R (.bool false) w7)
  (cond ((p_25).isNone)
  (R (.bool false) w7)
  (trystlaw13_DiskExact.c4 R n0 l1 p_25 p_28 w7)))))))

def trystlaw13_DiskExact.J2 (R : Value → World → Prop) (N2 : Int → Sl → Option Addr → Option Addr → Int → World → Prop) (k : Nat) (fr : Fr) (w : World) : Prop :=
  cond (Nat.beq k 3) (dec [(0, (.int .i64)), (1, .slice), (5, .ptr), (7, .ptr), (8, (.int .i64))] fr fun x => trystlaw13_DiskExact.c3 R N2 x.1 x.2.1 x.2.2.1 x.2.2.2.1 x.2.2.2.2 w) (False)

def trystlaw13_DiskExact.J0 (R : Value → World → Prop) (k : Nat) (fr : Fr) (w : World) : Prop :=
  cond (Nat.beq k 4) (dec [(0, (.int .i64)), (1, .slice), (5, .ptr), (7, .ptr)] fr fun x => trystlaw13_DiskExact.c4 R x.1 x.2.1 x.2.2.1 x.2.2.2 w) (cond (Nat.beq k 2) (dec [(0, (.int .i64)), (1, .slice), (5, .ptr), (7, .ptr), (8, (.int .i64))] fr fun x => trystlaw13_DiskExact.l2 R x.1 x.2.1 x.2.2.1 x.2.2.2.1 x.2.2.2.2 w) (cond (Nat.beq k 1) (dec [(5, .ptr), (7, .ptr)] fr fun x => trystlaw13_DiskExact.c1 R x.1 x.2 w) (False)))

set_option maxRecDepth 100000 in
theorem trystlaw13_DiskExact.lift {R : Value → World → Prop} {n0 : Int} {l1 : Sl} {w : World} (h : trystlaw13_DiskExact.main R n0 l1 w) : CallsV Try.prog n_trystlaw13_DiskExact #[.int .i64 n0, .slice l1.a l1.len l1.cap] w R :=
  liftCalls (c := (.seq (.leaf (cL (bd Try.f11))) (.seq (.seq (.leaf (cL (cL (cR (bd Try.f11))))) (.cnd (.tmp 10) (.seq (.leaf (cL (cT (cR (cL (cR (bd Try.f11))))))) (.leaf (cR (cT (cR (cL (cR (bd Try.f11)))))))) (.leaf (cE (cR (cL (cR (bd Try.f11)))))))) (.seq (.leaf (cL (cR (cR (bd Try.f11))))) (.seq (.leaf (cL (cR (cR (cR (bd Try.f11)))))) (.seq (.seq (.leaf (cL (cL (cR (cR (cR (cR (bd Try.f11)))))))) (.cnd (.tmp 19) (.seq (.leaf (cL (cT (cR (cL (cR (cR (cR (cR (bd Try.f11)))))))))) (.leaf (cR (cT (cR (cL (cR (cR (cR (cR (bd Try.f11))))))))))) (.leaf (cE (cR (cL (cR (cR (cR (cR (bd Try.f11))))))))))) (.seq (.seq (.leaf (cL (cL (cR (cR (cR (cR (cR (bd Try.f11))))))))) (.cnd (.tmp 34) (.seq (.leaf (cL (cT (cR (cL (cR (cR (cR (cR (cR (bd Try.f11))))))))))) (.leaf (cR (cT (cR (cL (cR (cR (cR (cR (cR (bd Try.f11)))))))))))) (.leaf (cE (cR (cL (cR (cR (cR (cR (cR (bd Try.f11)))))))))))) (.cut 4 (.seq (.seq (.leaf (cL (cL (cR (cR (cR (cR (cR (cR (bd Try.f11)))))))))) (.block 0 (.loop 2 (.seq (.seq (.leaf (cL (cL (cB (cB (cR (cL (cR (cR (cR (cR (cR (cR (bd Try.f11)))))))))))))) (.cnd (.tmp 42) (.leaf (cT (cR (cL (cB (cB (cR (cL (cR (cR (cR (cR (cR (cR (bd Try.f11))))))))))))))) (.leaf (cE (cR (cL (cB (cB (cR (cL (cR (cR (cR (cR (cR (cR (bd Try.f11))))))))))))))))) (.cut 3 (.seq (.block 1 (.seq (.leaf (cL (cB (cL (cR (cB (cB (cR (cL (cR (cR (cR (cR (cR (cR (bd Try.f11)))))))))))))))) (.cnd (.tmp 62) (.seq (.leaf (cL (cT (cR (cB (cL (cR (cB (cB (cR (cL (cR (cR (cR (cR (cR (cR (bd Try.f11)))))))))))))))))) (.leaf (cR (cT (cR (cB (cL (cR (cB (cB (cR (cL (cR (cR (cR (cR (cR (cR (bd Try.f11))))))))))))))))))) (.leaf (cE (cR (cB (cL (cR (cB (cB (cR (cL (cR (cR (cR (cR (cR (cR (bd Try.f11)))))))))))))))))))) (.leaf (cR (cR (cB (cB (cR (cL (cR (cR (cR (cR (cR (cR (bd Try.f11)))))))))))))))))))) (.cut 1 (.seq (.leaf (cL (cR (cR (cR (cR (cR (cR (cR (bd Try.f11)))))))))) (.leaf (cR (cR (cR (cR (cR (cR (cR (cR (bd Try.f11))))))))))))))))))))) (J := trystlaw13_DiskExact.J0 R) LfYtnnpkjhpeefnbaa.mixed Try.func11 (by kernel_rfl) (by kernel_rfl) (mkSeq (mkSeq (mkSeq (mkSeq (mkSeq (mkSeq (mkCut (cutDef [(0, (.int .i64)), (1, .slice), (5, .ptr), (7, .ptr)] (fun x w => trystlaw13_DiskExact.c4 R x.1 x.2.1 x.2.2.1 x.2.2.2 w) (fun _ _ => by kernel_rfl) (fun _ _ => by kernel_rfl)) (mkSeq (mkCut (cutDef [(5, .ptr), (7, .ptr)] (fun x w => trystlaw13_DiskExact.c1 R x.1 x.2 w) (fun _ _ => by kernel_rfl) (fun _ _ => by kernel_rfl)) (mkSeq mkLeaf mkLeaf)) (mkSeq (mkBlock (mkLoop (loopDef LfYtnnpkjhpeefnbaa.mixed [(0, (.int .i64)), (1, .slice), (5, .ptr), (7, .ptr), (8, (.int .i64))] (by kernel_rfl) (fun M2 x w => trystlaw13_DiskExact.b2 R (fun y0 y1 y2 y3 y4 w => M2 (y0, y1, y2, y3, y4) w) x.1 x.2.1 x.2.2.1 x.2.2.2.1 x.2.2.2.2 w) (fun M2 => trystlaw13_DiskExact.J2 R (fun y0 y1 y2 y3 y4 w => M2 (y0, y1, y2, y3, y4) w)) (fun _ _ _ => by kernel_rfl) (fun M2 => (mkSeq (mkCut (cutDef [(0, (.int .i64)), (1, .slice), (5, .ptr), (7, .ptr), (8, (.int .i64))] (fun x w => trystlaw13_DiskExact.c3 R (fun y0 y1 y2 y3 y4 w => M2 (y0, y1, y2, y3, y4) w) x.1 x.2.1 x.2.2.1 x.2.2.2.1 x.2.2.2.2 w) (fun _ _ => by kernel_rfl) (fun _ _ => by kernel_rfl)) (mkSeq mkLeaf (mkBlock (mkSeq (mkCnd (mkSeq mkLeaf mkLeaf) mkLeaf) mkLeaf)))) (mkSeq (mkCnd mkLeaf mkLeaf) mkLeaf))) (fun x w => trystlaw13_DiskExact.l2 R x.1 x.2.1 x.2.2.1 x.2.2.2.1 x.2.2.2.2 w) (by rintro ⟨c0, c1, c2, c3, s0⟩ w ⟨I, μ, h0, h1⟩; refine ⟨fun y w => y.1 = c0 ∧ y.2.1 = c1 ∧ y.2.2.1 = c2 ∧ y.2.2.2.1 = c3 ∧ I y.2.2.2.2 w, fun y w => μ y.2.2.2.2 w, ⟨rfl, rfl, rfl, rfl, h0⟩, ?_⟩; rintro ⟨d0, d1, d2, d3, t0⟩ w ⟨e0, e1, e2, e3, hI⟩; dsimp only at e0 e1 e2 e3 hI; subst e0; subst e1; subst e2; subst e3; exact h1 _ _ hI) (fun _ _ => by kernel_rfl)))) mkLeaf))) (mkSeq (mkCnd (mkSeq mkLeaf mkLeaf) mkLeaf) mkLeaf)) (mkSeq (mkCnd (mkSeq mkLeaf mkLeaf) mkLeaf) mkLeaf)) mkLeaf) mkLeaf) (mkSeq (mkCnd (mkSeq mkLeaf mkLeaf) mkLeaf) mkLeaf)) mkLeaf) (kcast (by kernel_rfl) h)

/-! disk_New -/
def disk_New.c1 (R : Value → World → Prop) (d4 : Option Addr) (w : World) : Prop :=
  ∃ q_1 : Addr, d4 = some q_1 ∧
  ∃ (a_2 : Option Addr) (l_3 c_4 : Nat), w.cell? q_1 = some (.slice a_2 l_3 c_4) ∧
  CallsV Try.prog n_slices_Clone_sector #[.slice a_2 l_3 c_4] w (fun v_5 w1 =>
  ∃ (a_6 : Option Addr) (l_7 c_8 : Nat), v_5 = .slice a_6 l_7 c_8 ∧
  ∃ q_9 : Addr, d4 = some q_9 ∧
  Wr w1 (q_9.add 1) ∧
  (let w2 := w1.setCell (q_9.add 1) (.slice a_6 l_7 c_8);
  R (.tuple #[.pointer d4, .int .i64 0]) w2))

def disk_New.b2 (R : Value → World → Prop) (N2 : Option Addr → Int → Int → World → Prop) (d4 : Option Addr) (t13 : Int) (t14 : Int) (w : World) : Prop :=
  cond (decide ((t14 : Int) < t13))
  (∃ S_10 : World → Prop, S_10 w.drew ∧
  ∃ q_11 : Addr, d4 = some q_11 ∧
  ∃ (a_12 : Option Addr) (l_13 c_14 : Nat), (∀ x, S_10 x → x.cell? q_11 = some (.slice a_12 l_13 c_14)) ∧
  0 ≤ (64 : Int) ∧ (64 : Int) ≤ 64 ∧ (1 : Int) * 64 ≤ 281474976710656 ∧ (64 : Int) ≤ 9223372036854775807 ∧
  (let w3 := w.drew.alloc (.cells ((Array.range ((64 : Int).toNat * 1)).map ((#[.int .u8 0] : Array Value)[· % (#[.int .u8 0] : Array Value).size]!)) 5);
  S_10 w3 ∧
  let w4 := w3.alloc (.cells #[.slice (some (newA w.drew)) ((64 : Int).toNat) ((64 : Int).toNat), .bool false] 82);
  S_10 w4 ∧
  ∃ (a_15 : Option Addr) (l_16 c_17 : Nat), ∃ w5 : World, (builtin .append #[76, 76] 76 #[] #[.slice a_12 l_13 c_14, .slice (some (newA w3)) 1 1]).run Try.prog w4 = .ok (.value (.slice a_15 l_16 c_17)) w5 ∧
  ∃ q_18 : Addr, d4 = some q_18 ∧
  Wr w5 q_18 ∧
  (let w6 := w5.setCell q_18 (.slice a_15 l_16 c_17);
  N2 d4 t13 (IntKind.i64.wrap (t14 + 1)) w6)))
  (disk_New.c1 R d4 w)

def disk_New.l2 (R : Value → World → Prop) (d4 : Option Addr) (t13 : Int) (t14 : Int) (w : World) : Prop :=
  ∃ (I : Int → World → Prop) (μ : Int → World → Nat), I t14 w ∧ ∀ s w, I s w → disk_New.b2 R (fun d4' t13' t14' w' => (d4' = d4 ∧ t13' = t13 ∧ I t14' w') ∧ μ t14' w' < μ s w) d4 t13 s w

def disk_New.c3 (R : Value → World → Prop) (sectors0 : Int) (w : World) : Prop :=
  let w7 := w.alloc (.cells #[.slice none 0 0, .slice none 0 0, .slice none 0 0, .bool false, .pointer none] 80);
  disk_New.l2 R (some (newA w)) sectors0 0 w7

def disk_New.main (R : Value → World → Prop) (sectors0 : Int) (w : World) : Prop :=
  cond (decide ((sectors0 : Int) < 1))
  (R (.tuple #[.pointer none, .int .i64 1]) w)
  (cond (decide ((sectors0 : Int) > 512))
  (R (.tuple #[.pointer none, .int .i64 1]) w)
  (disk_New.c3 R sectors0 w))

def disk_New.J0 (R : Value → World → Prop) (k : Nat) (fr : Fr) (w : World) : Prop :=
  cond (Nat.beq k 3) (dec [(0, (.int .i64))] fr fun x => disk_New.c3 R x w) (cond (Nat.beq k 2) (dec [(4, .ptr), (13, (.int .i64)), (14, (.int .i64))] fr fun x => disk_New.l2 R x.1 x.2.1 x.2.2 w) (cond (Nat.beq k 1) (dec [(4, .ptr)] fr fun x => disk_New.c1 R x w) (False)))

set_option maxRecDepth 100000 in
theorem disk_New.lift {R : Value → World → Prop} {sectors0 : Int} {w : World} (h : disk_New.main R sectors0 w) : CallsV Try.prog n_disk_New #[.int .i64 sectors0] w R :=
  liftCalls (c := (.seq (.leaf (cL (bd Try.f25))) (.seq (.seq (.leaf (cL (cL (cR (bd Try.f25))))) (.cnd (.tmp 10) (.seq (.leaf (cL (cT (cR (cL (cR (bd Try.f25))))))) (.leaf (cR (cT (cR (cL (cR (bd Try.f25)))))))) (.leaf (cE (cR (cL (cR (bd Try.f25)))))))) (.cut 3 (.seq (.leaf (cL (cR (cR (bd Try.f25))))) (.seq (.seq (.leaf (cL (cL (cR (cR (cR (bd Try.f25))))))) (.block 0 (.loop 2 (.seq (.leaf (cL (cB (cB (cR (cL (cR (cR (cR (bd Try.f25)))))))))) (.seq (.cnd (.tmp 15) (.leaf (cT (cL (cR (cB (cB (cR (cL (cR (cR (cR (bd Try.f25)))))))))))) (.leaf (cE (cL (cR (cB (cB (cR (cL (cR (cR (cR (bd Try.f25))))))))))))) (.seq (.block 1 (.leaf (cB (cL (cR (cR (cB (cB (cR (cL (cR (cR (cR (bd Try.f25)))))))))))))) (.leaf (cR (cR (cR (cB (cB (cR (cL (cR (cR (cR (bd Try.f25)))))))))))))))))) (.cut 1 (.seq (.leaf (cL (cR (cR (cR (cR (bd Try.f25))))))) (.seq (.leaf (cL (cR (cR (cR (cR (cR (bd Try.f25)))))))) (.leaf (cR (cR (cR (cR (cR (cR (bd Try.f25))))))))))))))))) (J := disk_New.J0 R) LfYtnnpkjhpeefnbaa.mixed Try.func25 (by kernel_rfl) (by kernel_rfl) (mkSeq (mkSeq (mkCut (cutDef [(0, (.int .i64))] (fun x w => disk_New.c3 R x w) (fun _ _ => by kernel_rfl) (fun _ _ => by kernel_rfl)) (mkSeq (mkSeq (mkCut (cutDef [(4, .ptr)] (fun x w => disk_New.c1 R x w) (fun _ _ => by kernel_rfl) (fun _ _ => by kernel_rfl)) (mkSeq (mkSeq mkLeaf mkLeaf) mkLeaf)) (mkSeq (mkBlock (mkLoop (loopDef LfYtnnpkjhpeefnbaa.mixed [(4, .ptr), (13, (.int .i64)), (14, (.int .i64))] (by kernel_rfl) (fun M2 x w => disk_New.b2 R (fun y0 y1 y2 w => M2 (y0, y1, y2) w) x.1 x.2.1 x.2.2 w) (fun M2 => fun _ _ _ => False) (fun _ _ _ => by kernel_rfl) (fun M2 => (mkSeq (mkSeq (mkSeq mkLeaf (mkBlock mkLeaf)) (mkCnd mkLeaf mkLeaf)) mkLeaf)) (fun x w => disk_New.l2 R x.1 x.2.1 x.2.2 w) (by rintro ⟨c0, c1, s0⟩ w ⟨I, μ, h0, h1⟩; refine ⟨fun y w => y.1 = c0 ∧ y.2.1 = c1 ∧ I y.2.2 w, fun y w => μ y.2.2 w, ⟨rfl, rfl, h0⟩, ?_⟩; rintro ⟨d0, d1, t0⟩ w ⟨e0, e1, hI⟩; dsimp only at e0 e1 hI; subst e0; subst e1; exact h1 _ _ hI) (fun _ _ => by kernel_rfl)))) mkLeaf)) mkLeaf)) (mkSeq (mkCnd (mkSeq mkLeaf mkLeaf) mkLeaf) mkLeaf)) mkLeaf) (kcast (by kernel_rfl) h)

/-! disk_Disk_Write -/
def disk_Disk_Write.main (R : Value → World → Prop) (d0 : Option Addr) (i1 : Int) (b2 : Sl) (w : World) : Prop :=
  CallsV Try.prog n_disk_Disk_wrong #[.pointer d0, .int .i64 i1] w (fun v_1 w1 =>
  ∃ x_2 : Int, v_1 = .int .i64 x_2 ∧
  cond ((x_2 : Int) != 0)
  (R (.int .i64 x_2) w1)
  ((let t15_2 : Bool := ((((b2.len : Nat) : Int) : Int) != 64);
  cond t15_2
  (R (.int .i64 2) w1)
  (∃ S_4 : World → Prop, S_4 w1.drew ∧
  ∃ q_5 : Addr, d0 = some q_5 ∧
  ∃ (a_6 : Option Addr) (l_7 c_8 : Nat), (∀ x, S_4 x → x.cell? (q_5.add 2) = some (.slice a_6 l_7 c_8)) ∧
  CallsV Try.prog n_slices_Clone_byte #[.slice b2.a b2.len b2.cap] w1.drew (fun v_9 w2 =>
  ∃ (a_10 : Option Addr) (l_11 c_12 : Nat), v_9 = .slice a_10 l_11 c_12 ∧
  S_4 w2 ∧
  let w3 := w2.alloc (.cells #[.int .i64 i1, .slice a_10 l_11 c_12] 86);
  S_4 w3 ∧
  ∃ (a_13 : Option Addr) (l_14 c_15 : Nat), ∃ w4 : World, (builtin .append #[77, 77] 77 #[] #[.slice a_6 l_7 c_8, .slice (some (newA w2)) 1 1]).run Try.prog w3 = .ok (.value (.slice a_13 l_14 c_15)) w4 ∧
  ∃ q_16 : Addr, d0 = some q_16 ∧
  Wr w4 (q_16.add 2) ∧
  (let w5 := w4.setCell (q_16.add 2) (.slice a_13 l_14 c_15);
  ∃ S_17 : World → Prop, S_17 w5.drew ∧
  ∃ q_18 : Addr, d0 = some q_18 ∧
  ∃ (a_19 : Option Addr) (l_20 c_21 : Nat), (∀ x, S_17 x → x.cell? (q_18.add 1) = some (.slice a_19 l_20 c_21)) ∧
  CallsV Try.prog n_slices_Clone_byte #[.slice b2.a b2.len b2.cap] w5.drew (fun v_22 w6 =>
  ∃ (a_23 : Option Addr) (l_24 c_25 : Nat), v_22 = .slice a_23 l_24 c_25 ∧
  S_17 w6 ∧
  0 ≤ (i1 : Int) ∧ i1 < ((l_20 : Nat) : Int) ∧ ∃ q_26 : Addr, a_19 = some q_26 ∧
  (∀ j, j < 2 → Wr w6 ((q_26.add ((i1 : Int).toNat * 2)).add j)) ∧
  (let w7 := setCells (q_26.add ((i1 : Int).toNat * 2)) [.slice a_23 l_24 c_25, .bool false] 0 w6;
  CallsV Try.prog n_disk_Disk_trips #[.pointer d0] w7 (fun v_27 w8 =>
  ∃ b_28 : Bool, v_27 = .bool b_28 ∧
  cond b_28
  (R (.int .i64 9) w8)
  (R (.int .i64 0) w8))))))))))

def disk_Disk_Write.J0 (_ : Value → World → Prop) (_ : Nat) (_ : Fr) (_ : World) : Prop := False

set_option maxRecDepth 100000 in
theorem disk_Disk_Write.lift {R : Value → World → Prop} {d0 : Option Addr} {i1 : Int} {b2 : Sl} {w : World} (h : disk_Disk_Write.main R d0 i1 b2 w) : CallsV Try.prog n_disk_Disk_Write #[.pointer d0, .int .i64 i1, .slice b2.a b2.len b2.cap] w R :=
  liftCalls (c := (.seq (.leaf (cL (bd Try.f26))) (.seq (.leaf (cL (cR (bd Try.f26)))) (.seq (.block 0 (.seq (.leaf (cL (cB (cL (cR (cR (bd Try.f26))))))) (.cnd (.tmp 11) (.seq (.leaf (cL (cT (cR (cB (cL (cR (cR (bd Try.f26))))))))) (.leaf (cR (cT (cR (cB (cL (cR (cR (bd Try.f26)))))))))) (.seq (.leaf (cL (cE (cR (cB (cL (cR (cR (bd Try.f26))))))))) (.cnd (.tmp 15) (.seq (.leaf (cL (cT (cR (cE (cR (cB (cL (cR (cR (bd Try.f26))))))))))) (.leaf (cR (cT (cR (cE (cR (cB (cL (cR (cR (bd Try.f26)))))))))))) (.leaf (cE (cR (cE (cR (cB (cL (cR (cR (bd Try.f26))))))))))))))) (.seq (.leaf (cL (cR (cR (cR (bd Try.f26)))))) (.seq (.leaf (cL (cR (cR (cR (cR (bd Try.f26))))))) (.seq (.seq (.leaf (cL (cL (cR (cR (cR (cR (cR (bd Try.f26))))))))) (.cnd (.tmp 42) (.seq (.leaf (cL (cT (cR (cL (cR (cR (cR (cR (cR (bd Try.f26))))))))))) (.leaf (cR (cT (cR (cL (cR (cR (cR (cR (cR (bd Try.f26)))))))))))) (.leaf (cE (cR (cL (cR (cR (cR (cR (cR (bd Try.f26)))))))))))) (.seq (.leaf (cL (cR (cR (cR (cR (cR (cR (bd Try.f26))))))))) (.leaf (cR (cR (cR (cR (cR (cR (cR (bd Try.f26))))))))))))))))) (J := disk_Disk_Write.J0 R) LfYtnnpkjhpeefnbaa.mixed Try.func26 (by kernel_rfl) (by kernel_rfl) (mkSeq (mkSeq (mkSeq (mkSeq (mkSeq (mkSeq (mkSeq mkLeaf mkLeaf) (mkSeq (mkCnd (mkSeq mkLeaf mkLeaf) mkLeaf) mkLeaf)) mkLeaf) mkLeaf) (mkBlock (mkSeq (mkCnd (mkSeq mkLeaf mkLeaf) (mkSeq (mkCnd (mkSeq mkLeaf mkLeaf) mkLeaf) mkLeaf)) mkLeaf))) mkLeaf) mkLeaf) (kcast (by kernel_rfl) h)

/-! trystlaw13_Sector -/
def trystlaw13_Sector.main (R : Value → World → Prop) (b0 : Sl) (w : World) : Prop :=
  0 ≤ (64 : Int) ∧ (64 : Int) ≤ 64 ∧ (1 : Int) * 64 ≤ 281474976710656 ∧ (64 : Int) ≤ 9223372036854775807 ∧
  (let w1 := w.alloc (.cells ((Array.range ((64 : Int).toNat * 1)).map ((#[.int .u8 0] : Array Value)[· % (#[.int .u8 0] : Array Value).size]!)) 5);
  ∃ x_1 : Int, ∃ w2 : World, (builtin .copy #[52, 52] 3 #[] #[.slice (some (newA w)) ((64 : Int).toNat) ((64 : Int).toNat), .slice b0.a b0.len b0.cap]).run Try.prog w1 = .ok (.value (.int .i64 x_1)) w2 ∧
  R (.slice (some (newA w)) ((64 : Int).toNat) ((64 : Int).toNat)) w2)

def trystlaw13_Sector.J0 (_ : Value → World → Prop) (_ : Nat) (_ : Fr) (_ : World) : Prop := False

set_option maxRecDepth 100000 in
theorem trystlaw13_Sector.lift {R : Value → World → Prop} {b0 : Sl} {w : World} (h : trystlaw13_Sector.main R b0 w) : CallsV Try.prog n_trystlaw13_Sector #[.slice b0.a b0.len b0.cap] w R :=
  liftCalls (c := (.seq (.leaf (cL (bd Try.f27))) (.seq (.leaf (cL (cR (bd Try.f27)))) (.seq (.leaf (cL (cR (cR (bd Try.f27))))) (.seq (.leaf (cL (cR (cR (cR (bd Try.f27)))))) (.leaf (cR (cR (cR (cR (bd Try.f27))))))))))) (J := trystlaw13_Sector.J0 R) LfYtnnpkjhpeefnbaa.mixed Try.func27 (by kernel_rfl) (by kernel_rfl) (mkSeq (mkSeq (mkSeq (mkSeq mkLeaf mkLeaf) mkLeaf) mkLeaf) mkLeaf) (kcast (by kernel_rfl) h)

/-! disk_Disk_Crash -/
def disk_Disk_Crash.c1 (R : Value → World → Prop) (d0 : Option Addr) (w : World) : Prop :=
  ∃ q_1 : Addr, d0 = some q_1 ∧
  ∃ (a_2 : Option Addr) (l_3 c_4 : Nat), w.cell? q_1 = some (.slice a_2 l_3 c_4) ∧
  CallsV Try.prog n_slices_Clone_sector #[.slice a_2 l_3 c_4] w (fun v_5 w1 =>
  ∃ (a_6 : Option Addr) (l_7 c_8 : Nat), v_5 = .slice a_6 l_7 c_8 ∧
  ∃ q_9 : Addr, d0 = some q_9 ∧
  Wr w1 (q_9.add 1) ∧
  (let w2 := w1.setCell (q_9.add 1) (.slice a_6 l_7 c_8);
  ∃ q_10 : Addr, d0 = some q_10 ∧
  Wr w2 (q_10.add 2) ∧
  (let w3 := w2.setCell (q_10.add 2) (.slice none 0 0);
  ∃ q_11 : Addr, d0 = some q_11 ∧
  Wr w3 (q_11.add 4) ∧
  (let w4 := w3.setCell (q_11.add 4) (.pointer none);
  ∃ q_12 : Addr, d0 = some q_12 ∧
  Wr w4 (q_12.add 3) ∧
  (let w5 := w4.setCell (q_12.add 3) (.bool true);
  R (.tuple #[]) w5)))))

def disk_Disk_Crash.c3 (R : Value → World → Prop) (N2 : Option Addr → Sl → Int → Sl → Int → Int → World → Prop) (d0 : Option Addr) (keep1 : Sl) (torn2 : Int) (w7 : Addr) (t15 : Sl) (t16 : Int) (t17 : Int) (w : World) : Prop :=
  ∃ S_13 : World → Prop, S_13 w.drew ∧
  ∃ q_14 : Addr, d0 = some q_14 ∧
  ∃ (a_15 : Option Addr) (l_16 c_17 : Nat), (∀ x, S_13 x → x.cell? q_14 = some (.slice a_15 l_16 c_17)) ∧
  ∃ x_18 : Int, (∀ x, S_13 x → x.cell? w7 = some (.int .i64 x_18)) ∧
  ∃ (a_19 : Option Addr) (l_20 c_21 : Nat), (∀ x, S_13 x → x.cell? (w7.add 1) = some (.slice a_19 l_20 c_21)) ∧
  0 ≤ (x_18 : Int) ∧ x_18 < ((l_16 : Nat) : Int) ∧ ∃ q_22 : Addr, a_15 = some q_22 ∧
  (∀ j, j < 2 → Wr w.drew ((q_22.add ((x_18 : Int).toNat * 2)).add j)) ∧
  (let w6 := setCells (q_22.add ((x_18 : Int).toNat * 2)) [.slice a_19 l_20 c_21, .bool false] 0 w.drew;
  N2 d0 keep1 torn2 t15 t16 (IntKind.i64.wrap (t17 + 1)) w6)

def disk_Disk_Crash.b2 (R : Value → World → Prop) (N2 : Option Addr → Sl → Int → Sl → Int → Int → World → Prop) (d0 : Option Addr) (keep1 : Sl) (torn2 : Int) (t15 : Sl) (t16 : Int) (t17 : Int) (w : World) : Prop :=
  cond (decide ((t17 : Int) < t16))
  (0 ≤ (t17 : Int) ∧ t17 < ((t15.len : Nat) : Int) ∧ ∃ q_23 : Addr, t15.a = some q_23 ∧
  ∃ x_24 : Int, w.cell? (q_23.add ((t17 : Int).toNat * 2)) = some (.int .i64 x_24) ∧
  ∃ (a_25 : Option Addr) (l_26 c_27 : Nat), w.cell? ((q_23.add ((t17 : Int).toNat * 2)).add 1) = some (.slice a_25 l_26 c_27) ∧
  let w7 := w.alloc (.cells #[.int .i64 0, .slice none 0 0] 86);
  (∀ j, j < 2 → Wr w7 ((newA w).add j)) ∧
  (let w8 := setCells (newA w) [.int .i64 x_24, .slice a_25 l_26 c_27] 0 w7;
  cond ((t17 : Int) == torn2)
  (∃ S_28 : World → Prop, S_28 w8.drew ∧
  ∃ q_29 : Addr, d0 = some q_29 ∧
  ∃ (a_30 : Option Addr) (l_31 c_32 : Nat), (∀ x, S_28 x → x.cell? q_29 = some (.slice a_30 l_31 c_32)) ∧
  ∃ x_33 : Int, (∀ x, S_28 x → x.cell? (newA w) = some (.int .i64 x_33)) ∧
  0 ≤ (x_33 : Int) ∧ x_33 < ((l_31 : Nat) : Int) ∧ ∃ q_34 : Addr, a_30 = some q_34 ∧
  (∀ j, j < 2 → Wr w8.drew ((q_34.add ((x_33 : Int).toNat * 2)).add j)) ∧
  (let w9 := setCells (q_34.add ((x_33 : Int).toNat * 2)) [.slice none 0 0, .bool true] 0 w8.drew;
  N2 d0 keep1 torn2 t15 t16 (IntKind.i64.wrap (t17 + 1)) w9))
  (cond (decide ((t17 : Int) < ((keep1.len : Nat) : Int)))
  (0 ≤ (t17 : Int) ∧ t17 < ((keep1.len : Nat) : Int) ∧ ∃ q_35 : Addr, keep1.a = some q_35 ∧
  ∃ b_36 : Bool, w8.cell? (q_35.add (t17 : Int).toNat) = some (.bool b_36) ∧
  cond b_36
  (disk_Disk_Crash.c3 R N2 d0 keep1 torn2 (newA w) t15 t16 t17 w8)
  (N2 d0 keep1 torn2 t15 t16 (IntKind.i64.wrap (t17 + 1)) w8))
  (N2 d0 keep1 torn2 t15 t16 (IntKind.i64.wrap (t17 + 1)) w8))))
  (disk_Disk_Crash.c1 R d0 w)

def disk_Disk_Crash.l2 (R : Value → World → Prop) (d0 : Option Addr) (keep1 : Sl) (torn2 : Int) (t15 : Sl) (t16 : Int) (t17 : Int) (w : World) : Prop :=
  ∃ (I : Int → World → Prop) (μ : Int → World → Nat), I t17 w ∧ ∀ s w, I s w → disk_Disk_Crash.b2 R (fun d0' keep1' torn2' t15' t16' t17' w' => (d0' = d0 ∧ keep1' = keep1 ∧ torn2' = torn2 ∧ t15' = t15 ∧ t16' = t16 ∧ I t17' w') ∧ μ t17' w' < μ s w) d0 keep1 torn2 t15 t16 s w

def disk_Disk_Crash.main (R : Value → World → Prop) (d0 : Option Addr) (keep1 : Sl) (torn2 : Int) (w : World) : Prop :=
  ∃ q_37 : Addr, d0 = some q_37 ∧
  ∃ b_38 : Bool, w.cell? (q_37.add 3) = some (.bool b_38) ∧
  cond b_38
  (R (.tuple #[]) w)
  (∃ q_39 : Addr, d0 = some q_39 ∧
  ∃ (a_40 : Option Addr) (l_41 c_42 : Nat), w.cell? (q_39.add 2) = some (.slice a_40 l_41 c_42) ∧
  disk_Disk_Crash.l2 R d0 keep1 torn2 ⟨a_40, l_41, c_42⟩ ((l_41 : Nat) : Int) 0 w)

def disk_Disk_Crash.J2 (R : Value → World → Prop) (N2 : Option Addr → Sl → Int → Sl → Int → Int → World → Prop) (k : Nat) (fr : Fr) (w : World) : Prop :=
  cond (Nat.beq k 3) (dec [(0, .ptr), (1, .slice), (2, (.int .i64)), (7, .addr), (15, .slice), (16, (.int .i64)), (17, (.int .i64))] fr fun x => disk_Disk_Crash.c3 R N2 x.1 x.2.1 x.2.2.1 x.2.2.2.1 x.2.2.2.2.1 x.2.2.2.2.2.1 x.2.2.2.2.2.2 w) (False)

def disk_Disk_Crash.J0 (R : Value → World → Prop) (k : Nat) (fr : Fr) (w : World) : Prop :=
  cond (Nat.beq k 2) (dec [(0, .ptr), (1, .slice), (2, (.int .i64)), (15, .slice), (16, (.int .i64)), (17, (.int .i64))] fr fun x => disk_Disk_Crash.l2 R x.1 x.2.1 x.2.2.1 x.2.2.2.1 x.2.2.2.2.1 x.2.2.2.2.2 w) (cond (Nat.beq k 1) (dec [(0, .ptr)] fr fun x => disk_Disk_Crash.c1 R x w) (False))

set_option maxRecDepth 100000 in
theorem disk_Disk_Crash.lift {R : Value → World → Prop} {d0 : Option Addr} {keep1 : Sl} {torn2 : Int} {w : World} (h : disk_Disk_Crash.main R d0 keep1 torn2 w) : CallsV Try.prog n_disk_Disk_Crash #[.pointer d0, .slice keep1.a keep1.len keep1.cap, .int .i64 torn2] w R :=
  liftCalls (c := (.seq (.seq (.leaf (cL (cL (bd Try.f28)))) (.cnd (.tmp 11) (.leaf (cT (cR (cL (bd Try.f28))))) (.leaf (cE (cR (cL (bd Try.f28))))))) (.seq (.seq (.leaf (cL (cL (cR (bd Try.f28))))) (.block 0 (.loop 2 (.seq (.leaf (cL (cB (cB (cR (cL (cR (bd Try.f28)))))))) (.seq (.cnd (.tmp 18) (.leaf (cT (cL (cR (cB (cB (cR (cL (cR (bd Try.f28)))))))))) (.leaf (cE (cL (cR (cB (cB (cR (cL (cR (bd Try.f28))))))))))) (.seq (.block 1 (.seq (.leaf (cL (cB (cL (cR (cR (cB (cB (cR (cL (cR (bd Try.f28)))))))))))) (.block 2 (.seq (.leaf (cL (cB (cR (cB (cL (cR (cR (cB (cB (cR (cL (cR (bd Try.f28)))))))))))))) (.cnd (.tmp 22) (.leaf (cT (cR (cB (cR (cB (cL (cR (cR (cB (cB (cR (cL (cR (bd Try.f28))))))))))))))) (.seq (.leaf (cL (cE (cR (cB (cR (cB (cL (cR (cR (cB (cB (cR (cL (cR (bd Try.f28)))))))))))))))) (.cnd (.tmp 34) (.cut 3 (.leaf (cT (cR (cE (cR (cB (cR (cB (cL (cR (cR (cB (cB (cR (cL (cR (bd Try.f28)))))))))))))))))) (.leaf (cE (cR (cE (cR (cB (cR (cB (cL (cR (cR (cB (cB (cR (cL (cR (bd Try.f28)))))))))))))))))))))))) (.leaf (cR (cR (cR (cB (cB (cR (cL (cR (bd Try.f28)))))))))))))))) (.cut 1 (.leaf (cR (cR (bd Try.f28)))))))) (J := disk_Disk_Crash.J0 R) LfYtnnpkjhpeefnbaa.mixed Try.func28 (by kernel_rfl) (by kernel_rfl) (mkSeq (mkSeq (mkCut (cutDef [(0, .ptr)] (fun x w => disk_Disk_Crash.c1 R x w) (fun _ _ => by kernel_rfl) (fun _ _ => by kernel_rfl)) mkLeaf) (mkSeq (mkBlock (mkLoop (loopDef LfYtnnpkjhpeefnbaa.mixed [(0, .ptr), (1, .slice), (2, (.int .i64)), (15, .slice), (16, (.int .i64)), (17, (.int .i64))] (by kernel_rfl) (fun M2 x w => disk_Disk_Crash.b2 R (fun y0 y1 y2 y3 y4 y5 w => M2 (y0, y1, y2, y3, y4, y5) w) x.1 x.2.1 x.2.2.1 x.2.2.2.1 x.2.2.2.2.1 x.2.2.2.2.2 w) (fun M2 => disk_Disk_Crash.J2 R (fun y0 y1 y2 y3 y4 y5 w => M2 (y0, y1, y2, y3, y4, y5) w)) (fun _ _ _ => by kernel_rfl) (fun M2 => (mkSeq (mkSeq (mkSeq mkLeaf (mkBlock (mkSeq (mkBlock (mkSeq (mkCnd mkLeaf (mkSeq (mkCnd (mkCut (cutDef [(0, .ptr), (1, .slice), (2, (.int .i64)), (7, .addr), (15, .slice), (16, (.int .i64)), (17, (.int .i64))] (fun x w => disk_Disk_Crash.c3 R (fun y0 y1 y2 y3 y4 y5 w => M2 (y0, y1, y2, y3, y4, y5) w) x.1 x.2.1 x.2.2.1 x.2.2.2.1 x.2.2.2.2.1 x.2.2.2.2.2.1 x.2.2.2.2.2.2 w) (fun _ _ => by kernel_rfl) (fun _ _ => by kernel_rfl)) mkLeaf) mkLeaf) mkLeaf)) mkLeaf)) mkLeaf))) (mkCnd mkLeaf mkLeaf)) mkLeaf)) (fun x w => disk_Disk_Crash.l2 R x.1 x.2.1 x.2.2.1 x.2.2.2.1 x.2.2.2.2.1 x.2.2.2.2.2 w) (by rintro ⟨c0, c1, c2, c3, c4, s0⟩ w ⟨I, μ, h0, h1⟩; refine ⟨fun y w => y.1 = c0 ∧ y.2.1 = c1 ∧ y.2.2.1 = c2 ∧ y.2.2.2.1 = c3 ∧ y.2.2.2.2.1 = c4 ∧ I y.2.2.2.2.2 w, fun y w => μ y.2.2.2.2.2 w, ⟨rfl, rfl, rfl, rfl, rfl, h0⟩, ?_⟩; rintro ⟨d0, d1, d2, d3, d4, t0⟩ w ⟨e0, e1, e2, e3, e4, hI⟩; dsimp only at e0 e1 e2 e3 e4 hI; subst e0; subst e1; subst e2; subst e3; subst e4; exact h1 _ _ hI) (fun _ _ => by kernel_rfl)))) mkLeaf)) (mkSeq (mkCnd mkLeaf mkLeaf) mkLeaf)) (kcast (by kernel_rfl) h)

/-! disk_Disk_Read -/
def disk_Disk_Read.main (R : Value → World → Prop) (d0 : Option Addr) (i1 : Int) (w : World) : Prop :=
  CallsV Try.prog n_disk_Disk_wrong #[.pointer d0, .int .i64 i1] w (fun v_1 w1 =>
  ∃ x_2 : Int, v_1 = .int .i64 x_2 ∧
  cond ((x_2 : Int) != 0)
  (R (.tuple #[.slice none 0 0, .int .i64 x_2]) w1)
  (∃ q_3 : Addr, d0 = some q_3 ∧
  ∃ (a_4 : Option Addr) (l_5 c_6 : Nat), w1.cell? (q_3.add 1) = some (.slice a_4 l_5 c_6) ∧
  0 ≤ (i1 : Int) ∧ i1 < ((l_5 : Nat) : Int) ∧ ∃ q_7 : Addr, a_4 = some q_7 ∧
  ∃ b_8 : Bool, w1.cell? ((q_7.add ((i1 : Int).toNat * 2)).add 1) = some (.bool b_8) ∧
  cond b_8
  (R (.tuple #[.slice none 0 0, .int .i64 10]) w1)
  (∃ q_9 : Addr, d0 = some q_9 ∧
  ∃ (a_10 : Option Addr) (l_11 c_12 : Nat), w1.cell? (q_9.add 1) = some (.slice a_10 l_11 c_12) ∧
  0 ≤ (i1 : Int) ∧ i1 < ((l_11 : Nat) : Int) ∧ ∃ q_13 : Addr, a_10 = some q_13 ∧
  ∃ (a_14 : Option Addr) (l_15 c_16 : Nat), w1.cell? (q_13.add ((i1 : Int).toNat * 2)) = some (.slice a_14 l_15 c_16) ∧
  CallsV Try.prog n_slices_Clone_byte #[.slice a_14 l_15 c_16] w1 (fun v_17 w2 =>
  ∃ (a_18 : Option Addr) (l_19 c_20 : Nat), v_17 = .slice a_18 l_19 c_20 ∧
  R (.tuple #[.slice a_18 l_19 c_20, .int .i64 0]) w2))))

def disk_Disk_Read.J0 (_ : Value → World → Prop) (_ : Nat) (_ : Fr) (_ : World) : Prop := False

set_option maxRecDepth 100000 in
theorem disk_Disk_Read.lift {R : Value → World → Prop} {d0 : Option Addr} {i1 : Int} {w : World} (h : disk_Disk_Read.main R d0 i1 w) : CallsV Try.prog n_disk_Disk_Read #[.pointer d0, .int .i64 i1] w R :=
  liftCalls (c := (.seq (.leaf (cL (bd Try.f29))) (.seq (.leaf (cL (cR (bd Try.f29)))) (.seq (.block 0 (.seq (.leaf (cL (cB (cL (cR (cR (bd Try.f29))))))) (.cnd (.tmp 10) (.seq (.leaf (cL (cT (cR (cB (cL (cR (cR (bd Try.f29))))))))) (.leaf (cR (cT (cR (cB (cL (cR (cR (bd Try.f29)))))))))) (.seq (.leaf (cL (cE (cR (cB (cL (cR (cR (bd Try.f29))))))))) (.cnd (.tmp 14) (.seq (.leaf (cL (cT (cR (cE (cR (cB (cL (cR (cR (bd Try.f29))))))))))) (.leaf (cR (cT (cR (cE (cR (cB (cL (cR (cR (bd Try.f29)))))))))))) (.leaf (cE (cR (cE (cR (cB (cL (cR (cR (bd Try.f29))))))))))))))) (.seq (.leaf (cL (cR (cR (cR (bd Try.f29)))))) (.leaf (cR (cR (cR (cR (bd Try.f29))))))))))) (J := disk_Disk_Read.J0 R) LfYtnnpkjhpeefnbaa.mixed Try.func29 (by kernel_rfl) (by kernel_rfl) (mkSeq (mkSeq (mkSeq (mkSeq mkLeaf mkLeaf) (mkBlock (mkSeq (mkCnd (mkSeq mkLeaf mkLeaf) (mkSeq (mkCnd (mkSeq mkLeaf mkLeaf) mkLeaf) mkLeaf)) mkLeaf))) mkLeaf) mkLeaf) (kcast (by kernel_rfl) h)

/-! disk_Disk_Off -/
def disk_Disk_Off.main (R : Value → World → Prop) (d0 : Option Addr) (w : World) : Prop :=
  ∃ q_1 : Addr, d0 = some q_1 ∧
  ∃ b_2 : Bool, w.cell? (q_1.add 3) = some (.bool b_2) ∧
  R (.bool b_2) w

def disk_Disk_Off.J0 (_ : Value → World → Prop) (_ : Nat) (_ : Fr) (_ : World) : Prop := False

set_option maxRecDepth 100000 in
theorem disk_Disk_Off.lift {R : Value → World → Prop} {d0 : Option Addr} {w : World} (h : disk_Disk_Off.main R d0 w) : CallsV Try.prog n_disk_Disk_Off #[.pointer d0] w R :=
  liftCalls (c := (.seq (.leaf (cL (bd Try.f30))) (.seq (.leaf (cL (cR (bd Try.f30)))) (.leaf (cR (cR (bd Try.f30))))))) (J := disk_Disk_Off.J0 R) LfYtnnpkjhpeefnbaa.mixed Try.func30 (by kernel_rfl) (by kernel_rfl) (mkSeq (mkSeq mkLeaf mkLeaf) mkLeaf) (kcast (by kernel_rfl) h)

/-! disk_Disk_Start -/
def disk_Disk_Start.main (R : Value → World → Prop) (d0 : Option Addr) (w : World) : Prop :=
  ∃ q_1 : Addr, d0 = some q_1 ∧
  Wr w (q_1.add 3) ∧
  (let w1 := w.setCell (q_1.add 3) (.bool false);
  R (.tuple #[]) w1)

def disk_Disk_Start.J0 (_ : Value → World → Prop) (_ : Nat) (_ : Fr) (_ : World) : Prop := False

set_option maxRecDepth 100000 in
theorem disk_Disk_Start.lift {R : Value → World → Prop} {d0 : Option Addr} {w : World} (h : disk_Disk_Start.main R d0 w) : CallsV Try.prog n_disk_Disk_Start #[.pointer d0] w R :=
  liftCalls (c := (.leaf (bd Try.f31))) (J := disk_Disk_Start.J0 R) LfYtnnpkjhpeefnbaa.mixed Try.func31 (by kernel_rfl) (by kernel_rfl) mkLeaf (kcast (by kernel_rfl) h)

/-! trystlaw13_wakes -/
def trystlaw13_wakes.c1 (R : Value → World → Prop) (d1 : Option Addr) (w : World) : Prop :=
  0 ≤ (64 : Int) ∧ (64 : Int) ≤ 64 ∧ (1 : Int) * 64 ≤ 281474976710656 ∧ (64 : Int) ≤ 9223372036854775807 ∧
  (let w1 := w.alloc (.cells ((Array.range ((64 : Int).toNat * 1)).map ((#[.int .u8 0] : Array Value)[· % (#[.int .u8 0] : Array Value).size]!)) 5);
  0 ≤ (0 : Int) ∧ 0 < (((64 : Int).toNat : Nat) : Int) ∧ ∃ q_1 : Addr, (some (newA w)) = some q_1 ∧
  Wr w1 (q_1.add (0 : Int).toNat) ∧
  (let w2 := w1.setCell (q_1.add (0 : Int).toNat) (.int .u8 7);
  CallsV Try.prog n_disk_Disk_Write #[.pointer d1, .int .i64 0, .slice (some (newA w)) ((64 : Int).toNat) ((64 : Int).toNat)] w2 (fun v_2 w3 =>
  ∃ x_3 : Int, v_2 = .int .i64 x_3 ∧
  CallsV Try.prog n_disk_Disk_Write #[.pointer d1, .int .i64 1, .slice (some (newA w)) ((64 : Int).toNat) ((64 : Int).toNat)] w3 (fun v_4 w4 =>
  ∃ x_5 : Int, v_4 = .int .i64 x_5 ∧
  let w5 := w4.alloc (.cells #[.bool false, .bool true] 4);
  CallsV Try.prog n_disk_Disk_Crash #[.pointer d1, .slice (some (newA w4)) 2 2, .int .i64 (-1)] w5 (fun v_6 w6 =>
  v_6 = .tuple #[] ∧
  CallsV Try.prog n_disk_Disk_Start #[.pointer d1] w6 (fun v_7 w7 =>
  v_7 = .tuple #[] ∧
  CallsV Try.prog n_disk_Disk_Read #[.pointer d1, .int .i64 0] w7 (fun v_8 w8 =>
  ∃ (a_9 : Option Addr) (l_10 c_11 : Nat), ∃ x_12 : Int, v_8 = .tuple #[.slice a_9 l_10 c_11, .int .i64 x_12] ∧
  CallsV Try.prog n_disk_Disk_Read #[.pointer d1, .int .i64 1] w8 (fun v_13 w9 =>
  ∃ (a_14 : Option Addr) (l_15 c_16 : Nat), ∃ x_17 : Int, v_13 = .tuple #[.slice a_14 l_15 c_16, .int .i64 x_17] ∧
  cond ((x_12 : Int) == 0)
  (cond ((x_17 : Int) == 0)
  (0 ≤ (0 : Int) ∧ 0 < ((l_10 : Nat) : Int) ∧ ∃ q_18 : Addr, a_9 = some q_18 ∧
  ∃ x_19 : Int, w9.cell? (q_18.add (0 : Int).toNat) = some (.int .u8 x_19) ∧
  cond ((x_19 : Int) == 0)
  (0 ≤ (0 : Int) ∧ 0 < ((l_15 : Nat) : Int) ∧ ∃ q_20 : Addr, a_14 = some q_20 ∧
  ∃ x_21 : Int, w9.cell? (q_20.add (0 : Int).toNat) = some (.int .u8 x_21) ∧
  R (.bool ((x_21 : Int) == 7)) w9)
  (R (.bool false) w9))
  (R (.bool false) w9))
  (R (.bool false) w9)))))))))

def trystlaw13_wakes.main (R : Value → World → Prop)  (w : World) : Prop :=
  CallsV Try.prog n_disk_New #[.int .i64 2] w (fun v_22 w10 =>
  ∃ p_23 : Option Addr, ∃ x_24 : Int, v_22 = .tuple #[.pointer p_23, .int .i64 x_24] ∧
  cond ((x_24 : Int) != 0)
  (R (.bool false) w10)
  (cond ((p_23).isNone)
  (R (.bool false) w10)
  (trystlaw13_wakes.c1 R p_23 w10)))

def trystlaw13_wakes.J0 (R : Value → World → Prop) (k : Nat) (fr : Fr) (w : World) : Prop :=
  cond (Nat.beq k 1) (dec [(1, .ptr)] fr fun x => trystlaw13_wakes.c1 R x w) (False)

set_option maxRecDepth 100000 in
theorem trystlaw13_wakes.lift {R : Value → World → Prop}  {w : World} (h : trystlaw13_wakes.main R  w) : CallsV Try.prog n_trystlaw13_wakes #[] w R :=
  liftCalls (c := (.seq (.leaf (cL (bd Try.f32))) (.seq (.leaf (cL (cR (bd Try.f32)))) (.seq (.seq (.leaf (cL (cL (cR (cR (bd Try.f32)))))) (.cnd (.tmp 16) (.seq (.leaf (cL (cT (cR (cL (cR (cR (bd Try.f32)))))))) (.leaf (cR (cT (cR (cL (cR (cR (bd Try.f32))))))))) (.leaf (cE (cR (cL (cR (cR (bd Try.f32))))))))) (.cut 1 (.seq (.leaf (cL (cR (cR (cR (bd Try.f32)))))) (.seq (.leaf (cL (cR (cR (cR (cR (bd Try.f32))))))) (.seq (.leaf (cL (cR (cR (cR (cR (cR (bd Try.f32)))))))) (.seq (.leaf (cL (cR (cR (cR (cR (cR (cR (bd Try.f32))))))))) (.seq (.leaf (cL (cR (cR (cR (cR (cR (cR (cR (bd Try.f32)))))))))) (.seq (.leaf (cL (cR (cR (cR (cR (cR (cR (cR (cR (bd Try.f32))))))))))) (.seq (.leaf (cL (cR (cR (cR (cR (cR (cR (cR (cR (cR (bd Try.f32)))))))))))) (.seq (.leaf (cL (cR (cR (cR (cR (cR (cR (cR (cR (cR (cR (bd Try.f32))))))))))))) (.seq (.leaf (cL (cR (cR (cR (cR (cR (cR (cR (cR (cR (cR (cR (bd Try.f32)))))))))))))) (.leaf (cR (cR (cR (cR (cR (cR (cR (cR (cR (cR (cR (cR (bd Try.f32)))))))))))))))))))))))))))) (J := trystlaw13_wakes.J0 R) LfYtnnpkjhpeefnbaa.mixed Try.func32 (by kernel_rfl) (by kernel_rfl) (mkSeq (mkSeq (mkSeq (mkCut (cutDef [(1, .ptr)] (fun x w => trystlaw13_wakes.c1 R x w) (fun _ _ => by kernel_rfl) (fun _ _ => by kernel_rfl)) (mkSeq (mkSeq (mkSeq (mkSeq (mkSeq (mkSeq (mkSeq (mkSeq (mkSeq mkLeaf mkLeaf) mkLeaf) mkLeaf) mkLeaf) mkLeaf) mkLeaf) mkLeaf) mkLeaf) mkLeaf)) (mkSeq (mkCnd (mkSeq mkLeaf mkLeaf) mkLeaf) mkLeaf)) mkLeaf) mkLeaf) (kcast (by kernel_rfl) h)

/-! trystlaw13_heavy -/
def trystlaw13_heavy.c2 (R : Value → World → Prop) (N1 : Sl → Int → World → Prop) (l0 : Sl) (i3 : Int) (w : World) : Prop :=
  0 ≤ (i3 : Int) ∧ i3 < ((l0.len : Nat) : Int) ∧ ∃ q_1 : Addr, l0.a = some q_1 ∧
  ∃ (a_2 : Option Addr) (l_3 c_4 : Nat), w.cell? ((q_1.add ((i3 : Int).toNat * 6)).add 2) = some (.slice a_2 l_3 c_4) ∧
  cond (decide ((((l_3 : Nat) : Int) : Int) > 200))
  (R (.bool true) w)
  (0 ≤ (i3 : Int) ∧ i3 < ((l0.len : Nat) : Int) ∧ ∃ q_5 : Addr, l0.a = some q_5 ∧
  ∃ (a_6 : Option Addr) (l_7 c_8 : Nat), w.cell? ((q_5.add ((i3 : Int).toNat * 6)).add 4) = some (.slice a_6 l_7 c_8) ∧
  cond (decide ((((l_7 : Nat) : Int) : Int) > 200))
  (R (.bool true) w)
  ((let i3_8 : Int := (IntKind.i64.wrap (i3 + 1));
  N1 l0 i3_8 w)))

def trystlaw13_heavy.b1 (R : Value → World → Prop) (N1 : Sl → Int → World → Prop) (l0 : Sl) (i3 : Int) (w : World) : Prop :=
  cond (decide ((i3 : Int) < ((l0.len : Nat) : Int)))
  (cond (decide ((i3 : Int) < 100))
  (trystlaw13_heavy.c2 R N1 l0 i3 w)
  (R (.bool false) w))
  (R (.bool false) w)

def trystlaw13_heavy.l1 (R : Value → World → Prop) (l0 : Sl) (i3 : Int) (w : World) : Prop :=
  ∃ (I : Int → World → Prop) (μ : Int → World → Nat), I i3 w ∧ ∀ s w, I s w → trystlaw13_heavy.b1 R (fun l0' i3' w' => (l0' = l0 ∧ I i3' w') ∧ μ i3' w' < μ s w) l0 s w

def trystlaw13_heavy.main (R : Value → World → Prop) (l0 : Sl) (w : World) : Prop :=
  cond (decide ((((l0.len : Nat) : Int) : Int) > 400))
  (R (.bool true) w)
  (trystlaw13_heavy.l1 R l0 0 w)

def trystlaw13_heavy.J1 (R : Value → World → Prop) (N1 : Sl → Int → World → Prop) (k : Nat) (fr : Fr) (w : World) : Prop :=
  cond (Nat.beq k 2) (dec [(0, .slice), (3, (.int .i64))] fr fun x => trystlaw13_heavy.c2 R N1 x.1 x.2 w) (False)

def trystlaw13_heavy.J0 (R : Value → World → Prop) (k : Nat) (fr : Fr) (w : World) : Prop :=
  cond (Nat.beq k 1) (dec [(0, .slice), (3, (.int .i64))] fr fun x => trystlaw13_heavy.l1 R x.1 x.2 w) (False)

set_option maxRecDepth 100000 in
theorem trystlaw13_heavy.lift {R : Value → World → Prop} {l0 : Sl} {w : World} (h : trystlaw13_heavy.main R l0 w) : CallsV Try.prog n_trystlaw13_heavy #[.slice l0.a l0.len l0.cap] w R :=
  liftCalls (c := (.seq (.leaf (cL (bd Try.f33))) (.seq (.seq (.leaf (cL (cL (cR (bd Try.f33))))) (.cnd (.tmp 6) (.seq (.leaf (cL (cT (cR (cL (cR (bd Try.f33))))))) (.leaf (cR (cT (cR (cL (cR (bd Try.f33)))))))) (.leaf (cE (cR (cL (cR (bd Try.f33)))))))) (.seq (.seq (.leaf (cL (cL (cR (cR (bd Try.f33)))))) (.block 0 (.loop 1 (.seq (.seq (.leaf (cL (cL (cB (cB (cR (cL (cR (cR (bd Try.f33)))))))))) (.cnd (.tmp 14) (.leaf (cT (cR (cL (cB (cB (cR (cL (cR (cR (bd Try.f33))))))))))) (.leaf (cE (cR (cL (cB (cB (cR (cL (cR (cR (bd Try.f33))))))))))))) (.cut 2 (.seq (.block 1 (.seq (.leaf (cL (cB (cL (cR (cB (cB (cR (cL (cR (cR (bd Try.f33)))))))))))) (.cnd (.tmp 32) (.seq (.leaf (cL (cT (cR (cB (cL (cR (cB (cB (cR (cL (cR (cR (bd Try.f33)))))))))))))) (.leaf (cR (cT (cR (cB (cL (cR (cB (cB (cR (cL (cR (cR (bd Try.f33))))))))))))))) (.leaf (cE (cR (cB (cL (cR (cB (cB (cR (cL (cR (cR (bd Try.f33)))))))))))))))) (.leaf (cR (cR (cB (cB (cR (cL (cR (cR (bd Try.f33)))))))))))))))) (.seq (.leaf (cL (cR (cR (cR (bd Try.f33)))))) (.leaf (cR (cR (cR (cR (bd Try.f33))))))))))) (J := trystlaw13_heavy.J0 R) LfYtnnpkjhpeefnbaa.mixed Try.func33 (by kernel_rfl) (by kernel_rfl) (mkSeq (mkSeq (mkSeq (mkSeq mkLeaf mkLeaf) (mkSeq (mkBlock (mkLoop (loopDef LfYtnnpkjhpeefnbaa.mixed [(0, .slice), (3, (.int .i64))] (by kernel_rfl) (fun M1 x w => trystlaw13_heavy.b1 R (fun y0 y1 w => M1 (y0, y1) w) x.1 x.2 w) (fun M1 => trystlaw13_heavy.J1 R (fun y0 y1 w => M1 (y0, y1) w)) (fun _ _ _ => by kernel_rfl) (fun M1 => (mkSeq (mkCut (cutDef [(0, .slice), (3, (.int .i64))] (fun x w => trystlaw13_heavy.c2 R (fun y0 y1 w => M1 (y0, y1) w) x.1 x.2 w) (fun _ _ => by kernel_rfl) (fun _ _ => by kernel_rfl)) (mkSeq mkLeaf (mkBlock (mkSeq (mkCnd (mkSeq mkLeaf mkLeaf) mkLeaf) mkLeaf)))) (mkSeq (mkCnd mkLeaf mkLeaf) mkLeaf))) (fun x w => trystlaw13_heavy.l1 R x.1 x.2 w) (by rintro ⟨c0, s0⟩ w ⟨I, μ, h0, h1⟩; refine ⟨fun y w => y.1 = c0 ∧ I y.2 w, fun y w => μ y.2 w, ⟨rfl, h0⟩, ?_⟩; rintro ⟨d0, t0⟩ w ⟨e0, hI⟩; dsimp only at e0 hI; subst e0; exact h1 _ _ hI) (fun _ _ => by kernel_rfl)))) mkLeaf)) (mkSeq (mkCnd (mkSeq mkLeaf mkLeaf) mkLeaf) mkLeaf)) mkLeaf) (kcast (by kernel_rfl) h)

/-! disk_Disk_Sync -/
def disk_Disk_Sync.c1 (R : Value → World → Prop) (d0 : Option Addr) (w : World) : Prop :=
  ∃ q_1 : Addr, d0 = some q_1 ∧
  Wr w (q_1.add 2) ∧
  (let w1 := w.setCell (q_1.add 2) (.slice none 0 0);
  R (.int .i64 0) w1)

def disk_Disk_Sync.b2 (R : Value → World → Prop) (N2 : Option Addr → Sl → Int → Int → World → Prop) (d0 : Option Addr) (t16 : Sl) (t17 : Int) (t18 : Int) (w : World) : Prop :=
  cond (decide ((t18 : Int) < t17))
  (0 ≤ (t18 : Int) ∧ t18 < ((t16.len : Nat) : Int) ∧ ∃ q_2 : Addr, t16.a = some q_2 ∧
  ∃ x_3 : Int, w.cell? (q_2.add ((t18 : Int).toNat * 2)) = some (.int .i64 x_3) ∧
  ∃ (a_4 : Option Addr) (l_5 c_6 : Nat), w.cell? ((q_2.add ((t18 : Int).toNat * 2)).add 1) = some (.slice a_4 l_5 c_6) ∧
  let w2 := w.alloc (.cells #[.int .i64 0, .slice none 0 0] 86);
  (∀ j, j < 2 → Wr w2 ((newA w).add j)) ∧
  (let w3 := setCells (newA w) [.int .i64 x_3, .slice a_4 l_5 c_6] 0 w2;
  ∃ S_7 : World → Prop, S_7 w3.drew ∧
  ∃ q_8 : Addr, d0 = some q_8 ∧
  ∃ (a_9 : Option Addr) (l_10 c_11 : Nat), (∀ x, S_7 x → x.cell? q_8 = some (.slice a_9 l_10 c_11)) ∧
  ∃ x_12 : Int, (∀ x, S_7 x → x.cell? (newA w) = some (.int .i64 x_12)) ∧
  ∃ (a_13 : Option Addr) (l_14 c_15 : Nat), (∀ x, S_7 x → x.cell? ((newA w).add 1) = some (.slice a_13 l_14 c_15)) ∧
  0 ≤ (x_12 : Int) ∧ x_12 < ((l_10 : Nat) : Int) ∧ ∃ q_16 : Addr, a_9 = some q_16 ∧
  (∀ j, j < 2 → Wr w3.drew ((q_16.add ((x_12 : Int).toNat * 2)).add j)) ∧
  (let w4 := setCells (q_16.add ((x_12 : Int).toNat * 2)) [.slice a_13 l_14 c_15, .bool false] 0 w3.drew;
  N2 d0 t16 t17 (IntKind.i64.wrap (t18 + 1)) w4)))
  (disk_Disk_Sync.c1 R d0 w)

def disk_Disk_Sync.l2 (R : Value → World → Prop) (d0 : Option Addr) (t16 : Sl) (t17 : Int) (t18 : Int) (w : World) : Prop :=
  ∃ (I : Int → World → Prop) (μ : Int → World → Nat), I t18 w ∧ ∀ s w, I s w → disk_Disk_Sync.b2 R (fun d0' t16' t17' t18' w' => (d0' = d0 ∧ t16' = t16 ∧ t17' = t17 ∧ I t18' w') ∧ μ t18' w' < μ s w) d0 t16 t17 s w

def disk_Disk_Sync.c3 (R : Value → World → Prop) (d0 : Option Addr) (w : World) : Prop :=
  ∃ q_17 : Addr, d0 = some q_17 ∧
  ∃ (a_18 : Option Addr) (l_19 c_20 : Nat), w.cell? (q_17.add 2) = some (.slice a_18 l_19 c_20) ∧
  disk_Disk_Sync.l2 R d0 ⟨a_18, l_19, c_20⟩ ((l_19 : Nat) : Int) 0 w

def disk_Disk_Sync.main (R : Value → World → Prop) (d0 : Option Addr) (w : World) : Prop :=
  ∃ q_21 : Addr, d0 = some q_21 ∧
  ∃ b_22 : Bool, w.cell? (q_21.add 3) = some (.bool b_22) ∧
  cond b_22
  (R (.int .i64 9) w)
  (CallsV Try.prog n_disk_Disk_trips #[.pointer d0] w (fun v_23 w5 =>
  ∃ b_24 : Bool, v_23 = .bool b_24 ∧
  cond b_24
  (R (.int .i64 9) w5)
  (disk_Disk_Sync.c3 R d0 w5)))

def disk_Disk_Sync.J0 (R : Value → World → Prop) (k : Nat) (fr : Fr) (w : World) : Prop :=
  cond (Nat.beq k 3) (dec [(0, .ptr)] fr fun x => disk_Disk_Sync.c3 R x w) (cond (Nat.beq k 2) (dec [(0, .ptr), (16, .slice), (17, (.int .i64)), (18, (.int .i64))] fr fun x => disk_Disk_Sync.l2 R x.1 x.2.1 x.2.2.1 x.2.2.2 w) (cond (Nat.beq k 1) (dec [(0, .ptr)] fr fun x => disk_Disk_Sync.c1 R x w) (False)))

set_option maxRecDepth 100000 in
theorem disk_Disk_Sync.lift {R : Value → World → Prop} {d0 : Option Addr} {w : World} (h : disk_Disk_Sync.main R d0 w) : CallsV Try.prog n_disk_Disk_Sync #[.pointer d0] w R :=
  liftCalls (c := (.seq (.leaf (cL (bd Try.f34))) (.seq (.seq (.leaf (cL (cL (cR (bd Try.f34))))) (.cnd (.tmp 12) (.seq (.leaf (cL (cT (cR (cL (cR (bd Try.f34))))))) (.leaf (cR (cT (cR (cL (cR (bd Try.f34)))))))) (.leaf (cE (cR (cL (cR (bd Try.f34)))))))) (.cut 3 (.seq (.seq (.leaf (cL (cL (cR (cR (bd Try.f34)))))) (.block 0 (.loop 2 (.seq (.leaf (cL (cB (cB (cR (cL (cR (cR (bd Try.f34))))))))) (.seq (.cnd (.tmp 19) (.leaf (cT (cL (cR (cB (cB (cR (cL (cR (cR (bd Try.f34))))))))))) (.leaf (cE (cL (cR (cB (cB (cR (cL (cR (cR (bd Try.f34)))))))))))) (.seq (.block 1 (.seq (.leaf (cL (cB (cL (cR (cR (cB (cB (cR (cL (cR (cR (bd Try.f34))))))))))))) (.leaf (cR (cB (cL (cR (cR (cB (cB (cR (cL (cR (cR (bd Try.f34))))))))))))))) (.leaf (cR (cR (cR (cB (cB (cR (cL (cR (cR (bd Try.f34))))))))))))))))) (.cut 1 (.seq (.leaf (cL (cR (cR (cR (bd Try.f34)))))) (.seq (.leaf (cL (cR (cR (cR (cR (bd Try.f34))))))) (.leaf (cR (cR (cR (cR (cR (bd Try.f34))))))))))))))) (J := disk_Disk_Sync.J0 R) LfYtnnpkjhpeefnbaa.mixed Try.func34 (by kernel_rfl) (by kernel_rfl) (mkSeq (mkSeq (mkCut (cutDef [(0, .ptr)] (fun x w => disk_Disk_Sync.c3 R x w) (fun _ _ => by kernel_rfl) (fun _ _ => by kernel_rfl)) (mkSeq (mkCut (cutDef [(0, .ptr)] (fun x w => disk_Disk_Sync.c1 R x w) (fun _ _ => by kernel_rfl) (fun _ _ => by kernel_rfl)) (mkSeq (mkSeq mkLeaf mkLeaf) mkLeaf)) (mkSeq (mkBlock (mkLoop (loopDef LfYtnnpkjhpeefnbaa.mixed [(0, .ptr), (16, .slice), (17, (.int .i64)), (18, (.int .i64))] (by kernel_rfl) (fun M2 x w => disk_Disk_Sync.b2 R (fun y0 y1 y2 y3 w => M2 (y0, y1, y2, y3) w) x.1 x.2.1 x.2.2.1 x.2.2.2 w) (fun M2 => fun _ _ _ => False) (fun _ _ _ => by kernel_rfl) (fun M2 => (mkSeq (mkSeq (mkSeq mkLeaf (mkBlock (mkSeq mkLeaf mkLeaf))) (mkCnd mkLeaf mkLeaf)) mkLeaf)) (fun x w => disk_Disk_Sync.l2 R x.1 x.2.1 x.2.2.1 x.2.2.2 w) (by rintro ⟨c0, c1, c2, s0⟩ w ⟨I, μ, h0, h1⟩; refine ⟨fun y w => y.1 = c0 ∧ y.2.1 = c1 ∧ y.2.2.1 = c2 ∧ I y.2.2.2 w, fun y w => μ y.2.2.2 w, ⟨rfl, rfl, rfl, h0⟩, ?_⟩; rintro ⟨d0, d1, d2, t0⟩ w ⟨e0, e1, e2, hI⟩; dsimp only at e0 e1 e2 hI; subst e0; subst e1; subst e2; exact h1 _ _ hI) (fun _ _ => by kernel_rfl)))) mkLeaf))) (mkSeq (mkCnd (mkSeq mkLeaf mkLeaf) mkLeaf) mkLeaf)) mkLeaf) (kcast (by kernel_rfl) h)

/-! disk_Disk_Trip -/
def disk_Disk_Trip.main (R : Value → World → Prop) (d0 : Option Addr) (n1 : Int) (keep2 : Sl) (torn3 : Int) (w : World) : Prop :=
  ∃ q_1 : Addr, d0 = some q_1 ∧
  Wr w (q_1.add 4) ∧
  (let w1 := w.setCell (q_1.add 4) (.pointer none);
  cond (decide ((n1 : Int) ≥ 1))
  (CallsV Try.prog n_slices_Clone_bool #[.slice keep2.a keep2.len keep2.cap] w1 (fun v_2 w2 =>
  ∃ (a_3 : Option Addr) (l_4 c_5 : Nat), v_2 = .slice a_3 l_4 c_5 ∧
  let w3 := w2.alloc (.cells #[.int .i64 n1, .slice a_3 l_4 c_5, .int .i64 torn3] 89);
  ∃ q_6 : Addr, d0 = some q_6 ∧
  Wr w3 (q_6.add 4) ∧
  (let w4 := w3.setCell (q_6.add 4) (.pointer (some (newA w2)));
  R (.tuple #[]) w4)))
  (R (.tuple #[]) w1))

def disk_Disk_Trip.J0 (_ : Value → World → Prop) (_ : Nat) (_ : Fr) (_ : World) : Prop := False

set_option maxRecDepth 100000 in
theorem disk_Disk_Trip.lift {R : Value → World → Prop} {d0 : Option Addr} {n1 : Int} {keep2 : Sl} {torn3 : Int} {w : World} (h : disk_Disk_Trip.main R d0 n1 keep2 torn3 w) : CallsV Try.prog n_disk_Disk_Trip #[.pointer d0, .int .i64 n1, .slice keep2.a keep2.len keep2.cap, .int .i64 torn3] w R :=
  liftCalls (c := (.seq (.leaf (cL (bd Try.f35))) (.seq (.leaf (cL (cR (bd Try.f35)))) (.cnd (.tmp 12) (.leaf (cT (cR (cR (bd Try.f35))))) (.leaf (cE (cR (cR (bd Try.f35))))))))) (J := disk_Disk_Trip.J0 R) LfYtnnpkjhpeefnbaa.mixed Try.func35 (by kernel_rfl) (by kernel_rfl) (mkSeq (mkSeq (mkCnd mkLeaf mkLeaf) mkLeaf) mkLeaf) (kcast (by kernel_rfl) h)

/-! trystkeep_Bytes -/
def trystkeep_Bytes.b1 (R : Value → World → Prop) (N1 : Sl → Sl → Int → World → Prop) (a0 : Sl) (b1 : Sl) (i5 : Int) (w : World) : Prop :=
  cond (decide ((i5 : Int) < ((a0.len : Nat) : Int)))
  (0 ≤ (i5 : Int) ∧ i5 < ((a0.len : Nat) : Int) ∧ ∃ q_1 : Addr, a0.a = some q_1 ∧
  ∃ x_2 : Int, w.cell? (q_1.add (i5 : Int).toNat) = some (.int .u8 x_2) ∧
  0 ≤ (i5 : Int) ∧ i5 < ((b1.len : Nat) : Int) ∧ ∃ q_3 : Addr, b1.a = some q_3 ∧
  ∃ x_4 : Int, w.cell? (q_3.add (i5 : Int).toNat) = some (.int .u8 x_4) ∧
  cond ((x_2 : Int) != x_4)
  (R (.bool false) w.drew)
  ((let i5_4 : Int := (IntKind.i64.wrap (i5 + 1));
  N1 a0 b1 i5_4 w.drew)))
  (R (.bool true) w)

def trystkeep_Bytes.l1 (R : Value → World → Prop) (a0 : Sl) (b1 : Sl) (i5 : Int) (w : World) : Prop :=
  ∃ (I : Int → World → Prop) (μ : Int → World → Nat), I i5 w ∧ ∀ s w, I s w → trystkeep_Bytes.b1 R (fun a0' b1' i5' w' => (a0' = a0 ∧ b1' = b1 ∧ I i5' w') ∧ μ i5' w' < μ s w) a0 b1 s w

def trystkeep_Bytes.main (R : Value → World → Prop) (a0 : Sl) (b1 : Sl) (w : World) : Prop :=
  cond ((((a0.len : Nat) : Int) : Int) != ((b1.len : Nat) : Int))
  (R (.bool false) w)
  (trystkeep_Bytes.l1 R a0 b1 0 w)

def trystkeep_Bytes.J0 (R : Value → World → Prop) (k : Nat) (fr : Fr) (w : World) : Prop :=
  cond (Nat.beq k 1) (dec [(0, .slice), (1, .slice), (5, (.int .i64))] fr fun x => trystkeep_Bytes.l1 R x.1 x.2.1 x.2.2 w) (False)

set_option maxRecDepth 100000 in
theorem trystkeep_Bytes.lift {R : Value → World → Prop} {a0 : Sl} {b1 : Sl} {w : World} (h : trystkeep_Bytes.main R a0 b1 w) : CallsV Try.prog n_trystkeep_Bytes #[.slice a0.a a0.len a0.cap, .slice b1.a b1.len b1.cap] w R :=
  liftCalls (c := (.seq (.leaf (cL (bd Try.f36))) (.seq (.seq (.leaf (cL (cL (cR (bd Try.f36))))) (.cnd (.tmp 10) (.seq (.leaf (cL (cT (cR (cL (cR (bd Try.f36))))))) (.leaf (cR (cT (cR (cL (cR (bd Try.f36)))))))) (.leaf (cE (cR (cL (cR (bd Try.f36)))))))) (.seq (.seq (.leaf (cL (cL (cR (cR (bd Try.f36)))))) (.block 0 (.loop 1 (.seq (.seq (.leaf (cL (cL (cB (cB (cR (cL (cR (cR (bd Try.f36)))))))))) (.cnd (.tmp 14) (.leaf (cT (cR (cL (cB (cB (cR (cL (cR (cR (bd Try.f36))))))))))) (.leaf (cE (cR (cL (cB (cB (cR (cL (cR (cR (bd Try.f36))))))))))))) (.seq (.block 1 (.seq (.leaf (cL (cB (cL (cR (cB (cB (cR (cL (cR (cR (bd Try.f36)))))))))))) (.cnd (.tmp 25) (.seq (.leaf (cL (cT (cR (cB (cL (cR (cB (cB (cR (cL (cR (cR (bd Try.f36)))))))))))))) (.leaf (cR (cT (cR (cB (cL (cR (cB (cB (cR (cL (cR (cR (bd Try.f36))))))))))))))) (.leaf (cE (cR (cB (cL (cR (cB (cB (cR (cL (cR (cR (bd Try.f36)))))))))))))))) (.leaf (cR (cR (cB (cB (cR (cL (cR (cR (bd Try.f36))))))))))))))) (.seq (.leaf (cL (cR (cR (cR (bd Try.f36)))))) (.leaf (cR (cR (cR (cR (bd Try.f36))))))))))) (J := trystkeep_Bytes.J0 R) LfYtnnpkjhpeefnbaa.mixed Try.func36 (by kernel_rfl) (by kernel_rfl) (mkSeq (mkSeq (mkSeq (mkSeq mkLeaf mkLeaf) (mkSeq (mkBlock (mkLoop (loopDef LfYtnnpkjhpeefnbaa.mixed [(0, .slice), (1, .slice), (5, (.int .i64))] (by kernel_rfl) (fun M1 x w => trystkeep_Bytes.b1 R (fun y0 y1 y2 w => M1 (y0, y1, y2) w) x.1 x.2.1 x.2.2 w) (fun M1 => fun _ _ _ => False) (fun _ _ _ => by kernel_rfl) (fun M1 => (mkSeq (mkSeq mkLeaf (mkBlock (mkSeq (mkCnd (mkSeq mkLeaf mkLeaf) mkLeaf) mkLeaf))) (mkSeq (mkCnd mkLeaf mkLeaf) mkLeaf))) (fun x w => trystkeep_Bytes.l1 R x.1 x.2.1 x.2.2 w) (by rintro ⟨c0, c1, s0⟩ w ⟨I, μ, h0, h1⟩; refine ⟨fun y w => y.1 = c0 ∧ y.2.1 = c1 ∧ I y.2.2 w, fun y w => μ y.2.2 w, ⟨rfl, rfl, h0⟩, ?_⟩; rintro ⟨d0, d1, t0⟩ w ⟨e0, e1, hI⟩; dsimp only at e0 e1 hI; subst e0; subst e1; exact h1 _ _ hI) (fun _ _ => by kernel_rfl)))) mkLeaf)) (mkSeq (mkCnd (mkSeq mkLeaf mkLeaf) mkLeaf) mkLeaf)) mkLeaf) (kcast (by kernel_rfl) h)

/-! trystref10_New -/
def trystref10_New.b1 (R : Value → World → Prop) (N1 : Int → Option Addr → Int → World → Prop) (n0 : Int) (d3 : Option Addr) (i4 : Int) (w : World) : Prop :=
  cond (decide ((i4 : Int) < n0))
  (∃ S_1 : World → Prop, S_1 w.drew ∧
  ∃ q_2 : Addr, d3 = some q_2 ∧
  ∃ (a_3 : Option Addr) (l_4 c_5 : Nat), (∀ x, S_1 x → x.cell? q_2 = some (.slice a_3 l_4 c_5)) ∧
  0 ≤ (64 : Int) ∧ (64 : Int) ≤ 64 ∧ (1 : Int) * 64 ≤ 281474976710656 ∧ (64 : Int) ≤ 9223372036854775807 ∧
  (let w1 := w.drew.alloc (.cells ((Array.range ((64 : Int).toNat * 1)).map ((#[.int .u8 0] : Array Value)[· % (#[.int .u8 0] : Array Value).size]!)) 5);
  S_1 w1 ∧
  let w2 := w1.alloc (.cells #[.slice (some (newA w.drew)) ((64 : Int).toNat) ((64 : Int).toNat)] 52);
  S_1 w2 ∧
  ∃ (a_6 : Option Addr) (l_7 c_8 : Nat), ∃ w3 : World, (builtin .append #[58, 58] 58 #[] #[.slice a_3 l_4 c_5, .slice (some (newA w1)) 1 1]).run Try.prog w2 = .ok (.value (.slice a_6 l_7 c_8)) w3 ∧
  ∃ q_9 : Addr, d3 = some q_9 ∧
  Wr w3 q_9 ∧
  (let w4 := w3.setCell q_9 (.slice a_6 l_7 c_8);
  (let i4_9 : Int := (IntKind.i64.wrap (i4 + 1));
  N1 n0 d3 i4_9 w4))))
  (R (.pointer d3) w)

def trystref10_New.l1 (R : Value → World → Prop) (n0 : Int) (d3 : Option Addr) (i4 : Int) (w : World) : Prop :=
  ∃ (I : Int → World → Prop) (μ : Int → World → Nat), I i4 w ∧ ∀ s w, I s w → trystref10_New.b1 R (fun n0' d3' i4' w' => (n0' = n0 ∧ d3' = d3 ∧ I i4' w') ∧ μ i4' w' < μ s w) n0 d3 s w

def trystref10_New.c2 (R : Value → World → Prop) (n0 : Int) (w : World) : Prop :=
  0 ≤ (n0 : Int) ∧ (n0 : Int) ≤ n0 ∧ (1 : Int) * n0 ≤ 281474976710656 ∧ (n0 : Int) ≤ 9223372036854775807 ∧
  (let w5 := w.alloc (.cells ((Array.range ((n0 : Int).toNat * 1)).map ((#[.bool false] : Array Value)[· % (#[.bool false] : Array Value).size]!)) 4);
  let w6 := w5.alloc (.cells #[.slice none 0 0, .slice (some (newA w)) ((n0 : Int).toNat) ((n0 : Int).toNat), .slice none 0 0, .bool false, .int .i64 0, .slice none 0 0, .int .i64 0] 92);
  trystref10_New.l1 R n0 (some (newA w5)) 0 w6)

def trystref10_New.main (R : Value → World → Prop) (n0 : Int) (w : World) : Prop :=
  cond (decide ((n0 : Int) < 1))
  (R (.pointer none) w)
  (cond (decide ((n0 : Int) > 512))
  (R (.pointer none) w)
  (trystref10_New.c2 R n0 w))

def trystref10_New.J0 (R : Value → World → Prop) (k : Nat) (fr : Fr) (w : World) : Prop :=
  cond (Nat.beq k 2) (dec [(0, (.int .i64))] fr fun x => trystref10_New.c2 R x w) (cond (Nat.beq k 1) (dec [(0, (.int .i64)), (3, .ptr), (4, (.int .i64))] fr fun x => trystref10_New.l1 R x.1 x.2.1 x.2.2 w) (False))

set_option maxRecDepth 100000 in
theorem trystref10_New.lift {R : Value → World → Prop} {n0 : Int} {w : World} (h : trystref10_New.main R n0 w) : CallsV Try.prog n_trystref10_New #[.int .i64 n0] w R :=
  liftCalls (c := (.seq (.leaf (cL (bd Try.f37))) (.seq (.seq (.leaf (cL (cL (cR (bd Try.f37))))) (.cnd (.tmp 10) (.seq (.leaf (cL (cT (cR (cL (cR (bd Try.f37))))))) (.leaf (cR (cT (cR (cL (cR (bd Try.f37)))))))) (.leaf (cE (cR (cL (cR (bd Try.f37)))))))) (.cut 2 (.seq (.leaf (cL (cR (cR (bd Try.f37))))) (.seq (.seq (.leaf (cL (cL (cR (cR (cR (bd Try.f37))))))) (.block 0 (.loop 1 (.seq (.seq (.leaf (cL (cL (cB (cB (cR (cL (cR (cR (cR (bd Try.f37))))))))))) (.cnd (.tmp 17) (.leaf (cT (cR (cL (cB (cB (cR (cL (cR (cR (cR (bd Try.f37)))))))))))) (.leaf (cE (cR (cL (cB (cB (cR (cL (cR (cR (cR (bd Try.f37)))))))))))))) (.seq (.block 1 (.leaf (cB (cL (cR (cB (cB (cR (cL (cR (cR (cR (bd Try.f37))))))))))))) (.leaf (cR (cR (cB (cB (cR (cL (cR (cR (cR (bd Try.f37)))))))))))))))) (.seq (.leaf (cL (cR (cR (cR (cR (bd Try.f37))))))) (.leaf (cR (cR (cR (cR (cR (bd Try.f37)))))))))))))) (J := trystref10_New.J0 R) LfYtnnpkjhpeefnbaa.mixed Try.func37 (by kernel_rfl) (by kernel_rfl) (mkSeq (mkSeq (mkCut (cutDef [(0, (.int .i64))] (fun x w => trystref10_New.c2 R x w) (fun _ _ => by kernel_rfl) (fun _ _ => by kernel_rfl)) (mkSeq (mkSeq (mkSeq mkLeaf mkLeaf) (mkSeq (mkBlock (mkLoop (loopDef LfYtnnpkjhpeefnbaa.mixed [(0, (.int .i64)), (3, .ptr), (4, (.int .i64))] (by kernel_rfl) (fun M1 x w => trystref10_New.b1 R (fun y0 y1 y2 w => M1 (y0, y1, y2) w) x.1 x.2.1 x.2.2 w) (fun M1 => fun _ _ _ => False) (fun _ _ _ => by kernel_rfl) (fun M1 => (mkSeq (mkSeq mkLeaf (mkBlock mkLeaf)) (mkSeq (mkCnd mkLeaf mkLeaf) mkLeaf))) (fun x w => trystref10_New.l1 R x.1 x.2.1 x.2.2 w) (by rintro ⟨c0, c1, s0⟩ w ⟨I, μ, h0, h1⟩; refine ⟨fun y w => y.1 = c0 ∧ y.2.1 = c1 ∧ I y.2.2 w, fun y w => μ y.2.2 w, ⟨rfl, rfl, h0⟩, ?_⟩; rintro ⟨d0, d1, t0⟩ w ⟨e0, e1, hI⟩; dsimp only at e0 e1 hI; subst e0; subst e1; exact h1 _ _ hI) (fun _ _ => by kernel_rfl)))) mkLeaf)) mkLeaf)) (mkSeq (mkCnd (mkSeq mkLeaf mkLeaf) mkLeaf) mkLeaf)) mkLeaf) (kcast (by kernel_rfl) h)

/-! trystlaw13_step -/
def trystlaw13_step.c1 (R : Value → World → Prop) (in16 : Sl) (ok17 : Bool) (w : World) : Prop :=
  CallsV Try.prog n_trystkeep_SpoilBytes #[.slice in16.a in16.len in16.cap] w (fun v_1 w1 =>
  v_1 = .tuple #[] ∧
  R (.bool ok17) w1)

def trystlaw13_step.c2 (R : Value → World → Prop) (d0 : Option Addr) (r1 : Option Addr) (a5 : Addr) (b15 : Sl) (w : World) : Prop :=
  CallsV Try.prog n_trystkeep_Twin #[.slice b15.a b15.len b15.cap] w (fun v_2 w2 =>
  ∃ (a_3 : Option Addr) (l_4 c_5 : Nat), v_2 = .slice a_3 l_4 c_5 ∧
  ∃ S_6 : World → Prop, S_6 w2.drew ∧
  ∃ x_7 : Int, (∀ x, S_6 x → x.cell? (a5.add 1) = some (.int .i64 x_7)) ∧
  ∃ x_8 : Int, (∀ x, S_6 x → x.cell? (a5.add 1) = some (.int .i64 x_8)) ∧
  CallsV Try.prog n_disk_Disk_Write #[.pointer d0, .int .i64 x_7, .slice a_3 l_4 c_5] w2.drew (fun v_9 w3 =>
  ∃ x_10 : Int, v_9 = .int .i64 x_10 ∧
  S_6 w3 ∧
  CallsV Try.prog n_trystref10_Disk_Write #[.pointer r1, .int .i64 x_8, .slice b15.a b15.len b15.cap] w3 (fun v_11 w4 =>
  ∃ x_12 : Int, v_11 = .int .i64 x_12 ∧
  cond ((x_10 : Int) == x_12)
  (CallsV Try.prog n_trystkeep_Bytes #[.slice a_3 l_4 c_5, .slice b15.a b15.len b15.cap] w4 (fun v_13 w5 =>
  ∃ b_14 : Bool, v_13 = .bool b_14 ∧
  trystlaw13_step.c1 R ⟨a_3, l_4, c_5⟩ b_14 w5))
  (trystlaw13_step.c1 R ⟨a_3, l_4, c_5⟩ false w4))))

def trystlaw13_step.c3 (R : Value → World → Prop) (d0 : Option Addr) (r1 : Option Addr) (a5 : Addr) (w : World) : Prop :=
  ∃ (a_15 : Option Addr) (l_16 c_17 : Nat), w.cell? (a5.add 2) = some (.slice a_15 l_16 c_17) ∧
  CallsV Try.prog n_trystlaw13_Sector #[.slice a_15 l_16 c_17] w (fun v_18 w6 =>
  ∃ (a_19 : Option Addr) (l_20 c_21 : Nat), v_18 = .slice a_19 l_20 c_21 ∧
  ∃ b_22 : Bool, w6.cell? (a5.add 3) = some (.bool b_22) ∧
  cond b_22
  (∃ (a_23 : Option Addr) (l_24 c_25 : Nat), w6.cell? (a5.add 2) = some (.slice a_23 l_24 c_25) ∧
  CallsV Try.prog n_trystkeep_Twin #[.slice a_23 l_24 c_25] w6 (fun v_26 w7 =>
  ∃ (a_27 : Option Addr) (l_28 c_29 : Nat), v_26 = .slice a_27 l_28 c_29 ∧
  trystlaw13_step.c2 R d0 r1 a5 ⟨a_27, l_28, c_29⟩ w7))
  (trystlaw13_step.c2 R d0 r1 a5 ⟨a_19, l_20, c_21⟩ w6))

def trystlaw13_step.b4 (R : Value → World → Prop) (N4 : Sl → Int → World → Prop) (keep8 : Sl) (i9 : Int) (w : World) : Prop :=
  cond (decide ((i9 : Int) < ((keep8.len : Nat) : Int)))
  (0 ≤ (i9 : Int) ∧ i9 < ((keep8.len : Nat) : Int) ∧ ∃ q_30 : Addr, keep8.a = some q_30 ∧
  ∃ b_31 : Bool, w.cell? (q_30.add (i9 : Int).toNat) = some (.bool b_31) ∧
  0 ≤ (i9 : Int) ∧ i9 < ((keep8.len : Nat) : Int) ∧ ∃ q_32 : Addr, keep8.a = some q_32 ∧
  Wr w (q_32.add (i9 : Int).toNat) ∧
  (let w8 := w.setCell (q_32.add (i9 : Int).toNat) (.bool (!b_31));
  (let i9_32 : Int := (IntKind.i64.wrap (i9 + 1));
  N4 keep8 i9_32 w8)))
  (R (.bool true) w)

def trystlaw13_step.l4 (R : Value → World → Prop) (keep8 : Sl) (i9 : Int) (w : World) : Prop :=
  ∃ (I : Int → World → Prop) (μ : Int → World → Nat), I i9 w ∧ ∀ s w, I s w → trystlaw13_step.b4 R (fun keep8' i9' w' => (keep8' = keep8 ∧ I i9' w') ∧ μ i9' w' < μ s w) keep8 s w

def trystlaw13_step.c5 (R : Value → World → Prop) (x10 : Sl) (ok14 : Bool) (w : World) : Prop :=
  CallsV Try.prog n_trystkeep_SpoilBytes #[.slice x10.a x10.len x10.cap] w (fun v_34 w9 =>
  v_34 = .tuple #[] ∧
  R (.bool ok14) w9)

def trystlaw13_step.main (R : Value → World → Prop) (d0 : Option Addr) (r1 : Option Addr) (a2_0 : Int) (a2_1 : Int) (a2_2 : Sl) (a2_3 : Bool) (a2_4 : Sl) (a2_5 : Int) (w : World) : Prop :=
  let w10 := w.alloc (.cells #[.int .i64 a2_0, .int .i64 a2_1, .slice a2_2.a a2_2.len a2_2.cap, .bool a2_3, .slice a2_4.a a2_4.len a2_4.cap, .int .i64 a2_5] 63);
  ∃ x_35 : Int, w10.cell? (newA w) = some (.int .i64 x_35) ∧
  (8 : Int) ≠ 0 ∧
  (let t22_35 : Bool := (((Int.tmod (IntKind.u64.wrap x_35) 8) : Int) == 3);
  cond t22_35
  (CallsV Try.prog n_disk_Disk_Sync #[.pointer d0] w10 (fun v_37 w11 =>
  ∃ x_38 : Int, v_37 = .int .i64 x_38 ∧
  CallsV Try.prog n_trystref10_Disk_Sync #[.pointer r1] w11 (fun v_39 w12 =>
  ∃ x_40 : Int, v_39 = .int .i64 x_40 ∧
  R (.bool ((x_38 : Int) == x_40)) w12)))
  ((let t29_40 : Bool := (((Int.tmod (IntKind.u64.wrap x_35) 8) : Int) == 4);
  cond t29_40
  (∃ (a_42 : Option Addr) (l_43 c_44 : Nat), w10.cell? ((newA w).add 4) = some (.slice a_42 l_43 c_44) ∧
  CallsV Try.prog n_trystkeep_TwinBools #[.slice a_42 l_43 c_44] w10 (fun v_45 w13 =>
  ∃ (a_46 : Option Addr) (l_47 c_48 : Nat), v_45 = .slice a_46 l_47 c_48 ∧
  ∃ x_49 : Int, w13.cell? ((newA w).add 5) = some (.int .i64 x_49) ∧
  CallsV Try.prog n_disk_Disk_Crash #[.pointer d0, .slice a_46 l_47 c_48, .int .i64 x_49] w13 (fun v_50 w14 =>
  v_50 = .tuple #[] ∧
  ∃ (a_51 : Option Addr) (l_52 c_53 : Nat), w14.cell? ((newA w).add 4) = some (.slice a_51 l_52 c_53) ∧
  ∃ x_54 : Int, w14.cell? ((newA w).add 5) = some (.int .i64 x_54) ∧
  CallsV Try.prog n_trystref10_Disk_Crash #[.pointer r1, .slice a_51 l_52 c_53, .int .i64 x_54] w14 (fun v_55 w15 =>
  v_55 = .tuple #[] ∧
  ∃ (a_56 : Option Addr) (l_57 c_58 : Nat), w15.cell? ((newA w).add 4) = some (.slice a_56 l_57 c_58) ∧
  CallsV Try.prog n_trystkeep_Bools #[.slice a_46 l_47 c_48, .slice a_56 l_57 c_58] w15 (fun v_59 w16 =>
  ∃ b_60 : Bool, v_59 = .bool b_60 ∧
  R (.bool b_60) w16)))))
  ((let t49_60 : Bool := (((Int.tmod (IntKind.u64.wrap x_35) 8) : Int) == 5);
  cond t49_60
  (CallsV Try.prog n_disk_Disk_Start #[.pointer d0] w10 (fun v_62 w17 =>
  v_62 = .tuple #[] ∧
  ∃ q_63 : Addr, r1 = some q_63 ∧
  Wr w17 (q_63.add 3) ∧
  (let w18 := w17.setCell (q_63.add 3) (.bool false);
  R (.bool true) w18)))
  ((let t56_63 : Bool := (((Int.tmod (IntKind.u64.wrap x_35) 8) : Int) == 6);
  cond t56_63
  (∃ (a_65 : Option Addr) (l_66 c_67 : Nat), w10.cell? ((newA w).add 4) = some (.slice a_65 l_66 c_67) ∧
  CallsV Try.prog n_trystkeep_TwinBools #[.slice a_65 l_66 c_67] w10 (fun v_68 w19 =>
  ∃ (a_69 : Option Addr) (l_70 c_71 : Nat), v_68 = .slice a_69 l_70 c_71 ∧
  ∃ x_72 : Int, w19.cell? ((newA w).add 1) = some (.int .i64 x_72) ∧
  ∃ x_73 : Int, w19.cell? ((newA w).add 5) = some (.int .i64 x_73) ∧
  CallsV Try.prog n_disk_Disk_Trip #[.pointer d0, .int .i64 x_72, .slice a_69 l_70 c_71, .int .i64 x_73] w19 (fun v_74 w20 =>
  v_74 = .tuple #[] ∧
  ∃ x_75 : Int, w20.cell? ((newA w).add 1) = some (.int .i64 x_75) ∧
  ∃ (a_76 : Option Addr) (l_77 c_78 : Nat), w20.cell? ((newA w).add 4) = some (.slice a_76 l_77 c_78) ∧
  ∃ x_79 : Int, w20.cell? ((newA w).add 5) = some (.int .i64 x_79) ∧
  CallsV Try.prog n_trystref10_Disk_Trip #[.pointer r1, .int .i64 x_75, .slice a_76 l_77 c_78, .int .i64 x_79] w20 (fun v_80 w21 =>
  v_80 = .tuple #[] ∧
  trystlaw13_step.l4 R ⟨a_69, l_70, c_71⟩ 0 w21))))
  ((let t90_80 : Bool := (((Int.tmod (IntKind.u64.wrap x_35) 8) : Int) == 7);
  cond t90_80
  (∃ x_82 : Int, w10.cell? ((newA w).add 1) = some (.int .i64 x_82) ∧
  CallsV Try.prog n_disk_Disk_Read #[.pointer d0, .int .i64 x_82] w10 (fun v_83 w22 =>
  ∃ (a_84 : Option Addr) (l_85 c_86 : Nat), ∃ x_87 : Int, v_83 = .tuple #[.slice a_84 l_85 c_86, .int .i64 x_87] ∧
  ∃ x_88 : Int, w22.cell? ((newA w).add 1) = some (.int .i64 x_88) ∧
  CallsV Try.prog n_trystref10_Disk_Read #[.pointer r1, .int .i64 x_88] w22 (fun v_89 w23 =>
  ∃ (a_90 : Option Addr) (l_91 c_92 : Nat), ∃ x_93 : Int, v_89 = .tuple #[.slice a_90 l_91 c_92, .int .i64 x_93] ∧
  CallsV Try.prog n_trystkeep_Bytes #[.slice a_84 l_85 c_86, .slice a_90 l_91 c_92] w23 (fun v_94 w24 =>
  ∃ b_95 : Bool, v_94 = .bool b_95 ∧
  cond b_95
  (trystlaw13_step.c5 R ⟨a_84, l_85, c_86⟩ ((x_87 : Int) == x_93) w24)
  (trystlaw13_step.c5 R ⟨a_84, l_85, c_86⟩ false w24)))))
  (trystlaw13_step.c3 R d0 r1 (newA w) w10))))))))))

def trystlaw13_step.J0 (R : Value → World → Prop) (k : Nat) (fr : Fr) (w : World) : Prop :=
  cond (Nat.beq k 4) (dec [(8, .slice), (9, (.int .i64))] fr fun x => trystlaw13_step.l4 R x.1 x.2 w) (cond (Nat.beq k 5) (dec [(10, .slice), (14, .bool)] fr fun x => trystlaw13_step.c5 R x.1 x.2 w) (cond (Nat.beq k 3) (dec [(0, .ptr), (1, .ptr), (5, .addr)] fr fun x => trystlaw13_step.c3 R x.1 x.2.1 x.2.2 w) (cond (Nat.beq k 2) (dec [(0, .ptr), (1, .ptr), (5, .addr), (15, .slice)] fr fun x => trystlaw13_step.c2 R x.1 x.2.1 x.2.2.1 x.2.2.2 w) (cond (Nat.beq k 1) (dec [(16, .slice), (17, .bool)] fr fun x => trystlaw13_step.c1 R x.1 x.2 w) (False)))))

set_option maxRecDepth 100000 in
theorem trystlaw13_step.lift {R : Value → World → Prop} {d0 : Option Addr} {r1 : Option Addr} {a2_0 : Int} {a2_1 : Int} {a2_2 : Sl} {a2_3 : Bool} {a2_4 : Sl} {a2_5 : Int} {w : World} (h : trystlaw13_step.main R d0 r1 a2_0 a2_1 a2_2 a2_3 a2_4 a2_5 w) : CallsV Try.prog n_trystlaw13_step #[.pointer d0, .pointer r1, .agg #[.int .i64 a2_0, .int .i64 a2_1, .slice a2_2.a a2_2.len a2_2.cap, .bool a2_3, .slice a2_4.a a2_4.len a2_4.cap, .int .i64 a2_5]] w R :=
  liftCalls (c := (.seq (.leaf (cL (bd Try.f38))) (.seq (.seq (.leaf (cL (cL (cR (bd Try.f38))))) (.block 0 (.seq (.leaf (cL (cB (cR (cL (cR (bd Try.f38))))))) (.cnd (.tmp 22) (.seq (.leaf (cL (cT (cR (cB (cR (cL (cR (bd Try.f38))))))))) (.leaf (cR (cT (cR (cB (cR (cL (cR (bd Try.f38)))))))))) (.seq (.leaf (cL (cE (cR (cB (cR (cL (cR (bd Try.f38))))))))) (.cnd (.tmp 29) (.seq (.leaf (cL (cT (cR (cE (cR (cB (cR (cL (cR (bd Try.f38))))))))))) (.seq (.leaf (cL (cR (cT (cR (cE (cR (cB (cR (cL (cR (bd Try.f38)))))))))))) (.seq (.leaf (cL (cR (cR (cT (cR (cE (cR (cB (cR (cL (cR (bd Try.f38))))))))))))) (.seq (.leaf (cL (cR (cR (cR (cT (cR (cE (cR (cB (cR (cL (cR (bd Try.f38)))))))))))))) (.leaf (cR (cR (cR (cR (cT (cR (cE (cR (cB (cR (cL (cR (bd Try.f38)))))))))))))))))) (.seq (.leaf (cL (cE (cR (cE (cR (cB (cR (cL (cR (bd Try.f38))))))))))) (.cnd (.tmp 49) (.seq (.leaf (cL (cT (cR (cE (cR (cE (cR (cB (cR (cL (cR (bd Try.f38))))))))))))) (.seq (.leaf (cL (cR (cT (cR (cE (cR (cE (cR (cB (cR (cL (cR (bd Try.f38)))))))))))))) (.seq (.leaf (cL (cR (cR (cT (cR (cE (cR (cE (cR (cB (cR (cL (cR (bd Try.f38))))))))))))))) (.leaf (cR (cR (cR (cT (cR (cE (cR (cE (cR (cB (cR (cL (cR (bd Try.f38)))))))))))))))))) (.seq (.leaf (cL (cE (cR (cE (cR (cE (cR (cB (cR (cL (cR (bd Try.f38))))))))))))) (.cnd (.tmp 56) (.seq (.leaf (cL (cT (cR (cE (cR (cE (cR (cE (cR (cB (cR (cL (cR (bd Try.f38))))))))))))))) (.seq (.leaf (cL (cR (cT (cR (cE (cR (cE (cR (cE (cR (cB (cR (cL (cR (bd Try.f38)))))))))))))))) (.seq (.leaf (cL (cR (cR (cT (cR (cE (cR (cE (cR (cE (cR (cB (cR (cL (cR (bd Try.f38))))))))))))))))) (.seq (.seq (.leaf (cL (cL (cR (cR (cR (cT (cR (cE (cR (cE (cR (cE (cR (cB (cR (cL (cR (bd Try.f38))))))))))))))))))) (.block 1 (.loop 4 (.seq (.seq (.leaf (cL (cL (cB (cB (cR (cL (cR (cR (cR (cT (cR (cE (cR (cE (cR (cE (cR (cB (cR (cL (cR (bd Try.f38))))))))))))))))))))))) (.cnd (.tmp 79) (.leaf (cT (cR (cL (cB (cB (cR (cL (cR (cR (cR (cT (cR (cE (cR (cE (cR (cE (cR (cB (cR (cL (cR (bd Try.f38)))))))))))))))))))))))) (.leaf (cE (cR (cL (cB (cB (cR (cL (cR (cR (cR (cT (cR (cE (cR (cE (cR (cE (cR (cB (cR (cL (cR (bd Try.f38)))))))))))))))))))))))))) (.seq (.block 2 (.leaf (cB (cL (cR (cB (cB (cR (cL (cR (cR (cR (cT (cR (cE (cR (cE (cR (cE (cR (cB (cR (cL (cR (bd Try.f38))))))))))))))))))))))))) (.leaf (cR (cR (cB (cB (cR (cL (cR (cR (cR (cT (cR (cE (cR (cE (cR (cE (cR (cB (cR (cL (cR (bd Try.f38)))))))))))))))))))))))))))) (.seq (.leaf (cL (cR (cR (cR (cR (cT (cR (cE (cR (cE (cR (cE (cR (cB (cR (cL (cR (bd Try.f38))))))))))))))))))) (.leaf (cR (cR (cR (cR (cR (cT (cR (cE (cR (cE (cR (cE (cR (cB (cR (cL (cR (bd Try.f38)))))))))))))))))))))))) (.seq (.leaf (cL (cE (cR (cE (cR (cE (cR (cE (cR (cB (cR (cL (cR (bd Try.f38))))))))))))))) (.cnd (.tmp 90) (.seq (.leaf (cL (cT (cR (cE (cR (cE (cR (cE (cR (cE (cR (cB (cR (cL (cR (bd Try.f38))))))))))))))))) (.seq (.leaf (cL (cR (cT (cR (cE (cR (cE (cR (cE (cR (cE (cR (cB (cR (cL (cR (bd Try.f38)))))))))))))))))) (.seq (.leaf (cL (cR (cR (cT (cR (cE (cR (cE (cR (cE (cR (cE (cR (cB (cR (cL (cR (bd Try.f38))))))))))))))))))) (.cut 5 (.seq (.leaf (cL (cR (cR (cR (cT (cR (cE (cR (cE (cR (cE (cR (cE (cR (cB (cR (cL (cR (bd Try.f38)))))))))))))))))))) (.seq (.leaf (cL (cR (cR (cR (cR (cT (cR (cE (cR (cE (cR (cE (cR (cE (cR (cB (cR (cL (cR (bd Try.f38))))))))))))))))))))) (.leaf (cR (cR (cR (cR (cR (cT (cR (cE (cR (cE (cR (cE (cR (cE (cR (cB (cR (cL (cR (bd Try.f38))))))))))))))))))))))))))) (.leaf (cE (cR (cE (cR (cE (cR (cE (cR (cE (cR (cB (cR (cL (cR (bd Try.f38)))))))))))))))))))))))))))) (.cut 3 (.seq (.leaf (cL (cR (cR (bd Try.f38))))) (.seq (.seq (.leaf (cL (cL (cR (cR (cR (bd Try.f38))))))) (.cnd (.tmp 121) (.leaf (cT (cR (cL (cR (cR (cR (bd Try.f38)))))))) (.leaf (cE (cR (cL (cR (cR (cR (bd Try.f38)))))))))) (.cut 2 (.seq (.leaf (cL (cR (cR (cR (cR (bd Try.f38))))))) (.seq (.leaf (cL (cR (cR (cR (cR (cR (bd Try.f38)))))))) (.cut 1 (.seq (.leaf (cL (cR (cR (cR (cR (cR (cR (bd Try.f38))))))))) (.seq (.leaf (cL (cR (cR (cR (cR (cR (cR (cR (bd Try.f38)))))))))) (.leaf (cR (cR (cR (cR (cR (cR (cR (cR (bd Try.f38)))))))))))))))))))))) (J := trystlaw13_step.J0 R) LfYtnnpkjhpeefnbaa.mixed Try.func38 (by kernel_rfl) (by kernel_rfl) (mkSeq (mkSeq (mkCut (cutDef [(0, .ptr), (1, .ptr), (5, .addr)] (fun x w => trystlaw13_step.c3 R x.1 x.2.1 x.2.2 w) (fun _ _ => by kernel_rfl) (fun _ _ => by kernel_rfl)) (mkSeq (mkSeq (mkCut (cutDef [(0, .ptr), (1, .ptr), (5, .addr), (15, .slice)] (fun x w => trystlaw13_step.c2 R x.1 x.2.1 x.2.2.1 x.2.2.2 w) (fun _ _ => by kernel_rfl) (fun _ _ => by kernel_rfl)) (mkSeq (mkSeq (mkCut (cutDef [(16, .slice), (17, .bool)] (fun x w => trystlaw13_step.c1 R x.1 x.2 w) (fun _ _ => by kernel_rfl) (fun _ _ => by kernel_rfl)) (mkSeq (mkSeq mkLeaf mkLeaf) mkLeaf)) mkLeaf) mkLeaf)) (mkSeq (mkCnd mkLeaf mkLeaf) mkLeaf)) mkLeaf)) (mkSeq (mkBlock (mkSeq (mkCnd (mkSeq mkLeaf mkLeaf) (mkSeq (mkCnd (mkSeq (mkSeq (mkSeq (mkSeq mkLeaf mkLeaf) mkLeaf) mkLeaf) mkLeaf) (mkSeq (mkCnd (mkSeq (mkSeq (mkSeq mkLeaf mkLeaf) mkLeaf) mkLeaf) (mkSeq (mkCnd (mkSeq (mkSeq (mkSeq (mkSeq (mkSeq mkLeaf mkLeaf) (mkSeq (mkBlock (mkLoop (loopDef LfYtnnpkjhpeefnbaa.mixed [(8, .slice), (9, (.int .i64))] (by kernel_rfl) (fun M4 x w => trystlaw13_step.b4 R (fun y0 y1 w => M4 (y0, y1) w) x.1 x.2 w) (fun M4 => fun _ _ _ => False) (fun _ _ _ => by kernel_rfl) (fun M4 => (mkSeq (mkSeq mkLeaf (mkBlock mkLeaf)) (mkSeq (mkCnd mkLeaf mkLeaf) mkLeaf))) (fun x w => trystlaw13_step.l4 R x.1 x.2 w) (by rintro ⟨c0, s0⟩ w ⟨I, μ, h0, h1⟩; refine ⟨fun y w => y.1 = c0 ∧ I y.2 w, fun y w => μ y.2 w, ⟨rfl, h0⟩, ?_⟩; rintro ⟨d0, t0⟩ w ⟨e0, hI⟩; dsimp only at e0 hI; subst e0; exact h1 _ _ hI) (fun _ _ => by kernel_rfl)))) mkLeaf)) mkLeaf) mkLeaf) mkLeaf) (mkSeq (mkCnd (mkSeq (mkSeq (mkSeq (mkCut (cutDef [(10, .slice), (14, .bool)] (fun x w => trystlaw13_step.c5 R x.1 x.2 w) (fun _ _ => by kernel_rfl) (fun _ _ => by kernel_rfl)) (mkSeq (mkSeq mkLeaf mkLeaf) mkLeaf)) mkLeaf) mkLeaf) mkLeaf) mkLeaf) mkLeaf)) mkLeaf)) mkLeaf)) mkLeaf)) mkLeaf)) mkLeaf)) mkLeaf) (kcast (by kernel_rfl) h)

/-! trystlaw13_same -/
def trystlaw13_same.c1 (R : Value → World → Prop) (d0 : Option Addr) (r1 : Option Addr) (w : World) : Prop :=
  ∃ S_1 : World → Prop, S_1 w.drew ∧
  ∃ q_2 : Addr, r1 = some q_2 ∧
  ∃ b_3 : Bool, (∀ x, S_1 x → x.cell? (q_2.add 3) = some (.bool b_3)) ∧
  CallsV Try.prog n_disk_Disk_Off #[.pointer d0] w.drew (fun v_4 w1 =>
  ∃ b_5 : Bool, v_4 = .bool b_5 ∧
  S_1 w1 ∧
  cond (b_5 == b_3)
  (∃ q_6 : Addr, r1 = some q_6 ∧
  ∃ (a_7 : Option Addr) (l_8 c_9 : Nat), (∀ x, S_1 x → x.cell? q_6 = some (.slice a_7 l_8 c_9)) ∧
  CallsV Try.prog n_disk_Disk_Sectors #[.pointer d0] w1 (fun v_10 w2 =>
  ∃ x_11 : Int, v_10 = .int .i64 x_11 ∧
  S_1 w2 ∧
  (let t4_11 : Bool := ((x_11 : Int) == ((l_8 : Nat) : Int));
  R (.bool t4_11) w2)))
  (R (.bool false) w1))

def trystlaw13_same.b2 (R : Value → World → Prop) (N2 : Option Addr → Option Addr → Int → World → Prop) (d0 : Option Addr) (r1 : Option Addr) (i5 : Int) (w : World) : Prop :=
  ∃ q_13 : Addr, r1 = some q_13 ∧
  ∃ (a_14 : Option Addr) (l_15 c_16 : Nat), w.cell? q_13 = some (.slice a_14 l_15 c_16) ∧
  cond (decide ((i5 : Int) < ((l_15 : Nat) : Int)))
  (CallsV Try.prog n_disk_Disk_Read #[.pointer d0, .int .i64 i5] w (fun v_17 w3 =>
  ∃ (a_18 : Option Addr) (l_19 c_20 : Nat), ∃ x_21 : Int, v_17 = .tuple #[.slice a_18 l_19 c_20, .int .i64 x_21] ∧
  CallsV Try.prog n_trystref10_Disk_Read #[.pointer r1, .int .i64 i5] w3 (fun v_22 w4 =>
  ∃ (a_23 : Option Addr) (l_24 c_25 : Nat), ∃ x_26 : Int, v_22 = .tuple #[.slice a_23 l_24 c_25, .int .i64 x_26] ∧
  CallsV Try.prog n_trystkeep_Bytes #[.slice a_18 l_19 c_20, .slice a_23 l_24 c_25] w4 (fun v_27 w5 =>
  ∃ b_28 : Bool, v_27 = .bool b_28 ∧
  cond (!b_28)
  (R (.bool false) w5)
  (cond ((x_21 : Int) != x_26)
  (R (.bool false) w5)
  ((let i5_28 : Int := (IntKind.i64.wrap (i5 + 1));
  N2 d0 r1 i5_28 w5)))))))
  (trystlaw13_same.c1 R d0 r1 w)

def trystlaw13_same.l2 (R : Value → World → Prop) (d0 : Option Addr) (r1 : Option Addr) (i5 : Int) (w : World) : Prop :=
  ∃ (I : Int → World → Prop) (μ : Int → World → Nat), I i5 w ∧ ∀ s w, I s w → trystlaw13_same.b2 R (fun d0' r1' i5' w' => (d0' = d0 ∧ r1' = r1 ∧ I i5' w') ∧ μ i5' w' < μ s w) d0 r1 s w

def trystlaw13_same.main (R : Value → World → Prop) (d0 : Option Addr) (r1 : Option Addr) (w : World) : Prop :=
  trystlaw13_same.l2 R d0 r1 0 w

def trystlaw13_same.J0 (R : Value → World → Prop) (k : Nat) (fr : Fr) (w : World) : Prop :=
  cond (Nat.beq k 2) (dec [(0, .ptr), (1, .ptr), (5, (.int .i64))] fr fun x => trystlaw13_same.l2 R x.1 x.2.1 x.2.2 w) (cond (Nat.beq k 1) (dec [(0, .ptr), (1, .ptr)] fr fun x => trystlaw13_same.c1 R x.1 x.2 w) (False))

set_option maxRecDepth 100000 in
theorem trystlaw13_same.lift {R : Value → World → Prop} {d0 : Option Addr} {r1 : Option Addr} {w : World} (h : trystlaw13_same.main R d0 r1 w) : CallsV Try.prog n_trystlaw13_same #[.pointer d0, .pointer r1] w R :=
  liftCalls (c := (.seq (.leaf (cL (bd Try.f39))) (.seq (.seq (.leaf (cL (cL (cR (bd Try.f39))))) (.block 0 (.loop 2 (.seq (.seq (.leaf (cL (cL (cB (cB (cR (cL (cR (bd Try.f39))))))))) (.cnd (.tmp 16) (.leaf (cT (cR (cL (cB (cB (cR (cL (cR (bd Try.f39)))))))))) (.leaf (cE (cR (cL (cB (cB (cR (cL (cR (bd Try.f39)))))))))))) (.seq (.block 1 (.seq (.leaf (cL (cB (cL (cR (cB (cB (cR (cL (cR (bd Try.f39))))))))))) (.seq (.leaf (cL (cR (cB (cL (cR (cB (cB (cR (cL (cR (bd Try.f39)))))))))))) (.seq (.leaf (cL (cR (cR (cB (cL (cR (cB (cB (cR (cL (cR (bd Try.f39))))))))))))) (.cnd (.tmp 39) (.seq (.leaf (cL (cT (cR (cR (cR (cB (cL (cR (cB (cB (cR (cL (cR (bd Try.f39))))))))))))))) (.leaf (cR (cT (cR (cR (cR (cB (cL (cR (cB (cB (cR (cL (cR (bd Try.f39)))))))))))))))) (.leaf (cE (cR (cR (cR (cB (cL (cR (cB (cB (cR (cL (cR (bd Try.f39))))))))))))))))))) (.leaf (cR (cR (cB (cB (cR (cL (cR (bd Try.f39)))))))))))))) (.cut 1 (.seq (.leaf (cL (cR (cR (bd Try.f39))))) (.leaf (cR (cR (cR (bd Try.f39)))))))))) (J := trystlaw13_same.J0 R) LfYtnnpkjhpeefnbaa.mixed Try.func39 (by kernel_rfl) (by kernel_rfl) (mkSeq (mkSeq (mkCut (cutDef [(0, .ptr), (1, .ptr)] (fun x w => trystlaw13_same.c1 R x.1 x.2 w) (fun _ _ => by kernel_rfl) (fun _ _ => by kernel_rfl)) (mkSeq mkLeaf mkLeaf)) (mkSeq (mkBlock (mkLoop (loopDef LfYtnnpkjhpeefnbaa.mixed [(0, .ptr), (1, .ptr), (5, (.int .i64))] (by kernel_rfl) (fun M2 x w => trystlaw13_same.b2 R (fun y0 y1 y2 w => M2 (y0, y1, y2) w) x.1 x.2.1 x.2.2 w) (fun M2 => fun _ _ _ => False) (fun _ _ _ => by kernel_rfl) (fun M2 => (mkSeq (mkSeq mkLeaf (mkBlock (mkSeq (mkSeq (mkSeq (mkCnd (mkSeq mkLeaf mkLeaf) mkLeaf) mkLeaf) mkLeaf) mkLeaf))) (mkSeq (mkCnd mkLeaf mkLeaf) mkLeaf))) (fun x w => trystlaw13_same.l2 R x.1 x.2.1 x.2.2 w) (by rintro ⟨c0, c1, s0⟩ w ⟨I, μ, h0, h1⟩; refine ⟨fun y w => y.1 = c0 ∧ y.2.1 = c1 ∧ I y.2.2 w, fun y w => μ y.2.2 w, ⟨rfl, rfl, h0⟩, ?_⟩; rintro ⟨d0, d1, t0⟩ w ⟨e0, e1, hI⟩; dsimp only at e0 e1 hI; subst e0; subst e1; exact h1 _ _ hI) (fun _ _ => by kernel_rfl)))) mkLeaf)) mkLeaf) (kcast (by kernel_rfl) h)

/-! slices_Clone_sector -/
def slices_Clone_sector.main (R : Value → World → Prop) (s0 : Sl) (w : World) : Prop :=
  cond ((s0.a).isNone)
  (R (.slice none 0 0) w)
  (let w1 := w.alloc (.cells #[] 82);
  ∃ (a_1 : Option Addr) (l_2 c_3 : Nat), ∃ w2 : World, (builtin .append #[76, 76] 76 #[] #[.slice (some (newA w)) 0 0, .slice s0.a s0.len s0.cap]).run Try.prog w1 = .ok (.value (.slice a_1 l_2 c_3)) w2 ∧
  R (.slice a_1 l_2 c_3) w2)

def slices_Clone_sector.J0 (_ : Value → World → Prop) (_ : Nat) (_ : Fr) (_ : World) : Prop := False

set_option maxRecDepth 100000 in
theorem slices_Clone_sector.lift {R : Value → World → Prop} {s0 : Sl} {w : World} (h : slices_Clone_sector.main R s0 w) : CallsV Try.prog n_slices_Clone_sector #[.slice s0.a s0.len s0.cap] w R :=
  liftCalls (c := (.seq (.leaf (cL (bd Try.f47))) (.seq (.seq (.leaf (cL (cL (cR (bd Try.f47))))) (.cnd (.tmp 4) (.seq (.leaf (cL (cT (cR (cL (cR (bd Try.f47))))))) (.leaf (cR (cT (cR (cL (cR (bd Try.f47)))))))) (.leaf (cE (cR (cL (cR (bd Try.f47)))))))) (.seq (.leaf (cL (cR (cR (bd Try.f47))))) (.leaf (cR (cR (cR (bd Try.f47))))))))) (J := slices_Clone_sector.J0 R) LfYtnnpkjhpeefnbaa.mixed Try.func47 (by kernel_rfl) (by kernel_rfl) (mkSeq (mkSeq (mkSeq mkLeaf mkLeaf) (mkSeq (mkCnd (mkSeq mkLeaf mkLeaf) mkLeaf) mkLeaf)) mkLeaf) (kcast (by kernel_rfl) h)

/-! disk_Disk_wrong -/
def disk_Disk_wrong.main (R : Value → World → Prop) (d0 : Option Addr) (i1 : Int) (w : World) : Prop :=
  ∃ q_1 : Addr, d0 = some q_1 ∧
  ∃ b_2 : Bool, w.cell? (q_1.add 3) = some (.bool b_2) ∧
  cond b_2
  (R (.int .i64 9) w)
  (cond (decide ((i1 : Int) < 0))
  (R (.int .i64 1) w)
  (∃ q_3 : Addr, d0 = some q_3 ∧
  ∃ (a_4 : Option Addr) (l_5 c_6 : Nat), w.cell? q_3 = some (.slice a_4 l_5 c_6) ∧
  (let t10_6 : Bool := (decide ((i1 : Int) ≥ ((l_5 : Nat) : Int)));
  cond t10_6
  (R (.int .i64 1) w)
  (R (.int .i64 0) w))))

def disk_Disk_wrong.J0 (_ : Value → World → Prop) (_ : Nat) (_ : Fr) (_ : World) : Prop := False

set_option maxRecDepth 100000 in
theorem disk_Disk_wrong.lift {R : Value → World → Prop} {d0 : Option Addr} {i1 : Int} {w : World} (h : disk_Disk_wrong.main R d0 i1 w) : CallsV Try.prog n_disk_Disk_wrong #[.pointer d0, .int .i64 i1] w R :=
  liftCalls (c := (.seq (.leaf (cL (bd Try.f48))) (.seq (.block 0 (.seq (.leaf (cL (cB (cL (cR (bd Try.f48)))))) (.cnd (.tmp 5) (.seq (.leaf (cL (cT (cR (cB (cL (cR (bd Try.f48)))))))) (.leaf (cR (cT (cR (cB (cL (cR (bd Try.f48))))))))) (.seq (.leaf (cL (cE (cR (cB (cL (cR (bd Try.f48)))))))) (.cnd (.tmp 10) (.seq (.leaf (cL (cT (cR (cE (cR (cB (cL (cR (bd Try.f48)))))))))) (.leaf (cR (cT (cR (cE (cR (cB (cL (cR (bd Try.f48))))))))))) (.leaf (cE (cR (cE (cR (cB (cL (cR (bd Try.f48)))))))))))))) (.seq (.leaf (cL (cR (cR (bd Try.f48))))) (.leaf (cR (cR (cR (bd Try.f48))))))))) (J := disk_Disk_wrong.J0 R) LfYtnnpkjhpeefnbaa.mixed Try.func48 (by kernel_rfl) (by kernel_rfl) (mkSeq (mkSeq (mkSeq mkLeaf mkLeaf) (mkBlock (mkSeq (mkCnd (mkSeq mkLeaf mkLeaf) (mkSeq (mkCnd (mkSeq mkLeaf mkLeaf) mkLeaf) mkLeaf)) mkLeaf))) mkLeaf) (kcast (by kernel_rfl) h)

/-! slices_Clone_byte -/
def slices_Clone_byte.main (R : Value → World → Prop) (s0 : Sl) (w : World) : Prop :=
  cond ((s0.a).isNone)
  (R (.slice none 0 0) w)
  (let w1 := w.alloc (.cells #[] 5);
  ∃ (a_1 : Option Addr) (l_2 c_3 : Nat), ∃ w2 : World, (builtin .append #[52, 52] 52 #[] #[.slice (some (newA w)) 0 0, .slice s0.a s0.len s0.cap]).run Try.prog w1 = .ok (.value (.slice a_1 l_2 c_3)) w2 ∧
  R (.slice a_1 l_2 c_3) w2)

def slices_Clone_byte.J0 (_ : Value → World → Prop) (_ : Nat) (_ : Fr) (_ : World) : Prop := False

set_option maxRecDepth 100000 in
theorem slices_Clone_byte.lift {R : Value → World → Prop} {s0 : Sl} {w : World} (h : slices_Clone_byte.main R s0 w) : CallsV Try.prog n_slices_Clone_byte #[.slice s0.a s0.len s0.cap] w R :=
  liftCalls (c := (.seq (.leaf (cL (bd Try.f49))) (.seq (.seq (.leaf (cL (cL (cR (bd Try.f49))))) (.cnd (.tmp 4) (.seq (.leaf (cL (cT (cR (cL (cR (bd Try.f49))))))) (.leaf (cR (cT (cR (cL (cR (bd Try.f49)))))))) (.leaf (cE (cR (cL (cR (bd Try.f49)))))))) (.seq (.leaf (cL (cR (cR (bd Try.f49))))) (.leaf (cR (cR (cR (bd Try.f49))))))))) (J := slices_Clone_byte.J0 R) LfYtnnpkjhpeefnbaa.mixed Try.func49 (by kernel_rfl) (by kernel_rfl) (mkSeq (mkSeq (mkSeq mkLeaf mkLeaf) (mkSeq (mkCnd (mkSeq mkLeaf mkLeaf) mkLeaf) mkLeaf)) mkLeaf) (kcast (by kernel_rfl) h)

/-! disk_Disk_trips -/
def disk_Disk_trips.main (R : Value → World → Prop) (d0 : Option Addr) (w : World) : Prop :=
  ∃ q_1 : Addr, d0 = some q_1 ∧
  ∃ p_2 : Option Addr, w.cell? (q_1.add 4) = some (.pointer p_2) ∧
  cond ((p_2).isNone)
  (R (.bool false) w)
  (∃ q_3 : Addr, d0 = some q_3 ∧
  ∃ p_4 : Option Addr, w.cell? (q_3.add 4) = some (.pointer p_4) ∧
  ∃ q_5 : Addr, p_4 = some q_5 ∧
  ∃ x_6 : Int, w.cell? q_5 = some (.int .i64 x_6) ∧
  ∃ q_7 : Addr, p_4 = some q_7 ∧
  Wr w q_7 ∧
  (let w1 := w.setCell q_7 (.int .i64 (IntKind.i64.wrap (x_6 - 1)));
  ∃ q_8 : Addr, d0 = some q_8 ∧
  ∃ p_9 : Option Addr, w1.cell? (q_8.add 4) = some (.pointer p_9) ∧
  ∃ q_10 : Addr, p_9 = some q_10 ∧
  ∃ x_11 : Int, w1.cell? q_10 = some (.int .i64 x_11) ∧
  cond (decide ((x_11 : Int) > 0))
  (R (.bool false) w1)
  (∃ S_12 : World → Prop, S_12 w1.drew ∧
  ∃ q_13 : Addr, d0 = some q_13 ∧
  ∃ p_14 : Option Addr, (∀ x, S_12 x → x.cell? (q_13.add 4) = some (.pointer p_14)) ∧
  ∃ q_15 : Addr, p_14 = some q_15 ∧
  ∃ (a_16 : Option Addr) (l_17 c_18 : Nat), (∀ x, S_12 x → x.cell? (q_15.add 1) = some (.slice a_16 l_17 c_18)) ∧
  ∃ q_19 : Addr, d0 = some q_19 ∧
  ∃ p_20 : Option Addr, (∀ x, S_12 x → x.cell? (q_19.add 4) = some (.pointer p_20)) ∧
  ∃ q_21 : Addr, p_20 = some q_21 ∧
  ∃ x_22 : Int, (∀ x, S_12 x → x.cell? (q_21.add 2) = some (.int .i64 x_22)) ∧
  CallsV Try.prog n_disk_Disk_Crash #[.pointer d0, .slice a_16 l_17 c_18, .int .i64 x_22] w1.drew (fun v_23 w2 =>
  v_23 = .tuple #[] ∧
  R (.bool true) w2))))

def disk_Disk_trips.J0 (_ : Value → World → Prop) (_ : Nat) (_ : Fr) (_ : World) : Prop := False

set_option maxRecDepth 100000 in
theorem disk_Disk_trips.lift {R : Value → World → Prop} {d0 : Option Addr} {w : World} (h : disk_Disk_trips.main R d0 w) : CallsV Try.prog n_disk_Disk_trips #[.pointer d0] w R :=
  liftCalls (c := (.seq (.leaf (cL (bd Try.f50))) (.seq (.seq (.leaf (cL (cL (cR (bd Try.f50))))) (.cnd (.tmp 7) (.seq (.leaf (cL (cT (cR (cL (cR (bd Try.f50))))))) (.leaf (cR (cT (cR (cL (cR (bd Try.f50)))))))) (.leaf (cE (cR (cL (cR (bd Try.f50)))))))) (.seq (.leaf (cL (cR (cR (bd Try.f50))))) (.seq (.seq (.leaf (cL (cL (cR (cR (cR (bd Try.f50))))))) (.cnd (.tmp 25) (.seq (.leaf (cL (cT (cR (cL (cR (cR (cR (bd Try.f50))))))))) (.leaf (cR (cT (cR (cL (cR (cR (cR (bd Try.f50)))))))))) (.leaf (cE (cR (cL (cR (cR (cR (bd Try.f50)))))))))) (.seq (.leaf (cL (cR (cR (cR (cR (bd Try.f50))))))) (.seq (.leaf (cL (cR (cR (cR (cR (cR (bd Try.f50)))))))) (.leaf (cR (cR (cR (cR (cR (cR (bd Try.f50))))))))))))))) (J := disk_Disk_trips.J0 R) LfYtnnpkjhpeefnbaa.mixed Try.func50 (by kernel_rfl) (by kernel_rfl) (mkSeq (mkSeq (mkSeq (mkSeq (mkSeq (mkSeq mkLeaf mkLeaf) mkLeaf) (mkSeq (mkCnd (mkSeq mkLeaf mkLeaf) mkLeaf) mkLeaf)) mkLeaf) (mkSeq (mkCnd (mkSeq mkLeaf mkLeaf) mkLeaf) mkLeaf)) mkLeaf) (kcast (by kernel_rfl) h)

/-! slices_Clone_bool -/
def slices_Clone_bool.main (R : Value → World → Prop) (s0 : Sl) (w : World) : Prop :=
  cond ((s0.a).isNone)
  (R (.slice none 0 0) w)
  (let w1 := w.alloc (.cells #[] 4);
  ∃ (a_1 : Option Addr) (l_2 c_3 : Nat), ∃ w2 : World, (builtin .append #[46, 46] 46 #[] #[.slice (some (newA w)) 0 0, .slice s0.a s0.len s0.cap]).run Try.prog w1 = .ok (.value (.slice a_1 l_2 c_3)) w2 ∧
  R (.slice a_1 l_2 c_3) w2)

def slices_Clone_bool.J0 (_ : Value → World → Prop) (_ : Nat) (_ : Fr) (_ : World) : Prop := False

set_option maxRecDepth 100000 in
theorem slices_Clone_bool.lift {R : Value → World → Prop} {s0 : Sl} {w : World} (h : slices_Clone_bool.main R s0 w) : CallsV Try.prog n_slices_Clone_bool #[.slice s0.a s0.len s0.cap] w R :=
  liftCalls (c := (.seq (.leaf (cL (bd Try.f51))) (.seq (.seq (.leaf (cL (cL (cR (bd Try.f51))))) (.cnd (.tmp 4) (.seq (.leaf (cL (cT (cR (cL (cR (bd Try.f51))))))) (.leaf (cR (cT (cR (cL (cR (bd Try.f51)))))))) (.leaf (cE (cR (cL (cR (bd Try.f51)))))))) (.seq (.leaf (cL (cR (cR (bd Try.f51))))) (.leaf (cR (cR (cR (bd Try.f51))))))))) (J := slices_Clone_bool.J0 R) LfYtnnpkjhpeefnbaa.mixed Try.func51 (by kernel_rfl) (by kernel_rfl) (mkSeq (mkSeq (mkSeq mkLeaf mkLeaf) (mkSeq (mkCnd (mkSeq mkLeaf mkLeaf) mkLeaf) mkLeaf)) mkLeaf) (kcast (by kernel_rfl) h)

/-! trystref10_Disk_Sync -/
def trystref10_Disk_Sync.c1 (R : Value → World → Prop) (d0 : Option Addr) (w : World) : Prop :=
  ∃ q_1 : Addr, d0 = some q_1 ∧
  Wr w (q_1.add 2) ∧
  (let w1 := w.setCell (q_1.add 2) (.slice none 0 0);
  R (.int .i64 0) w1)

def trystref10_Disk_Sync.b2 (R : Value → World → Prop) (N2 : Option Addr → Int → World → Prop) (d0 : Option Addr) (k3 : Int) (w : World) : Prop :=
  ∃ q_2 : Addr, d0 = some q_2 ∧
  ∃ (a_3 : Option Addr) (l_4 c_5 : Nat), w.cell? (q_2.add 2) = some (.slice a_3 l_4 c_5) ∧
  cond (decide ((k3 : Int) < ((l_4 : Nat) : Int)))
  (∃ S_6 : World → Prop, S_6 w.drew ∧
  ∃ q_7 : Addr, d0 = some q_7 ∧
  ∃ (a_8 : Option Addr) (l_9 c_10 : Nat), (∀ x, S_6 x → x.cell? q_7 = some (.slice a_8 l_9 c_10)) ∧
  ∃ q_11 : Addr, d0 = some q_11 ∧
  ∃ (a_12 : Option Addr) (l_13 c_14 : Nat), (∀ x, S_6 x → x.cell? (q_11.add 2) = some (.slice a_12 l_13 c_14)) ∧
  0 ≤ (k3 : Int) ∧ k3 < ((l_13 : Nat) : Int) ∧ ∃ q_15 : Addr, a_12 = some q_15 ∧
  ∃ x_16 : Int, (∀ x, S_6 x → x.cell? (q_15.add ((k3 : Int).toNat * 2)) = some (.int .i64 x_16)) ∧
  ∃ q_17 : Addr, d0 = some q_17 ∧
  ∃ (a_18 : Option Addr) (l_19 c_20 : Nat), (∀ x, S_6 x → x.cell? (q_17.add 1) = some (.slice a_18 l_19 c_20)) ∧
  ∃ q_21 : Addr, d0 = some q_21 ∧
  ∃ (a_22 : Option Addr) (l_23 c_24 : Nat), (∀ x, S_6 x → x.cell? (q_21.add 2) = some (.slice a_22 l_23 c_24)) ∧
  0 ≤ (k3 : Int) ∧ k3 < ((l_23 : Nat) : Int) ∧ ∃ q_25 : Addr, a_22 = some q_25 ∧
  ∃ x_26 : Int, (∀ x, S_6 x → x.cell? (q_25.add ((k3 : Int).toNat * 2)) = some (.int .i64 x_26)) ∧
  ∃ q_27 : Addr, d0 = some q_27 ∧
  ∃ (a_28 : Option Addr) (l_29 c_30 : Nat), (∀ x, S_6 x → x.cell? (q_27.add 2) = some (.slice a_28 l_29 c_30)) ∧
  0 ≤ (k3 : Int) ∧ k3 < ((l_29 : Nat) : Int) ∧ ∃ q_31 : Addr, a_28 = some q_31 ∧
  ∃ (a_32 : Option Addr) (l_33 c_34 : Nat), (∀ x, S_6 x → x.cell? ((q_31.add ((k3 : Int).toNat * 2)).add 1) = some (.slice a_32 l_33 c_34)) ∧
  0 ≤ (x_16 : Int) ∧ x_16 < ((l_9 : Nat) : Int) ∧ ∃ q_35 : Addr, a_8 = some q_35 ∧
  Wr w.drew (q_35.add (x_16 : Int).toNat) ∧
  (let w2 := w.drew.setCell (q_35.add (x_16 : Int).toNat) (.slice a_32 l_33 c_34);
  0 ≤ (x_26 : Int) ∧ x_26 < ((l_19 : Nat) : Int) ∧ ∃ q_36 : Addr, a_18 = some q_36 ∧
  Wr w2 (q_36.add (x_26 : Int).toNat) ∧
  (let w3 := w2.setCell (q_36.add (x_26 : Int).toNat) (.bool false);
  (let k3_36 : Int := (IntKind.i64.wrap (k3 + 1));
  N2 d0 k3_36 w3))))
  (trystref10_Disk_Sync.c1 R d0 w)

def trystref10_Disk_Sync.l2 (R : Value → World → Prop) (d0 : Option Addr) (k3 : Int) (w : World) : Prop :=
  ∃ (I : Int → World → Prop) (μ : Int → World → Nat), I k3 w ∧ ∀ s w, I s w → trystref10_Disk_Sync.b2 R (fun d0' k3' w' => (d0' = d0 ∧ I k3' w') ∧ μ k3' w' < μ s w) d0 s w

def trystref10_Disk_Sync.c3 (R : Value → World → Prop) (d0 : Option Addr) (w : World) : Prop :=
  trystref10_Disk_Sync.l2 R d0 0 w

def trystref10_Disk_Sync.main (R : Value → World → Prop) (d0 : Option Addr) (w : World) : Prop :=
  ∃ q_38 : Addr, d0 = some q_38 ∧
  ∃ b_39 : Bool, w.cell? (q_38.add 3) = some (.bool b_39) ∧
  cond b_39
  (R (.int .i64 9) w)
  (CallsV Try.prog n_trystref10_Disk_trips #[.pointer d0] w (fun v_40 w4 =>
  ∃ b_41 : Bool, v_40 = .bool b_41 ∧
  cond b_41
  (R (.int .i64 9) w4)
  (trystref10_Disk_Sync.c3 R d0 w4)))

def trystref10_Disk_Sync.J0 (R : Value → World → Prop) (k : Nat) (fr : Fr) (w : World) : Prop :=
  cond (Nat.beq k 3) (dec [(0, .ptr)] fr fun x => trystref10_Disk_Sync.c3 R x w) (cond (Nat.beq k 2) (dec [(0, .ptr), (3, (.int .i64))] fr fun x => trystref10_Disk_Sync.l2 R x.1 x.2 w) (cond (Nat.beq k 1) (dec [(0, .ptr)] fr fun x => trystref10_Disk_Sync.c1 R x w) (False)))

set_option maxRecDepth 100000 in
theorem trystref10_Disk_Sync.lift {R : Value → World → Prop} {d0 : Option Addr} {w : World} (h : trystref10_Disk_Sync.main R d0 w) : CallsV Try.prog n_trystref10_Disk_Sync #[.pointer d0] w R :=
  liftCalls (c := (.seq (.leaf (cL (bd Try.f52))) (.seq (.seq (.leaf (cL (cL (cR (bd Try.f52))))) (.cnd (.tmp 11) (.seq (.leaf (cL (cT (cR (cL (cR (bd Try.f52))))))) (.leaf (cR (cT (cR (cL (cR (bd Try.f52)))))))) (.leaf (cE (cR (cL (cR (bd Try.f52)))))))) (.cut 3 (.seq (.seq (.leaf (cL (cL (cR (cR (bd Try.f52)))))) (.block 0 (.loop 2 (.seq (.seq (.leaf (cL (cL (cB (cB (cR (cL (cR (cR (bd Try.f52)))))))))) (.cnd (.tmp 18) (.leaf (cT (cR (cL (cB (cB (cR (cL (cR (cR (bd Try.f52))))))))))) (.leaf (cE (cR (cL (cB (cB (cR (cL (cR (cR (bd Try.f52))))))))))))) (.seq (.block 1 (.leaf (cB (cL (cR (cB (cB (cR (cL (cR (cR (bd Try.f52)))))))))))) (.leaf (cR (cR (cB (cB (cR (cL (cR (cR (bd Try.f52))))))))))))))) (.cut 1 (.seq (.leaf (cL (cR (cR (cR (bd Try.f52)))))) (.seq (.leaf (cL (cR (cR (cR (cR (bd Try.f52))))))) (.leaf (cR (cR (cR (cR (cR (bd Try.f52))))))))))))))) (J := trystref10_Disk_Sync.J0 R) LfYtnnpkjhpeefnbaa.mixed Try.func52 (by kernel_rfl) (by kernel_rfl) (mkSeq (mkSeq (mkCut (cutDef [(0, .ptr)] (fun x w => trystref10_Disk_Sync.c3 R x w) (fun _ _ => by kernel_rfl) (fun _ _ => by kernel_rfl)) (mkSeq (mkCut (cutDef [(0, .ptr)] (fun x w => trystref10_Disk_Sync.c1 R x w) (fun _ _ => by kernel_rfl) (fun _ _ => by kernel_rfl)) (mkSeq (mkSeq mkLeaf mkLeaf) mkLeaf)) (mkSeq (mkBlock (mkLoop (loopDef LfYtnnpkjhpeefnbaa.mixed [(0, .ptr), (3, (.int .i64))] (by kernel_rfl) (fun M2 x w => trystref10_Disk_Sync.b2 R (fun y0 y1 w => M2 (y0, y1) w) x.1 x.2 w) (fun M2 => fun _ _ _ => False) (fun _ _ _ => by kernel_rfl) (fun M2 => (mkSeq (mkSeq mkLeaf (mkBlock mkLeaf)) (mkSeq (mkCnd mkLeaf mkLeaf) mkLeaf))) (fun x w => trystref10_Disk_Sync.l2 R x.1 x.2 w) (by rintro ⟨c0, s0⟩ w ⟨I, μ, h0, h1⟩; refine ⟨fun y w => y.1 = c0 ∧ I y.2 w, fun y w => μ y.2 w, ⟨rfl, h0⟩, ?_⟩; rintro ⟨d0, t0⟩ w ⟨e0, hI⟩; dsimp only at e0 hI; subst e0; exact h1 _ _ hI) (fun _ _ => by kernel_rfl)))) mkLeaf))) (mkSeq (mkCnd (mkSeq mkLeaf mkLeaf) mkLeaf) mkLeaf)) mkLeaf) (kcast (by kernel_rfl) h)

/-! trystkeep_TwinBools -/
def trystkeep_TwinBools.main (R : Value → World → Prop) (l0 : Sl) (w : World) : Prop :=
  ∃ (a_1 : Option Addr) (l_2 c_3 : Nat), ∃ w1 : World, (builtin .append #[46, 46] 46 #[] #[.slice none 0 0, .slice l0.a l0.len l0.cap]).run Try.prog w = .ok (.value (.slice a_1 l_2 c_3)) w1 ∧
  R (.slice a_1 l_2 c_3) w1

def trystkeep_TwinBools.J0 (_ : Value → World → Prop) (_ : Nat) (_ : Fr) (_ : World) : Prop := False

set_option maxRecDepth 100000 in
theorem trystkeep_TwinBools.lift {R : Value → World → Prop} {l0 : Sl} {w : World} (h : trystkeep_TwinBools.main R l0 w) : CallsV Try.prog n_trystkeep_TwinBools #[.slice l0.a l0.len l0.cap] w R :=
  liftCalls (c := (.seq (.leaf (cL (bd Try.f53))) (.seq (.leaf (cL (cR (bd Try.f53)))) (.seq (.leaf (cL (cR (cR (bd Try.f53))))) (.leaf (cR (cR (cR (bd Try.f53))))))))) (J := trystkeep_TwinBools.J0 R) LfYtnnpkjhpeefnbaa.mixed Try.func53 (by kernel_rfl) (by kernel_rfl) (mkSeq (mkSeq (mkSeq mkLeaf mkLeaf) mkLeaf) mkLeaf) (kcast (by kernel_rfl) h)

/-! trystref10_Disk_Crash -/
def trystref10_Disk_Crash.c1 (R : Value → World → Prop) (d0 : Option Addr) (w : World) : Prop :=
  ∃ q_1 : Addr, d0 = some q_1 ∧
  Wr w (q_1.add 2) ∧
  (let w1 := w.setCell (q_1.add 2) (.slice none 0 0);
  ∃ q_2 : Addr, d0 = some q_2 ∧
  Wr w1 (q_2.add 3) ∧
  (let w2 := w1.setCell (q_2.add 3) (.bool true);
  ∃ q_3 : Addr, d0 = some q_3 ∧
  Wr w2 (q_3.add 4) ∧
  (let w3 := w2.setCell (q_3.add 4) (.int .i64 0);
  ∃ q_4 : Addr, d0 = some q_4 ∧
  Wr w3 (q_4.add 5) ∧
  (let w4 := w3.setCell (q_4.add 5) (.slice none 0 0);
  R (.tuple #[]) w4))))

def trystref10_Disk_Crash.c3 (R : Value → World → Prop) (N2 : Option Addr → Sl → Int → Int → World → Prop) (d0 : Option Addr) (keep1 : Sl) (torn2 : Int) (k6 : Int) (w : World) : Prop :=
  ∃ S_5 : World → Prop, S_5 w.drew ∧
  ∃ q_6 : Addr, d0 = some q_6 ∧
  ∃ (a_7 : Option Addr) (l_8 c_9 : Nat), (∀ x, S_5 x → x.cell? q_6 = some (.slice a_7 l_8 c_9)) ∧
  ∃ q_10 : Addr, d0 = some q_10 ∧
  ∃ (a_11 : Option Addr) (l_12 c_13 : Nat), (∀ x, S_5 x → x.cell? (q_10.add 2) = some (.slice a_11 l_12 c_13)) ∧
  0 ≤ (k6 : Int) ∧ k6 < ((l_12 : Nat) : Int) ∧ ∃ q_14 : Addr, a_11 = some q_14 ∧
  ∃ x_15 : Int, (∀ x, S_5 x → x.cell? (q_14.add ((k6 : Int).toNat * 2)) = some (.int .i64 x_15)) ∧
  ∃ q_16 : Addr, d0 = some q_16 ∧
  ∃ (a_17 : Option Addr) (l_18 c_19 : Nat), (∀ x, S_5 x → x.cell? (q_16.add 1) = some (.slice a_17 l_18 c_19)) ∧
  ∃ q_20 : Addr, d0 = some q_20 ∧
  ∃ (a_21 : Option Addr) (l_22 c_23 : Nat), (∀ x, S_5 x → x.cell? (q_20.add 2) = some (.slice a_21 l_22 c_23)) ∧
  0 ≤ (k6 : Int) ∧ k6 < ((l_22 : Nat) : Int) ∧ ∃ q_24 : Addr, a_21 = some q_24 ∧
  ∃ x_25 : Int, (∀ x, S_5 x → x.cell? (q_24.add ((k6 : Int).toNat * 2)) = some (.int .i64 x_25)) ∧
  ∃ q_26 : Addr, d0 = some q_26 ∧
  ∃ (a_27 : Option Addr) (l_28 c_29 : Nat), (∀ x, S_5 x → x.cell? (q_26.add 2) = some (.slice a_27 l_28 c_29)) ∧
  0 ≤ (k6 : Int) ∧ k6 < ((l_28 : Nat) : Int) ∧ ∃ q_30 : Addr, a_27 = some q_30 ∧
  ∃ (a_31 : Option Addr) (l_32 c_33 : Nat), (∀ x, S_5 x → x.cell? ((q_30.add ((k6 : Int).toNat * 2)).add 1) = some (.slice a_31 l_32 c_33)) ∧
  0 ≤ (x_15 : Int) ∧ x_15 < ((l_8 : Nat) : Int) ∧ ∃ q_34 : Addr, a_7 = some q_34 ∧
  Wr w.drew (q_34.add (x_15 : Int).toNat) ∧
  (let w5 := w.drew.setCell (q_34.add (x_15 : Int).toNat) (.slice a_31 l_32 c_33);
  0 ≤ (x_25 : Int) ∧ x_25 < ((l_18 : Nat) : Int) ∧ ∃ q_35 : Addr, a_17 = some q_35 ∧
  Wr w5 (q_35.add (x_25 : Int).toNat) ∧
  (let w6 := w5.setCell (q_35.add (x_25 : Int).toNat) (.bool false);
  (let k6_35 : Int := (IntKind.i64.wrap (k6 + 1));
  N2 d0 keep1 torn2 k6_35 w6)))

def trystref10_Disk_Crash.b2 (R : Value → World → Prop) (N2 : Option Addr → Sl → Int → Int → World → Prop) (d0 : Option Addr) (keep1 : Sl) (torn2 : Int) (k6 : Int) (w : World) : Prop :=
  ∃ q_37 : Addr, d0 = some q_37 ∧
  ∃ (a_38 : Option Addr) (l_39 c_40 : Nat), w.cell? (q_37.add 2) = some (.slice a_38 l_39 c_40) ∧
  cond (decide ((k6 : Int) < ((l_39 : Nat) : Int)))
  (cond ((k6 : Int) == torn2)
  (∃ S_41 : World → Prop, S_41 w.drew ∧
  ∃ q_42 : Addr, d0 = some q_42 ∧
  ∃ (a_43 : Option Addr) (l_44 c_45 : Nat), (∀ x, S_41 x → x.cell? (q_42.add 1) = some (.slice a_43 l_44 c_45)) ∧
  ∃ q_46 : Addr, d0 = some q_46 ∧
  ∃ (a_47 : Option Addr) (l_48 c_49 : Nat), (∀ x, S_41 x → x.cell? (q_46.add 2) = some (.slice a_47 l_48 c_49)) ∧
  0 ≤ (k6 : Int) ∧ k6 < ((l_48 : Nat) : Int) ∧ ∃ q_50 : Addr, a_47 = some q_50 ∧
  ∃ x_51 : Int, (∀ x, S_41 x → x.cell? (q_50.add ((k6 : Int).toNat * 2)) = some (.int .i64 x_51)) ∧
  0 ≤ (x_51 : Int) ∧ x_51 < ((l_44 : Nat) : Int) ∧ ∃ q_52 : Addr, a_43 = some q_52 ∧
  Wr w.drew (q_52.add (x_51 : Int).toNat) ∧
  (let w7 := w.drew.setCell (q_52.add (x_51 : Int).toNat) (.bool true);
  (let k6_52 : Int := (IntKind.i64.wrap (k6 + 1));
  N2 d0 keep1 torn2 k6_52 w7)))
  (cond (decide ((k6 : Int) < ((keep1.len : Nat) : Int)))
  (0 ≤ (k6 : Int) ∧ k6 < ((keep1.len : Nat) : Int) ∧ ∃ q_54 : Addr, keep1.a = some q_54 ∧
  ∃ b_55 : Bool, w.cell? (q_54.add (k6 : Int).toNat) = some (.bool b_55) ∧
  cond b_55
  (trystref10_Disk_Crash.c3 R N2 d0 keep1 torn2 k6 w)
  ((let k6_55 : Int := (IntKind.i64.wrap (k6 + 1));
  N2 d0 keep1 torn2 k6_55 w)))
  ((let k6_56 : Int := (IntKind.i64.wrap (k6 + 1));
  N2 d0 keep1 torn2 k6_56 w))))
  (trystref10_Disk_Crash.c1 R d0 w)

def trystref10_Disk_Crash.l2 (R : Value → World → Prop) (d0 : Option Addr) (keep1 : Sl) (torn2 : Int) (k6 : Int) (w : World) : Prop :=
  ∃ (I : Int → World → Prop) (μ : Int → World → Nat), I k6 w ∧ ∀ s w, I s w → trystref10_Disk_Crash.b2 R (fun d0' keep1' torn2' k6' w' => (d0' = d0 ∧ keep1' = keep1 ∧ torn2' = torn2 ∧ I k6' w') ∧ μ k6' w' < μ s w) d0 keep1 torn2 s w

def trystref10_Disk_Crash.main (R : Value → World → Prop) (d0 : Option Addr) (keep1 : Sl) (torn2 : Int) (w : World) : Prop :=
  ∃ q_58 : Addr, d0 = some q_58 ∧
  ∃ b_59 : Bool, w.cell? (q_58.add 3) = some (.bool b_59) ∧
  cond b_59
  (R (.tuple #[]) w)
  (trystref10_Disk_Crash.l2 R d0 keep1 torn2 0 w)

def trystref10_Disk_Crash.J2 (R : Value → World → Prop) (N2 : Option Addr → Sl → Int → Int → World → Prop) (k : Nat) (fr : Fr) (w : World) : Prop :=
  cond (Nat.beq k 3) (dec [(0, .ptr), (1, .slice), (2, (.int .i64)), (6, (.int .i64))] fr fun x => trystref10_Disk_Crash.c3 R N2 x.1 x.2.1 x.2.2.1 x.2.2.2 w) (False)

def trystref10_Disk_Crash.J0 (R : Value → World → Prop) (k : Nat) (fr : Fr) (w : World) : Prop :=
  cond (Nat.beq k 2) (dec [(0, .ptr), (1, .slice), (2, (.int .i64)), (6, (.int .i64))] fr fun x => trystref10_Disk_Crash.l2 R x.1 x.2.1 x.2.2.1 x.2.2.2 w) (cond (Nat.beq k 1) (dec [(0, .ptr)] fr fun x => trystref10_Disk_Crash.c1 R x w) (False))

set_option maxRecDepth 100000 in
theorem trystref10_Disk_Crash.lift {R : Value → World → Prop} {d0 : Option Addr} {keep1 : Sl} {torn2 : Int} {w : World} (h : trystref10_Disk_Crash.main R d0 keep1 torn2 w) : CallsV Try.prog n_trystref10_Disk_Crash #[.pointer d0, .slice keep1.a keep1.len keep1.cap, .int .i64 torn2] w R :=
  liftCalls (c := (.seq (.seq (.leaf (cL (cL (bd Try.f54)))) (.cnd (.tmp 10) (.leaf (cT (cR (cL (bd Try.f54))))) (.leaf (cE (cR (cL (bd Try.f54))))))) (.seq (.seq (.leaf (cL (cL (cR (bd Try.f54))))) (.block 0 (.loop 2 (.seq (.seq (.leaf (cL (cL (cB (cB (cR (cL (cR (bd Try.f54))))))))) (.cnd (.tmp 17) (.leaf (cT (cR (cL (cB (cB (cR (cL (cR (bd Try.f54)))))))))) (.leaf (cE (cR (cL (cB (cB (cR (cL (cR (bd Try.f54)))))))))))) (.seq (.block 1 (.block 2 (.seq (.leaf (cL (cB (cB (cL (cR (cB (cB (cR (cL (cR (bd Try.f54)))))))))))) (.cnd (.tmp 20) (.leaf (cT (cR (cB (cB (cL (cR (cB (cB (cR (cL (cR (bd Try.f54))))))))))))) (.seq (.leaf (cL (cE (cR (cB (cB (cL (cR (cB (cB (cR (cL (cR (bd Try.f54)))))))))))))) (.cnd (.tmp 37) (.cut 3 (.leaf (cT (cR (cE (cR (cB (cB (cL (cR (cB (cB (cR (cL (cR (bd Try.f54)))))))))))))))) (.leaf (cE (cR (cE (cR (cB (cB (cL (cR (cB (cB (cR (cL (cR (bd Try.f54))))))))))))))))))))) (.leaf (cR (cR (cB (cB (cR (cL (cR (bd Try.f54)))))))))))))) (.cut 1 (.leaf (cR (cR (bd Try.f54)))))))) (J := trystref10_Disk_Crash.J0 R) LfYtnnpkjhpeefnbaa.mixed Try.func54 (by kernel_rfl) (by kernel_rfl) (mkSeq (mkSeq (mkCut (cutDef [(0, .ptr)] (fun x w => trystref10_Disk_Crash.c1 R x w) (fun _ _ => by kernel_rfl) (fun _ _ => by kernel_rfl)) mkLeaf) (mkSeq (mkBlock (mkLoop (loopDef LfYtnnpkjhpeefnbaa.mixed [(0, .ptr), (1, .slice), (2, (.int .i64)), (6, (.int .i64))] (by kernel_rfl) (fun M2 x w => trystref10_Disk_Crash.b2 R (fun y0 y1 y2 y3 w => M2 (y0, y1, y2, y3) w) x.1 x.2.1 x.2.2.1 x.2.2.2 w) (fun M2 => trystref10_Disk_Crash.J2 R (fun y0 y1 y2 y3 w => M2 (y0, y1, y2, y3) w)) (fun _ _ _ => by kernel_rfl) (fun M2 => (mkSeq (mkSeq mkLeaf (mkBlock (mkBlock (mkSeq (mkCnd mkLeaf (mkSeq (mkCnd (mkCut (cutDef [(0, .ptr), (1, .slice), (2, (.int .i64)), (6, (.int .i64))] (fun x w => trystref10_Disk_Crash.c3 R (fun y0 y1 y2 y3 w => M2 (y0, y1, y2, y3) w) x.1 x.2.1 x.2.2.1 x.2.2.2 w) (fun _ _ => by kernel_rfl) (fun _ _ => by kernel_rfl)) mkLeaf) mkLeaf) mkLeaf)) mkLeaf)))) (mkSeq (mkCnd mkLeaf mkLeaf) mkLeaf))) (fun x w => trystref10_Disk_Crash.l2 R x.1 x.2.1 x.2.2.1 x.2.2.2 w) (by rintro ⟨c0, c1, c2, s0⟩ w ⟨I, μ, h0, h1⟩; refine ⟨fun y w => y.1 = c0 ∧ y.2.1 = c1 ∧ y.2.2.1 = c2 ∧ I y.2.2.2 w, fun y w => μ y.2.2.2 w, ⟨rfl, rfl, rfl, h0⟩, ?_⟩; rintro ⟨d0, d1, d2, t0⟩ w ⟨e0, e1, e2, hI⟩; dsimp only at e0 e1 e2 hI; subst e0; subst e1; subst e2; exact h1 _ _ hI) (fun _ _ => by kernel_rfl)))) mkLeaf)) (mkSeq (mkCnd mkLeaf mkLeaf) mkLeaf)) (kcast (by kernel_rfl) h)

/-! trystkeep_Bools -/
def trystkeep_Bools.b1 (R : Value → World → Prop) (N1 : Sl → Sl → Int → World → Prop) (a0 : Sl) (b1 : Sl) (i5 : Int) (w : World) : Prop :=
  cond (decide ((i5 : Int) < ((a0.len : Nat) : Int)))
  (0 ≤ (i5 : Int) ∧ i5 < ((a0.len : Nat) : Int) ∧ ∃ q_1 : Addr, a0.a = some q_1 ∧
  ∃ b_2 : Bool, w.cell? (q_1.add (i5 : Int).toNat) = some (.bool b_2) ∧
  0 ≤ (i5 : Int) ∧ i5 < ((b1.len : Nat) : Int) ∧ ∃ q_3 : Addr, b1.a = some q_3 ∧
  ∃ b_4 : Bool, w.cell? (q_3.add (i5 : Int).toNat) = some (.bool b_4) ∧
  cond (!(b_2 == b_4))
  (R (.bool false) w.drew)
  ((let i5_4 : Int := (IntKind.i64.wrap (i5 + 1));
  N1 a0 b1 i5_4 w.drew)))
  (R (.bool true) w)

def trystkeep_Bools.l1 (R : Value → World → Prop) (a0 : Sl) (b1 : Sl) (i5 : Int) (w : World) : Prop :=
  ∃ (I : Int → World → Prop) (μ : Int → World → Nat), I i5 w ∧ ∀ s w, I s w → trystkeep_Bools.b1 R (fun a0' b1' i5' w' => (a0' = a0 ∧ b1' = b1 ∧ I i5' w') ∧ μ i5' w' < μ s w) a0 b1 s w

def trystkeep_Bools.main (R : Value → World → Prop) (a0 : Sl) (b1 : Sl) (w : World) : Prop :=
  cond ((((a0.len : Nat) : Int) : Int) != ((b1.len : Nat) : Int))
  (R (.bool false) w)
  (trystkeep_Bools.l1 R a0 b1 0 w)

def trystkeep_Bools.J0 (R : Value → World → Prop) (k : Nat) (fr : Fr) (w : World) : Prop :=
  cond (Nat.beq k 1) (dec [(0, .slice), (1, .slice), (5, (.int .i64))] fr fun x => trystkeep_Bools.l1 R x.1 x.2.1 x.2.2 w) (False)

set_option maxRecDepth 100000 in
theorem trystkeep_Bools.lift {R : Value → World → Prop} {a0 : Sl} {b1 : Sl} {w : World} (h : trystkeep_Bools.main R a0 b1 w) : CallsV Try.prog n_trystkeep_Bools #[.slice a0.a a0.len a0.cap, .slice b1.a b1.len b1.cap] w R :=
  liftCalls (c := (.seq (.leaf (cL (bd Try.f55))) (.seq (.seq (.leaf (cL (cL (cR (bd Try.f55))))) (.cnd (.tmp 10) (.seq (.leaf (cL (cT (cR (cL (cR (bd Try.f55))))))) (.leaf (cR (cT (cR (cL (cR (bd Try.f55)))))))) (.leaf (cE (cR (cL (cR (bd Try.f55)))))))) (.seq (.seq (.leaf (cL (cL (cR (cR (bd Try.f55)))))) (.block 0 (.loop 1 (.seq (.seq (.leaf (cL (cL (cB (cB (cR (cL (cR (cR (bd Try.f55)))))))))) (.cnd (.tmp 14) (.leaf (cT (cR (cL (cB (cB (cR (cL (cR (cR (bd Try.f55))))))))))) (.leaf (cE (cR (cL (cB (cB (cR (cL (cR (cR (bd Try.f55))))))))))))) (.seq (.block 1 (.seq (.leaf (cL (cB (cL (cR (cB (cB (cR (cL (cR (cR (bd Try.f55)))))))))))) (.cnd (.tmp 25) (.seq (.leaf (cL (cT (cR (cB (cL (cR (cB (cB (cR (cL (cR (cR (bd Try.f55)))))))))))))) (.leaf (cR (cT (cR (cB (cL (cR (cB (cB (cR (cL (cR (cR (bd Try.f55))))))))))))))) (.leaf (cE (cR (cB (cL (cR (cB (cB (cR (cL (cR (cR (bd Try.f55)))))))))))))))) (.leaf (cR (cR (cB (cB (cR (cL (cR (cR (bd Try.f55))))))))))))))) (.seq (.leaf (cL (cR (cR (cR (bd Try.f55)))))) (.leaf (cR (cR (cR (cR (bd Try.f55))))))))))) (J := trystkeep_Bools.J0 R) LfYtnnpkjhpeefnbaa.mixed Try.func55 (by kernel_rfl) (by kernel_rfl) (mkSeq (mkSeq (mkSeq (mkSeq mkLeaf mkLeaf) (mkSeq (mkBlock (mkLoop (loopDef LfYtnnpkjhpeefnbaa.mixed [(0, .slice), (1, .slice), (5, (.int .i64))] (by kernel_rfl) (fun M1 x w => trystkeep_Bools.b1 R (fun y0 y1 y2 w => M1 (y0, y1, y2) w) x.1 x.2.1 x.2.2 w) (fun M1 => fun _ _ _ => False) (fun _ _ _ => by kernel_rfl) (fun M1 => (mkSeq (mkSeq mkLeaf (mkBlock (mkSeq (mkCnd (mkSeq mkLeaf mkLeaf) mkLeaf) mkLeaf))) (mkSeq (mkCnd mkLeaf mkLeaf) mkLeaf))) (fun x w => trystkeep_Bools.l1 R x.1 x.2.1 x.2.2 w) (by rintro ⟨c0, c1, s0⟩ w ⟨I, μ, h0, h1⟩; refine ⟨fun y w => y.1 = c0 ∧ y.2.1 = c1 ∧ I y.2.2 w, fun y w => μ y.2.2 w, ⟨rfl, rfl, h0⟩, ?_⟩; rintro ⟨d0, d1, t0⟩ w ⟨e0, e1, hI⟩; dsimp only at e0 e1 hI; subst e0; subst e1; exact h1 _ _ hI) (fun _ _ => by kernel_rfl)))) mkLeaf)) (mkSeq (mkCnd (mkSeq mkLeaf mkLeaf) mkLeaf) mkLeaf)) mkLeaf) (kcast (by kernel_rfl) h)

/-! trystref10_Disk_Trip -/
def trystref10_Disk_Trip.main (R : Value → World → Prop) (d0 : Option Addr) (n1 : Int) (keep2 : Sl) (torn3 : Int) (w : World) : Prop :=
  CallsV Try.prog n_trystkeep_TwinBools #[.slice keep2.a keep2.len keep2.cap] w (fun v_1 w1 =>
  ∃ (a_2 : Option Addr) (l_3 c_4 : Nat), v_1 = .slice a_2 l_3 c_4 ∧
  ∃ q_5 : Addr, d0 = some q_5 ∧
  Wr w1 (q_5.add 4) ∧
  (let w2 := w1.setCell (q_5.add 4) (.int .i64 (if 0 > n1 then 0 else n1));
  ∃ q_6 : Addr, d0 = some q_6 ∧
  Wr w2 (q_6.add 5) ∧
  (let w3 := w2.setCell (q_6.add 5) (.slice a_2 l_3 c_4);
  ∃ q_7 : Addr, d0 = some q_7 ∧
  Wr w3 (q_7.add 6) ∧
  (let w4 := w3.setCell (q_7.add 6) (.int .i64 torn3);
  R (.tuple #[]) w4))))

def trystref10_Disk_Trip.J0 (_ : Value → World → Prop) (_ : Nat) (_ : Fr) (_ : World) : Prop := False

set_option maxRecDepth 100000 in
theorem trystref10_Disk_Trip.lift {R : Value → World → Prop} {d0 : Option Addr} {n1 : Int} {keep2 : Sl} {torn3 : Int} {w : World} (h : trystref10_Disk_Trip.main R d0 n1 keep2 torn3 w) : CallsV Try.prog n_trystref10_Disk_Trip #[.pointer d0, .int .i64 n1, .slice keep2.a keep2.len keep2.cap, .int .i64 torn3] w R :=
  liftCalls (c := (.leaf (bd Try.f56))) (J := trystref10_Disk_Trip.J0 R) LfYtnnpkjhpeefnbaa.mixed Try.func56 (by kernel_rfl) (by kernel_rfl) mkLeaf (kcast (by kernel_rfl) h)

/-! trystref10_Disk_Read -/
def trystref10_Disk_Read.c1 (R : Value → World → Prop) (d0 : Option Addr) (i1 : Int) (w : World) : Prop :=
  ∃ q_1 : Addr, d0 = some q_1 ∧
  ∃ (a_2 : Option Addr) (l_3 c_4 : Nat), w.cell? (q_1.add 1) = some (.slice a_2 l_3 c_4) ∧
  0 ≤ (i1 : Int) ∧ i1 < ((l_3 : Nat) : Int) ∧ ∃ q_5 : Addr, a_2 = some q_5 ∧
  ∃ b_6 : Bool, w.cell? (q_5.add (i1 : Int).toNat) = some (.bool b_6) ∧
  cond b_6
  (R (.tuple #[.slice none 0 0, .int .i64 10]) w)
  (∃ q_7 : Addr, d0 = some q_7 ∧
  ∃ (a_8 : Option Addr) (l_9 c_10 : Nat), w.cell? q_7 = some (.slice a_8 l_9 c_10) ∧
  0 ≤ (i1 : Int) ∧ i1 < ((l_9 : Nat) : Int) ∧ ∃ q_11 : Addr, a_8 = some q_11 ∧
  ∃ (a_12 : Option Addr) (l_13 c_14 : Nat), w.cell? (q_11.add (i1 : Int).toNat) = some (.slice a_12 l_13 c_14) ∧
  R (.tuple #[.slice a_12 l_13 c_14, .int .i64 0]) w)

def trystref10_Disk_Read.b2 (R : Value → World → Prop) (N2 : Option Addr → Int → Int → World → Prop) (d0 : Option Addr) (i1 : Int) (k6 : Int) (w : World) : Prop :=
  cond (decide ((k6 : Int) ≥ 0))
  (∃ q_15 : Addr, d0 = some q_15 ∧
  ∃ (a_16 : Option Addr) (l_17 c_18 : Nat), w.cell? (q_15.add 2) = some (.slice a_16 l_17 c_18) ∧
  0 ≤ (k6 : Int) ∧ k6 < ((l_17 : Nat) : Int) ∧ ∃ q_19 : Addr, a_16 = some q_19 ∧
  ∃ x_20 : Int, w.cell? (q_19.add ((k6 : Int).toNat * 2)) = some (.int .i64 x_20) ∧
  cond ((x_20 : Int) == i1)
  (∃ q_21 : Addr, d0 = some q_21 ∧
  ∃ (a_22 : Option Addr) (l_23 c_24 : Nat), w.cell? (q_21.add 2) = some (.slice a_22 l_23 c_24) ∧
  0 ≤ (k6 : Int) ∧ k6 < ((l_23 : Nat) : Int) ∧ ∃ q_25 : Addr, a_22 = some q_25 ∧
  ∃ (a_26 : Option Addr) (l_27 c_28 : Nat), w.cell? ((q_25.add ((k6 : Int).toNat * 2)).add 1) = some (.slice a_26 l_27 c_28) ∧
  R (.tuple #[.slice a_26 l_27 c_28, .int .i64 0]) w)
  ((let k6_28 : Int := (IntKind.i64.wrap (k6 - 1));
  N2 d0 i1 k6_28 w)))
  (trystref10_Disk_Read.c1 R d0 i1 w)

def trystref10_Disk_Read.l2 (R : Value → World → Prop) (d0 : Option Addr) (i1 : Int) (k6 : Int) (w : World) : Prop :=
  ∃ (I : Int → World → Prop) (μ : Int → World → Nat), I k6 w ∧ ∀ s w, I s w → trystref10_Disk_Read.b2 R (fun d0' i1' k6' w' => (d0' = d0 ∧ i1' = i1 ∧ I k6' w') ∧ μ k6' w' < μ s w) d0 i1 s w

def trystref10_Disk_Read.c3 (R : Value → World → Prop) (d0 : Option Addr) (i1 : Int) (w : World) : Prop :=
  ∃ q_30 : Addr, d0 = some q_30 ∧
  ∃ (a_31 : Option Addr) (l_32 c_33 : Nat), w.cell? (q_30.add 2) = some (.slice a_31 l_32 c_33) ∧
  (let k6_33 : Int := (IntKind.i64.wrap (((l_32 : Nat) : Int) - 1));
  trystref10_Disk_Read.l2 R d0 i1 k6_33 w)

def trystref10_Disk_Read.main (R : Value → World → Prop) (d0 : Option Addr) (i1 : Int) (w : World) : Prop :=
  ∃ q_35 : Addr, d0 = some q_35 ∧
  ∃ b_36 : Bool, w.cell? (q_35.add 3) = some (.bool b_36) ∧
  cond b_36
  (R (.tuple #[.slice none 0 0, .int .i64 9]) w)
  (cond (decide ((i1 : Int) < 0))
  (R (.tuple #[.slice none 0 0, .int .i64 1]) w)
  (∃ q_37 : Addr, d0 = some q_37 ∧
  ∃ (a_38 : Option Addr) (l_39 c_40 : Nat), w.cell? q_37 = some (.slice a_38 l_39 c_40) ∧
  cond (decide ((i1 : Int) ≥ ((l_39 : Nat) : Int)))
  (R (.tuple #[.slice none 0 0, .int .i64 1]) w)
  (trystref10_Disk_Read.c3 R d0 i1 w)))

def trystref10_Disk_Read.J0 (R : Value → World → Prop) (k : Nat) (fr : Fr) (w : World) : Prop :=
  cond (Nat.beq k 3) (dec [(0, .ptr), (1, (.int .i64))] fr fun x => trystref10_Disk_Read.c3 R x.1 x.2 w) (cond (Nat.beq k 2) (dec [(0, .ptr), (1, (.int .i64)), (6, (.int .i64))] fr fun x => trystref10_Disk_Read.l2 R x.1 x.2.1 x.2.2 w) (cond (Nat.beq k 1) (dec [(0, .ptr), (1, (.int .i64))] fr fun x => trystref10_Disk_Read.c1 R x.1 x.2 w) (False)))

set_option maxRecDepth 100000 in
theorem trystref10_Disk_Read.lift {R : Value → World → Prop} {d0 : Option Addr} {i1 : Int} {w : World} (h : trystref10_Disk_Read.main R d0 i1 w) : CallsV Try.prog n_trystref10_Disk_Read #[.pointer d0, .int .i64 i1] w R :=
  liftCalls (c := (.seq (.leaf (cL (bd Try.f57))) (.seq (.seq (.leaf (cL (cL (cR (bd Try.f57))))) (.cnd (.tmp 10) (.seq (.leaf (cL (cT (cR (cL (cR (bd Try.f57))))))) (.leaf (cR (cT (cR (cL (cR (bd Try.f57)))))))) (.leaf (cE (cR (cL (cR (bd Try.f57)))))))) (.seq (.seq (.leaf (cL (cL (cR (cR (bd Try.f57)))))) (.cnd (.tmp 21) (.seq (.leaf (cL (cT (cR (cL (cR (cR (bd Try.f57)))))))) (.leaf (cR (cT (cR (cL (cR (cR (bd Try.f57))))))))) (.leaf (cE (cR (cL (cR (cR (bd Try.f57))))))))) (.cut 3 (.seq (.seq (.leaf (cL (cL (cR (cR (cR (bd Try.f57))))))) (.block 0 (.loop 2 (.seq (.seq (.leaf (cL (cL (cB (cB (cR (cL (cR (cR (cR (bd Try.f57))))))))))) (.cnd (.tmp 29) (.leaf (cT (cR (cL (cB (cB (cR (cL (cR (cR (cR (bd Try.f57)))))))))))) (.leaf (cE (cR (cL (cB (cB (cR (cL (cR (cR (cR (bd Try.f57)))))))))))))) (.seq (.block 1 (.seq (.leaf (cL (cB (cL (cR (cB (cB (cR (cL (cR (cR (cR (bd Try.f57))))))))))))) (.cnd (.tmp 41) (.seq (.leaf (cL (cT (cR (cB (cL (cR (cB (cB (cR (cL (cR (cR (cR (bd Try.f57))))))))))))))) (.leaf (cR (cT (cR (cB (cL (cR (cB (cB (cR (cL (cR (cR (cR (bd Try.f57)))))))))))))))) (.leaf (cE (cR (cB (cL (cR (cB (cB (cR (cL (cR (cR (cR (bd Try.f57))))))))))))))))) (.leaf (cR (cR (cB (cB (cR (cL (cR (cR (cR (bd Try.f57)))))))))))))))) (.cut 1 (.seq (.seq (.leaf (cL (cL (cR (cR (cR (cR (bd Try.f57)))))))) (.cnd (.tmp 56) (.seq (.leaf (cL (cT (cR (cL (cR (cR (cR (cR (bd Try.f57)))))))))) (.leaf (cR (cT (cR (cL (cR (cR (cR (cR (bd Try.f57))))))))))) (.leaf (cE (cR (cL (cR (cR (cR (cR (bd Try.f57))))))))))) (.seq (.leaf (cL (cR (cR (cR (cR (cR (bd Try.f57)))))))) (.leaf (cR (cR (cR (cR (cR (cR (bd Try.f57))))))))))))))))) (J := trystref10_Disk_Read.J0 R) LfYtnnpkjhpeefnbaa.mixed Try.func57 (by kernel_rfl) (by kernel_rfl) (mkSeq (mkSeq (mkSeq (mkCut (cutDef [(0, .ptr), (1, (.int .i64))] (fun x w => trystref10_Disk_Read.c3 R x.1 x.2 w) (fun _ _ => by kernel_rfl) (fun _ _ => by kernel_rfl)) (mkSeq (mkCut (cutDef [(0, .ptr), (1, (.int .i64))] (fun x w => trystref10_Disk_Read.c1 R x.1 x.2 w) (fun _ _ => by kernel_rfl) (fun _ _ => by kernel_rfl)) (mkSeq (mkSeq mkLeaf mkLeaf) (mkSeq (mkCnd (mkSeq mkLeaf mkLeaf) mkLeaf) mkLeaf))) (mkSeq (mkBlock (mkLoop (loopDef LfYtnnpkjhpeefnbaa.mixed [(0, .ptr), (1, (.int .i64)), (6, (.int .i64))] (by kernel_rfl) (fun M2 x w => trystref10_Disk_Read.b2 R (fun y0 y1 y2 w => M2 (y0, y1, y2) w) x.1 x.2.1 x.2.2 w) (fun M2 => fun _ _ _ => False) (fun _ _ _ => by kernel_rfl) (fun M2 => (mkSeq (mkSeq mkLeaf (mkBlock (mkSeq (mkCnd (mkSeq mkLeaf mkLeaf) mkLeaf) mkLeaf))) (mkSeq (mkCnd mkLeaf mkLeaf) mkLeaf))) (fun x w => trystref10_Disk_Read.l2 R x.1 x.2.1 x.2.2 w) (by rintro ⟨c0, c1, s0⟩ w ⟨I, μ, h0, h1⟩; refine ⟨fun y w => y.1 = c0 ∧ y.2.1 = c1 ∧ I y.2.2 w, fun y w => μ y.2.2 w, ⟨rfl, rfl, h0⟩, ?_⟩; rintro ⟨d0, d1, t0⟩ w ⟨e0, e1, hI⟩; dsimp only at e0 e1 hI; subst e0; subst e1; exact h1 _ _ hI) (fun _ _ => by kernel_rfl)))) mkLeaf))) (mkSeq (mkCnd (mkSeq mkLeaf mkLeaf) mkLeaf) mkLeaf)) (mkSeq (mkCnd (mkSeq mkLeaf mkLeaf) mkLeaf) mkLeaf)) mkLeaf) (kcast (by kernel_rfl) h)

/-! trystkeep_SpoilBytes -/
def trystkeep_SpoilBytes.b1 (R : Value → World → Prop) (N1 : Sl → Int → World → Prop) (b0 : Sl) (i2 : Int) (w : World) : Prop :=
  cond (decide ((i2 : Int) < ((b0.len : Nat) : Int)))
  (0 ≤ (i2 : Int) ∧ i2 < ((b0.len : Nat) : Int) ∧ ∃ q_1 : Addr, b0.a = some q_1 ∧
  ∃ x_2 : Int, w.cell? (q_1.add (i2 : Int).toNat) = some (.int .u8 x_2) ∧
  0 ≤ (i2 : Int) ∧ i2 < ((b0.len : Nat) : Int) ∧ ∃ q_3 : Addr, b0.a = some q_3 ∧
  Wr w (q_3.add (i2 : Int).toNat) ∧
  (let w1 := w.setCell (q_3.add (i2 : Int).toNat) (.int .u8 (IntKind.u8.wrap (x_2 + 101)));
  (let i2_3 : Int := (IntKind.i64.wrap (i2 + 1));
  N1 b0 i2_3 w1)))
  (R (.tuple #[]) w)

def trystkeep_SpoilBytes.l1 (R : Value → World → Prop) (b0 : Sl) (i2 : Int) (w : World) : Prop :=
  ∃ (I : Int → World → Prop) (μ : Int → World → Nat), I i2 w ∧ ∀ s w, I s w → trystkeep_SpoilBytes.b1 R (fun b0' i2' w' => (b0' = b0 ∧ I i2' w') ∧ μ i2' w' < μ s w) b0 s w

def trystkeep_SpoilBytes.main (R : Value → World → Prop) (b0 : Sl) (w : World) : Prop :=
  trystkeep_SpoilBytes.l1 R b0 0 w

def trystkeep_SpoilBytes.J0 (R : Value → World → Prop) (k : Nat) (fr : Fr) (w : World) : Prop :=
  cond (Nat.beq k 1) (dec [(0, .slice), (2, (.int .i64))] fr fun x => trystkeep_SpoilBytes.l1 R x.1 x.2 w) (False)

set_option maxRecDepth 100000 in
theorem trystkeep_SpoilBytes.lift {R : Value → World → Prop} {b0 : Sl} {w : World} (h : trystkeep_SpoilBytes.main R b0 w) : CallsV Try.prog n_trystkeep_SpoilBytes #[.slice b0.a b0.len b0.cap] w R :=
  liftCalls (c := (.seq (.leaf (cL (bd Try.f58))) (.block 0 (.loop 1 (.seq (.seq (.leaf (cL (cL (cB (cB (cR (bd Try.f58))))))) (.cnd (.tmp 6) (.leaf (cT (cR (cL (cB (cB (cR (bd Try.f58)))))))) (.leaf (cE (cR (cL (cB (cB (cR (bd Try.f58)))))))))) (.seq (.block 1 (.leaf (cB (cL (cR (cB (cB (cR (bd Try.f58))))))))) (.leaf (cR (cR (cB (cB (cR (bd Try.f58))))))))))))) (J := trystkeep_SpoilBytes.J0 R) LfYtnnpkjhpeefnbaa.mixed Try.func58 (by kernel_rfl) (by kernel_rfl) (mkSeq (mkBlock (mkLoop (loopDef LfYtnnpkjhpeefnbaa.mixed [(0, .slice), (2, (.int .i64))] (by kernel_rfl) (fun M1 x w => trystkeep_SpoilBytes.b1 R (fun y0 y1 w => M1 (y0, y1) w) x.1 x.2 w) (fun M1 => fun _ _ _ => False) (fun _ _ _ => by kernel_rfl) (fun M1 => (mkSeq (mkSeq mkLeaf (mkBlock mkLeaf)) (mkSeq (mkCnd mkLeaf mkLeaf) mkLeaf))) (fun x w => trystkeep_SpoilBytes.l1 R x.1 x.2 w) (by rintro ⟨c0, s0⟩ w ⟨I, μ, h0, h1⟩; refine ⟨fun y w => y.1 = c0 ∧ I y.2 w, fun y w => μ y.2 w, ⟨rfl, h0⟩, ?_⟩; rintro ⟨d0, t0⟩ w ⟨e0, hI⟩; dsimp only at e0 hI; subst e0; exact h1 _ _ hI) (fun _ _ => by kernel_rfl)))) mkLeaf) (kcast (by kernel_rfl) h)

/-! trystkeep_Twin -/
def trystkeep_Twin.main (R : Value → World → Prop) (b0 : Sl) (w : World) : Prop :=
  ∃ (a_1 : Option Addr) (l_2 c_3 : Nat), ∃ w1 : World, (builtin .append #[52, 52] 52 #[] #[.slice none 0 0, .slice b0.a b0.len b0.cap]).run Try.prog w = .ok (.value (.slice a_1 l_2 c_3)) w1 ∧
  R (.slice a_1 l_2 c_3) w1

def trystkeep_Twin.J0 (_ : Value → World → Prop) (_ : Nat) (_ : Fr) (_ : World) : Prop := False

set_option maxRecDepth 100000 in
theorem trystkeep_Twin.lift {R : Value → World → Prop} {b0 : Sl} {w : World} (h : trystkeep_Twin.main R b0 w) : CallsV Try.prog n_trystkeep_Twin #[.slice b0.a b0.len b0.cap] w R :=
  liftCalls (c := (.seq (.leaf (cL (bd Try.f59))) (.seq (.leaf (cL (cR (bd Try.f59)))) (.seq (.leaf (cL (cR (cR (bd Try.f59))))) (.leaf (cR (cR (cR (bd Try.f59))))))))) (J := trystkeep_Twin.J0 R) LfYtnnpkjhpeefnbaa.mixed Try.func59 (by kernel_rfl) (by kernel_rfl) (mkSeq (mkSeq (mkSeq mkLeaf mkLeaf) mkLeaf) mkLeaf) (kcast (by kernel_rfl) h)

/-! trystref10_Disk_Write -/
def trystref10_Disk_Write.c1 (R : Value → World → Prop) (d0 : Option Addr) (i1 : Int) (b2 : Sl) (w : World) : Prop :=
  cond ((((b2.len : Nat) : Int) : Int) != 64)
  (R (.int .i64 2) w)
  (∃ S_1 : World → Prop, S_1 w.drew ∧
  ∃ q_2 : Addr, d0 = some q_2 ∧
  ∃ (a_3 : Option Addr) (l_4 c_5 : Nat), (∀ x, S_1 x → x.cell? (q_2.add 2) = some (.slice a_3 l_4 c_5)) ∧
  CallsV Try.prog n_trystkeep_Twin #[.slice b2.a b2.len b2.cap] w.drew (fun v_6 w1 =>
  ∃ (a_7 : Option Addr) (l_8 c_9 : Nat), v_6 = .slice a_7 l_8 c_9 ∧
  S_1 w1 ∧
  let w2 := w1.alloc (.cells #[.int .i64 i1, .slice a_7 l_8 c_9] 98);
  S_1 w2 ∧
  ∃ (a_10 : Option Addr) (l_11 c_12 : Nat), ∃ w3 : World, (builtin .append #[90, 90] 90 #[] #[.slice a_3 l_4 c_5, .slice (some (newA w1)) 1 1]).run Try.prog w2 = .ok (.value (.slice a_10 l_11 c_12)) w3 ∧
  ∃ q_13 : Addr, d0 = some q_13 ∧
  Wr w3 (q_13.add 2) ∧
  (let w4 := w3.setCell (q_13.add 2) (.slice a_10 l_11 c_12);
  CallsV Try.prog n_trystref10_Disk_trips #[.pointer d0] w4 (fun v_14 w5 =>
  ∃ b_15 : Bool, v_14 = .bool b_15 ∧
  cond b_15
  (R (.int .i64 9) w5)
  (R (.int .i64 0) w5)))))

def trystref10_Disk_Write.main (R : Value → World → Prop) (d0 : Option Addr) (i1 : Int) (b2 : Sl) (w : World) : Prop :=
  ∃ q_16 : Addr, d0 = some q_16 ∧
  ∃ b_17 : Bool, w.cell? (q_16.add 3) = some (.bool b_17) ∧
  cond b_17
  (R (.int .i64 9) w)
  (cond (decide ((i1 : Int) < 0))
  (R (.int .i64 1) w)
  (∃ q_18 : Addr, d0 = some q_18 ∧
  ∃ (a_19 : Option Addr) (l_20 c_21 : Nat), w.cell? q_18 = some (.slice a_19 l_20 c_21) ∧
  cond (decide ((i1 : Int) ≥ ((l_20 : Nat) : Int)))
  (R (.int .i64 1) w)
  (trystref10_Disk_Write.c1 R d0 i1 b2 w)))

def trystref10_Disk_Write.J0 (R : Value → World → Prop) (k : Nat) (fr : Fr) (w : World) : Prop :=
  cond (Nat.beq k 1) (dec [(0, .ptr), (1, (.int .i64)), (2, .slice)] fr fun x => trystref10_Disk_Write.c1 R x.1 x.2.1 x.2.2 w) (False)

set_option maxRecDepth 100000 in
theorem trystref10_Disk_Write.lift {R : Value → World → Prop} {d0 : Option Addr} {i1 : Int} {b2 : Sl} {w : World} (h : trystref10_Disk_Write.main R d0 i1 b2 w) : CallsV Try.prog n_trystref10_Disk_Write #[.pointer d0, .int .i64 i1, .slice b2.a b2.len b2.cap] w R :=
  liftCalls (c := (.seq (.leaf (cL (bd Try.f60))) (.seq (.seq (.leaf (cL (cL (cR (bd Try.f60))))) (.cnd (.tmp 10) (.seq (.leaf (cL (cT (cR (cL (cR (bd Try.f60))))))) (.leaf (cR (cT (cR (cL (cR (bd Try.f60)))))))) (.leaf (cE (cR (cL (cR (bd Try.f60)))))))) (.seq (.seq (.leaf (cL (cL (cR (cR (bd Try.f60)))))) (.cnd (.tmp 21) (.seq (.leaf (cL (cT (cR (cL (cR (cR (bd Try.f60)))))))) (.leaf (cR (cT (cR (cL (cR (cR (bd Try.f60))))))))) (.leaf (cE (cR (cL (cR (cR (bd Try.f60))))))))) (.cut 1 (.seq (.seq (.leaf (cL (cL (cR (cR (cR (bd Try.f60))))))) (.cnd (.tmp 24) (.seq (.leaf (cL (cT (cR (cL (cR (cR (cR (bd Try.f60))))))))) (.leaf (cR (cT (cR (cL (cR (cR (cR (bd Try.f60)))))))))) (.leaf (cE (cR (cL (cR (cR (cR (bd Try.f60)))))))))) (.seq (.leaf (cL (cR (cR (cR (cR (bd Try.f60))))))) (.seq (.seq (.leaf (cL (cL (cR (cR (cR (cR (cR (bd Try.f60))))))))) (.cnd (.tmp 39) (.seq (.leaf (cL (cT (cR (cL (cR (cR (cR (cR (cR (bd Try.f60))))))))))) (.leaf (cR (cT (cR (cL (cR (cR (cR (cR (cR (bd Try.f60)))))))))))) (.leaf (cE (cR (cL (cR (cR (cR (cR (cR (bd Try.f60)))))))))))) (.seq (.leaf (cL (cR (cR (cR (cR (cR (cR (bd Try.f60))))))))) (.leaf (cR (cR (cR (cR (cR (cR (cR (bd Try.f60)))))))))))))))))) (J := trystref10_Disk_Write.J0 R) LfYtnnpkjhpeefnbaa.mixed Try.func60 (by kernel_rfl) (by kernel_rfl) (mkSeq (mkSeq (mkSeq (mkCut (cutDef [(0, .ptr), (1, (.int .i64)), (2, .slice)] (fun x w => trystref10_Disk_Write.c1 R x.1 x.2.1 x.2.2 w) (fun _ _ => by kernel_rfl) (fun _ _ => by kernel_rfl)) (mkSeq (mkSeq (mkSeq (mkSeq mkLeaf mkLeaf) (mkSeq (mkCnd (mkSeq mkLeaf mkLeaf) mkLeaf) mkLeaf)) mkLeaf) (mkSeq (mkCnd (mkSeq mkLeaf mkLeaf) mkLeaf) mkLeaf))) (mkSeq (mkCnd (mkSeq mkLeaf mkLeaf) mkLeaf) mkLeaf)) (mkSeq (mkCnd (mkSeq mkLeaf mkLeaf) mkLeaf) mkLeaf)) mkLeaf) (kcast (by kernel_rfl) h)

/-! disk_Disk_Sectors -/
def disk_Disk_Sectors.main (R : Value → World → Prop) (d0 : Option Addr) (w : World) : Prop :=
  ∃ q_1 : Addr, d0 = some q_1 ∧
  ∃ (a_2 : Option Addr) (l_3 c_4 : Nat), w.cell? q_1 = some (.slice a_2 l_3 c_4) ∧
  R (.int .i64 ((l_3 : Nat) : Int)) w

def disk_Disk_Sectors.J0 (_ : Value → World → Prop) (_ : Nat) (_ : Fr) (_ : World) : Prop := False

set_option maxRecDepth 100000 in
theorem disk_Disk_Sectors.lift {R : Value → World → Prop} {d0 : Option Addr} {w : World} (h : disk_Disk_Sectors.main R d0 w) : CallsV Try.prog n_disk_Disk_Sectors #[.pointer d0] w R :=
  liftCalls (c := (.seq (.leaf (cL (bd Try.f61))) (.seq (.leaf (cL (cR (bd Try.f61)))) (.leaf (cR (cR (bd Try.f61))))))) (J := disk_Disk_Sectors.J0 R) LfYtnnpkjhpeefnbaa.mixed Try.func61 (by kernel_rfl) (by kernel_rfl) (mkSeq (mkSeq mkLeaf mkLeaf) mkLeaf) (kcast (by kernel_rfl) h)

/-! trystref10_Disk_trips -/
def trystref10_Disk_trips.main (R : Value → World → Prop) (d0 : Option Addr) (w : World) : Prop :=
  ∃ q_1 : Addr, d0 = some q_1 ∧
  ∃ x_2 : Int, w.cell? (q_1.add 4) = some (.int .i64 x_2) ∧
  cond (decide ((x_2 : Int) > 0))
  (∃ q_3 : Addr, d0 = some q_3 ∧
  ∃ x_4 : Int, w.cell? (q_3.add 4) = some (.int .i64 x_4) ∧
  ∃ q_5 : Addr, d0 = some q_5 ∧
  Wr w (q_5.add 4) ∧
  (let w1 := w.setCell (q_5.add 4) (.int .i64 (IntKind.i64.wrap (x_4 - 1)));
  ∃ q_6 : Addr, d0 = some q_6 ∧
  ∃ x_7 : Int, w1.cell? (q_6.add 4) = some (.int .i64 x_7) ∧
  cond ((x_7 : Int) == 0)
  (∃ S_8 : World → Prop, S_8 w1.drew ∧
  ∃ q_9 : Addr, d0 = some q_9 ∧
  ∃ (a_10 : Option Addr) (l_11 c_12 : Nat), (∀ x, S_8 x → x.cell? (q_9.add 5) = some (.slice a_10 l_11 c_12)) ∧
  ∃ q_13 : Addr, d0 = some q_13 ∧
  ∃ x_14 : Int, (∀ x, S_8 x → x.cell? (q_13.add 6) = some (.int .i64 x_14)) ∧
  CallsV Try.prog n_trystref10_Disk_Crash #[.pointer d0, .slice a_10 l_11 c_12, .int .i64 x_14] w1.drew (fun v_15 w2 =>
  v_15 = .tuple #[] ∧
  R (.bool true) w2))
  (R (.bool false) w1)))
  (R (.bool false) w)

def trystref10_Disk_trips.J0 (_ : Value → World → Prop) (_ : Nat) (_ : Fr) (_ : World) : Prop := False

set_option maxRecDepth 100000 in
theorem trystref10_Disk_trips.lift {R : Value → World → Prop} {d0 : Option Addr} {w : World} (h : trystref10_Disk_trips.main R d0 w) : CallsV Try.prog n_trystref10_Disk_trips #[.pointer d0] w R :=
  liftCalls (c := (.seq (.leaf (cL (bd Try.f63))) (.seq (.seq (.leaf (cL (cL (cR (bd Try.f63))))) (.cnd (.tmp 7) (.seq (.leaf (cL (cT (cR (cL (cR (bd Try.f63))))))) (.seq (.leaf (cL (cR (cT (cR (cL (cR (bd Try.f63)))))))) (.cnd (.tmp 19) (.seq (.leaf (cL (cT (cR (cR (cT (cR (cL (cR (bd Try.f63)))))))))) (.seq (.leaf (cL (cR (cT (cR (cR (cT (cR (cL (cR (bd Try.f63))))))))))) (.leaf (cR (cR (cT (cR (cR (cT (cR (cL (cR (bd Try.f63))))))))))))) (.leaf (cE (cR (cR (cT (cR (cL (cR (bd Try.f63)))))))))))) (.leaf (cE (cR (cL (cR (bd Try.f63)))))))) (.seq (.leaf (cL (cR (cR (bd Try.f63))))) (.leaf (cR (cR (cR (bd Try.f63))))))))) (J := trystref10_Disk_trips.J0 R) LfYtnnpkjhpeefnbaa.mixed Try.func63 (by kernel_rfl) (by kernel_rfl) (mkSeq (mkSeq (mkSeq mkLeaf mkLeaf) (mkSeq (mkCnd (mkSeq (mkSeq (mkCnd (mkSeq (mkSeq mkLeaf mkLeaf) mkLeaf) mkLeaf) mkLeaf) mkLeaf) mkLeaf) mkLeaf)) mkLeaf) (kcast (by kernel_rfl) h)

end Go.Proofs.Ytnnpkjhpeefnbaa
