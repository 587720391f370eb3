/-
  What the code of these functions comes to, and that it suffices for the call. Written by a program of ours, for this claim.
-/
import Derived.Test.YtoclhecldmahiaaDoorMcFns
set_option linter.unusedVariables false
set_option linter.unusedVariables false
namespace Go.Proofs.YtoclhecldmahiaaDoor
open Go.Lf
abbrev n_trystkeep_Regs : Nat := 52
/-! trystkeep_Regs -/
def trystkeep_Regs.b1 (R : Value → World → Prop) (N1 : Sl → Sl → Int → World → Prop) (a0 : Sl) (b1 : Sl) (i5 : Int) (w : World) : Prop :=
  cond (decide ((i5 : Int) < ((a0.len : Nat) : Int)))
  (0 ≤ (i5 : Int) ∧ i5 < ((a0.len : Nat) : Int) ∧ ∃ q_1 : Addr, a0.a = some q_1 ∧
  ∃ x_2 : Int, w.cell? (q_1.add ((i5 : Int).toNat * 2)) = some (.int .i64 x_2) ∧
  0 ≤ (i5 : Int) ∧ i5 < ((b1.len : Nat) : Int) ∧ ∃ q_3 : Addr, b1.a = some q_3 ∧
  ∃ x_4 : Int, w.cell? (q_3.add ((i5 : Int).toNat * 2)) = some (.int .i64 x_4) ∧
  cond ((x_2 : Int) != x_4)
  (R (.bool false) w.drew)
  (0 ≤ (i5 : Int) ∧ i5 < ((a0.len : Nat) : Int) ∧ ∃ q_5 : Addr, a0.a = some q_5 ∧
  ∃ x_6 : Int, w.cell? ((q_5.add ((i5 : Int).toNat * 2)).add 1) = some (.int .i64 x_6) ∧
  0 ≤ (i5 : Int) ∧ i5 < ((b1.len : Nat) : Int) ∧ ∃ q_7 : Addr, b1.a = some q_7 ∧
  ∃ x_8 : Int, w.cell? ((q_7.add ((i5 : Int).toNat * 2)).add 1) = some (.int .i64 x_8) ∧
  cond ((x_6 : Int) != x_8)
  (R (.bool false) w.drew)
  ((let i5_8 : Int := (IntKind.i64.wrap (i5 + 1));
  N1 a0 b1 i5_8 w.drew))))
  (R (.bool true) w)

def trystkeep_Regs.l1 (R : Value → World → Prop) (a0 : Sl) (b1 : Sl) (i5 : Int) (w : World) : Prop :=
  ∃ (I : Int → World → Prop) (μ : Int → World → Nat), I i5 w ∧ ∀ s w, I s w → trystkeep_Regs.b1 R (fun a0' b1' i5' w' => (a0' = a0 ∧ b1' = b1 ∧ I i5' w') ∧ μ i5' w' < μ s w) a0 b1 s w

def trystkeep_Regs.main (R : Value → World → Prop) (a0 : Sl) (b1 : Sl) (w : World) : Prop :=
  cond ((((a0.len : Nat) : Int) : Int) != ((b1.len : Nat) : Int))
  (R (.bool false) w)
  (trystkeep_Regs.l1 R a0 b1 0 w)

def trystkeep_Regs.J0 (R : Value → World → Prop) (k : Nat) (fr : Fr) (w : World) : Prop :=
  cond (Nat.beq k 1) (dec [(0, .slice), (1, .slice), (5, (.int .i64))] fr fun x => trystkeep_Regs.l1 R x.1 x.2.1 x.2.2 w) (False)

set_option maxRecDepth 100000 in
theorem trystkeep_Regs.lift {R : Value → World → Prop} {a0 : Sl} {b1 : Sl} {w : World} (h : trystkeep_Regs.main R a0 b1 w) : CallsV Tryd.prog n_trystkeep_Regs #[.slice a0.a a0.len a0.cap, .slice b1.a b1.len b1.cap] w R :=
  liftCalls (c := (.seq (.leaf (cL (bd Tryd.f52))) (.seq (.seq (.leaf (cL (cL (cR (bd Tryd.f52))))) (.cnd (.tmp 10) (.seq (.leaf (cL (cT (cR (cL (cR (bd Tryd.f52))))))) (.leaf (cR (cT (cR (cL (cR (bd Tryd.f52)))))))) (.leaf (cE (cR (cL (cR (bd Tryd.f52)))))))) (.seq (.seq (.leaf (cL (cL (cR (cR (bd Tryd.f52)))))) (.block 0 (.loop 1 (.seq (.seq (.leaf (cL (cL (cB (cB (cR (cL (cR (cR (bd Tryd.f52)))))))))) (.cnd (.tmp 14) (.leaf (cT (cR (cL (cB (cB (cR (cL (cR (cR (bd Tryd.f52))))))))))) (.leaf (cE (cR (cL (cB (cB (cR (cL (cR (cR (bd Tryd.f52))))))))))))) (.seq (.block 1 (.seq (.leaf (cL (cB (cL (cR (cB (cB (cR (cL (cR (cR (bd Tryd.f52)))))))))))) (.cnd (.tmp 40) (.seq (.leaf (cL (cT (cR (cB (cL (cR (cB (cB (cR (cL (cR (cR (bd Tryd.f52)))))))))))))) (.leaf (cR (cT (cR (cB (cL (cR (cB (cB (cR (cL (cR (cR (bd Tryd.f52))))))))))))))) (.leaf (cE (cR (cB (cL (cR (cB (cB (cR (cL (cR (cR (bd Tryd.f52)))))))))))))))) (.leaf (cR (cR (cB (cB (cR (cL (cR (cR (bd Tryd.f52))))))))))))))) (.seq (.leaf (cL (cR (cR (cR (bd Tryd.f52)))))) (.leaf (cR (cR (cR (cR (bd Tryd.f52))))))))))) (J := trystkeep_Regs.J0 R) LfYtoclhecldmahiaaDoor.mixed Tryd.func52 (by kernel_rfl) (by kernel_rfl) (mkSeq (mkSeq (mkSeq (mkSeq mkLeaf mkLeaf) (mkSeq (mkBlock (mkLoop (loopDef LfYtoclhecldmahiaaDoor.mixed [(0, .slice), (1, .slice), (5, (.int .i64))] (by kernel_rfl) (fun M1 x w => trystkeep_Regs.b1 R (fun y0 y1 y2 w => M1 (y0, y1, y2) w) x.1 x.2.1 x.2.2 w) (fun M1 => fun _ _ _ => False) (fun _ _ _ => by kernel_rfl) (fun M1 => (mkSeq (mkSeq mkLeaf (mkBlock (mkSeq (mkCnd (mkSeq mkLeaf mkLeaf) mkLeaf) mkLeaf))) (mkSeq (mkCnd mkLeaf mkLeaf) mkLeaf))) (fun x w => trystkeep_Regs.l1 R x.1 x.2.1 x.2.2 w) (by rintro ⟨c0, c1, s0⟩ w ⟨I, μ, h0, h1⟩; refine ⟨fun y w => y.1 = c0 ∧ y.2.1 = c1 ∧ I y.2.2 w, fun y w => μ y.2.2 w, ⟨rfl, rfl, h0⟩, ?_⟩; rintro ⟨d0, d1, t0⟩ w ⟨e0, e1, hI⟩; dsimp only at e0 e1 hI; subst e0; subst e1; exact h1 _ _ hI) (fun _ _ => by kernel_rfl)))) mkLeaf)) (mkSeq (mkCnd (mkSeq mkLeaf mkLeaf) mkLeaf) mkLeaf)) mkLeaf) (kcast (by kernel_rfl) h)

end Go.Proofs.YtoclhecldmahiaaDoor
