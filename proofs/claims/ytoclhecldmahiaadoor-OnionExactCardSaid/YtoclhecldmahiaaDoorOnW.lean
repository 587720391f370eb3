/-
  One server's layer: the laws' own look.
-/
import Derived.Test.YtoclhecldmahiaaDoorOnA
import Derived.Test.YtoclhecldmahiaaDoorOlFns
set_option linter.unusedVariables false
set_option linter.unusedVariables false
set_option linter.unusedSimpArgs false
namespace Go.Proofs.YtoclhecldmahiaaDoor
open Go.Lf Go.RowKit

section
variable {W w : World} {L R : List Asn} {p : Addr} {T : List Tm}
theorem wakes23 (h : At W w R) : CallsV Tryd.prog n_trystlaw23_wakes #[] w fun v w' => v = .bool true ∧ At W w' R := by
  refine trystlaw23_wakes.lift ?_
  unfold trystlaw23_wakes.main
  refine (new_at h).mono ?_
  rintro _ w1 ⟨p, rfl, h1⟩
  refine ⟨_, rfl, cond_f' rfl ?_⟩
  refine (mk0 1 1 h1 (by omega)).mono ?_
  rintro _ w2 ⟨rfl, h2⟩
  have p2 : put [] ⟨1, 1, []⟩ = ([⟨1, 1, []⟩], 0, 0) := by decide
  rw [p2] at h2 ⊢
  refine ⟨_, _, rfl, ?_⟩
  intro w3
  refine (mk 5 0 [0] h2 (by omega) (by simp)).mono ?_
  rintro _ w4 ⟨rfl, h4⟩
  have p4 : put [⟨1, 1, []⟩] ⟨5, 0, [0]⟩ = ([⟨1, 1, []⟩, ⟨5, 0, [0]⟩], 1, 0) := by decide
  simp -zeta only [p4] at h4 ⊢
  refine ⟨_, _, rfl, (mk0 2 5 h4 (by omega)).mono ?_⟩
  rintro _ w5 ⟨rfl, h5⟩
  have p5 : put [⟨1, 1, []⟩, ⟨5, 0, [0]⟩] ⟨2, 5, []⟩ = ([⟨1, 1, []⟩, ⟨5, 0, [0]⟩, ⟨2, 5, []⟩], 2, 0) := by decide
  simp -zeta only [p5] at h5 ⊢
  refine ⟨_, _, rfl, ?_⟩
  intro w6
  have h6 : At W w6 (ownA ⟨some (newA w5), 3, 3⟩ [1, 1, 1] :: arT p [⟨1, 1, []⟩, ⟨5, 0, [0]⟩, ⟨2, 5, []⟩] :: R) := h5.row [1, 1, 1] (by simp)
  refine (wrap_at h6.swap (sp := ⟨some (newA w5), 3, 3⟩) (pubs := [1, 1, 1]) (by simp) 0 2 (by simp) (rowsI 0 rfl (by simp))).mono ?_
  rintro _ w7 ⟨s', rfl, h7⟩
  obtain ⟨WR, hWR⟩ : ∃ WR, WR = wrapR [⟨1, 1, []⟩, ⟨5, 0, [0]⟩, ⟨2, 5, []⟩] [1, 1, 1] 0 2 := ⟨_, rfl⟩
  have f0 : WR.2.2.2 = 0 := by rw [hWR]; decide +kernel
  have f1 : WR.2.2.1.length = 3 := by rw [hWR]; decide +kernel
  have f2 : (peelT WR.1 0 WR.2.1).2.2 = 0 := by rw [hWR]; decide +kernel
  have f3 : (peelT WR.1 0 WR.2.1).2.1 = WR.2.2.1[0]?.getD 0 := by rw [hWR]; decide +kernel
  have f4 : (peelT WR.1 0 WR.2.1).1 ≠ 2 := by rw [hWR]; decide +kernel
  rw [← hWR] at h7 ⊢
  refine ⟨_, _, _, _, _, rfl, (peel_at h7.swap 0 WR.2.1).mono ?_⟩
  rintro _ w8 ⟨rfl, h8⟩
  have h8 : At W w8 (arT p WR.1 :: ownA s' WR.2.2.1 :: ownA ⟨some (newA w5), 3, 3⟩ [1, 1, 1] :: R) := h8
  have hl := h8.numLen 1 rfl
  obtain ⟨q, hq, hc⟩ := h8.num 1 rfl (i := 0) (by omega)
  refine ⟨_, _, _, rfl, ?_⟩
  rw [f0, f2]
  refine cond_t rfl (cond_t rfl (cond_e (fun _ => ⟨by omega, by omega, q, hq, _, hc, ?_⟩) fun h => absurd (by rw [hl, f1]; rfl) h))
  refine cond_e (fun _ => ⟨?_, h8.drop.drop.drop⟩) fun h => absurd (by rw [f3, List.getElem?_eq_getElem (by omega)]; rfl) h
  have : ((peelT WR.1 0 WR.2.1).1 != (2 : Int)) = true := by simpa using f4
  exact congrArg Value.bool this
end

end Go.Proofs.YtoclhecldmahiaaDoor
