/-
  DiskTrips: armed, just the n-th write or sync is where the power goes; all ahead of it have no error; it is armed once. Conditions: none beyond those of the given statement.
-/
import Derived.Test.YtnnpkjhpeefnbaaDiF
import Derived.Test.YtnnpkjhpeefnbaaDiIn
import Derived.Test.YtnnpkjhpeefnbaaRows
namespace Go.Proofs.Ytnnpkjhpeefnbaa
open Go.ChangeShapes Go.WideShapes Go.ChangeAt Go.RowKit Go.Lf
set_option linter.unusedVariables false

theorem diskTrips_own : ownKnob Try.prog.godebug = none := by kernel_rfl
theorem diskTrips_laidOut : laidOutB Try.prog = true := by kernel_rfl

set_option maxRecDepth 100000 in
theorem diskTrips_lifted (os : Os) (started : os.Started) (H : Type) (enc : TypeId × Value → H) :
    ReturnsInHanded {} Try.checked os 10 .any (Rows.diskTripsSpec.pre6 enc Try.prog Try.f10 Rows.diskTripsRow.domain false) (Rows.diskTripsSpec.post enc Try.prog Try.f10 false true false false) := by
  refine lawLifted (C := Try.checked) (tb := 4) (k := 4) diskTrips_own started (by kernel_rfl) Try.func10
    (ChangeSpec.witness6 (enc := enc) (C := Try.checked) false ⟨#[], #[.int .i64 0, .slice none 0 0, .slice none 0 0, .int .i64 0], []⟩ 8 (by kernel_rfl) (by kernel_rfl) (by kernel_rfl) (by kernel_rfl)) diskTrips_laidOut (by kernel_rfl) (by kernel_rfl) Try.underlying4 rfl (by kernel_rfl) ?_ ?_
  · intro ds hds
    match ds, hds with
    | [d0, d1, d2, d3], _ => rfl
  · intro W args ds p hA hval
    obtain ⟨base, hval⟩ := hval
    have hA : DataW.TrodAll enc Try.prog W 0 (fun _ => true) true Try.f10.params.toList args.toList ds p := hA
    rw [Try.params10] at hA
    have hval : ∀ (j : Nat) t v, Try.f10.params[j]? = some t → args[j]? = some v → Value.okWide Try.prog W .any base t v := hval
    rw [Try.params10] at hval
    obtain ⟨v0, vs0, d0, ds0, p0, q0, hargs, rfl, rfl, h0, r0⟩ := trodAll_cons hA
    obtain ⟨v1, vs1, d1, ds1, p1, q1, rfl, rfl, rfl, h1, r1⟩ := trodAll_cons r0
    obtain ⟨v2, vs2, d2, ds2, p2, q2, rfl, rfl, rfl, h2, r2⟩ := trodAll_cons r1
    obtain ⟨v3, vs3, d3, ds3, p3, q3, rfl, rfl, rfl, h3, r3⟩ := trodAll_cons r2
    obtain ⟨rfl, rfl, rfl⟩ := trodAll_nil r3
    obtain rfl : args = #[v0, v1, v2, v3] := by cases args; simp_all
    obtain ⟨a0, rfl, rfl, rfl, w0⟩ := open_int Try.underlying3 (hval 0 3 v0 rfl rfl) h0
    obtain ⟨s1, xs1, rfl, hI1⟩ := bools_in (hval 1 46 v1 rfl rfl) h1
    obtain ⟨s2, xs2, rfl, hI2⟩ := bools_in (hval 2 46 v2 rfl rfl) h2
    obtain ⟨a3, rfl, rfl, rfl, w3⟩ := open_int Try.underlying3 (hval 3 3 v3 rfl rfl) h3
    exact trips13_spec hI1 hI2 a0 a3 (wf_le w0)

theorem diskTrips_holds : Rows.DiskTripsSaid :=
  OpenClaim.holds_of_wide 10 Try.f10 rfl rfl rfl rfl rfl rfl rfl ⟨rfl, rfl, rfl, rfl, rfl⟩ rfl rfl rfl rfl rfl (by kernel_rfl) Try.func10 (by kernel_rfl)
    (of_decide_eq_true (by kernel_rfl)) (by unfold Func.isWrapper; first | (rw [if_pos (by decide +kernel)]; kernel_rfl) | (rw [if_neg (by decide +kernel)]; exact ⟨rfl, rfl⟩))
    (fun os started H enc _ => diskTrips_lifted os started H enc)
#print axioms diskTrips_holds
end Go.Proofs.Ytnnpkjhpeefnbaa
