/-
  LogsMeet: Whoever is told what it wants, one by one, has in the end all that the other one has, and each once, in order, whatever it had, where nobody begins later than it has. Conditions: none beyond those of the given statement.
-/
import Derived.Test.YtcegohgmagppbaaLgS
import Derived.Test.YtcegohgmagppbaaLgIn
import Derived.Test.YtcegohgmagppbaaRows
set_option linter.unusedVariables false
namespace Go.Proofs.Ytcegohgmagppbaa
open Go.ChangeShapes Go.WideShapes Go.ChangeAt Go.RowKit Go.Lf
set_option linter.unusedVariables false

theorem logsMeet_own : ownKnob Try.prog.godebug = none := by kernel_rfl
theorem logsMeet_laidOut : laidOutB Try.prog = true := by kernel_rfl

set_option maxRecDepth 100000 in
theorem logsMeet_lifted (os : Os) (started : os.Started) (H : Type) (enc : TypeId × Value → H) :
    ReturnsInHanded {} Try.checked os 3 .any (Rows.logsMeetSpec.pre6 enc Try.prog Try.f3 Rows.logsMeetRow.domain false) (Rows.logsMeetSpec.post enc Try.prog Try.f3 false true false false) := by
  refine lawLifted (C := Try.checked) (tb := 4) (k := 3) logsMeet_own started (by kernel_rfl) Try.func3
    (ChangeSpec.witness6 (enc := enc) (C := Try.checked) false ⟨#[], #[.slice none 0 0, .slice none 0 0, .slice none 0 0], []⟩ 8 (by kernel_rfl) (by kernel_rfl) (by kernel_rfl) (by kernel_rfl)) logsMeet_laidOut (by kernel_rfl) (by kernel_rfl) Try.underlying4 rfl (by kernel_rfl) ?_ ?_
  · intro ds hds
    match ds, hds with
    | [d0, d1, d2], _ => rfl
  · intro W args ds p hA hval
    obtain ⟨base, hval⟩ := hval
    have hA : DataW.TrodAll enc Try.prog W 0 (fun _ => true) true Try.f3.params.toList args.toList ds p := hA
    rw [Try.params3] at hA
    have hval : ∀ (j : Nat) t v, Try.f3.params[j]? = some t → args[j]? = some v → Value.okWide Try.prog W .any base t v := hval
    rw [Try.params3] at hval
    obtain ⟨v0, vs0, d0, ds0, p0, q0, hargs, rfl, rfl, h0, r0⟩ := trodAll_cons hA
    obtain ⟨v1, vs1, d1, ds1, p1, q1, rfl, rfl, rfl, h1, r1⟩ := trodAll_cons r0
    obtain ⟨v2, vs2, d2, ds2, p2, q2, rfl, rfl, rfl, h2, r2⟩ := trodAll_cons r1
    obtain ⟨rfl, rfl, rfl⟩ := trodAll_nil r2
    obtain rfl : args = #[v0, v1, v2] := by cases args; simp_all
    obtain ⟨s0, xs0, rfl, hI0⟩ := pairs_in (hval 0 22 v0 rfl rfl) h0
    obtain ⟨s1, xs1, rfl, hI1, hwf1⟩ := ints_of_trod Try.underlying23 Try.underlying3 (by kernel_rfl) (hval 1 23 v1 rfl rfl) h1
    obtain ⟨s2, xs2, rfl, hI2, hwf2⟩ := ints_of_trod Try.underlying23 Try.underlying3 (by kernel_rfl) (hval 2 23 v2 rfl rfl) h2
    exact meet_spec hI0 hI1 hI2

theorem logsMeet_holds : Rows.LogsMeetSaid :=
  OpenClaim.holds_of_wide 3 Try.f3 rfl rfl rfl rfl rfl rfl rfl ⟨rfl, rfl, rfl, rfl, rfl⟩ rfl rfl rfl rfl rfl (by kernel_rfl) Try.func3 (by kernel_rfl)
    (of_decide_eq_true (by kernel_rfl)) (by unfold Func.isWrapper; first | (rw [if_pos (by decide +kernel)]; kernel_rfl) | (rw [if_neg (by decide +kernel)]; exact ⟨rfl, rfl⟩))
    (fun os started H enc _ => logsMeet_lifted os started H enc)
#print axioms logsMeet_holds
end Go.Proofs.Ytcegohgmagppbaa
