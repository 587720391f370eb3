/-
  DiskSafe: what was made safe, and not written since, is there behind any crash, and any number of crashes. Conditions: none beyond those of the given statement.
-/
import Derived.Test.YtnnpkjhpeefnbaaDiI
import Derived.Test.YtnnpkjhpeefnbaaDiIn
import Derived.Test.YtnnpkjhpeefnbaaRows
namespace Go.Proofs.Ytnnpkjhpeefnbaa
open Go.ChangeShapes Go.WideShapes Go.ChangeAt Go.RowKit Go.Lf
set_option linter.unusedVariables false

theorem diskSafe_own : ownKnob Try.prog.godebug = none := by kernel_rfl
theorem diskSafe_laidOut : laidOutB Try.prog = true := by kernel_rfl

set_option maxRecDepth 100000 in
theorem diskSafe_lifted (os : Os) (started : os.Started) (H : Type) (enc : TypeId × Value → H) :
    ReturnsInHanded {} Try.checked os 9 .any (Rows.diskSafeSpec.pre6 enc Try.prog Try.f9 Rows.diskSafeRow.domain false) (Rows.diskSafeSpec.post enc Try.prog Try.f9 false true false false) := by
  refine lawLifted (C := Try.checked) (tb := 4) (k := 2) diskSafe_own started (by kernel_rfl) Try.func9
    (ChangeSpec.witness6 (enc := enc) (C := Try.checked) false ⟨#[], #[.slice none 0 0, .slice none 0 0], []⟩ 8 (by kernel_rfl) (by kernel_rfl) (by kernel_rfl) (by kernel_rfl)) diskSafe_laidOut (by kernel_rfl) (by kernel_rfl) Try.underlying4 rfl (by kernel_rfl) ?_ ?_
  · intro ds hds
    match ds, hds with
    | [d0, d1], _ => rfl
  · intro W args ds p hA hval
    obtain ⟨base, hval⟩ := hval
    have hA : DataW.TrodAll enc Try.prog W 0 (fun _ => true) true Try.f9.params.toList args.toList ds p := hA
    rw [Try.params9] at hA
    have hval : ∀ (j : Nat) t v, Try.f9.params[j]? = some t → args[j]? = some v → Value.okWide Try.prog W .any base t v := hval
    rw [Try.params9] at hval
    obtain ⟨v0, vs0, d0, ds0, p0, q0, hargs, rfl, rfl, h0, r0⟩ := trodAll_cons hA
    obtain ⟨v1, vs1, d1, ds1, p1, q1, rfl, rfl, rfl, h1, r1⟩ := trodAll_cons r0
    obtain ⟨rfl, rfl, rfl⟩ := trodAll_nil r1
    obtain rfl : args = #[v0, v1] := by cases args; simp_all
    obtain ⟨s0, xs0, rfl, hI0⟩ := rows_in (hval 0 58 v0 rfl rfl) h0
    obtain ⟨s1, xs1, rfl, hI1⟩ := acts_in (hval 1 59 v1 rfl rfl) h1
    exact safe13_spec hI0 hI1

theorem diskSafe_holds : Rows.DiskSafeSaid :=
  OpenClaim.holds_of_wide 9 Try.f9 rfl rfl rfl rfl rfl rfl rfl ⟨rfl, rfl, rfl, rfl, rfl⟩ rfl rfl rfl rfl rfl (by kernel_rfl) Try.func9 (by kernel_rfl)
    (of_decide_eq_true (by kernel_rfl)) (by unfold Func.isWrapper; first | (rw [if_pos (by decide +kernel)]; kernel_rfl) | (rw [if_neg (by decide +kernel)]; exact ⟨rfl, rfl⟩))
    (fun os started H enc _ => diskSafe_lifted os started H enc)
#print axioms diskSafe_holds
end Go.Proofs.Ytnnpkjhpeefnbaa
