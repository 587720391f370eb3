/-
  LogsBegin: Logs that begin somewhere have just that; the next message is put, none ahead of it, none beyond; they want nothing of one another. Conditions: none beyond those of the given statement.
-/
import Derived.Test.YtcegohgmagppbaaLgQ
import Derived.Test.YtcegohgmagppbaaLgIn
import Derived.Test.YtcegohgmagppbaaRows
set_option linter.unusedVariables false
namespace Go.Proofs.Ytcegohgmagppbaa
open Go.ChangeShapes Go.WideShapes Go.ChangeAt Go.RowKit Go.Lf
set_option linter.unusedVariables false

theorem logsBegin_own : ownKnob Try.prog.godebug = none := by kernel_rfl
theorem logsBegin_laidOut : laidOutB Try.prog = true := by kernel_rfl

set_option maxRecDepth 100000 in
theorem logsBegin_lifted (os : Os) (started : os.Started) (H : Type) (enc : TypeId × Value → H) :
    ReturnsInHanded {} Try.checked os 6 .any (Rows.logsBeginSpec.pre6 enc Try.prog Try.f6 Rows.logsBeginRow.domain false) (Rows.logsBeginSpec.post enc Try.prog Try.f6 false true false false) := by
  refine lawLifted (C := Try.checked) (tb := 4) (k := 3) logsBegin_own started (by kernel_rfl) Try.func6
    (ChangeSpec.witness6 (enc := enc) (C := Try.checked) false ⟨#[], #[.slice none 0 0, .int .i64 0, .int .i64 0], []⟩ 8 (by kernel_rfl) (by kernel_rfl) (by kernel_rfl) (by kernel_rfl)) logsBegin_laidOut (by kernel_rfl) (by kernel_rfl) Try.underlying4 rfl (by kernel_rfl) ?_ ?_
  · intro ds hds
    match ds, hds with
    | [d0, d1, d2], _ => rfl
  · intro W args ds p hA hval
    obtain ⟨base, hval⟩ := hval
    have hA : DataW.TrodAll enc Try.prog W 0 (fun _ => true) true Try.f6.params.toList args.toList ds p := hA
    rw [Try.params6] at hA
    have hval : ∀ (j : Nat) t v, Try.f6.params[j]? = some t → args[j]? = some v → Value.okWide Try.prog W .any base t v := hval
    rw [Try.params6] at hval
    obtain ⟨v0, vs0, d0, ds0, p0, q0, hargs, rfl, rfl, h0, r0⟩ := trodAll_cons hA
    obtain ⟨v1, vs1, d1, ds1, p1, q1, rfl, rfl, rfl, h1, r1⟩ := trodAll_cons r0
    obtain ⟨v2, vs2, d2, ds2, p2, q2, rfl, rfl, rfl, h2, r2⟩ := trodAll_cons r1
    obtain ⟨rfl, rfl, rfl⟩ := trodAll_nil r2
    obtain rfl : args = #[v0, v1, v2] := by cases args; simp_all
    obtain ⟨s0, xs0, rfl, hI0, hwf0⟩ := ints_of_trod Try.underlying23 Try.underlying3 (by kernel_rfl) (hval 0 23 v0 rfl rfl) h0
    obtain ⟨a1, rfl, rfl, rfl, w1⟩ := open_int Try.underlying3 (hval 1 3 v1 rfl rfl) h1
    obtain ⟨a2, rfl, rfl, rfl, w2⟩ := open_int Try.underlying3 (hval 2 3 v2 rfl rfl) h2
    exact begin_spec hI0 a1 a2

theorem logsBegin_holds : Rows.LogsBeginSaid :=
  OpenClaim.holds_of_wide 6 Try.f6 rfl rfl rfl rfl rfl rfl rfl ⟨rfl, rfl, rfl, rfl, rfl⟩ rfl rfl rfl rfl rfl (by kernel_rfl) Try.func6 (by kernel_rfl)
    (of_decide_eq_true (by kernel_rfl)) (by unfold Func.isWrapper; first | (rw [if_pos (by decide +kernel)]; kernel_rfl) | (rw [if_neg (by decide +kernel)]; exact ⟨rfl, rfl⟩))
    (fun os started H enc _ => logsBegin_lifted os started H enc)
#print axioms logsBegin_holds
end Go.Proofs.Ytcegohgmagppbaa
