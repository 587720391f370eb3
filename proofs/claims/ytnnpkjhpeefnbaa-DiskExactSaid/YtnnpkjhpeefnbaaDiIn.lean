/-
  Disk: how the arguments come in.
-/
import Derived.Test.YtnnpkjhpeefnbaaDiE
set_option linter.unusedVariables false
namespace Go.Proofs.Ytnnpkjhpeefnbaa
open Go.Lf Go.RowKit

theorem bools_in {H : Type} {enc : TypeId × Value → H} {w : World} {base b0 : Nat} {r : Reach} {sp : Nat → Bool} {held : Bool} {v : Value} {d : DataW H} {ps : List MemPlace} (hv : Value.okWide Try.prog w r b0 46 v)
    (h : DataW.Trod enc Try.prog w base sp held 46 v d ps) : ∃ (s : Sl) (bs : List Bool), v = .slice s.a s.len s.cap ∧ Els 1 BoolC w s bs := by
  obtain ⟨a, len, cap, rfl⟩ := WideShapes.okWide_slice Try.underlying46 hv
  obtain ⟨bs, s, e, hg⟩ := (reads_slice Try.underlying46 (n := 1) (by kernel_rfl) (by omega) (reads_bool Try.underlying4) fun _ _ _ h => by rw [show _ = _ from h]; rfl).open h
  have e : [Value.slice a len cap] = [.slice s.a s.len s.cap] := e
  exact ⟨s, bs, by simpa using e, hg⟩

theorem wf_le {n : Int} (h : (Lit.int .i64 n).wf = true) : n ≤ 9223372036854775807 := by
  unfold Lit.wf at h
  simp only [Bool.and_eq_true, decide_eq_true_eq] at h
  have e : IntKind.i64.max = 9223372036854775807 := by decide
  omega

end Go.Proofs.Ytnnpkjhpeefnbaa
