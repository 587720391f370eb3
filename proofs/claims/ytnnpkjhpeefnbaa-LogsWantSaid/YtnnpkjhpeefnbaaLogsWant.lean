/-
  LogsWant: what is wanted is the next message of the first client of which there is more, and there is none just if there is none; told it, the other one wants the one behind it. Conditions: none beyond those of the given statement.
-/
import Derived.Test.YtnnpkjhpeefnbaaLogsWantP
import Derived.Test.YtnnpkjhpeefnbaaRows
namespace Go.Proofs.Ytnnpkjhpeefnbaa
open Go.ChangeShapes Go.WideShapes Go.ChangeAt Go.RowKit Go.Lf
set_option linter.unusedVariables false

/-- logs that came in -/
theorem reads_log : Reads Try.prog 32 LogC := by
  constructor
  intro H enc w base spare held fuel cs x h
  obtain ⟨hl, n, hf⟩ := struct_fields Try.underlying32 h
  have hl : cs.length = 3 := hl
  match cs, hl with
  | [a, b, c], _ =>
    obtain ⟨y0, h0⟩ := hf _ (List.mem_cons_self ..)
    obtain ⟨y1, h1⟩ := hf _ (List.mem_cons_of_mem _ (List.mem_cons_self ..))
    obtain ⟨y2, h2⟩ := hf _ (List.mem_cons_of_mem _ (List.mem_cons_of_mem _ (List.mem_cons_self ..)))
    obtain ⟨m0, e0, _⟩ := (reads_int Try.underlying3).go (cs := [a]) h0
    obtain ⟨m1, e1, _⟩ := (reads_int Try.underlying3).go (cs := [b]) h1
    obtain ⟨bs, s, e2, hI⟩ := (reads_ints Try.underlying23 Try.underlying3 (by kernel_rfl)).go (cs := [c]) h2
    simp only [List.cons.injEq, and_true] at e0 e1 e2
    subst e0 e1 e2
    exact ⟨⟨m0, m1, bs⟩, s, rfl, hI⟩

theorem logs_in {H : Type} {enc : TypeId × Value → H} {w : World} {base b0 : Nat} {r : Reach} {sp : Nat → Bool} {held : Bool} {v : Value} {d : DataW H} {ps : List MemPlace} (hv : Value.okWide Try.prog w r b0 22 v)
    (h : DataW.Trod enc Try.prog w base sp held 22 v d ps) : ∃ (s : Sl) (gs : List Log), v = .slice s.a s.len s.cap ∧ Logs w s gs := by
  obtain ⟨a, len, cap, rfl⟩ := WideShapes.okWide_slice Try.underlying22 hv
  obtain ⟨gs, s, e, hg⟩ := (reads_slice Try.underlying22 (n := 3) (by kernel_rfl) (by omega) reads_log fun _ _ _ h => h.len).open h
  have e : [Value.slice a len cap] = [.slice s.a s.len s.cap] := e
  exact ⟨s, gs, by simpa using e, hg⟩

theorem logsWant_own : ownKnob Try.prog.godebug = none := by kernel_rfl
theorem logsWant_laidOut : laidOutB Try.prog = true := by kernel_rfl

set_option maxRecDepth 100000 in
theorem logsWant_lifted (os : Os) (started : os.Started) (H : Type) (enc : TypeId × Value → H) :
    ReturnsInHanded {} Try.checked os 3 .any (Rows.logsWantSpec.pre6 enc Try.prog Try.f3 Rows.logsWantRow.domain false) (Rows.logsWantSpec.post enc Try.prog Try.f3 false true false false) := by
  refine lawLifted (C := Try.checked) (tb := 4) (k := 2) logsWant_own started (by kernel_rfl) Try.func3
    (ChangeSpec.witness6 (enc := enc) (C := Try.checked) false ⟨#[], #[.slice none 0 0, .slice none 0 0], []⟩ 8 (by kernel_rfl) (by kernel_rfl) (by kernel_rfl) (by kernel_rfl)) logsWant_laidOut (by kernel_rfl) (by kernel_rfl) Try.underlying4 rfl (by kernel_rfl) ?_ ?_
  · intro ds hds
    match ds, hds with
    | [d0, d1], _ => rfl
  · intro W args ds p hA hval
    obtain ⟨base, hval⟩ := hval
    have hA : DataW.TrodAll enc Try.prog W 0 (fun _ => true) true Try.f3.params.toList args.toList ds p := hA
    rw [Try.params3] at hA
    have hval : ∀ (j : Nat) t v, Try.f3.params[j]? = some t → args[j]? = some v → Value.okWide Try.prog W .any base t v := hval
    rw [Try.params3] at hval
    obtain ⟨v0, vs0, d0, ds0, p0, q0, hargs, rfl, rfl, h0, r0⟩ := trodAll_cons hA
    obtain ⟨v1, vs1, d1, ds1, p1, q1, rfl, rfl, rfl, h1, r1⟩ := trodAll_cons r0
    obtain ⟨rfl, rfl, rfl⟩ := trodAll_nil r1
    obtain rfl : args = #[v0, v1] := by cases args; simp_all
    obtain ⟨s0, xs0, rfl, hI0⟩ := logs_in (hval 0 22 v0 rfl rfl) h0
    obtain ⟨s1, xs1, rfl, hI1, hwf1⟩ := ints_of_trod Try.underlying23 Try.underlying3 (by kernel_rfl) (hval 1 23 v1 rfl rfl) h1
    exact logsWant_spec hI0 hI1

theorem logsWant_holds : Rows.LogsWantSaid :=
  OpenClaim.holds_of_wide 3 Try.f3 rfl rfl rfl rfl rfl rfl rfl ⟨rfl, rfl, rfl, rfl, rfl⟩ rfl rfl rfl rfl rfl (by kernel_rfl) Try.func3 (by kernel_rfl)
    (of_decide_eq_true (by kernel_rfl)) (by unfold Func.isWrapper; first | (rw [if_pos (by decide +kernel)]; kernel_rfl) | (rw [if_neg (by decide +kernel)]; exact ⟨rfl, rfl⟩))
    (fun os started H enc _ => logsWant_lifted os started H enc)
#print axioms logsWant_holds
end Go.Proofs.Ytnnpkjhpeefnbaa
