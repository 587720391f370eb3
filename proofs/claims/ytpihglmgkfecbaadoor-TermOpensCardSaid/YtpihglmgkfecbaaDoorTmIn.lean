/-
  Terms: how the steps come in.
-/
import Derived.Test.YtpihglmgkfecbaaDoorTmG
set_option linter.unusedVariables false
namespace Go.Proofs.YtpihglmgkfecbaaDoor
open Go.Lf Go.RowKit

set_option maxRecDepth 100000 in
theorem reads_stp : Reads Tryd.prog 31 StpC := by
  constructor
  intro H enc w base sp held fuel cs x h
  obtain ⟨hl, n, hf⟩ := struct_fields Tryd.underlying31 h
  have hl : cs.length = 4 := hl
  match cs, hl with
  | [c0, c1, c2, c3], _ =>
    simp only [List.mem_cons, List.not_mem_nil, or_false, forall_eq_or_imp, forall_eq] at hf
    obtain ⟨⟨y0, h0⟩, ⟨y1, h1⟩, ⟨y2, h2⟩, ⟨y3, h3⟩⟩ := hf
    obtain ⟨m0, e0, _⟩ := (reads_int Tryd.underlying3).go (cs := [c0]) h0
    obtain ⟨m1, e1, w1⟩ := (reads_int Tryd.underlying3).go (cs := [c1]) h1
    obtain ⟨m2, s2, e2, hI⟩ := (reads_ints Tryd.underlying29 Tryd.underlying3 (by kernel_rfl)).go (cs := [c2]) h2
    obtain ⟨m3, e3⟩ := (reads_bool Tryd.underlying4).go (cs := [c3]) h3
    have e3 : [c3] = [Value.bool m3] := e3
    simp only [List.cons.injEq, and_true] at e0 e1 e2 e3
    subst e0 e1 e2 e3
    exact ⟨⟨m0, m1, m2, m3⟩, s2, rfl, hI, wf_le w1⟩

theorem stps_in {H : Type} {enc : TypeId × Value → H} {w : World} {base b0 : Nat} {r : Reach} {sp : Nat → Bool} {held : Bool} {v : Value} {d : DataW H} {ps : List MemPlace} (hv : Value.okWide Tryd.prog w r b0 22 v)
    (h : DataW.Trod enc Tryd.prog w base sp held 22 v d ps) : ∃ (s : Sl) (l : List Stp), v = .slice s.a s.len s.cap ∧ Stps w s l := by
  obtain ⟨a, len, cap, rfl⟩ := WideShapes.okWide_slice Tryd.underlying22 hv
  obtain ⟨l, s, e, hg⟩ := (reads_slice Tryd.underlying22 (n := 4) (by kernel_rfl) (by omega) reads_stp fun _ _ _ h => h.len).open h
  have e : [Value.slice a len cap] = [.slice s.a s.len s.cap] := e
  exact ⟨s, l, by simpa using e, hg⟩

end Go.Proofs.YtpihglmgkfecbaaDoor
