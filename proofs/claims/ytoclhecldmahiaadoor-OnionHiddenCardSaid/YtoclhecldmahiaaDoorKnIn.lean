/-
  Terms: how the steps come in.
-/
import Derived.Test.YtoclhecldmahiaaDoorTmA
import Derived.Test.YtoclhecldmahiaaDoorKnO
set_option linter.unusedVariables false
set_option linter.unusedVariables false
namespace Go.Proofs.YtoclhecldmahiaaDoor
open Go.Lf Go.RowKit

set_option maxRecDepth 100000 in
theorem reads_stp : Reads Tryd.prog 148 StpC := by
  constructor
  intro H enc w base sp held fuel cs x h
  obtain ⟨hl, n, hf⟩ := struct_fields Tryd.underlying148 h
  have hl : cs.length = 4 := hl
  match cs, hl with
  | [c0, c1, c2, c3], _ =>
    simp only [List.mem_cons, List.not_mem_nil, or_false, forall_eq_or_imp, forall_eq] at hf
    obtain ⟨⟨y0, h0⟩, ⟨y1, h1⟩, ⟨y2, h2⟩, ⟨y3, h3⟩⟩ := hf
    obtain ⟨m0, e0, _⟩ := (reads_int Tryd.underlying3).go (cs := [c0]) h0
    obtain ⟨m1, e1, w1⟩ := (reads_int Tryd.underlying3).go (cs := [c1]) h1
    obtain ⟨m2, s2, e2, hI⟩ := (reads_ints Tryd.underlying29 Tryd.underlying3 (by kernel_rfl)).go (cs := [c2]) h2
    obtain ⟨m3, e3⟩ := (reads_bool Tryd.underlying4).go (cs := [c3]) h3
    have e3 : [c3] = [Value.bool m3] := e3
    simp only [List.cons.injEq, and_true] at e0 e1 e2 e3
    subst e0 e1 e2 e3
    exact ⟨⟨m0, m1, m2, m3⟩, s2, rfl, hI, wf_le w1⟩

set_option maxRecDepth 100000 in
theorem stps_in {H : Type} {enc : TypeId × Value → H} {w : World} {base b0 : Nat} {r : Reach} {sp : Nat → Bool} {held : Bool} {v : Value} {d : DataW H} {ps : List MemPlace} (hv : Value.okWide Tryd.prog w r b0 22 v)
    (h : DataW.Trod enc Tryd.prog w base sp held 22 v d ps) : ∃ (s : Sl) (l : List Stp), v = .slice s.a s.len s.cap ∧ Stps w s l := by
  obtain ⟨a, len, cap, rfl⟩ := WideShapes.okWide_slice Tryd.underlying22 hv
  obtain ⟨l, s, e, hg⟩ := (reads_slice Tryd.underlying22 (n := 4) (by kernel_rfl) (by omega) reads_stp fun _ _ _ h => h.len).open h
  have e : [Value.slice a len cap] = [.slice s.a s.len s.cap] := e
  exact ⟨s, l, by simpa using e, hg⟩

end Go.Proofs.YtoclhecldmahiaaDoor

/-
  How numbers and truths come in.
-/
set_option linter.unusedVariables false
namespace Go.Proofs.YtoclhecldmahiaaDoor
open Go.Lf Go.RowKit

theorem wf_two {n : Int} (h : (Lit.int .i64 n).wf = true) : -9223372036854775808 ≤ n ∧ n ≤ 9223372036854775807 := by
  unfold Lit.wf at h
  simp only [Bool.and_eq_true, decide_eq_true_eq] at h
  have e1 : IntKind.i64.max = 9223372036854775807 := by decide
  have e2 : IntKind.i64.min = -9223372036854775808 := by decide
  omega

set_option maxRecDepth 100000 in
theorem intsw_in {H : Type} {enc : TypeId × Value → H} {w : World} {b0 : Nat} {r : Reach} {v : Value} {d : DataW H} {ps : List MemPlace} (hv : Value.okWide Tryd.prog w r b0 29 v)
    (h : DataW.Trod enc Tryd.prog w 0 (fun _ => true) true 29 v d ps) : ∃ (s : Sl) (xs : List Int), v = .slice s.a s.len s.cap ∧ IntsW w s xs := by
  obtain ⟨s, xs, rfl, hI, hwf⟩ := ints_of_trod Tryd.underlying29 Tryd.underlying3 (by kernel_rfl) hv h
  exact ⟨s, xs, rfl, hI, fun x hx => wf_two (hwf x hx)⟩

set_option maxRecDepth 100000 in
theorem bools_in {H : Type} {enc : TypeId × Value → H} {w : World} {base b0 : Nat} {r : Reach} {sp : Nat → Bool} {held : Bool} {v : Value} {d : DataW H} {ps : List MemPlace} (hv : Value.okWide Tryd.prog w r b0 96 v)
    (h : DataW.Trod enc Tryd.prog w base sp held 96 v d ps) : ∃ (s : Sl) (bs : List Bool), v = .slice s.a s.len s.cap ∧ Bools w s bs := by
  obtain ⟨a, len, cap, rfl⟩ := WideShapes.okWide_slice Tryd.underlying96 hv
  obtain ⟨bs, s, e, hg⟩ := (reads_slice Tryd.underlying96 (n := 1) (by kernel_rfl) (by omega) (reads_bool Tryd.underlying4) fun _ _ _ h => by rw [show _ = _ from h]; rfl).open h
  have e : [Value.slice a len cap] = [.slice s.a s.len s.cap] := e
  exact ⟨s, bs, by simpa using e, hg⟩

theorem secrets_in {W : World} (hT : PT W.heap.size W) {sw sk : Sl} {ws ks : List Int} (hw : IntsW W sw ws) (hk : IntsW W sk ks) (n : Int) (hn : n ≤ 9223372036854775807) :
    CallsV Tryd.prog n_trystlaw11_KnowSecrets #[.int .i64 n, .slice sw.a sw.len sw.cap, .slice sk.a sk.len sk.cap] W fun v w' => v = .bool true ∧ Below W.heap.size W w' := secrets_spec hT n hn hw hk

end Go.Proofs.YtoclhecldmahiaaDoor
