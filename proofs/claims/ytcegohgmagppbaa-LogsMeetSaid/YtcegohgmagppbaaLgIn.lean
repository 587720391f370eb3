/-
  Logs, messages, pairs of numbers, as they come in.
-/
import Derived.Test.YtcegohgmagppbaaLgL
import Derived.Test.YtcegohgmagppbaaLwFns
set_option linter.unusedVariables false
set_option linter.unusedVariables false
set_option linter.unusedSimpArgs false
namespace Go.Proofs.Ytcegohgmagppbaa
open Go.ChangeShapes Go.WideShapes Go.ChangeAt Go.RowKit Go.Lf

theorem wf_rng {n : Int} (h : (Lit.int .i64 n).wf = true) : -9223372036854775808 ≤ n ∧ n ≤ 9223372036854775807 := by
  unfold Lit.wf at h
  simp only [Bool.and_eq_true, decide_eq_true_eq] at h
  exact ⟨h.1, h.2⟩

theorem reads_log : Reads Try.prog 45 LogC := by
  constructor
  intro H enc w base spare held fuel cs x h
  obtain ⟨hl, n, hf⟩ := struct_fields Try.underlying45 h
  have hl : cs.length = 3 := hl
  match cs, hl with
  | [a, b, c], _ =>
    obtain ⟨y0, h0⟩ := hf _ (List.mem_cons_self ..)
    obtain ⟨y1, h1⟩ := hf _ (List.mem_cons_of_mem _ (List.mem_cons_self ..))
    obtain ⟨y2, h2⟩ := hf _ (List.mem_cons_of_mem _ (List.mem_cons_of_mem _ (List.mem_cons_self ..)))
    obtain ⟨m0, e0, _⟩ := (reads_int Try.underlying3).go (cs := [a]) h0
    obtain ⟨m1, e1, _⟩ := (reads_int Try.underlying3).go (cs := [b]) h1
    obtain ⟨bs, s, e2, hI⟩ := (reads_ints Try.underlying23 Try.underlying3 (by kernel_rfl)).go (cs := [c]) h2
    simp only [List.cons.injEq, and_true] at e0 e1 e2
    subst e0 e1 e2
    exact ⟨⟨m0, m1, bs⟩, s, rfl, hI⟩

theorem logs_in {H : Type} {enc : TypeId × Value → H} {w : World} {base b0 : Nat} {r : Reach} {sp : Nat → Bool} {held : Bool} {v : Value} {d : DataW H} {ps : List MemPlace} (hv : Value.okWide Try.prog w r b0 24 v)
    (h : DataW.Trod enc Try.prog w base sp held 24 v d ps) : ∃ (s : Sl) (gs : List Log), v = .slice s.a s.len s.cap ∧ Logs w s gs := by
  obtain ⟨a, len, cap, rfl⟩ := WideShapes.okWide_slice Try.underlying24 hv
  obtain ⟨gs, s, e, hg⟩ := (reads_slice Try.underlying24 (n := 3) (by kernel_rfl) (by omega) reads_log fun _ _ _ h => h.len).open h
  have e : [Value.slice a len cap] = [.slice s.a s.len s.cap] := e
  exact ⟨s, gs, by simpa using e, hg⟩

structure M3 where
  a : Int
  b : Int
  c : Int
def Msg3C (_ : World) (cs : List Value) (x : M3) : Prop := cs = [.int .i64 x.a, .int .i64 x.b, .int .i64 x.c] ∧ -9223372036854775808 ≤ x.b ∧ x.b ≤ 9223372036854775807
theorem reads_msg : Reads Try.prog 32 Msg3C := by
  constructor
  intro H enc w base spare held fuel cs x h
  obtain ⟨hl, n, hf⟩ := struct_fields Try.underlying32 h
  have hl : cs.length = 3 := hl
  match cs, hl with
  | [a, b, c], _ =>
    obtain ⟨y0, h0⟩ := hf _ (List.mem_cons_self ..)
    obtain ⟨y1, h1⟩ := hf _ (List.mem_cons_of_mem _ (List.mem_cons_self ..))
    obtain ⟨y2, h2⟩ := hf _ (List.mem_cons_of_mem _ (List.mem_cons_of_mem _ (List.mem_cons_self ..)))
    obtain ⟨m0, e0, _⟩ := (reads_int Try.underlying3).go (cs := [a]) h0
    obtain ⟨m1, e1, w1⟩ := (reads_int Try.underlying3).go (cs := [b]) h1
    obtain ⟨m2, e2, _⟩ := (reads_int Try.underlying3).go (cs := [c]) h2
    simp only [List.cons.injEq, and_true] at e0 e1 e2
    subst e0 e1 e2
    exact ⟨⟨m0, m1, m2⟩, rfl, wf_rng w1⟩

theorem msg_in {H : Type} {enc : TypeId × Value → H} {w : World} {base b0 : Nat} {r : Reach} {sp : Nat → Bool} {held : Bool} {v : Value} {d : DataW H} {ps : List MemPlace} (hv : Value.okWide Try.prog w r b0 32 v)
    (h : DataW.Trod enc Try.prog w base sp held 32 v d ps) : ∃ x : M3, v = .agg #[.int .i64 x.a, .int .i64 x.b, .int .i64 x.c] ∧ -9223372036854775808 ≤ x.b ∧ x.b ≤ 9223372036854775807 := by
  obtain ⟨cs, rfl, hsz⟩ := WideShapes.okWide_struct Try.underlying32 hv
  obtain ⟨x, e, hg⟩ := reads_msg.open h
  refine ⟨x, ?_, hg⟩
  have e : cs.toList = [.int .i64 x.a, .int .i64 x.b, .int .i64 x.c] := e
  congr 1
  exact Array.toList_inj.1 e

def PairC (_ : World) (cs : List Value) (x : Int × Int) : Prop := cs = [.int .i64 x.1, .int .i64 x.2]
set_option maxRecDepth 100000 in
theorem reads_pair : Reads Try.prog 30 PairC := by
  constructor
  intro H enc w base sp held fuel cs x h
  obtain ⟨hl, m, hf⟩ := array_elems Try.underlying30 h
  have hl : cs.length = 2 := hl
  match cs, hl with
  | [c0, c1], _ =>
    obtain ⟨y0, h0⟩ := hf 0 (by omega)
    obtain ⟨y1, h1⟩ := hf 1 (by omega)
    obtain ⟨m0, e0, _⟩ := (reads_int Try.underlying3).go (cs := [c0]) h0
    obtain ⟨m1, e1, _⟩ := (reads_int Try.underlying3).go (cs := [c1]) h1
    simp only [List.cons.injEq, and_true] at e0 e1
    subst e0 e1
    exact ⟨(m0, m1), rfl⟩

theorem PairC.stab : Stab PairC := fun _ _ _ _ _ h => h

set_option maxRecDepth 100000 in
theorem pairs_in {H : Type} {enc : TypeId × Value → H} {w : World} {base b0 : Nat} {r : Reach} {sp : Nat → Bool} {held : Bool} {v : Value} {d : DataW H} {ps : List MemPlace} (hv : Value.okWide Try.prog w r b0 22 v)
    (h : DataW.Trod enc Try.prog w base sp held 22 v d ps) : ∃ (s : Sl) (xs : List (Int × Int)), v = .slice s.a s.len s.cap ∧ Els 2 PairC w s xs := by
  obtain ⟨a, len, cap, rfl⟩ := WideShapes.okWide_slice Try.underlying22 hv
  obtain ⟨l, s, e, hg⟩ := (reads_slice Try.underlying22 (n := 2) (by kernel_rfl) (by omega) reads_pair fun _ _ _ h => by rw [show _ = _ from h]; rfl).open h
  have e : [Value.slice a len cap] = [.slice s.a s.len s.cap] := e
  exact ⟨s, l, by simpa using e, hg⟩

end Go.Proofs.Ytcegohgmagppbaa
