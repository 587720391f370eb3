/-
  Bytes that come in.
-/
import Derived.Test.YtledhokhcoeeeaaDoorStE
set_option linter.unusedVariables false
set_option linter.unusedVariables false
set_option linter.unusedSimpArgs false
namespace Go.Proofs.YtledhokhcoeeeaaDoor
open Go.Lf Go.RowKit

def BytC (w : World) (cs : List Value) (xs : List Int) : Prop := ∃ s : Sl, cs = [.slice s.a s.len s.cap] ∧ s.len ≤ s.cap ∧ Ints .u8 w s xs
theorem BytC.stab : Stab BytC := fun _ _ _ _ hb ⟨s, hs, hc, h⟩ => ⟨s, hs, hc, h.keep hb⟩
set_option maxRecDepth 100000 in
theorem reads_byt : Reads Tryd.prog 30 BytC := by
  constructor
  intro H enc w base spare held fuel cs x h
  obtain ⟨xs, s, rfl, hI⟩ := (reads_ints Tryd.underlying30 Tryd.underlying5 (by kernel_rfl)).go h
  refine ⟨xs, s, rfl, ?_, hI⟩
  rcases Go.Deep.open_slice Tryd.underlying30 h with ⟨he, _⟩ | ⟨a, len, cap, m, f, D, Pl, he, _, hl, _⟩
  · simp only [List.cons.injEq, Value.slice.injEq, and_true] at he
    omega
  · simp only [List.cons.injEq, Value.slice.injEq, and_true] at he
    omega
abbrev Bss (w : World) (s : Sl) (l : List (List Int)) : Prop := Els 1 BytC w s l

set_option maxRecDepth 100000 in
theorem bytes_in {H : Type} {enc : TypeId × Value → H} {w : World} {base b0 : Nat} {r : Reach} {sp : Nat → Bool} {held : Bool} {v : Value} {d : DataW H} {ps : List MemPlace} (hv : Value.okWide Tryd.prog w r b0 30 v)
    (h : DataW.Trod enc Tryd.prog w base sp held 30 v d ps) : ∃ (s : Sl) (l : List Int), v = .slice s.a s.len s.cap ∧ (s.len ≤ s.cap ∧ Ints .u8 w s l) := by
  obtain ⟨a, len, cap, rfl⟩ := WideShapes.okWide_slice Tryd.underlying30 hv
  obtain ⟨l, s, e, hg⟩ := reads_byt.open h
  have e : [Value.slice a len cap] = [.slice s.a s.len s.cap] := e
  exact ⟨s, l, by simpa using e, hg⟩
set_option maxRecDepth 100000 in
theorem bytess_in {H : Type} {enc : TypeId × Value → H} {w : World} {base b0 : Nat} {r : Reach} {sp : Nat → Bool} {held : Bool} {v : Value} {d : DataW H} {ps : List MemPlace} (hv : Value.okWide Tryd.prog w r b0 22 v)
    (h : DataW.Trod enc Tryd.prog w base sp held 22 v d ps) : ∃ (s : Sl) (l : List (List Int)), v = .slice s.a s.len s.cap ∧ Bss w s l := by
  obtain ⟨a, len, cap, rfl⟩ := WideShapes.okWide_slice Tryd.underlying22 hv
  obtain ⟨l, s, e, hg⟩ := (reads_slice Tryd.underlying22 (n := 1) (by kernel_rfl) (by omega) reads_byt fun _ _ _ h => by obtain ⟨m, rfl, _⟩ := h; rfl).open h
  have e : [Value.slice a len cap] = [.slice s.a s.len s.cap] := e
  exact ⟨s, l, by simpa using e, hg⟩
theorem Bss.get {w : World} {s : Sl} {l : List (List Int)} (h : Bss w s l) {i : Nat} (hi : i < l.length) : ∃ (q : Addr) (t : Sl), s.a = some q ∧ w.cell? (q.add i) = some (.slice t.a t.len t.cap) ∧ t.len ≤ t.cap ∧ Ints .u8 w t l[i] := by
  obtain ⟨p, cs, hp, _, hc, t, rfl, ht, hI⟩ := h.el i _ (List.getElem?_eq_getElem hi)
  have := hc 0 _ rfl
  rw [Nat.add_zero, Nat.mul_one] at this
  exact ⟨p, t, hp, this, ht, hI⟩

end Go.Proofs.YtledhokhcoeeeaaDoor
