/-
  What is asked, and registers, over a pair of arenas: contracts.
-/
import Derived.Test.YtoclhecldmahiaaDoorMxG
import Derived.Test.YtoclhecldmahiaaDoorMxE0
import Derived.Test.YtoclhecldmahiaaDoorM2Fns
set_option linter.unusedVariables false
set_option linter.unusedVariables false
set_option linter.unusedSimpArgs false
namespace Go.Proofs.YtoclhecldmahiaaDoor
open Go.Lf Go.RowKit

/-! how they come in -/

structure AskI where
  kind : Int
  a : Int
  b : Int
  raw : Bool
def AskC (_ : World) (cs : List Value) (x : AskI) : Prop := cs = [.int .i64 x.kind, .int .i64 x.a, .int .i64 x.b, .bool x.raw] ∧ x.kind ≤ 9223372036854775807
abbrev Asks (w : World) (s : Sl) (l : List AskI) : Prop := Els 4 AskC w s l
theorem AskC.stab : Stab AskC := fun _ _ _ _ _ h => h
theorem AskC.len {w : World} {cs : List Value} {a : AskI} (h : AskC w cs a) : cs.length = 4 := by rw [h.1]; rfl
theorem Asks.get {w : World} {s : Sl} {l : List AskI} (h : Asks w s l) {i : Nat} (hi : i < l.length) : ∃ p, s.a = some p ∧ w.cell? (p.add (i * 4)) = some (.int .i64 l[i].kind) ∧ w.cell? ((p.add (i * 4)).add 1) = some (.int .i64 l[i].a) ∧ w.cell? ((p.add (i * 4)).add 2) = some (.int .i64 l[i].b) ∧ w.cell? ((p.add (i * 4)).add 3) = some (.bool l[i].raw) ∧ l[i].kind ≤ 9223372036854775807 := by
  obtain ⟨p, cs, hp, _, hc, he, hk⟩ := h.el i _ (List.getElem?_eq_getElem hi)
  subst he
  refine ⟨p, hp, ?_, ?_, ?_, ?_, hk⟩
  · have := hc 0 _ rfl; rwa [Nat.add_zero] at this
  · rw [add_add]; exact hc 1 _ rfl
  · rw [add_add]; exact hc 2 _ rfl
  · rw [add_add]; exact hc 3 _ rfl

set_option maxRecDepth 100000 in
theorem reads_ask : Reads Tryd.prog 68 AskC := by
  constructor
  intro H enc w base sp held fuel cs x h
  obtain ⟨hl, n, hf⟩ := struct_fields Tryd.underlying68 h
  have hl : cs.length = 4 := hl
  match cs, hl with
  | [c0, c1, c2, c3], _ =>
    simp only [List.mem_cons, List.not_mem_nil, or_false, forall_eq_or_imp, forall_eq] at hf
    obtain ⟨⟨y0, h0⟩, ⟨y1, h1⟩, ⟨y2, h2⟩, ⟨y3, h3⟩⟩ := hf
    obtain ⟨m0, e0, w0⟩ := (reads_int Tryd.underlying3).go (cs := [c0]) h0
    obtain ⟨m1, e1, w1⟩ := (reads_int Tryd.underlying3).go (cs := [c1]) h1
    obtain ⟨m2, e2, w2⟩ := (reads_int Tryd.underlying3).go (cs := [c2]) h2
    obtain ⟨m3, e3⟩ := (reads_bool Tryd.underlying4).go (cs := [c3]) h3
    have e3 : [c3] = [Value.bool m3] := e3
    simp only [List.cons.injEq, and_true] at e0 e1 e2 e3
    subst e0 e1 e2 e3
    exact ⟨⟨m0, m1, m2, m3⟩, rfl, (wf_two w0).2⟩

set_option maxRecDepth 100000 in
theorem asks_in {H : Type} {enc : TypeId × Value → H} {w : World} {base b0 : Nat} {r : Reach} {sp : Nat → Bool} {held : Bool} {v : Value} {d : DataW H} {ps : List MemPlace} (hv : Value.okWide Tryd.prog w r b0 65 v)
    (h : DataW.Trod enc Tryd.prog w base sp held 65 v d ps) : ∃ (s : Sl) (l : List AskI), v = .slice s.a s.len s.cap ∧ Asks w s l := by
  obtain ⟨a, len, cap, rfl⟩ := WideShapes.okWide_slice Tryd.underlying65 hv
  obtain ⟨l, s, e, hg⟩ := (reads_slice Tryd.underlying65 (n := 4) (by kernel_rfl) (by omega) reads_ask fun _ _ _ h => h.len).open h
  have e : [Value.slice a len cap] = [.slice s.a s.len s.cap] := e
  exact ⟨s, l, by simpa using e, hg⟩

/-! what is asked, on the page's arena -/

theorem Grown.up {T T' : List Tm} {i j : Nat} (h : Grown T T' i) (hij : i ≤ j) : Grown T T' j := ⟨h.ext, Nat.le_trans h.len (by omega), h.nb⟩

section
variable {W w w' : World} {L R : List Asn} {p pp a b : Addr} {A B T : List Tm} {n : Nat}

theorem At.less (k : Nat) {X : Asn} (hk : L[k]? = some X) (h : At W w L) : At W w (L.eraseIdx k) := ⟨h.s.less k hk, h.b, h.t⟩

/-! registers in the other arena -/

def RegRel (A B : List Tm) (ra rb : List Rg) : Prop := ra.length = rb.length ∧ ∀ (i : Nat) (x y : Rg), ra[i]? = some x → rb[i]? = some y → Rel A B x.1 y.1 ∧ Rel A B x.2 y.2
theorem RegRel.mono {A' : List Tm} (hA : Ext A A') {ra rb : List Rg} (h : RegRel A B ra rb) : RegRel A' B ra rb := ⟨h.1, fun i x y hx hy => ⟨(h.2 i x y hx hy).1.mono hA, (h.2 i x y hx hy).2.mono hA⟩⟩
theorem RegRel.ev {ra rb : List Rg} (h : RegRel A B ra rb) (hi : ∀ r ∈ rb, inT B r.1 ∧ inT B r.2) : RegEv A B ra rb :=
  ⟨h.1, fun i x y hx hy => ⟨(h.2 i x y hx hy).1.ev (hi y (List.mem_of_getElem? hy)).1, (h.2 i x y hx hy).2.ev (hi y (List.mem_of_getElem? hy)).2⟩⟩
theorem RegRel.inA {ra rb : List Rg} (h : RegRel A B ra rb) : (∀ r ∈ ra, inT A r.1 ∧ inT A r.2) ↔ ∀ r ∈ rb, inT B r.1 ∧ inT B r.2 := by
  have hl := h.1
  constructor
  · intro hh r hr
    obtain ⟨q, hq⟩ := List.getElem?_of_mem hr
    have := (List.getElem?_eq_some_iff.1 hq).1
    obtain ⟨e1, e2⟩ := h.2 q _ r (List.getElem?_eq_getElem (by omega)) hq
    have := hh _ (List.getElem_mem (by omega : q < ra.length))
    exact ⟨e1.inT.1 this.1, e2.inT.1 this.2⟩
  · intro hh r hr
    obtain ⟨q, hq⟩ := List.getElem?_of_mem hr
    have := (List.getElem?_eq_some_iff.1 hq).1
    obtain ⟨e1, e2⟩ := h.2 q r _ hq (List.getElem?_eq_getElem (by omega))
    have := hh _ (List.getElem_mem (by omega : q < rb.length))
    exact ⟨e1.inT.2 this.1, e2.inT.2 this.2⟩
theorem RelL.inA {la lb : List Int} (h : RelL A B la lb) : (∀ x ∈ la, inT A x) ↔ ∀ x ∈ lb, inT B x := by
  have hl := h.1
  constructor
  · intro hh r hr
    obtain ⟨q, hq⟩ := List.getElem?_of_mem hr
    have := (List.getElem?_eq_some_iff.1 hq).1
    exact (h.2 q _ r (List.getElem?_eq_getElem (by omega)) hq).inT.1 (hh _ (List.getElem_mem (by omega : q < la.length)))
  · intro hh r hr
    obtain ⟨q, hq⟩ := List.getElem?_of_mem hr
    have := (List.getElem?_eq_some_iff.1 hq).1
    exact (h.2 q r _ hq (List.getElem?_eq_getElem (by omega))).inT.2 (hh _ (List.getElem_mem (by omega : q < lb.length)))

end

end Go.Proofs.YtoclhecldmahiaaDoor
