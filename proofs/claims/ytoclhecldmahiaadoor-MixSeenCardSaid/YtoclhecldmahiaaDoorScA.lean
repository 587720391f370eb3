/-
  A pair of arenas: where the page's terms are; contracts. The page's makes.
-/
import Derived.Test.YtoclhecldmahiaaDoorAtA
import Derived.Test.YtoclhecldmahiaaDoorLiftB
set_option linter.unusedVariables false
set_option linter.unusedVariables false
set_option linter.unusedSimpArgs false
namespace Go.Proofs.YtoclhecldmahiaaDoor
open Go.Lf Go.RowKit

section
variable {W w : World} {L R : List Asn} {p : Addr} {T : List Tm}

/-! the page's -/

/-! a pair -/

def prL (pp a b : Addr) (m : Sl) (M : List Nat) : List Asn := [boxA pp [.pointer (some a), .pointer (some b), .slice m.a m.len m.cap], ownA m (toI M)]
def prA (pp a b : Addr) (M : List Nat) : Asn := exA (fun _ : Sl => True) fun m => prL pp a b m M
theorem Sep.prOut {B : Nat} {pp a b : Addr} {M : List Nat} (h : Sep B w (prA pp a b M :: R)) : ∃ m : Sl, Sep B w (prL pp a b m M ++ R) := by
  obtain ⟨m, _, hs⟩ := h.unfold
  exact ⟨m, hs⟩
/-- the pair's own cells -/
theorem prCells {B : Nat} {pp a b : Addr} {M : List Nat} (h : Sep B w (prA pp a b M :: R)) : w.cell? pp = some (.pointer (some a)) ∧ w.cell? (pp.add 1) = some (.pointer (some b)) := by
  obtain ⟨m, hs⟩ := Sep.prOut h
  exact ⟨Sep.cell0 (l := prL pp a b m M ++ R) 0 rfl hs rfl, Sep.cell (l := prL pp a b m M ++ R) 0 rfl hs 1 rfl⟩

end

end Go.Proofs.YtoclhecldmahiaaDoor

/-
  A pair of arenas: where any of the page's terms is: contract.
-/
set_option linter.unusedVariables false
set_option linter.unusedSimpArgs false
namespace Go.Proofs.YtoclhecldmahiaaDoor
open Go.Lf Go.RowKit

/-- what asking a pair may change -/
structure PairTo (A B : List Tm) (M : List Nat) (A' : List Tm) (M' : List Nat) : Prop where
  ok : PairOk A' B M'
  ext : Ext A A'
  few : A'.length + (B.length - M'.length) ≤ A.length + (B.length - M.length)
  same : Ext B A → A' = A
  more : M.length ≤ M'.length

theorem PairTo.refl {A B : List Tm} {M : List Nat} (h : PairOk A B M) : PairTo A B M A M := ⟨h, Ext.refl _, Nat.le_refl _, fun _ => rfl, Nat.le_refl _⟩
theorem PairTo.trans {A B A' A'' : List Tm} {M M' M'' : List Nat} (h : PairTo A B M A' M') (k : PairTo A' B M' A'' M'') : PairTo A B M A'' M'' :=
  ⟨k.ok, h.ext.trans k.ext, Nat.le_trans k.few h.few, fun hs => by rw [k.same (by rw [h.same hs]; exact hs), h.same hs], Nat.le_trans h.more k.more⟩

section
variable {W w : World} {R : List Asn} {pp a b : Addr} {A B : List Tm} {M : List Nat}

/-- numbers that a machine's word holds -/
def Nb (T : List Tm) : Prop := ∀ t ∈ T, t.n ≤ 9223372036854775807
theorem Nb.put {T : List Tm} (h : Nb T) {t : Tm} (ht : t.n ≤ 9223372036854775807) : Nb (put T t).1 := fun u hu => by
  rcases put_mem hu with hu | rfl
  · exact h u hu
  · exact ht

/-- many of them -/
def RelL (A B : List Tm) (ks xs : List Int) : Prop := ks.length = xs.length ∧ ∀ (q : Nat) (k x : Int), ks[q]? = some k → xs[q]? = some x → Rel A B k x

theorem RelL.mono {A B A' : List Tm} (hA : Ext A A') {ks xs : List Int} (h : RelL A B ks xs) : RelL A' B ks xs := ⟨h.1, fun q k x hk hx => (h.2 q k x hk hx).mono hA⟩
theorem RelL.same {A B : List Tm} (hA : TOk A) (hB : TOk B) (he : Ext B A) {ks xs : List Int} (h : RelL A B ks xs) : ks = xs.map fun x => if inT B x then x else -1 := by
  apply List.ext_getElem (by rw [List.length_map]; exact h.1)
  intro q h1 h2
  rw [List.getElem_map]
  have hq : q < xs.length := by rw [← h.1]; exact h1
  exact (h.2 q _ _ (List.getElem?_eq_getElem h1) (List.getElem?_eq_getElem hq)).same hA hB he
theorem RelL.all {A B : List Tm} {ks xs : List Int} (h : RelL A B ks xs) : (∀ k ∈ ks, inT A k) ↔ ∀ x ∈ xs, inT B x := by
  constructor
  · intro hk x hx
    obtain ⟨q, hq, rfl⟩ := List.mem_iff_getElem.1 hx
    have hq' : q < ks.length := by rw [h.1]; exact hq
    exact (h.2 q _ _ (List.getElem?_eq_getElem hq') (List.getElem?_eq_getElem hq)).inT.1 (hk _ (List.getElem_mem hq'))
  · intro hx k hk
    obtain ⟨q, hq, rfl⟩ := List.mem_iff_getElem.1 hk
    have hq' : q < xs.length := by rw [← h.1]; exact hq
    exact (h.2 q _ _ (List.getElem?_eq_getElem hq) (List.getElem?_eq_getElem hq')).inT.2 (hx _ (List.getElem_mem hq'))

end

end Go.Proofs.YtoclhecldmahiaaDoor

/-
  Puts into an arena, good and bad ones.
-/
set_option linter.unusedVariables false
set_option linter.unusedSimpArgs false
namespace Go.Proofs.YtoclhecldmahiaaDoor
open Go.Lf Go.RowKit

/-- a good put -/
theorem putG {T : List Tm} {t : Tm} (he : errOf T t = 0) (hl : T.length < 1048576) : (put T t).2.2 = 0 ∧ inT (put T t).1 (put T t).2.1 := by
  obtain ⟨k, h1, h2, h3⟩ := putAt he hl
  exact ⟨h2, by rw [h1]; exact inT_of h3⟩
theorem err_kdf {T : List Tm} {s n : Int} (hs : inT T s) (hn : 0 ≤ n) : errOf T ⟨4, n, [s]⟩ = 0 := errOk (by simp) hn (.inl (.inr (.inr rfl))) (by simp [least]) (by simp [mostOf]) (by simpa using hs)
theorem err_word {T : List Tm} {n : Int} (hn : 0 ≤ n) : errOf T ⟨2, n, []⟩ = 0 := errOk (by simp) hn (.inl (.inr (.inl rfl))) (by simp [least]) (by simp) (by simp)
/-- what a step that puts terms leaves -/
structure Grown (T T' : List Tm) (k : Nat) : Prop where
  ext : Ext T T'
  len : T'.length ≤ T.length + k
  nb : Nb T → Nb T'
theorem Grown.refl (T : List Tm) : Grown T T 0 := ⟨Ext.refl _, Nat.le_refl _, fun h => h⟩
theorem Grown.put (T : List Tm) {t : Tm} (hn : t.n ≤ 9223372036854775807) : Grown T (put T t).1 1 := ⟨Ext.put _ _, (put_len1 T t).1, fun h => h.put hn⟩
theorem Grown.trans {A B C : List Tm} {i j : Nat} (h : Grown A B i) (k : Grown B C j) : Grown A C (i + j) := ⟨h.ext.trans k.ext, by have := h.len; have := k.len; omega, fun hn => k.nb (h.nb hn)⟩

section
variable {W w : World} {L R : List Asn} {p : Addr} {T : List Tm}

end


end Go.Proofs.YtoclhecldmahiaaDoor
