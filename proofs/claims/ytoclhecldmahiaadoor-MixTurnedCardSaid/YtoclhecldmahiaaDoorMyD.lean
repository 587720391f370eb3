/-
  Rounds of onions over two arenas, one behind the other.
-/
import Derived.Test.YtoclhecldmahiaaDoorMyE
set_option linter.unusedVariables false
set_option linter.unusedVariables false
set_option linter.unusedSimpArgs false
namespace Go.Proofs.YtoclhecldmahiaaDoor
open Go.Lf Go.RowKit

theorem sealS_tok {T : List Tm} (hT : TOk T) {keys perm back : List Int} {nw : Int} : ∀ k, TOk (sealS T keys perm back nw k).1
  | 0 => hT
  | k + 1 => by
    show TOk (if 0 ≤ keys[k]?.getD 0 then _ else _ : List Tm × List Int).1
    split
    · exact (sealS_tok hT k).put _
    · exact sealS_tok hT k
theorem rnd_tok {T : List Tm} (hT : TOk T) {nw : Int} {secs : List Int} {P : Nat → List Int} : ∀ (d : Nat) {s : Nat} {st : MxS} {l : List Int}, TOk (rndT T nw secs P d s st l).1
  | 0, _, _, _ => hT.put _
  | d + 1, _, _, _ => sealS_tok (rnd_tok hT d) _
theorem round_tok {T : List Tm} (hT : TOk T) {st : MxS} {secs l : List Int} {P : Nat → List Int} : TOk (roundT T st secs l P).1 := rnd_tok (hT.put _) 3

theorem toI_getD {S : List Nat} {i x : Nat} (h : S[i]? = some x) : (toI S)[i]?.getD 0 = x := by unfold toI; rw [List.getElem?_map, h]; rfl

/-- onions of unlike draws, for the servers -/
theorem peels_of {T : List Tm} (hT : TOk T) {base : Nat} {S P : List Nat} (hS : SrvIn T base S P 3) {n : Nat} {K : Nat → List Int} {c : Nat → Int} {X : Nat → Nat → Int} (h : ∀ i, i < n → OnionIn T (toI P) (K i) (c i) (X i)) (hc : ∀ i j, i < n → j < n → c i = c j → i = j) : Peels T (toI S) n X K := by
  refine ⟨fun i hi s hs => ?_, fun i j hi hj m h1 h2 he => ?_, fun i hi s hs => ?_⟩
  · obtain ⟨x, hx, hp, _⟩ := hS.peel (h i hi) hs
    rw [toI_getD hx]
    exact hp
  · exact hc i j hi hj (((unlike_law hT (h i hi) (h j hj)).2 m h2 h1).1 he).1
  · have := (h i hi).kl
    exact (h i hi).kin _ (getD_mem (by omega))

/-- a round over two arenas -/
theorem round_ev {A B : List Tm} {sa sb : MxS} {za zb ya yb : List Int} {P : Nat → List Int} (hA : TOk A) (hB : TOk B) (hlA : A.length ≤ 600000) (hlB : B.length ≤ 600000) (hst : StEv A B sa sb) (hz : EvL A B za zb) (hy : EvL A B ya yb)
    (rA : RdIn (wordT A).1 (wordT A).2.1 za P sa ya) (rB : RdIn (wordT B).1 (wordT B).2.1 zb P sb yb) :
    StEv (roundT A sa za ya P).1 (roundT B sb zb yb P).1 (roundT A sa za ya P).2.1 (roundT B sb zb yb P).2.1 ∧ EvL (roundT A sa za ya P).1 (roundT B sb zb yb P).1 (roundT A sa za ya P).2.2 (roundT B sb zb yb P).2.2 := by
  obtain ⟨_, _, _, _, ga⟩ := wordT_good (T := A) (by omega)
  obtain ⟨_, _, _, _, gb⟩ := wordT_good (T := B) (by omega)
  have gal := ga.len
  have gbl := gb.len
  obtain ⟨_, _, hw⟩ := Ev.put (A := A) (B := B) (k := 2) (n := 0) (EvL.nil A B) (err_word (by omega)) (by omega) (by omega)
  exact rnd_ev (A := (wordT A).1) (B := (wordT B).1) (hA.put _) (hB.put _) hw (hz.mono ga.ext gb.ext) 3 rfl rA rB (by omega) (by omega) (StEv.mono ga.ext gb.ext hst) (hy.mono ga.ext gb.ext)

theorem StEv.nil (A B : List Tm) : StEv A B ⟨[], fun _ => []⟩ ⟨[], fun _ => []⟩ := ⟨⟨rfl, fun q k x hk hx => by simp at hk⟩, fun _ _ => EvL.nil A B⟩

/-- all is as it should be for a round from nothing on -/
theorem rdIn0 {T : List Tm} (hT : TOk T) (hl : T.length ≤ 600000) {secs l : List Int} {P : Nat → List Int} (h1 : secs.length = 3) (h2 : ∀ x ∈ secs, inT T x) (h3 : ∀ k, k < 3 → permOk (P k) l.length) (h4 : ∀ x ∈ l, inT T x) (h5 : l.length ≤ 100) : RdIn (wordT T).1 (wordT T).2.1 secs P ⟨[], fun _ => []⟩ l := by
  obtain ⟨x, e1, e2, e3, g⟩ := wordT_good (T := T) (by omega)
  exact ⟨hT.put _, wordT_twice (hT.put _) (by omega), (putG (err_word (by omega)) (by omega)).2, h1, fun y hy => g.ext.inT (h2 y hy), h3, by simp, fun y hy => g.ext.inT (h4 y hy), h5⟩

theorem wrong0 {T : List Tm} {secs l : List Int} {Z : List (Sl × List Int)} (h1 : secs.length = 3) (h2 : ∀ x ∈ secs, inT T x) (hZ : Z.length = 3) (h3 : ∀ k, k < 3 → permOk (rowP Z k) l.length) (h4 : ∀ x ∈ l, inT T x) (h5 : l.length ≤ 100) : wrongT T ⟨[], fun _ => []⟩ secs l (rowsP Z) = 0 := by
  have hp : ∀ p ∈ rowsP Z, permOk p l.length := by
    intro p hp
    unfold rowsP at hp
    obtain ⟨z, hz, rfl⟩ := List.mem_map.1 hp
    obtain ⟨k, hk⟩ := List.getElem?_of_mem hz
    have hlt := (List.getElem?_eq_some_iff.1 hk).1
    have := h3 k (by omega)
    unfold rowP at this
    rw [hk] at this
    exact this
  rw [wrongT_B (l := l) h1 rfl ⟨by simp, h2, h4, by simp⟩]
  unfold wrongB
  rw [if_neg (by have : (rowsP Z).length = 3 := by simp [rowsP, hZ]
                 omega), if_neg (fun hh => hh hp)]

end Go.Proofs.YtoclhecldmahiaaDoor
