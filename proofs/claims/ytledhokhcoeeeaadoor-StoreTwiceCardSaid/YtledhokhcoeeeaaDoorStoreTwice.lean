/-
  StoreTwice: two stores on two disks have nothing in common; what State tells is the caller's own. Conditions: none beyond those of the given statement; the card ties the listed variable to the program's text (a pruned copy: the packages that this seat's roots load).
-/
import Derived.Test.YtledhokhcoeeeaaDoorStTie
import Derived.Test.YtledhokhcoeeeaaDoorStI
import Derived.Test.YtledhokhcoeeeaaDoorRows
import Derived.Test.YtledhokhcoeeeaaDoorCards
import Derived.Test.YtledhokhcoeeeaaDoorTie
import Derived.Stop.LaidErr
set_option linter.unusedVariables false
namespace Go.Proofs.YtledhokhcoeeeaaDoor
open Go.ChangeShapes Go.WideShapes Go.ChangeAt Go.RowKit Go.Lf
set_option linter.unusedVariables false

theorem storeTwice_own : ownKnob Tryd.prog.godebug = none := factOwn
theorem storeTwice_laidOut : laidOutB Tryd.prog = true := factLaid

noncomputable abbrev storeTwice_world (os : Os) : World := tieWorld os
theorem storeTwice_met (os : Os) : laidMetH Tryd.prog Rows.storeTwiceRow.laid ((storeTwice_world os).forCall (fun _ _ => 0) ⟨#[], #[.slice none 0 0, .slice none 0 0], []⟩).memory := tieMet os _
theorem storeTwice_reads (os : Os) {H : Type} (enc : TypeId × Value → H) : ∃ places, DataW.whole enc Tryd.prog ((storeTwice_world os).forCall (fun _ _ => 0) ⟨#[], #[.slice none 0 0, .slice none 0 0], []⟩).memory Tryd.f3.params.toList Rows.storeTwiceSpec.vars false #[Value.slice none 0 0, .slice none 0 0].toList 8 = some ([.nil, .nil], [], places) :=
  ⟨[], by kernel_rfl⟩

set_option maxRecDepth 100000 in
theorem storeTwice_lifted (os : Os) (started : os.Started) (H : Type) (enc : TypeId × Value → H) (F : Stop.Interp) :
    ReturnsInHanded {} Tryd.checked os 3 .any ((OpenSpec.ofChange Rows.storeTwiceSpec).preRow enc Tryd.prog Tryd.f3 Rows.storeTwiceRow.domain false Rows.storeTwiceRow.laid) (((OpenSpec.ofChange Rows.storeTwiceSpec).at F).post enc Tryd.prog Tryd.f3 false true false false) := by
  obtain ⟨places, hx⟩ := storeTwice_reads os enc
  refine lawLaid (C := Tryd.checked) (s := OpenSpec.ofChange Rows.storeTwiceSpec) (cs := Rows.storeTwiceSpec) (tb := 4) (k := 2) storeTwice_own started (by kernel_rfl) Tryd.func3
    (witness_row_at (enc := enc) (C := Tryd.checked) false (storeTwice_world os) #[.slice none 0 0, .slice none 0 0] rfl (by kernel_rfl) (by kernel_rfl) (by kernel_rfl)
      (OpenSpec.preRow_of_cond 8 hx (by kernel_rfl) (fun k hk => by cases hk) (by kernel_rfl) (storeTwice_met os))) storeTwice_laidOut (by kernel_rfl) (by kernel_rfl) Tryd.underlying4 rfl rfl rfl (by kernel_rfl) ?_ ?_
  · intro ds hds
    match ds, hds with
    | [d0, d1], _ => rfl
  · intro W args ds p hA hval hL _
    obtain ⟨base, hval⟩ := hval
    have hA : DataW.TrodAll enc Tryd.prog W 0 (fun _ => true) true Tryd.f3.params.toList args.toList ds p := hA
    rw [Tryd.params3] at hA
    have hval : ∀ (j : Nat) t v, Tryd.f3.params[j]? = some t → args[j]? = some v → Value.okWide Tryd.prog W .any base t v := hval
    rw [Tryd.params3] at hval
    obtain ⟨v0, vs0, d0, ds0, p0, q0, hargs, rfl, rfl, h0, r0⟩ := trodAll_cons hA
    obtain ⟨v1, vs1, d1, ds1, p1, q1, rfl, rfl, rfl, h1, r1⟩ := trodAll_cons r0
    obtain ⟨rfl, rfl, rfl⟩ := trodAll_nil r1
    obtain rfl : args = #[v0, v1] := by cases args; simp_all
    obtain ⟨s0, xs0, rfl, hI0⟩ := bytess_in (hval 0 22 v0 rfl rfl) h0
    obtain ⟨s1, xs1, rfl, hI1⟩ := bytess_in (hval 1 22 v1 rfl rfl) h1
    have hG : W.cell? ⟨0, 0, none⟩ = some errT := tieErr hL
    exact stwice_spec hG hI0 hI1

theorem storeTwice_j10 : (Rows.storeTwiceRow.inPlace == Tryd.prog.inPlace 3) = true := by kernel_rfl
theorem storeTwice_j11 : (Rows.storeTwiceRow.unfollowed == Tryd.prog.unfollowed 3) = true := by kernel_rfl
theorem storeTwice_j12 : (Rows.storeTwiceRow.recurses == Tryd.prog.recurses 3) = true := by kernel_rfl
theorem storeTwice_j13 : (Rows.storeTwiceRow.named == Tryd.prog.varsNamed 3) = true := by kernel_rfl
theorem storeTwice_joined : joinedFacts Tryd.prog 3 Tryd.f3 (OpenSpec.ofChange Rows.storeTwiceSpec).bare Rows.storeTwiceRow = true :=
  and32 (by kernel_rfl) factLaid factMaps (by kernel_rfl) (by kernel_rfl) (by kernel_rfl) factStops (by kernel_rfl) factKnobs storeTwice_j10 storeTwice_j11 storeTwice_j12 storeTwice_j13 (by kernel_rfl) (by kernel_rfl) (by kernel_rfl) (by kernel_rfl) (by kernel_rfl) (by kernel_rfl) (by kernel_rfl) (by kernel_rfl) (by kernel_rfl) factKeys (by kernel_rfl) factHeard factMay factLifts factMake (by kernel_rfl) (by kernel_rfl) (by kernel_rfl) (by kernel_rfl)

theorem storeTwice_said : Rows.StoreTwiceSaid :=
  OpenClaim.holds_of_cond 3 Tryd.f3 rfl rfl rfl rfl rfl rfl rfl ⟨rfl, rfl, rfl, rfl, rfl⟩ rfl rfl rfl rfl rfl (by kernel_rfl) Tryd.func3 storeTwice_joined
    (of_decide_eq_true (by kernel_rfl)) (by unfold Func.isWrapper; first | (rw [if_pos (by decide +kernel)]; kernel_rfl) | (rw [if_neg (by decide +kernel)]; exact ⟨rfl, rfl⟩))
    (fun os started H enc _ F => by rw [OpenClaim.pre_eq_preRow]; exact storeTwice_lifted os started H enc F)

theorem storeTwice_plain (f : FuncId) (fn : Func) (hf : Tryd.pinned.checked.prog.funcNamed "tryst/trystlaw14.StoreTwice" = some f) (hfn : Tryd.pinned.checked.prog.funcs[f]? = some fn) :
    true = Tryd.pinned.checked.prog.looks [] ∧ ∀ (j : Nat) t, fn.params[j]? = some t → Tryd.pinned.checked.prog.wantsStandIn t = false := by
  obtain rfl : f = 3 := Option.some.inj ((show Tryd.prog.funcNamed "tryst/trystlaw14.StoreTwice" = some 3 by kernel_rfl).symm.trans hf) |>.symm
  obtain rfl : fn = Tryd.f3 := (Option.some.inj (Tryd.func3.symm.trans hfn)).symm
  refine ⟨by kernel_rfl, fun j t ht => ?_⟩
  rw [Tryd.params3] at ht
  have hm := Array.mem_of_getElem? ht
  simp only [List.mem_toArray, List.mem_cons, List.not_mem_nil, or_false] at hm
  have hall : ([22, 22] : List TypeId).all (fun t => Tryd.prog.wantsStandIn t == false) = true := by kernel_rfl
  have := List.all_eq_true.1 hall t (by simpa using hm)
  exact eq_of_beq this

theorem storeTwice_card : Rows.StoreTwiceCardSaid :=
  Claim7.holds_tied_plain_at .later [] _ _ _ _ storeTwice_said (fun _ h => by cases h) (by kernel_rfl) (fun _ h => by cases h) storeTwice_row_tie rfl ⟨rfl, rfl⟩ (by kernel_rfl) rfl storeTwice_plain (by kernel_rfl)
#print axioms storeTwice_card
end Go.Proofs.YtledhokhcoeeeaaDoor
