/-
  StoreLasts: whatever is saved, and whenever the power goes: opened anew the state is the last that was saved without an error, or the one under way. Conditions: none beyond those of the given statement; the card ties the listed variable to the program's text (a pruned copy: the packages that this seat's roots load).
-/
import Derived.Test.YtledhokhcoeeeaaDoorStTie
import Derived.Test.YtledhokhcoeeeaaDoorStM
import Derived.Test.YtledhokhcoeeeaaDoorRows
import Derived.Test.YtledhokhcoeeeaaDoorCards
import Derived.Test.YtledhokhcoeeeaaDoorTie
import Derived.Stop.LaidErr
set_option linter.unusedVariables false
namespace Go.Proofs.YtledhokhcoeeeaaDoor
open Go.ChangeShapes Go.WideShapes Go.ChangeAt Go.RowKit Go.Lf
set_option linter.unusedVariables false

theorem storeLasts_own : ownKnob Tryd.prog.godebug = none := factOwn
theorem storeLasts_laidOut : laidOutB Tryd.prog = true := factLaid

noncomputable abbrev storeLasts_world (os : Os) : World := tieWorld os
theorem storeLasts_met (os : Os) : laidMetH Tryd.prog Rows.storeLastsRow.laid ((storeLasts_world os).forCall (fun _ _ => 0) ⟨#[], #[.slice none 0 0], []⟩).memory := tieMet os _
theorem storeLasts_reads (os : Os) {H : Type} (enc : TypeId × Value → H) : ∃ places, DataW.whole enc Tryd.prog ((storeLasts_world os).forCall (fun _ _ => 0) ⟨#[], #[.slice none 0 0], []⟩).memory Tryd.f6.params.toList Rows.storeLastsSpec.vars false #[Value.slice none 0 0].toList 8 = some ([.nil], [], places) :=
  ⟨[], by kernel_rfl⟩

set_option maxRecDepth 100000 in
theorem storeLasts_lifted (os : Os) (started : os.Started) (H : Type) (enc : TypeId × Value → H) (F : Stop.Interp) :
    ReturnsInHanded {} Tryd.checked os 6 .any ((OpenSpec.ofChange Rows.storeLastsSpec).preRow enc Tryd.prog Tryd.f6 Rows.storeLastsRow.domain false Rows.storeLastsRow.laid) (((OpenSpec.ofChange Rows.storeLastsSpec).at F).post enc Tryd.prog Tryd.f6 false true false false) := by
  obtain ⟨places, hx⟩ := storeLasts_reads os enc
  refine lawLaid (C := Tryd.checked) (s := OpenSpec.ofChange Rows.storeLastsSpec) (cs := Rows.storeLastsSpec) (tb := 4) (k := 1) storeLasts_own started (by kernel_rfl) Tryd.func6
    (witness_row_at (enc := enc) (C := Tryd.checked) false (storeLasts_world os) #[.slice none 0 0] rfl (by kernel_rfl) (by kernel_rfl) (by kernel_rfl)
      (OpenSpec.preRow_of_cond 8 hx (by kernel_rfl) (fun k hk => by cases hk) (by kernel_rfl) (storeLasts_met os))) storeLasts_laidOut (by kernel_rfl) (by kernel_rfl) Tryd.underlying4 rfl rfl rfl (by kernel_rfl) ?_ ?_
  · intro ds hds
    match ds, hds with
    | [d0], _ => rfl
  · intro W args ds p hA hval hL _
    obtain ⟨base, hval⟩ := hval
    have hA : DataW.TrodAll enc Tryd.prog W 0 (fun _ => true) true Tryd.f6.params.toList args.toList ds p := hA
    rw [Tryd.params6] at hA
    have hval : ∀ (j : Nat) t v, Tryd.f6.params[j]? = some t → args[j]? = some v → Value.okWide Tryd.prog W .any base t v := hval
    rw [Tryd.params6] at hval
    obtain ⟨v0, vs0, d0, ds0, p0, q0, hargs, rfl, rfl, h0, r0⟩ := trodAll_cons hA
    obtain ⟨rfl, rfl, rfl⟩ := trodAll_nil r0
    obtain rfl : args = #[v0] := by cases args; simp_all
    obtain ⟨s0, xs0, rfl, hI0⟩ := saves_in (hval 0 41 v0 rfl rfl) h0
    have hG : W.cell? ⟨0, 0, none⟩ = some errT := tieErr hL
    exact slasts_spec hG hI0

theorem storeLasts_j10 : (Rows.storeLastsRow.inPlace == Tryd.prog.inPlace 6) = true := by kernel_rfl
theorem storeLasts_j11 : (Rows.storeLastsRow.unfollowed == Tryd.prog.unfollowed 6) = true := by kernel_rfl
theorem storeLasts_j12 : (Rows.storeLastsRow.recurses == Tryd.prog.recurses 6) = true := by kernel_rfl
theorem storeLasts_j13 : (Rows.storeLastsRow.named == Tryd.prog.varsNamed 6) = true := by kernel_rfl
theorem storeLasts_joined : joinedFacts Tryd.prog 6 Tryd.f6 (OpenSpec.ofChange Rows.storeLastsSpec).bare Rows.storeLastsRow = true :=
  and32 (by kernel_rfl) factLaid factMaps (by kernel_rfl) (by kernel_rfl) (by kernel_rfl) factStops (by kernel_rfl) factKnobs storeLasts_j10 storeLasts_j11 storeLasts_j12 storeLasts_j13 (by kernel_rfl) (by kernel_rfl) (by kernel_rfl) (by kernel_rfl) (by kernel_rfl) (by kernel_rfl) (by kernel_rfl) (by kernel_rfl) (by kernel_rfl) factKeys (by kernel_rfl) factHeard factMay factLifts factMake (by kernel_rfl) (by kernel_rfl) (by kernel_rfl) (by kernel_rfl)

theorem storeLasts_said : Rows.StoreLastsSaid :=
  OpenClaim.holds_of_cond 6 Tryd.f6 rfl rfl rfl rfl rfl rfl rfl ⟨rfl, rfl, rfl, rfl, rfl⟩ rfl rfl rfl rfl rfl (by kernel_rfl) Tryd.func6 storeLasts_joined
    (of_decide_eq_true (by kernel_rfl)) (by unfold Func.isWrapper; first | (rw [if_pos (by decide +kernel)]; kernel_rfl) | (rw [if_neg (by decide +kernel)]; exact ⟨rfl, rfl⟩))
    (fun os started H enc _ F => by rw [OpenClaim.pre_eq_preRow]; exact storeLasts_lifted os started H enc F)

theorem storeLasts_plain (f : FuncId) (fn : Func) (hf : Tryd.pinned.checked.prog.funcNamed "tryst/trystlaw14.StoreLasts" = some f) (hfn : Tryd.pinned.checked.prog.funcs[f]? = some fn) :
    true = Tryd.pinned.checked.prog.looks [] ∧ ∀ (j : Nat) t, fn.params[j]? = some t → Tryd.pinned.checked.prog.wantsStandIn t = false := by
  obtain rfl : f = 6 := Option.some.inj ((show Tryd.prog.funcNamed "tryst/trystlaw14.StoreLasts" = some 6 by kernel_rfl).symm.trans hf) |>.symm
  obtain rfl : fn = Tryd.f6 := (Option.some.inj (Tryd.func6.symm.trans hfn)).symm
  refine ⟨by kernel_rfl, fun j t ht => ?_⟩
  rw [Tryd.params6] at ht
  have hm := Array.mem_of_getElem? ht
  simp only [List.mem_toArray, List.mem_cons, List.not_mem_nil, or_false] at hm
  have hall : ([41] : List TypeId).all (fun t => Tryd.prog.wantsStandIn t == false) = true := by kernel_rfl
  have := List.all_eq_true.1 hall t (by simpa using hm)
  exact eq_of_beq this

theorem storeLasts_card : Rows.StoreLastsCardSaid :=
  Claim7.holds_tied_plain_at .later [] _ _ _ _ storeLasts_said (fun _ h => by cases h) (by kernel_rfl) (fun _ h => by cases h) storeLasts_row_tie rfl ⟨rfl, rfl⟩ (by kernel_rfl) rfl storeLasts_plain (by kernel_rfl)
#print axioms storeLasts_card
end Go.Proofs.YtledhokhcoeeeaaDoor
