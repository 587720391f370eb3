/-
  StoreAgain: opened again and again, with nothing saved between, the state is the same; a state of none, too, is a state. Conditions: none beyond those of the given statement; the card ties the listed variable to the program's text (a pruned copy: the packages that this seat's roots load).
-/
import Derived.Test.YtledhokhcoeeeaaDoorStTie
import Derived.Test.YtledhokhcoeeeaaDoorStJ
import Derived.Test.YtledhokhcoeeeaaDoorRows
import Derived.Test.YtledhokhcoeeeaaDoorCards
import Derived.Test.YtledhokhcoeeeaaDoorTie
import Derived.Stop.LaidErr
set_option linter.unusedVariables false
namespace Go.Proofs.YtledhokhcoeeeaaDoor
open Go.ChangeShapes Go.WideShapes Go.ChangeAt Go.RowKit Go.Lf
set_option linter.unusedVariables false

theorem storeAgain_own : ownKnob Tryd.prog.godebug = none := factOwn
theorem storeAgain_laidOut : laidOutB Tryd.prog = true := factLaid

noncomputable abbrev storeAgain_world (os : Os) : World := tieWorld os
theorem storeAgain_met (os : Os) : laidMetH Tryd.prog Rows.storeAgainRow.laid ((storeAgain_world os).forCall (fun _ _ => 0) ⟨#[], #[.slice none 0 0, .int .i64 0], []⟩).memory := tieMet os _
theorem storeAgain_reads (os : Os) {H : Type} (enc : TypeId × Value → H) : ∃ places, DataW.whole enc Tryd.prog ((storeAgain_world os).forCall (fun _ _ => 0) ⟨#[], #[.slice none 0 0, .int .i64 0], []⟩).memory Tryd.f5.params.toList Rows.storeAgainSpec.vars false #[Value.slice none 0 0, .int .i64 0].toList 8 = some ([.nil, .lit (.int .i64 0)], [], places) :=
  ⟨[], by kernel_rfl⟩

set_option maxRecDepth 100000 in
theorem storeAgain_lifted (os : Os) (started : os.Started) (H : Type) (enc : TypeId × Value → H) (F : Stop.Interp) :
    ReturnsInHanded {} Tryd.checked os 5 .any ((OpenSpec.ofChange Rows.storeAgainSpec).preRow enc Tryd.prog Tryd.f5 Rows.storeAgainRow.domain false Rows.storeAgainRow.laid) (((OpenSpec.ofChange Rows.storeAgainSpec).at F).post enc Tryd.prog Tryd.f5 false true false false) := by
  obtain ⟨places, hx⟩ := storeAgain_reads os enc
  refine lawLaid (C := Tryd.checked) (s := OpenSpec.ofChange Rows.storeAgainSpec) (cs := Rows.storeAgainSpec) (tb := 4) (k := 2) storeAgain_own started (by kernel_rfl) Tryd.func5
    (witness_row_at (enc := enc) (C := Tryd.checked) false (storeAgain_world os) #[.slice none 0 0, .int .i64 0] rfl (by kernel_rfl) (by kernel_rfl) (by kernel_rfl)
      (OpenSpec.preRow_of_cond 8 hx (by kernel_rfl) (fun k hk => by cases hk) (by kernel_rfl) (storeAgain_met os))) storeAgain_laidOut (by kernel_rfl) (by kernel_rfl) Tryd.underlying4 rfl rfl rfl (by kernel_rfl) ?_ ?_
  · intro ds hds
    match ds, hds with
    | [d0, d1], _ => rfl
  · intro W args ds p hA hval hL _
    obtain ⟨base, hval⟩ := hval
    have hA : DataW.TrodAll enc Tryd.prog W 0 (fun _ => true) true Tryd.f5.params.toList args.toList ds p := hA
    rw [Tryd.params5] at hA
    have hval : ∀ (j : Nat) t v, Tryd.f5.params[j]? = some t → args[j]? = some v → Value.okWide Tryd.prog W .any base t v := hval
    rw [Tryd.params5] at hval
    obtain ⟨v0, vs0, d0, ds0, p0, q0, hargs, rfl, rfl, h0, r0⟩ := trodAll_cons hA
    obtain ⟨v1, vs1, d1, ds1, p1, q1, rfl, rfl, rfl, h1, r1⟩ := trodAll_cons r0
    obtain ⟨rfl, rfl, rfl⟩ := trodAll_nil r1
    obtain rfl : args = #[v0, v1] := by cases args; simp_all
    obtain ⟨s0, xs0, rfl, hI0⟩ := bytess_in (hval 0 22 v0 rfl rfl) h0
    obtain ⟨a1, rfl, rfl, rfl, w1⟩ := open_int Tryd.underlying3 (hval 1 3 v1 rfl rfl) h1
    have hG : W.cell? ⟨0, 0, none⟩ = some errT := tieErr hL
    exact sagain_spec hG hI0 a1

theorem storeAgain_j10 : (Rows.storeAgainRow.inPlace == Tryd.prog.inPlace 5) = true := by kernel_rfl
theorem storeAgain_j11 : (Rows.storeAgainRow.unfollowed == Tryd.prog.unfollowed 5) = true := by kernel_rfl
theorem storeAgain_j12 : (Rows.storeAgainRow.recurses == Tryd.prog.recurses 5) = true := by kernel_rfl
theorem storeAgain_j13 : (Rows.storeAgainRow.named == Tryd.prog.varsNamed 5) = true := by kernel_rfl
theorem storeAgain_joined : joinedFacts Tryd.prog 5 Tryd.f5 (OpenSpec.ofChange Rows.storeAgainSpec).bare Rows.storeAgainRow = true :=
  and32 (by kernel_rfl) factLaid factMaps (by kernel_rfl) (by kernel_rfl) (by kernel_rfl) factStops (by kernel_rfl) factKnobs storeAgain_j10 storeAgain_j11 storeAgain_j12 storeAgain_j13 (by kernel_rfl) (by kernel_rfl) (by kernel_rfl) (by kernel_rfl) (by kernel_rfl) (by kernel_rfl) (by kernel_rfl) (by kernel_rfl) (by kernel_rfl) factKeys (by kernel_rfl) factHeard factMay factLifts factMake (by kernel_rfl) (by kernel_rfl) (by kernel_rfl) (by kernel_rfl)

theorem storeAgain_said : Rows.StoreAgainSaid :=
  OpenClaim.holds_of_cond 5 Tryd.f5 rfl rfl rfl rfl rfl rfl rfl ⟨rfl, rfl, rfl, rfl, rfl⟩ rfl rfl rfl rfl rfl (by kernel_rfl) Tryd.func5 storeAgain_joined
    (of_decide_eq_true (by kernel_rfl)) (by unfold Func.isWrapper; first | (rw [if_pos (by decide +kernel)]; kernel_rfl) | (rw [if_neg (by decide +kernel)]; exact ⟨rfl, rfl⟩))
    (fun os started H enc _ F => by rw [OpenClaim.pre_eq_preRow]; exact storeAgain_lifted os started H enc F)

theorem storeAgain_plain (f : FuncId) (fn : Func) (hf : Tryd.pinned.checked.prog.funcNamed "tryst/trystlaw14.StoreAgain" = some f) (hfn : Tryd.pinned.checked.prog.funcs[f]? = some fn) :
    true = Tryd.pinned.checked.prog.looks [] ∧ ∀ (j : Nat) t, fn.params[j]? = some t → Tryd.pinned.checked.prog.wantsStandIn t = false := by
  obtain rfl : f = 5 := Option.some.inj ((show Tryd.prog.funcNamed "tryst/trystlaw14.StoreAgain" = some 5 by kernel_rfl).symm.trans hf) |>.symm
  obtain rfl : fn = Tryd.f5 := (Option.some.inj (Tryd.func5.symm.trans hfn)).symm
  refine ⟨by kernel_rfl, fun j t ht => ?_⟩
  rw [Tryd.params5] at ht
  have hm := Array.mem_of_getElem? ht
  simp only [List.mem_toArray, List.mem_cons, List.not_mem_nil, or_false] at hm
  have hall : ([22, 3] : List TypeId).all (fun t => Tryd.prog.wantsStandIn t == false) = true := by kernel_rfl
  have := List.all_eq_true.1 hall t (by simpa using hm)
  exact eq_of_beq this

theorem storeAgain_card : Rows.StoreAgainCardSaid :=
  Claim7.holds_tied_plain_at .later [] _ _ _ _ storeAgain_said (fun _ h => by cases h) (by kernel_rfl) (fun _ h => by cases h) storeAgain_row_tie rfl ⟨rfl, rfl⟩ (by kernel_rfl) rfl storeAgain_plain (by kernel_rfl)
#print axioms storeAgain_card
end Go.Proofs.YtledhokhcoeeeaaDoor
