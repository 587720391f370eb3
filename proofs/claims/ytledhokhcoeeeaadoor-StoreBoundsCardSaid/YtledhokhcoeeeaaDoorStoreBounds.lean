/-
  StoreBounds: as long a state as may be is saved, and comes back; one byte more is refused, and the state stays; a disk that is too small, or off, is refused. Conditions: none beyond those of the given statement; the card ties the listed variable to the program's text (a pruned copy: the packages that this seat's roots load).
-/
import Derived.Test.YtledhokhcoeeeaaDoorStTie
import Derived.Test.YtledhokhcoeeeaaDoorStG
import Derived.Test.YtledhokhcoeeeaaDoorRows
import Derived.Test.YtledhokhcoeeeaaDoorCards
import Derived.Test.YtledhokhcoeeeaaDoorTie
import Derived.Stop.LaidErr
set_option linter.unusedVariables false
namespace Go.Proofs.YtledhokhcoeeeaaDoor
open Go.ChangeShapes Go.WideShapes Go.ChangeAt Go.RowKit Go.Lf
set_option linter.unusedVariables false

theorem storeBounds_own : ownKnob Tryd.prog.godebug = none := factOwn
theorem storeBounds_laidOut : laidOutB Tryd.prog = true := factLaid

noncomputable abbrev storeBounds_world (os : Os) : World := tieWorld os
theorem storeBounds_met (os : Os) : laidMetH Tryd.prog Rows.storeBoundsRow.laid ((storeBounds_world os).forCall (fun _ _ => 0) ⟨#[], #[.int .i64 0, .int .i64 0, .int .u8 0], []⟩).memory := tieMet os _
theorem storeBounds_reads (os : Os) {H : Type} (enc : TypeId × Value → H) : ∃ places, DataW.whole enc Tryd.prog ((storeBounds_world os).forCall (fun _ _ => 0) ⟨#[], #[.int .i64 0, .int .i64 0, .int .u8 0], []⟩).memory Tryd.f4.params.toList Rows.storeBoundsSpec.vars false #[Value.int .i64 0, .int .i64 0, .int .u8 0].toList 8 = some ([.lit (.int .i64 0), .lit (.int .i64 0), .lit (.int .u8 0)], [], places) :=
  ⟨[], by kernel_rfl⟩

set_option maxRecDepth 100000 in
theorem storeBounds_lifted (os : Os) (started : os.Started) (H : Type) (enc : TypeId × Value → H) (F : Stop.Interp) :
    ReturnsInHanded {} Tryd.checked os 4 .any ((OpenSpec.ofChange Rows.storeBoundsSpec).preRow enc Tryd.prog Tryd.f4 Rows.storeBoundsRow.domain false Rows.storeBoundsRow.laid) (((OpenSpec.ofChange Rows.storeBoundsSpec).at F).post enc Tryd.prog Tryd.f4 false true false false) := by
  obtain ⟨places, hx⟩ := storeBounds_reads os enc
  refine lawLaid (C := Tryd.checked) (s := OpenSpec.ofChange Rows.storeBoundsSpec) (cs := Rows.storeBoundsSpec) (tb := 4) (k := 3) storeBounds_own started (by kernel_rfl) Tryd.func4
    (witness_row_at (enc := enc) (C := Tryd.checked) false (storeBounds_world os) #[.int .i64 0, .int .i64 0, .int .u8 0] rfl (by kernel_rfl) (by kernel_rfl) (by kernel_rfl)
      (OpenSpec.preRow_of_cond 8 hx (by kernel_rfl) (fun k hk => by cases hk) (by kernel_rfl) (storeBounds_met os))) storeBounds_laidOut (by kernel_rfl) (by kernel_rfl) Tryd.underlying4 rfl rfl rfl (by kernel_rfl) ?_ ?_
  · intro ds hds
    match ds, hds with
    | [d0, d1, d2], _ => rfl
  · intro W args ds p hA hval hL _
    obtain ⟨base, hval⟩ := hval
    have hA : DataW.TrodAll enc Tryd.prog W 0 (fun _ => true) true Tryd.f4.params.toList args.toList ds p := hA
    rw [Tryd.params4] at hA
    have hval : ∀ (j : Nat) t v, Tryd.f4.params[j]? = some t → args[j]? = some v → Value.okWide Tryd.prog W .any base t v := hval
    rw [Tryd.params4] at hval
    obtain ⟨v0, vs0, d0, ds0, p0, q0, hargs, rfl, rfl, h0, r0⟩ := trodAll_cons hA
    obtain ⟨v1, vs1, d1, ds1, p1, q1, rfl, rfl, rfl, h1, r1⟩ := trodAll_cons r0
    obtain ⟨v2, vs2, d2, ds2, p2, q2, rfl, rfl, rfl, h2, r2⟩ := trodAll_cons r1
    obtain ⟨rfl, rfl, rfl⟩ := trodAll_nil r2
    obtain rfl : args = #[v0, v1, v2] := by cases args; simp_all
    obtain ⟨a0, rfl, rfl, rfl, w0⟩ := open_int Tryd.underlying3 (hval 0 3 v0 rfl rfl) h0
    obtain ⟨a1, rfl, rfl, rfl, w1⟩ := open_int Tryd.underlying3 (hval 1 3 v1 rfl rfl) h1
    obtain ⟨a2, rfl, rfl, rfl, w2⟩ := open_int Tryd.underlying5 (hval 2 5 v2 rfl rfl) h2
    have hG : W.cell? ⟨0, 0, none⟩ = some errT := tieErr hL
    exact sbounds_spec hG a0 a1 a2

theorem storeBounds_j10 : (Rows.storeBoundsRow.inPlace == Tryd.prog.inPlace 4) = true := by kernel_rfl
theorem storeBounds_j11 : (Rows.storeBoundsRow.unfollowed == Tryd.prog.unfollowed 4) = true := by kernel_rfl
theorem storeBounds_j12 : (Rows.storeBoundsRow.recurses == Tryd.prog.recurses 4) = true := by kernel_rfl
theorem storeBounds_j13 : (Rows.storeBoundsRow.named == Tryd.prog.varsNamed 4) = true := by kernel_rfl
theorem storeBounds_joined : joinedFacts Tryd.prog 4 Tryd.f4 (OpenSpec.ofChange Rows.storeBoundsSpec).bare Rows.storeBoundsRow = true :=
  and32 (by kernel_rfl) factLaid factMaps (by kernel_rfl) (by kernel_rfl) (by kernel_rfl) factStops (by kernel_rfl) factKnobs storeBounds_j10 storeBounds_j11 storeBounds_j12 storeBounds_j13 (by kernel_rfl) (by kernel_rfl) (by kernel_rfl) (by kernel_rfl) (by kernel_rfl) (by kernel_rfl) (by kernel_rfl) (by kernel_rfl) (by kernel_rfl) factKeys (by kernel_rfl) factHeard factMay factLifts factMake (by kernel_rfl) (by kernel_rfl) (by kernel_rfl) (by kernel_rfl)

theorem storeBounds_said : Rows.StoreBoundsSaid :=
  OpenClaim.holds_of_cond 4 Tryd.f4 rfl rfl rfl rfl rfl rfl rfl ⟨rfl, rfl, rfl, rfl, rfl⟩ rfl rfl rfl rfl rfl (by kernel_rfl) Tryd.func4 storeBounds_joined
    (of_decide_eq_true (by kernel_rfl)) (by unfold Func.isWrapper; first | (rw [if_pos (by decide +kernel)]; kernel_rfl) | (rw [if_neg (by decide +kernel)]; exact ⟨rfl, rfl⟩))
    (fun os started H enc _ F => by rw [OpenClaim.pre_eq_preRow]; exact storeBounds_lifted os started H enc F)

theorem storeBounds_plain (f : FuncId) (fn : Func) (hf : Tryd.pinned.checked.prog.funcNamed "tryst/trystlaw14.StoreBounds" = some f) (hfn : Tryd.pinned.checked.prog.funcs[f]? = some fn) :
    true = Tryd.pinned.checked.prog.looks [] ∧ ∀ (j : Nat) t, fn.params[j]? = some t → Tryd.pinned.checked.prog.wantsStandIn t = false := by
  obtain rfl : f = 4 := Option.some.inj ((show Tryd.prog.funcNamed "tryst/trystlaw14.StoreBounds" = some 4 by kernel_rfl).symm.trans hf) |>.symm
  obtain rfl : fn = Tryd.f4 := (Option.some.inj (Tryd.func4.symm.trans hfn)).symm
  refine ⟨by kernel_rfl, fun j t ht => ?_⟩
  rw [Tryd.params4] at ht
  have hm := Array.mem_of_getElem? ht
  simp only [List.mem_toArray, List.mem_cons, List.not_mem_nil, or_false] at hm
  have hall : ([3, 3, 5] : List TypeId).all (fun t => Tryd.prog.wantsStandIn t == false) = true := by kernel_rfl
  have := List.all_eq_true.1 hall t (by simpa using hm)
  exact eq_of_beq this

theorem storeBounds_card : Rows.StoreBoundsCardSaid :=
  Claim7.holds_tied_plain_at .later [] _ _ _ _ storeBounds_said (fun _ h => by cases h) (by kernel_rfl) (fun _ h => by cases h) storeBounds_row_tie rfl ⟨rfl, rfl⟩ (by kernel_rfl) rfl storeBounds_plain (by kernel_rfl)
#print axioms storeBounds_card
end Go.Proofs.YtledhokhcoeeeaaDoor
