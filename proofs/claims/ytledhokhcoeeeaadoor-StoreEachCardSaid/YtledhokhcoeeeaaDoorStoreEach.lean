/-
  StoreEach: at each write and sync of a Save, one by one, the power goes: opened anew it is the old state or the new one, and the next Save is safe. Conditions: none beyond those of the given statement; the card ties the listed variable to the program's text (a pruned copy: the packages that this seat's roots load).
-/
import Derived.Test.YtledhokhcoeeeaaDoorStTie
import Derived.Test.YtledhokhcoeeeaaDoorStK
import Derived.Test.YtledhokhcoeeeaaDoorRows
import Derived.Test.YtledhokhcoeeeaaDoorCards
import Derived.Test.YtledhokhcoeeeaaDoorTie
import Derived.Stop.LaidErr
set_option linter.unusedVariables false
namespace Go.Proofs.YtledhokhcoeeeaaDoor
open Go.ChangeShapes Go.WideShapes Go.ChangeAt Go.RowKit Go.Lf
set_option linter.unusedVariables false

theorem storeEach_own : ownKnob Tryd.prog.godebug = none := factOwn
theorem storeEach_laidOut : laidOutB Tryd.prog = true := factLaid

noncomputable abbrev storeEach_world (os : Os) : World := tieWorld os
theorem storeEach_met (os : Os) : laidMetH Tryd.prog Rows.storeEachRow.laid ((storeEach_world os).forCall (fun _ _ => 0) ⟨#[], #[.slice none 0 0, .slice none 0 0, .int .i64 0], []⟩).memory := tieMet os _
theorem storeEach_reads (os : Os) {H : Type} (enc : TypeId × Value → H) : ∃ places, DataW.whole enc Tryd.prog ((storeEach_world os).forCall (fun _ _ => 0) ⟨#[], #[.slice none 0 0, .slice none 0 0, .int .i64 0], []⟩).memory Tryd.f7.params.toList Rows.storeEachSpec.vars false #[Value.slice none 0 0, .slice none 0 0, .int .i64 0].toList 8 = some ([.nil, .nil, .lit (.int .i64 0)], [], places) :=
  ⟨[], by kernel_rfl⟩

set_option maxRecDepth 100000 in
theorem storeEach_lifted (os : Os) (started : os.Started) (H : Type) (enc : TypeId × Value → H) (F : Stop.Interp) :
    ReturnsInHanded {} Tryd.checked os 7 .any ((OpenSpec.ofChange Rows.storeEachSpec).preRow enc Tryd.prog Tryd.f7 Rows.storeEachRow.domain false Rows.storeEachRow.laid) (((OpenSpec.ofChange Rows.storeEachSpec).at F).post enc Tryd.prog Tryd.f7 false true false false) := by
  obtain ⟨places, hx⟩ := storeEach_reads os enc
  refine lawLaid (C := Tryd.checked) (s := OpenSpec.ofChange Rows.storeEachSpec) (cs := Rows.storeEachSpec) (tb := 4) (k := 3) storeEach_own started (by kernel_rfl) Tryd.func7
    (witness_row_at (enc := enc) (C := Tryd.checked) false (storeEach_world os) #[.slice none 0 0, .slice none 0 0, .int .i64 0] rfl (by kernel_rfl) (by kernel_rfl) (by kernel_rfl)
      (OpenSpec.preRow_of_cond 8 hx (by kernel_rfl) (fun k hk => by cases hk) (by kernel_rfl) (storeEach_met os))) storeEach_laidOut (by kernel_rfl) (by kernel_rfl) Tryd.underlying4 rfl rfl rfl (by kernel_rfl) ?_ ?_
  · intro ds hds
    match ds, hds with
    | [d0, d1, d2], _ => rfl
  · intro W args ds p hA hval hL _
    obtain ⟨base, hval⟩ := hval
    have hA : DataW.TrodAll enc Tryd.prog W 0 (fun _ => true) true Tryd.f7.params.toList args.toList ds p := hA
    rw [Tryd.params7] at hA
    have hval : ∀ (j : Nat) t v, Tryd.f7.params[j]? = some t → args[j]? = some v → Value.okWide Tryd.prog W .any base t v := hval
    rw [Tryd.params7] at hval
    obtain ⟨v0, vs0, d0, ds0, p0, q0, hargs, rfl, rfl, h0, r0⟩ := trodAll_cons hA
    obtain ⟨v1, vs1, d1, ds1, p1, q1, rfl, rfl, rfl, h1, r1⟩ := trodAll_cons r0
    obtain ⟨v2, vs2, d2, ds2, p2, q2, rfl, rfl, rfl, h2, r2⟩ := trodAll_cons r1
    obtain ⟨rfl, rfl, rfl⟩ := trodAll_nil r2
    obtain rfl : args = #[v0, v1, v2] := by cases args; simp_all
    obtain ⟨s0, xs0, rfl, hI0⟩ := bytes_in (hval 0 30 v0 rfl rfl) h0
    obtain ⟨s1, xs1, rfl, hI1⟩ := bytes_in (hval 1 30 v1 rfl rfl) h1
    obtain ⟨a2, rfl, rfl, rfl, w2⟩ := open_int Tryd.underlying3 (hval 2 3 v2 rfl rfl) h2
    have hG : W.cell? ⟨0, 0, none⟩ = some errT := tieErr hL
    exact seach_spec hG hI0 hI1 a2

theorem storeEach_j10 : (Rows.storeEachRow.inPlace == Tryd.prog.inPlace 7) = true := by kernel_rfl
theorem storeEach_j11 : (Rows.storeEachRow.unfollowed == Tryd.prog.unfollowed 7) = true := by kernel_rfl
theorem storeEach_j12 : (Rows.storeEachRow.recurses == Tryd.prog.recurses 7) = true := by kernel_rfl
theorem storeEach_j13 : (Rows.storeEachRow.named == Tryd.prog.varsNamed 7) = true := by kernel_rfl
theorem storeEach_joined : joinedFacts Tryd.prog 7 Tryd.f7 (OpenSpec.ofChange Rows.storeEachSpec).bare Rows.storeEachRow = true :=
  and32 (by kernel_rfl) factLaid factMaps (by kernel_rfl) (by kernel_rfl) (by kernel_rfl) factStops (by kernel_rfl) factKnobs storeEach_j10 storeEach_j11 storeEach_j12 storeEach_j13 (by kernel_rfl) (by kernel_rfl) (by kernel_rfl) (by kernel_rfl) (by kernel_rfl) (by kernel_rfl) (by kernel_rfl) (by kernel_rfl) (by kernel_rfl) factKeys (by kernel_rfl) factHeard factMay factLifts factMake (by kernel_rfl) (by kernel_rfl) (by kernel_rfl) (by kernel_rfl)

theorem storeEach_said : Rows.StoreEachSaid :=
  OpenClaim.holds_of_cond 7 Tryd.f7 rfl rfl rfl rfl rfl rfl rfl ⟨rfl, rfl, rfl, rfl, rfl⟩ rfl rfl rfl rfl rfl (by kernel_rfl) Tryd.func7 storeEach_joined
    (of_decide_eq_true (by kernel_rfl)) (by unfold Func.isWrapper; first | (rw [if_pos (by decide +kernel)]; kernel_rfl) | (rw [if_neg (by decide +kernel)]; exact ⟨rfl, rfl⟩))
    (fun os started H enc _ F => by rw [OpenClaim.pre_eq_preRow]; exact storeEach_lifted os started H enc F)

theorem storeEach_plain (f : FuncId) (fn : Func) (hf : Tryd.pinned.checked.prog.funcNamed "tryst/trystlaw14.StoreEach" = some f) (hfn : Tryd.pinned.checked.prog.funcs[f]? = some fn) :
    true = Tryd.pinned.checked.prog.looks [] ∧ ∀ (j : Nat) t, fn.params[j]? = some t → Tryd.pinned.checked.prog.wantsStandIn t = false := by
  obtain rfl : f = 7 := Option.some.inj ((show Tryd.prog.funcNamed "tryst/trystlaw14.StoreEach" = some 7 by kernel_rfl).symm.trans hf) |>.symm
  obtain rfl : fn = Tryd.f7 := (Option.some.inj (Tryd.func7.symm.trans hfn)).symm
  refine ⟨by kernel_rfl, fun j t ht => ?_⟩
  rw [Tryd.params7] at ht
  have hm := Array.mem_of_getElem? ht
  simp only [List.mem_toArray, List.mem_cons, List.not_mem_nil, or_false] at hm
  have hall : ([30, 30, 3] : List TypeId).all (fun t => Tryd.prog.wantsStandIn t == false) = true := by kernel_rfl
  have := List.all_eq_true.1 hall t (by simpa using hm)
  exact eq_of_beq this

theorem storeEach_card : Rows.StoreEachCardSaid :=
  Claim7.holds_tied_plain_at .later [] _ _ _ _ storeEach_said (fun _ h => by cases h) (by kernel_rfl) (fun _ h => by cases h) storeEach_row_tie rfl ⟨rfl, rfl⟩ (by kernel_rfl) rfl storeEach_plain (by kernel_rfl)
#print axioms storeEach_card
end Go.Proofs.YtledhokhcoeeeaaDoor
