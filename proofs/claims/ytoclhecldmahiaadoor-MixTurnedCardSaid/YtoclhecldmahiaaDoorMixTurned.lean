/-
  MixTurned: a round under other permutations gives each the same answer, term by term, and leaves the same registers, but for their order. Conditions: none beyond those of the given statement; the card ties the listed variable to the program's text (a pruned copy: the packages that this seat's roots load).
-/
import Derived.Test.YtoclhecldmahiaaDoorLiftA
import Derived.Test.YtoclhecldmahiaaDoorFactD
import Derived.Test.YtoclhecldmahiaaDoorMyP
import Derived.Test.YtoclhecldmahiaaDoorRows
import Derived.Test.YtoclhecldmahiaaDoorCards
import Derived.Test.YtoclhecldmahiaaDoorTie
import Derived.Stop.LaidErr
set_option linter.unusedVariables false
namespace Go.Proofs.YtoclhecldmahiaaDoor
open Go.ChangeShapes Go.WideShapes Go.ChangeAt Go.RowKit Go.Lf
set_option linter.unusedVariables false

theorem mixTurned_own : ownKnob Tryd.prog.godebug = none := factOwn
theorem mixTurned_laidOut : laidOutB Tryd.prog = true := factLaid
theorem mixTurned_g : Tryd.prog.globalNamed "internal/strconv.uint64pow10" = some 0 := by kernel_rfl
theorem mixTurned_ty : (Tryd.prog.globals[0]?).map (·.type) = some 218 := by kernel_rfl
theorem mixTurned_tab {W : World} (h : laidMetH Tryd.prog Rows.mixTurnedRow.laid W) : Lib.TabIs Tryd.prog W "internal/strconv.uint64pow10" .u64 [1, 10, 100, 1000, 10000, 100000, 1000000, 10000000, 100000000, 1000000000, 10000000000, 100000000000, 1000000000000, 10000000000000, 100000000000000, 1000000000000000, 10000000000000000, 100000000000000000, 1000000000000000000, 10000000000000000000] :=
  Lib.tabIs_of_head (rest := []) mixTurned_g mixTurned_ty Tryd.underlying218 Tryd.underlying209 (by kernel_rfl) (by kernel_rfl) (laidMet.tail (laidMet.tail h))
theorem mixTurned_pow : ([1, 10, 100, 1000, 10000, 100000, 1000000, 10000000, 100000000, 1000000000, 10000000000, 100000000000, 1000000000000, 10000000000000, 100000000000000, 1000000000000000, 10000000000000000, 100000000000000000, 1000000000000000000, 10000000000000000000] : List Int) = Lib.pow10Tab := by decide +kernel

noncomputable def mixTurned_world (os : Os) : World :=
  { World.holding Tryd.prog os ⟨#[], #[], []⟩ with heap := ((((World.holding Tryd.prog os ⟨#[], #[], []⟩).heap).modify 0 (fun | .cells _ t frozen => .cells #[.int .u64 1, .int .u64 10, .int .u64 100, .int .u64 1000, .int .u64 10000, .int .u64 100000, .int .u64 1000000, .int .u64 10000000, .int .u64 100000000, .int .u64 1000000000, .int .u64 10000000000, .int .u64 100000000000, .int .u64 1000000000000, .int .u64 10000000000000, .int .u64 100000000000000, .int .u64 1000000000000000, .int .u64 10000000000000000, .int .u64 100000000000000000, .int .u64 1000000000000000000, .int .u64 10000000000000000000] t frozen | o => o)).modify 1 (fun | .cells _ t frozen => .cells #[.int .u8 0, .int .u8 1, .int .u8 28, .int .u8 2, .int .u8 29, .int .u8 14, .int .u8 24, .int .u8 3, .int .u8 30, .int .u8 22, .int .u8 20, .int .u8 15, .int .u8 25, .int .u8 17, .int .u8 4, .int .u8 8, .int .u8 31, .int .u8 27, .int .u8 13, .int .u8 23, .int .u8 21, .int .u8 19, .int .u8 16, .int .u8 7, .int .u8 26, .int .u8 12, .int .u8 18, .int .u8 6, .int .u8 11, .int .u8 5, .int .u8 10, .int .u8 9] t frozen | o => o)).modify 2 (fun | .cells _ t frozen => .cells #[.int .u8 0, .int .u8 1, .int .u8 56, .int .u8 2, .int .u8 57, .int .u8 49, .int .u8 28, .int .u8 3, .int .u8 61, .int .u8 58, .int .u8 42, .int .u8 50, .int .u8 38, .int .u8 29, .int .u8 17, .int .u8 4, .int .u8 62, .int .u8 47, .int .u8 59, .int .u8 36, .int .u8 45, .int .u8 43, .int .u8 51, .int .u8 22, .int .u8 53, .int .u8 39, .int .u8 33, .int .u8 30, .int .u8 24, .int .u8 18, .int .u8 12, .int .u8 5, .int .u8 63, .int .u8 55, .int .u8 48, .int .u8 27, .int .u8 60, .int .u8 41, .int .u8 37, .int .u8 16, .int .u8 46, .int .u8 35, .int .u8 44, .int .u8 21, .int .u8 52, .int .u8 32, .int .u8 23, .int .u8 11, .int .u8 54, .int .u8 26, .int .u8 40, .int .u8 15, .int .u8 34, .int .u8 20, .int .u8 31, .int .u8 10, .int .u8 25, .int .u8 14, .int .u8 19, .int .u8 9, .int .u8 13, .int .u8 8, .int .u8 7, .int .u8 6] t frozen | o => o) }
theorem mixTurned_met (os : Os) : laidMet Tryd.prog Rows.mixTurnedRow.laid ((mixTurned_world os).forCall (fun _ _ => 0) ⟨#[], #[.int .i64 0, .slice none 0 0, .slice none 0 0, .slice none 0 0], []⟩).memory :=
  laidMet_of_run' 8 (by kernel_rfl) (by kernel_rfl)
theorem mixTurned_reads (os : Os) {H : Type} (enc : TypeId × Value → H) : ∃ places, DataW.whole enc Tryd.prog ((mixTurned_world os).forCall (fun _ _ => 0) ⟨#[], #[.int .i64 0, .slice none 0 0, .slice none 0 0, .slice none 0 0], []⟩).memory Tryd.f20.params.toList Rows.mixTurnedSpec.vars false #[Value.int .i64 0, .slice none 0 0, .slice none 0 0, .slice none 0 0].toList 8 = some ([.lit (.int .i64 0), .nil, .nil, .nil], [], places) :=
  ⟨[], by kernel_rfl⟩

set_option maxRecDepth 100000 in
theorem mixTurned_lifted (os : Os) (started : os.Started) (H : Type) (enc : TypeId × Value → H) (F : Stop.Interp) :
    ReturnsInHanded {} Tryd.checked os 20 .any ((OpenSpec.ofChange Rows.mixTurnedSpec).preRow enc Tryd.prog Tryd.f20 Rows.mixTurnedRow.domain false Rows.mixTurnedRow.laid) (((OpenSpec.ofChange Rows.mixTurnedSpec).at F).post enc Tryd.prog Tryd.f20 false true false false) := by
  obtain ⟨places, hx⟩ := mixTurned_reads os enc
  refine lawLaid (C := Tryd.checked) (s := OpenSpec.ofChange Rows.mixTurnedSpec) (cs := Rows.mixTurnedSpec) (tb := 4) (k := 4) mixTurned_own started (by kernel_rfl) Tryd.func20
    (witness_row_at (enc := enc) (C := Tryd.checked) false (mixTurned_world os) #[.int .i64 0, .slice none 0 0, .slice none 0 0, .slice none 0 0] rfl (by kernel_rfl) (by kernel_rfl) (by kernel_rfl)
      (OpenSpec.preRow_of_cond 8 hx (by kernel_rfl) (fun k hk => by cases hk) (by kernel_rfl) (mixTurned_met os))) mixTurned_laidOut (by kernel_rfl) (by kernel_rfl) Tryd.underlying4 rfl rfl rfl (by kernel_rfl) ?_ ?_
  · intro ds hds
    match ds, hds with
    | [d0, d1, d2, d3], _ => rfl
  · intro W args ds p hA hval hL _
    obtain ⟨base, hval⟩ := hval
    have hA : DataW.TrodAll enc Tryd.prog W 0 (fun _ => true) true Tryd.f20.params.toList args.toList ds p := hA
    rw [Tryd.params20] at hA
    have hval : ∀ (j : Nat) t v, Tryd.f20.params[j]? = some t → args[j]? = some v → Value.okWide Tryd.prog W .any base t v := hval
    rw [Tryd.params20] at hval
    obtain ⟨v0, vs0, d0, ds0, p0, q0, hargs, rfl, rfl, h0, r0⟩ := trodAll_cons hA
    obtain ⟨v1, vs1, d1, ds1, p1, q1, rfl, rfl, rfl, h1, r1⟩ := trodAll_cons r0
    obtain ⟨v2, vs2, d2, ds2, p2, q2, rfl, rfl, rfl, h2, r2⟩ := trodAll_cons r1
    obtain ⟨v3, vs3, d3, ds3, p3, q3, rfl, rfl, rfl, h3, r3⟩ := trodAll_cons r2
    obtain ⟨rfl, rfl, rfl⟩ := trodAll_nil r3
    obtain rfl : args = #[v0, v1, v2, v3] := by cases args; simp_all
    obtain ⟨a0, rfl, rfl, rfl, w0⟩ := open_int Tryd.underlying3 (hval 0 3 v0 rfl rfl) h0
    obtain ⟨s1, xs1, rfl, hI1⟩ := asks_in (hval 1 65 v1 rfl rfl) h1
    obtain ⟨s2, xs2, rfl, hI2⟩ := rowsw_in (hval 2 128 v2 rfl rfl) h2
    obtain ⟨s3, xs3, rfl, hI3⟩ := rowsw_in (hval 3 128 v3 rfl rfl) h3
    have hT : PT W.heap.size W := Lib.tabBelow_of_tabIs (by have h := mixTurned_tab hL; rw [mixTurned_pow] at h; exact h)
    exact mturned_spec hT hI1 hI2 hI3 a0

theorem mixTurned_j10 : (Rows.mixTurnedRow.inPlace == Tryd.prog.inPlace 20) = true := by kernel_rfl
theorem mixTurned_j11 : (Rows.mixTurnedRow.unfollowed == Tryd.prog.unfollowed 20) = true := by kernel_rfl
theorem mixTurned_j12 : (Rows.mixTurnedRow.recurses == Tryd.prog.recurses 20) = true := by kernel_rfl
theorem mixTurned_j13 : (Rows.mixTurnedRow.named == Tryd.prog.varsNamed 20) = true := by kernel_rfl
theorem mixTurned_joined : joinedFacts Tryd.prog 20 Tryd.f20 (OpenSpec.ofChange Rows.mixTurnedSpec).bare Rows.mixTurnedRow = true :=
  and32 (by kernel_rfl) factLaid factMaps (by kernel_rfl) (by kernel_rfl) (by kernel_rfl) factStops (by kernel_rfl) factKnobs mixTurned_j10 mixTurned_j11 mixTurned_j12 mixTurned_j13 (by kernel_rfl) (by kernel_rfl) (by kernel_rfl) (by kernel_rfl) (by kernel_rfl) (by kernel_rfl) (by kernel_rfl) (by kernel_rfl) (by kernel_rfl) factKeys (by kernel_rfl) factHeard factMay factLifts factMake (by kernel_rfl) (by kernel_rfl) (by kernel_rfl) (by kernel_rfl)

theorem mixTurned_said : Rows.MixTurnedSaid :=
  OpenClaim.holds_of_cond 20 Tryd.f20 rfl rfl rfl rfl rfl rfl rfl ⟨rfl, rfl, rfl, rfl, rfl⟩ rfl rfl rfl rfl rfl (by kernel_rfl) Tryd.func20 mixTurned_joined
    (of_decide_eq_true (by kernel_rfl)) (by unfold Func.isWrapper; first | (rw [if_pos (by decide +kernel)]; kernel_rfl) | (rw [if_neg (by decide +kernel)]; exact ⟨rfl, rfl⟩))
    (fun os started H enc _ F => by rw [OpenClaim.pre_eq_preRow]; exact mixTurned_lifted os started H enc F)

theorem mixTurned_plain (f : FuncId) (fn : Func) (hf : Tryd.pinned.checked.prog.funcNamed "tryst/trystlaw24.MixTurned" = some f) (hfn : Tryd.pinned.checked.prog.funcs[f]? = some fn) :
    false = Tryd.pinned.checked.prog.looks [] ∧ ∀ (j : Nat) t, fn.params[j]? = some t → Tryd.pinned.checked.prog.wantsStandIn t = false := by
  obtain rfl : f = 20 := Option.some.inj ((show Tryd.prog.funcNamed "tryst/trystlaw24.MixTurned" = some 20 by kernel_rfl).symm.trans hf) |>.symm
  obtain rfl : fn = Tryd.f20 := (Option.some.inj (Tryd.func20.symm.trans hfn)).symm
  refine ⟨by kernel_rfl, fun j t ht => ?_⟩
  rw [Tryd.params20] at ht
  have hm := Array.mem_of_getElem? ht
  simp only [List.mem_toArray, List.mem_cons, List.not_mem_nil, or_false] at hm
  have hall : ([3, 65, 128, 128] : List TypeId).all (fun t => Tryd.prog.wantsStandIn t == false) = true := by kernel_rfl
  have := List.all_eq_true.1 hall t (by simpa using hm)
  exact eq_of_beq this

theorem mixTurned_w : Rows.mixTurnedRow.wfByText (OpenSpec.ofChange Rows.mixTurnedSpec) = true := by kernel_rfl
theorem mixTurned_m : Tryd.pinned.checked.prog.mainIs = some (true, ("52fea8c32552446b526ad1a272da36277868ae8fb91bd6aefd3b9c92f0879cd4" : String).toList) := by kernel_rfl
theorem mixTurned_b : false = Rows.mixTurnedRow.goesBy Tryd.pinned.checked.prog := by kernel_rfl
theorem mixTurned_card : Rows.MixTurnedCardSaid :=
  Claim7.holds_tied_plain_at .later [] _ _ _ _ mixTurned_said (fun _ h => by cases h) mixTurned_w (fun _ h => by cases h) mixTurned_row_tie rfl ⟨rfl, rfl⟩ mixTurned_m rfl mixTurned_plain mixTurned_b
#print axioms mixTurned_card
end Go.Proofs.YtoclhecldmahiaaDoor
