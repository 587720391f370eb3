/-
  MixRounds: rounds of all servers, one behind the other, of any onions, wrapped or not, seen or not, permuted in any way: what they hold, and each answer, is the page's. Conditions: none beyond those of the given statement; the card ties the listed variable to the program's text (a pruned copy: the packages that this seat's roots load).
-/
import Derived.Test.YtoclhecldmahiaaDoorLiftA
import Derived.Test.YtoclhecldmahiaaDoorFactD
import Derived.Test.YtoclhecldmahiaaDoorMxY
import Derived.Test.YtoclhecldmahiaaDoorRows
import Derived.Test.YtoclhecldmahiaaDoorCards
import Derived.Test.YtoclhecldmahiaaDoorTie
import Derived.Stop.LaidErr
set_option linter.unusedVariables false
namespace Go.Proofs.YtoclhecldmahiaaDoor
open Go.ChangeShapes Go.WideShapes Go.ChangeAt Go.RowKit Go.Lf
set_option linter.unusedVariables false

theorem mixRounds_own : ownKnob Tryd.prog.godebug = none := factOwn
theorem mixRounds_laidOut : laidOutB Tryd.prog = true := factLaid
theorem mixRounds_g : Tryd.prog.globalNamed "internal/strconv.uint64pow10" = some 0 := by kernel_rfl
theorem mixRounds_ty : (Tryd.prog.globals[0]?).map (·.type) = some 218 := by kernel_rfl
theorem mixRounds_tab {W : World} (h : laidMetH Tryd.prog Rows.mixRoundsRow.laid W) : Lib.TabIs Tryd.prog W "internal/strconv.uint64pow10" .u64 [1, 10, 100, 1000, 10000, 100000, 1000000, 10000000, 100000000, 1000000000, 10000000000, 100000000000, 1000000000000, 10000000000000, 100000000000000, 1000000000000000, 10000000000000000, 100000000000000000, 1000000000000000000, 10000000000000000000] :=
  Lib.tabIs_of_head (rest := []) mixRounds_g mixRounds_ty Tryd.underlying218 Tryd.underlying209 (by kernel_rfl) (by kernel_rfl) (laidMet.tail (laidMet.tail h))
theorem mixRounds_pow : ([1, 10, 100, 1000, 10000, 100000, 1000000, 10000000, 100000000, 1000000000, 10000000000, 100000000000, 1000000000000, 10000000000000, 100000000000000, 1000000000000000, 10000000000000000, 100000000000000000, 1000000000000000000, 10000000000000000000] : List Int) = Lib.pow10Tab := by decide +kernel

noncomputable def mixRounds_world (os : Os) : World :=
  { World.holding Tryd.prog os ⟨#[], #[], []⟩ with heap := ((((World.holding Tryd.prog os ⟨#[], #[], []⟩).heap).modify 0 (fun | .cells _ t frozen => .cells #[.int .u64 1, .int .u64 10, .int .u64 100, .int .u64 1000, .int .u64 10000, .int .u64 100000, .int .u64 1000000, .int .u64 10000000, .int .u64 100000000, .int .u64 1000000000, .int .u64 10000000000, .int .u64 100000000000, .int .u64 1000000000000, .int .u64 10000000000000, .int .u64 100000000000000, .int .u64 1000000000000000, .int .u64 10000000000000000, .int .u64 100000000000000000, .int .u64 1000000000000000000, .int .u64 10000000000000000000] t frozen | o => o)).modify 1 (fun | .cells _ t frozen => .cells #[.int .u8 0, .int .u8 1, .int .u8 28, .int .u8 2, .int .u8 29, .int .u8 14, .int .u8 24, .int .u8 3, .int .u8 30, .int .u8 22, .int .u8 20, .int .u8 15, .int .u8 25, .int .u8 17, .int .u8 4, .int .u8 8, .int .u8 31, .int .u8 27, .int .u8 13, .int .u8 23, .int .u8 21, .int .u8 19, .int .u8 16, .int .u8 7, .int .u8 26, .int .u8 12, .int .u8 18, .int .u8 6, .int .u8 11, .int .u8 5, .int .u8 10, .int .u8 9] t frozen | o => o)).modify 2 (fun | .cells _ t frozen => .cells #[.int .u8 0, .int .u8 1, .int .u8 56, .int .u8 2, .int .u8 57, .int .u8 49, .int .u8 28, .int .u8 3, .int .u8 61, .int .u8 58, .int .u8 42, .int .u8 50, .int .u8 38, .int .u8 29, .int .u8 17, .int .u8 4, .int .u8 62, .int .u8 47, .int .u8 59, .int .u8 36, .int .u8 45, .int .u8 43, .int .u8 51, .int .u8 22, .int .u8 53, .int .u8 39, .int .u8 33, .int .u8 30, .int .u8 24, .int .u8 18, .int .u8 12, .int .u8 5, .int .u8 63, .int .u8 55, .int .u8 48, .int .u8 27, .int .u8 60, .int .u8 41, .int .u8 37, .int .u8 16, .int .u8 46, .int .u8 35, .int .u8 44, .int .u8 21, .int .u8 52, .int .u8 32, .int .u8 23, .int .u8 11, .int .u8 54, .int .u8 26, .int .u8 40, .int .u8 15, .int .u8 34, .int .u8 20, .int .u8 31, .int .u8 10, .int .u8 25, .int .u8 14, .int .u8 19, .int .u8 9, .int .u8 13, .int .u8 8, .int .u8 7, .int .u8 6] t frozen | o => o) }
theorem mixRounds_met (os : Os) : laidMet Tryd.prog Rows.mixRoundsRow.laid ((mixRounds_world os).forCall (fun _ _ => 0) ⟨#[], #[.slice none 0 0, .slice none 0 0, .bool false], []⟩).memory :=
  laidMet_of_run' 8 (by kernel_rfl) (by kernel_rfl)
theorem mixRounds_reads (os : Os) {H : Type} (enc : TypeId × Value → H) : ∃ places, DataW.whole enc Tryd.prog ((mixRounds_world os).forCall (fun _ _ => 0) ⟨#[], #[.slice none 0 0, .slice none 0 0, .bool false], []⟩).memory Tryd.f19.params.toList Rows.mixRoundsSpec.vars false #[Value.slice none 0 0, .slice none 0 0, .bool false].toList 8 = some ([.nil, .nil, .lit (.bool false)], [], places) :=
  ⟨[], by kernel_rfl⟩

set_option maxRecDepth 100000 in
theorem mixRounds_lifted (os : Os) (started : os.Started) (H : Type) (enc : TypeId × Value → H) (F : Stop.Interp) :
    ReturnsInHanded {} Tryd.checked os 19 .any ((OpenSpec.ofChange Rows.mixRoundsSpec).preRow enc Tryd.prog Tryd.f19 Rows.mixRoundsRow.domain false Rows.mixRoundsRow.laid) (((OpenSpec.ofChange Rows.mixRoundsSpec).at F).post enc Tryd.prog Tryd.f19 false true false false) := by
  obtain ⟨places, hx⟩ := mixRounds_reads os enc
  refine lawLaid (C := Tryd.checked) (s := OpenSpec.ofChange Rows.mixRoundsSpec) (cs := Rows.mixRoundsSpec) (tb := 4) (k := 3) mixRounds_own started (by kernel_rfl) Tryd.func19
    (witness_row_at (enc := enc) (C := Tryd.checked) false (mixRounds_world os) #[.slice none 0 0, .slice none 0 0, .bool false] rfl (by kernel_rfl) (by kernel_rfl) (by kernel_rfl)
      (OpenSpec.preRow_of_cond 8 hx (by kernel_rfl) (fun k hk => by cases hk) (by kernel_rfl) (mixRounds_met os))) mixRounds_laidOut (by kernel_rfl) (by kernel_rfl) Tryd.underlying4 rfl rfl rfl (by kernel_rfl) ?_ ?_
  · intro ds hds
    match ds, hds with
    | [d0, d1, d2], _ => rfl
  · intro W args ds p hA hval hL _
    obtain ⟨base, hval⟩ := hval
    have hA : DataW.TrodAll enc Tryd.prog W 0 (fun _ => true) true Tryd.f19.params.toList args.toList ds p := hA
    rw [Tryd.params19] at hA
    have hval : ∀ (j : Nat) t v, Tryd.f19.params[j]? = some t → args[j]? = some v → Value.okWide Tryd.prog W .any base t v := hval
    rw [Tryd.params19] at hval
    obtain ⟨v0, vs0, d0, ds0, p0, q0, hargs, rfl, rfl, h0, r0⟩ := trodAll_cons hA
    obtain ⟨v1, vs1, d1, ds1, p1, q1, rfl, rfl, rfl, h1, r1⟩ := trodAll_cons r0
    obtain ⟨v2, vs2, d2, ds2, p2, q2, rfl, rfl, rfl, h2, r2⟩ := trodAll_cons r1
    obtain ⟨rfl, rfl, rfl⟩ := trodAll_nil r2
    obtain rfl : args = #[v0, v1, v2] := by cases args; simp_all
    obtain ⟨s0, xs0, rfl, hI0⟩ := stps_in (hval 0 22 v0 rfl rfl) h0
    obtain ⟨s1, xs1, rfl, hI1⟩ := rounds_in (hval 1 124 v1 rfl rfl) h1
    obtain ⟨a2, rfl, rfl, rfl⟩ := open_bool Tryd.underlying4 (hval 2 4 v2 rfl rfl) h2
    have hT : PT W.heap.size W := Lib.tabBelow_of_tabIs (by have h := mixRounds_tab hL; rw [mixRounds_pow] at h; exact h)
    exact rounds_spec hT hI0 hI1 a2

theorem mixRounds_j10 : (Rows.mixRoundsRow.inPlace == Tryd.prog.inPlace 19) = true := by kernel_rfl
theorem mixRounds_j11 : (Rows.mixRoundsRow.unfollowed == Tryd.prog.unfollowed 19) = true := by kernel_rfl
theorem mixRounds_j12 : (Rows.mixRoundsRow.recurses == Tryd.prog.recurses 19) = true := by kernel_rfl
theorem mixRounds_j13 : (Rows.mixRoundsRow.named == Tryd.prog.varsNamed 19) = true := by kernel_rfl
theorem mixRounds_joined : joinedFacts Tryd.prog 19 Tryd.f19 (OpenSpec.ofChange Rows.mixRoundsSpec).bare Rows.mixRoundsRow = true :=
  and32 (by kernel_rfl) factLaid factMaps (by kernel_rfl) (by kernel_rfl) (by kernel_rfl) factStops (by kernel_rfl) factKnobs mixRounds_j10 mixRounds_j11 mixRounds_j12 mixRounds_j13 (by kernel_rfl) (by kernel_rfl) (by kernel_rfl) (by kernel_rfl) (by kernel_rfl) (by kernel_rfl) (by kernel_rfl) (by kernel_rfl) (by kernel_rfl) factKeys (by kernel_rfl) factHeard factMay factLifts factMake (by kernel_rfl) (by kernel_rfl) (by kernel_rfl) (by kernel_rfl)

theorem mixRounds_said : Rows.MixRoundsSaid :=
  OpenClaim.holds_of_cond 19 Tryd.f19 rfl rfl rfl rfl rfl rfl rfl ⟨rfl, rfl, rfl, rfl, rfl⟩ rfl rfl rfl rfl rfl (by kernel_rfl) Tryd.func19 mixRounds_joined
    (of_decide_eq_true (by kernel_rfl)) (by unfold Func.isWrapper; first | (rw [if_pos (by decide +kernel)]; kernel_rfl) | (rw [if_neg (by decide +kernel)]; exact ⟨rfl, rfl⟩))
    (fun os started H enc _ F => by rw [OpenClaim.pre_eq_preRow]; exact mixRounds_lifted os started H enc F)

theorem mixRounds_plain (f : FuncId) (fn : Func) (hf : Tryd.pinned.checked.prog.funcNamed "tryst/trystlaw24.MixRounds" = some f) (hfn : Tryd.pinned.checked.prog.funcs[f]? = some fn) :
    false = Tryd.pinned.checked.prog.looks [] ∧ ∀ (j : Nat) t, fn.params[j]? = some t → Tryd.pinned.checked.prog.wantsStandIn t = false := by
  obtain rfl : f = 19 := Option.some.inj ((show Tryd.prog.funcNamed "tryst/trystlaw24.MixRounds" = some 19 by kernel_rfl).symm.trans hf) |>.symm
  obtain rfl : fn = Tryd.f19 := (Option.some.inj (Tryd.func19.symm.trans hfn)).symm
  refine ⟨by kernel_rfl, fun j t ht => ?_⟩
  rw [Tryd.params19] at ht
  have hm := Array.mem_of_getElem? ht
  simp only [List.mem_toArray, List.mem_cons, List.not_mem_nil, or_false] at hm
  have hall : ([22, 124, 4] : List TypeId).all (fun t => Tryd.prog.wantsStandIn t == false) = true := by kernel_rfl
  have := List.all_eq_true.1 hall t (by simpa using hm)
  exact eq_of_beq this

theorem mixRounds_w : Rows.mixRoundsRow.wfByText (OpenSpec.ofChange Rows.mixRoundsSpec) = true := by kernel_rfl
theorem mixRounds_m : Tryd.pinned.checked.prog.mainIs = some (true, ("52fea8c32552446b526ad1a272da36277868ae8fb91bd6aefd3b9c92f0879cd4" : String).toList) := by kernel_rfl
theorem mixRounds_b : false = Rows.mixRoundsRow.goesBy Tryd.pinned.checked.prog := by kernel_rfl
theorem mixRounds_card : Rows.MixRoundsCardSaid :=
  Claim7.holds_tied_plain_at .later [] _ _ _ _ mixRounds_said (fun _ h => by cases h) mixRounds_w (fun _ h => by cases h) mixRounds_row_tie rfl ⟨rfl, rfl⟩ mixRounds_m rfl mixRounds_plain mixRounds_b
#print axioms mixRounds_card
end Go.Proofs.YtoclhecldmahiaaDoor
