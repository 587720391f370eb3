/-
  RatchetMeets: who sends and who takes have the same keys, in whatever order and with whatever left out, as long as none is too far ahead or too long ago; no key is told twice. Conditions: none beyond those of the given statement; the card ties the listed variable to the program's text (a pruned copy: the packages that this seat's roots load).
-/
import Derived.Test.YtoclhecldmahiaaDoorLiftA
import Derived.Test.YtoclhecldmahiaaDoorFactD
import Derived.Test.YtoclhecldmahiaaDoorRaE
import Derived.Test.YtoclhecldmahiaaDoorRows
import Derived.Test.YtoclhecldmahiaaDoorCards
import Derived.Test.YtoclhecldmahiaaDoorTie
import Derived.Stop.LaidErr
set_option linter.unusedVariables false
namespace Go.Proofs.YtoclhecldmahiaaDoor
open Go.ChangeShapes Go.WideShapes Go.ChangeAt Go.RowKit Go.Lf
set_option linter.unusedVariables false

theorem ratchetMeets_own : ownKnob Tryd.prog.godebug = none := factOwn
theorem ratchetMeets_laidOut : laidOutB Tryd.prog = true := factLaid
theorem ratchetMeets_g : Tryd.prog.globalNamed "internal/strconv.uint64pow10" = some 0 := by kernel_rfl
theorem ratchetMeets_ty : (Tryd.prog.globals[0]?).map (·.type) = some 218 := by kernel_rfl
theorem ratchetMeets_tab {W : World} (h : laidMetH Tryd.prog Rows.ratchetMeetsRow.laid W) : Lib.TabIs Tryd.prog W "internal/strconv.uint64pow10" .u64 [1, 10, 100, 1000, 10000, 100000, 1000000, 10000000, 100000000, 1000000000, 10000000000, 100000000000, 1000000000000, 10000000000000, 100000000000000, 1000000000000000, 10000000000000000, 100000000000000000, 1000000000000000000, 10000000000000000000] :=
  Lib.tabIs_of_head (rest := []) ratchetMeets_g ratchetMeets_ty Tryd.underlying218 Tryd.underlying209 (by kernel_rfl) (by kernel_rfl) (laidMet.tail (laidMet.tail h))
theorem ratchetMeets_pow : ([1, 10, 100, 1000, 10000, 100000, 1000000, 10000000, 100000000, 1000000000, 10000000000, 100000000000, 1000000000000, 10000000000000, 100000000000000, 1000000000000000, 10000000000000000, 100000000000000000, 1000000000000000000, 10000000000000000000] : List Int) = Lib.pow10Tab := by decide +kernel

noncomputable def ratchetMeets_world (os : Os) : World :=
  { World.holding Tryd.prog os ⟨#[], #[], []⟩ with heap := ((((World.holding Tryd.prog os ⟨#[], #[], []⟩).heap).modify 0 (fun | .cells _ t frozen => .cells #[.int .u64 1, .int .u64 10, .int .u64 100, .int .u64 1000, .int .u64 10000, .int .u64 100000, .int .u64 1000000, .int .u64 10000000, .int .u64 100000000, .int .u64 1000000000, .int .u64 10000000000, .int .u64 100000000000, .int .u64 1000000000000, .int .u64 10000000000000, .int .u64 100000000000000, .int .u64 1000000000000000, .int .u64 10000000000000000, .int .u64 100000000000000000, .int .u64 1000000000000000000, .int .u64 10000000000000000000] t frozen | o => o)).modify 1 (fun | .cells _ t frozen => .cells #[.int .u8 0, .int .u8 1, .int .u8 28, .int .u8 2, .int .u8 29, .int .u8 14, .int .u8 24, .int .u8 3, .int .u8 30, .int .u8 22, .int .u8 20, .int .u8 15, .int .u8 25, .int .u8 17, .int .u8 4, .int .u8 8, .int .u8 31, .int .u8 27, .int .u8 13, .int .u8 23, .int .u8 21, .int .u8 19, .int .u8 16, .int .u8 7, .int .u8 26, .int .u8 12, .int .u8 18, .int .u8 6, .int .u8 11, .int .u8 5, .int .u8 10, .int .u8 9] t frozen | o => o)).modify 2 (fun | .cells _ t frozen => .cells #[.int .u8 0, .int .u8 1, .int .u8 56, .int .u8 2, .int .u8 57, .int .u8 49, .int .u8 28, .int .u8 3, .int .u8 61, .int .u8 58, .int .u8 42, .int .u8 50, .int .u8 38, .int .u8 29, .int .u8 17, .int .u8 4, .int .u8 62, .int .u8 47, .int .u8 59, .int .u8 36, .int .u8 45, .int .u8 43, .int .u8 51, .int .u8 22, .int .u8 53, .int .u8 39, .int .u8 33, .int .u8 30, .int .u8 24, .int .u8 18, .int .u8 12, .int .u8 5, .int .u8 63, .int .u8 55, .int .u8 48, .int .u8 27, .int .u8 60, .int .u8 41, .int .u8 37, .int .u8 16, .int .u8 46, .int .u8 35, .int .u8 44, .int .u8 21, .int .u8 52, .int .u8 32, .int .u8 23, .int .u8 11, .int .u8 54, .int .u8 26, .int .u8 40, .int .u8 15, .int .u8 34, .int .u8 20, .int .u8 31, .int .u8 10, .int .u8 25, .int .u8 14, .int .u8 19, .int .u8 9, .int .u8 13, .int .u8 8, .int .u8 7, .int .u8 6] t frozen | o => o) }
theorem ratchetMeets_met (os : Os) : laidMet Tryd.prog Rows.ratchetMeetsRow.laid ((ratchetMeets_world os).forCall (fun _ _ => 0) ⟨#[], #[.int .i64 0, .slice none 0 0], []⟩).memory :=
  laidMet_of_run' 8 (by kernel_rfl) (by kernel_rfl)
theorem ratchetMeets_reads (os : Os) {H : Type} (enc : TypeId × Value → H) : ∃ places, DataW.whole enc Tryd.prog ((ratchetMeets_world os).forCall (fun _ _ => 0) ⟨#[], #[.int .i64 0, .slice none 0 0], []⟩).memory Tryd.f14.params.toList Rows.ratchetMeetsSpec.vars false #[Value.int .i64 0, .slice none 0 0].toList 8 = some ([.lit (.int .i64 0), .nil], [], places) :=
  ⟨[], by kernel_rfl⟩

set_option maxRecDepth 100000 in
theorem ratchetMeets_lifted (os : Os) (started : os.Started) (H : Type) (enc : TypeId × Value → H) (F : Stop.Interp) :
    ReturnsInHanded {} Tryd.checked os 14 .any ((OpenSpec.ofChange Rows.ratchetMeetsSpec).preRow enc Tryd.prog Tryd.f14 Rows.ratchetMeetsRow.domain false Rows.ratchetMeetsRow.laid) (((OpenSpec.ofChange Rows.ratchetMeetsSpec).at F).post enc Tryd.prog Tryd.f14 false true false false) := by
  obtain ⟨places, hx⟩ := ratchetMeets_reads os enc
  refine lawLaid (C := Tryd.checked) (s := OpenSpec.ofChange Rows.ratchetMeetsSpec) (cs := Rows.ratchetMeetsSpec) (tb := 4) (k := 2) ratchetMeets_own started (by kernel_rfl) Tryd.func14
    (witness_row_at (enc := enc) (C := Tryd.checked) false (ratchetMeets_world os) #[.int .i64 0, .slice none 0 0] rfl (by kernel_rfl) (by kernel_rfl) (by kernel_rfl)
      (OpenSpec.preRow_of_cond 8 hx (by kernel_rfl) (fun k hk => by cases hk) (by kernel_rfl) (ratchetMeets_met os))) ratchetMeets_laidOut (by kernel_rfl) (by kernel_rfl) Tryd.underlying4 rfl rfl rfl (by kernel_rfl) ?_ ?_
  · intro ds hds
    match ds, hds with
    | [d0, d1], _ => rfl
  · intro W args ds p hA hval hL _
    obtain ⟨base, hval⟩ := hval
    have hA : DataW.TrodAll enc Tryd.prog W 0 (fun _ => true) true Tryd.f14.params.toList args.toList ds p := hA
    rw [Tryd.params14] at hA
    have hval : ∀ (j : Nat) t v, Tryd.f14.params[j]? = some t → args[j]? = some v → Value.okWide Tryd.prog W .any base t v := hval
    rw [Tryd.params14] at hval
    obtain ⟨v0, vs0, d0, ds0, p0, q0, hargs, rfl, rfl, h0, r0⟩ := trodAll_cons hA
    obtain ⟨v1, vs1, d1, ds1, p1, q1, rfl, rfl, rfl, h1, r1⟩ := trodAll_cons r0
    obtain ⟨rfl, rfl, rfl⟩ := trodAll_nil r1
    obtain rfl : args = #[v0, v1] := by cases args; simp_all
    obtain ⟨a0, rfl, rfl, rfl, w0⟩ := open_int Tryd.underlying3 (hval 0 3 v0 rfl rfl) h0
    obtain ⟨s1, xs1, rfl, hI1⟩ := intsw_in (hval 1 29 v1 rfl rfl) h1
    have hT : PT W.heap.size W := Lib.tabBelow_of_tabIs (by have h := ratchetMeets_tab hL; rw [ratchetMeets_pow] at h; exact h)
    exact rmeets_spec hT hI1 a0

theorem ratchetMeets_j10 : (Rows.ratchetMeetsRow.inPlace == Tryd.prog.inPlace 14) = true := by kernel_rfl
theorem ratchetMeets_j11 : (Rows.ratchetMeetsRow.unfollowed == Tryd.prog.unfollowed 14) = true := by kernel_rfl
theorem ratchetMeets_j12 : (Rows.ratchetMeetsRow.recurses == Tryd.prog.recurses 14) = true := by kernel_rfl
theorem ratchetMeets_j13 : (Rows.ratchetMeetsRow.named == Tryd.prog.varsNamed 14) = true := by kernel_rfl
theorem ratchetMeets_joined : joinedFacts Tryd.prog 14 Tryd.f14 (OpenSpec.ofChange Rows.ratchetMeetsSpec).bare Rows.ratchetMeetsRow = true :=
  and32 (by kernel_rfl) factLaid factMaps (by kernel_rfl) (by kernel_rfl) (by kernel_rfl) factStops (by kernel_rfl) factKnobs ratchetMeets_j10 ratchetMeets_j11 ratchetMeets_j12 ratchetMeets_j13 (by kernel_rfl) (by kernel_rfl) (by kernel_rfl) (by kernel_rfl) (by kernel_rfl) (by kernel_rfl) (by kernel_rfl) (by kernel_rfl) (by kernel_rfl) factKeys (by kernel_rfl) factHeard factMay factLifts factMake (by kernel_rfl) (by kernel_rfl) (by kernel_rfl) (by kernel_rfl)

theorem ratchetMeets_said : Rows.RatchetMeetsSaid :=
  OpenClaim.holds_of_cond 14 Tryd.f14 rfl rfl rfl rfl rfl rfl rfl ⟨rfl, rfl, rfl, rfl, rfl⟩ rfl rfl rfl rfl rfl (by kernel_rfl) Tryd.func14 ratchetMeets_joined
    (of_decide_eq_true (by kernel_rfl)) (by unfold Func.isWrapper; first | (rw [if_pos (by decide +kernel)]; kernel_rfl) | (rw [if_neg (by decide +kernel)]; exact ⟨rfl, rfl⟩))
    (fun os started H enc _ F => by rw [OpenClaim.pre_eq_preRow]; exact ratchetMeets_lifted os started H enc F)

theorem ratchetMeets_plain (f : FuncId) (fn : Func) (hf : Tryd.pinned.checked.prog.funcNamed "tryst/trystlaw19.RatchetMeets" = some f) (hfn : Tryd.pinned.checked.prog.funcs[f]? = some fn) :
    false = Tryd.pinned.checked.prog.looks [] ∧ ∀ (j : Nat) t, fn.params[j]? = some t → Tryd.pinned.checked.prog.wantsStandIn t = false := by
  obtain rfl : f = 14 := Option.some.inj ((show Tryd.prog.funcNamed "tryst/trystlaw19.RatchetMeets" = some 14 by kernel_rfl).symm.trans hf) |>.symm
  obtain rfl : fn = Tryd.f14 := (Option.some.inj (Tryd.func14.symm.trans hfn)).symm
  refine ⟨by kernel_rfl, fun j t ht => ?_⟩
  rw [Tryd.params14] at ht
  have hm := Array.mem_of_getElem? ht
  simp only [List.mem_toArray, List.mem_cons, List.not_mem_nil, or_false] at hm
  have hall : ([3, 29] : List TypeId).all (fun t => Tryd.prog.wantsStandIn t == false) = true := by kernel_rfl
  have := List.all_eq_true.1 hall t (by simpa using hm)
  exact eq_of_beq this

theorem ratchetMeets_card : Rows.RatchetMeetsCardSaid :=
  Claim7.holds_tied_plain_at .later [] _ _ _ _ ratchetMeets_said (fun _ h => by cases h) (by kernel_rfl) (fun _ h => by cases h) ratchetMeets_row_tie rfl ⟨rfl, rfl⟩ (by kernel_rfl) rfl ratchetMeets_plain (by kernel_rfl)
#print axioms ratchetMeets_card
end Go.Proofs.YtoclhecldmahiaaDoor
