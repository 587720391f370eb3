/-
  KnowSecrets: a secret that stands beneath nothing that is known but as a key, or as what was hashed, derived from, made public, is not known. Conditions: none beyond those of the given statement; the card ties the listed variable to the program's text (a pruned copy: the packages that this seat's roots load).
-/
import Derived.Test.YtoclhecldmahiaaDoorLiftA
import Derived.Test.YtoclhecldmahiaaDoorFactD
import Derived.Test.YtoclhecldmahiaaDoorKnIn
import Derived.Test.YtoclhecldmahiaaDoorRows
import Derived.Test.YtoclhecldmahiaaDoorCards
import Derived.Test.YtoclhecldmahiaaDoorTie
import Derived.Stop.LaidErr
set_option linter.unusedVariables false
namespace Go.Proofs.YtoclhecldmahiaaDoor
open Go.ChangeShapes Go.WideShapes Go.ChangeAt Go.RowKit Go.Lf
set_option linter.unusedVariables false

theorem knowSecrets_own : ownKnob Tryd.prog.godebug = none := factOwn
theorem knowSecrets_laidOut : laidOutB Tryd.prog = true := factLaid
theorem knowSecrets_g : Tryd.prog.globalNamed "internal/strconv.uint64pow10" = some 0 := by kernel_rfl
theorem knowSecrets_ty : (Tryd.prog.globals[0]?).map (·.type) = some 218 := by kernel_rfl
theorem knowSecrets_tab {W : World} (h : laidMetH Tryd.prog Rows.knowSecretsRow.laid W) : Lib.TabIs Tryd.prog W "internal/strconv.uint64pow10" .u64 [1, 10, 100, 1000, 10000, 100000, 1000000, 10000000, 100000000, 1000000000, 10000000000, 100000000000, 1000000000000, 10000000000000, 100000000000000, 1000000000000000, 10000000000000000, 100000000000000000, 1000000000000000000, 10000000000000000000] :=
  Lib.tabIs_of_head (rest := []) knowSecrets_g knowSecrets_ty Tryd.underlying218 Tryd.underlying209 (by kernel_rfl) (by kernel_rfl) (laidMet.tail (laidMet.tail h))
theorem knowSecrets_pow : ([1, 10, 100, 1000, 10000, 100000, 1000000, 10000000, 100000000, 1000000000, 10000000000, 100000000000, 1000000000000, 10000000000000, 100000000000000, 1000000000000000, 10000000000000000, 100000000000000000, 1000000000000000000, 10000000000000000000] : List Int) = Lib.pow10Tab := by decide +kernel

noncomputable def knowSecrets_world (os : Os) : World :=
  { World.holding Tryd.prog os ⟨#[], #[], []⟩ with heap := ((((World.holding Tryd.prog os ⟨#[], #[], []⟩).heap).modify 0 (fun | .cells _ t frozen => .cells #[.int .u64 1, .int .u64 10, .int .u64 100, .int .u64 1000, .int .u64 10000, .int .u64 100000, .int .u64 1000000, .int .u64 10000000, .int .u64 100000000, .int .u64 1000000000, .int .u64 10000000000, .int .u64 100000000000, .int .u64 1000000000000, .int .u64 10000000000000, .int .u64 100000000000000, .int .u64 1000000000000000, .int .u64 10000000000000000, .int .u64 100000000000000000, .int .u64 1000000000000000000, .int .u64 10000000000000000000] t frozen | o => o)).modify 1 (fun | .cells _ t frozen => .cells #[.int .u8 0, .int .u8 1, .int .u8 28, .int .u8 2, .int .u8 29, .int .u8 14, .int .u8 24, .int .u8 3, .int .u8 30, .int .u8 22, .int .u8 20, .int .u8 15, .int .u8 25, .int .u8 17, .int .u8 4, .int .u8 8, .int .u8 31, .int .u8 27, .int .u8 13, .int .u8 23, .int .u8 21, .int .u8 19, .int .u8 16, .int .u8 7, .int .u8 26, .int .u8 12, .int .u8 18, .int .u8 6, .int .u8 11, .int .u8 5, .int .u8 10, .int .u8 9] t frozen | o => o)).modify 2 (fun | .cells _ t frozen => .cells #[.int .u8 0, .int .u8 1, .int .u8 56, .int .u8 2, .int .u8 57, .int .u8 49, .int .u8 28, .int .u8 3, .int .u8 61, .int .u8 58, .int .u8 42, .int .u8 50, .int .u8 38, .int .u8 29, .int .u8 17, .int .u8 4, .int .u8 62, .int .u8 47, .int .u8 59, .int .u8 36, .int .u8 45, .int .u8 43, .int .u8 51, .int .u8 22, .int .u8 53, .int .u8 39, .int .u8 33, .int .u8 30, .int .u8 24, .int .u8 18, .int .u8 12, .int .u8 5, .int .u8 63, .int .u8 55, .int .u8 48, .int .u8 27, .int .u8 60, .int .u8 41, .int .u8 37, .int .u8 16, .int .u8 46, .int .u8 35, .int .u8 44, .int .u8 21, .int .u8 52, .int .u8 32, .int .u8 23, .int .u8 11, .int .u8 54, .int .u8 26, .int .u8 40, .int .u8 15, .int .u8 34, .int .u8 20, .int .u8 31, .int .u8 10, .int .u8 25, .int .u8 14, .int .u8 19, .int .u8 9, .int .u8 13, .int .u8 8, .int .u8 7, .int .u8 6] t frozen | o => o) }
theorem knowSecrets_met (os : Os) : laidMet Tryd.prog Rows.knowSecretsRow.laid ((knowSecrets_world os).forCall (fun _ _ => 0) ⟨#[], #[.int .i64 0, .slice none 0 0, .slice none 0 0], []⟩).memory :=
  laidMet_of_run' 8 (by kernel_rfl) (by kernel_rfl)
theorem knowSecrets_reads (os : Os) {H : Type} (enc : TypeId × Value → H) : ∃ places, DataW.whole enc Tryd.prog ((knowSecrets_world os).forCall (fun _ _ => 0) ⟨#[], #[.int .i64 0, .slice none 0 0, .slice none 0 0], []⟩).memory Tryd.f11.params.toList Rows.knowSecretsSpec.vars false #[Value.int .i64 0, .slice none 0 0, .slice none 0 0].toList 8 = some ([.lit (.int .i64 0), .nil, .nil], [], places) :=
  ⟨[], by kernel_rfl⟩

set_option maxRecDepth 100000 in
theorem knowSecrets_lifted (os : Os) (started : os.Started) (H : Type) (enc : TypeId × Value → H) (F : Stop.Interp) :
    ReturnsInHanded {} Tryd.checked os 11 .any ((OpenSpec.ofChange Rows.knowSecretsSpec).preRow enc Tryd.prog Tryd.f11 Rows.knowSecretsRow.domain false Rows.knowSecretsRow.laid) (((OpenSpec.ofChange Rows.knowSecretsSpec).at F).post enc Tryd.prog Tryd.f11 false true false false) := by
  obtain ⟨places, hx⟩ := knowSecrets_reads os enc
  refine lawLaid (C := Tryd.checked) (s := OpenSpec.ofChange Rows.knowSecretsSpec) (cs := Rows.knowSecretsSpec) (tb := 4) (k := 3) knowSecrets_own started (by kernel_rfl) Tryd.func11
    (witness_row_at (enc := enc) (C := Tryd.checked) false (knowSecrets_world os) #[.int .i64 0, .slice none 0 0, .slice none 0 0] rfl (by kernel_rfl) (by kernel_rfl) (by kernel_rfl)
      (OpenSpec.preRow_of_cond 8 hx (by kernel_rfl) (fun k hk => by cases hk) (by kernel_rfl) (knowSecrets_met os))) knowSecrets_laidOut (by kernel_rfl) (by kernel_rfl) Tryd.underlying4 rfl rfl rfl (by kernel_rfl) ?_ ?_
  · intro ds hds
    match ds, hds with
    | [d0, d1, d2], _ => rfl
  · intro W args ds p hA hval hL _
    obtain ⟨base, hval⟩ := hval
    have hA : DataW.TrodAll enc Tryd.prog W 0 (fun _ => true) true Tryd.f11.params.toList args.toList ds p := hA
    rw [Tryd.params11] at hA
    have hval : ∀ (j : Nat) t v, Tryd.f11.params[j]? = some t → args[j]? = some v → Value.okWide Tryd.prog W .any base t v := hval
    rw [Tryd.params11] at hval
    obtain ⟨v0, vs0, d0, ds0, p0, q0, hargs, rfl, rfl, h0, r0⟩ := trodAll_cons hA
    obtain ⟨v1, vs1, d1, ds1, p1, q1, rfl, rfl, rfl, h1, r1⟩ := trodAll_cons r0
    obtain ⟨v2, vs2, d2, ds2, p2, q2, rfl, rfl, rfl, h2, r2⟩ := trodAll_cons r1
    obtain ⟨rfl, rfl, rfl⟩ := trodAll_nil r2
    obtain rfl : args = #[v0, v1, v2] := by cases args; simp_all
    obtain ⟨a0, rfl, rfl, rfl, w0⟩ := open_int Tryd.underlying3 (hval 0 3 v0 rfl rfl) h0
    have wf0 := wf_le w0
    obtain ⟨s1, xs1, rfl, hI1⟩ := intsw_in (hval 1 29 v1 rfl rfl) h1
    obtain ⟨s2, xs2, rfl, hI2⟩ := intsw_in (hval 2 29 v2 rfl rfl) h2
    have hT : PT W.heap.size W := Lib.tabBelow_of_tabIs (by have h := knowSecrets_tab hL; rw [knowSecrets_pow] at h; exact h)
    exact secrets_in hT hI1 hI2 a0 wf0

theorem knowSecrets_j10 : (Rows.knowSecretsRow.inPlace == Tryd.prog.inPlace 11) = true := by kernel_rfl
theorem knowSecrets_j11 : (Rows.knowSecretsRow.unfollowed == Tryd.prog.unfollowed 11) = true := by kernel_rfl
theorem knowSecrets_j12 : (Rows.knowSecretsRow.recurses == Tryd.prog.recurses 11) = true := by kernel_rfl
theorem knowSecrets_j13 : (Rows.knowSecretsRow.named == Tryd.prog.varsNamed 11) = true := by kernel_rfl
theorem knowSecrets_joined : joinedFacts Tryd.prog 11 Tryd.f11 (OpenSpec.ofChange Rows.knowSecretsSpec).bare Rows.knowSecretsRow = true :=
  and32 (by kernel_rfl) factLaid factMaps (by kernel_rfl) (by kernel_rfl) (by kernel_rfl) factStops (by kernel_rfl) factKnobs knowSecrets_j10 knowSecrets_j11 knowSecrets_j12 knowSecrets_j13 (by kernel_rfl) (by kernel_rfl) (by kernel_rfl) (by kernel_rfl) (by kernel_rfl) (by kernel_rfl) (by kernel_rfl) (by kernel_rfl) (by kernel_rfl) factKeys (by kernel_rfl) factHeard factMay factLifts factMake (by kernel_rfl) (by kernel_rfl) (by kernel_rfl) (by kernel_rfl)

theorem knowSecrets_said : Rows.KnowSecretsSaid :=
  OpenClaim.holds_of_cond 11 Tryd.f11 rfl rfl rfl rfl rfl rfl rfl ⟨rfl, rfl, rfl, rfl, rfl⟩ rfl rfl rfl rfl rfl (by kernel_rfl) Tryd.func11 knowSecrets_joined
    (of_decide_eq_true (by kernel_rfl)) (by unfold Func.isWrapper; first | (rw [if_pos (by decide +kernel)]; kernel_rfl) | (rw [if_neg (by decide +kernel)]; exact ⟨rfl, rfl⟩))
    (fun os started H enc _ F => by rw [OpenClaim.pre_eq_preRow]; exact knowSecrets_lifted os started H enc F)

theorem knowSecrets_plain (f : FuncId) (fn : Func) (hf : Tryd.pinned.checked.prog.funcNamed "tryst/trystlaw11.KnowSecrets" = some f) (hfn : Tryd.pinned.checked.prog.funcs[f]? = some fn) :
    false = Tryd.pinned.checked.prog.looks [] ∧ ∀ (j : Nat) t, fn.params[j]? = some t → Tryd.pinned.checked.prog.wantsStandIn t = false := by
  obtain rfl : f = 11 := Option.some.inj ((show Tryd.prog.funcNamed "tryst/trystlaw11.KnowSecrets" = some 11 by kernel_rfl).symm.trans hf) |>.symm
  obtain rfl : fn = Tryd.f11 := (Option.some.inj (Tryd.func11.symm.trans hfn)).symm
  refine ⟨by kernel_rfl, fun j t ht => ?_⟩
  rw [Tryd.params11] at ht
  have hm := Array.mem_of_getElem? ht
  simp only [List.mem_toArray, List.mem_cons, List.not_mem_nil, or_false] at hm
  have hall : ([3, 29, 29] : List TypeId).all (fun t => Tryd.prog.wantsStandIn t == false) = true := by kernel_rfl
  have := List.all_eq_true.1 hall t (by simpa using hm)
  exact eq_of_beq this

theorem knowSecrets_card : Rows.KnowSecretsCardSaid :=
  Claim7.holds_tied_plain_at .later [] _ _ _ _ knowSecrets_said (fun _ h => by cases h) (by kernel_rfl) (fun _ h => by cases h) knowSecrets_row_tie rfl ⟨rfl, rfl⟩ (by kernel_rfl) rfl knowSecrets_plain (by kernel_rfl)
#print axioms knowSecrets_card
end Go.Proofs.YtoclhecldmahiaaDoor
