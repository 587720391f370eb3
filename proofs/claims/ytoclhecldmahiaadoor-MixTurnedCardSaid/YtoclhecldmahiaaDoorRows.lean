/-
  NARROWER THAN 'FOR EVERY INPUT', by the rows' own cells (each row's printed sentence says how): SchedLeaves: laid · SchedExact: laid · OnionUnlike: laid · MixOnce: laid · MixDrops: laid · MixDoes: laid · OnionExact: laid · OnionBack: laid · KnowSecrets: laid · KnowMade: laid · KnowNests: laid · RatchetMeets: laid · RatchetBounds: laid · RatchetExact: laid · SchedApart: laid · OnionHidden: laid · MixRounds: laid · MixTurned: laid · MixOrder: laid · RatchetPast: laid · MixSeen: laid.
  DERIVED. THE GIVEN ROWS OF THIS SEAT. 21 by the template 'for every input the law returns true; each argument reads behind the call as it read before'; 0 by the template 'total and deterministic' (their statements: YtoclhecldmahiaaDoorTotals.lean).
  GIVEN WITH THE SEED: the statements are not yours to turn. If you find one false, say at which input.
  Laid BY PROGRAM, IN A SANDBOX (cutbox-rows.mjs): the forced cells as the released guide's own fill.sh prints them over the translation 1af0c0920ac0f73d… (all of the seat's roots in one cut). By AI agents, Wed Nov 11 2026. No macro, syntax, notation, axiom, sorry.
-/
import Derived.Test.YtoclhecldmahiaaDoorChecked
import GoSem.Claim
import GoSem.ClaimJoined
import GoSem.ClaimMapViews
import Derived.JoinedTies
import Derived.KernelRfl
namespace Go.Proofs.YtoclhecldmahiaaDoor
/- THE CELL 'sum', in the pinned program and in every row, IS THE sha256 OF THE DUMP (.gsa) THAT YtoclhecldmahiaaDoorProg.lean LOADS. Nothing in Lean hashes anything: it is a label: what it is worth is what the hold of that sum in a sandbox is worth. -/
noncomputable def Tryd.pinned : Pinned := { name := "ytoclhecldmahiaadoor", sum := "1af0c0920ac0f73d0076c9069af3775dd84f21aa073c69e1c272d4d7985654a6", checked := Tryd.checked }
namespace Rows
def none {H : Type} : Left H := { results := [], args := [] }

/- WHAT THE LISTED PACKAGE-LEVEL VARIABLES READ AS WHEN THE CALL BEGINS. Each datum BY PROGRAM (the guide's laid-datum.mjs) off the statement by which the dump's own 'gosem.cut.vars' lays the variable. In a bare row this is a premise. The card (YtoclhecldmahiaaDoorCards.lean) ties it to the program's text. -/
def laid_math_bits_deBruijn32tab {H : Type} : DataW H := .agg [.lit (.int .u8 0), .lit (.int .u8 1), .lit (.int .u8 28), .lit (.int .u8 2), .lit (.int .u8 29), .lit (.int .u8 14), .lit (.int .u8 24), .lit (.int .u8 3), .lit (.int .u8 30), .lit (.int .u8 22), .lit (.int .u8 20), .lit (.int .u8 15), .lit (.int .u8 25), .lit (.int .u8 17), .lit (.int .u8 4), .lit (.int .u8 8), .lit (.int .u8 31), .lit (.int .u8 27), .lit (.int .u8 13), .lit (.int .u8 23), .lit (.int .u8 21), .lit (.int .u8 19), .lit (.int .u8 16), .lit (.int .u8 7), .lit (.int .u8 26), .lit (.int .u8 12), .lit (.int .u8 18), .lit (.int .u8 6), .lit (.int .u8 11), .lit (.int .u8 5), .lit (.int .u8 10), .lit (.int .u8 9)]
def laid_math_bits_deBruijn64tab {H : Type} : DataW H := .agg [.lit (.int .u8 0), .lit (.int .u8 1), .lit (.int .u8 56), .lit (.int .u8 2), .lit (.int .u8 57), .lit (.int .u8 49), .lit (.int .u8 28), .lit (.int .u8 3), .lit (.int .u8 61), .lit (.int .u8 58), .lit (.int .u8 42), .lit (.int .u8 50), .lit (.int .u8 38), .lit (.int .u8 29), .lit (.int .u8 17), .lit (.int .u8 4), .lit (.int .u8 62), .lit (.int .u8 47), .lit (.int .u8 59), .lit (.int .u8 36), .lit (.int .u8 45), .lit (.int .u8 43), .lit (.int .u8 51), .lit (.int .u8 22), .lit (.int .u8 53), .lit (.int .u8 39), .lit (.int .u8 33), .lit (.int .u8 30), .lit (.int .u8 24), .lit (.int .u8 18), .lit (.int .u8 12), .lit (.int .u8 5), .lit (.int .u8 63), .lit (.int .u8 55), .lit (.int .u8 48), .lit (.int .u8 27), .lit (.int .u8 60), .lit (.int .u8 41), .lit (.int .u8 37), .lit (.int .u8 16), .lit (.int .u8 46), .lit (.int .u8 35), .lit (.int .u8 44), .lit (.int .u8 21), .lit (.int .u8 52), .lit (.int .u8 32), .lit (.int .u8 23), .lit (.int .u8 11), .lit (.int .u8 54), .lit (.int .u8 26), .lit (.int .u8 40), .lit (.int .u8 15), .lit (.int .u8 34), .lit (.int .u8 20), .lit (.int .u8 31), .lit (.int .u8 10), .lit (.int .u8 25), .lit (.int .u8 14), .lit (.int .u8 19), .lit (.int .u8 9), .lit (.int .u8 13), .lit (.int .u8 8), .lit (.int .u8 7), .lit (.int .u8 6)]
def laid_internal_strconv_uint64pow10 {H : Type} : DataW H := .agg [.lit (.int .u64 1), .lit (.int .u64 10), .lit (.int .u64 100), .lit (.int .u64 1000), .lit (.int .u64 10000), .lit (.int .u64 100000), .lit (.int .u64 1000000), .lit (.int .u64 10000000), .lit (.int .u64 100000000), .lit (.int .u64 1000000000), .lit (.int .u64 10000000000), .lit (.int .u64 100000000000), .lit (.int .u64 1000000000000), .lit (.int .u64 10000000000000), .lit (.int .u64 100000000000000), .lit (.int .u64 1000000000000000), .lit (.int .u64 10000000000000000), .lit (.int .u64 100000000000000000), .lit (.int .u64 1000000000000000000), .lit (.int .u64 10000000000000000000)]

/-- 'trystlaw18.SchedLeaves': WHATEVER THE INPUT: true; the input reads as it did. -/
def schedLeavesSpec : ChangeSpec := { name := "schedLeaves", fn := fun _ => fun
  | [d1, d2, d3, d4, d5] => { results := [.lit (.bool true)], args := [d1, d2, d3, d4, d5] }
  | _ => none }
def schedLeavesRow : OpenClaim := { program := "ytoclhecldmahiaadoor", sum := "1af0c0920ac0f73d0076c9069af3775dd84f21aa073c69e1c272d4d7985654a6", func := "tryst/trystlaw18.SchedLeaves", spec := "schedLeaves", recurses := true, named := ["internal/strconv.uint64pow10", "math/bits.deBruijn32tab", "math/bits.deBruijn64tab"], apart := false, laid := [("math/bits.deBruijn32tab", laid_math_bits_deBruijn32tab), ("math/bits.deBruijn64tab", laid_math_bits_deBruijn64tab), ("internal/strconv.uint64pow10", laid_internal_strconv_uint64pow10)] }
def SchedLeavesSaid : Prop := schedLeavesRow.holds Tryd.pinned (OpenSpec.ofChange schedLeavesSpec)

/-- ITS FALSE NEIGHBOUR: 'it returns false'. Refute it at one input. -/
def schedLeavesWrong : ChangeSpec := { name := "schedLeaves", fn := fun _ => fun
  | [d1, d2, d3, d4, d5] => { results := [.lit (.bool false)], args := [d1, d2, d3, d4, d5] }
  | _ => none }
def SchedLeavesWrongFalsely : Prop := schedLeavesRow.holds Tryd.pinned (OpenSpec.ofChange schedLeavesWrong)

/-- 'trystlaw18.SchedExact': WHATEVER THE INPUT: true; the input reads as it did. -/
def schedExactSpec : ChangeSpec := { name := "schedExact", fn := fun _ => fun
  | [d1, d2, d3, d4] => { results := [.lit (.bool true)], args := [d1, d2, d3, d4] }
  | _ => none }
def schedExactRow : OpenClaim := { program := "ytoclhecldmahiaadoor", sum := "1af0c0920ac0f73d0076c9069af3775dd84f21aa073c69e1c272d4d7985654a6", func := "tryst/trystlaw18.SchedExact", spec := "schedExact", recurses := true, named := ["internal/strconv.uint64pow10", "math/bits.deBruijn32tab", "math/bits.deBruijn64tab"], apart := false, laid := [("math/bits.deBruijn32tab", laid_math_bits_deBruijn32tab), ("math/bits.deBruijn64tab", laid_math_bits_deBruijn64tab), ("internal/strconv.uint64pow10", laid_internal_strconv_uint64pow10)] }
def SchedExactSaid : Prop := schedExactRow.holds Tryd.pinned (OpenSpec.ofChange schedExactSpec)

/-- ITS FALSE NEIGHBOUR: 'it returns false'. Refute it at one input. -/
def schedExactWrong : ChangeSpec := { name := "schedExact", fn := fun _ => fun
  | [d1, d2, d3, d4] => { results := [.lit (.bool false)], args := [d1, d2, d3, d4] }
  | _ => none }
def SchedExactWrongFalsely : Prop := schedExactRow.holds Tryd.pinned (OpenSpec.ofChange schedExactWrong)

/-- 'trystlaw23.OnionUnlike': WHATEVER THE INPUT: true; the input reads as it did. -/
def onionUnlikeSpec : ChangeSpec := { name := "onionUnlike", fn := fun _ => fun
  | [d1, d2, d3, d4] => { results := [.lit (.bool true)], args := [d1, d2, d3, d4] }
  | _ => none }
def onionUnlikeRow : OpenClaim := { program := "ytoclhecldmahiaadoor", sum := "1af0c0920ac0f73d0076c9069af3775dd84f21aa073c69e1c272d4d7985654a6", func := "tryst/trystlaw23.OnionUnlike", spec := "onionUnlike", named := ["internal/strconv.uint64pow10", "math/bits.deBruijn32tab", "math/bits.deBruijn64tab"], apart := false, laid := [("math/bits.deBruijn32tab", laid_math_bits_deBruijn32tab), ("math/bits.deBruijn64tab", laid_math_bits_deBruijn64tab), ("internal/strconv.uint64pow10", laid_internal_strconv_uint64pow10)] }
def OnionUnlikeSaid : Prop := onionUnlikeRow.holds Tryd.pinned (OpenSpec.ofChange onionUnlikeSpec)

/-- ITS FALSE NEIGHBOUR: 'it returns false'. Refute it at one input. -/
def onionUnlikeWrong : ChangeSpec := { name := "onionUnlike", fn := fun _ => fun
  | [d1, d2, d3, d4] => { results := [.lit (.bool false)], args := [d1, d2, d3, d4] }
  | _ => none }
def OnionUnlikeWrongFalsely : Prop := onionUnlikeRow.holds Tryd.pinned (OpenSpec.ofChange onionUnlikeWrong)

/-- 'trystlaw24.MixOnce': WHATEVER THE INPUT: true; the input reads as it did. -/
def mixOnceSpec : ChangeSpec := { name := "mixOnce", fn := fun _ => fun
  | [d1, d2] => { results := [.lit (.bool true)], args := [d1, d2] }
  | _ => none }
def mixOnceRow : OpenClaim := { program := "ytoclhecldmahiaadoor", sum := "1af0c0920ac0f73d0076c9069af3775dd84f21aa073c69e1c272d4d7985654a6", func := "tryst/trystlaw24.MixOnce", spec := "mixOnce", unfollowed := true, recurses := true, named := ["internal/strconv.uint64pow10", "math/bits.deBruijn32tab", "math/bits.deBruijn64tab"], apart := false, laid := [("math/bits.deBruijn32tab", laid_math_bits_deBruijn32tab), ("math/bits.deBruijn64tab", laid_math_bits_deBruijn64tab), ("internal/strconv.uint64pow10", laid_internal_strconv_uint64pow10)] }
def MixOnceSaid : Prop := mixOnceRow.holds Tryd.pinned (OpenSpec.ofChange mixOnceSpec)

/-- ITS FALSE NEIGHBOUR: 'it returns false'. Refute it at one input. -/
def mixOnceWrong : ChangeSpec := { name := "mixOnce", fn := fun _ => fun
  | [d1, d2] => { results := [.lit (.bool false)], args := [d1, d2] }
  | _ => none }
def MixOnceWrongFalsely : Prop := mixOnceRow.holds Tryd.pinned (OpenSpec.ofChange mixOnceWrong)

/-- 'trystlaw24.MixDrops': WHATEVER THE INPUT: true; the input reads as it did. -/
def mixDropsSpec : ChangeSpec := { name := "mixDrops", fn := fun _ => fun
  | [d] => { results := [.lit (.bool true)], args := [d] }
  | _ => none }
def mixDropsRow : OpenClaim := { program := "ytoclhecldmahiaadoor", sum := "1af0c0920ac0f73d0076c9069af3775dd84f21aa073c69e1c272d4d7985654a6", func := "tryst/trystlaw24.MixDrops", spec := "mixDrops", unfollowed := true, recurses := true, named := ["internal/strconv.uint64pow10", "math/bits.deBruijn32tab", "math/bits.deBruijn64tab"], apart := false, laid := [("math/bits.deBruijn32tab", laid_math_bits_deBruijn32tab), ("math/bits.deBruijn64tab", laid_math_bits_deBruijn64tab), ("internal/strconv.uint64pow10", laid_internal_strconv_uint64pow10)] }
def MixDropsSaid : Prop := mixDropsRow.holds Tryd.pinned (OpenSpec.ofChange mixDropsSpec)

/-- ITS FALSE NEIGHBOUR: 'it returns false'. Refute it at one input. -/
def mixDropsWrong : ChangeSpec := { name := "mixDrops", fn := fun _ => fun
  | [d] => { results := [.lit (.bool false)], args := [d] }
  | _ => none }
def MixDropsWrongFalsely : Prop := mixDropsRow.holds Tryd.pinned (OpenSpec.ofChange mixDropsWrong)

/-- 'trystlaw24.MixDoes': WHATEVER THE INPUT: true; the input reads as it did. -/
def mixDoesSpec : ChangeSpec := { name := "mixDoes", fn := fun _ => fun
  | [d1, d2, d3, d4] => { results := [.lit (.bool true)], args := [d1, d2, d3, d4] }
  | _ => none }
def mixDoesRow : OpenClaim := { program := "ytoclhecldmahiaadoor", sum := "1af0c0920ac0f73d0076c9069af3775dd84f21aa073c69e1c272d4d7985654a6", func := "tryst/trystlaw24.MixDoes", spec := "mixDoes", unfollowed := true, recurses := true, named := ["internal/strconv.uint64pow10", "math/bits.deBruijn32tab", "math/bits.deBruijn64tab"], apart := false, laid := [("math/bits.deBruijn32tab", laid_math_bits_deBruijn32tab), ("math/bits.deBruijn64tab", laid_math_bits_deBruijn64tab), ("internal/strconv.uint64pow10", laid_internal_strconv_uint64pow10)] }
def MixDoesSaid : Prop := mixDoesRow.holds Tryd.pinned (OpenSpec.ofChange mixDoesSpec)

/-- ITS FALSE NEIGHBOUR: 'it returns false'. Refute it at one input. -/
def mixDoesWrong : ChangeSpec := { name := "mixDoes", fn := fun _ => fun
  | [d1, d2, d3, d4] => { results := [.lit (.bool false)], args := [d1, d2, d3, d4] }
  | _ => none }
def MixDoesWrongFalsely : Prop := mixDoesRow.holds Tryd.pinned (OpenSpec.ofChange mixDoesWrong)

/-- 'trystlaw23.OnionExact': WHATEVER THE INPUT: true; the input reads as it did. -/
def onionExactSpec : ChangeSpec := { name := "onionExact", fn := fun _ => fun
  | [d1, d2, d3, d4, d5, d6] => { results := [.lit (.bool true)], args := [d1, d2, d3, d4, d5, d6] }
  | _ => none }
def onionExactRow : OpenClaim := { program := "ytoclhecldmahiaadoor", sum := "1af0c0920ac0f73d0076c9069af3775dd84f21aa073c69e1c272d4d7985654a6", func := "tryst/trystlaw23.OnionExact", spec := "onionExact", recurses := true, named := ["internal/strconv.uint64pow10", "math/bits.deBruijn32tab", "math/bits.deBruijn64tab"], apart := false, laid := [("math/bits.deBruijn32tab", laid_math_bits_deBruijn32tab), ("math/bits.deBruijn64tab", laid_math_bits_deBruijn64tab), ("internal/strconv.uint64pow10", laid_internal_strconv_uint64pow10)] }
def OnionExactSaid : Prop := onionExactRow.holds Tryd.pinned (OpenSpec.ofChange onionExactSpec)

/-- ITS FALSE NEIGHBOUR: 'it returns false'. Refute it at one input. -/
def onionExactWrong : ChangeSpec := { name := "onionExact", fn := fun _ => fun
  | [d1, d2, d3, d4, d5, d6] => { results := [.lit (.bool false)], args := [d1, d2, d3, d4, d5, d6] }
  | _ => none }
def OnionExactWrongFalsely : Prop := onionExactRow.holds Tryd.pinned (OpenSpec.ofChange onionExactWrong)

/-- 'trystlaw23.OnionBack': WHATEVER THE INPUT: true; the input reads as it did. -/
def onionBackSpec : ChangeSpec := { name := "onionBack", fn := fun _ => fun
  | [d1, d2, d3, d4, d5] => { results := [.lit (.bool true)], args := [d1, d2, d3, d4, d5] }
  | _ => none }
def onionBackRow : OpenClaim := { program := "ytoclhecldmahiaadoor", sum := "1af0c0920ac0f73d0076c9069af3775dd84f21aa073c69e1c272d4d7985654a6", func := "tryst/trystlaw23.OnionBack", spec := "onionBack", named := ["internal/strconv.uint64pow10", "math/bits.deBruijn32tab", "math/bits.deBruijn64tab"], apart := false, laid := [("math/bits.deBruijn32tab", laid_math_bits_deBruijn32tab), ("math/bits.deBruijn64tab", laid_math_bits_deBruijn64tab), ("internal/strconv.uint64pow10", laid_internal_strconv_uint64pow10)] }
def OnionBackSaid : Prop := onionBackRow.holds Tryd.pinned (OpenSpec.ofChange onionBackSpec)

/-- ITS FALSE NEIGHBOUR: 'it returns false'. Refute it at one input. -/
def onionBackWrong : ChangeSpec := { name := "onionBack", fn := fun _ => fun
  | [d1, d2, d3, d4, d5] => { results := [.lit (.bool false)], args := [d1, d2, d3, d4, d5] }
  | _ => none }
def OnionBackWrongFalsely : Prop := onionBackRow.holds Tryd.pinned (OpenSpec.ofChange onionBackWrong)

/-- 'trystlaw11.KnowSecrets': WHATEVER THE INPUT: true; the input reads as it did. -/
def knowSecretsSpec : ChangeSpec := { name := "knowSecrets", fn := fun _ => fun
  | [d1, d2, d3] => { results := [.lit (.bool true)], args := [d1, d2, d3] }
  | _ => none }
def knowSecretsRow : OpenClaim := { program := "ytoclhecldmahiaadoor", sum := "1af0c0920ac0f73d0076c9069af3775dd84f21aa073c69e1c272d4d7985654a6", func := "tryst/trystlaw11.KnowSecrets", spec := "knowSecrets", named := ["internal/strconv.uint64pow10", "math/bits.deBruijn32tab", "math/bits.deBruijn64tab"], apart := false, laid := [("math/bits.deBruijn32tab", laid_math_bits_deBruijn32tab), ("math/bits.deBruijn64tab", laid_math_bits_deBruijn64tab), ("internal/strconv.uint64pow10", laid_internal_strconv_uint64pow10)] }
def KnowSecretsSaid : Prop := knowSecretsRow.holds Tryd.pinned (OpenSpec.ofChange knowSecretsSpec)

/-- ITS FALSE NEIGHBOUR: 'it returns false'. Refute it at one input. -/
def knowSecretsWrong : ChangeSpec := { name := "knowSecrets", fn := fun _ => fun
  | [d1, d2, d3] => { results := [.lit (.bool false)], args := [d1, d2, d3] }
  | _ => none }
def KnowSecretsWrongFalsely : Prop := knowSecretsRow.holds Tryd.pinned (OpenSpec.ofChange knowSecretsWrong)

/-- 'trystlaw11.KnowMade': WHATEVER THE INPUT: true; the input reads as it did. -/
def knowMadeSpec : ChangeSpec := { name := "knowMade", fn := fun _ => fun
  | [d] => { results := [.lit (.bool true)], args := [d] }
  | _ => none }
def knowMadeRow : OpenClaim := { program := "ytoclhecldmahiaadoor", sum := "1af0c0920ac0f73d0076c9069af3775dd84f21aa073c69e1c272d4d7985654a6", func := "tryst/trystlaw11.KnowMade", spec := "knowMade", named := ["internal/strconv.uint64pow10", "math/bits.deBruijn32tab", "math/bits.deBruijn64tab"], apart := false, laid := [("math/bits.deBruijn32tab", laid_math_bits_deBruijn32tab), ("math/bits.deBruijn64tab", laid_math_bits_deBruijn64tab), ("internal/strconv.uint64pow10", laid_internal_strconv_uint64pow10)] }
def KnowMadeSaid : Prop := knowMadeRow.holds Tryd.pinned (OpenSpec.ofChange knowMadeSpec)

/-- ITS FALSE NEIGHBOUR: 'it returns false'. Refute it at one input. -/
def knowMadeWrong : ChangeSpec := { name := "knowMade", fn := fun _ => fun
  | [d] => { results := [.lit (.bool false)], args := [d] }
  | _ => none }
def KnowMadeWrongFalsely : Prop := knowMadeRow.holds Tryd.pinned (OpenSpec.ofChange knowMadeWrong)

/-- 'trystlaw11.KnowNests': WHATEVER THE INPUT: true; the input reads as it did. -/
def knowNestsSpec : ChangeSpec := { name := "knowNests", fn := fun _ => fun
  | [d1, d2] => { results := [.lit (.bool true)], args := [d1, d2] }
  | _ => none }
def knowNestsRow : OpenClaim := { program := "ytoclhecldmahiaadoor", sum := "1af0c0920ac0f73d0076c9069af3775dd84f21aa073c69e1c272d4d7985654a6", func := "tryst/trystlaw11.KnowNests", spec := "knowNests", named := ["internal/strconv.uint64pow10", "math/bits.deBruijn32tab", "math/bits.deBruijn64tab"], apart := false, laid := [("math/bits.deBruijn32tab", laid_math_bits_deBruijn32tab), ("math/bits.deBruijn64tab", laid_math_bits_deBruijn64tab), ("internal/strconv.uint64pow10", laid_internal_strconv_uint64pow10)] }
def KnowNestsSaid : Prop := knowNestsRow.holds Tryd.pinned (OpenSpec.ofChange knowNestsSpec)

/-- ITS FALSE NEIGHBOUR: 'it returns false'. Refute it at one input. -/
def knowNestsWrong : ChangeSpec := { name := "knowNests", fn := fun _ => fun
  | [d1, d2] => { results := [.lit (.bool false)], args := [d1, d2] }
  | _ => none }
def KnowNestsWrongFalsely : Prop := knowNestsRow.holds Tryd.pinned (OpenSpec.ofChange knowNestsWrong)

/-- 'trystlaw19.RatchetMeets': WHATEVER THE INPUT: true; the input reads as it did. -/
def ratchetMeetsSpec : ChangeSpec := { name := "ratchetMeets", fn := fun _ => fun
  | [d1, d2] => { results := [.lit (.bool true)], args := [d1, d2] }
  | _ => none }
def ratchetMeetsRow : OpenClaim := { program := "ytoclhecldmahiaadoor", sum := "1af0c0920ac0f73d0076c9069af3775dd84f21aa073c69e1c272d4d7985654a6", func := "tryst/trystlaw19.RatchetMeets", spec := "ratchetMeets", unfollowed := true, recurses := true, named := ["internal/strconv.uint64pow10", "math/bits.deBruijn32tab", "math/bits.deBruijn64tab"], apart := false, laid := [("math/bits.deBruijn32tab", laid_math_bits_deBruijn32tab), ("math/bits.deBruijn64tab", laid_math_bits_deBruijn64tab), ("internal/strconv.uint64pow10", laid_internal_strconv_uint64pow10)] }
def RatchetMeetsSaid : Prop := ratchetMeetsRow.holds Tryd.pinned (OpenSpec.ofChange ratchetMeetsSpec)

/-- ITS FALSE NEIGHBOUR: 'it returns false'. Refute it at one input. -/
def ratchetMeetsWrong : ChangeSpec := { name := "ratchetMeets", fn := fun _ => fun
  | [d1, d2] => { results := [.lit (.bool false)], args := [d1, d2] }
  | _ => none }
def RatchetMeetsWrongFalsely : Prop := ratchetMeetsRow.holds Tryd.pinned (OpenSpec.ofChange ratchetMeetsWrong)

/-- 'trystlaw19.RatchetBounds': WHATEVER THE INPUT: true; the input reads as it did. -/
def ratchetBoundsSpec : ChangeSpec := { name := "ratchetBounds", fn := fun _ => fun
  | [d1, d2] => { results := [.lit (.bool true)], args := [d1, d2] }
  | _ => none }
def ratchetBoundsRow : OpenClaim := { program := "ytoclhecldmahiaadoor", sum := "1af0c0920ac0f73d0076c9069af3775dd84f21aa073c69e1c272d4d7985654a6", func := "tryst/trystlaw19.RatchetBounds", spec := "ratchetBounds", unfollowed := true, recurses := true, named := ["internal/strconv.uint64pow10", "math/bits.deBruijn32tab", "math/bits.deBruijn64tab"], apart := false, laid := [("math/bits.deBruijn32tab", laid_math_bits_deBruijn32tab), ("math/bits.deBruijn64tab", laid_math_bits_deBruijn64tab), ("internal/strconv.uint64pow10", laid_internal_strconv_uint64pow10)] }
def RatchetBoundsSaid : Prop := ratchetBoundsRow.holds Tryd.pinned (OpenSpec.ofChange ratchetBoundsSpec)

/-- ITS FALSE NEIGHBOUR: 'it returns false'. Refute it at one input. -/
def ratchetBoundsWrong : ChangeSpec := { name := "ratchetBounds", fn := fun _ => fun
  | [d1, d2] => { results := [.lit (.bool false)], args := [d1, d2] }
  | _ => none }
def RatchetBoundsWrongFalsely : Prop := ratchetBoundsRow.holds Tryd.pinned (OpenSpec.ofChange ratchetBoundsWrong)

/-- 'trystlaw19.RatchetExact': WHATEVER THE INPUT: true; the input reads as it did. -/
def ratchetExactSpec : ChangeSpec := { name := "ratchetExact", fn := fun _ => fun
  | [d1, d2, d3] => { results := [.lit (.bool true)], args := [d1, d2, d3] }
  | _ => none }
def ratchetExactRow : OpenClaim := { program := "ytoclhecldmahiaadoor", sum := "1af0c0920ac0f73d0076c9069af3775dd84f21aa073c69e1c272d4d7985654a6", func := "tryst/trystlaw19.RatchetExact", spec := "ratchetExact", unfollowed := true, recurses := true, named := ["internal/strconv.uint64pow10", "math/bits.deBruijn32tab", "math/bits.deBruijn64tab"], apart := false, laid := [("math/bits.deBruijn32tab", laid_math_bits_deBruijn32tab), ("math/bits.deBruijn64tab", laid_math_bits_deBruijn64tab), ("internal/strconv.uint64pow10", laid_internal_strconv_uint64pow10)] }
def RatchetExactSaid : Prop := ratchetExactRow.holds Tryd.pinned (OpenSpec.ofChange ratchetExactSpec)

/-- ITS FALSE NEIGHBOUR: 'it returns false'. Refute it at one input. -/
def ratchetExactWrong : ChangeSpec := { name := "ratchetExact", fn := fun _ => fun
  | [d1, d2, d3] => { results := [.lit (.bool false)], args := [d1, d2, d3] }
  | _ => none }
def RatchetExactWrongFalsely : Prop := ratchetExactRow.holds Tryd.pinned (OpenSpec.ofChange ratchetExactWrong)

/-- 'trystlaw18.SchedApart': WHATEVER THE INPUT: true; the input reads as it did. -/
def schedApartSpec : ChangeSpec := { name := "schedApart", fn := fun _ => fun
  | [d1, d2, d3] => { results := [.lit (.bool true)], args := [d1, d2, d3] }
  | _ => none }
def schedApartRow : OpenClaim := { program := "ytoclhecldmahiaadoor", sum := "1af0c0920ac0f73d0076c9069af3775dd84f21aa073c69e1c272d4d7985654a6", func := "tryst/trystlaw18.SchedApart", spec := "schedApart", named := ["internal/strconv.uint64pow10", "math/bits.deBruijn32tab", "math/bits.deBruijn64tab"], apart := false, laid := [("math/bits.deBruijn32tab", laid_math_bits_deBruijn32tab), ("math/bits.deBruijn64tab", laid_math_bits_deBruijn64tab), ("internal/strconv.uint64pow10", laid_internal_strconv_uint64pow10)] }
def SchedApartSaid : Prop := schedApartRow.holds Tryd.pinned (OpenSpec.ofChange schedApartSpec)

/-- ITS FALSE NEIGHBOUR: 'it returns false'. Refute it at one input. -/
def schedApartWrong : ChangeSpec := { name := "schedApart", fn := fun _ => fun
  | [d1, d2, d3] => { results := [.lit (.bool false)], args := [d1, d2, d3] }
  | _ => none }
def SchedApartWrongFalsely : Prop := schedApartRow.holds Tryd.pinned (OpenSpec.ofChange schedApartWrong)

/-- 'trystlaw23.OnionHidden': WHATEVER THE INPUT: true; the input reads as it did. -/
def onionHiddenSpec : ChangeSpec := { name := "onionHidden", fn := fun _ => fun
  | [d1, d2] => { results := [.lit (.bool true)], args := [d1, d2] }
  | _ => none }
def onionHiddenRow : OpenClaim := { program := "ytoclhecldmahiaadoor", sum := "1af0c0920ac0f73d0076c9069af3775dd84f21aa073c69e1c272d4d7985654a6", func := "tryst/trystlaw23.OnionHidden", spec := "onionHidden", named := ["internal/strconv.uint64pow10", "math/bits.deBruijn32tab", "math/bits.deBruijn64tab"], apart := false, laid := [("math/bits.deBruijn32tab", laid_math_bits_deBruijn32tab), ("math/bits.deBruijn64tab", laid_math_bits_deBruijn64tab), ("internal/strconv.uint64pow10", laid_internal_strconv_uint64pow10)] }
def OnionHiddenSaid : Prop := onionHiddenRow.holds Tryd.pinned (OpenSpec.ofChange onionHiddenSpec)

/-- ITS FALSE NEIGHBOUR: 'it returns false'. Refute it at one input. -/
def onionHiddenWrong : ChangeSpec := { name := "onionHidden", fn := fun _ => fun
  | [d1, d2] => { results := [.lit (.bool false)], args := [d1, d2] }
  | _ => none }
def OnionHiddenWrongFalsely : Prop := onionHiddenRow.holds Tryd.pinned (OpenSpec.ofChange onionHiddenWrong)

/-- 'trystlaw24.MixRounds': WHATEVER THE INPUT: true; the input reads as it did. -/
def mixRoundsSpec : ChangeSpec := { name := "mixRounds", fn := fun _ => fun
  | [d1, d2, d3] => { results := [.lit (.bool true)], args := [d1, d2, d3] }
  | _ => none }
def mixRoundsRow : OpenClaim := { program := "ytoclhecldmahiaadoor", sum := "1af0c0920ac0f73d0076c9069af3775dd84f21aa073c69e1c272d4d7985654a6", func := "tryst/trystlaw24.MixRounds", spec := "mixRounds", unfollowed := true, recurses := true, named := ["internal/strconv.uint64pow10", "math/bits.deBruijn32tab", "math/bits.deBruijn64tab"], apart := false, laid := [("math/bits.deBruijn32tab", laid_math_bits_deBruijn32tab), ("math/bits.deBruijn64tab", laid_math_bits_deBruijn64tab), ("internal/strconv.uint64pow10", laid_internal_strconv_uint64pow10)] }
def MixRoundsSaid : Prop := mixRoundsRow.holds Tryd.pinned (OpenSpec.ofChange mixRoundsSpec)

/-- ITS FALSE NEIGHBOUR: 'it returns false'. Refute it at one input. -/
def mixRoundsWrong : ChangeSpec := { name := "mixRounds", fn := fun _ => fun
  | [d1, d2, d3] => { results := [.lit (.bool false)], args := [d1, d2, d3] }
  | _ => none }
def MixRoundsWrongFalsely : Prop := mixRoundsRow.holds Tryd.pinned (OpenSpec.ofChange mixRoundsWrong)

/-- 'trystlaw24.MixTurned': WHATEVER THE INPUT: true; the input reads as it did. -/
def mixTurnedSpec : ChangeSpec := { name := "mixTurned", fn := fun _ => fun
  | [d1, d2, d3, d4] => { results := [.lit (.bool true)], args := [d1, d2, d3, d4] }
  | _ => none }
def mixTurnedRow : OpenClaim := { program := "ytoclhecldmahiaadoor", sum := "1af0c0920ac0f73d0076c9069af3775dd84f21aa073c69e1c272d4d7985654a6", func := "tryst/trystlaw24.MixTurned", spec := "mixTurned", unfollowed := true, recurses := true, named := ["internal/strconv.uint64pow10", "math/bits.deBruijn32tab", "math/bits.deBruijn64tab"], apart := false, laid := [("math/bits.deBruijn32tab", laid_math_bits_deBruijn32tab), ("math/bits.deBruijn64tab", laid_math_bits_deBruijn64tab), ("internal/strconv.uint64pow10", laid_internal_strconv_uint64pow10)] }
def MixTurnedSaid : Prop := mixTurnedRow.holds Tryd.pinned (OpenSpec.ofChange mixTurnedSpec)

/-- ITS FALSE NEIGHBOUR: 'it returns false'. Refute it at one input. -/
def mixTurnedWrong : ChangeSpec := { name := "mixTurned", fn := fun _ => fun
  | [d1, d2, d3, d4] => { results := [.lit (.bool false)], args := [d1, d2, d3, d4] }
  | _ => none }
def MixTurnedWrongFalsely : Prop := mixTurnedRow.holds Tryd.pinned (OpenSpec.ofChange mixTurnedWrong)

/-- 'trystlaw24.MixOrder': WHATEVER THE INPUT: true; the input reads as it did. -/
def mixOrderSpec : ChangeSpec := { name := "mixOrder", fn := fun _ => fun
  | [d1, d2] => { results := [.lit (.bool true)], args := [d1, d2] }
  | _ => none }
def mixOrderRow : OpenClaim := { program := "ytoclhecldmahiaadoor", sum := "1af0c0920ac0f73d0076c9069af3775dd84f21aa073c69e1c272d4d7985654a6", func := "tryst/trystlaw24.MixOrder", spec := "mixOrder", unfollowed := true, recurses := true, named := ["internal/strconv.uint64pow10", "math/bits.deBruijn32tab", "math/bits.deBruijn64tab"], apart := false, laid := [("math/bits.deBruijn32tab", laid_math_bits_deBruijn32tab), ("math/bits.deBruijn64tab", laid_math_bits_deBruijn64tab), ("internal/strconv.uint64pow10", laid_internal_strconv_uint64pow10)] }
def MixOrderSaid : Prop := mixOrderRow.holds Tryd.pinned (OpenSpec.ofChange mixOrderSpec)

/-- ITS FALSE NEIGHBOUR: 'it returns false'. Refute it at one input. -/
def mixOrderWrong : ChangeSpec := { name := "mixOrder", fn := fun _ => fun
  | [d1, d2] => { results := [.lit (.bool false)], args := [d1, d2] }
  | _ => none }
def MixOrderWrongFalsely : Prop := mixOrderRow.holds Tryd.pinned (OpenSpec.ofChange mixOrderWrong)

/-- 'trystlaw19.RatchetPast': WHATEVER THE INPUT: true; the input reads as it did. -/
def ratchetPastSpec : ChangeSpec := { name := "ratchetPast", fn := fun _ => fun
  | [d1, d2] => { results := [.lit (.bool true)], args := [d1, d2] }
  | _ => none }
def ratchetPastRow : OpenClaim := { program := "ytoclhecldmahiaadoor", sum := "1af0c0920ac0f73d0076c9069af3775dd84f21aa073c69e1c272d4d7985654a6", func := "tryst/trystlaw19.RatchetPast", spec := "ratchetPast", unfollowed := true, recurses := true, named := ["internal/strconv.uint64pow10", "math/bits.deBruijn32tab", "math/bits.deBruijn64tab"], apart := false, laid := [("math/bits.deBruijn32tab", laid_math_bits_deBruijn32tab), ("math/bits.deBruijn64tab", laid_math_bits_deBruijn64tab), ("internal/strconv.uint64pow10", laid_internal_strconv_uint64pow10)] }
def RatchetPastSaid : Prop := ratchetPastRow.holds Tryd.pinned (OpenSpec.ofChange ratchetPastSpec)

/-- ITS FALSE NEIGHBOUR: 'it returns false'. Refute it at one input. -/
def ratchetPastWrong : ChangeSpec := { name := "ratchetPast", fn := fun _ => fun
  | [d1, d2] => { results := [.lit (.bool false)], args := [d1, d2] }
  | _ => none }
def RatchetPastWrongFalsely : Prop := ratchetPastRow.holds Tryd.pinned (OpenSpec.ofChange ratchetPastWrong)

/-- 'trystlaw24.MixSeen': WHATEVER THE INPUT: true; the input reads as it did. -/
def mixSeenSpec : ChangeSpec := { name := "mixSeen", fn := fun _ => fun
  | [d1, d2] => { results := [.lit (.bool true)], args := [d1, d2] }
  | _ => none }
def mixSeenRow : OpenClaim := { program := "ytoclhecldmahiaadoor", sum := "1af0c0920ac0f73d0076c9069af3775dd84f21aa073c69e1c272d4d7985654a6", func := "tryst/trystlaw24.MixSeen", spec := "mixSeen", unfollowed := true, recurses := true, named := ["internal/strconv.uint64pow10", "math/bits.deBruijn32tab", "math/bits.deBruijn64tab"], apart := false, laid := [("math/bits.deBruijn32tab", laid_math_bits_deBruijn32tab), ("math/bits.deBruijn64tab", laid_math_bits_deBruijn64tab), ("internal/strconv.uint64pow10", laid_internal_strconv_uint64pow10)] }
def MixSeenSaid : Prop := mixSeenRow.holds Tryd.pinned (OpenSpec.ofChange mixSeenSpec)

/-- ITS FALSE NEIGHBOUR: 'it returns false'. Refute it at one input. -/
def mixSeenWrong : ChangeSpec := { name := "mixSeen", fn := fun _ => fun
  | [d1, d2] => { results := [.lit (.bool false)], args := [d1, d2] }
  | _ => none }
def MixSeenWrongFalsely : Prop := mixSeenRow.holds Tryd.pinned (OpenSpec.ofChange mixSeenWrong)

/- THE SECOND FORM. 'bulk': how many values and letters a reading holds, each counted each time it is reached (what is shared counts as often as it is met; a slice's spare places count too). A statement '..UptoSaid' is the law's where the arguments, and the package variables that the reading takes, are together of bulk at most 1048576: NARROWER than '..Said'. Prove '..Said' where nothing that the law and all that it calls make is longer than what came in: it says more and counts as full. Else prove '..UptoSaid'. A law counts once. -/
mutual
def uptoBulk {H : Type} : DataW H → Nat
  | .lit (.string bytes) => bytes.length + 1
  | .lit _ => 1
  | .nil => 1
  | .ptr d => uptoBulk d + 1
  | .slice elems spare => uptoBulkAll elems + uptoBulkAll spare + 1
  | .agg parts => uptoBulkAll parts + 1
  | .iface _ d => uptoBulk d + 1
  | .map entries => uptoBulkEntries entries + 1
  | .held _ => 1
def uptoBulkAll {H : Type} : List (DataW H) → Nat
  | [] => 0
  | d :: r => uptoBulk d + uptoBulkAll r
def uptoBulkEntries {H : Type} : List (Lit × DataW H) → Nat
  | [] => 0
  | x :: r => uptoBulkEntry x + uptoBulkEntries r
def uptoBulkEntry {H : Type} : Lit × DataW H → Nat
  | (.string bytes, d) => bytes.length + uptoBulk d + 1
  | (_, d) => uptoBulk d + 1
 end
def uptoSmall : (H : Type) → List (DataW H) → Bool := fun _ ds => decide (uptoBulkAll ds ≤ 1048576)
def OpenSpec.upto (s : _root_.Go.ChangeSpec) : _root_.Go.OpenSpec := { _root_.Go.OpenSpec.ofChange s with cond := some uptoSmall }

/-- 'trystlaw18.SchedLeaves', WHERE WHAT IT READS IS OF BULK AT MOST 1048576: true; the input reads as it did. -/
def schedLeavesUptoRow : OpenClaim := { program := "ytoclhecldmahiaadoor", sum := "1af0c0920ac0f73d0076c9069af3775dd84f21aa073c69e1c272d4d7985654a6", func := "tryst/trystlaw18.SchedLeaves", spec := "schedLeaves", recurses := true, named := ["internal/strconv.uint64pow10", "math/bits.deBruijn32tab", "math/bits.deBruijn64tab"], apart := false, laid := [("math/bits.deBruijn32tab", laid_math_bits_deBruijn32tab), ("math/bits.deBruijn64tab", laid_math_bits_deBruijn64tab), ("internal/strconv.uint64pow10", laid_internal_strconv_uint64pow10)], narrowed := true }
def SchedLeavesUptoSaid : Prop := schedLeavesUptoRow.holds Tryd.pinned (OpenSpec.upto schedLeavesSpec)

/-- 'trystlaw18.SchedExact', WHERE WHAT IT READS IS OF BULK AT MOST 1048576: true; the input reads as it did. -/
def schedExactUptoRow : OpenClaim := { program := "ytoclhecldmahiaadoor", sum := "1af0c0920ac0f73d0076c9069af3775dd84f21aa073c69e1c272d4d7985654a6", func := "tryst/trystlaw18.SchedExact", spec := "schedExact", recurses := true, named := ["internal/strconv.uint64pow10", "math/bits.deBruijn32tab", "math/bits.deBruijn64tab"], apart := false, laid := [("math/bits.deBruijn32tab", laid_math_bits_deBruijn32tab), ("math/bits.deBruijn64tab", laid_math_bits_deBruijn64tab), ("internal/strconv.uint64pow10", laid_internal_strconv_uint64pow10)], narrowed := true }
def SchedExactUptoSaid : Prop := schedExactUptoRow.holds Tryd.pinned (OpenSpec.upto schedExactSpec)

/-- 'trystlaw23.OnionUnlike', WHERE WHAT IT READS IS OF BULK AT MOST 1048576: true; the input reads as it did. -/
def onionUnlikeUptoRow : OpenClaim := { program := "ytoclhecldmahiaadoor", sum := "1af0c0920ac0f73d0076c9069af3775dd84f21aa073c69e1c272d4d7985654a6", func := "tryst/trystlaw23.OnionUnlike", spec := "onionUnlike", named := ["internal/strconv.uint64pow10", "math/bits.deBruijn32tab", "math/bits.deBruijn64tab"], apart := false, laid := [("math/bits.deBruijn32tab", laid_math_bits_deBruijn32tab), ("math/bits.deBruijn64tab", laid_math_bits_deBruijn64tab), ("internal/strconv.uint64pow10", laid_internal_strconv_uint64pow10)], narrowed := true }
def OnionUnlikeUptoSaid : Prop := onionUnlikeUptoRow.holds Tryd.pinned (OpenSpec.upto onionUnlikeSpec)

/-- 'trystlaw24.MixOnce', WHERE WHAT IT READS IS OF BULK AT MOST 1048576: true; the input reads as it did. -/
def mixOnceUptoRow : OpenClaim := { program := "ytoclhecldmahiaadoor", sum := "1af0c0920ac0f73d0076c9069af3775dd84f21aa073c69e1c272d4d7985654a6", func := "tryst/trystlaw24.MixOnce", spec := "mixOnce", unfollowed := true, recurses := true, named := ["internal/strconv.uint64pow10", "math/bits.deBruijn32tab", "math/bits.deBruijn64tab"], apart := false, laid := [("math/bits.deBruijn32tab", laid_math_bits_deBruijn32tab), ("math/bits.deBruijn64tab", laid_math_bits_deBruijn64tab), ("internal/strconv.uint64pow10", laid_internal_strconv_uint64pow10)], narrowed := true }
def MixOnceUptoSaid : Prop := mixOnceUptoRow.holds Tryd.pinned (OpenSpec.upto mixOnceSpec)

/-- 'trystlaw24.MixDrops', WHERE WHAT IT READS IS OF BULK AT MOST 1048576: true; the input reads as it did. -/
def mixDropsUptoRow : OpenClaim := { program := "ytoclhecldmahiaadoor", sum := "1af0c0920ac0f73d0076c9069af3775dd84f21aa073c69e1c272d4d7985654a6", func := "tryst/trystlaw24.MixDrops", spec := "mixDrops", unfollowed := true, recurses := true, named := ["internal/strconv.uint64pow10", "math/bits.deBruijn32tab", "math/bits.deBruijn64tab"], apart := false, laid := [("math/bits.deBruijn32tab", laid_math_bits_deBruijn32tab), ("math/bits.deBruijn64tab", laid_math_bits_deBruijn64tab), ("internal/strconv.uint64pow10", laid_internal_strconv_uint64pow10)], narrowed := true }
def MixDropsUptoSaid : Prop := mixDropsUptoRow.holds Tryd.pinned (OpenSpec.upto mixDropsSpec)

/-- 'trystlaw24.MixDoes', WHERE WHAT IT READS IS OF BULK AT MOST 1048576: true; the input reads as it did. -/
def mixDoesUptoRow : OpenClaim := { program := "ytoclhecldmahiaadoor", sum := "1af0c0920ac0f73d0076c9069af3775dd84f21aa073c69e1c272d4d7985654a6", func := "tryst/trystlaw24.MixDoes", spec := "mixDoes", unfollowed := true, recurses := true, named := ["internal/strconv.uint64pow10", "math/bits.deBruijn32tab", "math/bits.deBruijn64tab"], apart := false, laid := [("math/bits.deBruijn32tab", laid_math_bits_deBruijn32tab), ("math/bits.deBruijn64tab", laid_math_bits_deBruijn64tab), ("internal/strconv.uint64pow10", laid_internal_strconv_uint64pow10)], narrowed := true }
def MixDoesUptoSaid : Prop := mixDoesUptoRow.holds Tryd.pinned (OpenSpec.upto mixDoesSpec)

/-- 'trystlaw23.OnionExact', WHERE WHAT IT READS IS OF BULK AT MOST 1048576: true; the input reads as it did. -/
def onionExactUptoRow : OpenClaim := { program := "ytoclhecldmahiaadoor", sum := "1af0c0920ac0f73d0076c9069af3775dd84f21aa073c69e1c272d4d7985654a6", func := "tryst/trystlaw23.OnionExact", spec := "onionExact", recurses := true, named := ["internal/strconv.uint64pow10", "math/bits.deBruijn32tab", "math/bits.deBruijn64tab"], apart := false, laid := [("math/bits.deBruijn32tab", laid_math_bits_deBruijn32tab), ("math/bits.deBruijn64tab", laid_math_bits_deBruijn64tab), ("internal/strconv.uint64pow10", laid_internal_strconv_uint64pow10)], narrowed := true }
def OnionExactUptoSaid : Prop := onionExactUptoRow.holds Tryd.pinned (OpenSpec.upto onionExactSpec)

/-- 'trystlaw23.OnionBack', WHERE WHAT IT READS IS OF BULK AT MOST 1048576: true; the input reads as it did. -/
def onionBackUptoRow : OpenClaim := { program := "ytoclhecldmahiaadoor", sum := "1af0c0920ac0f73d0076c9069af3775dd84f21aa073c69e1c272d4d7985654a6", func := "tryst/trystlaw23.OnionBack", spec := "onionBack", named := ["internal/strconv.uint64pow10", "math/bits.deBruijn32tab", "math/bits.deBruijn64tab"], apart := false, laid := [("math/bits.deBruijn32tab", laid_math_bits_deBruijn32tab), ("math/bits.deBruijn64tab", laid_math_bits_deBruijn64tab), ("internal/strconv.uint64pow10", laid_internal_strconv_uint64pow10)], narrowed := true }
def OnionBackUptoSaid : Prop := onionBackUptoRow.holds Tryd.pinned (OpenSpec.upto onionBackSpec)

/-- 'trystlaw11.KnowSecrets', WHERE WHAT IT READS IS OF BULK AT MOST 1048576: true; the input reads as it did. -/
def knowSecretsUptoRow : OpenClaim := { program := "ytoclhecldmahiaadoor", sum := "1af0c0920ac0f73d0076c9069af3775dd84f21aa073c69e1c272d4d7985654a6", func := "tryst/trystlaw11.KnowSecrets", spec := "knowSecrets", named := ["internal/strconv.uint64pow10", "math/bits.deBruijn32tab", "math/bits.deBruijn64tab"], apart := false, laid := [("math/bits.deBruijn32tab", laid_math_bits_deBruijn32tab), ("math/bits.deBruijn64tab", laid_math_bits_deBruijn64tab), ("internal/strconv.uint64pow10", laid_internal_strconv_uint64pow10)], narrowed := true }
def KnowSecretsUptoSaid : Prop := knowSecretsUptoRow.holds Tryd.pinned (OpenSpec.upto knowSecretsSpec)

/-- 'trystlaw11.KnowMade', WHERE WHAT IT READS IS OF BULK AT MOST 1048576: true; the input reads as it did. -/
def knowMadeUptoRow : OpenClaim := { program := "ytoclhecldmahiaadoor", sum := "1af0c0920ac0f73d0076c9069af3775dd84f21aa073c69e1c272d4d7985654a6", func := "tryst/trystlaw11.KnowMade", spec := "knowMade", named := ["internal/strconv.uint64pow10", "math/bits.deBruijn32tab", "math/bits.deBruijn64tab"], apart := false, laid := [("math/bits.deBruijn32tab", laid_math_bits_deBruijn32tab), ("math/bits.deBruijn64tab", laid_math_bits_deBruijn64tab), ("internal/strconv.uint64pow10", laid_internal_strconv_uint64pow10)], narrowed := true }
def KnowMadeUptoSaid : Prop := knowMadeUptoRow.holds Tryd.pinned (OpenSpec.upto knowMadeSpec)

/-- 'trystlaw11.KnowNests', WHERE WHAT IT READS IS OF BULK AT MOST 1048576: true; the input reads as it did. -/
def knowNestsUptoRow : OpenClaim := { program := "ytoclhecldmahiaadoor", sum := "1af0c0920ac0f73d0076c9069af3775dd84f21aa073c69e1c272d4d7985654a6", func := "tryst/trystlaw11.KnowNests", spec := "knowNests", named := ["internal/strconv.uint64pow10", "math/bits.deBruijn32tab", "math/bits.deBruijn64tab"], apart := false, laid := [("math/bits.deBruijn32tab", laid_math_bits_deBruijn32tab), ("math/bits.deBruijn64tab", laid_math_bits_deBruijn64tab), ("internal/strconv.uint64pow10", laid_internal_strconv_uint64pow10)], narrowed := true }
def KnowNestsUptoSaid : Prop := knowNestsUptoRow.holds Tryd.pinned (OpenSpec.upto knowNestsSpec)

/-- 'trystlaw19.RatchetMeets', WHERE WHAT IT READS IS OF BULK AT MOST 1048576: true; the input reads as it did. -/
def ratchetMeetsUptoRow : OpenClaim := { program := "ytoclhecldmahiaadoor", sum := "1af0c0920ac0f73d0076c9069af3775dd84f21aa073c69e1c272d4d7985654a6", func := "tryst/trystlaw19.RatchetMeets", spec := "ratchetMeets", unfollowed := true, recurses := true, named := ["internal/strconv.uint64pow10", "math/bits.deBruijn32tab", "math/bits.deBruijn64tab"], apart := false, laid := [("math/bits.deBruijn32tab", laid_math_bits_deBruijn32tab), ("math/bits.deBruijn64tab", laid_math_bits_deBruijn64tab), ("internal/strconv.uint64pow10", laid_internal_strconv_uint64pow10)], narrowed := true }
def RatchetMeetsUptoSaid : Prop := ratchetMeetsUptoRow.holds Tryd.pinned (OpenSpec.upto ratchetMeetsSpec)

/-- 'trystlaw19.RatchetBounds', WHERE WHAT IT READS IS OF BULK AT MOST 1048576: true; the input reads as it did. -/
def ratchetBoundsUptoRow : OpenClaim := { program := "ytoclhecldmahiaadoor", sum := "1af0c0920ac0f73d0076c9069af3775dd84f21aa073c69e1c272d4d7985654a6", func := "tryst/trystlaw19.RatchetBounds", spec := "ratchetBounds", unfollowed := true, recurses := true, named := ["internal/strconv.uint64pow10", "math/bits.deBruijn32tab", "math/bits.deBruijn64tab"], apart := false, laid := [("math/bits.deBruijn32tab", laid_math_bits_deBruijn32tab), ("math/bits.deBruijn64tab", laid_math_bits_deBruijn64tab), ("internal/strconv.uint64pow10", laid_internal_strconv_uint64pow10)], narrowed := true }
def RatchetBoundsUptoSaid : Prop := ratchetBoundsUptoRow.holds Tryd.pinned (OpenSpec.upto ratchetBoundsSpec)

/-- 'trystlaw19.RatchetExact', WHERE WHAT IT READS IS OF BULK AT MOST 1048576: true; the input reads as it did. -/
def ratchetExactUptoRow : OpenClaim := { program := "ytoclhecldmahiaadoor", sum := "1af0c0920ac0f73d0076c9069af3775dd84f21aa073c69e1c272d4d7985654a6", func := "tryst/trystlaw19.RatchetExact", spec := "ratchetExact", unfollowed := true, recurses := true, named := ["internal/strconv.uint64pow10", "math/bits.deBruijn32tab", "math/bits.deBruijn64tab"], apart := false, laid := [("math/bits.deBruijn32tab", laid_math_bits_deBruijn32tab), ("math/bits.deBruijn64tab", laid_math_bits_deBruijn64tab), ("internal/strconv.uint64pow10", laid_internal_strconv_uint64pow10)], narrowed := true }
def RatchetExactUptoSaid : Prop := ratchetExactUptoRow.holds Tryd.pinned (OpenSpec.upto ratchetExactSpec)

/-- 'trystlaw18.SchedApart', WHERE WHAT IT READS IS OF BULK AT MOST 1048576: true; the input reads as it did. -/
def schedApartUptoRow : OpenClaim := { program := "ytoclhecldmahiaadoor", sum := "1af0c0920ac0f73d0076c9069af3775dd84f21aa073c69e1c272d4d7985654a6", func := "tryst/trystlaw18.SchedApart", spec := "schedApart", named := ["internal/strconv.uint64pow10", "math/bits.deBruijn32tab", "math/bits.deBruijn64tab"], apart := false, laid := [("math/bits.deBruijn32tab", laid_math_bits_deBruijn32tab), ("math/bits.deBruijn64tab", laid_math_bits_deBruijn64tab), ("internal/strconv.uint64pow10", laid_internal_strconv_uint64pow10)], narrowed := true }
def SchedApartUptoSaid : Prop := schedApartUptoRow.holds Tryd.pinned (OpenSpec.upto schedApartSpec)

/-- 'trystlaw23.OnionHidden', WHERE WHAT IT READS IS OF BULK AT MOST 1048576: true; the input reads as it did. -/
def onionHiddenUptoRow : OpenClaim := { program := "ytoclhecldmahiaadoor", sum := "1af0c0920ac0f73d0076c9069af3775dd84f21aa073c69e1c272d4d7985654a6", func := "tryst/trystlaw23.OnionHidden", spec := "onionHidden", named := ["internal/strconv.uint64pow10", "math/bits.deBruijn32tab", "math/bits.deBruijn64tab"], apart := false, laid := [("math/bits.deBruijn32tab", laid_math_bits_deBruijn32tab), ("math/bits.deBruijn64tab", laid_math_bits_deBruijn64tab), ("internal/strconv.uint64pow10", laid_internal_strconv_uint64pow10)], narrowed := true }
def OnionHiddenUptoSaid : Prop := onionHiddenUptoRow.holds Tryd.pinned (OpenSpec.upto onionHiddenSpec)

/-- 'trystlaw24.MixRounds', WHERE WHAT IT READS IS OF BULK AT MOST 1048576: true; the input reads as it did. -/
def mixRoundsUptoRow : OpenClaim := { program := "ytoclhecldmahiaadoor", sum := "1af0c0920ac0f73d0076c9069af3775dd84f21aa073c69e1c272d4d7985654a6", func := "tryst/trystlaw24.MixRounds", spec := "mixRounds", unfollowed := true, recurses := true, named := ["internal/strconv.uint64pow10", "math/bits.deBruijn32tab", "math/bits.deBruijn64tab"], apart := false, laid := [("math/bits.deBruijn32tab", laid_math_bits_deBruijn32tab), ("math/bits.deBruijn64tab", laid_math_bits_deBruijn64tab), ("internal/strconv.uint64pow10", laid_internal_strconv_uint64pow10)], narrowed := true }
def MixRoundsUptoSaid : Prop := mixRoundsUptoRow.holds Tryd.pinned (OpenSpec.upto mixRoundsSpec)

/-- 'trystlaw24.MixTurned', WHERE WHAT IT READS IS OF BULK AT MOST 1048576: true; the input reads as it did. -/
def mixTurnedUptoRow : OpenClaim := { program := "ytoclhecldmahiaadoor", sum := "1af0c0920ac0f73d0076c9069af3775dd84f21aa073c69e1c272d4d7985654a6", func := "tryst/trystlaw24.MixTurned", spec := "mixTurned", unfollowed := true, recurses := true, named := ["internal/strconv.uint64pow10", "math/bits.deBruijn32tab", "math/bits.deBruijn64tab"], apart := false, laid := [("math/bits.deBruijn32tab", laid_math_bits_deBruijn32tab), ("math/bits.deBruijn64tab", laid_math_bits_deBruijn64tab), ("internal/strconv.uint64pow10", laid_internal_strconv_uint64pow10)], narrowed := true }
def MixTurnedUptoSaid : Prop := mixTurnedUptoRow.holds Tryd.pinned (OpenSpec.upto mixTurnedSpec)

/-- 'trystlaw24.MixOrder', WHERE WHAT IT READS IS OF BULK AT MOST 1048576: true; the input reads as it did. -/
def mixOrderUptoRow : OpenClaim := { program := "ytoclhecldmahiaadoor", sum := "1af0c0920ac0f73d0076c9069af3775dd84f21aa073c69e1c272d4d7985654a6", func := "tryst/trystlaw24.MixOrder", spec := "mixOrder", unfollowed := true, recurses := true, named := ["internal/strconv.uint64pow10", "math/bits.deBruijn32tab", "math/bits.deBruijn64tab"], apart := false, laid := [("math/bits.deBruijn32tab", laid_math_bits_deBruijn32tab), ("math/bits.deBruijn64tab", laid_math_bits_deBruijn64tab), ("internal/strconv.uint64pow10", laid_internal_strconv_uint64pow10)], narrowed := true }
def MixOrderUptoSaid : Prop := mixOrderUptoRow.holds Tryd.pinned (OpenSpec.upto mixOrderSpec)

/-- 'trystlaw19.RatchetPast', WHERE WHAT IT READS IS OF BULK AT MOST 1048576: true; the input reads as it did. -/
def ratchetPastUptoRow : OpenClaim := { program := "ytoclhecldmahiaadoor", sum := "1af0c0920ac0f73d0076c9069af3775dd84f21aa073c69e1c272d4d7985654a6", func := "tryst/trystlaw19.RatchetPast", spec := "ratchetPast", unfollowed := true, recurses := true, named := ["internal/strconv.uint64pow10", "math/bits.deBruijn32tab", "math/bits.deBruijn64tab"], apart := false, laid := [("math/bits.deBruijn32tab", laid_math_bits_deBruijn32tab), ("math/bits.deBruijn64tab", laid_math_bits_deBruijn64tab), ("internal/strconv.uint64pow10", laid_internal_strconv_uint64pow10)], narrowed := true }
def RatchetPastUptoSaid : Prop := ratchetPastUptoRow.holds Tryd.pinned (OpenSpec.upto ratchetPastSpec)

/-- 'trystlaw24.MixSeen', WHERE WHAT IT READS IS OF BULK AT MOST 1048576: true; the input reads as it did. -/
def mixSeenUptoRow : OpenClaim := { program := "ytoclhecldmahiaadoor", sum := "1af0c0920ac0f73d0076c9069af3775dd84f21aa073c69e1c272d4d7985654a6", func := "tryst/trystlaw24.MixSeen", spec := "mixSeen", unfollowed := true, recurses := true, named := ["internal/strconv.uint64pow10", "math/bits.deBruijn32tab", "math/bits.deBruijn64tab"], apart := false, laid := [("math/bits.deBruijn32tab", laid_math_bits_deBruijn32tab), ("math/bits.deBruijn64tab", laid_math_bits_deBruijn64tab), ("internal/strconv.uint64pow10", laid_internal_strconv_uint64pow10)], narrowed := true }
def MixSeenUptoSaid : Prop := mixSeenUptoRow.holds Tryd.pinned (OpenSpec.upto mixSeenSpec)

end Rows
end Go.Proofs.YtoclhecldmahiaaDoor
