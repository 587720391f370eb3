/-
  NARROWER THAN 'FOR EVERY INPUT', by the rows' own cells (each row's printed sentence says how): TermTwo: laid · TermExact: laid · TermOnce: laid · TermCounts: laid · TermKeys: laid · TermBeneath: laid · TermMemory: laid · TermOpens: laid · KnowSecrets: laid · KnowMade: laid · KnowNests: laid.
  DERIVED. THE GIVEN ROWS OF THIS SEAT. 11 by the template 'for every input the law returns true; each argument reads behind the call as it read before'; 0 by the template 'total and deterministic' (their statements: YtpihglmgkfecbaaDoorTotals.lean).
  GIVEN WITH THE SEED: the statements are not yours to turn. If you find one false, say at which input.
  Laid BY PROGRAM, IN A SANDBOX (cutbox-rows.mjs): the forced cells as the released guide's own fill.sh prints them over the translation aa57d0a026d8f7e3… (all of the seat's roots in one cut). By AI agents, Wed Nov 11 2026. No macro, syntax, notation, axiom, sorry.
-/
import Derived.Test.YtpihglmgkfecbaaDoorChecked
import GoSem.Claim
import GoSem.ClaimJoined
import GoSem.ClaimMapViews
import Derived.JoinedTies
import Derived.KernelRfl
namespace Go.Proofs.YtpihglmgkfecbaaDoor
/- THE CELL 'sum', in the pinned program and in every row, IS THE sha256 OF THE DUMP (.gsa) THAT YtpihglmgkfecbaaDoorProg.lean LOADS. Nothing in Lean hashes anything: it is a label: what it is worth is what the hold of that sum in a sandbox is worth. -/
noncomputable def Tryd.pinned : Pinned := { name := "ytpihglmgkfecbaadoor", sum := "aa57d0a026d8f7e30b5dc4ef6443829277a99a678636dde07febd0982bcdd7ba", checked := Tryd.checked }
namespace Rows
def none {H : Type} : Left H := { results := [], args := [] }

/- WHAT THE LISTED PACKAGE-LEVEL VARIABLES READ AS WHEN THE CALL BEGINS. Each datum BY PROGRAM (the guide's laid-datum.mjs) off the statement by which the dump's own 'gosem.cut.vars' lays the variable. In a bare row this is a premise. The card (YtpihglmgkfecbaaDoorCards.lean) ties it to the program's text. -/
def laid_math_bits_deBruijn32tab {H : Type} : DataW H := .agg [.lit (.int .u8 0), .lit (.int .u8 1), .lit (.int .u8 28), .lit (.int .u8 2), .lit (.int .u8 29), .lit (.int .u8 14), .lit (.int .u8 24), .lit (.int .u8 3), .lit (.int .u8 30), .lit (.int .u8 22), .lit (.int .u8 20), .lit (.int .u8 15), .lit (.int .u8 25), .lit (.int .u8 17), .lit (.int .u8 4), .lit (.int .u8 8), .lit (.int .u8 31), .lit (.int .u8 27), .lit (.int .u8 13), .lit (.int .u8 23), .lit (.int .u8 21), .lit (.int .u8 19), .lit (.int .u8 16), .lit (.int .u8 7), .lit (.int .u8 26), .lit (.int .u8 12), .lit (.int .u8 18), .lit (.int .u8 6), .lit (.int .u8 11), .lit (.int .u8 5), .lit (.int .u8 10), .lit (.int .u8 9)]
def laid_math_bits_deBruijn64tab {H : Type} : DataW H := .agg [.lit (.int .u8 0), .lit (.int .u8 1), .lit (.int .u8 56), .lit (.int .u8 2), .lit (.int .u8 57), .lit (.int .u8 49), .lit (.int .u8 28), .lit (.int .u8 3), .lit (.int .u8 61), .lit (.int .u8 58), .lit (.int .u8 42), .lit (.int .u8 50), .lit (.int .u8 38), .lit (.int .u8 29), .lit (.int .u8 17), .lit (.int .u8 4), .lit (.int .u8 62), .lit (.int .u8 47), .lit (.int .u8 59), .lit (.int .u8 36), .lit (.int .u8 45), .lit (.int .u8 43), .lit (.int .u8 51), .lit (.int .u8 22), .lit (.int .u8 53), .lit (.int .u8 39), .lit (.int .u8 33), .lit (.int .u8 30), .lit (.int .u8 24), .lit (.int .u8 18), .lit (.int .u8 12), .lit (.int .u8 5), .lit (.int .u8 63), .lit (.int .u8 55), .lit (.int .u8 48), .lit (.int .u8 27), .lit (.int .u8 60), .lit (.int .u8 41), .lit (.int .u8 37), .lit (.int .u8 16), .lit (.int .u8 46), .lit (.int .u8 35), .lit (.int .u8 44), .lit (.int .u8 21), .lit (.int .u8 52), .lit (.int .u8 32), .lit (.int .u8 23), .lit (.int .u8 11), .lit (.int .u8 54), .lit (.int .u8 26), .lit (.int .u8 40), .lit (.int .u8 15), .lit (.int .u8 34), .lit (.int .u8 20), .lit (.int .u8 31), .lit (.int .u8 10), .lit (.int .u8 25), .lit (.int .u8 14), .lit (.int .u8 19), .lit (.int .u8 9), .lit (.int .u8 13), .lit (.int .u8 8), .lit (.int .u8 7), .lit (.int .u8 6)]
def laid_internal_strconv_uint64pow10 {H : Type} : DataW H := .agg [.lit (.int .u64 1), .lit (.int .u64 10), .lit (.int .u64 100), .lit (.int .u64 1000), .lit (.int .u64 10000), .lit (.int .u64 100000), .lit (.int .u64 1000000), .lit (.int .u64 10000000), .lit (.int .u64 100000000), .lit (.int .u64 1000000000), .lit (.int .u64 10000000000), .lit (.int .u64 100000000000), .lit (.int .u64 1000000000000), .lit (.int .u64 10000000000000), .lit (.int .u64 100000000000000), .lit (.int .u64 1000000000000000), .lit (.int .u64 10000000000000000), .lit (.int .u64 100000000000000000), .lit (.int .u64 1000000000000000000), .lit (.int .u64 10000000000000000000)]

/-- 'trystlaw10.TermTwo': WHATEVER THE INPUT: true; the input reads as it did. -/
def termTwoSpec : ChangeSpec := { name := "termTwo", fn := fun _ => fun
  | [d1, d2] => { results := [.lit (.bool true)], args := [d1, d2] }
  | _ => none }
def termTwoRow : OpenClaim := { program := "ytpihglmgkfecbaadoor", sum := "aa57d0a026d8f7e30b5dc4ef6443829277a99a678636dde07febd0982bcdd7ba", func := "tryst/trystlaw10.TermTwo", spec := "termTwo", named := ["internal/strconv.uint64pow10", "math/bits.deBruijn32tab", "math/bits.deBruijn64tab"], apart := false, laid := [("math/bits.deBruijn32tab", laid_math_bits_deBruijn32tab), ("math/bits.deBruijn64tab", laid_math_bits_deBruijn64tab), ("internal/strconv.uint64pow10", laid_internal_strconv_uint64pow10)] }
def TermTwoSaid : Prop := termTwoRow.holds Tryd.pinned (OpenSpec.ofChange termTwoSpec)

/-- ITS FALSE NEIGHBOUR: 'it returns false'. Refute it at one input. -/
def termTwoWrong : ChangeSpec := { name := "termTwo", fn := fun _ => fun
  | [d1, d2] => { results := [.lit (.bool false)], args := [d1, d2] }
  | _ => none }
def TermTwoWrongFalsely : Prop := termTwoRow.holds Tryd.pinned (OpenSpec.ofChange termTwoWrong)

/-- 'trystlaw10.TermExact': WHATEVER THE INPUT: true; the input reads as it did. -/
def termExactSpec : ChangeSpec := { name := "termExact", fn := fun _ => fun
  | [d1, d2] => { results := [.lit (.bool true)], args := [d1, d2] }
  | _ => none }
def termExactRow : OpenClaim := { program := "ytpihglmgkfecbaadoor", sum := "aa57d0a026d8f7e30b5dc4ef6443829277a99a678636dde07febd0982bcdd7ba", func := "tryst/trystlaw10.TermExact", spec := "termExact", named := ["internal/strconv.uint64pow10", "math/bits.deBruijn32tab", "math/bits.deBruijn64tab"], apart := false, laid := [("math/bits.deBruijn32tab", laid_math_bits_deBruijn32tab), ("math/bits.deBruijn64tab", laid_math_bits_deBruijn64tab), ("internal/strconv.uint64pow10", laid_internal_strconv_uint64pow10)] }
def TermExactSaid : Prop := termExactRow.holds Tryd.pinned (OpenSpec.ofChange termExactSpec)

/-- ITS FALSE NEIGHBOUR: 'it returns false'. Refute it at one input. -/
def termExactWrong : ChangeSpec := { name := "termExact", fn := fun _ => fun
  | [d1, d2] => { results := [.lit (.bool false)], args := [d1, d2] }
  | _ => none }
def TermExactWrongFalsely : Prop := termExactRow.holds Tryd.pinned (OpenSpec.ofChange termExactWrong)

/-- 'trystlaw10.TermOnce': WHATEVER THE INPUT: true; the input reads as it did. -/
def termOnceSpec : ChangeSpec := { name := "termOnce", fn := fun _ => fun
  | [d] => { results := [.lit (.bool true)], args := [d] }
  | _ => none }
def termOnceRow : OpenClaim := { program := "ytpihglmgkfecbaadoor", sum := "aa57d0a026d8f7e30b5dc4ef6443829277a99a678636dde07febd0982bcdd7ba", func := "tryst/trystlaw10.TermOnce", spec := "termOnce", named := ["internal/strconv.uint64pow10", "math/bits.deBruijn32tab", "math/bits.deBruijn64tab"], apart := false, laid := [("math/bits.deBruijn32tab", laid_math_bits_deBruijn32tab), ("math/bits.deBruijn64tab", laid_math_bits_deBruijn64tab), ("internal/strconv.uint64pow10", laid_internal_strconv_uint64pow10)] }
def TermOnceSaid : Prop := termOnceRow.holds Tryd.pinned (OpenSpec.ofChange termOnceSpec)

/-- ITS FALSE NEIGHBOUR: 'it returns false'. Refute it at one input. -/
def termOnceWrong : ChangeSpec := { name := "termOnce", fn := fun _ => fun
  | [d] => { results := [.lit (.bool false)], args := [d] }
  | _ => none }
def TermOnceWrongFalsely : Prop := termOnceRow.holds Tryd.pinned (OpenSpec.ofChange termOnceWrong)

/-- 'trystlaw10.TermCounts': WHATEVER THE INPUT: true; the input reads as it did. -/
def termCountsSpec : ChangeSpec := { name := "termCounts", fn := fun _ => fun
  | [d1, d2, d3] => { results := [.lit (.bool true)], args := [d1, d2, d3] }
  | _ => none }
def termCountsRow : OpenClaim := { program := "ytpihglmgkfecbaadoor", sum := "aa57d0a026d8f7e30b5dc4ef6443829277a99a678636dde07febd0982bcdd7ba", func := "tryst/trystlaw10.TermCounts", spec := "termCounts", named := ["internal/strconv.uint64pow10", "math/bits.deBruijn32tab", "math/bits.deBruijn64tab"], apart := false, laid := [("math/bits.deBruijn32tab", laid_math_bits_deBruijn32tab), ("math/bits.deBruijn64tab", laid_math_bits_deBruijn64tab), ("internal/strconv.uint64pow10", laid_internal_strconv_uint64pow10)] }
def TermCountsSaid : Prop := termCountsRow.holds Tryd.pinned (OpenSpec.ofChange termCountsSpec)

/-- ITS FALSE NEIGHBOUR: 'it returns false'. Refute it at one input. -/
def termCountsWrong : ChangeSpec := { name := "termCounts", fn := fun _ => fun
  | [d1, d2, d3] => { results := [.lit (.bool false)], args := [d1, d2, d3] }
  | _ => none }
def TermCountsWrongFalsely : Prop := termCountsRow.holds Tryd.pinned (OpenSpec.ofChange termCountsWrong)

/-- 'trystlaw10.TermKeys': WHATEVER THE INPUT: true; the input reads as it did. -/
def termKeysSpec : ChangeSpec := { name := "termKeys", fn := fun _ => fun
  | [d1, d2, d3, d4] => { results := [.lit (.bool true)], args := [d1, d2, d3, d4] }
  | _ => none }
def termKeysRow : OpenClaim := { program := "ytpihglmgkfecbaadoor", sum := "aa57d0a026d8f7e30b5dc4ef6443829277a99a678636dde07febd0982bcdd7ba", func := "tryst/trystlaw10.TermKeys", spec := "termKeys", named := ["internal/strconv.uint64pow10", "math/bits.deBruijn32tab", "math/bits.deBruijn64tab"], apart := false, laid := [("math/bits.deBruijn32tab", laid_math_bits_deBruijn32tab), ("math/bits.deBruijn64tab", laid_math_bits_deBruijn64tab), ("internal/strconv.uint64pow10", laid_internal_strconv_uint64pow10)] }
def TermKeysSaid : Prop := termKeysRow.holds Tryd.pinned (OpenSpec.ofChange termKeysSpec)

/-- ITS FALSE NEIGHBOUR: 'it returns false'. Refute it at one input. -/
def termKeysWrong : ChangeSpec := { name := "termKeys", fn := fun _ => fun
  | [d1, d2, d3, d4] => { results := [.lit (.bool false)], args := [d1, d2, d3, d4] }
  | _ => none }
def TermKeysWrongFalsely : Prop := termKeysRow.holds Tryd.pinned (OpenSpec.ofChange termKeysWrong)

/-- 'trystlaw10.TermBeneath': WHATEVER THE INPUT: true; the input reads as it did. -/
def termBeneathSpec : ChangeSpec := { name := "termBeneath", fn := fun _ => fun
  | [d1, d2] => { results := [.lit (.bool true)], args := [d1, d2] }
  | _ => none }
def termBeneathRow : OpenClaim := { program := "ytpihglmgkfecbaadoor", sum := "aa57d0a026d8f7e30b5dc4ef6443829277a99a678636dde07febd0982bcdd7ba", func := "tryst/trystlaw10.TermBeneath", spec := "termBeneath", named := ["internal/strconv.uint64pow10", "math/bits.deBruijn32tab", "math/bits.deBruijn64tab"], apart := false, laid := [("math/bits.deBruijn32tab", laid_math_bits_deBruijn32tab), ("math/bits.deBruijn64tab", laid_math_bits_deBruijn64tab), ("internal/strconv.uint64pow10", laid_internal_strconv_uint64pow10)] }
def TermBeneathSaid : Prop := termBeneathRow.holds Tryd.pinned (OpenSpec.ofChange termBeneathSpec)

/-- ITS FALSE NEIGHBOUR: 'it returns false'. Refute it at one input. -/
def termBeneathWrong : ChangeSpec := { name := "termBeneath", fn := fun _ => fun
  | [d1, d2] => { results := [.lit (.bool false)], args := [d1, d2] }
  | _ => none }
def TermBeneathWrongFalsely : Prop := termBeneathRow.holds Tryd.pinned (OpenSpec.ofChange termBeneathWrong)

/-- 'trystlaw10.TermMemory': WHATEVER THE INPUT: true; the input reads as it did. -/
def termMemorySpec : ChangeSpec := { name := "termMemory", fn := fun _ => fun
  | [d] => { results := [.lit (.bool true)], args := [d] }
  | _ => none }
def termMemoryRow : OpenClaim := { program := "ytpihglmgkfecbaadoor", sum := "aa57d0a026d8f7e30b5dc4ef6443829277a99a678636dde07febd0982bcdd7ba", func := "tryst/trystlaw10.TermMemory", spec := "termMemory", named := ["internal/strconv.uint64pow10", "math/bits.deBruijn32tab", "math/bits.deBruijn64tab"], apart := false, laid := [("math/bits.deBruijn32tab", laid_math_bits_deBruijn32tab), ("math/bits.deBruijn64tab", laid_math_bits_deBruijn64tab), ("internal/strconv.uint64pow10", laid_internal_strconv_uint64pow10)] }
def TermMemorySaid : Prop := termMemoryRow.holds Tryd.pinned (OpenSpec.ofChange termMemorySpec)

/-- ITS FALSE NEIGHBOUR: 'it returns false'. Refute it at one input. -/
def termMemoryWrong : ChangeSpec := { name := "termMemory", fn := fun _ => fun
  | [d] => { results := [.lit (.bool false)], args := [d] }
  | _ => none }
def TermMemoryWrongFalsely : Prop := termMemoryRow.holds Tryd.pinned (OpenSpec.ofChange termMemoryWrong)

/-- 'trystlaw10.TermOpens': WHATEVER THE INPUT: true; the input reads as it did. -/
def termOpensSpec : ChangeSpec := { name := "termOpens", fn := fun _ => fun
  | [d1, d2, d3, d4] => { results := [.lit (.bool true)], args := [d1, d2, d3, d4] }
  | _ => none }
def termOpensRow : OpenClaim := { program := "ytpihglmgkfecbaadoor", sum := "aa57d0a026d8f7e30b5dc4ef6443829277a99a678636dde07febd0982bcdd7ba", func := "tryst/trystlaw10.TermOpens", spec := "termOpens", named := ["internal/strconv.uint64pow10", "math/bits.deBruijn32tab", "math/bits.deBruijn64tab"], apart := false, laid := [("math/bits.deBruijn32tab", laid_math_bits_deBruijn32tab), ("math/bits.deBruijn64tab", laid_math_bits_deBruijn64tab), ("internal/strconv.uint64pow10", laid_internal_strconv_uint64pow10)] }
def TermOpensSaid : Prop := termOpensRow.holds Tryd.pinned (OpenSpec.ofChange termOpensSpec)

/-- ITS FALSE NEIGHBOUR: 'it returns false'. Refute it at one input. -/
def termOpensWrong : ChangeSpec := { name := "termOpens", fn := fun _ => fun
  | [d1, d2, d3, d4] => { results := [.lit (.bool false)], args := [d1, d2, d3, d4] }
  | _ => none }
def TermOpensWrongFalsely : Prop := termOpensRow.holds Tryd.pinned (OpenSpec.ofChange termOpensWrong)

/-- 'trystlaw11.KnowSecrets': WHATEVER THE INPUT: true; the input reads as it did. -/
def knowSecretsSpec : ChangeSpec := { name := "knowSecrets", fn := fun _ => fun
  | [d1, d2, d3] => { results := [.lit (.bool true)], args := [d1, d2, d3] }
  | _ => none }
def knowSecretsRow : OpenClaim := { program := "ytpihglmgkfecbaadoor", sum := "aa57d0a026d8f7e30b5dc4ef6443829277a99a678636dde07febd0982bcdd7ba", func := "tryst/trystlaw11.KnowSecrets", spec := "knowSecrets", named := ["internal/strconv.uint64pow10", "math/bits.deBruijn32tab", "math/bits.deBruijn64tab"], apart := false, laid := [("math/bits.deBruijn32tab", laid_math_bits_deBruijn32tab), ("math/bits.deBruijn64tab", laid_math_bits_deBruijn64tab), ("internal/strconv.uint64pow10", laid_internal_strconv_uint64pow10)] }
def KnowSecretsSaid : Prop := knowSecretsRow.holds Tryd.pinned (OpenSpec.ofChange knowSecretsSpec)

/-- ITS FALSE NEIGHBOUR: 'it returns false'. Refute it at one input. -/
def knowSecretsWrong : ChangeSpec := { name := "knowSecrets", fn := fun _ => fun
  | [d1, d2, d3] => { results := [.lit (.bool false)], args := [d1, d2, d3] }
  | _ => none }
def KnowSecretsWrongFalsely : Prop := knowSecretsRow.holds Tryd.pinned (OpenSpec.ofChange knowSecretsWrong)

/-- 'trystlaw11.KnowMade': WHATEVER THE INPUT: true; the input reads as it did. -/
def knowMadeSpec : ChangeSpec := { name := "knowMade", fn := fun _ => fun
  | [d] => { results := [.lit (.bool true)], args := [d] }
  | _ => none }
def knowMadeRow : OpenClaim := { program := "ytpihglmgkfecbaadoor", sum := "aa57d0a026d8f7e30b5dc4ef6443829277a99a678636dde07febd0982bcdd7ba", func := "tryst/trystlaw11.KnowMade", spec := "knowMade", named := ["internal/strconv.uint64pow10", "math/bits.deBruijn32tab", "math/bits.deBruijn64tab"], apart := false, laid := [("math/bits.deBruijn32tab", laid_math_bits_deBruijn32tab), ("math/bits.deBruijn64tab", laid_math_bits_deBruijn64tab), ("internal/strconv.uint64pow10", laid_internal_strconv_uint64pow10)] }
def KnowMadeSaid : Prop := knowMadeRow.holds Tryd.pinned (OpenSpec.ofChange knowMadeSpec)

/-- ITS FALSE NEIGHBOUR: 'it returns false'. Refute it at one input. -/
def knowMadeWrong : ChangeSpec := { name := "knowMade", fn := fun _ => fun
  | [d] => { results := [.lit (.bool false)], args := [d] }
  | _ => none }
def KnowMadeWrongFalsely : Prop := knowMadeRow.holds Tryd.pinned (OpenSpec.ofChange knowMadeWrong)

/-- 'trystlaw11.KnowNests': WHATEVER THE INPUT: true; the input reads as it did. -/
def knowNestsSpec : ChangeSpec := { name := "knowNests", fn := fun _ => fun
  | [d1, d2] => { results := [.lit (.bool true)], args := [d1, d2] }
  | _ => none }
def knowNestsRow : OpenClaim := { program := "ytpihglmgkfecbaadoor", sum := "aa57d0a026d8f7e30b5dc4ef6443829277a99a678636dde07febd0982bcdd7ba", func := "tryst/trystlaw11.KnowNests", spec := "knowNests", named := ["internal/strconv.uint64pow10", "math/bits.deBruijn32tab", "math/bits.deBruijn64tab"], apart := false, laid := [("math/bits.deBruijn32tab", laid_math_bits_deBruijn32tab), ("math/bits.deBruijn64tab", laid_math_bits_deBruijn64tab), ("internal/strconv.uint64pow10", laid_internal_strconv_uint64pow10)] }
def KnowNestsSaid : Prop := knowNestsRow.holds Tryd.pinned (OpenSpec.ofChange knowNestsSpec)

/-- ITS FALSE NEIGHBOUR: 'it returns false'. Refute it at one input. -/
def knowNestsWrong : ChangeSpec := { name := "knowNests", fn := fun _ => fun
  | [d1, d2] => { results := [.lit (.bool false)], args := [d1, d2] }
  | _ => none }
def KnowNestsWrongFalsely : Prop := knowNestsRow.holds Tryd.pinned (OpenSpec.ofChange knowNestsWrong)

/- THE SECOND FORM. 'bulk': how many values and letters a reading holds, each counted each time it is reached (what is shared counts as often as it is met; a slice's spare places count too). A statement '..UptoSaid' is the law's where the arguments, and the package variables that the reading takes, are together of bulk at most 1048576: NARROWER than '..Said'. Prove '..Said' where nothing that the law and all that it calls make is longer than what came in: it says more and counts as full. Else prove '..UptoSaid'. A law counts once. -/
mutual
def uptoBulk {H : Type} : DataW H → Nat
  | .lit (.string bytes) => bytes.length + 1
  | .lit _ => 1
  | .nil => 1
  | .ptr d => uptoBulk d + 1
  | .slice elems spare => uptoBulkAll elems + uptoBulkAll spare + 1
  | .agg parts => uptoBulkAll parts + 1
  | .iface _ d => uptoBulk d + 1
  | .map entries => uptoBulkEntries entries + 1
  | .held _ => 1
def uptoBulkAll {H : Type} : List (DataW H) → Nat
  | [] => 0
  | d :: r => uptoBulk d + uptoBulkAll r
def uptoBulkEntries {H : Type} : List (Lit × DataW H) → Nat
  | [] => 0
  | x :: r => uptoBulkEntry x + uptoBulkEntries r
def uptoBulkEntry {H : Type} : Lit × DataW H → Nat
  | (.string bytes, d) => bytes.length + uptoBulk d + 1
  | (_, d) => uptoBulk d + 1
 end
def uptoSmall : (H : Type) → List (DataW H) → Bool := fun _ ds => decide (uptoBulkAll ds ≤ 1048576)
def OpenSpec.upto (s : _root_.Go.ChangeSpec) : _root_.Go.OpenSpec := { _root_.Go.OpenSpec.ofChange s with cond := some uptoSmall }

/-- 'trystlaw10.TermTwo', WHERE WHAT IT READS IS OF BULK AT MOST 1048576: true; the input reads as it did. -/
def termTwoUptoRow : OpenClaim := { program := "ytpihglmgkfecbaadoor", sum := "aa57d0a026d8f7e30b5dc4ef6443829277a99a678636dde07febd0982bcdd7ba", func := "tryst/trystlaw10.TermTwo", spec := "termTwo", named := ["internal/strconv.uint64pow10", "math/bits.deBruijn32tab", "math/bits.deBruijn64tab"], apart := false, laid := [("math/bits.deBruijn32tab", laid_math_bits_deBruijn32tab), ("math/bits.deBruijn64tab", laid_math_bits_deBruijn64tab), ("internal/strconv.uint64pow10", laid_internal_strconv_uint64pow10)], narrowed := true }
def TermTwoUptoSaid : Prop := termTwoUptoRow.holds Tryd.pinned (OpenSpec.upto termTwoSpec)

/-- 'trystlaw10.TermExact', WHERE WHAT IT READS IS OF BULK AT MOST 1048576: true; the input reads as it did. -/
def termExactUptoRow : OpenClaim := { program := "ytpihglmgkfecbaadoor", sum := "aa57d0a026d8f7e30b5dc4ef6443829277a99a678636dde07febd0982bcdd7ba", func := "tryst/trystlaw10.TermExact", spec := "termExact", named := ["internal/strconv.uint64pow10", "math/bits.deBruijn32tab", "math/bits.deBruijn64tab"], apart := false, laid := [("math/bits.deBruijn32tab", laid_math_bits_deBruijn32tab), ("math/bits.deBruijn64tab", laid_math_bits_deBruijn64tab), ("internal/strconv.uint64pow10", laid_internal_strconv_uint64pow10)], narrowed := true }
def TermExactUptoSaid : Prop := termExactUptoRow.holds Tryd.pinned (OpenSpec.upto termExactSpec)

/-- 'trystlaw10.TermOnce', WHERE WHAT IT READS IS OF BULK AT MOST 1048576: true; the input reads as it did. -/
def termOnceUptoRow : OpenClaim := { program := "ytpihglmgkfecbaadoor", sum := "aa57d0a026d8f7e30b5dc4ef6443829277a99a678636dde07febd0982bcdd7ba", func := "tryst/trystlaw10.TermOnce", spec := "termOnce", named := ["internal/strconv.uint64pow10", "math/bits.deBruijn32tab", "math/bits.deBruijn64tab"], apart := false, laid := [("math/bits.deBruijn32tab", laid_math_bits_deBruijn32tab), ("math/bits.deBruijn64tab", laid_math_bits_deBruijn64tab), ("internal/strconv.uint64pow10", laid_internal_strconv_uint64pow10)], narrowed := true }
def TermOnceUptoSaid : Prop := termOnceUptoRow.holds Tryd.pinned (OpenSpec.upto termOnceSpec)

/-- 'trystlaw10.TermCounts', WHERE WHAT IT READS IS OF BULK AT MOST 1048576: true; the input reads as it did. -/
def termCountsUptoRow : OpenClaim := { program := "ytpihglmgkfecbaadoor", sum := "aa57d0a026d8f7e30b5dc4ef6443829277a99a678636dde07febd0982bcdd7ba", func := "tryst/trystlaw10.TermCounts", spec := "termCounts", named := ["internal/strconv.uint64pow10", "math/bits.deBruijn32tab", "math/bits.deBruijn64tab"], apart := false, laid := [("math/bits.deBruijn32tab", laid_math_bits_deBruijn32tab), ("math/bits.deBruijn64tab", laid_math_bits_deBruijn64tab), ("internal/strconv.uint64pow10", laid_internal_strconv_uint64pow10)], narrowed := true }
def TermCountsUptoSaid : Prop := termCountsUptoRow.holds Tryd.pinned (OpenSpec.upto termCountsSpec)

/-- 'trystlaw10.TermKeys', WHERE WHAT IT READS IS OF BULK AT MOST 1048576: true; the input reads as it did. -/
def termKeysUptoRow : OpenClaim := { program := "ytpihglmgkfecbaadoor", sum := "aa57d0a026d8f7e30b5dc4ef6443829277a99a678636dde07febd0982bcdd7ba", func := "tryst/trystlaw10.TermKeys", spec := "termKeys", named := ["internal/strconv.uint64pow10", "math/bits.deBruijn32tab", "math/bits.deBruijn64tab"], apart := false, laid := [("math/bits.deBruijn32tab", laid_math_bits_deBruijn32tab), ("math/bits.deBruijn64tab", laid_math_bits_deBruijn64tab), ("internal/strconv.uint64pow10", laid_internal_strconv_uint64pow10)], narrowed := true }
def TermKeysUptoSaid : Prop := termKeysUptoRow.holds Tryd.pinned (OpenSpec.upto termKeysSpec)

/-- 'trystlaw10.TermBeneath', WHERE WHAT IT READS IS OF BULK AT MOST 1048576: true; the input reads as it did. -/
def termBeneathUptoRow : OpenClaim := { program := "ytpihglmgkfecbaadoor", sum := "aa57d0a026d8f7e30b5dc4ef6443829277a99a678636dde07febd0982bcdd7ba", func := "tryst/trystlaw10.TermBeneath", spec := "termBeneath", named := ["internal/strconv.uint64pow10", "math/bits.deBruijn32tab", "math/bits.deBruijn64tab"], apart := false, laid := [("math/bits.deBruijn32tab", laid_math_bits_deBruijn32tab), ("math/bits.deBruijn64tab", laid_math_bits_deBruijn64tab), ("internal/strconv.uint64pow10", laid_internal_strconv_uint64pow10)], narrowed := true }
def TermBeneathUptoSaid : Prop := termBeneathUptoRow.holds Tryd.pinned (OpenSpec.upto termBeneathSpec)

/-- 'trystlaw10.TermMemory', WHERE WHAT IT READS IS OF BULK AT MOST 1048576: true; the input reads as it did. -/
def termMemoryUptoRow : OpenClaim := { program := "ytpihglmgkfecbaadoor", sum := "aa57d0a026d8f7e30b5dc4ef6443829277a99a678636dde07febd0982bcdd7ba", func := "tryst/trystlaw10.TermMemory", spec := "termMemory", named := ["internal/strconv.uint64pow10", "math/bits.deBruijn32tab", "math/bits.deBruijn64tab"], apart := false, laid := [("math/bits.deBruijn32tab", laid_math_bits_deBruijn32tab), ("math/bits.deBruijn64tab", laid_math_bits_deBruijn64tab), ("internal/strconv.uint64pow10", laid_internal_strconv_uint64pow10)], narrowed := true }
def TermMemoryUptoSaid : Prop := termMemoryUptoRow.holds Tryd.pinned (OpenSpec.upto termMemorySpec)

/-- 'trystlaw10.TermOpens', WHERE WHAT IT READS IS OF BULK AT MOST 1048576: true; the input reads as it did. -/
def termOpensUptoRow : OpenClaim := { program := "ytpihglmgkfecbaadoor", sum := "aa57d0a026d8f7e30b5dc4ef6443829277a99a678636dde07febd0982bcdd7ba", func := "tryst/trystlaw10.TermOpens", spec := "termOpens", named := ["internal/strconv.uint64pow10", "math/bits.deBruijn32tab", "math/bits.deBruijn64tab"], apart := false, laid := [("math/bits.deBruijn32tab", laid_math_bits_deBruijn32tab), ("math/bits.deBruijn64tab", laid_math_bits_deBruijn64tab), ("internal/strconv.uint64pow10", laid_internal_strconv_uint64pow10)], narrowed := true }
def TermOpensUptoSaid : Prop := termOpensUptoRow.holds Tryd.pinned (OpenSpec.upto termOpensSpec)

/-- 'trystlaw11.KnowSecrets', WHERE WHAT IT READS IS OF BULK AT MOST 1048576: true; the input reads as it did. -/
def knowSecretsUptoRow : OpenClaim := { program := "ytpihglmgkfecbaadoor", sum := "aa57d0a026d8f7e30b5dc4ef6443829277a99a678636dde07febd0982bcdd7ba", func := "tryst/trystlaw11.KnowSecrets", spec := "knowSecrets", named := ["internal/strconv.uint64pow10", "math/bits.deBruijn32tab", "math/bits.deBruijn64tab"], apart := false, laid := [("math/bits.deBruijn32tab", laid_math_bits_deBruijn32tab), ("math/bits.deBruijn64tab", laid_math_bits_deBruijn64tab), ("internal/strconv.uint64pow10", laid_internal_strconv_uint64pow10)], narrowed := true }
def KnowSecretsUptoSaid : Prop := knowSecretsUptoRow.holds Tryd.pinned (OpenSpec.upto knowSecretsSpec)

/-- 'trystlaw11.KnowMade', WHERE WHAT IT READS IS OF BULK AT MOST 1048576: true; the input reads as it did. -/
def knowMadeUptoRow : OpenClaim := { program := "ytpihglmgkfecbaadoor", sum := "aa57d0a026d8f7e30b5dc4ef6443829277a99a678636dde07febd0982bcdd7ba", func := "tryst/trystlaw11.KnowMade", spec := "knowMade", named := ["internal/strconv.uint64pow10", "math/bits.deBruijn32tab", "math/bits.deBruijn64tab"], apart := false, laid := [("math/bits.deBruijn32tab", laid_math_bits_deBruijn32tab), ("math/bits.deBruijn64tab", laid_math_bits_deBruijn64tab), ("internal/strconv.uint64pow10", laid_internal_strconv_uint64pow10)], narrowed := true }
def KnowMadeUptoSaid : Prop := knowMadeUptoRow.holds Tryd.pinned (OpenSpec.upto knowMadeSpec)

/-- 'trystlaw11.KnowNests', WHERE WHAT IT READS IS OF BULK AT MOST 1048576: true; the input reads as it did. -/
def knowNestsUptoRow : OpenClaim := { program := "ytpihglmgkfecbaadoor", sum := "aa57d0a026d8f7e30b5dc4ef6443829277a99a678636dde07febd0982bcdd7ba", func := "tryst/trystlaw11.KnowNests", spec := "knowNests", named := ["internal/strconv.uint64pow10", "math/bits.deBruijn32tab", "math/bits.deBruijn64tab"], apart := false, laid := [("math/bits.deBruijn32tab", laid_math_bits_deBruijn32tab), ("math/bits.deBruijn64tab", laid_math_bits_deBruijn64tab), ("internal/strconv.uint64pow10", laid_internal_strconv_uint64pow10)], narrowed := true }
def KnowNestsUptoSaid : Prop := knowNestsUptoRow.holds Tryd.pinned (OpenSpec.upto knowNestsSpec)

end Rows
end Go.Proofs.YtpihglmgkfecbaaDoor
