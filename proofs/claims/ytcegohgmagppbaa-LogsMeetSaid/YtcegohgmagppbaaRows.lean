/-
  No cell of these rows narrows 'for every input' (looked for: loops, veiled, ifaces, maps, wideKeys, modest, calm, conditions, laid).
  DERIVED. THE GIVEN ROWS OF THIS SEAT. 5 by the template 'for every input the law returns true; each argument reads behind the call as it read before'; 0 by the template 'total and deterministic' (their statements: YtcegohgmagppbaaTotals.lean).
  GIVEN WITH THE SEED: the statements are not yours to turn. If you find one false, say at which input.
  Laid BY PROGRAM, IN A SANDBOX (cutbox-rows.mjs): the forced cells as the released guide's own fill.sh prints them over the translation 2cdc2d4de719d051… (all of the seat's roots in one cut). By AI agents, Wed Nov 11 2026. No macro, syntax, notation, axiom, sorry.
-/
import Derived.Test.YtcegohgmagppbaaChecked
import GoSem.Claim
import GoSem.ClaimJoined
import GoSem.ClaimMapViews
import Derived.JoinedTies
import Derived.KernelRfl
namespace Go.Proofs.Ytcegohgmagppbaa
/- THE CELL 'sum', in the pinned program and in every row, IS THE sha256 OF THE DUMP (.gsa) THAT YtcegohgmagppbaaProg.lean LOADS. Nothing in Lean hashes anything: it is a label: what it is worth is what the hold of that sum in a sandbox is worth. -/
noncomputable def Try.pinned : Pinned := { name := "ytcegohgmagppbaa", sum := "2cdc2d4de719d051cdba5dcba27c62e8331cce4e0c86bf625d7441284b9e3a1b", checked := Try.checked }
namespace Rows
def none {H : Type} : Left H := { results := [], args := [] }

/-- 'trystlaw25.LogsMeet': WHATEVER THE INPUT: true; the input reads as it did. -/
def logsMeetSpec : ChangeSpec := { name := "logsMeet", fn := fun _ => fun
  | [d1, d2, d3] => { results := [.lit (.bool true)], args := [d1, d2, d3] }
  | _ => none }
def logsMeetRow : OpenClaim := { program := "ytcegohgmagppbaa", sum := "2cdc2d4de719d051cdba5dcba27c62e8331cce4e0c86bf625d7441284b9e3a1b", func := "tryst/trystlaw25.LogsMeet", spec := "logsMeet", inPlace := ["slices.overlaps[tryst/api.Log]"], unfollowed := true, recurses := true, apart := false }
def LogsMeetSaid : Prop := logsMeetRow.holds Try.pinned (OpenSpec.ofChange logsMeetSpec)

/-- ITS FALSE NEIGHBOUR: 'it returns false'. Refute it at one input. -/
def logsMeetWrong : ChangeSpec := { name := "logsMeet", fn := fun _ => fun
  | [d1, d2, d3] => { results := [.lit (.bool false)], args := [d1, d2, d3] }
  | _ => none }
def LogsMeetWrongFalsely : Prop := logsMeetRow.holds Try.pinned (OpenSpec.ofChange logsMeetWrong)

/-- 'trystlaw25.LogsGrow': WHATEVER THE INPUT: true; the input reads as it did. -/
def logsGrowSpec : ChangeSpec := { name := "logsGrow", fn := fun _ => fun
  | [d1, d2, d3] => { results := [.lit (.bool true)], args := [d1, d2, d3] }
  | _ => none }
def logsGrowRow : OpenClaim := { program := "ytcegohgmagppbaa", sum := "2cdc2d4de719d051cdba5dcba27c62e8331cce4e0c86bf625d7441284b9e3a1b", func := "tryst/trystlaw25.LogsGrow", spec := "logsGrow", inPlace := ["slices.overlaps[tryst/api.Log]"], unfollowed := true, recurses := true, apart := false }
def LogsGrowSaid : Prop := logsGrowRow.holds Try.pinned (OpenSpec.ofChange logsGrowSpec)

/-- ITS FALSE NEIGHBOUR: 'it returns false'. Refute it at one input. -/
def logsGrowWrong : ChangeSpec := { name := "logsGrow", fn := fun _ => fun
  | [d1, d2, d3] => { results := [.lit (.bool false)], args := [d1, d2, d3] }
  | _ => none }
def LogsGrowWrongFalsely : Prop := logsGrowRow.holds Try.pinned (OpenSpec.ofChange logsGrowWrong)

/-- 'trystlaw25.LogsLong': WHATEVER THE INPUT: true; the input reads as it did. -/
def logsLongSpec : ChangeSpec := { name := "logsLong", fn := fun _ => fun
  | [d1, d2] => { results := [.lit (.bool true)], args := [d1, d2] }
  | _ => none }
def logsLongRow : OpenClaim := { program := "ytcegohgmagppbaa", sum := "2cdc2d4de719d051cdba5dcba27c62e8331cce4e0c86bf625d7441284b9e3a1b", func := "tryst/trystlaw25.LogsLong", spec := "logsLong", inPlace := ["slices.overlaps[tryst/api.Log]"], unfollowed := true, recurses := true, apart := false }
def LogsLongSaid : Prop := logsLongRow.holds Try.pinned (OpenSpec.ofChange logsLongSpec)

/-- ITS FALSE NEIGHBOUR: 'it returns false'. Refute it at one input. -/
def logsLongWrong : ChangeSpec := { name := "logsLong", fn := fun _ => fun
  | [d1, d2] => { results := [.lit (.bool false)], args := [d1, d2] }
  | _ => none }
def LogsLongWrongFalsely : Prop := logsLongRow.holds Try.pinned (OpenSpec.ofChange logsLongWrong)

/-- 'trystlaw25.LogsBegin': WHATEVER THE INPUT: true; the input reads as it did. -/
def logsBeginSpec : ChangeSpec := { name := "logsBegin", fn := fun _ => fun
  | [d1, d2, d3] => { results := [.lit (.bool true)], args := [d1, d2, d3] }
  | _ => none }
def logsBeginRow : OpenClaim := { program := "ytcegohgmagppbaa", sum := "2cdc2d4de719d051cdba5dcba27c62e8331cce4e0c86bf625d7441284b9e3a1b", func := "tryst/trystlaw25.LogsBegin", spec := "logsBegin", inPlace := ["slices.overlaps[tryst/api.Log]"], unfollowed := true, recurses := true, apart := false }
def LogsBeginSaid : Prop := logsBeginRow.holds Try.pinned (OpenSpec.ofChange logsBeginSpec)

/-- ITS FALSE NEIGHBOUR: 'it returns false'. Refute it at one input. -/
def logsBeginWrong : ChangeSpec := { name := "logsBegin", fn := fun _ => fun
  | [d1, d2, d3] => { results := [.lit (.bool false)], args := [d1, d2, d3] }
  | _ => none }
def LogsBeginWrongFalsely : Prop := logsBeginRow.holds Try.pinned (OpenSpec.ofChange logsBeginWrong)

/-- 'trystlaw25.LogsExact': WHATEVER THE INPUT: true; the input reads as it did. -/
def logsExactSpec : ChangeSpec := { name := "logsExact", fn := fun _ => fun
  | [d1, d2, d3] => { results := [.lit (.bool true)], args := [d1, d2, d3] }
  | _ => none }
def logsExactRow : OpenClaim := { program := "ytcegohgmagppbaa", sum := "2cdc2d4de719d051cdba5dcba27c62e8331cce4e0c86bf625d7441284b9e3a1b", func := "tryst/trystlaw25.LogsExact", spec := "logsExact", inPlace := ["slices.overlaps[tryst/api.Log]"], unfollowed := true, recurses := true, apart := false }
def LogsExactSaid : Prop := logsExactRow.holds Try.pinned (OpenSpec.ofChange logsExactSpec)

/-- ITS FALSE NEIGHBOUR: 'it returns false'. Refute it at one input. -/
def logsExactWrong : ChangeSpec := { name := "logsExact", fn := fun _ => fun
  | [d1, d2, d3] => { results := [.lit (.bool false)], args := [d1, d2, d3] }
  | _ => none }
def LogsExactWrongFalsely : Prop := logsExactRow.holds Try.pinned (OpenSpec.ofChange logsExactWrong)

/- THE SECOND FORM. 'bulk': how many values and letters a reading holds, each counted each time it is reached (what is shared counts as often as it is met; a slice's spare places count too). A statement '..UptoSaid' is the law's where the arguments, and the package variables that the reading takes, are together of bulk at most 1048576: NARROWER than '..Said'. Prove '..Said' where nothing that the law and all that it calls make is longer than what came in: it says more and counts as full. Else prove '..UptoSaid'. A law counts once. -/
mutual
def uptoBulk {H : Type} : DataW H → Nat
  | .lit (.string bytes) => bytes.length + 1
  | .lit _ => 1
  | .nil => 1
  | .ptr d => uptoBulk d + 1
  | .slice elems spare => uptoBulkAll elems + uptoBulkAll spare + 1
  | .agg parts => uptoBulkAll parts + 1
  | .iface _ d => uptoBulk d + 1
  | .map entries => uptoBulkEntries entries + 1
  | .held _ => 1
def uptoBulkAll {H : Type} : List (DataW H) → Nat
  | [] => 0
  | d :: r => uptoBulk d + uptoBulkAll r
def uptoBulkEntries {H : Type} : List (Lit × DataW H) → Nat
  | [] => 0
  | x :: r => uptoBulkEntry x + uptoBulkEntries r
def uptoBulkEntry {H : Type} : Lit × DataW H → Nat
  | (.string bytes, d) => bytes.length + uptoBulk d + 1
  | (_, d) => uptoBulk d + 1
 end
def uptoSmall : (H : Type) → List (DataW H) → Bool := fun _ ds => decide (uptoBulkAll ds ≤ 1048576)
def OpenSpec.upto (s : _root_.Go.ChangeSpec) : _root_.Go.OpenSpec := { _root_.Go.OpenSpec.ofChange s with cond := some uptoSmall }

/-- 'trystlaw25.LogsMeet', WHERE WHAT IT READS IS OF BULK AT MOST 1048576: true; the input reads as it did. -/
def logsMeetUptoRow : OpenClaim := { program := "ytcegohgmagppbaa", sum := "2cdc2d4de719d051cdba5dcba27c62e8331cce4e0c86bf625d7441284b9e3a1b", func := "tryst/trystlaw25.LogsMeet", spec := "logsMeet", inPlace := ["slices.overlaps[tryst/api.Log]"], unfollowed := true, recurses := true, apart := false, narrowed := true }
def LogsMeetUptoSaid : Prop := logsMeetUptoRow.holds Try.pinned (OpenSpec.upto logsMeetSpec)

/-- 'trystlaw25.LogsGrow', WHERE WHAT IT READS IS OF BULK AT MOST 1048576: true; the input reads as it did. -/
def logsGrowUptoRow : OpenClaim := { program := "ytcegohgmagppbaa", sum := "2cdc2d4de719d051cdba5dcba27c62e8331cce4e0c86bf625d7441284b9e3a1b", func := "tryst/trystlaw25.LogsGrow", spec := "logsGrow", inPlace := ["slices.overlaps[tryst/api.Log]"], unfollowed := true, recurses := true, apart := false, narrowed := true }
def LogsGrowUptoSaid : Prop := logsGrowUptoRow.holds Try.pinned (OpenSpec.upto logsGrowSpec)

/-- 'trystlaw25.LogsLong', WHERE WHAT IT READS IS OF BULK AT MOST 1048576: true; the input reads as it did. -/
def logsLongUptoRow : OpenClaim := { program := "ytcegohgmagppbaa", sum := "2cdc2d4de719d051cdba5dcba27c62e8331cce4e0c86bf625d7441284b9e3a1b", func := "tryst/trystlaw25.LogsLong", spec := "logsLong", inPlace := ["slices.overlaps[tryst/api.Log]"], unfollowed := true, recurses := true, apart := false, narrowed := true }
def LogsLongUptoSaid : Prop := logsLongUptoRow.holds Try.pinned (OpenSpec.upto logsLongSpec)

/-- 'trystlaw25.LogsBegin', WHERE WHAT IT READS IS OF BULK AT MOST 1048576: true; the input reads as it did. -/
def logsBeginUptoRow : OpenClaim := { program := "ytcegohgmagppbaa", sum := "2cdc2d4de719d051cdba5dcba27c62e8331cce4e0c86bf625d7441284b9e3a1b", func := "tryst/trystlaw25.LogsBegin", spec := "logsBegin", inPlace := ["slices.overlaps[tryst/api.Log]"], unfollowed := true, recurses := true, apart := false, narrowed := true }
def LogsBeginUptoSaid : Prop := logsBeginUptoRow.holds Try.pinned (OpenSpec.upto logsBeginSpec)

/-- 'trystlaw25.LogsExact', WHERE WHAT IT READS IS OF BULK AT MOST 1048576: true; the input reads as it did. -/
def logsExactUptoRow : OpenClaim := { program := "ytcegohgmagppbaa", sum := "2cdc2d4de719d051cdba5dcba27c62e8331cce4e0c86bf625d7441284b9e3a1b", func := "tryst/trystlaw25.LogsExact", spec := "logsExact", inPlace := ["slices.overlaps[tryst/api.Log]"], unfollowed := true, recurses := true, apart := false, narrowed := true }
def LogsExactUptoSaid : Prop := logsExactUptoRow.holds Try.pinned (OpenSpec.upto logsExactSpec)

end Rows
end Go.Proofs.Ytcegohgmagppbaa
