/-
  No cell of these rows narrows 'for every input' (looked for: loops, veiled, ifaces, maps, wideKeys, modest, calm, conditions, laid).
  DERIVED. THE GIVEN ROWS OF THIS SEAT. 9 by the template 'for every input the law returns true; each argument reads behind the call as it read before'; 0 by the template 'total and deterministic' (their statements: YtnnpkjhpeefnbaaTotals.lean).
  GIVEN WITH THE SEED: the statements are not yours to turn. If you find one false, say at which input.
  Laid BY PROGRAM, IN A SANDBOX (cutbox-rows.mjs): the forced cells as the released guide's own fill.sh prints them over the translation 7f98ea49320d6f6e… (all of the seat's roots in one cut). By AI agents, Wed Nov 11 2026. No macro, syntax, notation, axiom, sorry.
-/
import Derived.Test.YtnnpkjhpeefnbaaChecked
import GoSem.Claim
import GoSem.ClaimJoined
import GoSem.ClaimMapViews
import Derived.JoinedTies
import Derived.KernelRfl
namespace Go.Proofs.Ytnnpkjhpeefnbaa
/- THE CELL 'sum', in the pinned program and in every row, IS THE sha256 OF THE DUMP (.gsa) THAT YtnnpkjhpeefnbaaProg.lean LOADS. Nothing in Lean hashes anything: it is a label: what it is worth is what the hold of that sum in a sandbox is worth. -/
noncomputable def Try.pinned : Pinned := { name := "ytnnpkjhpeefnbaa", sum := "7f98ea49320d6f6ef1495a71ddfc67bafe8606631ac69a7eff8a2137df45d71f", checked := Try.checked }
namespace Rows
def none {H : Type} : Left H := { results := [], args := [] }

/-- 'trystlaw25.LogsWant': WHATEVER THE INPUT: true; the input reads as it did. -/
def logsWantSpec : ChangeSpec := { name := "logsWant", fn := fun _ => fun
  | [d1, d2] => { results := [.lit (.bool true)], args := [d1, d2] }
  | _ => none }
def logsWantRow : OpenClaim := { program := "ytnnpkjhpeefnbaa", sum := "7f98ea49320d6f6ef1495a71ddfc67bafe8606631ac69a7eff8a2137df45d71f", func := "tryst/trystlaw25.LogsWant", spec := "logsWant", unfollowed := true, recurses := true, apart := false }
def LogsWantSaid : Prop := logsWantRow.holds Try.pinned (OpenSpec.ofChange logsWantSpec)

/-- ITS FALSE NEIGHBOUR: 'it returns false'. Refute it at one input. -/
def logsWantWrong : ChangeSpec := { name := "logsWant", fn := fun _ => fun
  | [d1, d2] => { results := [.lit (.bool false)], args := [d1, d2] }
  | _ => none }
def LogsWantWrongFalsely : Prop := logsWantRow.holds Try.pinned (OpenSpec.ofChange logsWantWrong)

/-- 'trystlaw22.SlotsMeet': WHATEVER THE INPUT: true; the input reads as it did. -/
def slotsMeetSpec : ChangeSpec := { name := "slotsMeet", fn := fun _ => fun
  | [d1, d2] => { results := [.lit (.bool true)], args := [d1, d2] }
  | _ => none }
def slotsMeetRow : OpenClaim := { program := "ytnnpkjhpeefnbaa", sum := "7f98ea49320d6f6ef1495a71ddfc67bafe8606631ac69a7eff8a2137df45d71f", func := "tryst/trystlaw22.SlotsMeet", spec := "slotsMeet", apart := false }
def SlotsMeetSaid : Prop := slotsMeetRow.holds Try.pinned (OpenSpec.ofChange slotsMeetSpec)

/-- ITS FALSE NEIGHBOUR: 'it returns false'. Refute it at one input. -/
def slotsMeetWrong : ChangeSpec := { name := "slotsMeet", fn := fun _ => fun
  | [d1, d2] => { results := [.lit (.bool false)], args := [d1, d2] }
  | _ => none }
def SlotsMeetWrongFalsely : Prop := slotsMeetRow.holds Try.pinned (OpenSpec.ofChange slotsMeetWrong)

/-- 'trystlaw22.SlotsAll': WHATEVER THE INPUT: true; the input reads as it did. -/
def slotsAllSpec : ChangeSpec := { name := "slotsAll", fn := fun _ => fun
  | [d1, d2] => { results := [.lit (.bool true)], args := [d1, d2] }
  | _ => none }
def slotsAllRow : OpenClaim := { program := "ytnnpkjhpeefnbaa", sum := "7f98ea49320d6f6ef1495a71ddfc67bafe8606631ac69a7eff8a2137df45d71f", func := "tryst/trystlaw22.SlotsAll", spec := "slotsAll", apart := false }
def SlotsAllSaid : Prop := slotsAllRow.holds Try.pinned (OpenSpec.ofChange slotsAllSpec)

/-- ITS FALSE NEIGHBOUR: 'it returns false'. Refute it at one input. -/
def slotsAllWrong : ChangeSpec := { name := "slotsAll", fn := fun _ => fun
  | [d1, d2] => { results := [.lit (.bool false)], args := [d1, d2] }
  | _ => none }
def SlotsAllWrongFalsely : Prop := slotsAllRow.holds Try.pinned (OpenSpec.ofChange slotsAllWrong)

/-- 'trystlaw22.SlotsTurn': WHATEVER THE INPUT: true; the input reads as it did. -/
def slotsTurnSpec : ChangeSpec := { name := "slotsTurn", fn := fun _ => fun
  | [d1, d2] => { results := [.lit (.bool true)], args := [d1, d2] }
  | _ => none }
def slotsTurnRow : OpenClaim := { program := "ytnnpkjhpeefnbaa", sum := "7f98ea49320d6f6ef1495a71ddfc67bafe8606631ac69a7eff8a2137df45d71f", func := "tryst/trystlaw22.SlotsTurn", spec := "slotsTurn", apart := false }
def SlotsTurnSaid : Prop := slotsTurnRow.holds Try.pinned (OpenSpec.ofChange slotsTurnSpec)

/-- ITS FALSE NEIGHBOUR: 'it returns false'. Refute it at one input. -/
def slotsTurnWrong : ChangeSpec := { name := "slotsTurn", fn := fun _ => fun
  | [d1, d2] => { results := [.lit (.bool false)], args := [d1, d2] }
  | _ => none }
def SlotsTurnWrongFalsely : Prop := slotsTurnRow.holds Try.pinned (OpenSpec.ofChange slotsTurnWrong)

/-- 'trystlaw22.SlotsExact': WHATEVER THE INPUT: true; the input reads as it did. -/
def slotsExactSpec : ChangeSpec := { name := "slotsExact", fn := fun _ => fun
  | [d1, d2, d3] => { results := [.lit (.bool true)], args := [d1, d2, d3] }
  | _ => none }
def slotsExactRow : OpenClaim := { program := "ytnnpkjhpeefnbaa", sum := "7f98ea49320d6f6ef1495a71ddfc67bafe8606631ac69a7eff8a2137df45d71f", func := "tryst/trystlaw22.SlotsExact", spec := "slotsExact", apart := false }
def SlotsExactSaid : Prop := slotsExactRow.holds Try.pinned (OpenSpec.ofChange slotsExactSpec)

/-- ITS FALSE NEIGHBOUR: 'it returns false'. Refute it at one input. -/
def slotsExactWrong : ChangeSpec := { name := "slotsExact", fn := fun _ => fun
  | [d1, d2, d3] => { results := [.lit (.bool false)], args := [d1, d2, d3] }
  | _ => none }
def SlotsExactWrongFalsely : Prop := slotsExactRow.holds Try.pinned (OpenSpec.ofChange slotsExactWrong)

/-- 'trystlaw13.DiskChoice': WHATEVER THE INPUT: true; the input reads as it did. -/
def diskChoiceSpec : ChangeSpec := { name := "diskChoice", fn := fun _ => fun
  | [d1, d2, d3] => { results := [.lit (.bool true)], args := [d1, d2, d3] }
  | _ => none }
def diskChoiceRow : OpenClaim := { program := "ytnnpkjhpeefnbaa", sum := "7f98ea49320d6f6ef1495a71ddfc67bafe8606631ac69a7eff8a2137df45d71f", func := "tryst/trystlaw13.DiskChoice", spec := "diskChoice", apart := false }
def DiskChoiceSaid : Prop := diskChoiceRow.holds Try.pinned (OpenSpec.ofChange diskChoiceSpec)

/-- ITS FALSE NEIGHBOUR: 'it returns false'. Refute it at one input. -/
def diskChoiceWrong : ChangeSpec := { name := "diskChoice", fn := fun _ => fun
  | [d1, d2, d3] => { results := [.lit (.bool false)], args := [d1, d2, d3] }
  | _ => none }
def DiskChoiceWrongFalsely : Prop := diskChoiceRow.holds Try.pinned (OpenSpec.ofChange diskChoiceWrong)

/-- 'trystlaw13.DiskSafe': WHATEVER THE INPUT: true; the input reads as it did. -/
def diskSafeSpec : ChangeSpec := { name := "diskSafe", fn := fun _ => fun
  | [d1, d2] => { results := [.lit (.bool true)], args := [d1, d2] }
  | _ => none }
def diskSafeRow : OpenClaim := { program := "ytnnpkjhpeefnbaa", sum := "7f98ea49320d6f6ef1495a71ddfc67bafe8606631ac69a7eff8a2137df45d71f", func := "tryst/trystlaw13.DiskSafe", spec := "diskSafe", apart := false }
def DiskSafeSaid : Prop := diskSafeRow.holds Try.pinned (OpenSpec.ofChange diskSafeSpec)

/-- ITS FALSE NEIGHBOUR: 'it returns false'. Refute it at one input. -/
def diskSafeWrong : ChangeSpec := { name := "diskSafe", fn := fun _ => fun
  | [d1, d2] => { results := [.lit (.bool false)], args := [d1, d2] }
  | _ => none }
def DiskSafeWrongFalsely : Prop := diskSafeRow.holds Try.pinned (OpenSpec.ofChange diskSafeWrong)

/-- 'trystlaw13.DiskTrips': WHATEVER THE INPUT: true; the input reads as it did. -/
def diskTripsSpec : ChangeSpec := { name := "diskTrips", fn := fun _ => fun
  | [d1, d2, d3, d4] => { results := [.lit (.bool true)], args := [d1, d2, d3, d4] }
  | _ => none }
def diskTripsRow : OpenClaim := { program := "ytnnpkjhpeefnbaa", sum := "7f98ea49320d6f6ef1495a71ddfc67bafe8606631ac69a7eff8a2137df45d71f", func := "tryst/trystlaw13.DiskTrips", spec := "diskTrips", apart := false }
def DiskTripsSaid : Prop := diskTripsRow.holds Try.pinned (OpenSpec.ofChange diskTripsSpec)

/-- ITS FALSE NEIGHBOUR: 'it returns false'. Refute it at one input. -/
def diskTripsWrong : ChangeSpec := { name := "diskTrips", fn := fun _ => fun
  | [d1, d2, d3, d4] => { results := [.lit (.bool false)], args := [d1, d2, d3, d4] }
  | _ => none }
def DiskTripsWrongFalsely : Prop := diskTripsRow.holds Try.pinned (OpenSpec.ofChange diskTripsWrong)

/-- 'trystlaw13.DiskExact': WHATEVER THE INPUT: true; the input reads as it did. -/
def diskExactSpec : ChangeSpec := { name := "diskExact", fn := fun _ => fun
  | [d1, d2] => { results := [.lit (.bool true)], args := [d1, d2] }
  | _ => none }
def diskExactRow : OpenClaim := { program := "ytnnpkjhpeefnbaa", sum := "7f98ea49320d6f6ef1495a71ddfc67bafe8606631ac69a7eff8a2137df45d71f", func := "tryst/trystlaw13.DiskExact", spec := "diskExact", apart := false }
def DiskExactSaid : Prop := diskExactRow.holds Try.pinned (OpenSpec.ofChange diskExactSpec)

/-- ITS FALSE NEIGHBOUR: 'it returns false'. Refute it at one input. -/
def diskExactWrong : ChangeSpec := { name := "diskExact", fn := fun _ => fun
  | [d1, d2] => { results := [.lit (.bool false)], args := [d1, d2] }
  | _ => none }
def DiskExactWrongFalsely : Prop := diskExactRow.holds Try.pinned (OpenSpec.ofChange diskExactWrong)

/- THE SECOND FORM. 'bulk': how many values and letters a reading holds, each counted each time it is reached (what is shared counts as often as it is met; a slice's spare places count too). A statement '..UptoSaid' is the law's where the arguments, and the package variables that the reading takes, are together of bulk at most 1048576: NARROWER than '..Said'. Prove '..Said' where nothing that the law and all that it calls make is longer than what came in: it says more and counts as full. Else prove '..UptoSaid'. A law counts once. -/
mutual
def uptoBulk {H : Type} : DataW H → Nat
  | .lit (.string bytes) => bytes.length + 1
  | .lit _ => 1
  | .nil => 1
  | .ptr d => uptoBulk d + 1
  | .slice elems spare => uptoBulkAll elems + uptoBulkAll spare + 1
  | .agg parts => uptoBulkAll parts + 1
  | .iface _ d => uptoBulk d + 1
  | .map entries => uptoBulkEntries entries + 1
  | .held _ => 1
def uptoBulkAll {H : Type} : List (DataW H) → Nat
  | [] => 0
  | d :: r => uptoBulk d + uptoBulkAll r
def uptoBulkEntries {H : Type} : List (Lit × DataW H) → Nat
  | [] => 0
  | x :: r => uptoBulkEntry x + uptoBulkEntries r
def uptoBulkEntry {H : Type} : Lit × DataW H → Nat
  | (.string bytes, d) => bytes.length + uptoBulk d + 1
  | (_, d) => uptoBulk d + 1
 end
def uptoSmall : (H : Type) → List (DataW H) → Bool := fun _ ds => decide (uptoBulkAll ds ≤ 1048576)
def OpenSpec.upto (s : _root_.Go.ChangeSpec) : _root_.Go.OpenSpec := { _root_.Go.OpenSpec.ofChange s with cond := some uptoSmall }

/-- 'trystlaw25.LogsWant', WHERE WHAT IT READS IS OF BULK AT MOST 1048576: true; the input reads as it did. -/
def logsWantUptoRow : OpenClaim := { program := "ytnnpkjhpeefnbaa", sum := "7f98ea49320d6f6ef1495a71ddfc67bafe8606631ac69a7eff8a2137df45d71f", func := "tryst/trystlaw25.LogsWant", spec := "logsWant", unfollowed := true, recurses := true, apart := false, narrowed := true }
def LogsWantUptoSaid : Prop := logsWantUptoRow.holds Try.pinned (OpenSpec.upto logsWantSpec)

/-- 'trystlaw22.SlotsMeet', WHERE WHAT IT READS IS OF BULK AT MOST 1048576: true; the input reads as it did. -/
def slotsMeetUptoRow : OpenClaim := { program := "ytnnpkjhpeefnbaa", sum := "7f98ea49320d6f6ef1495a71ddfc67bafe8606631ac69a7eff8a2137df45d71f", func := "tryst/trystlaw22.SlotsMeet", spec := "slotsMeet", apart := false, narrowed := true }
def SlotsMeetUptoSaid : Prop := slotsMeetUptoRow.holds Try.pinned (OpenSpec.upto slotsMeetSpec)

/-- 'trystlaw22.SlotsAll', WHERE WHAT IT READS IS OF BULK AT MOST 1048576: true; the input reads as it did. -/
def slotsAllUptoRow : OpenClaim := { program := "ytnnpkjhpeefnbaa", sum := "7f98ea49320d6f6ef1495a71ddfc67bafe8606631ac69a7eff8a2137df45d71f", func := "tryst/trystlaw22.SlotsAll", spec := "slotsAll", apart := false, narrowed := true }
def SlotsAllUptoSaid : Prop := slotsAllUptoRow.holds Try.pinned (OpenSpec.upto slotsAllSpec)

/-- 'trystlaw22.SlotsTurn', WHERE WHAT IT READS IS OF BULK AT MOST 1048576: true; the input reads as it did. -/
def slotsTurnUptoRow : OpenClaim := { program := "ytnnpkjhpeefnbaa", sum := "7f98ea49320d6f6ef1495a71ddfc67bafe8606631ac69a7eff8a2137df45d71f", func := "tryst/trystlaw22.SlotsTurn", spec := "slotsTurn", apart := false, narrowed := true }
def SlotsTurnUptoSaid : Prop := slotsTurnUptoRow.holds Try.pinned (OpenSpec.upto slotsTurnSpec)

/-- 'trystlaw22.SlotsExact', WHERE WHAT IT READS IS OF BULK AT MOST 1048576: true; the input reads as it did. -/
def slotsExactUptoRow : OpenClaim := { program := "ytnnpkjhpeefnbaa", sum := "7f98ea49320d6f6ef1495a71ddfc67bafe8606631ac69a7eff8a2137df45d71f", func := "tryst/trystlaw22.SlotsExact", spec := "slotsExact", apart := false, narrowed := true }
def SlotsExactUptoSaid : Prop := slotsExactUptoRow.holds Try.pinned (OpenSpec.upto slotsExactSpec)

/-- 'trystlaw13.DiskChoice', WHERE WHAT IT READS IS OF BULK AT MOST 1048576: true; the input reads as it did. -/
def diskChoiceUptoRow : OpenClaim := { program := "ytnnpkjhpeefnbaa", sum := "7f98ea49320d6f6ef1495a71ddfc67bafe8606631ac69a7eff8a2137df45d71f", func := "tryst/trystlaw13.DiskChoice", spec := "diskChoice", apart := false, narrowed := true }
def DiskChoiceUptoSaid : Prop := diskChoiceUptoRow.holds Try.pinned (OpenSpec.upto diskChoiceSpec)

/-- 'trystlaw13.DiskSafe', WHERE WHAT IT READS IS OF BULK AT MOST 1048576: true; the input reads as it did. -/
def diskSafeUptoRow : OpenClaim := { program := "ytnnpkjhpeefnbaa", sum := "7f98ea49320d6f6ef1495a71ddfc67bafe8606631ac69a7eff8a2137df45d71f", func := "tryst/trystlaw13.DiskSafe", spec := "diskSafe", apart := false, narrowed := true }
def DiskSafeUptoSaid : Prop := diskSafeUptoRow.holds Try.pinned (OpenSpec.upto diskSafeSpec)

/-- 'trystlaw13.DiskTrips', WHERE WHAT IT READS IS OF BULK AT MOST 1048576: true; the input reads as it did. -/
def diskTripsUptoRow : OpenClaim := { program := "ytnnpkjhpeefnbaa", sum := "7f98ea49320d6f6ef1495a71ddfc67bafe8606631ac69a7eff8a2137df45d71f", func := "tryst/trystlaw13.DiskTrips", spec := "diskTrips", apart := false, narrowed := true }
def DiskTripsUptoSaid : Prop := diskTripsUptoRow.holds Try.pinned (OpenSpec.upto diskTripsSpec)

/-- 'trystlaw13.DiskExact', WHERE WHAT IT READS IS OF BULK AT MOST 1048576: true; the input reads as it did. -/
def diskExactUptoRow : OpenClaim := { program := "ytnnpkjhpeefnbaa", sum := "7f98ea49320d6f6ef1495a71ddfc67bafe8606631ac69a7eff8a2137df45d71f", func := "tryst/trystlaw13.DiskExact", spec := "diskExact", apart := false, narrowed := true }
def DiskExactUptoSaid : Prop := diskExactUptoRow.holds Try.pinned (OpenSpec.upto diskExactSpec)

end Rows
end Go.Proofs.Ytnnpkjhpeefnbaa
