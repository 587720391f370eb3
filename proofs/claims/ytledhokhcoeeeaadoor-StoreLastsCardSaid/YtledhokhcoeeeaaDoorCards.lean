/-
  DERIVED. GIVEN WITH THE SEED: THE CARDS: each row of YtledhokhcoeeeaaDoorRows.lean that lists a variable, with what it lists TIED to the program's text (the seventh form; the later family's looks); each row that meets fmt, with fmt's text TOLD by the authors' own Lean function (tested against real Go, not proved from fmt's source: count such statements apart). THE CARD IS WHAT COUNTS. Prove the row's statement (the work); the ties are given (YtledhokhcoeeeaaDoorTie.lean); close each card by the builder's one call (the guide's Derived/Test/ToyasCard.lean, 'card_holds'). Laid BY PROGRAM, IN A SANDBOX (cutbox-door.mjs). By AI agents, Wed Nov 11 2026. No macro, syntax, notation, axiom, sorry.
-/
import Derived.Test.YtledhokhcoeeeaaDoorRows
import GoSem.ClaimSeven
namespace Go.Proofs.YtledhokhcoeeeaaDoor
namespace Rows

/-- THE TIED CARD OF 'trystlaw14.StoreTwice'. -/
def storeTwiceCard : Claim7 := { stood := { row := storeTwiceRow, standIns := [], harness := (true, "f260986ea7bc860729b6b3145ea1ecf1f806631750b2e65bede1422c0eb1e55a"), looks := true }, kinds := [], alts := [], laidByText := true, laidKinds := [.handle], laidTests := true, laidLooks := .later }
def StoreTwiceCardSaid : Prop := Claim7.holds Tryd.pinned (.plain (OpenSpec.ofChange storeTwiceSpec)) storeTwiceCard

/-- THE TIED CARD OF 'trystlaw14.StoreBounds'. -/
def storeBoundsCard : Claim7 := { stood := { row := storeBoundsRow, standIns := [], harness := (true, "f260986ea7bc860729b6b3145ea1ecf1f806631750b2e65bede1422c0eb1e55a"), looks := true }, kinds := [], alts := [], laidByText := true, laidKinds := [.handle], laidTests := true, laidLooks := .later }
def StoreBoundsCardSaid : Prop := Claim7.holds Tryd.pinned (.plain (OpenSpec.ofChange storeBoundsSpec)) storeBoundsCard

/-- THE TIED CARD OF 'trystlaw14.StoreAgain'. -/
def storeAgainCard : Claim7 := { stood := { row := storeAgainRow, standIns := [], harness := (true, "f260986ea7bc860729b6b3145ea1ecf1f806631750b2e65bede1422c0eb1e55a"), looks := true }, kinds := [], alts := [], laidByText := true, laidKinds := [.handle], laidTests := true, laidLooks := .later }
def StoreAgainCardSaid : Prop := Claim7.holds Tryd.pinned (.plain (OpenSpec.ofChange storeAgainSpec)) storeAgainCard

/-- THE TIED CARD OF 'trystlaw14.StoreLasts'. -/
def storeLastsCard : Claim7 := { stood := { row := storeLastsRow, standIns := [], harness := (true, "f260986ea7bc860729b6b3145ea1ecf1f806631750b2e65bede1422c0eb1e55a"), looks := true }, kinds := [], alts := [], laidByText := true, laidKinds := [.handle], laidTests := true, laidLooks := .later }
def StoreLastsCardSaid : Prop := Claim7.holds Tryd.pinned (.plain (OpenSpec.ofChange storeLastsSpec)) storeLastsCard

/-- THE TIED CARD OF 'trystlaw14.StoreEach'. -/
def storeEachCard : Claim7 := { stood := { row := storeEachRow, standIns := [], harness := (true, "f260986ea7bc860729b6b3145ea1ecf1f806631750b2e65bede1422c0eb1e55a"), looks := true }, kinds := [], alts := [], laidByText := true, laidKinds := [.handle], laidTests := true, laidLooks := .later }
def StoreEachCardSaid : Prop := Claim7.holds Tryd.pinned (.plain (OpenSpec.ofChange storeEachSpec)) storeEachCard

/-- THE SECOND FORM's CARD OF 'trystlaw14.StoreTwice'. -/
def storeTwiceUptoCard : Claim7 := { stood := { row := storeTwiceUptoRow, standIns := [], harness := (true, "f260986ea7bc860729b6b3145ea1ecf1f806631750b2e65bede1422c0eb1e55a"), looks := true }, kinds := [], alts := [], laidByText := true, laidKinds := [.handle], laidTests := true, laidLooks := .later }
def StoreTwiceUptoCardSaid : Prop := Claim7.holds Tryd.pinned (.plain (OpenSpec.upto storeTwiceSpec)) storeTwiceUptoCard

/-- THE SECOND FORM's CARD OF 'trystlaw14.StoreBounds'. -/
def storeBoundsUptoCard : Claim7 := { stood := { row := storeBoundsUptoRow, standIns := [], harness := (true, "f260986ea7bc860729b6b3145ea1ecf1f806631750b2e65bede1422c0eb1e55a"), looks := true }, kinds := [], alts := [], laidByText := true, laidKinds := [.handle], laidTests := true, laidLooks := .later }
def StoreBoundsUptoCardSaid : Prop := Claim7.holds Tryd.pinned (.plain (OpenSpec.upto storeBoundsSpec)) storeBoundsUptoCard

/-- THE SECOND FORM's CARD OF 'trystlaw14.StoreAgain'. -/
def storeAgainUptoCard : Claim7 := { stood := { row := storeAgainUptoRow, standIns := [], harness := (true, "f260986ea7bc860729b6b3145ea1ecf1f806631750b2e65bede1422c0eb1e55a"), looks := true }, kinds := [], alts := [], laidByText := true, laidKinds := [.handle], laidTests := true, laidLooks := .later }
def StoreAgainUptoCardSaid : Prop := Claim7.holds Tryd.pinned (.plain (OpenSpec.upto storeAgainSpec)) storeAgainUptoCard

/-- THE SECOND FORM's CARD OF 'trystlaw14.StoreLasts'. -/
def storeLastsUptoCard : Claim7 := { stood := { row := storeLastsUptoRow, standIns := [], harness := (true, "f260986ea7bc860729b6b3145ea1ecf1f806631750b2e65bede1422c0eb1e55a"), looks := true }, kinds := [], alts := [], laidByText := true, laidKinds := [.handle], laidTests := true, laidLooks := .later }
def StoreLastsUptoCardSaid : Prop := Claim7.holds Tryd.pinned (.plain (OpenSpec.upto storeLastsSpec)) storeLastsUptoCard

/-- THE SECOND FORM's CARD OF 'trystlaw14.StoreEach'. -/
def storeEachUptoCard : Claim7 := { stood := { row := storeEachUptoRow, standIns := [], harness := (true, "f260986ea7bc860729b6b3145ea1ecf1f806631750b2e65bede1422c0eb1e55a"), looks := true }, kinds := [], alts := [], laidByText := true, laidKinds := [.handle], laidTests := true, laidLooks := .later }
def StoreEachUptoCardSaid : Prop := Claim7.holds Tryd.pinned (.plain (OpenSpec.upto storeEachSpec)) storeEachUptoCard
end Rows
end Go.Proofs.YtledhokhcoeeeaaDoor
