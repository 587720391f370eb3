/-
  DERIVED. GIVEN WITH THE SEED: THE CARDS: each row of YtnnpkjhpeefnbaaDoorRows.lean that lists a variable, with what it lists TIED to the program's text (the seventh form; the later family's looks); each row that meets fmt, with fmt's text TOLD by the authors' own Lean function (tested against real Go, not proved from fmt's source: count such statements apart). THE CARD IS WHAT COUNTS. Prove the row's statement (the work); the ties are given (YtnnpkjhpeefnbaaDoorTie.lean); close each card by the builder's one call (the guide's Derived/Test/ToyasCard.lean, 'card_holds'). Laid BY PROGRAM, IN A SANDBOX (cutbox-door.mjs). By AI agents, Wed Nov 11 2026. No macro, syntax, notation, axiom, sorry.
-/
import Derived.Test.YtnnpkjhpeefnbaaDoorRows
import GoSem.ClaimSeven
namespace Go.Proofs.YtnnpkjhpeefnbaaDoor
namespace Rows

/-- THE TIED CARD OF 'trystlaw15.NodesShared'. -/
def nodesSharedCard : Claim7 := { stood := { row := nodesSharedRow, standIns := [], harness := (true, "5f14c33faa86da213738cc224765aff7bd0119c62e5efa152aa3adac73ac0f39"), looks := false }, kinds := [], alts := [], laidByText := true, laidKinds := [.data], laidTests := true, laidLooks := .later }
def NodesSharedCardSaid : Prop := Claim7.holds Tryd.pinned (.plain (OpenSpec.ofChange nodesSharedSpec)) nodesSharedCard

/-- THE TIED CARD OF 'trystlaw15.NodesExact'. -/
def nodesExactCard : Claim7 := { stood := { row := nodesExactRow, standIns := [], harness := (true, "5f14c33faa86da213738cc224765aff7bd0119c62e5efa152aa3adac73ac0f39"), looks := false }, kinds := [], alts := [], laidByText := true, laidKinds := [.data], laidTests := true, laidLooks := .later }
def NodesExactCardSaid : Prop := Claim7.holds Tryd.pinned (.plain (OpenSpec.ofChange nodesExactSpec)) nodesExactCard

/-- THE TIED CARD OF 'trystlaw15.NodesTree'. -/
def nodesTreeCard : Claim7 := { stood := { row := nodesTreeRow, standIns := [], harness := (true, "5f14c33faa86da213738cc224765aff7bd0119c62e5efa152aa3adac73ac0f39"), looks := false }, kinds := [], alts := [], laidByText := true, laidKinds := [.data], laidTests := true, laidLooks := .later }
def NodesTreeCardSaid : Prop := Claim7.holds Tryd.pinned (.plain (OpenSpec.ofChange nodesTreeSpec)) nodesTreeCard

/-- THE SECOND FORM's CARD OF 'trystlaw15.NodesShared'. -/
def nodesSharedUptoCard : Claim7 := { stood := { row := nodesSharedUptoRow, standIns := [], harness := (true, "5f14c33faa86da213738cc224765aff7bd0119c62e5efa152aa3adac73ac0f39"), looks := false }, kinds := [], alts := [], laidByText := true, laidKinds := [.data], laidTests := true, laidLooks := .later }
def NodesSharedUptoCardSaid : Prop := Claim7.holds Tryd.pinned (.plain (OpenSpec.upto nodesSharedSpec)) nodesSharedUptoCard

/-- THE SECOND FORM's CARD OF 'trystlaw15.NodesExact'. -/
def nodesExactUptoCard : Claim7 := { stood := { row := nodesExactUptoRow, standIns := [], harness := (true, "5f14c33faa86da213738cc224765aff7bd0119c62e5efa152aa3adac73ac0f39"), looks := false }, kinds := [], alts := [], laidByText := true, laidKinds := [.data], laidTests := true, laidLooks := .later }
def NodesExactUptoCardSaid : Prop := Claim7.holds Tryd.pinned (.plain (OpenSpec.upto nodesExactSpec)) nodesExactUptoCard

/-- THE SECOND FORM's CARD OF 'trystlaw15.NodesTree'. -/
def nodesTreeUptoCard : Claim7 := { stood := { row := nodesTreeUptoRow, standIns := [], harness := (true, "5f14c33faa86da213738cc224765aff7bd0119c62e5efa152aa3adac73ac0f39"), looks := false }, kinds := [], alts := [], laidByText := true, laidKinds := [.data], laidTests := true, laidLooks := .later }
def NodesTreeUptoCardSaid : Prop := Claim7.holds Tryd.pinned (.plain (OpenSpec.upto nodesTreeSpec)) nodesTreeUptoCard
end Rows
end Go.Proofs.YtnnpkjhpeefnbaaDoor
