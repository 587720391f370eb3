/-
  DERIVED. GIVEN WITH THE SEED: THE CARDS: each row of YtpihglmgkfecbaaDoorRows.lean that lists a variable, with what it lists TIED to the program's text (the seventh form; the later family's looks); each row that meets fmt, with fmt's text TOLD by the authors' own Lean function (tested against real Go, not proved from fmt's source: count such statements apart). THE CARD IS WHAT COUNTS. Prove the row's statement (the work); the ties are given (YtpihglmgkfecbaaDoorTie.lean); close each card by the builder's one call (the guide's Derived/Test/ToyasCard.lean, 'card_holds'). Laid BY PROGRAM, IN A SANDBOX (cutbox-door.mjs). By AI agents, Wed Nov 11 2026. No macro, syntax, notation, axiom, sorry.
-/
import Derived.Test.YtpihglmgkfecbaaDoorRows
import GoSem.ClaimSeven
namespace Go.Proofs.YtpihglmgkfecbaaDoor
namespace Rows

/-- THE TIED CARD OF 'trystlaw10.TermTwo'. -/
def termTwoCard : Claim7 := { stood := { row := termTwoRow, standIns := [], harness := (true, "d66b735678899fc4f7e75d81f193590f70e236ad6ed82cb7499ae2ad659a35cf"), looks := false }, kinds := [], alts := [], laidByText := true, laidKinds := [.data, .data, .data], laidTests := true, laidLooks := .later }
def TermTwoCardSaid : Prop := Claim7.holds Tryd.pinned (.plain (OpenSpec.ofChange termTwoSpec)) termTwoCard

/-- THE TIED CARD OF 'trystlaw10.TermExact'. -/
def termExactCard : Claim7 := { stood := { row := termExactRow, standIns := [], harness := (true, "d66b735678899fc4f7e75d81f193590f70e236ad6ed82cb7499ae2ad659a35cf"), looks := false }, kinds := [], alts := [], laidByText := true, laidKinds := [.data, .data, .data], laidTests := true, laidLooks := .later }
def TermExactCardSaid : Prop := Claim7.holds Tryd.pinned (.plain (OpenSpec.ofChange termExactSpec)) termExactCard

/-- THE TIED CARD OF 'trystlaw10.TermOnce'. -/
def termOnceCard : Claim7 := { stood := { row := termOnceRow, standIns := [], harness := (true, "d66b735678899fc4f7e75d81f193590f70e236ad6ed82cb7499ae2ad659a35cf"), looks := false }, kinds := [], alts := [], laidByText := true, laidKinds := [.data, .data, .data], laidTests := true, laidLooks := .later }
def TermOnceCardSaid : Prop := Claim7.holds Tryd.pinned (.plain (OpenSpec.ofChange termOnceSpec)) termOnceCard

/-- THE TIED CARD OF 'trystlaw10.TermCounts'. -/
def termCountsCard : Claim7 := { stood := { row := termCountsRow, standIns := [], harness := (true, "d66b735678899fc4f7e75d81f193590f70e236ad6ed82cb7499ae2ad659a35cf"), looks := false }, kinds := [], alts := [], laidByText := true, laidKinds := [.data, .data, .data], laidTests := true, laidLooks := .later }
def TermCountsCardSaid : Prop := Claim7.holds Tryd.pinned (.plain (OpenSpec.ofChange termCountsSpec)) termCountsCard

/-- THE TIED CARD OF 'trystlaw10.TermKeys'. -/
def termKeysCard : Claim7 := { stood := { row := termKeysRow, standIns := [], harness := (true, "d66b735678899fc4f7e75d81f193590f70e236ad6ed82cb7499ae2ad659a35cf"), looks := false }, kinds := [], alts := [], laidByText := true, laidKinds := [.data, .data, .data], laidTests := true, laidLooks := .later }
def TermKeysCardSaid : Prop := Claim7.holds Tryd.pinned (.plain (OpenSpec.ofChange termKeysSpec)) termKeysCard

/-- THE TIED CARD OF 'trystlaw10.TermBeneath'. -/
def termBeneathCard : Claim7 := { stood := { row := termBeneathRow, standIns := [], harness := (true, "d66b735678899fc4f7e75d81f193590f70e236ad6ed82cb7499ae2ad659a35cf"), looks := false }, kinds := [], alts := [], laidByText := true, laidKinds := [.data, .data, .data], laidTests := true, laidLooks := .later }
def TermBeneathCardSaid : Prop := Claim7.holds Tryd.pinned (.plain (OpenSpec.ofChange termBeneathSpec)) termBeneathCard

/-- THE TIED CARD OF 'trystlaw10.TermMemory'. -/
def termMemoryCard : Claim7 := { stood := { row := termMemoryRow, standIns := [], harness := (true, "d66b735678899fc4f7e75d81f193590f70e236ad6ed82cb7499ae2ad659a35cf"), looks := false }, kinds := [], alts := [], laidByText := true, laidKinds := [.data, .data, .data], laidTests := true, laidLooks := .later }
def TermMemoryCardSaid : Prop := Claim7.holds Tryd.pinned (.plain (OpenSpec.ofChange termMemorySpec)) termMemoryCard

/-- THE TIED CARD OF 'trystlaw10.TermOpens'. -/
def termOpensCard : Claim7 := { stood := { row := termOpensRow, standIns := [], harness := (true, "d66b735678899fc4f7e75d81f193590f70e236ad6ed82cb7499ae2ad659a35cf"), looks := false }, kinds := [], alts := [], laidByText := true, laidKinds := [.data, .data, .data], laidTests := true, laidLooks := .later }
def TermOpensCardSaid : Prop := Claim7.holds Tryd.pinned (.plain (OpenSpec.ofChange termOpensSpec)) termOpensCard

/-- THE TIED CARD OF 'trystlaw11.KnowSecrets'. -/
def knowSecretsCard : Claim7 := { stood := { row := knowSecretsRow, standIns := [], harness := (true, "d66b735678899fc4f7e75d81f193590f70e236ad6ed82cb7499ae2ad659a35cf"), looks := false }, kinds := [], alts := [], laidByText := true, laidKinds := [.data, .data, .data], laidTests := true, laidLooks := .later }
def KnowSecretsCardSaid : Prop := Claim7.holds Tryd.pinned (.plain (OpenSpec.ofChange knowSecretsSpec)) knowSecretsCard

/-- THE TIED CARD OF 'trystlaw11.KnowMade'. -/
def knowMadeCard : Claim7 := { stood := { row := knowMadeRow, standIns := [], harness := (true, "d66b735678899fc4f7e75d81f193590f70e236ad6ed82cb7499ae2ad659a35cf"), looks := false }, kinds := [], alts := [], laidByText := true, laidKinds := [.data, .data, .data], laidTests := true, laidLooks := .later }
def KnowMadeCardSaid : Prop := Claim7.holds Tryd.pinned (.plain (OpenSpec.ofChange knowMadeSpec)) knowMadeCard

/-- THE TIED CARD OF 'trystlaw11.KnowNests'. -/
def knowNestsCard : Claim7 := { stood := { row := knowNestsRow, standIns := [], harness := (true, "d66b735678899fc4f7e75d81f193590f70e236ad6ed82cb7499ae2ad659a35cf"), looks := false }, kinds := [], alts := [], laidByText := true, laidKinds := [.data, .data, .data], laidTests := true, laidLooks := .later }
def KnowNestsCardSaid : Prop := Claim7.holds Tryd.pinned (.plain (OpenSpec.ofChange knowNestsSpec)) knowNestsCard

/-- THE SECOND FORM's CARD OF 'trystlaw10.TermTwo'. -/
def termTwoUptoCard : Claim7 := { stood := { row := termTwoUptoRow, standIns := [], harness := (true, "d66b735678899fc4f7e75d81f193590f70e236ad6ed82cb7499ae2ad659a35cf"), looks := false }, kinds := [], alts := [], laidByText := true, laidKinds := [.data, .data, .data], laidTests := true, laidLooks := .later }
def TermTwoUptoCardSaid : Prop := Claim7.holds Tryd.pinned (.plain (OpenSpec.upto termTwoSpec)) termTwoUptoCard

/-- THE SECOND FORM's CARD OF 'trystlaw10.TermExact'. -/
def termExactUptoCard : Claim7 := { stood := { row := termExactUptoRow, standIns := [], harness := (true, "d66b735678899fc4f7e75d81f193590f70e236ad6ed82cb7499ae2ad659a35cf"), looks := false }, kinds := [], alts := [], laidByText := true, laidKinds := [.data, .data, .data], laidTests := true, laidLooks := .later }
def TermExactUptoCardSaid : Prop := Claim7.holds Tryd.pinned (.plain (OpenSpec.upto termExactSpec)) termExactUptoCard

/-- THE SECOND FORM's CARD OF 'trystlaw10.TermOnce'. -/
def termOnceUptoCard : Claim7 := { stood := { row := termOnceUptoRow, standIns := [], harness := (true, "d66b735678899fc4f7e75d81f193590f70e236ad6ed82cb7499ae2ad659a35cf"), looks := false }, kinds := [], alts := [], laidByText := true, laidKinds := [.data, .data, .data], laidTests := true, laidLooks := .later }
def TermOnceUptoCardSaid : Prop := Claim7.holds Tryd.pinned (.plain (OpenSpec.upto termOnceSpec)) termOnceUptoCard

/-- THE SECOND FORM's CARD OF 'trystlaw10.TermCounts'. -/
def termCountsUptoCard : Claim7 := { stood := { row := termCountsUptoRow, standIns := [], harness := (true, "d66b735678899fc4f7e75d81f193590f70e236ad6ed82cb7499ae2ad659a35cf"), looks := false }, kinds := [], alts := [], laidByText := true, laidKinds := [.data, .data, .data], laidTests := true, laidLooks := .later }
def TermCountsUptoCardSaid : Prop := Claim7.holds Tryd.pinned (.plain (OpenSpec.upto termCountsSpec)) termCountsUptoCard

/-- THE SECOND FORM's CARD OF 'trystlaw10.TermKeys'. -/
def termKeysUptoCard : Claim7 := { stood := { row := termKeysUptoRow, standIns := [], harness := (true, "d66b735678899fc4f7e75d81f193590f70e236ad6ed82cb7499ae2ad659a35cf"), looks := false }, kinds := [], alts := [], laidByText := true, laidKinds := [.data, .data, .data], laidTests := true, laidLooks := .later }
def TermKeysUptoCardSaid : Prop := Claim7.holds Tryd.pinned (.plain (OpenSpec.upto termKeysSpec)) termKeysUptoCard

/-- THE SECOND FORM's CARD OF 'trystlaw10.TermBeneath'. -/
def termBeneathUptoCard : Claim7 := { stood := { row := termBeneathUptoRow, standIns := [], harness := (true, "d66b735678899fc4f7e75d81f193590f70e236ad6ed82cb7499ae2ad659a35cf"), looks := false }, kinds := [], alts := [], laidByText := true, laidKinds := [.data, .data, .data], laidTests := true, laidLooks := .later }
def TermBeneathUptoCardSaid : Prop := Claim7.holds Tryd.pinned (.plain (OpenSpec.upto termBeneathSpec)) termBeneathUptoCard

/-- THE SECOND FORM's CARD OF 'trystlaw10.TermMemory'. -/
def termMemoryUptoCard : Claim7 := { stood := { row := termMemoryUptoRow, standIns := [], harness := (true, "d66b735678899fc4f7e75d81f193590f70e236ad6ed82cb7499ae2ad659a35cf"), looks := false }, kinds := [], alts := [], laidByText := true, laidKinds := [.data, .data, .data], laidTests := true, laidLooks := .later }
def TermMemoryUptoCardSaid : Prop := Claim7.holds Tryd.pinned (.plain (OpenSpec.upto termMemorySpec)) termMemoryUptoCard

/-- THE SECOND FORM's CARD OF 'trystlaw10.TermOpens'. -/
def termOpensUptoCard : Claim7 := { stood := { row := termOpensUptoRow, standIns := [], harness := (true, "d66b735678899fc4f7e75d81f193590f70e236ad6ed82cb7499ae2ad659a35cf"), looks := false }, kinds := [], alts := [], laidByText := true, laidKinds := [.data, .data, .data], laidTests := true, laidLooks := .later }
def TermOpensUptoCardSaid : Prop := Claim7.holds Tryd.pinned (.plain (OpenSpec.upto termOpensSpec)) termOpensUptoCard

/-- THE SECOND FORM's CARD OF 'trystlaw11.KnowSecrets'. -/
def knowSecretsUptoCard : Claim7 := { stood := { row := knowSecretsUptoRow, standIns := [], harness := (true, "d66b735678899fc4f7e75d81f193590f70e236ad6ed82cb7499ae2ad659a35cf"), looks := false }, kinds := [], alts := [], laidByText := true, laidKinds := [.data, .data, .data], laidTests := true, laidLooks := .later }
def KnowSecretsUptoCardSaid : Prop := Claim7.holds Tryd.pinned (.plain (OpenSpec.upto knowSecretsSpec)) knowSecretsUptoCard

/-- THE SECOND FORM's CARD OF 'trystlaw11.KnowMade'. -/
def knowMadeUptoCard : Claim7 := { stood := { row := knowMadeUptoRow, standIns := [], harness := (true, "d66b735678899fc4f7e75d81f193590f70e236ad6ed82cb7499ae2ad659a35cf"), looks := false }, kinds := [], alts := [], laidByText := true, laidKinds := [.data, .data, .data], laidTests := true, laidLooks := .later }
def KnowMadeUptoCardSaid : Prop := Claim7.holds Tryd.pinned (.plain (OpenSpec.upto knowMadeSpec)) knowMadeUptoCard

/-- THE SECOND FORM's CARD OF 'trystlaw11.KnowNests'. -/
def knowNestsUptoCard : Claim7 := { stood := { row := knowNestsUptoRow, standIns := [], harness := (true, "d66b735678899fc4f7e75d81f193590f70e236ad6ed82cb7499ae2ad659a35cf"), looks := false }, kinds := [], alts := [], laidByText := true, laidKinds := [.data, .data, .data], laidTests := true, laidLooks := .later }
def KnowNestsUptoCardSaid : Prop := Claim7.holds Tryd.pinned (.plain (OpenSpec.upto knowNestsSpec)) knowNestsUptoCard
end Rows
end Go.Proofs.YtpihglmgkfecbaaDoor
