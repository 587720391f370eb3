/-
  DERIVED. GIVEN WITH THE SEED: THE CARDS: each row of YtoclhecldmahiaaDoorRows.lean that lists a variable, with what it lists TIED to the program's text (the seventh form; the later family's looks); each row that meets fmt, with fmt's text TOLD by the authors' own Lean function (tested against real Go, not proved from fmt's source: count such statements apart). THE CARD IS WHAT COUNTS. Prove the row's statement (the work); the ties are given (YtoclhecldmahiaaDoorTie.lean); close each card by the builder's one call (the guide's Derived/Test/ToyasCard.lean, 'card_holds'). Laid BY PROGRAM, IN A SANDBOX (cutbox-door.mjs). By AI agents, Wed Nov 11 2026. No macro, syntax, notation, axiom, sorry.
-/
import Derived.Test.YtoclhecldmahiaaDoorRows
import GoSem.ClaimSeven
namespace Go.Proofs.YtoclhecldmahiaaDoor
namespace Rows

/-- THE TIED CARD OF 'trystlaw18.SchedLeaves'. -/
def schedLeavesCard : Claim7 := { stood := { row := schedLeavesRow, standIns := [], harness := (true, "52fea8c32552446b526ad1a272da36277868ae8fb91bd6aefd3b9c92f0879cd4"), looks := false }, kinds := [], alts := [], laidByText := true, laidKinds := [.data, .data, .data], laidTests := true, laidLooks := .later }
def SchedLeavesCardSaid : Prop := Claim7.holds Tryd.pinned (.plain (OpenSpec.ofChange schedLeavesSpec)) schedLeavesCard

/-- THE TIED CARD OF 'trystlaw18.SchedExact'. -/
def schedExactCard : Claim7 := { stood := { row := schedExactRow, standIns := [], harness := (true, "52fea8c32552446b526ad1a272da36277868ae8fb91bd6aefd3b9c92f0879cd4"), looks := false }, kinds := [], alts := [], laidByText := true, laidKinds := [.data, .data, .data], laidTests := true, laidLooks := .later }
def SchedExactCardSaid : Prop := Claim7.holds Tryd.pinned (.plain (OpenSpec.ofChange schedExactSpec)) schedExactCard

/-- THE TIED CARD OF 'trystlaw23.OnionUnlike'. -/
def onionUnlikeCard : Claim7 := { stood := { row := onionUnlikeRow, standIns := [], harness := (true, "52fea8c32552446b526ad1a272da36277868ae8fb91bd6aefd3b9c92f0879cd4"), looks := false }, kinds := [], alts := [], laidByText := true, laidKinds := [.data, .data, .data], laidTests := true, laidLooks := .later }
def OnionUnlikeCardSaid : Prop := Claim7.holds Tryd.pinned (.plain (OpenSpec.ofChange onionUnlikeSpec)) onionUnlikeCard

/-- THE TIED CARD OF 'trystlaw24.MixOnce'. -/
def mixOnceCard : Claim7 := { stood := { row := mixOnceRow, standIns := [], harness := (true, "52fea8c32552446b526ad1a272da36277868ae8fb91bd6aefd3b9c92f0879cd4"), looks := false }, kinds := [], alts := [], laidByText := true, laidKinds := [.data, .data, .data], laidTests := true, laidLooks := .later }
def MixOnceCardSaid : Prop := Claim7.holds Tryd.pinned (.plain (OpenSpec.ofChange mixOnceSpec)) mixOnceCard

/-- THE TIED CARD OF 'trystlaw24.MixDrops'. -/
def mixDropsCard : Claim7 := { stood := { row := mixDropsRow, standIns := [], harness := (true, "52fea8c32552446b526ad1a272da36277868ae8fb91bd6aefd3b9c92f0879cd4"), looks := false }, kinds := [], alts := [], laidByText := true, laidKinds := [.data, .data, .data], laidTests := true, laidLooks := .later }
def MixDropsCardSaid : Prop := Claim7.holds Tryd.pinned (.plain (OpenSpec.ofChange mixDropsSpec)) mixDropsCard

/-- THE TIED CARD OF 'trystlaw24.MixDoes'. -/
def mixDoesCard : Claim7 := { stood := { row := mixDoesRow, standIns := [], harness := (true, "52fea8c32552446b526ad1a272da36277868ae8fb91bd6aefd3b9c92f0879cd4"), looks := false }, kinds := [], alts := [], laidByText := true, laidKinds := [.data, .data, .data], laidTests := true, laidLooks := .later }
def MixDoesCardSaid : Prop := Claim7.holds Tryd.pinned (.plain (OpenSpec.ofChange mixDoesSpec)) mixDoesCard

/-- THE TIED CARD OF 'trystlaw23.OnionExact'. -/
def onionExactCard : Claim7 := { stood := { row := onionExactRow, standIns := [], harness := (true, "52fea8c32552446b526ad1a272da36277868ae8fb91bd6aefd3b9c92f0879cd4"), looks := false }, kinds := [], alts := [], laidByText := true, laidKinds := [.data, .data, .data], laidTests := true, laidLooks := .later }
def OnionExactCardSaid : Prop := Claim7.holds Tryd.pinned (.plain (OpenSpec.ofChange onionExactSpec)) onionExactCard

/-- THE TIED CARD OF 'trystlaw23.OnionBack'. -/
def onionBackCard : Claim7 := { stood := { row := onionBackRow, standIns := [], harness := (true, "52fea8c32552446b526ad1a272da36277868ae8fb91bd6aefd3b9c92f0879cd4"), looks := false }, kinds := [], alts := [], laidByText := true, laidKinds := [.data, .data, .data], laidTests := true, laidLooks := .later }
def OnionBackCardSaid : Prop := Claim7.holds Tryd.pinned (.plain (OpenSpec.ofChange onionBackSpec)) onionBackCard

/-- THE TIED CARD OF 'trystlaw11.KnowSecrets'. -/
def knowSecretsCard : Claim7 := { stood := { row := knowSecretsRow, standIns := [], harness := (true, "52fea8c32552446b526ad1a272da36277868ae8fb91bd6aefd3b9c92f0879cd4"), looks := false }, kinds := [], alts := [], laidByText := true, laidKinds := [.data, .data, .data], laidTests := true, laidLooks := .later }
def KnowSecretsCardSaid : Prop := Claim7.holds Tryd.pinned (.plain (OpenSpec.ofChange knowSecretsSpec)) knowSecretsCard

/-- THE TIED CARD OF 'trystlaw11.KnowMade'. -/
def knowMadeCard : Claim7 := { stood := { row := knowMadeRow, standIns := [], harness := (true, "52fea8c32552446b526ad1a272da36277868ae8fb91bd6aefd3b9c92f0879cd4"), looks := false }, kinds := [], alts := [], laidByText := true, laidKinds := [.data, .data, .data], laidTests := true, laidLooks := .later }
def KnowMadeCardSaid : Prop := Claim7.holds Tryd.pinned (.plain (OpenSpec.ofChange knowMadeSpec)) knowMadeCard

/-- THE TIED CARD OF 'trystlaw11.KnowNests'. -/
def knowNestsCard : Claim7 := { stood := { row := knowNestsRow, standIns := [], harness := (true, "52fea8c32552446b526ad1a272da36277868ae8fb91bd6aefd3b9c92f0879cd4"), looks := false }, kinds := [], alts := [], laidByText := true, laidKinds := [.data, .data, .data], laidTests := true, laidLooks := .later }
def KnowNestsCardSaid : Prop := Claim7.holds Tryd.pinned (.plain (OpenSpec.ofChange knowNestsSpec)) knowNestsCard

/-- THE TIED CARD OF 'trystlaw19.RatchetMeets'. -/
def ratchetMeetsCard : Claim7 := { stood := { row := ratchetMeetsRow, standIns := [], harness := (true, "52fea8c32552446b526ad1a272da36277868ae8fb91bd6aefd3b9c92f0879cd4"), looks := false }, kinds := [], alts := [], laidByText := true, laidKinds := [.data, .data, .data], laidTests := true, laidLooks := .later }
def RatchetMeetsCardSaid : Prop := Claim7.holds Tryd.pinned (.plain (OpenSpec.ofChange ratchetMeetsSpec)) ratchetMeetsCard

/-- THE TIED CARD OF 'trystlaw19.RatchetBounds'. -/
def ratchetBoundsCard : Claim7 := { stood := { row := ratchetBoundsRow, standIns := [], harness := (true, "52fea8c32552446b526ad1a272da36277868ae8fb91bd6aefd3b9c92f0879cd4"), looks := false }, kinds := [], alts := [], laidByText := true, laidKinds := [.data, .data, .data], laidTests := true, laidLooks := .later }
def RatchetBoundsCardSaid : Prop := Claim7.holds Tryd.pinned (.plain (OpenSpec.ofChange ratchetBoundsSpec)) ratchetBoundsCard

/-- THE TIED CARD OF 'trystlaw19.RatchetExact'. -/
def ratchetExactCard : Claim7 := { stood := { row := ratchetExactRow, standIns := [], harness := (true, "52fea8c32552446b526ad1a272da36277868ae8fb91bd6aefd3b9c92f0879cd4"), looks := false }, kinds := [], alts := [], laidByText := true, laidKinds := [.data, .data, .data], laidTests := true, laidLooks := .later }
def RatchetExactCardSaid : Prop := Claim7.holds Tryd.pinned (.plain (OpenSpec.ofChange ratchetExactSpec)) ratchetExactCard

/-- THE TIED CARD OF 'trystlaw18.SchedApart'. -/
def schedApartCard : Claim7 := { stood := { row := schedApartRow, standIns := [], harness := (true, "52fea8c32552446b526ad1a272da36277868ae8fb91bd6aefd3b9c92f0879cd4"), looks := false }, kinds := [], alts := [], laidByText := true, laidKinds := [.data, .data, .data], laidTests := true, laidLooks := .later }
def SchedApartCardSaid : Prop := Claim7.holds Tryd.pinned (.plain (OpenSpec.ofChange schedApartSpec)) schedApartCard

/-- THE TIED CARD OF 'trystlaw23.OnionHidden'. -/
def onionHiddenCard : Claim7 := { stood := { row := onionHiddenRow, standIns := [], harness := (true, "52fea8c32552446b526ad1a272da36277868ae8fb91bd6aefd3b9c92f0879cd4"), looks := false }, kinds := [], alts := [], laidByText := true, laidKinds := [.data, .data, .data], laidTests := true, laidLooks := .later }
def OnionHiddenCardSaid : Prop := Claim7.holds Tryd.pinned (.plain (OpenSpec.ofChange onionHiddenSpec)) onionHiddenCard

/-- THE TIED CARD OF 'trystlaw24.MixRounds'. -/
def mixRoundsCard : Claim7 := { stood := { row := mixRoundsRow, standIns := [], harness := (true, "52fea8c32552446b526ad1a272da36277868ae8fb91bd6aefd3b9c92f0879cd4"), looks := false }, kinds := [], alts := [], laidByText := true, laidKinds := [.data, .data, .data], laidTests := true, laidLooks := .later }
def MixRoundsCardSaid : Prop := Claim7.holds Tryd.pinned (.plain (OpenSpec.ofChange mixRoundsSpec)) mixRoundsCard

/-- THE TIED CARD OF 'trystlaw24.MixTurned'. -/
def mixTurnedCard : Claim7 := { stood := { row := mixTurnedRow, standIns := [], harness := (true, "52fea8c32552446b526ad1a272da36277868ae8fb91bd6aefd3b9c92f0879cd4"), looks := false }, kinds := [], alts := [], laidByText := true, laidKinds := [.data, .data, .data], laidTests := true, laidLooks := .later }
def MixTurnedCardSaid : Prop := Claim7.holds Tryd.pinned (.plain (OpenSpec.ofChange mixTurnedSpec)) mixTurnedCard

/-- THE TIED CARD OF 'trystlaw24.MixOrder'. -/
def mixOrderCard : Claim7 := { stood := { row := mixOrderRow, standIns := [], harness := (true, "52fea8c32552446b526ad1a272da36277868ae8fb91bd6aefd3b9c92f0879cd4"), looks := false }, kinds := [], alts := [], laidByText := true, laidKinds := [.data, .data, .data], laidTests := true, laidLooks := .later }
def MixOrderCardSaid : Prop := Claim7.holds Tryd.pinned (.plain (OpenSpec.ofChange mixOrderSpec)) mixOrderCard

/-- THE TIED CARD OF 'trystlaw19.RatchetPast'. -/
def ratchetPastCard : Claim7 := { stood := { row := ratchetPastRow, standIns := [], harness := (true, "52fea8c32552446b526ad1a272da36277868ae8fb91bd6aefd3b9c92f0879cd4"), looks := false }, kinds := [], alts := [], laidByText := true, laidKinds := [.data, .data, .data], laidTests := true, laidLooks := .later }
def RatchetPastCardSaid : Prop := Claim7.holds Tryd.pinned (.plain (OpenSpec.ofChange ratchetPastSpec)) ratchetPastCard

/-- THE TIED CARD OF 'trystlaw24.MixSeen'. -/
def mixSeenCard : Claim7 := { stood := { row := mixSeenRow, standIns := [], harness := (true, "52fea8c32552446b526ad1a272da36277868ae8fb91bd6aefd3b9c92f0879cd4"), looks := false }, kinds := [], alts := [], laidByText := true, laidKinds := [.data, .data, .data], laidTests := true, laidLooks := .later }
def MixSeenCardSaid : Prop := Claim7.holds Tryd.pinned (.plain (OpenSpec.ofChange mixSeenSpec)) mixSeenCard

/-- THE SECOND FORM's CARD OF 'trystlaw18.SchedLeaves'. -/
def schedLeavesUptoCard : Claim7 := { stood := { row := schedLeavesUptoRow, standIns := [], harness := (true, "52fea8c32552446b526ad1a272da36277868ae8fb91bd6aefd3b9c92f0879cd4"), looks := false }, kinds := [], alts := [], laidByText := true, laidKinds := [.data, .data, .data], laidTests := true, laidLooks := .later }
def SchedLeavesUptoCardSaid : Prop := Claim7.holds Tryd.pinned (.plain (OpenSpec.upto schedLeavesSpec)) schedLeavesUptoCard

/-- THE SECOND FORM's CARD OF 'trystlaw18.SchedExact'. -/
def schedExactUptoCard : Claim7 := { stood := { row := schedExactUptoRow, standIns := [], harness := (true, "52fea8c32552446b526ad1a272da36277868ae8fb91bd6aefd3b9c92f0879cd4"), looks := false }, kinds := [], alts := [], laidByText := true, laidKinds := [.data, .data, .data], laidTests := true, laidLooks := .later }
def SchedExactUptoCardSaid : Prop := Claim7.holds Tryd.pinned (.plain (OpenSpec.upto schedExactSpec)) schedExactUptoCard

/-- THE SECOND FORM's CARD OF 'trystlaw23.OnionUnlike'. -/
def onionUnlikeUptoCard : Claim7 := { stood := { row := onionUnlikeUptoRow, standIns := [], harness := (true, "52fea8c32552446b526ad1a272da36277868ae8fb91bd6aefd3b9c92f0879cd4"), looks := false }, kinds := [], alts := [], laidByText := true, laidKinds := [.data, .data, .data], laidTests := true, laidLooks := .later }
def OnionUnlikeUptoCardSaid : Prop := Claim7.holds Tryd.pinned (.plain (OpenSpec.upto onionUnlikeSpec)) onionUnlikeUptoCard

/-- THE SECOND FORM's CARD OF 'trystlaw24.MixOnce'. -/
def mixOnceUptoCard : Claim7 := { stood := { row := mixOnceUptoRow, standIns := [], harness := (true, "52fea8c32552446b526ad1a272da36277868ae8fb91bd6aefd3b9c92f0879cd4"), looks := false }, kinds := [], alts := [], laidByText := true, laidKinds := [.data, .data, .data], laidTests := true, laidLooks := .later }
def MixOnceUptoCardSaid : Prop := Claim7.holds Tryd.pinned (.plain (OpenSpec.upto mixOnceSpec)) mixOnceUptoCard

/-- THE SECOND FORM's CARD OF 'trystlaw24.MixDrops'. -/
def mixDropsUptoCard : Claim7 := { stood := { row := mixDropsUptoRow, standIns := [], harness := (true, "52fea8c32552446b526ad1a272da36277868ae8fb91bd6aefd3b9c92f0879cd4"), looks := false }, kinds := [], alts := [], laidByText := true, laidKinds := [.data, .data, .data], laidTests := true, laidLooks := .later }
def MixDropsUptoCardSaid : Prop := Claim7.holds Tryd.pinned (.plain (OpenSpec.upto mixDropsSpec)) mixDropsUptoCard

/-- THE SECOND FORM's CARD OF 'trystlaw24.MixDoes'. -/
def mixDoesUptoCard : Claim7 := { stood := { row := mixDoesUptoRow, standIns := [], harness := (true, "52fea8c32552446b526ad1a272da36277868ae8fb91bd6aefd3b9c92f0879cd4"), looks := false }, kinds := [], alts := [], laidByText := true, laidKinds := [.data, .data, .data], laidTests := true, laidLooks := .later }
def MixDoesUptoCardSaid : Prop := Claim7.holds Tryd.pinned (.plain (OpenSpec.upto mixDoesSpec)) mixDoesUptoCard

/-- THE SECOND FORM's CARD OF 'trystlaw23.OnionExact'. -/
def onionExactUptoCard : Claim7 := { stood := { row := onionExactUptoRow, standIns := [], harness := (true, "52fea8c32552446b526ad1a272da36277868ae8fb91bd6aefd3b9c92f0879cd4"), looks := false }, kinds := [], alts := [], laidByText := true, laidKinds := [.data, .data, .data], laidTests := true, laidLooks := .later }
def OnionExactUptoCardSaid : Prop := Claim7.holds Tryd.pinned (.plain (OpenSpec.upto onionExactSpec)) onionExactUptoCard

/-- THE SECOND FORM's CARD OF 'trystlaw23.OnionBack'. -/
def onionBackUptoCard : Claim7 := { stood := { row := onionBackUptoRow, standIns := [], harness := (true, "52fea8c32552446b526ad1a272da36277868ae8fb91bd6aefd3b9c92f0879cd4"), looks := false }, kinds := [], alts := [], laidByText := true, laidKinds := [.data, .data, .data], laidTests := true, laidLooks := .later }
def OnionBackUptoCardSaid : Prop := Claim7.holds Tryd.pinned (.plain (OpenSpec.upto onionBackSpec)) onionBackUptoCard

/-- THE SECOND FORM's CARD OF 'trystlaw11.KnowSecrets'. -/
def knowSecretsUptoCard : Claim7 := { stood := { row := knowSecretsUptoRow, standIns := [], harness := (true, "52fea8c32552446b526ad1a272da36277868ae8fb91bd6aefd3b9c92f0879cd4"), looks := false }, kinds := [], alts := [], laidByText := true, laidKinds := [.data, .data, .data], laidTests := true, laidLooks := .later }
def KnowSecretsUptoCardSaid : Prop := Claim7.holds Tryd.pinned (.plain (OpenSpec.upto knowSecretsSpec)) knowSecretsUptoCard

/-- THE SECOND FORM's CARD OF 'trystlaw11.KnowMade'. -/
def knowMadeUptoCard : Claim7 := { stood := { row := knowMadeUptoRow, standIns := [], harness := (true, "52fea8c32552446b526ad1a272da36277868ae8fb91bd6aefd3b9c92f0879cd4"), looks := false }, kinds := [], alts := [], laidByText := true, laidKinds := [.data, .data, .data], laidTests := true, laidLooks := .later }
def KnowMadeUptoCardSaid : Prop := Claim7.holds Tryd.pinned (.plain (OpenSpec.upto knowMadeSpec)) knowMadeUptoCard

/-- THE SECOND FORM's CARD OF 'trystlaw11.KnowNests'. -/
def knowNestsUptoCard : Claim7 := { stood := { row := knowNestsUptoRow, standIns := [], harness := (true, "52fea8c32552446b526ad1a272da36277868ae8fb91bd6aefd3b9c92f0879cd4"), looks := false }, kinds := [], alts := [], laidByText := true, laidKinds := [.data, .data, .data], laidTests := true, laidLooks := .later }
def KnowNestsUptoCardSaid : Prop := Claim7.holds Tryd.pinned (.plain (OpenSpec.upto knowNestsSpec)) knowNestsUptoCard

/-- THE SECOND FORM's CARD OF 'trystlaw19.RatchetMeets'. -/
def ratchetMeetsUptoCard : Claim7 := { stood := { row := ratchetMeetsUptoRow, standIns := [], harness := (true, "52fea8c32552446b526ad1a272da36277868ae8fb91bd6aefd3b9c92f0879cd4"), looks := false }, kinds := [], alts := [], laidByText := true, laidKinds := [.data, .data, .data], laidTests := true, laidLooks := .later }
def RatchetMeetsUptoCardSaid : Prop := Claim7.holds Tryd.pinned (.plain (OpenSpec.upto ratchetMeetsSpec)) ratchetMeetsUptoCard

/-- THE SECOND FORM's CARD OF 'trystlaw19.RatchetBounds'. -/
def ratchetBoundsUptoCard : Claim7 := { stood := { row := ratchetBoundsUptoRow, standIns := [], harness := (true, "52fea8c32552446b526ad1a272da36277868ae8fb91bd6aefd3b9c92f0879cd4"), looks := false }, kinds := [], alts := [], laidByText := true, laidKinds := [.data, .data, .data], laidTests := true, laidLooks := .later }
def RatchetBoundsUptoCardSaid : Prop := Claim7.holds Tryd.pinned (.plain (OpenSpec.upto ratchetBoundsSpec)) ratchetBoundsUptoCard

/-- THE SECOND FORM's CARD OF 'trystlaw19.RatchetExact'. -/
def ratchetExactUptoCard : Claim7 := { stood := { row := ratchetExactUptoRow, standIns := [], harness := (true, "52fea8c32552446b526ad1a272da36277868ae8fb91bd6aefd3b9c92f0879cd4"), looks := false }, kinds := [], alts := [], laidByText := true, laidKinds := [.data, .data, .data], laidTests := true, laidLooks := .later }
def RatchetExactUptoCardSaid : Prop := Claim7.holds Tryd.pinned (.plain (OpenSpec.upto ratchetExactSpec)) ratchetExactUptoCard

/-- THE SECOND FORM's CARD OF 'trystlaw18.SchedApart'. -/
def schedApartUptoCard : Claim7 := { stood := { row := schedApartUptoRow, standIns := [], harness := (true, "52fea8c32552446b526ad1a272da36277868ae8fb91bd6aefd3b9c92f0879cd4"), looks := false }, kinds := [], alts := [], laidByText := true, laidKinds := [.data, .data, .data], laidTests := true, laidLooks := .later }
def SchedApartUptoCardSaid : Prop := Claim7.holds Tryd.pinned (.plain (OpenSpec.upto schedApartSpec)) schedApartUptoCard

/-- THE SECOND FORM's CARD OF 'trystlaw23.OnionHidden'. -/
def onionHiddenUptoCard : Claim7 := { stood := { row := onionHiddenUptoRow, standIns := [], harness := (true, "52fea8c32552446b526ad1a272da36277868ae8fb91bd6aefd3b9c92f0879cd4"), looks := false }, kinds := [], alts := [], laidByText := true, laidKinds := [.data, .data, .data], laidTests := true, laidLooks := .later }
def OnionHiddenUptoCardSaid : Prop := Claim7.holds Tryd.pinned (.plain (OpenSpec.upto onionHiddenSpec)) onionHiddenUptoCard

/-- THE SECOND FORM's CARD OF 'trystlaw24.MixRounds'. -/
def mixRoundsUptoCard : Claim7 := { stood := { row := mixRoundsUptoRow, standIns := [], harness := (true, "52fea8c32552446b526ad1a272da36277868ae8fb91bd6aefd3b9c92f0879cd4"), looks := false }, kinds := [], alts := [], laidByText := true, laidKinds := [.data, .data, .data], laidTests := true, laidLooks := .later }
def MixRoundsUptoCardSaid : Prop := Claim7.holds Tryd.pinned (.plain (OpenSpec.upto mixRoundsSpec)) mixRoundsUptoCard

/-- THE SECOND FORM's CARD OF 'trystlaw24.MixTurned'. -/
def mixTurnedUptoCard : Claim7 := { stood := { row := mixTurnedUptoRow, standIns := [], harness := (true, "52fea8c32552446b526ad1a272da36277868ae8fb91bd6aefd3b9c92f0879cd4"), looks := false }, kinds := [], alts := [], laidByText := true, laidKinds := [.data, .data, .data], laidTests := true, laidLooks := .later }
def MixTurnedUptoCardSaid : Prop := Claim7.holds Tryd.pinned (.plain (OpenSpec.upto mixTurnedSpec)) mixTurnedUptoCard

/-- THE SECOND FORM's CARD OF 'trystlaw24.MixOrder'. -/
def mixOrderUptoCard : Claim7 := { stood := { row := mixOrderUptoRow, standIns := [], harness := (true, "52fea8c32552446b526ad1a272da36277868ae8fb91bd6aefd3b9c92f0879cd4"), looks := false }, kinds := [], alts := [], laidByText := true, laidKinds := [.data, .data, .data], laidTests := true, laidLooks := .later }
def MixOrderUptoCardSaid : Prop := Claim7.holds Tryd.pinned (.plain (OpenSpec.upto mixOrderSpec)) mixOrderUptoCard

/-- THE SECOND FORM's CARD OF 'trystlaw19.RatchetPast'. -/
def ratchetPastUptoCard : Claim7 := { stood := { row := ratchetPastUptoRow, standIns := [], harness := (true, "52fea8c32552446b526ad1a272da36277868ae8fb91bd6aefd3b9c92f0879cd4"), looks := false }, kinds := [], alts := [], laidByText := true, laidKinds := [.data, .data, .data], laidTests := true, laidLooks := .later }
def RatchetPastUptoCardSaid : Prop := Claim7.holds Tryd.pinned (.plain (OpenSpec.upto ratchetPastSpec)) ratchetPastUptoCard

/-- THE SECOND FORM's CARD OF 'trystlaw24.MixSeen'. -/
def mixSeenUptoCard : Claim7 := { stood := { row := mixSeenUptoRow, standIns := [], harness := (true, "52fea8c32552446b526ad1a272da36277868ae8fb91bd6aefd3b9c92f0879cd4"), looks := false }, kinds := [], alts := [], laidByText := true, laidKinds := [.data, .data, .data], laidTests := true, laidLooks := .later }
def MixSeenUptoCardSaid : Prop := Claim7.holds Tryd.pinned (.plain (OpenSpec.upto mixSeenSpec)) mixSeenUptoCard
end Rows
end Go.Proofs.YtoclhecldmahiaaDoor
