/-
  Rounds of servers, the page's: what a server opens and places.
-/
import Derived.Test.YtoclhecldmahiaaDoorMxM
set_option linter.unusedVariables false
set_option linter.unusedVariables false
set_option linter.unusedSimpArgs false
namespace Go.Proofs.YtoclhecldmahiaaDoor
open Go.Lf Go.RowKit

/-- the servers on the page -/
def pmxL (y : Addr) (sr : Sl) (ss : Nat → Sl) (st : MxS) : List Asn := boxA y [sV sr, sV (ss 0), sV (ss 1), sV (ss 2)] :: mixL sr ss st
section
variable {W w w' : World} {L R Y : List Asn} {y p : Addr} {T Tk T1 : List Tm} {nw : Int} {sec sp sr sl : Sl} {ss : Nat → Sl} {st : MxS} {Z : List (Sl × List Int)} {RR : Value → World → Prop} {on kk gd : Sl} {s k : Nat} {secs l : List Int} {X : Asn}

end

end Go.Proofs.YtoclhecldmahiaaDoor

/-
  Rounds of servers, the page's: what is sealed back; the contract.
-/
set_option linter.unusedVariables false
set_option linter.unusedSimpArgs false
namespace Go.Proofs.YtoclhecldmahiaaDoor
open Go.Lf Go.RowKit

section
variable {W w w' : World} {L R Y : List Asn} {y p : Addr} {T Tk T1 T2 : List Tm} {nw : Int} {sec sp sr sl bk ot : Sl} {ss : Nat → Sl} {st : MxS} {Z : List (Sl × List Int)} {RR : Value → World → Prop} {on kk gd : Sl} {s k : Nat} {secs l back : List Int} {X : Asn} {os : List (Option (Int × Int))}

end

end Go.Proofs.YtoclhecldmahiaaDoor
