/-
  What the program's words say of it, once for all laws of this seat (1).
-/
import Derived.Test.YtoclhecldmahiaaDoorRows
set_option linter.unusedVariables false
namespace Go.Proofs.YtoclhecldmahiaaDoor
open Go
theorem factMay : Tryd.prog.mayEnter = true := by kernel_rfl
end Go.Proofs.YtoclhecldmahiaaDoor
