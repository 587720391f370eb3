/-
  What the program's words say of it, once for all laws of this seat (3).
-/
import Derived.Test.YtoclhecldmahiaaDoorRows
set_option linter.unusedVariables false
namespace Go.Proofs.YtoclhecldmahiaaDoor
open Go
theorem factLifts : (false == Tryd.prog.liftsFinal) = true := by kernel_rfl
end Go.Proofs.YtoclhecldmahiaaDoor
