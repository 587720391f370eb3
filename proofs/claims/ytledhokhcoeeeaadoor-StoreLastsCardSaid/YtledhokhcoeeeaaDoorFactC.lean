/-
  What the program's words say of it, once for all laws of this seat (3).
-/
import Derived.Test.YtledhokhcoeeeaaDoorRows
set_option linter.unusedVariables false
namespace Go.Proofs.YtledhokhcoeeeaaDoor
open Go
theorem factLifts : (false == Tryd.prog.liftsFinal) = true := by kernel_rfl
end Go.Proofs.YtledhokhcoeeeaaDoor
