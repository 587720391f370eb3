/-
  What the program's words say of it, once for all laws of this seat (2).
-/
import Derived.Test.YtledhokhcoeeeaaDoorRows
set_option linter.unusedVariables false
namespace Go.Proofs.YtledhokhcoeeeaaDoor
open Go
theorem factMake : (Tryd.prog.make == some Make.cut) = true := by kernel_rfl
end Go.Proofs.YtledhokhcoeeeaaDoor
