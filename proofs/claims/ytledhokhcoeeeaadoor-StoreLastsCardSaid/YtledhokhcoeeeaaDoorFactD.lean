/-
  What the program's words say of it, once for all laws of this seat (4).
-/
import Derived.Test.YtledhokhcoeeeaaDoorFactA
import Derived.Test.YtledhokhcoeeeaaDoorFactB
import Derived.Test.YtledhokhcoeeeaaDoorFactC
set_option linter.unusedVariables false
namespace Go.Proofs.YtledhokhcoeeeaaDoor
open Go
theorem factLaid : laidOutB Tryd.prog = true := by kernel_rfl
theorem factMaps : mapsRowed Tryd.prog = true := by kernel_rfl
theorem factHeard : Tryd.prog.stopsHeard = true := by kernel_rfl
theorem factKeys : (true == Tryd.prog.plainKeys) = true := by kernel_rfl
theorem factStops : (Tryd.prog.stops == []) = true := by kernel_rfl
theorem factKnobs : (Tryd.prog.stopKnobs == []) = true := by kernel_rfl
theorem factOwn : ownKnob Tryd.prog.godebug = none := by kernel_rfl

theorem and32 {a1 a2 a3 a4 a5 a6 a7 a8 a9 a10 a11 a12 a13 a14 a15 a16 a17 a18 a19 a20 a21 a22 a23 a24 a25 a26 a27 a28 a29 a30 a31 a32 : Bool}
    (h1 : a1 = true) (h2 : a2 = true) (h3 : a3 = true) (h4 : a4 = true) (h5 : a5 = true) (h6 : a6 = true) (h7 : a7 = true) (h8 : a8 = true) (h9 : a9 = true) (h10 : a10 = true) (h11 : a11 = true) (h12 : a12 = true) (h13 : a13 = true) (h14 : a14 = true) (h15 : a15 = true) (h16 : a16 = true)
    (h17 : a17 = true) (h18 : a18 = true) (h19 : a19 = true) (h20 : a20 = true) (h21 : a21 = true) (h22 : a22 = true) (h23 : a23 = true) (h24 : a24 = true) (h25 : a25 = true) (h26 : a26 = true) (h27 : a27 = true) (h28 : a28 = true) (h29 : a29 = true) (h30 : a30 = true) (h31 : a31 = true) (h32 : a32 = true) :
    (((((((((((((((((((((((((((((((a1 && a2) && a3) && a4) && a5) && a6) && a7) && a8) && a9) && a10) && a11) && a12) && a13) && a14) && a15) && a16) && a17) && a18) && a19) && a20) && a21) && a22) && a23) && a24) && a25) && a26) && a27) && a28) && a29) && a30) && a31) && a32) = true := by
  subst h1 h2 h3 h4 h5 h6 h7 h8 h9 h10 h11 h12 h13 h14 h15 h16 h17 h18 h19 h20 h21 h22 h23 h24 h25 h26 h27 h28 h29 h30 h31 h32
  rfl
end Go.Proofs.YtledhokhcoeeeaaDoor
