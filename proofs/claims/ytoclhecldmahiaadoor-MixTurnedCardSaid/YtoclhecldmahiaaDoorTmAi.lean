/-
  strconv.AppendInt at this program: the contract of the kit, laid by its tool, in plain words.
-/
import Derived.Shelf.Strconv.AppendIntPublic10
import Derived.Test.YtoclhecldmahiaaDoorProg
set_option linter.unusedVariables false
namespace Go.Proofs.YtoclhecldmahiaaDoor
open Go.Shelf Go.RowKit
def laysM176_ren : Go.Shelf.Ren := ⟨fun | 176 => 137 | 249 => 154 | 288 => 156 | 283 => 157 | 284 => 158 | 285 => 159 | 286 => 160 | 129 => 162 | 317 => 161 | 318 => 163 | 319 => 164 | 320 => 165 | 337 => 166 | 338 => 167 | n => n, fun | 37 => 198 | 2 => 2 | 3 => 3 | 53 => 209 | 4 => 4 | 9 => 9 | 171 => 212 | 0 => 0 | 173 => 215 | 212 => 218 | 51 => 219 | 5 => 5 | 20 => 20 | 213 => 220 | 46 => 58 | 232 => 223 | 233 => 224 | n => n, fun | 17 => 0 | 18 => 1 | 19 => 2 | n => n⟩
theorem laysM176 : Go.Proofs.LaysM.n176 Tryd.prog laysM176_ren := {
  mixed := by kernel_rfl
  f129 := Tryd.func162.trans (congrArg some (by kernel_rfl))
  f176 := Tryd.func137.trans (congrArg some (by kernel_rfl))
  f249 := Tryd.func154.trans (congrArg some (by kernel_rfl))
  f283 := Tryd.func157.trans (congrArg some (by kernel_rfl))
  f284 := Tryd.func158.trans (congrArg some (by kernel_rfl))
  f285 := Tryd.func159.trans (congrArg some (by kernel_rfl))
  f286 := Tryd.func160.trans (congrArg some (by kernel_rfl))
  f288 := Tryd.func156.trans (congrArg some (by kernel_rfl))
  f317 := Tryd.func161.trans (congrArg some (by kernel_rfl))
  f318 := Tryd.func163.trans (congrArg some (by kernel_rfl))
  f319 := Tryd.func164.trans (congrArg some (by kernel_rfl))
  f320 := Tryd.func165.trans (congrArg some (by kernel_rfl))
  f337 := Tryd.func166.trans (congrArg some (by kernel_rfl))
  f338 := Tryd.func167.trans (congrArg some (by kernel_rfl))
  t0 := Tryd.underlying0
  a0 := Tryd.isAgg0
  z0 := Tryd.sizeOf0
  v0 := Tryd.zeroValue0
  t2 := Tryd.underlying2
  a2 := Tryd.isAgg2
  z2 := Tryd.sizeOf2
  v2 := Tryd.zeroValue2
  t3 := Tryd.underlying3
  a3 := Tryd.isAgg3
  z3 := Tryd.sizeOf3
  v3 := Tryd.zeroValue3
  t4 := Tryd.underlying4
  a4 := Tryd.isAgg4
  z4 := Tryd.sizeOf4
  v4 := Tryd.zeroValue4
  t5 := Tryd.underlying5
  a5 := Tryd.isAgg5
  z5 := Tryd.sizeOf5
  v5 := Tryd.zeroValue5
  t9 := Tryd.underlying9
  a9 := Tryd.isAgg9
  z9 := Tryd.sizeOf9
  v9 := Tryd.zeroValue9
  t20 := Tryd.underlying20
  a20 := Tryd.isAgg20
  z20 := Tryd.sizeOf20
  v20 := Tryd.zeroValue20
  t37 := Tryd.underlying198
  a37 := Tryd.isAgg198
  z37 := Tryd.sizeOf198
  v37 := Tryd.zeroValue198
  t46 := Tryd.underlying58
  a46 := Tryd.isAgg58
  z46 := Tryd.sizeOf58
  v46 := Tryd.zeroValue58
  t51 := Tryd.underlying219
  a51 := Tryd.isAgg219
  z51 := Tryd.sizeOf219
  v51 := Tryd.zeroValue219
  t53 := Tryd.underlying209
  a53 := Tryd.isAgg209
  z53 := Tryd.sizeOf209
  v53 := Tryd.zeroValue209
  t171 := Tryd.underlying212
  a171 := Tryd.isAgg212
  z171 := Tryd.sizeOf212
  v171 := Tryd.zeroValue212
  t173 := Tryd.underlying215
  a173 := Tryd.isAgg215
  z173 := Tryd.sizeOf215
  v173 := Tryd.zeroValue215
  t212 := Tryd.underlying218
  a212 := Tryd.isAgg218
  z212 := Tryd.sizeOf218
  v212 := Tryd.zeroValue218
  t213 := Tryd.underlying220
  a213 := Tryd.isAgg220
  z213 := Tryd.sizeOf220
  t232 := Tryd.underlying223
  a232 := Tryd.isAgg223
  z232 := Tryd.sizeOf223
  v232 := Tryd.zeroValue223
  t233 := Tryd.underlying224
  a233 := Tryd.isAgg224
  z233 := Tryd.sizeOf224
  v233 := Tryd.zeroValue224
  g17 := by kernel_rfl
  g18 := by kernel_rfl
  g19 := by kernel_rfl
  i0 := by kernel_rfl
  i2 := by kernel_rfl
  i3 := by kernel_rfl
  i4 := by kernel_rfl
  i5 := by kernel_rfl
  i9 := by kernel_rfl
  i20 := by kernel_rfl
  i37 := by kernel_rfl
  i46 := by kernel_rfl
  i51 := by kernel_rfl
  i53 := by kernel_rfl
  i171 := by kernel_rfl
  i173 := by kernel_rfl
  i212 := by kernel_rfl
  i232 := by kernel_rfl
  i233 := by kernel_rfl
  m17 := by kernel_rfl
  m18 := by kernel_rfl
  m19 := by kernel_rfl }
theorem appendInt_10 (B n : Nat) (i : Int) (h0 : -9223372036854775808 ≤ i) (h1 : i ≤ 9223372036854775807) (sv : Value) (xs : List Value) (w : World) (hown : w.ownsRow B 5 1 sv n xs) (hBw : B ≤ w.heap.size) (hlim : n + 21 ≤ 140737488355328) (htab : Lib.TabBelow Tryd.prog B w "internal/strconv.uint64pow10" .u64 Lib.pow10Tab) :
    Calls Tryd.prog 137 #[sv, .int .i64 i, .int .i64 10] w fun e w' => ∃ v', e = .returned v' ∧ w'.ownsRow B 5 1 v' (n + (Lib.itoa i).length) (xs ++ Lib.byteCells (Lib.itoa i)) ∧ Below B w w' ∧ Lib.OthersKept 5 none w w' := Any.strconv_AppendInt_10 laysM176 B n i h0 h1 sv xs w hown hBw hlim htab
end Go.Proofs.YtoclhecldmahiaaDoor
