/- Functions of the library, found in the seat's program. -/
import Derived.Test.YtihpicaamaeooaaGreatDoorSymXE
import Derived.KernelRfl
import Derived.Test.YtihpicaamaeooaaGreatDoorSymLayE
import Derived.Test.YtihpicaamaeooaaGreatDoorSymJoin
namespace Go.Proofs
open Go.Shelf Go.RowKit Go.Lib
set_option linter.unusedVariables false
set_option linter.unusedSimpArgs false
set_option maxRecDepth 100000
def Tryz.layJoin_ren : Go.Shelf.Ren where
  f := fun x => match x with
    | 156 => 116
    | 165 => 132
    | 166 => 133
    | 169 => 134
    | 240 => 144
    | 241 => 145
    | 276 => 155
    | 277 => 156
    | n => n
  t := fun x => match x with
    | 31 => 57
    | 9 => 9
    | 3 => 3
    | 4 => 4
    | 0 => 0
    | 20 => 20
    | 72 => 116
    | 76 => 120
    | 70 => 114
    | 37 => 22
    | 75 => 119
    | 127 => 126
    | 164 => 135
    | 5 => 5
    | 80 => 122
    | n => n
  g := fun n => n
theorem Tryz.layJoin : Lays.n156 Tryz.prog Tryz.layJoin_ren where
  mixed := by kernel_rfl
  f156 := Tryz.func116.trans (congrArg some rfl)
  f165 := Tryz.func132.trans (congrArg some rfl)
  f166 := Tryz.func133.trans (congrArg some rfl)
  f169 := Tryz.func134.trans (congrArg some rfl)
  f240 := Tryz.func144.trans (congrArg some rfl)
  f241 := Tryz.func145.trans (congrArg some rfl)
  f276 := Tryz.func155.trans (congrArg some rfl)
  f277 := Tryz.func156.trans (congrArg some rfl)
  t0 := by kernel_rfl
  a0 := fun w => by kernel_rfl
  z0 := fun w => by kernel_rfl
  v0 := fun w => by kernel_rfl
  t3 := by kernel_rfl
  a3 := fun w => by kernel_rfl
  z3 := fun w => by kernel_rfl
  v3 := fun w => by kernel_rfl
  t4 := by kernel_rfl
  a4 := fun w => by kernel_rfl
  z4 := fun w => by kernel_rfl
  v4 := fun w => by kernel_rfl
  t9 := by kernel_rfl
  a9 := fun w => by kernel_rfl
  z9 := fun w => by kernel_rfl
  v9 := fun w => by kernel_rfl
  t20 := by kernel_rfl
  a20 := fun w => by kernel_rfl
  z20 := fun w => by kernel_rfl
  v20 := fun w => by kernel_rfl
  t31 := by kernel_rfl
  a31 := fun w => by kernel_rfl
  z31 := fun w => by kernel_rfl
  v31 := fun w => by kernel_rfl
  t37 := by kernel_rfl
  a37 := fun w => by kernel_rfl
  z37 := fun w => by kernel_rfl
  v37 := fun w => by kernel_rfl
  t70 := by kernel_rfl
  a70 := fun w => by kernel_rfl
  z70 := fun w => by kernel_rfl
  v70 := fun w => by kernel_rfl
  t72 := by kernel_rfl
  a72 := fun w => by kernel_rfl
  z72 := fun w => by kernel_rfl
  v72 := fun w => by kernel_rfl
  t75 := by kernel_rfl
  a75 := fun w => by kernel_rfl
  z75 := fun w => by kernel_rfl
  v75 := fun w => by kernel_rfl
  t76 := by kernel_rfl
  a76 := fun w => by kernel_rfl
  z76 := fun w => by kernel_rfl
  v76 := fun w => by kernel_rfl
  t127 := by kernel_rfl
  a127 := fun w => by kernel_rfl
  z127 := fun w => by kernel_rfl
  v127 := fun w => by kernel_rfl
  t164 := by kernel_rfl
  a164 := fun w => by kernel_rfl
  z164 := fun w => by kernel_rfl
  v164 := fun w => by kernel_rfl
theorem Tryz.extraJoin : Builder.Extra Tryz.prog Tryz.layJoin_ren where
  sizeBuilder := by kernel_rfl
  liesBuilder := by kernel_rfl
  t5 := by kernel_rfl
  a5 := fun w => by kernel_rfl
  z5 := fun w => by kernel_rfl
  v5 := fun w => by kernel_rfl
  infoByte := by kernel_rfl
  cellsByte := by kernel_rfl
  sizeByte := by kernel_rfl
  neB5 := by decide
end Go.Proofs
