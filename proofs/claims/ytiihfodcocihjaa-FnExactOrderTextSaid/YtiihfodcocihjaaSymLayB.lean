/- Functions of the library, found in the seat's program. -/
import Derived.Test.YtiihfodcocihjaaSymX
import Derived.KernelRfl
import Derived.Test.YtiihfodcocihjaaSymJoin
namespace Go.Proofs
open Go.Shelf Go.RowKit Go.Lib
set_option linter.unusedVariables false
set_option linter.unusedSimpArgs false
set_option maxRecDepth 100000
def Try.layJoin_ren : Go.Shelf.Ren where
  f := fun x => match x with
    | 156 => 104
    | 165 => 106
    | 166 => 107
    | 169 => 108
    | 240 => 109
    | 241 => 110
    | 276 => 111
    | 277 => 112
    | n => n
  t := fun x => match x with
    | 31 => 87
    | 9 => 9
    | 3 => 3
    | 4 => 4
    | 0 => 0
    | 20 => 20
    | 72 => 100
    | 76 => 104
    | 70 => 98
    | 37 => 97
    | 75 => 103
    | 127 => 107
    | 164 => 108
    | 5 => 5
    | 80 => 106
    | n => n
  g := fun n => n
theorem Try.layJoin : Lays.n156 Try.prog Try.layJoin_ren where
  mixed := by kernel_rfl
  f156 := Try.func104.trans (congrArg some rfl)
  f165 := Try.func106.trans (congrArg some rfl)
  f166 := Try.func107.trans (congrArg some rfl)
  f169 := Try.func108.trans (congrArg some rfl)
  f240 := Try.func109.trans (congrArg some rfl)
  f241 := Try.func110.trans (congrArg some rfl)
  f276 := Try.func111.trans (congrArg some rfl)
  f277 := Try.func112.trans (congrArg some rfl)
  t0 := by kernel_rfl
  a0 := fun w => by kernel_rfl
  z0 := fun w => by kernel_rfl
  v0 := fun w => by kernel_rfl
  t3 := by kernel_rfl
  a3 := fun w => by kernel_rfl
  z3 := fun w => by kernel_rfl
  v3 := fun w => by kernel_rfl
  t4 := by kernel_rfl
  a4 := fun w => by kernel_rfl
  z4 := fun w => by kernel_rfl
  v4 := fun w => by kernel_rfl
  t9 := by kernel_rfl
  a9 := fun w => by kernel_rfl
  z9 := fun w => by kernel_rfl
  v9 := fun w => by kernel_rfl
  t20 := by kernel_rfl
  a20 := fun w => by kernel_rfl
  z20 := fun w => by kernel_rfl
  v20 := fun w => by kernel_rfl
  t31 := by kernel_rfl
  a31 := fun w => by kernel_rfl
  z31 := fun w => by kernel_rfl
  v31 := fun w => by kernel_rfl
  t37 := by kernel_rfl
  a37 := fun w => by kernel_rfl
  z37 := fun w => by kernel_rfl
  v37 := fun w => by kernel_rfl
  t70 := by kernel_rfl
  a70 := fun w => by kernel_rfl
  z70 := fun w => by kernel_rfl
  v70 := fun w => by kernel_rfl
  t72 := by kernel_rfl
  a72 := fun w => by kernel_rfl
  z72 := fun w => by kernel_rfl
  v72 := fun w => by kernel_rfl
  t75 := by kernel_rfl
  a75 := fun w => by kernel_rfl
  z75 := fun w => by kernel_rfl
  v75 := fun w => by kernel_rfl
  t76 := by kernel_rfl
  a76 := fun w => by kernel_rfl
  z76 := fun w => by kernel_rfl
  v76 := fun w => by kernel_rfl
  t127 := by kernel_rfl
  a127 := fun w => by kernel_rfl
  z127 := fun w => by kernel_rfl
  v127 := fun w => by kernel_rfl
  t164 := by kernel_rfl
  a164 := fun w => by kernel_rfl
  z164 := fun w => by kernel_rfl
  v164 := fun w => by kernel_rfl
theorem Try.extraJoin : Builder.Extra Try.prog Try.layJoin_ren where
  sizeBuilder := by kernel_rfl
  liesBuilder := by kernel_rfl
  t5 := by kernel_rfl
  a5 := fun w => by kernel_rfl
  z5 := fun w => by kernel_rfl
  v5 := fun w => by kernel_rfl
  infoByte := by kernel_rfl
  cellsByte := by kernel_rfl
  sizeByte := by kernel_rfl
  neB5 := by decide
end Go.Proofs
