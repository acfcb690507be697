/- Functions of the library, found in the seat's program. -/
import Derived.Test.YtdkcdkjdljflbaaDoorSymX
import Derived.KernelRfl
import Derived.Test.YtdkcdkjdljflbaaDoorSymItoa
namespace Go.Proofs
open Go.Shelf Go.RowKit Go.Lib
set_option linter.unusedVariables false
set_option linter.unusedSimpArgs false
set_option maxRecDepth 100000
def Tryd.layJoin_ren : Go.Shelf.Ren where
  f := fun x => match x with
    | 156 => 84
    | 165 => 102
    | 166 => 103
    | 169 => 104
    | 240 => 112
    | 241 => 113
    | 276 => 124
    | 277 => 125
    | n => n
  t := fun x => match x with
    | 31 => 74
    | 9 => 9
    | 3 => 3
    | 4 => 4
    | 0 => 0
    | 20 => 20
    | 72 => 103
    | 76 => 107
    | 70 => 101
    | 37 => 22
    | 75 => 106
    | 127 => 117
    | 164 => 123
    | 5 => 5
    | 80 => 109
    | n => n
  g := fun n => n
theorem Tryd.layJoin : Lays.n156 Tryd.prog Tryd.layJoin_ren where
  mixed := by kernel_rfl
  f156 := Tryd.func84.trans (congrArg some rfl)
  f165 := Tryd.func102.trans (congrArg some rfl)
  f166 := Tryd.func103.trans (congrArg some rfl)
  f169 := Tryd.func104.trans (congrArg some rfl)
  f240 := Tryd.func112.trans (congrArg some rfl)
  f241 := Tryd.func113.trans (congrArg some rfl)
  f276 := Tryd.func124.trans (congrArg some rfl)
  f277 := Tryd.func125.trans (congrArg some rfl)
  t0 := by kernel_rfl
  a0 := fun w => by kernel_rfl
  z0 := fun w => by kernel_rfl
  v0 := fun w => by kernel_rfl
  t3 := by kernel_rfl
  a3 := fun w => by kernel_rfl
  z3 := fun w => by kernel_rfl
  v3 := fun w => by kernel_rfl
  t4 := by kernel_rfl
  a4 := fun w => by kernel_rfl
  z4 := fun w => by kernel_rfl
  v4 := fun w => by kernel_rfl
  t9 := by kernel_rfl
  a9 := fun w => by kernel_rfl
  z9 := fun w => by kernel_rfl
  v9 := fun w => by kernel_rfl
  t20 := by kernel_rfl
  a20 := fun w => by kernel_rfl
  z20 := fun w => by kernel_rfl
  v20 := fun w => by kernel_rfl
  t31 := by kernel_rfl
  a31 := fun w => by kernel_rfl
  z31 := fun w => by kernel_rfl
  v31 := fun w => by kernel_rfl
  t37 := by kernel_rfl
  a37 := fun w => by kernel_rfl
  z37 := fun w => by kernel_rfl
  v37 := fun w => by kernel_rfl
  t70 := by kernel_rfl
  a70 := fun w => by kernel_rfl
  z70 := fun w => by kernel_rfl
  v70 := fun w => by kernel_rfl
  t72 := by kernel_rfl
  a72 := fun w => by kernel_rfl
  z72 := fun w => by kernel_rfl
  v72 := fun w => by kernel_rfl
  t75 := by kernel_rfl
  a75 := fun w => by kernel_rfl
  z75 := fun w => by kernel_rfl
  v75 := fun w => by kernel_rfl
  t76 := by kernel_rfl
  a76 := fun w => by kernel_rfl
  z76 := fun w => by kernel_rfl
  v76 := fun w => by kernel_rfl
  t127 := by kernel_rfl
  a127 := fun w => by kernel_rfl
  z127 := fun w => by kernel_rfl
  v127 := fun w => by kernel_rfl
  t164 := by kernel_rfl
  a164 := fun w => by kernel_rfl
  z164 := fun w => by kernel_rfl
  v164 := fun w => by kernel_rfl
def Tryd.layItoa_ren : Go.Shelf.Ren where
  f := fun x => match x with
    | 171 => 83
    | 243 => 101
    | 246 => 111
    | 283 => 120
    | 284 => 121
    | 285 => 122
    | 286 => 123
    | 129 => 131
    | 317 => 130
    | 318 => 132
    | 319 => 133
    | 320 => 128
    | 337 => 143
    | 338 => 144
    | n => n
  t := fun x => match x with
    | 3 => 3
    | 9 => 9
    | 2 => 2
    | 4 => 4
    | 171 => 119
    | 0 => 0
    | 53 => 115
    | 37 => 22
    | 5 => 5
    | 173 => 121
    | 212 => 127
    | 51 => 113
    | 20 => 20
    | 213 => 128
    | 46 => 61
    | 232 => 142
    | 233 => 143
    | n => n
  g := fun x => match x with
    | 17 => 0
    | 18 => 2
    | 19 => 3
    | n => n
theorem Tryd.layItoa : LaysM.n171 Tryd.prog Tryd.layItoa_ren where
  mixed := by kernel_rfl
  f129 := Tryd.func131.trans (congrArg some rfl)
  f171 := Tryd.func83.trans (congrArg some rfl)
  f243 := Tryd.func101.trans (congrArg some rfl)
  f246 := Tryd.func111.trans (congrArg some rfl)
  f283 := Tryd.func120.trans (congrArg some rfl)
  f284 := Tryd.func121.trans (congrArg some rfl)
  f285 := Tryd.func122.trans (congrArg some rfl)
  f286 := Tryd.func123.trans (congrArg some rfl)
  f317 := Tryd.func130.trans (congrArg some rfl)
  f318 := Tryd.func132.trans (congrArg some rfl)
  f319 := Tryd.func133.trans (congrArg some rfl)
  f320 := Tryd.func128.trans (congrArg some rfl)
  f337 := Tryd.func143.trans (congrArg some rfl)
  f338 := Tryd.func144.trans (congrArg some rfl)
  t0 := by kernel_rfl
  a0 := fun w => by kernel_rfl
  z0 := fun w => by kernel_rfl
  v0 := fun w => by kernel_rfl
  t2 := by kernel_rfl
  a2 := fun w => by kernel_rfl
  z2 := fun w => by kernel_rfl
  v2 := fun w => by kernel_rfl
  t3 := by kernel_rfl
  a3 := fun w => by kernel_rfl
  z3 := fun w => by kernel_rfl
  v3 := fun w => by kernel_rfl
  t4 := by kernel_rfl
  a4 := fun w => by kernel_rfl
  z4 := fun w => by kernel_rfl
  v4 := fun w => by kernel_rfl
  t5 := by kernel_rfl
  a5 := fun w => by kernel_rfl
  z5 := fun w => by kernel_rfl
  v5 := fun w => by kernel_rfl
  t9 := by kernel_rfl
  a9 := fun w => by kernel_rfl
  z9 := fun w => by kernel_rfl
  v9 := fun w => by kernel_rfl
  t20 := by kernel_rfl
  a20 := fun w => by kernel_rfl
  z20 := fun w => by kernel_rfl
  v20 := fun w => by kernel_rfl
  t37 := by kernel_rfl
  a37 := fun w => by kernel_rfl
  z37 := fun w => by kernel_rfl
  v37 := fun w => by kernel_rfl
  t46 := by kernel_rfl
  a46 := fun w => by kernel_rfl
  z46 := fun w => by kernel_rfl
  v46 := fun w => by kernel_rfl
  t51 := by kernel_rfl
  a51 := fun w => by kernel_rfl
  z51 := fun w => by kernel_rfl
  v51 := fun w => by kernel_rfl
  t53 := by kernel_rfl
  a53 := fun w => by kernel_rfl
  z53 := fun w => by kernel_rfl
  v53 := fun w => by kernel_rfl
  t171 := by kernel_rfl
  a171 := fun w => by kernel_rfl
  z171 := fun w => by kernel_rfl
  v171 := fun w => by kernel_rfl
  t173 := by kernel_rfl
  a173 := fun w => by kernel_rfl
  z173 := fun w => by kernel_rfl
  v173 := fun w => by kernel_rfl
  t212 := by kernel_rfl
  a212 := fun w => by kernel_rfl
  z212 := fun w => by kernel_rfl
  v212 := fun w => by kernel_rfl
  t213 := by kernel_rfl
  a213 := fun w => by kernel_rfl
  z213 := fun w => by kernel_rfl
  t232 := by kernel_rfl
  a232 := fun w => by kernel_rfl
  z232 := fun w => by kernel_rfl
  v232 := fun w => by kernel_rfl
  t233 := by kernel_rfl
  a233 := fun w => by kernel_rfl
  z233 := fun w => by kernel_rfl
  v233 := fun w => by kernel_rfl
  g17 := by kernel_rfl
  g18 := by kernel_rfl
  g19 := by kernel_rfl
  i0 := by kernel_rfl
  i2 := by kernel_rfl
  i3 := by kernel_rfl
  i4 := by kernel_rfl
  i5 := by kernel_rfl
  i9 := by kernel_rfl
  i20 := by kernel_rfl
  i37 := by kernel_rfl
  i46 := by kernel_rfl
  i51 := by kernel_rfl
  i53 := by kernel_rfl
  i171 := by kernel_rfl
  i173 := by kernel_rfl
  i212 := by kernel_rfl
  i232 := by kernel_rfl
  i233 := by kernel_rfl
  m17 := by kernel_rfl
  m18 := by kernel_rfl
  m19 := by kernel_rfl
theorem Tryd.extraJoin : Builder.Extra Tryd.prog Tryd.layJoin_ren where
  sizeBuilder := by kernel_rfl
  liesBuilder := by kernel_rfl
  t5 := by kernel_rfl
  a5 := fun w => by kernel_rfl
  z5 := fun w => by kernel_rfl
  v5 := fun w => by kernel_rfl
  infoByte := by kernel_rfl
  cellsByte := by kernel_rfl
  sizeByte := by kernel_rfl
  neB5 := by decide
end Go.Proofs
