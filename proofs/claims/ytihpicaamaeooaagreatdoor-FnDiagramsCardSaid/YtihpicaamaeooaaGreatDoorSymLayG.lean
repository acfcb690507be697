/- Functions of the library, found in the seat's program. -/
import Derived.Test.YtihpicaamaeooaaGreatDoorSymXG
import Derived.KernelRfl
import Derived.Test.YtihpicaamaeooaaGreatDoorSymSort2
import Derived.Test.YtihpicaamaeooaaGreatDoorSymJoin
import Derived.Test.YtihpicaamaeooaaGreatDoorSymItoa
import Derived.Shelf.SlLaysF
import Derived.Shelf.SlLaysF0
namespace Go.Proofs
open Go.Shelf Go.RowKit Go.Lib
set_option linter.unusedVariables false
set_option linter.unusedSimpArgs false
set_option maxRecDepth 100000
def Tryz.sortLay_ren : Go.Shelf.Ren where
  f := fun x => match x with
    | 6 => 137
    | 15 => 147
    | 14 => 146
    | 28 => 165
    | 29 => 166
    | 20 => 157
    | 21 => 158
    | 22 => 159
    | 23 => 160
    | 24 => 161
    | 25 => 162
    | 26 => 163
    | 27 => 164
    | 46 => 172
    | 47 => 173
    | 48 => 174
    | 49 => 175
    | 50 => 176
    | 57 => 177
    | n => n
  t := fun x => match x with
    | 22 => 24
    | 24 => 3
    | 25 => 124
    | 3 => 3
    | 39 => 95
    | 0 => 0
    | 53 => 146
    | 55 => 130
    | 4 => 4
    | 46 => 140
    | 45 => 139
    | 50 => 78
    | 5 => 5
    | 9 => 9
    | 66 => 150
    | 70 => 154
    | 76 => 158
    | 77 => 159
    | n => n
  g := fun n => n
theorem Tryz.sortLay : SlLaysF.n6 Tryz.prog Tryz.sortLay_ren where
  mixed := by kernel_rfl
  f6 := ⟨_, of_decide_eq_true rfl, Tryz.func137.trans (congrArg some rfl)⟩
  f14 := ⟨_, of_decide_eq_true rfl, Tryz.func146.trans (congrArg some rfl)⟩
  f15 := Tryz.func147.trans (congrArg some rfl)
  f20 := ⟨_, of_decide_eq_true rfl, Tryz.func157.trans (congrArg some rfl)⟩
  f21 := ⟨_, of_decide_eq_true rfl, Tryz.func158.trans (congrArg some rfl)⟩
  f22 := ⟨_, of_decide_eq_true rfl, Tryz.func159.trans (congrArg some rfl)⟩
  f23 := ⟨_, of_decide_eq_true rfl, Tryz.func160.trans (congrArg some rfl)⟩
  f24 := ⟨_, of_decide_eq_true rfl, Tryz.func161.trans (congrArg some rfl)⟩
  f25 := ⟨_, of_decide_eq_true rfl, Tryz.func162.trans (congrArg some rfl)⟩
  f26 := ⟨_, of_decide_eq_true rfl, Tryz.func163.trans (congrArg some rfl)⟩
  f27 := ⟨_, of_decide_eq_true rfl, Tryz.func164.trans (congrArg some rfl)⟩
  f28 := Tryz.func165.trans (congrArg some rfl)
  f29 := Tryz.func166.trans (congrArg some rfl)
  f46 := ⟨_, of_decide_eq_true rfl, Tryz.func172.trans (congrArg some rfl)⟩
  f47 := Tryz.func173.trans (congrArg some rfl)
  f48 := Tryz.func174.trans (congrArg some rfl)
  f49 := ⟨_, of_decide_eq_true rfl, Tryz.func175.trans (congrArg some rfl)⟩
  f50 := ⟨_, of_decide_eq_true rfl, Tryz.func176.trans (congrArg some rfl)⟩
  f57 := ⟨_, of_decide_eq_true rfl, Tryz.func177.trans (congrArg some rfl)⟩
  t0 := by kernel_rfl
  a0 := fun w => by kernel_rfl
  z0 := fun w => by kernel_rfl
  v0 := fun w => by kernel_rfl
  t3 := by kernel_rfl
  a3 := fun w => by kernel_rfl
  z3 := fun w => by kernel_rfl
  v3 := fun w => by kernel_rfl
  t4 := by kernel_rfl
  a4 := fun w => by kernel_rfl
  z4 := fun w => by kernel_rfl
  v4 := fun w => by kernel_rfl
  t5 := by kernel_rfl
  a5 := fun w => by kernel_rfl
  z5 := fun w => by kernel_rfl
  v5 := fun w => by kernel_rfl
  t9 := by kernel_rfl
  a9 := fun w => by kernel_rfl
  z9 := fun w => by kernel_rfl
  v9 := fun w => by kernel_rfl
  t22 := by kernel_rfl
  a22 := fun w => by kernel_rfl
  z22 := fun w => by kernel_rfl
  v22 := fun w => by kernel_rfl
  a24 := fun w => by kernel_rfl
  z24 := fun w => by kernel_rfl
  t25 := by kernel_rfl
  a25 := fun w => by kernel_rfl
  z25 := fun w => by kernel_rfl
  v25 := fun w => by kernel_rfl
  t39 := by kernel_rfl
  a39 := fun w => by kernel_rfl
  z39 := fun w => by kernel_rfl
  v39 := fun w => by kernel_rfl
  t45 := by kernel_rfl
  a45 := fun w => by kernel_rfl
  z45 := fun w => by kernel_rfl
  v45 := fun w => by kernel_rfl
  t46 := by kernel_rfl
  a46 := fun w => by kernel_rfl
  z46 := fun w => by kernel_rfl
  v46 := fun w => by kernel_rfl
  t50 := by kernel_rfl
  a50 := fun w => by kernel_rfl
  z50 := fun w => by kernel_rfl
  v50 := fun w => by kernel_rfl
  t53 := by kernel_rfl
  a53 := fun w => by kernel_rfl
  z53 := fun w => by kernel_rfl
  v53 := fun w => by kernel_rfl
  t55 := by kernel_rfl
  a55 := fun w => by kernel_rfl
  z55 := fun w => by kernel_rfl
  v55 := fun w => by kernel_rfl
  t66 := by kernel_rfl
  a66 := fun w => by kernel_rfl
  z66 := fun w => by kernel_rfl
  v66 := fun w => by kernel_rfl
  t70 := by kernel_rfl
  a70 := fun w => by kernel_rfl
  z70 := fun w => by kernel_rfl
  v70 := fun w => by kernel_rfl
  t76 := by kernel_rfl
  a76 := fun w => by kernel_rfl
  z76 := fun w => by kernel_rfl
  v76 := fun w => by kernel_rfl
  t77 := by kernel_rfl
  a77 := fun w => by kernel_rfl
  z77 := fun w => by kernel_rfl
  v77 := fun w => by kernel_rfl
def Tryz.sortLay0_ren : Go.Shelf.Ren where
  f := fun x => match x with
    | 6 => 137
    | 15 => 147
    | 14 => 146
    | 28 => 165
    | 29 => 166
    | 20 => 157
    | 21 => 158
    | 22 => 159
    | 23 => 160
    | 24 => 161
    | 25 => 162
    | 26 => 163
    | 27 => 164
    | 46 => 172
    | 47 => 173
    | 48 => 174
    | 49 => 175
    | 50 => 176
    | 57 => 177
    | n => n
  t := fun x => match x with
    | 22 => 24
    | 24 => 3
    | 25 => 124
    | 3 => 3
    | 39 => 95
    | 0 => 0
    | 53 => 146
    | 55 => 130
    | 4 => 4
    | 46 => 140
    | 45 => 139
    | 50 => 78
    | 5 => 5
    | 9 => 9
    | 66 => 150
    | 70 => 154
    | 76 => 158
    | 77 => 159
    | n => n
  g := fun n => n
theorem Tryz.sortLay0 : SlLaysF0.n6 Tryz.prog Tryz.sortLay0_ren where
  mixed := by kernel_rfl
  f6 := ⟨_, of_decide_eq_true rfl, Tryz.func137.trans (congrArg some rfl)⟩
  f14 := ⟨_, of_decide_eq_true rfl, Tryz.func146.trans (congrArg some rfl)⟩
  f15 := Tryz.func147.trans (congrArg some rfl)
  f20 := ⟨_, of_decide_eq_true rfl, Tryz.func157.trans (congrArg some rfl)⟩
  f21 := ⟨_, of_decide_eq_true rfl, Tryz.func158.trans (congrArg some rfl)⟩
  f22 := ⟨_, of_decide_eq_true rfl, Tryz.func159.trans (congrArg some rfl)⟩
  f23 := ⟨_, of_decide_eq_true rfl, Tryz.func160.trans (congrArg some rfl)⟩
  f24 := ⟨_, of_decide_eq_true rfl, Tryz.func161.trans (congrArg some rfl)⟩
  f25 := ⟨_, of_decide_eq_true rfl, Tryz.func162.trans (congrArg some rfl)⟩
  f26 := ⟨_, of_decide_eq_true rfl, Tryz.func163.trans (congrArg some rfl)⟩
  f27 := ⟨_, of_decide_eq_true rfl, Tryz.func164.trans (congrArg some rfl)⟩
  f28 := Tryz.func165.trans (congrArg some rfl)
  f29 := Tryz.func166.trans (congrArg some rfl)
  f46 := ⟨_, of_decide_eq_true rfl, Tryz.func172.trans (congrArg some rfl)⟩
  f47 := Tryz.func173.trans (congrArg some rfl)
  f48 := Tryz.func174.trans (congrArg some rfl)
  f49 := ⟨_, of_decide_eq_true rfl, Tryz.func175.trans (congrArg some rfl)⟩
  f50 := ⟨_, of_decide_eq_true rfl, Tryz.func176.trans (congrArg some rfl)⟩
  f57 := ⟨_, of_decide_eq_true rfl, Tryz.func177.trans (congrArg some rfl)⟩
  t0 := by kernel_rfl
  a0 := fun w => by kernel_rfl
  z0 := fun w => by kernel_rfl
  v0 := fun w => by kernel_rfl
  t3 := by kernel_rfl
  a3 := fun w => by kernel_rfl
  z3 := fun w => by kernel_rfl
  v3 := fun w => by kernel_rfl
  t4 := by kernel_rfl
  a4 := fun w => by kernel_rfl
  z4 := fun w => by kernel_rfl
  v4 := fun w => by kernel_rfl
  t5 := by kernel_rfl
  a5 := fun w => by kernel_rfl
  z5 := fun w => by kernel_rfl
  v5 := fun w => by kernel_rfl
  t9 := by kernel_rfl
  a9 := fun w => by kernel_rfl
  z9 := fun w => by kernel_rfl
  v9 := fun w => by kernel_rfl
  t22 := by kernel_rfl
  a22 := fun w => by kernel_rfl
  z22 := fun w => by kernel_rfl
  v22 := fun w => by kernel_rfl
  t25 := by kernel_rfl
  a25 := fun w => by kernel_rfl
  z25 := fun w => by kernel_rfl
  v25 := fun w => by kernel_rfl
  t39 := by kernel_rfl
  a39 := fun w => by kernel_rfl
  z39 := fun w => by kernel_rfl
  v39 := fun w => by kernel_rfl
  t45 := by kernel_rfl
  a45 := fun w => by kernel_rfl
  z45 := fun w => by kernel_rfl
  v45 := fun w => by kernel_rfl
  t46 := by kernel_rfl
  a46 := fun w => by kernel_rfl
  z46 := fun w => by kernel_rfl
  v46 := fun w => by kernel_rfl
  t50 := by kernel_rfl
  a50 := fun w => by kernel_rfl
  z50 := fun w => by kernel_rfl
  v50 := fun w => by kernel_rfl
  t53 := by kernel_rfl
  a53 := fun w => by kernel_rfl
  z53 := fun w => by kernel_rfl
  v53 := fun w => by kernel_rfl
  t55 := by kernel_rfl
  a55 := fun w => by kernel_rfl
  z55 := fun w => by kernel_rfl
  v55 := fun w => by kernel_rfl
  t66 := by kernel_rfl
  a66 := fun w => by kernel_rfl
  z66 := fun w => by kernel_rfl
  v66 := fun w => by kernel_rfl
  t70 := by kernel_rfl
  a70 := fun w => by kernel_rfl
  z70 := fun w => by kernel_rfl
  v70 := fun w => by kernel_rfl
  t76 := by kernel_rfl
  a76 := fun w => by kernel_rfl
  z76 := fun w => by kernel_rfl
  v76 := fun w => by kernel_rfl
  t77 := by kernel_rfl
  a77 := fun w => by kernel_rfl
  z77 := fun w => by kernel_rfl
  v77 := fun w => by kernel_rfl
def Tryz.layJoin_ren : Go.Shelf.Ren where
  f := fun x => match x with
    | 156 => 116
    | 165 => 132
    | 166 => 133
    | 169 => 134
    | 240 => 144
    | 241 => 145
    | 276 => 155
    | 277 => 156
    | n => n
  t := fun x => match x with
    | 31 => 57
    | 9 => 9
    | 3 => 3
    | 4 => 4
    | 0 => 0
    | 20 => 20
    | 72 => 116
    | 76 => 120
    | 70 => 114
    | 37 => 22
    | 75 => 119
    | 127 => 126
    | 164 => 135
    | 5 => 5
    | 80 => 122
    | n => n
  g := fun n => n
theorem Tryz.layJoin : Lays.n156 Tryz.prog Tryz.layJoin_ren where
  mixed := by kernel_rfl
  f156 := Tryz.func116.trans (congrArg some rfl)
  f165 := Tryz.func132.trans (congrArg some rfl)
  f166 := Tryz.func133.trans (congrArg some rfl)
  f169 := Tryz.func134.trans (congrArg some rfl)
  f240 := Tryz.func144.trans (congrArg some rfl)
  f241 := Tryz.func145.trans (congrArg some rfl)
  f276 := Tryz.func155.trans (congrArg some rfl)
  f277 := Tryz.func156.trans (congrArg some rfl)
  t0 := by kernel_rfl
  a0 := fun w => by kernel_rfl
  z0 := fun w => by kernel_rfl
  v0 := fun w => by kernel_rfl
  t3 := by kernel_rfl
  a3 := fun w => by kernel_rfl
  z3 := fun w => by kernel_rfl
  v3 := fun w => by kernel_rfl
  t4 := by kernel_rfl
  a4 := fun w => by kernel_rfl
  z4 := fun w => by kernel_rfl
  v4 := fun w => by kernel_rfl
  t9 := by kernel_rfl
  a9 := fun w => by kernel_rfl
  z9 := fun w => by kernel_rfl
  v9 := fun w => by kernel_rfl
  t20 := by kernel_rfl
  a20 := fun w => by kernel_rfl
  z20 := fun w => by kernel_rfl
  v20 := fun w => by kernel_rfl
  t31 := by kernel_rfl
  a31 := fun w => by kernel_rfl
  z31 := fun w => by kernel_rfl
  v31 := fun w => by kernel_rfl
  t37 := by kernel_rfl
  a37 := fun w => by kernel_rfl
  z37 := fun w => by kernel_rfl
  v37 := fun w => by kernel_rfl
  t70 := by kernel_rfl
  a70 := fun w => by kernel_rfl
  z70 := fun w => by kernel_rfl
  v70 := fun w => by kernel_rfl
  t72 := by kernel_rfl
  a72 := fun w => by kernel_rfl
  z72 := fun w => by kernel_rfl
  v72 := fun w => by kernel_rfl
  t75 := by kernel_rfl
  a75 := fun w => by kernel_rfl
  z75 := fun w => by kernel_rfl
  v75 := fun w => by kernel_rfl
  t76 := by kernel_rfl
  a76 := fun w => by kernel_rfl
  z76 := fun w => by kernel_rfl
  v76 := fun w => by kernel_rfl
  t127 := by kernel_rfl
  a127 := fun w => by kernel_rfl
  z127 := fun w => by kernel_rfl
  v127 := fun w => by kernel_rfl
  t164 := by kernel_rfl
  a164 := fun w => by kernel_rfl
  z164 := fun w => by kernel_rfl
  v164 := fun w => by kernel_rfl
def Tryz.layItoa_ren : Go.Shelf.Ren where
  f := fun x => match x with
    | 171 => 115
    | 243 => 131
    | 246 => 143
    | 283 => 151
    | 284 => 152
    | 285 => 153
    | 286 => 154
    | 129 => 166
    | 317 => 169
    | 318 => 170
    | 319 => 171
    | 320 => 148
    | 337 => 167
    | 338 => 168
    | n => n
  t := fun x => match x with
    | 3 => 3
    | 9 => 9
    | 2 => 2
    | 4 => 4
    | 171 => 129
    | 0 => 0
    | 53 => 130
    | 37 => 22
    | 5 => 5
    | 173 => 133
    | 212 => 148
    | 51 => 146
    | 20 => 20
    | 213 => 149
    | 46 => 95
    | 232 => 156
    | 233 => 157
    | n => n
  g := fun x => match x with
    | 17 => 0
    | 18 => 2
    | 19 => 3
    | n => n
theorem Tryz.layItoa : LaysM.n171 Tryz.prog Tryz.layItoa_ren where
  mixed := by kernel_rfl
  f129 := Tryz.func166.trans (congrArg some rfl)
  f171 := Tryz.func115.trans (congrArg some rfl)
  f243 := Tryz.func131.trans (congrArg some rfl)
  f246 := Tryz.func143.trans (congrArg some rfl)
  f283 := Tryz.func151.trans (congrArg some rfl)
  f284 := Tryz.func152.trans (congrArg some rfl)
  f285 := Tryz.func153.trans (congrArg some rfl)
  f286 := Tryz.func154.trans (congrArg some rfl)
  f317 := Tryz.func169.trans (congrArg some rfl)
  f318 := Tryz.func170.trans (congrArg some rfl)
  f319 := Tryz.func171.trans (congrArg some rfl)
  f320 := Tryz.func148.trans (congrArg some rfl)
  f337 := Tryz.func167.trans (congrArg some rfl)
  f338 := Tryz.func168.trans (congrArg some rfl)
  t0 := by kernel_rfl
  a0 := fun w => by kernel_rfl
  z0 := fun w => by kernel_rfl
  v0 := fun w => by kernel_rfl
  t2 := by kernel_rfl
  a2 := fun w => by kernel_rfl
  z2 := fun w => by kernel_rfl
  v2 := fun w => by kernel_rfl
  t3 := by kernel_rfl
  a3 := fun w => by kernel_rfl
  z3 := fun w => by kernel_rfl
  v3 := fun w => by kernel_rfl
  t4 := by kernel_rfl
  a4 := fun w => by kernel_rfl
  z4 := fun w => by kernel_rfl
  v4 := fun w => by kernel_rfl
  t5 := by kernel_rfl
  a5 := fun w => by kernel_rfl
  z5 := fun w => by kernel_rfl
  v5 := fun w => by kernel_rfl
  t9 := by kernel_rfl
  a9 := fun w => by kernel_rfl
  z9 := fun w => by kernel_rfl
  v9 := fun w => by kernel_rfl
  t20 := by kernel_rfl
  a20 := fun w => by kernel_rfl
  z20 := fun w => by kernel_rfl
  v20 := fun w => by kernel_rfl
  t37 := by kernel_rfl
  a37 := fun w => by kernel_rfl
  z37 := fun w => by kernel_rfl
  v37 := fun w => by kernel_rfl
  t46 := by kernel_rfl
  a46 := fun w => by kernel_rfl
  z46 := fun w => by kernel_rfl
  v46 := fun w => by kernel_rfl
  t51 := by kernel_rfl
  a51 := fun w => by kernel_rfl
  z51 := fun w => by kernel_rfl
  v51 := fun w => by kernel_rfl
  t53 := by kernel_rfl
  a53 := fun w => by kernel_rfl
  z53 := fun w => by kernel_rfl
  v53 := fun w => by kernel_rfl
  t171 := by kernel_rfl
  a171 := fun w => by kernel_rfl
  z171 := fun w => by kernel_rfl
  v171 := fun w => by kernel_rfl
  t173 := by kernel_rfl
  a173 := fun w => by kernel_rfl
  z173 := fun w => by kernel_rfl
  v173 := fun w => by kernel_rfl
  t212 := by kernel_rfl
  a212 := fun w => by kernel_rfl
  z212 := fun w => by kernel_rfl
  v212 := fun w => by kernel_rfl
  t213 := by kernel_rfl
  a213 := fun w => by kernel_rfl
  z213 := fun w => by kernel_rfl
  t232 := by kernel_rfl
  a232 := fun w => by kernel_rfl
  z232 := fun w => by kernel_rfl
  v232 := fun w => by kernel_rfl
  t233 := by kernel_rfl
  a233 := fun w => by kernel_rfl
  z233 := fun w => by kernel_rfl
  v233 := fun w => by kernel_rfl
  g17 := by kernel_rfl
  g18 := by kernel_rfl
  g19 := by kernel_rfl
  i0 := by kernel_rfl
  i2 := by kernel_rfl
  i3 := by kernel_rfl
  i4 := by kernel_rfl
  i5 := by kernel_rfl
  i9 := by kernel_rfl
  i20 := by kernel_rfl
  i37 := by kernel_rfl
  i46 := by kernel_rfl
  i51 := by kernel_rfl
  i53 := by kernel_rfl
  i171 := by kernel_rfl
  i173 := by kernel_rfl
  i212 := by kernel_rfl
  i232 := by kernel_rfl
  i233 := by kernel_rfl
  m17 := by kernel_rfl
  m18 := by kernel_rfl
  m19 := by kernel_rfl
theorem Tryz.extraJoin : Builder.Extra Tryz.prog Tryz.layJoin_ren where
  sizeBuilder := by kernel_rfl
  liesBuilder := by kernel_rfl
  t5 := by kernel_rfl
  a5 := fun w => by kernel_rfl
  z5 := fun w => by kernel_rfl
  v5 := fun w => by kernel_rfl
  infoByte := by kernel_rfl
  cellsByte := by kernel_rfl
  sizeByte := by kernel_rfl
  neB5 := by decide
end Go.Proofs
