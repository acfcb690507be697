/- Functions of the library, found in the seat's program. -/
import Derived.Test.YtonbmmjagdbgaaaGreatDoorSymXH
import Derived.KernelRfl
import Derived.Test.YtonbmmjagdbgaaaGreatDoorSymSort2
import Derived.Test.YtonbmmjagdbgaaaGreatDoorSymJoin
import Derived.Test.YtonbmmjagdbgaaaGreatDoorSymItoa
import Derived.Test.YtonbmmjagdbgaaaGreatDoorSymCut
import Derived.Shelf.SlLaysF
import Derived.Shelf.SlLaysF0
namespace Go.Proofs
open Go.Shelf Go.RowKit Go.Lib
set_option linter.unusedVariables false
set_option linter.unusedSimpArgs false
set_option maxRecDepth 100000
def Tryz.sortLay_ren : Go.Shelf.Ren where
  f := fun x => match x with
    | 6 => 196
    | 15 => 110
    | 14 => 229
    | 28 => 166
    | 29 => 167
    | 20 => 253
    | 21 => 254
    | 22 => 255
    | 23 => 256
    | 24 => 257
    | 25 => 258
    | 26 => 259
    | 27 => 260
    | 46 => 279
    | 47 => 203
    | 48 => 204
    | 49 => 280
    | 50 => 281
    | 57 => 287
    | n => n
  t := fun x => match x with
    | 22 => 24
    | 24 => 3
    | 25 => 97
    | 3 => 3
    | 39 => 67
    | 0 => 0
    | 53 => 124
    | 55 => 126
    | 4 => 4
    | 46 => 118
    | 45 => 117
    | 50 => 77
    | 5 => 5
    | 9 => 9
    | 66 => 151
    | 70 => 155
    | 76 => 164
    | 77 => 165
    | n => n
  g := fun n => n
theorem Tryz.sortLay : SlLaysF.n6 Tryz.prog Tryz.sortLay_ren where
  mixed := by kernel_rfl
  f6 := ⟨_, of_decide_eq_true rfl, Tryz.func196.trans (congrArg some rfl)⟩
  f14 := ⟨_, of_decide_eq_true rfl, Tryz.func229.trans (congrArg some rfl)⟩
  f15 := Tryz.func110.trans (congrArg some rfl)
  f20 := ⟨_, of_decide_eq_true rfl, Tryz.func253.trans (congrArg some rfl)⟩
  f21 := ⟨_, of_decide_eq_true rfl, Tryz.func254.trans (congrArg some rfl)⟩
  f22 := ⟨_, of_decide_eq_true rfl, Tryz.func255.trans (congrArg some rfl)⟩
  f23 := ⟨_, of_decide_eq_true rfl, Tryz.func256.trans (congrArg some rfl)⟩
  f24 := ⟨_, of_decide_eq_true rfl, Tryz.func257.trans (congrArg some rfl)⟩
  f25 := ⟨_, of_decide_eq_true rfl, Tryz.func258.trans (congrArg some rfl)⟩
  f26 := ⟨_, of_decide_eq_true rfl, Tryz.func259.trans (congrArg some rfl)⟩
  f27 := ⟨_, of_decide_eq_true rfl, Tryz.func260.trans (congrArg some rfl)⟩
  f28 := Tryz.func166.trans (congrArg some rfl)
  f29 := Tryz.func167.trans (congrArg some rfl)
  f46 := ⟨_, of_decide_eq_true rfl, Tryz.func279.trans (congrArg some rfl)⟩
  f47 := Tryz.func203.trans (congrArg some rfl)
  f48 := Tryz.func204.trans (congrArg some rfl)
  f49 := ⟨_, of_decide_eq_true rfl, Tryz.func280.trans (congrArg some rfl)⟩
  f50 := ⟨_, of_decide_eq_true rfl, Tryz.func281.trans (congrArg some rfl)⟩
  f57 := ⟨_, of_decide_eq_true rfl, Tryz.func287.trans (congrArg some rfl)⟩
  t0 := by kernel_rfl
  a0 := fun w => by kernel_rfl
  z0 := fun w => by kernel_rfl
  v0 := fun w => by kernel_rfl
  t3 := by kernel_rfl
  a3 := fun w => by kernel_rfl
  z3 := fun w => by kernel_rfl
  v3 := fun w => by kernel_rfl
  t4 := by kernel_rfl
  a4 := fun w => by kernel_rfl
  z4 := fun w => by kernel_rfl
  v4 := fun w => by kernel_rfl
  t5 := by kernel_rfl
  a5 := fun w => by kernel_rfl
  z5 := fun w => by kernel_rfl
  v5 := fun w => by kernel_rfl
  t9 := by kernel_rfl
  a9 := fun w => by kernel_rfl
  z9 := fun w => by kernel_rfl
  v9 := fun w => by kernel_rfl
  t22 := by kernel_rfl
  a22 := fun w => by kernel_rfl
  z22 := fun w => by kernel_rfl
  v22 := fun w => by kernel_rfl
  a24 := fun w => by kernel_rfl
  z24 := fun w => by kernel_rfl
  t25 := by kernel_rfl
  a25 := fun w => by kernel_rfl
  z25 := fun w => by kernel_rfl
  v25 := fun w => by kernel_rfl
  t39 := by kernel_rfl
  a39 := fun w => by kernel_rfl
  z39 := fun w => by kernel_rfl
  v39 := fun w => by kernel_rfl
  t45 := by kernel_rfl
  a45 := fun w => by kernel_rfl
  z45 := fun w => by kernel_rfl
  v45 := fun w => by kernel_rfl
  t46 := by kernel_rfl
  a46 := fun w => by kernel_rfl
  z46 := fun w => by kernel_rfl
  v46 := fun w => by kernel_rfl
  t50 := by kernel_rfl
  a50 := fun w => by kernel_rfl
  z50 := fun w => by kernel_rfl
  v50 := fun w => by kernel_rfl
  t53 := by kernel_rfl
  a53 := fun w => by kernel_rfl
  z53 := fun w => by kernel_rfl
  v53 := fun w => by kernel_rfl
  t55 := by kernel_rfl
  a55 := fun w => by kernel_rfl
  z55 := fun w => by kernel_rfl
  v55 := fun w => by kernel_rfl
  t66 := by kernel_rfl
  a66 := fun w => by kernel_rfl
  z66 := fun w => by kernel_rfl
  v66 := fun w => by kernel_rfl
  t70 := by kernel_rfl
  a70 := fun w => by kernel_rfl
  z70 := fun w => by kernel_rfl
  v70 := fun w => by kernel_rfl
  t76 := by kernel_rfl
  a76 := fun w => by kernel_rfl
  z76 := fun w => by kernel_rfl
  v76 := fun w => by kernel_rfl
  t77 := by kernel_rfl
  a77 := fun w => by kernel_rfl
  z77 := fun w => by kernel_rfl
  v77 := fun w => by kernel_rfl
def Tryz.sortLay0_ren : Go.Shelf.Ren where
  f := fun x => match x with
    | 6 => 196
    | 15 => 110
    | 14 => 229
    | 28 => 166
    | 29 => 167
    | 20 => 253
    | 21 => 254
    | 22 => 255
    | 23 => 256
    | 24 => 257
    | 25 => 258
    | 26 => 259
    | 27 => 260
    | 46 => 279
    | 47 => 203
    | 48 => 204
    | 49 => 280
    | 50 => 281
    | 57 => 287
    | n => n
  t := fun x => match x with
    | 22 => 24
    | 24 => 3
    | 25 => 97
    | 3 => 3
    | 39 => 67
    | 0 => 0
    | 53 => 124
    | 55 => 126
    | 4 => 4
    | 46 => 118
    | 45 => 117
    | 50 => 77
    | 5 => 5
    | 9 => 9
    | 66 => 151
    | 70 => 155
    | 76 => 164
    | 77 => 165
    | n => n
  g := fun n => n
theorem Tryz.sortLay0 : SlLaysF0.n6 Tryz.prog Tryz.sortLay0_ren where
  mixed := by kernel_rfl
  f6 := ⟨_, of_decide_eq_true rfl, Tryz.func196.trans (congrArg some rfl)⟩
  f14 := ⟨_, of_decide_eq_true rfl, Tryz.func229.trans (congrArg some rfl)⟩
  f15 := Tryz.func110.trans (congrArg some rfl)
  f20 := ⟨_, of_decide_eq_true rfl, Tryz.func253.trans (congrArg some rfl)⟩
  f21 := ⟨_, of_decide_eq_true rfl, Tryz.func254.trans (congrArg some rfl)⟩
  f22 := ⟨_, of_decide_eq_true rfl, Tryz.func255.trans (congrArg some rfl)⟩
  f23 := ⟨_, of_decide_eq_true rfl, Tryz.func256.trans (congrArg some rfl)⟩
  f24 := ⟨_, of_decide_eq_true rfl, Tryz.func257.trans (congrArg some rfl)⟩
  f25 := ⟨_, of_decide_eq_true rfl, Tryz.func258.trans (congrArg some rfl)⟩
  f26 := ⟨_, of_decide_eq_true rfl, Tryz.func259.trans (congrArg some rfl)⟩
  f27 := ⟨_, of_decide_eq_true rfl, Tryz.func260.trans (congrArg some rfl)⟩
  f28 := Tryz.func166.trans (congrArg some rfl)
  f29 := Tryz.func167.trans (congrArg some rfl)
  f46 := ⟨_, of_decide_eq_true rfl, Tryz.func279.trans (congrArg some rfl)⟩
  f47 := Tryz.func203.trans (congrArg some rfl)
  f48 := Tryz.func204.trans (congrArg some rfl)
  f49 := ⟨_, of_decide_eq_true rfl, Tryz.func280.trans (congrArg some rfl)⟩
  f50 := ⟨_, of_decide_eq_true rfl, Tryz.func281.trans (congrArg some rfl)⟩
  f57 := ⟨_, of_decide_eq_true rfl, Tryz.func287.trans (congrArg some rfl)⟩
  t0 := by kernel_rfl
  a0 := fun w => by kernel_rfl
  z0 := fun w => by kernel_rfl
  v0 := fun w => by kernel_rfl
  t3 := by kernel_rfl
  a3 := fun w => by kernel_rfl
  z3 := fun w => by kernel_rfl
  v3 := fun w => by kernel_rfl
  t4 := by kernel_rfl
  a4 := fun w => by kernel_rfl
  z4 := fun w => by kernel_rfl
  v4 := fun w => by kernel_rfl
  t5 := by kernel_rfl
  a5 := fun w => by kernel_rfl
  z5 := fun w => by kernel_rfl
  v5 := fun w => by kernel_rfl
  t9 := by kernel_rfl
  a9 := fun w => by kernel_rfl
  z9 := fun w => by kernel_rfl
  v9 := fun w => by kernel_rfl
  t22 := by kernel_rfl
  a22 := fun w => by kernel_rfl
  z22 := fun w => by kernel_rfl
  v22 := fun w => by kernel_rfl
  t25 := by kernel_rfl
  a25 := fun w => by kernel_rfl
  z25 := fun w => by kernel_rfl
  v25 := fun w => by kernel_rfl
  t39 := by kernel_rfl
  a39 := fun w => by kernel_rfl
  z39 := fun w => by kernel_rfl
  v39 := fun w => by kernel_rfl
  t45 := by kernel_rfl
  a45 := fun w => by kernel_rfl
  z45 := fun w => by kernel_rfl
  v45 := fun w => by kernel_rfl
  t46 := by kernel_rfl
  a46 := fun w => by kernel_rfl
  z46 := fun w => by kernel_rfl
  v46 := fun w => by kernel_rfl
  t50 := by kernel_rfl
  a50 := fun w => by kernel_rfl
  z50 := fun w => by kernel_rfl
  v50 := fun w => by kernel_rfl
  t53 := by kernel_rfl
  a53 := fun w => by kernel_rfl
  z53 := fun w => by kernel_rfl
  v53 := fun w => by kernel_rfl
  t55 := by kernel_rfl
  a55 := fun w => by kernel_rfl
  z55 := fun w => by kernel_rfl
  v55 := fun w => by kernel_rfl
  t66 := by kernel_rfl
  a66 := fun w => by kernel_rfl
  z66 := fun w => by kernel_rfl
  v66 := fun w => by kernel_rfl
  t70 := by kernel_rfl
  a70 := fun w => by kernel_rfl
  z70 := fun w => by kernel_rfl
  v70 := fun w => by kernel_rfl
  t76 := by kernel_rfl
  a76 := fun w => by kernel_rfl
  z76 := fun w => by kernel_rfl
  v76 := fun w => by kernel_rfl
  t77 := by kernel_rfl
  a77 := fun w => by kernel_rfl
  z77 := fun w => by kernel_rfl
  v77 := fun w => by kernel_rfl
def Tryz.layJoin_ren : Go.Shelf.Ren where
  f := fun x => match x with
    | 156 => 128
    | 165 => 174
    | 166 => 175
    | 169 => 176
    | 240 => 214
    | 241 => 215
    | 276 => 235
    | 277 => 236
    | n => n
  t := fun x => match x with
    | 31 => 74
    | 9 => 9
    | 3 => 3
    | 4 => 4
    | 0 => 0
    | 20 => 20
    | 72 => 132
    | 76 => 136
    | 70 => 130
    | 37 => 22
    | 75 => 135
    | 127 => 157
    | 164 => 168
    | 5 => 5
    | 80 => 138
    | n => n
  g := fun n => n
theorem Tryz.layJoin : Lays.n156 Tryz.prog Tryz.layJoin_ren where
  mixed := by kernel_rfl
  f156 := Tryz.func128.trans (congrArg some rfl)
  f165 := Tryz.func174.trans (congrArg some rfl)
  f166 := Tryz.func175.trans (congrArg some rfl)
  f169 := Tryz.func176.trans (congrArg some rfl)
  f240 := Tryz.func214.trans (congrArg some rfl)
  f241 := Tryz.func215.trans (congrArg some rfl)
  f276 := Tryz.func235.trans (congrArg some rfl)
  f277 := Tryz.func236.trans (congrArg some rfl)
  t0 := by kernel_rfl
  a0 := fun w => by kernel_rfl
  z0 := fun w => by kernel_rfl
  v0 := fun w => by kernel_rfl
  t3 := by kernel_rfl
  a3 := fun w => by kernel_rfl
  z3 := fun w => by kernel_rfl
  v3 := fun w => by kernel_rfl
  t4 := by kernel_rfl
  a4 := fun w => by kernel_rfl
  z4 := fun w => by kernel_rfl
  v4 := fun w => by kernel_rfl
  t9 := by kernel_rfl
  a9 := fun w => by kernel_rfl
  z9 := fun w => by kernel_rfl
  v9 := fun w => by kernel_rfl
  t20 := by kernel_rfl
  a20 := fun w => by kernel_rfl
  z20 := fun w => by kernel_rfl
  v20 := fun w => by kernel_rfl
  t31 := by kernel_rfl
  a31 := fun w => by kernel_rfl
  z31 := fun w => by kernel_rfl
  v31 := fun w => by kernel_rfl
  t37 := by kernel_rfl
  a37 := fun w => by kernel_rfl
  z37 := fun w => by kernel_rfl
  v37 := fun w => by kernel_rfl
  t70 := by kernel_rfl
  a70 := fun w => by kernel_rfl
  z70 := fun w => by kernel_rfl
  v70 := fun w => by kernel_rfl
  t72 := by kernel_rfl
  a72 := fun w => by kernel_rfl
  z72 := fun w => by kernel_rfl
  v72 := fun w => by kernel_rfl
  t75 := by kernel_rfl
  a75 := fun w => by kernel_rfl
  z75 := fun w => by kernel_rfl
  v75 := fun w => by kernel_rfl
  t76 := by kernel_rfl
  a76 := fun w => by kernel_rfl
  z76 := fun w => by kernel_rfl
  v76 := fun w => by kernel_rfl
  t127 := by kernel_rfl
  a127 := fun w => by kernel_rfl
  z127 := fun w => by kernel_rfl
  v127 := fun w => by kernel_rfl
  t164 := by kernel_rfl
  a164 := fun w => by kernel_rfl
  z164 := fun w => by kernel_rfl
  v164 := fun w => by kernel_rfl
def Tryz.layItoa_ren : Go.Shelf.Ren where
  f := fun x => match x with
    | 171 => 129
    | 243 => 177
    | 246 => 216
    | 283 => 237
    | 284 => 238
    | 285 => 239
    | 286 => 240
    | 129 => 167
    | 317 => 266
    | 318 => 267
    | 319 => 268
    | 320 => 230
    | 337 => 261
    | 338 => 262
    | n => n
  t := fun x => match x with
    | 3 => 3
    | 9 => 9
    | 2 => 2
    | 4 => 4
    | 171 => 171
    | 0 => 0
    | 53 => 126
    | 37 => 22
    | 5 => 5
    | 173 => 173
    | 212 => 185
    | 51 => 124
    | 20 => 20
    | 213 => 186
    | 46 => 67
    | 232 => 200
    | 233 => 201
    | n => n
  g := fun x => match x with
    | 17 => 1
    | 18 => 2
    | 19 => 3
    | n => n
theorem Tryz.layItoa : LaysM.n171 Tryz.prog Tryz.layItoa_ren where
  mixed := by kernel_rfl
  f129 := Tryz.func167.trans (congrArg some rfl)
  f171 := Tryz.func129.trans (congrArg some rfl)
  f243 := Tryz.func177.trans (congrArg some rfl)
  f246 := Tryz.func216.trans (congrArg some rfl)
  f283 := Tryz.func237.trans (congrArg some rfl)
  f284 := Tryz.func238.trans (congrArg some rfl)
  f285 := Tryz.func239.trans (congrArg some rfl)
  f286 := Tryz.func240.trans (congrArg some rfl)
  f317 := Tryz.func266.trans (congrArg some rfl)
  f318 := Tryz.func267.trans (congrArg some rfl)
  f319 := Tryz.func268.trans (congrArg some rfl)
  f320 := Tryz.func230.trans (congrArg some rfl)
  f337 := Tryz.func261.trans (congrArg some rfl)
  f338 := Tryz.func262.trans (congrArg some rfl)
  t0 := by kernel_rfl
  a0 := fun w => by kernel_rfl
  z0 := fun w => by kernel_rfl
  v0 := fun w => by kernel_rfl
  t2 := by kernel_rfl
  a2 := fun w => by kernel_rfl
  z2 := fun w => by kernel_rfl
  v2 := fun w => by kernel_rfl
  t3 := by kernel_rfl
  a3 := fun w => by kernel_rfl
  z3 := fun w => by kernel_rfl
  v3 := fun w => by kernel_rfl
  t4 := by kernel_rfl
  a4 := fun w => by kernel_rfl
  z4 := fun w => by kernel_rfl
  v4 := fun w => by kernel_rfl
  t5 := by kernel_rfl
  a5 := fun w => by kernel_rfl
  z5 := fun w => by kernel_rfl
  v5 := fun w => by kernel_rfl
  t9 := by kernel_rfl
  a9 := fun w => by kernel_rfl
  z9 := fun w => by kernel_rfl
  v9 := fun w => by kernel_rfl
  t20 := by kernel_rfl
  a20 := fun w => by kernel_rfl
  z20 := fun w => by kernel_rfl
  v20 := fun w => by kernel_rfl
  t37 := by kernel_rfl
  a37 := fun w => by kernel_rfl
  z37 := fun w => by kernel_rfl
  v37 := fun w => by kernel_rfl
  t46 := by kernel_rfl
  a46 := fun w => by kernel_rfl
  z46 := fun w => by kernel_rfl
  v46 := fun w => by kernel_rfl
  t51 := by kernel_rfl
  a51 := fun w => by kernel_rfl
  z51 := fun w => by kernel_rfl
  v51 := fun w => by kernel_rfl
  t53 := by kernel_rfl
  a53 := fun w => by kernel_rfl
  z53 := fun w => by kernel_rfl
  v53 := fun w => by kernel_rfl
  t171 := by kernel_rfl
  a171 := fun w => by kernel_rfl
  z171 := fun w => by kernel_rfl
  v171 := fun w => by kernel_rfl
  t173 := by kernel_rfl
  a173 := fun w => by kernel_rfl
  z173 := fun w => by kernel_rfl
  v173 := fun w => by kernel_rfl
  t212 := by kernel_rfl
  a212 := fun w => by kernel_rfl
  z212 := fun w => by kernel_rfl
  v212 := fun w => by kernel_rfl
  t213 := by kernel_rfl
  a213 := fun w => by kernel_rfl
  z213 := fun w => by kernel_rfl
  t232 := by kernel_rfl
  a232 := fun w => by kernel_rfl
  z232 := fun w => by kernel_rfl
  v232 := fun w => by kernel_rfl
  t233 := by kernel_rfl
  a233 := fun w => by kernel_rfl
  z233 := fun w => by kernel_rfl
  v233 := fun w => by kernel_rfl
  g17 := by kernel_rfl
  g18 := by kernel_rfl
  g19 := by kernel_rfl
  i0 := by kernel_rfl
  i2 := by kernel_rfl
  i3 := by kernel_rfl
  i4 := by kernel_rfl
  i5 := by kernel_rfl
  i9 := by kernel_rfl
  i20 := by kernel_rfl
  i37 := by kernel_rfl
  i46 := by kernel_rfl
  i51 := by kernel_rfl
  i53 := by kernel_rfl
  i171 := by kernel_rfl
  i173 := by kernel_rfl
  i212 := by kernel_rfl
  i232 := by kernel_rfl
  i233 := by kernel_rfl
  m17 := by kernel_rfl
  m18 := by kernel_rfl
  m19 := by kernel_rfl
def Tryz.layCut_ren : Go.Shelf.Ren where
  f := fun x => match x with
    | 145 => 134
    | 220 => 184
    | 219 => 220
    | 217 => 241
    | 225 => 242
    | 224 => 243
    | 267 => 244
    | 266 => 269
    | 314 => 270
    | n => n
  t := fun x => match x with
    | 9 => 9
    | 4 => 4
    | 59 => 106
    | 3 => 3
    | 5 => 5
    | 46 => 67
    | 146 => 187
    | 51 => 124
    | n => n
  g := fun x => match x with
    | 1 => 0
    | n => n
theorem Tryz.layCut : Lays.n145 Tryz.prog Tryz.layCut_ren where
  mixed := by kernel_rfl
  f145 := Tryz.func134.trans (congrArg some rfl)
  f217 := Tryz.func241.trans (congrArg some rfl)
  f219 := Tryz.func220.trans (congrArg some rfl)
  f220 := Tryz.func184.trans (congrArg some rfl)
  f224 := Tryz.func243.trans (congrArg some rfl)
  f225 := Tryz.func242.trans (congrArg some rfl)
  f266 := Tryz.func269.trans (congrArg some rfl)
  f267 := Tryz.func244.trans (congrArg some rfl)
  f314 := Tryz.func270.trans (congrArg some rfl)
  t3 := by kernel_rfl
  a3 := fun w => by kernel_rfl
  z3 := fun w => by kernel_rfl
  v3 := fun w => by kernel_rfl
  t4 := by kernel_rfl
  a4 := fun w => by kernel_rfl
  z4 := fun w => by kernel_rfl
  v4 := fun w => by kernel_rfl
  t5 := by kernel_rfl
  a5 := fun w => by kernel_rfl
  z5 := fun w => by kernel_rfl
  v5 := fun w => by kernel_rfl
  t9 := by kernel_rfl
  a9 := fun w => by kernel_rfl
  z9 := fun w => by kernel_rfl
  v9 := fun w => by kernel_rfl
  t46 := by kernel_rfl
  a46 := fun w => by kernel_rfl
  z46 := fun w => by kernel_rfl
  v46 := fun w => by kernel_rfl
  t51 := by kernel_rfl
  a51 := fun w => by kernel_rfl
  z51 := fun w => by kernel_rfl
  v51 := fun w => by kernel_rfl
  t59 := by kernel_rfl
  a59 := fun w => by kernel_rfl
  z59 := fun w => by kernel_rfl
  v59 := fun w => by kernel_rfl
  t146 := by kernel_rfl
  a146 := fun w => by kernel_rfl
  z146 := fun w => by kernel_rfl
  v146 := fun w => by kernel_rfl
  g1 := by kernel_rfl
def Tryz.laySplit_ren : Go.Shelf.Ren where
  f := fun x => match x with
    | 146 => 186
    | 221 => 222
    | 268 => 247
    | 138 => 248
    | 143 => 249
    | 195 => 276
    | 197 => 277
    | 218 => 278
    | 219 => 220
    | 260 => 286
    | 217 => 241
    | 225 => 242
    | 224 => 243
    | 267 => 244
    | 266 => 269
    | 314 => 270
    | n => n
  t := fun x => match x with
    | 9 => 9
    | 31 => 74
    | 3 => 3
    | 4 => 4
    | 0 => 0
    | 105 => 196
    | 21 => 21
    | 5 => 5
    | 46 => 67
    | 119 => 214
    | 139 => 217
    | 138 => 216
    | 146 => 187
    | 51 => 124
    | n => n
  g := fun x => match x with
    | 1 => 0
    | 3 => 6
    | 4 => 7
    | n => n
theorem Tryz.laySplit : Lays.n146 Tryz.prog Tryz.laySplit_ren where
  mixed := by kernel_rfl
  f138 := Tryz.func248.trans (congrArg some rfl)
  f143 := Tryz.func249.trans (congrArg some rfl)
  f146 := Tryz.func186.trans (congrArg some rfl)
  f195 := Tryz.func276.trans (congrArg some rfl)
  f197 := Tryz.func277.trans (congrArg some rfl)
  f217 := Tryz.func241.trans (congrArg some rfl)
  f218 := Tryz.func278.trans (congrArg some rfl)
  f219 := Tryz.func220.trans (congrArg some rfl)
  f221 := Tryz.func222.trans (congrArg some rfl)
  f224 := Tryz.func243.trans (congrArg some rfl)
  f225 := Tryz.func242.trans (congrArg some rfl)
  f260 := Tryz.func286.trans (congrArg some rfl)
  f266 := Tryz.func269.trans (congrArg some rfl)
  f267 := Tryz.func244.trans (congrArg some rfl)
  f268 := Tryz.func247.trans (congrArg some rfl)
  f314 := Tryz.func270.trans (congrArg some rfl)
  t0 := by kernel_rfl
  a0 := fun w => by kernel_rfl
  z0 := fun w => by kernel_rfl
  v0 := fun w => by kernel_rfl
  t3 := by kernel_rfl
  a3 := fun w => by kernel_rfl
  z3 := fun w => by kernel_rfl
  v3 := fun w => by kernel_rfl
  t4 := by kernel_rfl
  a4 := fun w => by kernel_rfl
  z4 := fun w => by kernel_rfl
  v4 := fun w => by kernel_rfl
  t5 := by kernel_rfl
  a5 := fun w => by kernel_rfl
  z5 := fun w => by kernel_rfl
  v5 := fun w => by kernel_rfl
  t9 := by kernel_rfl
  a9 := fun w => by kernel_rfl
  z9 := fun w => by kernel_rfl
  v9 := fun w => by kernel_rfl
  t21 := by kernel_rfl
  a21 := fun w => by kernel_rfl
  z21 := fun w => by kernel_rfl
  v21 := fun w => by kernel_rfl
  t31 := by kernel_rfl
  a31 := fun w => by kernel_rfl
  z31 := fun w => by kernel_rfl
  v31 := fun w => by kernel_rfl
  t46 := by kernel_rfl
  a46 := fun w => by kernel_rfl
  z46 := fun w => by kernel_rfl
  v46 := fun w => by kernel_rfl
  t51 := by kernel_rfl
  a51 := fun w => by kernel_rfl
  z51 := fun w => by kernel_rfl
  v51 := fun w => by kernel_rfl
  t105 := by kernel_rfl
  a105 := fun w => by kernel_rfl
  z105 := fun w => by kernel_rfl
  v105 := fun w => by kernel_rfl
  t119 := by kernel_rfl
  a119 := fun w => by kernel_rfl
  z119 := fun w => by kernel_rfl
  t138 := by kernel_rfl
  a138 := fun w => by kernel_rfl
  z138 := fun w => by kernel_rfl
  v138 := fun w => by kernel_rfl
  t139 := by kernel_rfl
  a139 := fun w => by kernel_rfl
  z139 := fun w => by kernel_rfl
  v139 := fun w => by kernel_rfl
  t146 := by kernel_rfl
  a146 := fun w => by kernel_rfl
  z146 := fun w => by kernel_rfl
  v146 := fun w => by kernel_rfl
  g1 := by kernel_rfl
  g3 := by kernel_rfl
  g4 := by kernel_rfl
def Tryz.layAtoi_ren : Go.Shelf.Ren where
  f := fun x => match x with
    | 172 => 221
    | 244 => 245
    | 245 => 246
    | 247 => 271
    | 279 => 272
    | 280 => 273
    | 281 => 274
    | 282 => 275
    | 287 => 283
    | 316 => 284
    | 171 => 129
    | 205 => 285
    | 321 => 289
    | 322 => 290
    | 243 => 177
    | 246 => 216
    | 283 => 237
    | 284 => 238
    | 285 => 239
    | 286 => 240
    | 129 => 167
    | 317 => 266
    | 318 => 267
    | 319 => 268
    | 320 => 230
    | 337 => 261
    | 338 => 262
    | n => n
  t := fun x => match x with
    | 9 => 9
    | 3 => 3
    | 75 => 135
    | 76 => 136
    | 4 => 4
    | 5 => 5
    | 167 => 189
    | 37 => 22
    | 0 => 0
    | 85 => 190
    | 2 => 2
    | 168 => 192
    | 53 => 126
    | 175 => 202
    | 46 => 67
    | 210 => 206
    | 127 => 157
    | 145 => 213
    | 143 => 211
    | 21 => 21
    | 171 => 171
    | 173 => 173
    | 212 => 185
    | 51 => 124
    | 20 => 20
    | 213 => 186
    | 232 => 200
    | 233 => 201
    | 80 => 138
    | n => n
  g := fun x => match x with
    | 15 => 4
    | 16 => 5
    | 17 => 1
    | 18 => 2
    | 19 => 3
    | n => n
theorem Tryz.layAtoi : LaysC.n172 Tryz.prog Tryz.layAtoi_ren where
  mixed := by kernel_rfl
  f129 := Tryz.func167.trans (congrArg some rfl)
  f171 := Tryz.func129.trans (congrArg some rfl)
  f172 := Tryz.func221.trans (congrArg some rfl)
  f205 := Tryz.func285.trans (congrArg some rfl)
  f243 := Tryz.func177.trans (congrArg some rfl)
  f244 := Tryz.func245.trans (congrArg some rfl)
  f245 := Tryz.func246.trans (congrArg some rfl)
  f246 := Tryz.func216.trans (congrArg some rfl)
  f247 := Tryz.func271.trans (congrArg some rfl)
  f279 := Tryz.func272.trans (congrArg some rfl)
  f280 := Tryz.func273.trans (congrArg some rfl)
  f281 := Tryz.func274.trans (congrArg some rfl)
  f282 := Tryz.func275.trans (congrArg some rfl)
  f283 := Tryz.func237.trans (congrArg some rfl)
  f284 := Tryz.func238.trans (congrArg some rfl)
  f285 := Tryz.func239.trans (congrArg some rfl)
  f286 := Tryz.func240.trans (congrArg some rfl)
  f287 := Tryz.func283.trans (congrArg some rfl)
  f316 := Tryz.func284.trans (congrArg some rfl)
  f317 := Tryz.func266.trans (congrArg some rfl)
  f318 := Tryz.func267.trans (congrArg some rfl)
  f319 := Tryz.func268.trans (congrArg some rfl)
  f320 := Tryz.func230.trans (congrArg some rfl)
  f321 := Tryz.func289.trans (congrArg some rfl)
  f322 := Tryz.func290.trans (congrArg some rfl)
  f337 := Tryz.func261.trans (congrArg some rfl)
  f338 := Tryz.func262.trans (congrArg some rfl)
  t0 := by kernel_rfl
  a0 := fun w => by kernel_rfl
  z0 := fun w => by kernel_rfl
  v0 := fun w => by kernel_rfl
  t2 := by kernel_rfl
  a2 := fun w => by kernel_rfl
  z2 := fun w => by kernel_rfl
  v2 := fun w => by kernel_rfl
  t3 := by kernel_rfl
  a3 := fun w => by kernel_rfl
  z3 := fun w => by kernel_rfl
  v3 := fun w => by kernel_rfl
  t4 := by kernel_rfl
  a4 := fun w => by kernel_rfl
  z4 := fun w => by kernel_rfl
  v4 := fun w => by kernel_rfl
  t5 := by kernel_rfl
  a5 := fun w => by kernel_rfl
  z5 := fun w => by kernel_rfl
  v5 := fun w => by kernel_rfl
  t9 := by kernel_rfl
  a9 := fun w => by kernel_rfl
  z9 := fun w => by kernel_rfl
  v9 := fun w => by kernel_rfl
  t20 := by kernel_rfl
  a20 := fun w => by kernel_rfl
  z20 := fun w => by kernel_rfl
  v20 := fun w => by kernel_rfl
  t21 := by kernel_rfl
  a21 := fun w => by kernel_rfl
  z21 := fun w => by kernel_rfl
  v21 := fun w => by kernel_rfl
  t37 := by kernel_rfl
  a37 := fun w => by kernel_rfl
  z37 := fun w => by kernel_rfl
  v37 := fun w => by kernel_rfl
  t46 := by kernel_rfl
  a46 := fun w => by kernel_rfl
  z46 := fun w => by kernel_rfl
  v46 := fun w => by kernel_rfl
  t51 := by kernel_rfl
  a51 := fun w => by kernel_rfl
  z51 := fun w => by kernel_rfl
  v51 := fun w => by kernel_rfl
  t53 := by kernel_rfl
  a53 := fun w => by kernel_rfl
  z53 := fun w => by kernel_rfl
  v53 := fun w => by kernel_rfl
  t75 := by kernel_rfl
  a75 := fun w => by kernel_rfl
  z75 := fun w => by kernel_rfl
  v75 := fun w => by kernel_rfl
  t76 := by kernel_rfl
  a76 := fun w => by kernel_rfl
  z76 := fun w => by kernel_rfl
  v76 := fun w => by kernel_rfl
  t85 := by kernel_rfl
  a85 := fun w => by kernel_rfl
  z85 := fun w => by kernel_rfl
  v85 := fun w => by kernel_rfl
  t127 := by kernel_rfl
  a127 := fun w => by kernel_rfl
  z127 := fun w => by kernel_rfl
  v127 := fun w => by kernel_rfl
  t143 := by kernel_rfl
  a143 := fun w => by kernel_rfl
  z143 := fun w => by kernel_rfl
  v143 := fun w => by kernel_rfl
  t145 := by kernel_rfl
  a145 := fun w => by kernel_rfl
  z145 := fun w => by kernel_rfl
  v145 := fun w => by kernel_rfl
  t167 := by kernel_rfl
  a167 := fun w => by kernel_rfl
  z167 := fun w => by kernel_rfl
  v167 := fun w => by kernel_rfl
  t168 := by kernel_rfl
  a168 := fun w => by kernel_rfl
  z168 := fun w => by kernel_rfl
  v168 := fun w => by kernel_rfl
  t171 := by kernel_rfl
  a171 := fun w => by kernel_rfl
  z171 := fun w => by kernel_rfl
  v171 := fun w => by kernel_rfl
  t173 := by kernel_rfl
  a173 := fun w => by kernel_rfl
  z173 := fun w => by kernel_rfl
  v173 := fun w => by kernel_rfl
  t175 := by kernel_rfl
  a175 := fun w => by kernel_rfl
  z175 := fun w => by kernel_rfl
  v175 := fun w => by kernel_rfl
  t210 := by kernel_rfl
  a210 := fun w => by kernel_rfl
  z210 := fun w => by kernel_rfl
  v210 := fun w => by kernel_rfl
  t212 := by kernel_rfl
  a212 := fun w => by kernel_rfl
  z212 := fun w => by kernel_rfl
  v212 := fun w => by kernel_rfl
  t213 := by kernel_rfl
  a213 := fun w => by kernel_rfl
  z213 := fun w => by kernel_rfl
  t232 := by kernel_rfl
  a232 := fun w => by kernel_rfl
  z232 := fun w => by kernel_rfl
  v232 := fun w => by kernel_rfl
  t233 := by kernel_rfl
  a233 := fun w => by kernel_rfl
  z233 := fun w => by kernel_rfl
  v233 := fun w => by kernel_rfl
  g15 := by kernel_rfl
  g16 := by kernel_rfl
  g17 := by kernel_rfl
  g18 := by kernel_rfl
  g19 := by kernel_rfl
  t80 := by kernel_rfl
  a80 := fun w => by kernel_rfl
  z80 := fun w => by kernel_rfl
  v80 := fun w => by kernel_rfl
  i0 := by kernel_rfl
  i2 := by kernel_rfl
  i3 := by kernel_rfl
  i4 := by kernel_rfl
  i5 := by kernel_rfl
  i9 := by kernel_rfl
  i20 := by kernel_rfl
  i21 := by kernel_rfl
  i37 := by kernel_rfl
  i46 := by kernel_rfl
  i51 := by kernel_rfl
  i53 := by kernel_rfl
  i75 := by kernel_rfl
  i76 := by kernel_rfl
  i80 := by kernel_rfl
  i85 := by kernel_rfl
  i127 := by kernel_rfl
  i143 := by kernel_rfl
  i145 := by kernel_rfl
  i167 := by kernel_rfl
  i168 := by kernel_rfl
  i171 := by kernel_rfl
  i173 := by kernel_rfl
  i175 := by kernel_rfl
  i210 := by kernel_rfl
  i212 := by kernel_rfl
  i232 := by kernel_rfl
  i233 := by kernel_rfl
  m15 := by kernel_rfl
  m16 := by kernel_rfl
  m17 := by kernel_rfl
  m18 := by kernel_rfl
  m19 := by kernel_rfl
  c0 := by kernel_rfl
  c2 := by kernel_rfl
  c3 := by kernel_rfl
  c4 := by kernel_rfl
  c5 := by kernel_rfl
  c9 := by kernel_rfl
  c20 := by kernel_rfl
  c21 := by kernel_rfl
  c37 := by kernel_rfl
  c46 := by kernel_rfl
  c51 := by kernel_rfl
  c53 := by kernel_rfl
  c75 := by kernel_rfl
  c76 := by kernel_rfl
  c80 := by kernel_rfl
  c85 := by kernel_rfl
  c127 := by kernel_rfl
  c143 := by kernel_rfl
  c145 := by kernel_rfl
  c167 := by kernel_rfl
  c168 := by kernel_rfl
  c171 := by kernel_rfl
  c173 := by kernel_rfl
  c175 := by kernel_rfl
  c210 := by kernel_rfl
  c212 := by kernel_rfl
  c213 := by kernel_rfl
  c232 := by kernel_rfl
  c233 := by kernel_rfl
theorem Tryz.extraJoin : Builder.Extra Tryz.prog Tryz.layJoin_ren where
  sizeBuilder := by kernel_rfl
  liesBuilder := by kernel_rfl
  t5 := by kernel_rfl
  a5 := fun w => by kernel_rfl
  z5 := fun w => by kernel_rfl
  v5 := fun w => by kernel_rfl
  infoByte := by kernel_rfl
  cellsByte := by kernel_rfl
  sizeByte := by kernel_rfl
  neB5 := by decide
theorem Tryz.hiSplit : (Tryz.prog.info? (Tryz.laySplit_ren.t 9)).map (fun i => (i.zero, i.size, i.bytes)) = some (some (.string ByteArray.empty), 1, 16) := by kernel_rfl
end Go.Proofs
