/- Functions of the library, found in the seat's program. -/
import Derived.Test.YtiihfodcocihjaaGreatDoorSymX
import Derived.KernelRfl
import Derived.Test.YtiihfodcocihjaaGreatDoorSymSort2
import Derived.Test.YtiihfodcocihjaaGreatDoorSymItoa
import Derived.Shelf.SlLaysF
import Derived.Shelf.SlLaysF0
namespace Go.Proofs
open Go.Shelf Go.RowKit Go.Lib
set_option linter.unusedVariables false
set_option linter.unusedSimpArgs false
set_option maxRecDepth 100000
def Tryz.sortLay_ren : Go.Shelf.Ren where
  f := fun x => match x with
    | 6 => 219
    | 15 => 183
    | 14 => 253
    | 28 => 231
    | 29 => 232
    | 20 => 279
    | 21 => 280
    | 22 => 281
    | 23 => 282
    | 24 => 283
    | 25 => 284
    | 26 => 285
    | 27 => 286
    | 46 => 304
    | 47 => 255
    | 48 => 256
    | 49 => 305
    | 50 => 306
    | 57 => 312
    | n => n
  t := fun x => match x with
    | 22 => 22
    | 24 => 3
    | 25 => 113
    | 3 => 3
    | 39 => 124
    | 0 => 0
    | 53 => 162
    | 55 => 164
    | 4 => 4
    | 46 => 156
    | 45 => 155
    | 50 => 94
    | 5 => 5
    | 9 => 9
    | 66 => 174
    | 70 => 178
    | 76 => 198
    | 77 => 199
    | n => n
  g := fun n => n
theorem Tryz.sortLay : SlLaysF.n6 Tryz.prog Tryz.sortLay_ren where
  mixed := by kernel_rfl
  f6 := ⟨_, of_decide_eq_true rfl, Tryz.func219.trans (congrArg some rfl)⟩
  f14 := ⟨_, of_decide_eq_true rfl, Tryz.func253.trans (congrArg some rfl)⟩
  f15 := Tryz.func183.trans (congrArg some rfl)
  f20 := ⟨_, of_decide_eq_true rfl, Tryz.func279.trans (congrArg some rfl)⟩
  f21 := ⟨_, of_decide_eq_true rfl, Tryz.func280.trans (congrArg some rfl)⟩
  f22 := ⟨_, of_decide_eq_true rfl, Tryz.func281.trans (congrArg some rfl)⟩
  f23 := ⟨_, of_decide_eq_true rfl, Tryz.func282.trans (congrArg some rfl)⟩
  f24 := ⟨_, of_decide_eq_true rfl, Tryz.func283.trans (congrArg some rfl)⟩
  f25 := ⟨_, of_decide_eq_true rfl, Tryz.func284.trans (congrArg some rfl)⟩
  f26 := ⟨_, of_decide_eq_true rfl, Tryz.func285.trans (congrArg some rfl)⟩
  f27 := ⟨_, of_decide_eq_true rfl, Tryz.func286.trans (congrArg some rfl)⟩
  f28 := Tryz.func231.trans (congrArg some rfl)
  f29 := Tryz.func232.trans (congrArg some rfl)
  f46 := ⟨_, of_decide_eq_true rfl, Tryz.func304.trans (congrArg some rfl)⟩
  f47 := Tryz.func255.trans (congrArg some rfl)
  f48 := Tryz.func256.trans (congrArg some rfl)
  f49 := ⟨_, of_decide_eq_true rfl, Tryz.func305.trans (congrArg some rfl)⟩
  f50 := ⟨_, of_decide_eq_true rfl, Tryz.func306.trans (congrArg some rfl)⟩
  f57 := ⟨_, of_decide_eq_true rfl, Tryz.func312.trans (congrArg some rfl)⟩
  t0 := by kernel_rfl
  a0 := fun w => by kernel_rfl
  z0 := fun w => by kernel_rfl
  v0 := fun w => by kernel_rfl
  t3 := by kernel_rfl
  a3 := fun w => by kernel_rfl
  z3 := fun w => by kernel_rfl
  v3 := fun w => by kernel_rfl
  t4 := by kernel_rfl
  a4 := fun w => by kernel_rfl
  z4 := fun w => by kernel_rfl
  v4 := fun w => by kernel_rfl
  t5 := by kernel_rfl
  a5 := fun w => by kernel_rfl
  z5 := fun w => by kernel_rfl
  v5 := fun w => by kernel_rfl
  t9 := by kernel_rfl
  a9 := fun w => by kernel_rfl
  z9 := fun w => by kernel_rfl
  v9 := fun w => by kernel_rfl
  t22 := by kernel_rfl
  a22 := fun w => by kernel_rfl
  z22 := fun w => by kernel_rfl
  v22 := fun w => by kernel_rfl
  a24 := fun w => by kernel_rfl
  z24 := fun w => by kernel_rfl
  t25 := by kernel_rfl
  a25 := fun w => by kernel_rfl
  z25 := fun w => by kernel_rfl
  v25 := fun w => by kernel_rfl
  t39 := by kernel_rfl
  a39 := fun w => by kernel_rfl
  z39 := fun w => by kernel_rfl
  v39 := fun w => by kernel_rfl
  t45 := by kernel_rfl
  a45 := fun w => by kernel_rfl
  z45 := fun w => by kernel_rfl
  v45 := fun w => by kernel_rfl
  t46 := by kernel_rfl
  a46 := fun w => by kernel_rfl
  z46 := fun w => by kernel_rfl
  v46 := fun w => by kernel_rfl
  t50 := by kernel_rfl
  a50 := fun w => by kernel_rfl
  z50 := fun w => by kernel_rfl
  v50 := fun w => by kernel_rfl
  t53 := by kernel_rfl
  a53 := fun w => by kernel_rfl
  z53 := fun w => by kernel_rfl
  v53 := fun w => by kernel_rfl
  t55 := by kernel_rfl
  a55 := fun w => by kernel_rfl
  z55 := fun w => by kernel_rfl
  v55 := fun w => by kernel_rfl
  t66 := by kernel_rfl
  a66 := fun w => by kernel_rfl
  z66 := fun w => by kernel_rfl
  v66 := fun w => by kernel_rfl
  t70 := by kernel_rfl
  a70 := fun w => by kernel_rfl
  z70 := fun w => by kernel_rfl
  v70 := fun w => by kernel_rfl
  t76 := by kernel_rfl
  a76 := fun w => by kernel_rfl
  z76 := fun w => by kernel_rfl
  v76 := fun w => by kernel_rfl
  t77 := by kernel_rfl
  a77 := fun w => by kernel_rfl
  z77 := fun w => by kernel_rfl
  v77 := fun w => by kernel_rfl
def Tryz.sortLay0_ren : Go.Shelf.Ren where
  f := fun x => match x with
    | 6 => 219
    | 15 => 183
    | 14 => 253
    | 28 => 231
    | 29 => 232
    | 20 => 279
    | 21 => 280
    | 22 => 281
    | 23 => 282
    | 24 => 283
    | 25 => 284
    | 26 => 285
    | 27 => 286
    | 46 => 304
    | 47 => 255
    | 48 => 256
    | 49 => 305
    | 50 => 306
    | 57 => 312
    | n => n
  t := fun x => match x with
    | 22 => 22
    | 24 => 3
    | 25 => 113
    | 3 => 3
    | 39 => 124
    | 0 => 0
    | 53 => 162
    | 55 => 164
    | 4 => 4
    | 46 => 156
    | 45 => 155
    | 50 => 94
    | 5 => 5
    | 9 => 9
    | 66 => 174
    | 70 => 178
    | 76 => 198
    | 77 => 199
    | n => n
  g := fun n => n
theorem Tryz.sortLay0 : SlLaysF0.n6 Tryz.prog Tryz.sortLay0_ren where
  mixed := by kernel_rfl
  f6 := ⟨_, of_decide_eq_true rfl, Tryz.func219.trans (congrArg some rfl)⟩
  f14 := ⟨_, of_decide_eq_true rfl, Tryz.func253.trans (congrArg some rfl)⟩
  f15 := Tryz.func183.trans (congrArg some rfl)
  f20 := ⟨_, of_decide_eq_true rfl, Tryz.func279.trans (congrArg some rfl)⟩
  f21 := ⟨_, of_decide_eq_true rfl, Tryz.func280.trans (congrArg some rfl)⟩
  f22 := ⟨_, of_decide_eq_true rfl, Tryz.func281.trans (congrArg some rfl)⟩
  f23 := ⟨_, of_decide_eq_true rfl, Tryz.func282.trans (congrArg some rfl)⟩
  f24 := ⟨_, of_decide_eq_true rfl, Tryz.func283.trans (congrArg some rfl)⟩
  f25 := ⟨_, of_decide_eq_true rfl, Tryz.func284.trans (congrArg some rfl)⟩
  f26 := ⟨_, of_decide_eq_true rfl, Tryz.func285.trans (congrArg some rfl)⟩
  f27 := ⟨_, of_decide_eq_true rfl, Tryz.func286.trans (congrArg some rfl)⟩
  f28 := Tryz.func231.trans (congrArg some rfl)
  f29 := Tryz.func232.trans (congrArg some rfl)
  f46 := ⟨_, of_decide_eq_true rfl, Tryz.func304.trans (congrArg some rfl)⟩
  f47 := Tryz.func255.trans (congrArg some rfl)
  f48 := Tryz.func256.trans (congrArg some rfl)
  f49 := ⟨_, of_decide_eq_true rfl, Tryz.func305.trans (congrArg some rfl)⟩
  f50 := ⟨_, of_decide_eq_true rfl, Tryz.func306.trans (congrArg some rfl)⟩
  f57 := ⟨_, of_decide_eq_true rfl, Tryz.func312.trans (congrArg some rfl)⟩
  t0 := by kernel_rfl
  a0 := fun w => by kernel_rfl
  z0 := fun w => by kernel_rfl
  v0 := fun w => by kernel_rfl
  t3 := by kernel_rfl
  a3 := fun w => by kernel_rfl
  z3 := fun w => by kernel_rfl
  v3 := fun w => by kernel_rfl
  t4 := by kernel_rfl
  a4 := fun w => by kernel_rfl
  z4 := fun w => by kernel_rfl
  v4 := fun w => by kernel_rfl
  t5 := by kernel_rfl
  a5 := fun w => by kernel_rfl
  z5 := fun w => by kernel_rfl
  v5 := fun w => by kernel_rfl
  t9 := by kernel_rfl
  a9 := fun w => by kernel_rfl
  z9 := fun w => by kernel_rfl
  v9 := fun w => by kernel_rfl
  t22 := by kernel_rfl
  a22 := fun w => by kernel_rfl
  z22 := fun w => by kernel_rfl
  v22 := fun w => by kernel_rfl
  t25 := by kernel_rfl
  a25 := fun w => by kernel_rfl
  z25 := fun w => by kernel_rfl
  v25 := fun w => by kernel_rfl
  t39 := by kernel_rfl
  a39 := fun w => by kernel_rfl
  z39 := fun w => by kernel_rfl
  v39 := fun w => by kernel_rfl
  t45 := by kernel_rfl
  a45 := fun w => by kernel_rfl
  z45 := fun w => by kernel_rfl
  v45 := fun w => by kernel_rfl
  t46 := by kernel_rfl
  a46 := fun w => by kernel_rfl
  z46 := fun w => by kernel_rfl
  v46 := fun w => by kernel_rfl
  t50 := by kernel_rfl
  a50 := fun w => by kernel_rfl
  z50 := fun w => by kernel_rfl
  v50 := fun w => by kernel_rfl
  t53 := by kernel_rfl
  a53 := fun w => by kernel_rfl
  z53 := fun w => by kernel_rfl
  v53 := fun w => by kernel_rfl
  t55 := by kernel_rfl
  a55 := fun w => by kernel_rfl
  z55 := fun w => by kernel_rfl
  v55 := fun w => by kernel_rfl
  t66 := by kernel_rfl
  a66 := fun w => by kernel_rfl
  z66 := fun w => by kernel_rfl
  v66 := fun w => by kernel_rfl
  t70 := by kernel_rfl
  a70 := fun w => by kernel_rfl
  z70 := fun w => by kernel_rfl
  v70 := fun w => by kernel_rfl
  t76 := by kernel_rfl
  a76 := fun w => by kernel_rfl
  z76 := fun w => by kernel_rfl
  v76 := fun w => by kernel_rfl
  t77 := by kernel_rfl
  a77 := fun w => by kernel_rfl
  z77 := fun w => by kernel_rfl
  v77 := fun w => by kernel_rfl
def Tryz.layInts_ren : Go.Shelf.Ren where
  f := fun x => match x with
    | 189 => 132
    | 125 => 183
    | 257 => 182
    | 128 => 231
    | 129 => 232
    | 294 => 222
    | 295 => 223
    | 296 => 224
    | 297 => 225
    | 298 => 226
    | 299 => 227
    | 216 => 228
    | 300 => 229
    | 301 => 230
    | 328 => 254
    | 329 => 255
    | 330 => 256
    | 331 => 257
    | 332 => 258
    | 215 => 259
    | 343 => 287
    | n => n
  t := fun x => match x with
    | 28 => 22
    | 3 => 3
    | 46 => 124
    | 0 => 0
    | 51 => 162
    | 53 => 164
    | 4 => 4
    | 183 => 156
    | 182 => 155
    | 131 => 94
    | 5 => 5
    | 9 => 9
    | 218 => 174
    | 222 => 178
    | 228 => 198
    | 229 => 199
    | n => n
  g := fun n => n
theorem Tryz.layInts : Lays.n189 Tryz.prog Tryz.layInts_ren where
  mixed := by kernel_rfl
  f125 := Tryz.func183.trans (congrArg some rfl)
  f128 := Tryz.func231.trans (congrArg some rfl)
  f129 := Tryz.func232.trans (congrArg some rfl)
  f189 := Tryz.func132.trans (congrArg some rfl)
  f215 := Tryz.func259.trans (congrArg some rfl)
  f216 := Tryz.func228.trans (congrArg some rfl)
  f257 := Tryz.func182.trans (congrArg some rfl)
  f294 := Tryz.func222.trans (congrArg some rfl)
  f295 := Tryz.func223.trans (congrArg some rfl)
  f296 := Tryz.func224.trans (congrArg some rfl)
  f297 := Tryz.func225.trans (congrArg some rfl)
  f298 := Tryz.func226.trans (congrArg some rfl)
  f299 := Tryz.func227.trans (congrArg some rfl)
  f300 := Tryz.func229.trans (congrArg some rfl)
  f301 := Tryz.func230.trans (congrArg some rfl)
  f328 := Tryz.func254.trans (congrArg some rfl)
  f329 := Tryz.func255.trans (congrArg some rfl)
  f330 := Tryz.func256.trans (congrArg some rfl)
  f331 := Tryz.func257.trans (congrArg some rfl)
  f332 := Tryz.func258.trans (congrArg some rfl)
  f343 := Tryz.func287.trans (congrArg some rfl)
  t0 := by kernel_rfl
  a0 := fun w => by kernel_rfl
  z0 := fun w => by kernel_rfl
  v0 := fun w => by kernel_rfl
  t3 := by kernel_rfl
  a3 := fun w => by kernel_rfl
  z3 := fun w => by kernel_rfl
  v3 := fun w => by kernel_rfl
  t4 := by kernel_rfl
  a4 := fun w => by kernel_rfl
  z4 := fun w => by kernel_rfl
  v4 := fun w => by kernel_rfl
  t5 := by kernel_rfl
  a5 := fun w => by kernel_rfl
  z5 := fun w => by kernel_rfl
  v5 := fun w => by kernel_rfl
  t9 := by kernel_rfl
  a9 := fun w => by kernel_rfl
  z9 := fun w => by kernel_rfl
  v9 := fun w => by kernel_rfl
  t28 := by kernel_rfl
  a28 := fun w => by kernel_rfl
  z28 := fun w => by kernel_rfl
  v28 := fun w => by kernel_rfl
  t46 := by kernel_rfl
  a46 := fun w => by kernel_rfl
  z46 := fun w => by kernel_rfl
  v46 := fun w => by kernel_rfl
  t51 := by kernel_rfl
  a51 := fun w => by kernel_rfl
  z51 := fun w => by kernel_rfl
  v51 := fun w => by kernel_rfl
  t53 := by kernel_rfl
  a53 := fun w => by kernel_rfl
  z53 := fun w => by kernel_rfl
  v53 := fun w => by kernel_rfl
  t131 := by kernel_rfl
  a131 := fun w => by kernel_rfl
  z131 := fun w => by kernel_rfl
  v131 := fun w => by kernel_rfl
  t182 := by kernel_rfl
  a182 := fun w => by kernel_rfl
  z182 := fun w => by kernel_rfl
  v182 := fun w => by kernel_rfl
  t183 := by kernel_rfl
  a183 := fun w => by kernel_rfl
  z183 := fun w => by kernel_rfl
  v183 := fun w => by kernel_rfl
  t218 := by kernel_rfl
  a218 := fun w => by kernel_rfl
  z218 := fun w => by kernel_rfl
  v218 := fun w => by kernel_rfl
  t222 := by kernel_rfl
  a222 := fun w => by kernel_rfl
  z222 := fun w => by kernel_rfl
  v222 := fun w => by kernel_rfl
  t228 := by kernel_rfl
  a228 := fun w => by kernel_rfl
  z228 := fun w => by kernel_rfl
  v228 := fun w => by kernel_rfl
  t229 := by kernel_rfl
  a229 := fun w => by kernel_rfl
  z229 := fun w => by kernel_rfl
  v229 := fun w => by kernel_rfl
def Tryz.layJoin_ren : Go.Shelf.Ren where
  f := fun x => match x with
    | 156 => 146
    | 165 => 192
    | 166 => 193
    | 169 => 194
    | 240 => 236
    | 241 => 237
    | 276 => 265
    | 277 => 266
    | n => n
  t := fun x => match x with
    | 31 => 45
    | 9 => 9
    | 3 => 3
    | 4 => 4
    | 0 => 0
    | 20 => 20
    | 72 => 137
    | 76 => 141
    | 70 => 135
    | 37 => 110
    | 75 => 140
    | 127 => 166
    | 164 => 184
    | 5 => 5
    | 80 => 143
    | n => n
  g := fun n => n
theorem Tryz.layJoin : Lays.n156 Tryz.prog Tryz.layJoin_ren where
  mixed := by kernel_rfl
  f156 := Tryz.func146.trans (congrArg some rfl)
  f165 := Tryz.func192.trans (congrArg some rfl)
  f166 := Tryz.func193.trans (congrArg some rfl)
  f169 := Tryz.func194.trans (congrArg some rfl)
  f240 := Tryz.func236.trans (congrArg some rfl)
  f241 := Tryz.func237.trans (congrArg some rfl)
  f276 := Tryz.func265.trans (congrArg some rfl)
  f277 := Tryz.func266.trans (congrArg some rfl)
  t0 := by kernel_rfl
  a0 := fun w => by kernel_rfl
  z0 := fun w => by kernel_rfl
  v0 := fun w => by kernel_rfl
  t3 := by kernel_rfl
  a3 := fun w => by kernel_rfl
  z3 := fun w => by kernel_rfl
  v3 := fun w => by kernel_rfl
  t4 := by kernel_rfl
  a4 := fun w => by kernel_rfl
  z4 := fun w => by kernel_rfl
  v4 := fun w => by kernel_rfl
  t9 := by kernel_rfl
  a9 := fun w => by kernel_rfl
  z9 := fun w => by kernel_rfl
  v9 := fun w => by kernel_rfl
  t20 := by kernel_rfl
  a20 := fun w => by kernel_rfl
  z20 := fun w => by kernel_rfl
  v20 := fun w => by kernel_rfl
  t31 := by kernel_rfl
  a31 := fun w => by kernel_rfl
  z31 := fun w => by kernel_rfl
  v31 := fun w => by kernel_rfl
  t37 := by kernel_rfl
  a37 := fun w => by kernel_rfl
  z37 := fun w => by kernel_rfl
  v37 := fun w => by kernel_rfl
  t70 := by kernel_rfl
  a70 := fun w => by kernel_rfl
  z70 := fun w => by kernel_rfl
  v70 := fun w => by kernel_rfl
  t72 := by kernel_rfl
  a72 := fun w => by kernel_rfl
  z72 := fun w => by kernel_rfl
  v72 := fun w => by kernel_rfl
  t75 := by kernel_rfl
  a75 := fun w => by kernel_rfl
  z75 := fun w => by kernel_rfl
  v75 := fun w => by kernel_rfl
  t76 := by kernel_rfl
  a76 := fun w => by kernel_rfl
  z76 := fun w => by kernel_rfl
  v76 := fun w => by kernel_rfl
  t127 := by kernel_rfl
  a127 := fun w => by kernel_rfl
  z127 := fun w => by kernel_rfl
  v127 := fun w => by kernel_rfl
  t164 := by kernel_rfl
  a164 := fun w => by kernel_rfl
  z164 := fun w => by kernel_rfl
  v164 := fun w => by kernel_rfl
def Tryz.layItoa_ren : Go.Shelf.Ren where
  f := fun x => match x with
    | 171 => 145
    | 243 => 191
    | 246 => 235
    | 283 => 261
    | 284 => 262
    | 285 => 263
    | 286 => 264
    | 129 => 232
    | 317 => 288
    | 318 => 289
    | 319 => 290
    | 320 => 216
    | 337 => 251
    | 338 => 252
    | n => n
  t := fun x => match x with
    | 3 => 3
    | 9 => 9
    | 2 => 2
    | 4 => 4
    | 171 => 180
    | 0 => 0
    | 53 => 164
    | 37 => 110
    | 5 => 5
    | 173 => 182
    | 212 => 201
    | 51 => 162
    | 20 => 20
    | 213 => 202
    | 46 => 124
    | 232 => 191
    | 233 => 192
    | n => n
  g := fun x => match x with
    | 17 => 3
    | 18 => 1
    | 19 => 2
    | n => n
theorem Tryz.layItoa : LaysM.n171 Tryz.prog Tryz.layItoa_ren where
  mixed := by kernel_rfl
  f129 := Tryz.func232.trans (congrArg some rfl)
  f171 := Tryz.func145.trans (congrArg some rfl)
  f243 := Tryz.func191.trans (congrArg some rfl)
  f246 := Tryz.func235.trans (congrArg some rfl)
  f283 := Tryz.func261.trans (congrArg some rfl)
  f284 := Tryz.func262.trans (congrArg some rfl)
  f285 := Tryz.func263.trans (congrArg some rfl)
  f286 := Tryz.func264.trans (congrArg some rfl)
  f317 := Tryz.func288.trans (congrArg some rfl)
  f318 := Tryz.func289.trans (congrArg some rfl)
  f319 := Tryz.func290.trans (congrArg some rfl)
  f320 := Tryz.func216.trans (congrArg some rfl)
  f337 := Tryz.func251.trans (congrArg some rfl)
  f338 := Tryz.func252.trans (congrArg some rfl)
  t0 := by kernel_rfl
  a0 := fun w => by kernel_rfl
  z0 := fun w => by kernel_rfl
  v0 := fun w => by kernel_rfl
  t2 := by kernel_rfl
  a2 := fun w => by kernel_rfl
  z2 := fun w => by kernel_rfl
  v2 := fun w => by kernel_rfl
  t3 := by kernel_rfl
  a3 := fun w => by kernel_rfl
  z3 := fun w => by kernel_rfl
  v3 := fun w => by kernel_rfl
  t4 := by kernel_rfl
  a4 := fun w => by kernel_rfl
  z4 := fun w => by kernel_rfl
  v4 := fun w => by kernel_rfl
  t5 := by kernel_rfl
  a5 := fun w => by kernel_rfl
  z5 := fun w => by kernel_rfl
  v5 := fun w => by kernel_rfl
  t9 := by kernel_rfl
  a9 := fun w => by kernel_rfl
  z9 := fun w => by kernel_rfl
  v9 := fun w => by kernel_rfl
  t20 := by kernel_rfl
  a20 := fun w => by kernel_rfl
  z20 := fun w => by kernel_rfl
  v20 := fun w => by kernel_rfl
  t37 := by kernel_rfl
  a37 := fun w => by kernel_rfl
  z37 := fun w => by kernel_rfl
  v37 := fun w => by kernel_rfl
  t46 := by kernel_rfl
  a46 := fun w => by kernel_rfl
  z46 := fun w => by kernel_rfl
  v46 := fun w => by kernel_rfl
  t51 := by kernel_rfl
  a51 := fun w => by kernel_rfl
  z51 := fun w => by kernel_rfl
  v51 := fun w => by kernel_rfl
  t53 := by kernel_rfl
  a53 := fun w => by kernel_rfl
  z53 := fun w => by kernel_rfl
  v53 := fun w => by kernel_rfl
  t171 := by kernel_rfl
  a171 := fun w => by kernel_rfl
  z171 := fun w => by kernel_rfl
  v171 := fun w => by kernel_rfl
  t173 := by kernel_rfl
  a173 := fun w => by kernel_rfl
  z173 := fun w => by kernel_rfl
  v173 := fun w => by kernel_rfl
  t212 := by kernel_rfl
  a212 := fun w => by kernel_rfl
  z212 := fun w => by kernel_rfl
  v212 := fun w => by kernel_rfl
  t213 := by kernel_rfl
  a213 := fun w => by kernel_rfl
  z213 := fun w => by kernel_rfl
  t232 := by kernel_rfl
  a232 := fun w => by kernel_rfl
  z232 := fun w => by kernel_rfl
  v232 := fun w => by kernel_rfl
  t233 := by kernel_rfl
  a233 := fun w => by kernel_rfl
  z233 := fun w => by kernel_rfl
  v233 := fun w => by kernel_rfl
  g17 := by kernel_rfl
  g18 := by kernel_rfl
  g19 := by kernel_rfl
  i0 := by kernel_rfl
  i2 := by kernel_rfl
  i3 := by kernel_rfl
  i4 := by kernel_rfl
  i5 := by kernel_rfl
  i9 := by kernel_rfl
  i20 := by kernel_rfl
  i37 := by kernel_rfl
  i46 := by kernel_rfl
  i51 := by kernel_rfl
  i53 := by kernel_rfl
  i171 := by kernel_rfl
  i173 := by kernel_rfl
  i212 := by kernel_rfl
  i232 := by kernel_rfl
  i233 := by kernel_rfl
  m17 := by kernel_rfl
  m18 := by kernel_rfl
  m19 := by kernel_rfl
theorem Tryz.extraJoin : Builder.Extra Tryz.prog Tryz.layJoin_ren where
  sizeBuilder := by kernel_rfl
  liesBuilder := by kernel_rfl
  t5 := by kernel_rfl
  a5 := fun w => by kernel_rfl
  z5 := fun w => by kernel_rfl
  v5 := fun w => by kernel_rfl
  infoByte := by kernel_rfl
  cellsByte := by kernel_rfl
  sizeByte := by kernel_rfl
  neB5 := by decide
end Go.Proofs
