/- Functions of the library, found in the seat's program. -/
import Derived.Test.YtiihfodcocihjaaDoorSymX
import Derived.KernelRfl
import Derived.Test.YtiihfodcocihjaaDoorSymSort2
import Derived.Shelf.SlLaysF
import Derived.Shelf.SlLaysF0
namespace Go.Proofs
open Go.Shelf Go.RowKit Go.Lib
set_option linter.unusedVariables false
set_option linter.unusedSimpArgs false
set_option maxRecDepth 100000
def Tryd.sortLay_ren : Go.Shelf.Ren where
  f := fun x => match x with
    | 6 => 216
    | 15 => 165
    | 14 => 244
    | 28 => 202
    | 29 => 203
    | 20 => 261
    | 21 => 262
    | 22 => 263
    | 23 => 264
    | 24 => 265
    | 25 => 266
    | 26 => 267
    | 27 => 268
    | 46 => 282
    | 47 => 228
    | 48 => 229
    | 49 => 283
    | 50 => 284
    | 57 => 290
    | n => n
  t := fun x => match x with
    | 22 => 22
    | 24 => 3
    | 25 => 127
    | 3 => 3
    | 39 => 94
    | 0 => 0
    | 53 => 149
    | 55 => 151
    | 4 => 4
    | 46 => 158
    | 45 => 157
    | 50 => 116
    | 5 => 5
    | 9 => 9
    | 66 => 172
    | 70 => 176
    | 76 => 189
    | 77 => 42
    | n => n
  g := fun n => n
theorem Tryd.sortLay : SlLaysF.n6 Tryd.prog Tryd.sortLay_ren where
  mixed := by kernel_rfl
  f6 := ⟨_, of_decide_eq_true rfl, Tryd.func216.trans (congrArg some rfl)⟩
  f14 := ⟨_, of_decide_eq_true rfl, Tryd.func244.trans (congrArg some rfl)⟩
  f15 := Tryd.func165.trans (congrArg some rfl)
  f20 := ⟨_, of_decide_eq_true rfl, Tryd.func261.trans (congrArg some rfl)⟩
  f21 := ⟨_, of_decide_eq_true rfl, Tryd.func262.trans (congrArg some rfl)⟩
  f22 := ⟨_, of_decide_eq_true rfl, Tryd.func263.trans (congrArg some rfl)⟩
  f23 := ⟨_, of_decide_eq_true rfl, Tryd.func264.trans (congrArg some rfl)⟩
  f24 := ⟨_, of_decide_eq_true rfl, Tryd.func265.trans (congrArg some rfl)⟩
  f25 := ⟨_, of_decide_eq_true rfl, Tryd.func266.trans (congrArg some rfl)⟩
  f26 := ⟨_, of_decide_eq_true rfl, Tryd.func267.trans (congrArg some rfl)⟩
  f27 := ⟨_, of_decide_eq_true rfl, Tryd.func268.trans (congrArg some rfl)⟩
  f28 := Tryd.func202.trans (congrArg some rfl)
  f29 := Tryd.func203.trans (congrArg some rfl)
  f46 := ⟨_, of_decide_eq_true rfl, Tryd.func282.trans (congrArg some rfl)⟩
  f47 := Tryd.func228.trans (congrArg some rfl)
  f48 := Tryd.func229.trans (congrArg some rfl)
  f49 := ⟨_, of_decide_eq_true rfl, Tryd.func283.trans (congrArg some rfl)⟩
  f50 := ⟨_, of_decide_eq_true rfl, Tryd.func284.trans (congrArg some rfl)⟩
  f57 := ⟨_, of_decide_eq_true rfl, Tryd.func290.trans (congrArg some rfl)⟩
  t0 := by kernel_rfl
  a0 := fun w => by kernel_rfl
  z0 := fun w => by kernel_rfl
  v0 := fun w => by kernel_rfl
  t3 := by kernel_rfl
  a3 := fun w => by kernel_rfl
  z3 := fun w => by kernel_rfl
  v3 := fun w => by kernel_rfl
  t4 := by kernel_rfl
  a4 := fun w => by kernel_rfl
  z4 := fun w => by kernel_rfl
  v4 := fun w => by kernel_rfl
  t5 := by kernel_rfl
  a5 := fun w => by kernel_rfl
  z5 := fun w => by kernel_rfl
  v5 := fun w => by kernel_rfl
  t9 := by kernel_rfl
  a9 := fun w => by kernel_rfl
  z9 := fun w => by kernel_rfl
  v9 := fun w => by kernel_rfl
  t22 := by kernel_rfl
  a22 := fun w => by kernel_rfl
  z22 := fun w => by kernel_rfl
  v22 := fun w => by kernel_rfl
  a24 := fun w => by kernel_rfl
  z24 := fun w => by kernel_rfl
  t25 := by kernel_rfl
  a25 := fun w => by kernel_rfl
  z25 := fun w => by kernel_rfl
  v25 := fun w => by kernel_rfl
  t39 := by kernel_rfl
  a39 := fun w => by kernel_rfl
  z39 := fun w => by kernel_rfl
  v39 := fun w => by kernel_rfl
  t45 := by kernel_rfl
  a45 := fun w => by kernel_rfl
  z45 := fun w => by kernel_rfl
  v45 := fun w => by kernel_rfl
  t46 := by kernel_rfl
  a46 := fun w => by kernel_rfl
  z46 := fun w => by kernel_rfl
  v46 := fun w => by kernel_rfl
  t50 := by kernel_rfl
  a50 := fun w => by kernel_rfl
  z50 := fun w => by kernel_rfl
  v50 := fun w => by kernel_rfl
  t53 := by kernel_rfl
  a53 := fun w => by kernel_rfl
  z53 := fun w => by kernel_rfl
  v53 := fun w => by kernel_rfl
  t55 := by kernel_rfl
  a55 := fun w => by kernel_rfl
  z55 := fun w => by kernel_rfl
  v55 := fun w => by kernel_rfl
  t66 := by kernel_rfl
  a66 := fun w => by kernel_rfl
  z66 := fun w => by kernel_rfl
  v66 := fun w => by kernel_rfl
  t70 := by kernel_rfl
  a70 := fun w => by kernel_rfl
  z70 := fun w => by kernel_rfl
  v70 := fun w => by kernel_rfl
  t76 := by kernel_rfl
  a76 := fun w => by kernel_rfl
  z76 := fun w => by kernel_rfl
  v76 := fun w => by kernel_rfl
  t77 := by kernel_rfl
  a77 := fun w => by kernel_rfl
  z77 := fun w => by kernel_rfl
  v77 := fun w => by kernel_rfl
def Tryd.sortLay0_ren : Go.Shelf.Ren where
  f := fun x => match x with
    | 6 => 216
    | 15 => 165
    | 14 => 244
    | 28 => 202
    | 29 => 203
    | 20 => 261
    | 21 => 262
    | 22 => 263
    | 23 => 264
    | 24 => 265
    | 25 => 266
    | 26 => 267
    | 27 => 268
    | 46 => 282
    | 47 => 228
    | 48 => 229
    | 49 => 283
    | 50 => 284
    | 57 => 290
    | n => n
  t := fun x => match x with
    | 22 => 22
    | 24 => 3
    | 25 => 127
    | 3 => 3
    | 39 => 94
    | 0 => 0
    | 53 => 149
    | 55 => 151
    | 4 => 4
    | 46 => 158
    | 45 => 157
    | 50 => 116
    | 5 => 5
    | 9 => 9
    | 66 => 172
    | 70 => 176
    | 76 => 189
    | 77 => 42
    | n => n
  g := fun n => n
theorem Tryd.sortLay0 : SlLaysF0.n6 Tryd.prog Tryd.sortLay0_ren where
  mixed := by kernel_rfl
  f6 := ⟨_, of_decide_eq_true rfl, Tryd.func216.trans (congrArg some rfl)⟩
  f14 := ⟨_, of_decide_eq_true rfl, Tryd.func244.trans (congrArg some rfl)⟩
  f15 := Tryd.func165.trans (congrArg some rfl)
  f20 := ⟨_, of_decide_eq_true rfl, Tryd.func261.trans (congrArg some rfl)⟩
  f21 := ⟨_, of_decide_eq_true rfl, Tryd.func262.trans (congrArg some rfl)⟩
  f22 := ⟨_, of_decide_eq_true rfl, Tryd.func263.trans (congrArg some rfl)⟩
  f23 := ⟨_, of_decide_eq_true rfl, Tryd.func264.trans (congrArg some rfl)⟩
  f24 := ⟨_, of_decide_eq_true rfl, Tryd.func265.trans (congrArg some rfl)⟩
  f25 := ⟨_, of_decide_eq_true rfl, Tryd.func266.trans (congrArg some rfl)⟩
  f26 := ⟨_, of_decide_eq_true rfl, Tryd.func267.trans (congrArg some rfl)⟩
  f27 := ⟨_, of_decide_eq_true rfl, Tryd.func268.trans (congrArg some rfl)⟩
  f28 := Tryd.func202.trans (congrArg some rfl)
  f29 := Tryd.func203.trans (congrArg some rfl)
  f46 := ⟨_, of_decide_eq_true rfl, Tryd.func282.trans (congrArg some rfl)⟩
  f47 := Tryd.func228.trans (congrArg some rfl)
  f48 := Tryd.func229.trans (congrArg some rfl)
  f49 := ⟨_, of_decide_eq_true rfl, Tryd.func283.trans (congrArg some rfl)⟩
  f50 := ⟨_, of_decide_eq_true rfl, Tryd.func284.trans (congrArg some rfl)⟩
  f57 := ⟨_, of_decide_eq_true rfl, Tryd.func290.trans (congrArg some rfl)⟩
  t0 := by kernel_rfl
  a0 := fun w => by kernel_rfl
  z0 := fun w => by kernel_rfl
  v0 := fun w => by kernel_rfl
  t3 := by kernel_rfl
  a3 := fun w => by kernel_rfl
  z3 := fun w => by kernel_rfl
  v3 := fun w => by kernel_rfl
  t4 := by kernel_rfl
  a4 := fun w => by kernel_rfl
  z4 := fun w => by kernel_rfl
  v4 := fun w => by kernel_rfl
  t5 := by kernel_rfl
  a5 := fun w => by kernel_rfl
  z5 := fun w => by kernel_rfl
  v5 := fun w => by kernel_rfl
  t9 := by kernel_rfl
  a9 := fun w => by kernel_rfl
  z9 := fun w => by kernel_rfl
  v9 := fun w => by kernel_rfl
  t22 := by kernel_rfl
  a22 := fun w => by kernel_rfl
  z22 := fun w => by kernel_rfl
  v22 := fun w => by kernel_rfl
  t25 := by kernel_rfl
  a25 := fun w => by kernel_rfl
  z25 := fun w => by kernel_rfl
  v25 := fun w => by kernel_rfl
  t39 := by kernel_rfl
  a39 := fun w => by kernel_rfl
  z39 := fun w => by kernel_rfl
  v39 := fun w => by kernel_rfl
  t45 := by kernel_rfl
  a45 := fun w => by kernel_rfl
  z45 := fun w => by kernel_rfl
  v45 := fun w => by kernel_rfl
  t46 := by kernel_rfl
  a46 := fun w => by kernel_rfl
  z46 := fun w => by kernel_rfl
  v46 := fun w => by kernel_rfl
  t50 := by kernel_rfl
  a50 := fun w => by kernel_rfl
  z50 := fun w => by kernel_rfl
  v50 := fun w => by kernel_rfl
  t53 := by kernel_rfl
  a53 := fun w => by kernel_rfl
  z53 := fun w => by kernel_rfl
  v53 := fun w => by kernel_rfl
  t55 := by kernel_rfl
  a55 := fun w => by kernel_rfl
  z55 := fun w => by kernel_rfl
  v55 := fun w => by kernel_rfl
  t66 := by kernel_rfl
  a66 := fun w => by kernel_rfl
  z66 := fun w => by kernel_rfl
  v66 := fun w => by kernel_rfl
  t70 := by kernel_rfl
  a70 := fun w => by kernel_rfl
  z70 := fun w => by kernel_rfl
  v70 := fun w => by kernel_rfl
  t76 := by kernel_rfl
  a76 := fun w => by kernel_rfl
  z76 := fun w => by kernel_rfl
  v76 := fun w => by kernel_rfl
  t77 := by kernel_rfl
  a77 := fun w => by kernel_rfl
  z77 := fun w => by kernel_rfl
  v77 := fun w => by kernel_rfl
def Tryd.layInts_ren : Go.Shelf.Ren where
  f := fun x => match x with
    | 189 => 116
    | 125 => 165
    | 257 => 164
    | 128 => 202
    | 129 => 203
    | 294 => 193
    | 295 => 194
    | 296 => 195
    | 297 => 196
    | 298 => 197
    | 299 => 198
    | 216 => 199
    | 300 => 200
    | 301 => 201
    | 328 => 227
    | 329 => 228
    | 330 => 229
    | 331 => 230
    | 332 => 231
    | 215 => 232
    | 343 => 247
    | n => n
  t := fun x => match x with
    | 28 => 22
    | 3 => 3
    | 46 => 94
    | 0 => 0
    | 51 => 149
    | 53 => 151
    | 4 => 4
    | 183 => 158
    | 182 => 157
    | 131 => 116
    | 5 => 5
    | 9 => 9
    | 218 => 172
    | 222 => 176
    | 228 => 189
    | 229 => 42
    | n => n
  g := fun n => n
theorem Tryd.layInts : Lays.n189 Tryd.prog Tryd.layInts_ren where
  mixed := by kernel_rfl
  f125 := Tryd.func165.trans (congrArg some rfl)
  f128 := Tryd.func202.trans (congrArg some rfl)
  f129 := Tryd.func203.trans (congrArg some rfl)
  f189 := Tryd.func116.trans (congrArg some rfl)
  f215 := Tryd.func232.trans (congrArg some rfl)
  f216 := Tryd.func199.trans (congrArg some rfl)
  f257 := Tryd.func164.trans (congrArg some rfl)
  f294 := Tryd.func193.trans (congrArg some rfl)
  f295 := Tryd.func194.trans (congrArg some rfl)
  f296 := Tryd.func195.trans (congrArg some rfl)
  f297 := Tryd.func196.trans (congrArg some rfl)
  f298 := Tryd.func197.trans (congrArg some rfl)
  f299 := Tryd.func198.trans (congrArg some rfl)
  f300 := Tryd.func200.trans (congrArg some rfl)
  f301 := Tryd.func201.trans (congrArg some rfl)
  f328 := Tryd.func227.trans (congrArg some rfl)
  f329 := Tryd.func228.trans (congrArg some rfl)
  f330 := Tryd.func229.trans (congrArg some rfl)
  f331 := Tryd.func230.trans (congrArg some rfl)
  f332 := Tryd.func231.trans (congrArg some rfl)
  f343 := Tryd.func247.trans (congrArg some rfl)
  t0 := by kernel_rfl
  a0 := fun w => by kernel_rfl
  z0 := fun w => by kernel_rfl
  v0 := fun w => by kernel_rfl
  t3 := by kernel_rfl
  a3 := fun w => by kernel_rfl
  z3 := fun w => by kernel_rfl
  v3 := fun w => by kernel_rfl
  t4 := by kernel_rfl
  a4 := fun w => by kernel_rfl
  z4 := fun w => by kernel_rfl
  v4 := fun w => by kernel_rfl
  t5 := by kernel_rfl
  a5 := fun w => by kernel_rfl
  z5 := fun w => by kernel_rfl
  v5 := fun w => by kernel_rfl
  t9 := by kernel_rfl
  a9 := fun w => by kernel_rfl
  z9 := fun w => by kernel_rfl
  v9 := fun w => by kernel_rfl
  t28 := by kernel_rfl
  a28 := fun w => by kernel_rfl
  z28 := fun w => by kernel_rfl
  v28 := fun w => by kernel_rfl
  t46 := by kernel_rfl
  a46 := fun w => by kernel_rfl
  z46 := fun w => by kernel_rfl
  v46 := fun w => by kernel_rfl
  t51 := by kernel_rfl
  a51 := fun w => by kernel_rfl
  z51 := fun w => by kernel_rfl
  v51 := fun w => by kernel_rfl
  t53 := by kernel_rfl
  a53 := fun w => by kernel_rfl
  z53 := fun w => by kernel_rfl
  v53 := fun w => by kernel_rfl
  t131 := by kernel_rfl
  a131 := fun w => by kernel_rfl
  z131 := fun w => by kernel_rfl
  v131 := fun w => by kernel_rfl
  t182 := by kernel_rfl
  a182 := fun w => by kernel_rfl
  z182 := fun w => by kernel_rfl
  v182 := fun w => by kernel_rfl
  t183 := by kernel_rfl
  a183 := fun w => by kernel_rfl
  z183 := fun w => by kernel_rfl
  v183 := fun w => by kernel_rfl
  t218 := by kernel_rfl
  a218 := fun w => by kernel_rfl
  z218 := fun w => by kernel_rfl
  v218 := fun w => by kernel_rfl
  t222 := by kernel_rfl
  a222 := fun w => by kernel_rfl
  z222 := fun w => by kernel_rfl
  v222 := fun w => by kernel_rfl
  t228 := by kernel_rfl
  a228 := fun w => by kernel_rfl
  z228 := fun w => by kernel_rfl
  v228 := fun w => by kernel_rfl
  t229 := by kernel_rfl
  a229 := fun w => by kernel_rfl
  z229 := fun w => by kernel_rfl
  v229 := fun w => by kernel_rfl
end Go.Proofs
