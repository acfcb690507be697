/- Functions of the library, found in the seat's program. -/
import Derived.Test.YtmphbdhjdalgnaaGreatDoorSymXM
import Derived.KernelRfl
import Derived.Test.YtmphbdhjdalgnaaGreatDoorSymSort2
import Derived.Shelf.SlLaysF
import Derived.Shelf.SlLaysF0
namespace Go.Proofs
open Go.Shelf Go.RowKit Go.Lib
set_option linter.unusedVariables false
set_option linter.unusedSimpArgs false
set_option maxRecDepth 100000
def Tryz.sortLay_ren : Go.Shelf.Ren where
  f := fun x => match x with
    | 6 => 100
    | 15 => 64
    | 14 => 113
    | 28 => 96
    | 29 => 97
    | 20 => 118
    | 21 => 119
    | 22 => 120
    | 23 => 121
    | 24 => 122
    | 25 => 123
    | 26 => 124
    | 27 => 125
    | 46 => 128
    | 47 => 108
    | 48 => 109
    | 49 => 129
    | 50 => 130
    | 57 => 131
    | n => n
  t := fun x => match x with
    | 22 => 24
    | 24 => 3
    | 25 => 81
    | 3 => 3
    | 39 => 58
    | 0 => 0
    | 53 => 94
    | 55 => 96
    | 4 => 4
    | 46 => 88
    | 45 => 87
    | 50 => 70
    | 5 => 5
    | 9 => 9
    | 66 => 98
    | 70 => 102
    | 76 => 105
    | 77 => 106
    | n => n
  g := fun n => n
theorem Tryz.sortLay : SlLaysF.n6 Tryz.prog Tryz.sortLay_ren where
  mixed := by kernel_rfl
  f6 := ⟨_, of_decide_eq_true rfl, Tryz.func100.trans (congrArg some rfl)⟩
  f14 := ⟨_, of_decide_eq_true rfl, Tryz.func113.trans (congrArg some rfl)⟩
  f15 := Tryz.func64.trans (congrArg some rfl)
  f20 := ⟨_, of_decide_eq_true rfl, Tryz.func118.trans (congrArg some rfl)⟩
  f21 := ⟨_, of_decide_eq_true rfl, Tryz.func119.trans (congrArg some rfl)⟩
  f22 := ⟨_, of_decide_eq_true rfl, Tryz.func120.trans (congrArg some rfl)⟩
  f23 := ⟨_, of_decide_eq_true rfl, Tryz.func121.trans (congrArg some rfl)⟩
  f24 := ⟨_, of_decide_eq_true rfl, Tryz.func122.trans (congrArg some rfl)⟩
  f25 := ⟨_, of_decide_eq_true rfl, Tryz.func123.trans (congrArg some rfl)⟩
  f26 := ⟨_, of_decide_eq_true rfl, Tryz.func124.trans (congrArg some rfl)⟩
  f27 := ⟨_, of_decide_eq_true rfl, Tryz.func125.trans (congrArg some rfl)⟩
  f28 := Tryz.func96.trans (congrArg some rfl)
  f29 := Tryz.func97.trans (congrArg some rfl)
  f46 := ⟨_, of_decide_eq_true rfl, Tryz.func128.trans (congrArg some rfl)⟩
  f47 := Tryz.func108.trans (congrArg some rfl)
  f48 := Tryz.func109.trans (congrArg some rfl)
  f49 := ⟨_, of_decide_eq_true rfl, Tryz.func129.trans (congrArg some rfl)⟩
  f50 := ⟨_, of_decide_eq_true rfl, Tryz.func130.trans (congrArg some rfl)⟩
  f57 := ⟨_, of_decide_eq_true rfl, Tryz.func131.trans (congrArg some rfl)⟩
  t0 := by kernel_rfl
  a0 := fun w => by kernel_rfl
  z0 := fun w => by kernel_rfl
  v0 := fun w => by kernel_rfl
  t3 := by kernel_rfl
  a3 := fun w => by kernel_rfl
  z3 := fun w => by kernel_rfl
  v3 := fun w => by kernel_rfl
  t4 := by kernel_rfl
  a4 := fun w => by kernel_rfl
  z4 := fun w => by kernel_rfl
  v4 := fun w => by kernel_rfl
  t5 := by kernel_rfl
  a5 := fun w => by kernel_rfl
  z5 := fun w => by kernel_rfl
  v5 := fun w => by kernel_rfl
  t9 := by kernel_rfl
  a9 := fun w => by kernel_rfl
  z9 := fun w => by kernel_rfl
  v9 := fun w => by kernel_rfl
  t22 := by kernel_rfl
  a22 := fun w => by kernel_rfl
  z22 := fun w => by kernel_rfl
  v22 := fun w => by kernel_rfl
  a24 := fun w => by kernel_rfl
  z24 := fun w => by kernel_rfl
  t25 := by kernel_rfl
  a25 := fun w => by kernel_rfl
  z25 := fun w => by kernel_rfl
  v25 := fun w => by kernel_rfl
  t39 := by kernel_rfl
  a39 := fun w => by kernel_rfl
  z39 := fun w => by kernel_rfl
  v39 := fun w => by kernel_rfl
  t45 := by kernel_rfl
  a45 := fun w => by kernel_rfl
  z45 := fun w => by kernel_rfl
  v45 := fun w => by kernel_rfl
  t46 := by kernel_rfl
  a46 := fun w => by kernel_rfl
  z46 := fun w => by kernel_rfl
  v46 := fun w => by kernel_rfl
  t50 := by kernel_rfl
  a50 := fun w => by kernel_rfl
  z50 := fun w => by kernel_rfl
  v50 := fun w => by kernel_rfl
  t53 := by kernel_rfl
  a53 := fun w => by kernel_rfl
  z53 := fun w => by kernel_rfl
  v53 := fun w => by kernel_rfl
  t55 := by kernel_rfl
  a55 := fun w => by kernel_rfl
  z55 := fun w => by kernel_rfl
  v55 := fun w => by kernel_rfl
  t66 := by kernel_rfl
  a66 := fun w => by kernel_rfl
  z66 := fun w => by kernel_rfl
  v66 := fun w => by kernel_rfl
  t70 := by kernel_rfl
  a70 := fun w => by kernel_rfl
  z70 := fun w => by kernel_rfl
  v70 := fun w => by kernel_rfl
  t76 := by kernel_rfl
  a76 := fun w => by kernel_rfl
  z76 := fun w => by kernel_rfl
  v76 := fun w => by kernel_rfl
  t77 := by kernel_rfl
  a77 := fun w => by kernel_rfl
  z77 := fun w => by kernel_rfl
  v77 := fun w => by kernel_rfl
def Tryz.sortLay0_ren : Go.Shelf.Ren where
  f := fun x => match x with
    | 6 => 100
    | 15 => 64
    | 14 => 113
    | 28 => 96
    | 29 => 97
    | 20 => 118
    | 21 => 119
    | 22 => 120
    | 23 => 121
    | 24 => 122
    | 25 => 123
    | 26 => 124
    | 27 => 125
    | 46 => 128
    | 47 => 108
    | 48 => 109
    | 49 => 129
    | 50 => 130
    | 57 => 131
    | n => n
  t := fun x => match x with
    | 22 => 24
    | 24 => 3
    | 25 => 81
    | 3 => 3
    | 39 => 58
    | 0 => 0
    | 53 => 94
    | 55 => 96
    | 4 => 4
    | 46 => 88
    | 45 => 87
    | 50 => 70
    | 5 => 5
    | 9 => 9
    | 66 => 98
    | 70 => 102
    | 76 => 105
    | 77 => 106
    | n => n
  g := fun n => n
theorem Tryz.sortLay0 : SlLaysF0.n6 Tryz.prog Tryz.sortLay0_ren where
  mixed := by kernel_rfl
  f6 := ⟨_, of_decide_eq_true rfl, Tryz.func100.trans (congrArg some rfl)⟩
  f14 := ⟨_, of_decide_eq_true rfl, Tryz.func113.trans (congrArg some rfl)⟩
  f15 := Tryz.func64.trans (congrArg some rfl)
  f20 := ⟨_, of_decide_eq_true rfl, Tryz.func118.trans (congrArg some rfl)⟩
  f21 := ⟨_, of_decide_eq_true rfl, Tryz.func119.trans (congrArg some rfl)⟩
  f22 := ⟨_, of_decide_eq_true rfl, Tryz.func120.trans (congrArg some rfl)⟩
  f23 := ⟨_, of_decide_eq_true rfl, Tryz.func121.trans (congrArg some rfl)⟩
  f24 := ⟨_, of_decide_eq_true rfl, Tryz.func122.trans (congrArg some rfl)⟩
  f25 := ⟨_, of_decide_eq_true rfl, Tryz.func123.trans (congrArg some rfl)⟩
  f26 := ⟨_, of_decide_eq_true rfl, Tryz.func124.trans (congrArg some rfl)⟩
  f27 := ⟨_, of_decide_eq_true rfl, Tryz.func125.trans (congrArg some rfl)⟩
  f28 := Tryz.func96.trans (congrArg some rfl)
  f29 := Tryz.func97.trans (congrArg some rfl)
  f46 := ⟨_, of_decide_eq_true rfl, Tryz.func128.trans (congrArg some rfl)⟩
  f47 := Tryz.func108.trans (congrArg some rfl)
  f48 := Tryz.func109.trans (congrArg some rfl)
  f49 := ⟨_, of_decide_eq_true rfl, Tryz.func129.trans (congrArg some rfl)⟩
  f50 := ⟨_, of_decide_eq_true rfl, Tryz.func130.trans (congrArg some rfl)⟩
  f57 := ⟨_, of_decide_eq_true rfl, Tryz.func131.trans (congrArg some rfl)⟩
  t0 := by kernel_rfl
  a0 := fun w => by kernel_rfl
  z0 := fun w => by kernel_rfl
  v0 := fun w => by kernel_rfl
  t3 := by kernel_rfl
  a3 := fun w => by kernel_rfl
  z3 := fun w => by kernel_rfl
  v3 := fun w => by kernel_rfl
  t4 := by kernel_rfl
  a4 := fun w => by kernel_rfl
  z4 := fun w => by kernel_rfl
  v4 := fun w => by kernel_rfl
  t5 := by kernel_rfl
  a5 := fun w => by kernel_rfl
  z5 := fun w => by kernel_rfl
  v5 := fun w => by kernel_rfl
  t9 := by kernel_rfl
  a9 := fun w => by kernel_rfl
  z9 := fun w => by kernel_rfl
  v9 := fun w => by kernel_rfl
  t22 := by kernel_rfl
  a22 := fun w => by kernel_rfl
  z22 := fun w => by kernel_rfl
  v22 := fun w => by kernel_rfl
  t25 := by kernel_rfl
  a25 := fun w => by kernel_rfl
  z25 := fun w => by kernel_rfl
  v25 := fun w => by kernel_rfl
  t39 := by kernel_rfl
  a39 := fun w => by kernel_rfl
  z39 := fun w => by kernel_rfl
  v39 := fun w => by kernel_rfl
  t45 := by kernel_rfl
  a45 := fun w => by kernel_rfl
  z45 := fun w => by kernel_rfl
  v45 := fun w => by kernel_rfl
  t46 := by kernel_rfl
  a46 := fun w => by kernel_rfl
  z46 := fun w => by kernel_rfl
  v46 := fun w => by kernel_rfl
  t50 := by kernel_rfl
  a50 := fun w => by kernel_rfl
  z50 := fun w => by kernel_rfl
  v50 := fun w => by kernel_rfl
  t53 := by kernel_rfl
  a53 := fun w => by kernel_rfl
  z53 := fun w => by kernel_rfl
  v53 := fun w => by kernel_rfl
  t55 := by kernel_rfl
  a55 := fun w => by kernel_rfl
  z55 := fun w => by kernel_rfl
  v55 := fun w => by kernel_rfl
  t66 := by kernel_rfl
  a66 := fun w => by kernel_rfl
  z66 := fun w => by kernel_rfl
  v66 := fun w => by kernel_rfl
  t70 := by kernel_rfl
  a70 := fun w => by kernel_rfl
  z70 := fun w => by kernel_rfl
  v70 := fun w => by kernel_rfl
  t76 := by kernel_rfl
  a76 := fun w => by kernel_rfl
  z76 := fun w => by kernel_rfl
  v76 := fun w => by kernel_rfl
  t77 := by kernel_rfl
  a77 := fun w => by kernel_rfl
  z77 := fun w => by kernel_rfl
  v77 := fun w => by kernel_rfl
def Tryz.layInts_ren : Go.Shelf.Ren where
  f := fun x => match x with
    | 189 => 32
    | 125 => 64
    | 257 => 63
    | 128 => 96
    | 129 => 97
    | 294 => 87
    | 295 => 88
    | 296 => 89
    | 297 => 90
    | 298 => 91
    | 299 => 92
    | 216 => 93
    | 300 => 94
    | 301 => 95
    | 328 => 107
    | 329 => 108
    | 330 => 109
    | 331 => 110
    | 332 => 111
    | 215 => 112
    | 343 => 117
    | n => n
  t := fun x => match x with
    | 28 => 24
    | 3 => 3
    | 46 => 58
    | 0 => 0
    | 51 => 94
    | 53 => 96
    | 4 => 4
    | 183 => 88
    | 182 => 87
    | 131 => 70
    | 5 => 5
    | 9 => 9
    | 218 => 98
    | 222 => 102
    | 228 => 105
    | 229 => 106
    | n => n
  g := fun n => n
theorem Tryz.layInts : Lays.n189 Tryz.prog Tryz.layInts_ren where
  mixed := by kernel_rfl
  f125 := Tryz.func64.trans (congrArg some rfl)
  f128 := Tryz.func96.trans (congrArg some rfl)
  f129 := Tryz.func97.trans (congrArg some rfl)
  f189 := Tryz.func32.trans (congrArg some rfl)
  f215 := Tryz.func112.trans (congrArg some rfl)
  f216 := Tryz.func93.trans (congrArg some rfl)
  f257 := Tryz.func63.trans (congrArg some rfl)
  f294 := Tryz.func87.trans (congrArg some rfl)
  f295 := Tryz.func88.trans (congrArg some rfl)
  f296 := Tryz.func89.trans (congrArg some rfl)
  f297 := Tryz.func90.trans (congrArg some rfl)
  f298 := Tryz.func91.trans (congrArg some rfl)
  f299 := Tryz.func92.trans (congrArg some rfl)
  f300 := Tryz.func94.trans (congrArg some rfl)
  f301 := Tryz.func95.trans (congrArg some rfl)
  f328 := Tryz.func107.trans (congrArg some rfl)
  f329 := Tryz.func108.trans (congrArg some rfl)
  f330 := Tryz.func109.trans (congrArg some rfl)
  f331 := Tryz.func110.trans (congrArg some rfl)
  f332 := Tryz.func111.trans (congrArg some rfl)
  f343 := Tryz.func117.trans (congrArg some rfl)
  t0 := by kernel_rfl
  a0 := fun w => by kernel_rfl
  z0 := fun w => by kernel_rfl
  v0 := fun w => by kernel_rfl
  t3 := by kernel_rfl
  a3 := fun w => by kernel_rfl
  z3 := fun w => by kernel_rfl
  v3 := fun w => by kernel_rfl
  t4 := by kernel_rfl
  a4 := fun w => by kernel_rfl
  z4 := fun w => by kernel_rfl
  v4 := fun w => by kernel_rfl
  t5 := by kernel_rfl
  a5 := fun w => by kernel_rfl
  z5 := fun w => by kernel_rfl
  v5 := fun w => by kernel_rfl
  t9 := by kernel_rfl
  a9 := fun w => by kernel_rfl
  z9 := fun w => by kernel_rfl
  v9 := fun w => by kernel_rfl
  t28 := by kernel_rfl
  a28 := fun w => by kernel_rfl
  z28 := fun w => by kernel_rfl
  v28 := fun w => by kernel_rfl
  t46 := by kernel_rfl
  a46 := fun w => by kernel_rfl
  z46 := fun w => by kernel_rfl
  v46 := fun w => by kernel_rfl
  t51 := by kernel_rfl
  a51 := fun w => by kernel_rfl
  z51 := fun w => by kernel_rfl
  v51 := fun w => by kernel_rfl
  t53 := by kernel_rfl
  a53 := fun w => by kernel_rfl
  z53 := fun w => by kernel_rfl
  v53 := fun w => by kernel_rfl
  t131 := by kernel_rfl
  a131 := fun w => by kernel_rfl
  z131 := fun w => by kernel_rfl
  v131 := fun w => by kernel_rfl
  t182 := by kernel_rfl
  a182 := fun w => by kernel_rfl
  z182 := fun w => by kernel_rfl
  v182 := fun w => by kernel_rfl
  t183 := by kernel_rfl
  a183 := fun w => by kernel_rfl
  z183 := fun w => by kernel_rfl
  v183 := fun w => by kernel_rfl
  t218 := by kernel_rfl
  a218 := fun w => by kernel_rfl
  z218 := fun w => by kernel_rfl
  v218 := fun w => by kernel_rfl
  t222 := by kernel_rfl
  a222 := fun w => by kernel_rfl
  z222 := fun w => by kernel_rfl
  v222 := fun w => by kernel_rfl
  t228 := by kernel_rfl
  a228 := fun w => by kernel_rfl
  z228 := fun w => by kernel_rfl
  v228 := fun w => by kernel_rfl
  t229 := by kernel_rfl
  a229 := fun w => by kernel_rfl
  z229 := fun w => by kernel_rfl
  v229 := fun w => by kernel_rfl
end Go.Proofs
