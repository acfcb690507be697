/- Functions of the library, found in the seat's program. -/
import Derived.Test.YtihpicaamaeooaaGreatDoorSymXE
import Derived.KernelRfl
import Derived.Test.YtihpicaamaeooaaGreatDoorSymSort
import Derived.Shelf.SlLaysF
import Derived.Shelf.SlLaysF0
namespace Go.Proofs
open Go.Shelf Go.RowKit Go.Lib
set_option linter.unusedVariables false
set_option linter.unusedSimpArgs false
set_option maxRecDepth 100000
def Tryz.sortLay_ren : Go.Shelf.Ren where
  f := fun x => match x with
    | 6 => 137
    | 15 => 147
    | 14 => 146
    | 28 => 165
    | 29 => 166
    | 20 => 157
    | 21 => 158
    | 22 => 159
    | 23 => 160
    | 24 => 161
    | 25 => 162
    | 26 => 163
    | 27 => 164
    | 46 => 172
    | 47 => 173
    | 48 => 174
    | 49 => 175
    | 50 => 176
    | 57 => 177
    | n => n
  t := fun x => match x with
    | 22 => 24
    | 24 => 3
    | 25 => 124
    | 3 => 3
    | 39 => 95
    | 0 => 0
    | 53 => 146
    | 55 => 130
    | 4 => 4
    | 46 => 140
    | 45 => 139
    | 50 => 78
    | 5 => 5
    | 9 => 9
    | 66 => 150
    | 70 => 154
    | 76 => 158
    | 77 => 159
    | n => n
  g := fun n => n
theorem Tryz.sortLay : SlLaysF.n6 Tryz.prog Tryz.sortLay_ren where
  mixed := by kernel_rfl
  f6 := ⟨_, of_decide_eq_true rfl, Tryz.func137.trans (congrArg some rfl)⟩
  f14 := ⟨_, of_decide_eq_true rfl, Tryz.func146.trans (congrArg some rfl)⟩
  f15 := Tryz.func147.trans (congrArg some rfl)
  f20 := ⟨_, of_decide_eq_true rfl, Tryz.func157.trans (congrArg some rfl)⟩
  f21 := ⟨_, of_decide_eq_true rfl, Tryz.func158.trans (congrArg some rfl)⟩
  f22 := ⟨_, of_decide_eq_true rfl, Tryz.func159.trans (congrArg some rfl)⟩
  f23 := ⟨_, of_decide_eq_true rfl, Tryz.func160.trans (congrArg some rfl)⟩
  f24 := ⟨_, of_decide_eq_true rfl, Tryz.func161.trans (congrArg some rfl)⟩
  f25 := ⟨_, of_decide_eq_true rfl, Tryz.func162.trans (congrArg some rfl)⟩
  f26 := ⟨_, of_decide_eq_true rfl, Tryz.func163.trans (congrArg some rfl)⟩
  f27 := ⟨_, of_decide_eq_true rfl, Tryz.func164.trans (congrArg some rfl)⟩
  f28 := Tryz.func165.trans (congrArg some rfl)
  f29 := Tryz.func166.trans (congrArg some rfl)
  f46 := ⟨_, of_decide_eq_true rfl, Tryz.func172.trans (congrArg some rfl)⟩
  f47 := Tryz.func173.trans (congrArg some rfl)
  f48 := Tryz.func174.trans (congrArg some rfl)
  f49 := ⟨_, of_decide_eq_true rfl, Tryz.func175.trans (congrArg some rfl)⟩
  f50 := ⟨_, of_decide_eq_true rfl, Tryz.func176.trans (congrArg some rfl)⟩
  f57 := ⟨_, of_decide_eq_true rfl, Tryz.func177.trans (congrArg some rfl)⟩
  t0 := by kernel_rfl
  a0 := fun w => by kernel_rfl
  z0 := fun w => by kernel_rfl
  v0 := fun w => by kernel_rfl
  t3 := by kernel_rfl
  a3 := fun w => by kernel_rfl
  z3 := fun w => by kernel_rfl
  v3 := fun w => by kernel_rfl
  t4 := by kernel_rfl
  a4 := fun w => by kernel_rfl
  z4 := fun w => by kernel_rfl
  v4 := fun w => by kernel_rfl
  t5 := by kernel_rfl
  a5 := fun w => by kernel_rfl
  z5 := fun w => by kernel_rfl
  v5 := fun w => by kernel_rfl
  t9 := by kernel_rfl
  a9 := fun w => by kernel_rfl
  z9 := fun w => by kernel_rfl
  v9 := fun w => by kernel_rfl
  t22 := by kernel_rfl
  a22 := fun w => by kernel_rfl
  z22 := fun w => by kernel_rfl
  v22 := fun w => by kernel_rfl
  a24 := fun w => by kernel_rfl
  z24 := fun w => by kernel_rfl
  t25 := by kernel_rfl
  a25 := fun w => by kernel_rfl
  z25 := fun w => by kernel_rfl
  v25 := fun w => by kernel_rfl
  t39 := by kernel_rfl
  a39 := fun w => by kernel_rfl
  z39 := fun w => by kernel_rfl
  v39 := fun w => by kernel_rfl
  t45 := by kernel_rfl
  a45 := fun w => by kernel_rfl
  z45 := fun w => by kernel_rfl
  v45 := fun w => by kernel_rfl
  t46 := by kernel_rfl
  a46 := fun w => by kernel_rfl
  z46 := fun w => by kernel_rfl
  v46 := fun w => by kernel_rfl
  t50 := by kernel_rfl
  a50 := fun w => by kernel_rfl
  z50 := fun w => by kernel_rfl
  v50 := fun w => by kernel_rfl
  t53 := by kernel_rfl
  a53 := fun w => by kernel_rfl
  z53 := fun w => by kernel_rfl
  v53 := fun w => by kernel_rfl
  t55 := by kernel_rfl
  a55 := fun w => by kernel_rfl
  z55 := fun w => by kernel_rfl
  v55 := fun w => by kernel_rfl
  t66 := by kernel_rfl
  a66 := fun w => by kernel_rfl
  z66 := fun w => by kernel_rfl
  v66 := fun w => by kernel_rfl
  t70 := by kernel_rfl
  a70 := fun w => by kernel_rfl
  z70 := fun w => by kernel_rfl
  v70 := fun w => by kernel_rfl
  t76 := by kernel_rfl
  a76 := fun w => by kernel_rfl
  z76 := fun w => by kernel_rfl
  v76 := fun w => by kernel_rfl
  t77 := by kernel_rfl
  a77 := fun w => by kernel_rfl
  z77 := fun w => by kernel_rfl
  v77 := fun w => by kernel_rfl
def Tryz.sortLay0_ren : Go.Shelf.Ren where
  f := fun x => match x with
    | 6 => 137
    | 15 => 147
    | 14 => 146
    | 28 => 165
    | 29 => 166
    | 20 => 157
    | 21 => 158
    | 22 => 159
    | 23 => 160
    | 24 => 161
    | 25 => 162
    | 26 => 163
    | 27 => 164
    | 46 => 172
    | 47 => 173
    | 48 => 174
    | 49 => 175
    | 50 => 176
    | 57 => 177
    | n => n
  t := fun x => match x with
    | 22 => 24
    | 24 => 3
    | 25 => 124
    | 3 => 3
    | 39 => 95
    | 0 => 0
    | 53 => 146
    | 55 => 130
    | 4 => 4
    | 46 => 140
    | 45 => 139
    | 50 => 78
    | 5 => 5
    | 9 => 9
    | 66 => 150
    | 70 => 154
    | 76 => 158
    | 77 => 159
    | n => n
  g := fun n => n
theorem Tryz.sortLay0 : SlLaysF0.n6 Tryz.prog Tryz.sortLay0_ren where
  mixed := by kernel_rfl
  f6 := ⟨_, of_decide_eq_true rfl, Tryz.func137.trans (congrArg some rfl)⟩
  f14 := ⟨_, of_decide_eq_true rfl, Tryz.func146.trans (congrArg some rfl)⟩
  f15 := Tryz.func147.trans (congrArg some rfl)
  f20 := ⟨_, of_decide_eq_true rfl, Tryz.func157.trans (congrArg some rfl)⟩
  f21 := ⟨_, of_decide_eq_true rfl, Tryz.func158.trans (congrArg some rfl)⟩
  f22 := ⟨_, of_decide_eq_true rfl, Tryz.func159.trans (congrArg some rfl)⟩
  f23 := ⟨_, of_decide_eq_true rfl, Tryz.func160.trans (congrArg some rfl)⟩
  f24 := ⟨_, of_decide_eq_true rfl, Tryz.func161.trans (congrArg some rfl)⟩
  f25 := ⟨_, of_decide_eq_true rfl, Tryz.func162.trans (congrArg some rfl)⟩
  f26 := ⟨_, of_decide_eq_true rfl, Tryz.func163.trans (congrArg some rfl)⟩
  f27 := ⟨_, of_decide_eq_true rfl, Tryz.func164.trans (congrArg some rfl)⟩
  f28 := Tryz.func165.trans (congrArg some rfl)
  f29 := Tryz.func166.trans (congrArg some rfl)
  f46 := ⟨_, of_decide_eq_true rfl, Tryz.func172.trans (congrArg some rfl)⟩
  f47 := Tryz.func173.trans (congrArg some rfl)
  f48 := Tryz.func174.trans (congrArg some rfl)
  f49 := ⟨_, of_decide_eq_true rfl, Tryz.func175.trans (congrArg some rfl)⟩
  f50 := ⟨_, of_decide_eq_true rfl, Tryz.func176.trans (congrArg some rfl)⟩
  f57 := ⟨_, of_decide_eq_true rfl, Tryz.func177.trans (congrArg some rfl)⟩
  t0 := by kernel_rfl
  a0 := fun w => by kernel_rfl
  z0 := fun w => by kernel_rfl
  v0 := fun w => by kernel_rfl
  t3 := by kernel_rfl
  a3 := fun w => by kernel_rfl
  z3 := fun w => by kernel_rfl
  v3 := fun w => by kernel_rfl
  t4 := by kernel_rfl
  a4 := fun w => by kernel_rfl
  z4 := fun w => by kernel_rfl
  v4 := fun w => by kernel_rfl
  t5 := by kernel_rfl
  a5 := fun w => by kernel_rfl
  z5 := fun w => by kernel_rfl
  v5 := fun w => by kernel_rfl
  t9 := by kernel_rfl
  a9 := fun w => by kernel_rfl
  z9 := fun w => by kernel_rfl
  v9 := fun w => by kernel_rfl
  t22 := by kernel_rfl
  a22 := fun w => by kernel_rfl
  z22 := fun w => by kernel_rfl
  v22 := fun w => by kernel_rfl
  t25 := by kernel_rfl
  a25 := fun w => by kernel_rfl
  z25 := fun w => by kernel_rfl
  v25 := fun w => by kernel_rfl
  t39 := by kernel_rfl
  a39 := fun w => by kernel_rfl
  z39 := fun w => by kernel_rfl
  v39 := fun w => by kernel_rfl
  t45 := by kernel_rfl
  a45 := fun w => by kernel_rfl
  z45 := fun w => by kernel_rfl
  v45 := fun w => by kernel_rfl
  t46 := by kernel_rfl
  a46 := fun w => by kernel_rfl
  z46 := fun w => by kernel_rfl
  v46 := fun w => by kernel_rfl
  t50 := by kernel_rfl
  a50 := fun w => by kernel_rfl
  z50 := fun w => by kernel_rfl
  v50 := fun w => by kernel_rfl
  t53 := by kernel_rfl
  a53 := fun w => by kernel_rfl
  z53 := fun w => by kernel_rfl
  v53 := fun w => by kernel_rfl
  t55 := by kernel_rfl
  a55 := fun w => by kernel_rfl
  z55 := fun w => by kernel_rfl
  v55 := fun w => by kernel_rfl
  t66 := by kernel_rfl
  a66 := fun w => by kernel_rfl
  z66 := fun w => by kernel_rfl
  v66 := fun w => by kernel_rfl
  t70 := by kernel_rfl
  a70 := fun w => by kernel_rfl
  z70 := fun w => by kernel_rfl
  v70 := fun w => by kernel_rfl
  t76 := by kernel_rfl
  a76 := fun w => by kernel_rfl
  z76 := fun w => by kernel_rfl
  v76 := fun w => by kernel_rfl
  t77 := by kernel_rfl
  a77 := fun w => by kernel_rfl
  z77 := fun w => by kernel_rfl
  v77 := fun w => by kernel_rfl
end Go.Proofs
