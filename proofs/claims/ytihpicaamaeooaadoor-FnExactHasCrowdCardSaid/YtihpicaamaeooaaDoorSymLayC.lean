/- Functions of the library, found in the seat's program. -/
import Derived.Test.YtihpicaamaeooaaDoorSymX
import Derived.KernelRfl
import Derived.Test.YtihpicaamaeooaaDoorSymSort
import Derived.Shelf.SlLaysF
import Derived.Shelf.SlLaysF0
namespace Go.Proofs
open Go.Shelf Go.RowKit Go.Lib
set_option linter.unusedVariables false
set_option linter.unusedSimpArgs false
set_option maxRecDepth 100000
def Tryd.sortLay_ren : Go.Shelf.Ren where
  f := fun x => match x with
    | 6 => 56
    | 15 => 65
    | 14 => 64
    | 28 => 78
    | 29 => 79
    | 20 => 70
    | 21 => 71
    | 22 => 72
    | 23 => 73
    | 24 => 74
    | 25 => 75
    | 26 => 76
    | 27 => 77
    | 46 => 83
    | 47 => 84
    | 48 => 85
    | 49 => 86
    | 50 => 87
    | 57 => 88
    | n => n
  t := fun x => match x with
    | 22 => 22
    | 24 => 3
    | 25 => 65
    | 3 => 3
    | 39 => 56
    | 0 => 0
    | 53 => 77
    | 55 => 79
    | 4 => 4
    | 46 => 71
    | 45 => 70
    | 50 => 46
    | 5 => 5
    | 9 => 9
    | 66 => 80
    | 70 => 84
    | 76 => 88
    | 77 => 89
    | n => n
  g := fun n => n
theorem Tryd.sortLay : SlLaysF.n6 Tryd.prog Tryd.sortLay_ren where
  mixed := by kernel_rfl
  f6 := ⟨_, of_decide_eq_true rfl, Tryd.func56.trans (congrArg some rfl)⟩
  f14 := ⟨_, of_decide_eq_true rfl, Tryd.func64.trans (congrArg some rfl)⟩
  f15 := Tryd.func65.trans (congrArg some rfl)
  f20 := ⟨_, of_decide_eq_true rfl, Tryd.func70.trans (congrArg some rfl)⟩
  f21 := ⟨_, of_decide_eq_true rfl, Tryd.func71.trans (congrArg some rfl)⟩
  f22 := ⟨_, of_decide_eq_true rfl, Tryd.func72.trans (congrArg some rfl)⟩
  f23 := ⟨_, of_decide_eq_true rfl, Tryd.func73.trans (congrArg some rfl)⟩
  f24 := ⟨_, of_decide_eq_true rfl, Tryd.func74.trans (congrArg some rfl)⟩
  f25 := ⟨_, of_decide_eq_true rfl, Tryd.func75.trans (congrArg some rfl)⟩
  f26 := ⟨_, of_decide_eq_true rfl, Tryd.func76.trans (congrArg some rfl)⟩
  f27 := ⟨_, of_decide_eq_true rfl, Tryd.func77.trans (congrArg some rfl)⟩
  f28 := Tryd.func78.trans (congrArg some rfl)
  f29 := Tryd.func79.trans (congrArg some rfl)
  f46 := ⟨_, of_decide_eq_true rfl, Tryd.func83.trans (congrArg some rfl)⟩
  f47 := Tryd.func84.trans (congrArg some rfl)
  f48 := Tryd.func85.trans (congrArg some rfl)
  f49 := ⟨_, of_decide_eq_true rfl, Tryd.func86.trans (congrArg some rfl)⟩
  f50 := ⟨_, of_decide_eq_true rfl, Tryd.func87.trans (congrArg some rfl)⟩
  f57 := ⟨_, of_decide_eq_true rfl, Tryd.func88.trans (congrArg some rfl)⟩
  t0 := by kernel_rfl
  a0 := fun w => by kernel_rfl
  z0 := fun w => by kernel_rfl
  v0 := fun w => by kernel_rfl
  t3 := by kernel_rfl
  a3 := fun w => by kernel_rfl
  z3 := fun w => by kernel_rfl
  v3 := fun w => by kernel_rfl
  t4 := by kernel_rfl
  a4 := fun w => by kernel_rfl
  z4 := fun w => by kernel_rfl
  v4 := fun w => by kernel_rfl
  t5 := by kernel_rfl
  a5 := fun w => by kernel_rfl
  z5 := fun w => by kernel_rfl
  v5 := fun w => by kernel_rfl
  t9 := by kernel_rfl
  a9 := fun w => by kernel_rfl
  z9 := fun w => by kernel_rfl
  v9 := fun w => by kernel_rfl
  t22 := by kernel_rfl
  a22 := fun w => by kernel_rfl
  z22 := fun w => by kernel_rfl
  v22 := fun w => by kernel_rfl
  a24 := fun w => by kernel_rfl
  z24 := fun w => by kernel_rfl
  t25 := by kernel_rfl
  a25 := fun w => by kernel_rfl
  z25 := fun w => by kernel_rfl
  v25 := fun w => by kernel_rfl
  t39 := by kernel_rfl
  a39 := fun w => by kernel_rfl
  z39 := fun w => by kernel_rfl
  v39 := fun w => by kernel_rfl
  t45 := by kernel_rfl
  a45 := fun w => by kernel_rfl
  z45 := fun w => by kernel_rfl
  v45 := fun w => by kernel_rfl
  t46 := by kernel_rfl
  a46 := fun w => by kernel_rfl
  z46 := fun w => by kernel_rfl
  v46 := fun w => by kernel_rfl
  t50 := by kernel_rfl
  a50 := fun w => by kernel_rfl
  z50 := fun w => by kernel_rfl
  v50 := fun w => by kernel_rfl
  t53 := by kernel_rfl
  a53 := fun w => by kernel_rfl
  z53 := fun w => by kernel_rfl
  v53 := fun w => by kernel_rfl
  t55 := by kernel_rfl
  a55 := fun w => by kernel_rfl
  z55 := fun w => by kernel_rfl
  v55 := fun w => by kernel_rfl
  t66 := by kernel_rfl
  a66 := fun w => by kernel_rfl
  z66 := fun w => by kernel_rfl
  v66 := fun w => by kernel_rfl
  t70 := by kernel_rfl
  a70 := fun w => by kernel_rfl
  z70 := fun w => by kernel_rfl
  v70 := fun w => by kernel_rfl
  t76 := by kernel_rfl
  a76 := fun w => by kernel_rfl
  z76 := fun w => by kernel_rfl
  v76 := fun w => by kernel_rfl
  t77 := by kernel_rfl
  a77 := fun w => by kernel_rfl
  z77 := fun w => by kernel_rfl
  v77 := fun w => by kernel_rfl
def Tryd.sortLay0_ren : Go.Shelf.Ren where
  f := fun x => match x with
    | 6 => 56
    | 15 => 65
    | 14 => 64
    | 28 => 78
    | 29 => 79
    | 20 => 70
    | 21 => 71
    | 22 => 72
    | 23 => 73
    | 24 => 74
    | 25 => 75
    | 26 => 76
    | 27 => 77
    | 46 => 83
    | 47 => 84
    | 48 => 85
    | 49 => 86
    | 50 => 87
    | 57 => 88
    | n => n
  t := fun x => match x with
    | 22 => 22
    | 24 => 3
    | 25 => 65
    | 3 => 3
    | 39 => 56
    | 0 => 0
    | 53 => 77
    | 55 => 79
    | 4 => 4
    | 46 => 71
    | 45 => 70
    | 50 => 46
    | 5 => 5
    | 9 => 9
    | 66 => 80
    | 70 => 84
    | 76 => 88
    | 77 => 89
    | n => n
  g := fun n => n
theorem Tryd.sortLay0 : SlLaysF0.n6 Tryd.prog Tryd.sortLay0_ren where
  mixed := by kernel_rfl
  f6 := ⟨_, of_decide_eq_true rfl, Tryd.func56.trans (congrArg some rfl)⟩
  f14 := ⟨_, of_decide_eq_true rfl, Tryd.func64.trans (congrArg some rfl)⟩
  f15 := Tryd.func65.trans (congrArg some rfl)
  f20 := ⟨_, of_decide_eq_true rfl, Tryd.func70.trans (congrArg some rfl)⟩
  f21 := ⟨_, of_decide_eq_true rfl, Tryd.func71.trans (congrArg some rfl)⟩
  f22 := ⟨_, of_decide_eq_true rfl, Tryd.func72.trans (congrArg some rfl)⟩
  f23 := ⟨_, of_decide_eq_true rfl, Tryd.func73.trans (congrArg some rfl)⟩
  f24 := ⟨_, of_decide_eq_true rfl, Tryd.func74.trans (congrArg some rfl)⟩
  f25 := ⟨_, of_decide_eq_true rfl, Tryd.func75.trans (congrArg some rfl)⟩
  f26 := ⟨_, of_decide_eq_true rfl, Tryd.func76.trans (congrArg some rfl)⟩
  f27 := ⟨_, of_decide_eq_true rfl, Tryd.func77.trans (congrArg some rfl)⟩
  f28 := Tryd.func78.trans (congrArg some rfl)
  f29 := Tryd.func79.trans (congrArg some rfl)
  f46 := ⟨_, of_decide_eq_true rfl, Tryd.func83.trans (congrArg some rfl)⟩
  f47 := Tryd.func84.trans (congrArg some rfl)
  f48 := Tryd.func85.trans (congrArg some rfl)
  f49 := ⟨_, of_decide_eq_true rfl, Tryd.func86.trans (congrArg some rfl)⟩
  f50 := ⟨_, of_decide_eq_true rfl, Tryd.func87.trans (congrArg some rfl)⟩
  f57 := ⟨_, of_decide_eq_true rfl, Tryd.func88.trans (congrArg some rfl)⟩
  t0 := by kernel_rfl
  a0 := fun w => by kernel_rfl
  z0 := fun w => by kernel_rfl
  v0 := fun w => by kernel_rfl
  t3 := by kernel_rfl
  a3 := fun w => by kernel_rfl
  z3 := fun w => by kernel_rfl
  v3 := fun w => by kernel_rfl
  t4 := by kernel_rfl
  a4 := fun w => by kernel_rfl
  z4 := fun w => by kernel_rfl
  v4 := fun w => by kernel_rfl
  t5 := by kernel_rfl
  a5 := fun w => by kernel_rfl
  z5 := fun w => by kernel_rfl
  v5 := fun w => by kernel_rfl
  t9 := by kernel_rfl
  a9 := fun w => by kernel_rfl
  z9 := fun w => by kernel_rfl
  v9 := fun w => by kernel_rfl
  t22 := by kernel_rfl
  a22 := fun w => by kernel_rfl
  z22 := fun w => by kernel_rfl
  v22 := fun w => by kernel_rfl
  t25 := by kernel_rfl
  a25 := fun w => by kernel_rfl
  z25 := fun w => by kernel_rfl
  v25 := fun w => by kernel_rfl
  t39 := by kernel_rfl
  a39 := fun w => by kernel_rfl
  z39 := fun w => by kernel_rfl
  v39 := fun w => by kernel_rfl
  t45 := by kernel_rfl
  a45 := fun w => by kernel_rfl
  z45 := fun w => by kernel_rfl
  v45 := fun w => by kernel_rfl
  t46 := by kernel_rfl
  a46 := fun w => by kernel_rfl
  z46 := fun w => by kernel_rfl
  v46 := fun w => by kernel_rfl
  t50 := by kernel_rfl
  a50 := fun w => by kernel_rfl
  z50 := fun w => by kernel_rfl
  v50 := fun w => by kernel_rfl
  t53 := by kernel_rfl
  a53 := fun w => by kernel_rfl
  z53 := fun w => by kernel_rfl
  v53 := fun w => by kernel_rfl
  t55 := by kernel_rfl
  a55 := fun w => by kernel_rfl
  z55 := fun w => by kernel_rfl
  v55 := fun w => by kernel_rfl
  t66 := by kernel_rfl
  a66 := fun w => by kernel_rfl
  z66 := fun w => by kernel_rfl
  v66 := fun w => by kernel_rfl
  t70 := by kernel_rfl
  a70 := fun w => by kernel_rfl
  z70 := fun w => by kernel_rfl
  v70 := fun w => by kernel_rfl
  t76 := by kernel_rfl
  a76 := fun w => by kernel_rfl
  z76 := fun w => by kernel_rfl
  v76 := fun w => by kernel_rfl
  t77 := by kernel_rfl
  a77 := fun w => by kernel_rfl
  z77 := fun w => by kernel_rfl
  v77 := fun w => by kernel_rfl
end Go.Proofs
