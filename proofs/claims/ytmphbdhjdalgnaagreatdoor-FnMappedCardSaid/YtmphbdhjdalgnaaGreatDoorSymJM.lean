/- The symbolic machine and the model: an append of nothing. -/
import Derived.Test.YtmphbdhjdalgnaaGreatDoorSymJ
namespace Go.Sym
set_option linter.unusedVariables false
set_option linter.unusedSimpArgs false
section
variable [Globs] [Dm] {P : Program}
theorem run_append_zero {t ty el : TypeId} {ti : TI} (ht : P.underlying t = some (.slice el)) (hE : TyRow P el ti) (w : World) (hni : (match P.underlying t with | some (.int _) => true | _ => false) = false) {base a : Option Addr} {n cap c : Nat} (hn : n ≤ cap) :
    (Builtin.append_ #[t, t] ty #[.slice base n cap, .slice a 0 c]).run P w = .ok (.slice base n cap) w := by
  have hf : (Builtin.firstCells ti.size 0 (.slice a 0 c)).run P w = .ok #[] w := by
    cases a <;> simp [Builtin.firstCells, loadCells, loadCellsFrom]
  cases base <;> simp [Builtin.append_, run_underlying ht, run_size' hE, Builtin.lenOf, hn, hf, storeCells]

end
end Go.Sym
