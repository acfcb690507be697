/- Functions of the program, each told as a plain equation. -/
import Derived.Test.YtonbmmjagdbgaaaGreatDoorSymHNB
namespace Go.Sym
open Go.Proofs
set_option linter.unusedVariables false
set_option linter.unusedSimpArgs false
set_option maxRecDepth 100000
set_option maxHeartbeats 4000000

/- laws.FnExactDescribeExample -/
def K_lawDescribeExample : List AV → List Ob → Option (AV × List Ob)
  | [.int .i64 k], [] => gd (True) (.bool true, [])
  | _, _ => none
@[reducible] def E_lawDescribeExample : Env := mkE (tb [(26, K_specDescribeExample), (27, K_implDescribeExample)]) (fun f => false) (fun r => ([], []))
theorem ev_lawDescribeExample (k : Int) (hp : True) : evF E_lawDescribeExample (1) Tryz.f5 [.int .i64 k] [] = some (.bool true, []) := by
  conv => lhs; whnf
  conv => lhs; arg 1; whnf
  refine bnd_g (by exact True.intro) ?_
  conv => lhs; whnf
  conv => lhs; arg 1; whnf
  refine bnd_g (by exact True.intro) ?_
  conv => lhs; whnf
  repeat ((first | with_reducible apply br_tt | with_reducible apply br_ff | with_reducible apply br_nf | with_reducible apply br_nt | with_reducible refine br_d ?_ (by kernel_rfl) | with_reducible refine br_f (by simp; done) ?_); conv => lhs; whnf)
theorem ok_lawDescribeExample : FnOk Tryz.prog 5 K_lawDescribeExample := by
  refine fn_ok (fn := Tryz.f5) (k := Tryz.f5.ntmps) (E := E_lawDescribeExample) (facts_of (List.forall_mem_cons.2 ⟨ok_specDescribeExample, List.forall_mem_cons.2 ⟨ok_implDescribeExample, List.forall_mem_nil _⟩⟩)) (by kernel_rfl) rfl (by decide +kernel) (by decide +kernel) ?_
  intro avs hin r h
  unfold K_lawDescribeExample at h
  split at h
  · obtain ⟨hp, rfl⟩ := gd_o h
    exact ⟨_, ev_lawDescribeExample _ hp, rfl⟩
  · cases h

end Go.Sym
