/- Functions of the program, each told as a plain equation. -/
import Derived.Test.YtonbmmjagdbgaaaGreatDoorSymRB
namespace Go.Sym
open Go.Proofs
set_option linter.unusedVariables false
set_option linter.unusedSimpArgs false
set_option maxRecDepth 100000
set_option maxHeartbeats 4000000

/- laws.FnExactDescribeContext -/
def K_lawDescribe : List AV → List Ob → Option (AV × List Ob)
  | [.agg [.int .i64 m, .lst (.int .i64) a]], [] => gd (a.length ≤ maxLen) (.bool true, [])
  | _, _ => none
@[reducible] def E_lawDescribe : Env := mkE (tb [(21, K_szContext), (23, K_toContext), (22, K_specDescribe), (24, K_implDescribe), (25, K_eqContext)]) (fun f => false) (fun r => ([], []))
theorem ev_lawDescribe (m : Int) (a : List Int) (hp : a.length ≤ maxLen) : evF E_lawDescribe (1) Tryz.f4 [.agg [.int .i64 m, .lst (.int .i64) a]] [] = some (.bool true, []) := by
  conv => lhs; whnf
  conv => lhs; arg 1; whnf
  refine bnd_g (by exact ⟨by omega, by omega, hp⟩) ?_
  conv => lhs; whnf
  refine br_c (fun h1 => ?_) (fun h1 => ?_)
  · conv => lhs; whnf
  · conv => lhs; whnf
    obtain ⟨e1, l1⟩ := szI_ok (ofn h1)
    conv => lhs; arg 1; whnf
    refine bnd_g (by omega) ?_
    conv => lhs; whnf
    conv => lhs; arg 1; whnf
    refine bnd_g (by omega) ?_
    conv => lhs; whnf
    conv => lhs; arg 1; whnf
    refine bnd_g (by omega) ?_
    conv => lhs; whnf
    conv => lhs; arg 1; whnf
    refine bnd_g (by omega) ?_
    conv => lhs; whnf
    repeat ((first | with_reducible apply br_tt | with_reducible apply br_ff | with_reducible apply br_nf | with_reducible apply br_nt | with_reducible refine br_d ?_ (by kernel_rfl) | with_reducible refine br_f (by simp; done) ?_); conv => lhs; whnf)
    conv => lhs; arg 1; whnf
    refine bnd_g (by omega) ?_
    conv => lhs; whnf
    conv => lhs; arg 1; whnf
    refine bnd_g (by exact ⟨by omega, by omega⟩) ?_
    conv => lhs; whnf
    repeat ((first | with_reducible apply br_tt | with_reducible apply br_ff | with_reducible apply br_nf | with_reducible apply br_nt | with_reducible refine br_d ?_ (by kernel_rfl) | with_reducible refine br_f (by simp; done) ?_); conv => lhs; whnf)
theorem ok_lawDescribe : FnOk Tryz.prog 4 K_lawDescribe := by
  refine fn_ok (fn := Tryz.f4) (k := Tryz.f4.ntmps) (E := E_lawDescribe) (facts_of (List.forall_mem_cons.2 ⟨(FnOk.soft (fun h => False.elim h) ok_szContext), List.forall_mem_cons.2 ⟨(FnOk.soft (fun h => False.elim h) ok_toContext), List.forall_mem_cons.2 ⟨ok_specDescribe, List.forall_mem_cons.2 ⟨ok_implDescribe, List.forall_mem_cons.2 ⟨(FnOk.soft (fun h => False.elim h) ok_eqContext), List.forall_mem_nil _⟩⟩⟩⟩⟩)) (by kernel_rfl) rfl (by decide +kernel) (by decide +kernel) ?_
  intro avs hin r h
  unfold K_lawDescribe at h
  split at h
  · obtain ⟨hp, rfl⟩ := gd_o h
    exact ⟨_, ev_lawDescribe _ _ hp, rfl⟩
  · cases h

end Go.Sym
