/- Functions of the program, each told as a plain equation. -/
import Derived.Test.YtdkcdkjdljflbaaGreatDoorSymK5
namespace Go.Sym
open Go.Proofs
set_option linter.unusedVariables false
set_option linter.unusedSimpArgs false
set_option maxRecDepth 100000
set_option maxHeartbeats 4000000

/- laws.FnExactKindName -/
def K_lawKindName : List AV → List Ob → Option (AV × List Ob)
  | [.agg [.int .i64 m, .lst (.int .i64) b]], [] => gd (b.length ≤ maxLen) (.bool true, [])
  | _, _ => none
@[reducible] def E_lawKindName : Env := mkE (tb [(28, K_szContext), (30, K_toContext), (29, K_specKindName), (31, K_implKindName), (32, K_eqContext)]) (fun f => false) (fun r => ([], []))
theorem ev_lawKindName (m : Int) (b : List Int) (hp : b.length ≤ maxLen) : evF E_lawKindName (1) Tryz.f4 [.agg [.int .i64 m, .lst (.int .i64) b]] [] = some (.bool true, []) := by
  conv => lhs; whnf
  conv => lhs; arg 1; whnf
  refine bnd_g (by exact ⟨by omega, by omega, hp⟩) ?_
  conv => lhs; whnf
  refine br_c (fun h1 => ?_) (fun h1 => ?_)
  · conv => lhs; whnf
  · have g := szI_ok (ofn h1)
    have e1 := g.1
    have s1 := g.2
    conv => lhs; whnf
    conv => lhs; arg 1; whnf
    refine bnd_g (by omega) ?_
    conv => lhs; whnf
    conv => lhs; arg 1; whnf
    refine bnd_g (by omega) ?_
    conv => lhs; whnf
    conv => lhs; arg 1; whnf
    refine bnd_g (by omega) ?_
    conv => lhs; whnf
    conv => lhs; arg 1; whnf
    refine bnd_g (by omega) ?_
    conv => lhs; whnf
    repeat ((first | with_reducible apply br_tt | with_reducible apply br_ff | with_reducible apply br_nf | with_reducible apply br_nt | with_reducible refine br_d ?_ (by kernel_rfl) | with_reducible refine br_f (by simp; done) ?_); conv => lhs; whnf)
    conv => lhs; arg 1; whnf
    refine bnd_g (by omega) ?_
    conv => lhs; whnf
    conv => lhs; arg 1; whnf
    refine bnd_g (by exact ⟨by omega, by omega⟩) ?_
    conv => lhs; whnf
    repeat ((first | with_reducible apply br_tt | with_reducible apply br_ff | with_reducible apply br_nf | with_reducible apply br_nt | with_reducible refine br_d ?_ (by kernel_rfl) | with_reducible refine br_f (by simp; done) ?_); conv => lhs; whnf)
theorem ok_lawKindName : FnOk Tryz.prog 4 K_lawKindName := by
  refine fn_ok (fn := Tryz.f4) (k := Tryz.f4.ntmps) (E := E_lawKindName) (facts_of (List.forall_mem_cons.2 ⟨ok_szContext, List.forall_mem_cons.2 ⟨ok_toContext, List.forall_mem_cons.2 ⟨ok_specKindName, List.forall_mem_cons.2 ⟨ok_implKindName, List.forall_mem_cons.2 ⟨ok_eqContext, List.forall_mem_nil _⟩⟩⟩⟩⟩)) (by kernel_rfl) rfl (by decide +kernel) (by decide +kernel) ?_
  intro avs hin r h
  unfold K_lawKindName at h
  split at h
  · obtain ⟨hp, rfl⟩ := gd_o h
    exact ⟨_, ev_lawKindName _ _ hp, rfl⟩
  · cases h

end Go.Sym
