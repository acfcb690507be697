/- Functions of the program, each told as a plain equation. -/
import Derived.Test.YtonbmmjagdbgaaaGreatDoorSymHND
namespace Go.Sym
open Go.Proofs
set_option linter.unusedVariables false
set_option linter.unusedSimpArgs false
set_option maxRecDepth 100000
set_option maxHeartbeats 4000000

/- laws.FnExamples -/
def K_lawExamples : List AV → List Ob → Option (AV × List Ob)
  | [.lst (.int .u8) b], [] => gd (b.length ≤ maxLen) (.bool true, [])
  | _, _ => none
@[reducible] def E_lawExamples : Env := mkE (tb [(7, K_bigL), (28, K_drawExampleText), (29, K_drawDescribeContext), (30, K_drawKindName), (27, K_implDescribeExample), (32, K_implExampleText), (31, K_specParseContext), (26, K_specDescribeExample), (33, K_specExampleText), (24, K_implDescribe), (22, K_specDescribe), (34, K_implKindName), (35, K_specKindName)]) (fun f => false) (fun r => ([], []))
theorem ev_lawExamples (b : List Int) (hp : b.length ≤ maxLen) : evF E_lawExamples (1) Tryz.f6 [.lst (.int .u8) b] [] = some (.bool true, []) := by
  conv => lhs; whnf
  conv => lhs; arg 1; whnf
  refine bnd_g (by exact True.intro) ?_
  conv => lhs; whnf
  refine br_c (fun g => ?_) (fun g => ?_)
  · conv => lhs; whnf
  · have hb : b.length ≤ 1048576 := by have := ofn g; omega
    have n0 := newC_ok hb
    have hd := d21_len n0
    have hl := ex_len (be b (newC b) 9 - 1)
    have he := ex_eq (be b (newC b) 9 - 1)
    have ho := ex_ok (be b (newC b) 9 - 1)
    have hn := exD_nil (be b (newC b) 9 - 1)
    conv => lhs; whnf
    conv => lhs; arg 1; whnf
    refine bnd_g (by exact hb) ?_
    conv => lhs; whnf
    conv => lhs; arg 1; whnf
    refine bnd_g (by exact hb) ?_
    conv => lhs; whnf
    conv => lhs; arg 1; whnf
    refine bnd_g (by exact hb) ?_
    conv => lhs; whnf
    conv => lhs; arg 1; whnf
    refine bnd_g (by exact True.intro) ?_
    conv => lhs; whnf
    conv => lhs; arg 1; whnf
    refine bnd_g (by exact True.intro) ?_
    conv => lhs; whnf
    have f1 : ((exD (be b (newC b) 9 - 1)).toList == (exD (be b (newC b) 9 - 1)).toList) = true := beq_self_eq_true _
    have f2 : ((exText (be b (newC b) 9 - 1)).toList == (exText (be b (newC b) 9 - 1)).toList) = true := beq_self_eq_true _
    have f3 : ((dscF (d21 b (newC b)).1 (d21 b (newC b)).2.1).toList == (dscF (d21 b (newC b)).1 (d21 b (newC b)).2.1).toList) = true := beq_self_eq_true _
    have f4 : ((kindF (d21 b (newC b)).1 (d21 b (newC b)).2.1).toList == (kindF (d21 b (newC b)).1 (d21 b (newC b)).2.1).toList) = true := beq_self_eq_true _
    have f5 : ((pcS (exText (be b (newC b) 9 - 1))).2.2 == !((exText (be b (newC b) 9 - 1)).toList == (⟨#[]⟩ : ByteArray).toList)) = true := by rw [he, ho.1]; exact beq_self_eq_true _
    have f6 : (((exD (be b (newC b) 9 - 1)).toList == (⟨#[]⟩ : ByteArray).toList) == ((exText (be b (newC b) 9 - 1)).toList == (⟨#[]⟩ : ByteArray).toList)) = true := by rw [hn]; exact beq_self_eq_true _
    rw [← he] at hl
    conv => lhs; arg 1; whnf
    refine bnd_g (by exact ex_pS _) ?_
    conv => lhs; whnf
    conv => lhs; arg 1; whnf
    refine bnd_g (by exact True.intro) ?_
    conv => lhs; whnf
    repeat ((first | with_reducible apply br_tt | with_reducible apply br_ff | with_reducible apply br_nf | with_reducible apply br_nt | with_reducible refine br_d ?_ (by kernel_rfl) | with_reducible apply br_t f1 | with_reducible apply br_f f1); conv => lhs; whnf)
    conv => lhs; arg 1; whnf
    refine bnd_g (by exact True.intro) ?_
    conv => lhs; whnf
    repeat ((first | with_reducible apply br_tt | with_reducible apply br_ff | with_reducible apply br_nf | with_reducible apply br_nt | with_reducible refine br_d ?_ (by kernel_rfl) | with_reducible apply br_t f1 | with_reducible apply br_f f1); conv => lhs; whnf)
    conv => lhs; arg 1; whnf
    refine bnd_g (by exact True.intro) ?_
    conv => lhs; whnf
    repeat ((first | with_reducible apply br_tt | with_reducible apply br_ff | with_reducible apply br_nf | with_reducible apply br_nt | with_reducible refine br_d ?_ (by kernel_rfl) | with_reducible apply br_t f1 | with_reducible apply br_f f1 | with_reducible apply br_t f2 | with_reducible apply br_f f2); conv => lhs; whnf)
    conv => lhs; arg 1; whnf
    refine bnd_g (by omega) ?_
    conv => lhs; whnf
    repeat ((first | with_reducible apply br_tt | with_reducible apply br_ff | with_reducible apply br_nf | with_reducible apply br_nt | with_reducible refine br_d ?_ (by kernel_rfl) | with_reducible apply br_t f1 | with_reducible apply br_f f1 | with_reducible apply br_t f2 | with_reducible apply br_f f2); conv => lhs; whnf)
    conv => lhs; arg 1; whnf
    refine bnd_g (by omega) ?_
    conv => lhs; whnf
    repeat ((first | with_reducible apply br_tt | with_reducible apply br_ff | with_reducible apply br_nf | with_reducible apply br_nt | with_reducible refine br_d ?_ (by kernel_rfl) | with_reducible apply br_t f1 | with_reducible apply br_f f1 | with_reducible apply br_t f2 | with_reducible apply br_f f2 | with_reducible apply br_t f3 | with_reducible apply br_f f3); conv => lhs; whnf)
    conv => lhs; arg 1; whnf
    refine bnd_g (by omega) ?_
    conv => lhs; whnf
    repeat ((first | with_reducible apply br_tt | with_reducible apply br_ff | with_reducible apply br_nf | with_reducible apply br_nt | with_reducible refine br_d ?_ (by kernel_rfl) | with_reducible apply br_t f1 | with_reducible apply br_f f1 | with_reducible apply br_t f2 | with_reducible apply br_f f2 | with_reducible apply br_t f3 | with_reducible apply br_f f3); conv => lhs; whnf)
    conv => lhs; arg 1; whnf
    refine bnd_g (by omega) ?_
    conv => lhs; whnf
    repeat ((first | with_reducible apply br_tt | with_reducible apply br_ff | with_reducible apply br_nf | with_reducible apply br_nt | with_reducible refine br_d ?_ (by kernel_rfl) | with_reducible apply br_t f1 | with_reducible apply br_f f1 | with_reducible apply br_t f2 | with_reducible apply br_f f2 | with_reducible apply br_t f3 | with_reducible apply br_f f3 | with_reducible apply br_t f4 | with_reducible apply br_f f4); conv => lhs; whnf)
    conv => lhs; arg 1; whnf
    refine bnd_g (by exact True.intro) ?_
    conv => lhs; whnf
    repeat ((first | with_reducible apply br_tt | with_reducible apply br_ff | with_reducible apply br_nf | with_reducible apply br_nt | with_reducible refine br_d ?_ (by kernel_rfl) | with_reducible apply br_t f1 | with_reducible apply br_f f1 | with_reducible apply br_t f2 | with_reducible apply br_f f2 | with_reducible apply br_t f3 | with_reducible apply br_f f3 | with_reducible apply br_t f4 | with_reducible apply br_f f4 | with_reducible apply br_t f5 | with_reducible apply br_f f5); conv => lhs; whnf)
    conv => lhs; arg 1; whnf
    refine bnd_g (by exact True.intro) ?_
    conv => lhs; whnf
    repeat ((first | with_reducible apply br_tt | with_reducible apply br_ff | with_reducible apply br_nf | with_reducible apply br_nt | with_reducible refine br_d ?_ (by kernel_rfl) | with_reducible apply br_t f1 | with_reducible apply br_f f1 | with_reducible apply br_t f2 | with_reducible apply br_f f2 | with_reducible apply br_t f3 | with_reducible apply br_f f3 | with_reducible apply br_t f4 | with_reducible apply br_f f4 | with_reducible apply br_t f5 | with_reducible apply br_f f5 | with_reducible apply br_t f6 | with_reducible apply br_f f6); conv => lhs; whnf)
    refine br_c (fun h => ?_) (fun h => ?_)
    · conv => lhs; whnf
      repeat ((first | with_reducible apply br_tt | with_reducible apply br_ff | with_reducible apply br_nf | with_reducible apply br_nt | with_reducible refine br_d ?_ (by kernel_rfl) | with_reducible apply br_t f1 | with_reducible apply br_f f1 | with_reducible apply br_t f2 | with_reducible apply br_f f2 | with_reducible apply br_t f3 | with_reducible apply br_f f3 | with_reducible apply br_t f4 | with_reducible apply br_f f4 | with_reducible apply br_t f5 | with_reducible apply br_f f5 | with_reducible apply br_t f6 | with_reducible apply br_f f6 | with_reducible apply br_t h | with_reducible apply br_f h); conv => lhs; whnf)
      all_goals rfl
    · have h' : (pcS (exText (be b (newC b) 9 - 1))).2.2 = true := bnf h
      have e : exD (be b (newC b) 9 - 1) = dscF (pcS (exText (be b (newC b) 9 - 1))).1 (pcS (exText (be b (newC b) 9 - 1))).2.1 := by
        rw [he] at h' ⊢
        exact exD_ok h'
      have f7 : ((exD (be b (newC b) 9 - 1)).toList == (dscF (pcS (exText (be b (newC b) 9 - 1))).1 (pcS (exText (be b (newC b) 9 - 1))).2.1).toList) = true := by rw [e]; exact beq_self_eq_true _
      conv => lhs; whnf
      repeat ((first | with_reducible apply br_tt | with_reducible apply br_ff | with_reducible apply br_nf | with_reducible apply br_nt | with_reducible refine br_d ?_ (by kernel_rfl) | with_reducible apply br_t f1 | with_reducible apply br_f f1 | with_reducible apply br_t f2 | with_reducible apply br_f f2 | with_reducible apply br_t f3 | with_reducible apply br_f f3 | with_reducible apply br_t f4 | with_reducible apply br_f f4 | with_reducible apply br_t f5 | with_reducible apply br_f f5 | with_reducible apply br_t f6 | with_reducible apply br_f f6 | with_reducible apply br_t h | with_reducible apply br_f h); conv => lhs; whnf)
      conv => lhs; arg 1; whnf
      refine bnd_g (by omega) ?_
      conv => lhs; whnf
      repeat ((first | with_reducible apply br_tt | with_reducible apply br_ff | with_reducible apply br_nf | with_reducible apply br_nt | with_reducible refine br_d ?_ (by kernel_rfl) | with_reducible apply br_t f1 | with_reducible apply br_f f1 | with_reducible apply br_t f2 | with_reducible apply br_f f2 | with_reducible apply br_t f3 | with_reducible apply br_f f3 | with_reducible apply br_t f4 | with_reducible apply br_f f4 | with_reducible apply br_t f5 | with_reducible apply br_f f5 | with_reducible apply br_t f6 | with_reducible apply br_f f6 | with_reducible apply br_t h | with_reducible apply br_f h); conv => lhs; whnf)
      all_goals exact okB f7
theorem ok_lawExamples : FnOk Tryz.prog 6 K_lawExamples := by
  refine fn_ok (fn := Tryz.f6) (k := Tryz.f6.ntmps) (E := E_lawExamples) (facts_of (List.forall_mem_cons.2 ⟨ok_bigL, List.forall_mem_cons.2 ⟨ok_drawExampleText, List.forall_mem_cons.2 ⟨ok_drawDescribeContext, List.forall_mem_cons.2 ⟨ok_drawKindName, List.forall_mem_cons.2 ⟨ok_implDescribeExample, List.forall_mem_cons.2 ⟨ok_implExampleText, List.forall_mem_cons.2 ⟨ok_specParseContext, List.forall_mem_cons.2 ⟨ok_specDescribeExample, List.forall_mem_cons.2 ⟨ok_specExampleText, List.forall_mem_cons.2 ⟨ok_implDescribe, List.forall_mem_cons.2 ⟨ok_specDescribe, List.forall_mem_cons.2 ⟨(FnOk.soft (fun h => False.elim h) ok_implKindName), List.forall_mem_cons.2 ⟨(FnOk.soft (fun h => False.elim h) ok_specKindName), List.forall_mem_nil _⟩⟩⟩⟩⟩⟩⟩⟩⟩⟩⟩⟩⟩)) (by kernel_rfl) rfl (by decide +kernel) (by decide +kernel) ?_
  intro avs hin r h
  unfold K_lawExamples at h
  split at h
  · obtain ⟨hp, rfl⟩ := gd_o h
    exact ⟨_, ev_lawExamples _ hp, rfl⟩
  · cases h

end Go.Sym
