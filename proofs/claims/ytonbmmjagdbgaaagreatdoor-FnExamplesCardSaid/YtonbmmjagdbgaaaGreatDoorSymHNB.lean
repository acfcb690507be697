/- Functions of the program, each told as a plain equation. -/
import Derived.Test.YtonbmmjagdbgaaaGreatDoorSymHNA
namespace Go.Sym
open Go.Proofs
set_option linter.unusedVariables false
set_option linter.unusedSimpArgs false
set_option maxRecDepth 100000
set_option maxHeartbeats 4000000

theorem ex_cases (k : Int) : k = 1 ∨ k = 2 ∨ k = 3 ∨ k = 4 ∨ k = 5 ∨ k = 6 ∨ exText k = ⟨#[]⟩ := by
  by_cases h1 : k = 1
  · exact .inl h1
  by_cases h2 : k = 2
  · exact .inr (.inl h2)
  by_cases h3 : k = 3
  · exact .inr (.inr (.inl h3))
  by_cases h4 : k = 4
  · exact .inr (.inr (.inr (.inl h4)))
  by_cases h5 : k = 5
  · exact .inr (.inr (.inr (.inr (.inl h5))))
  by_cases h6 : k = 6
  · exact .inr (.inr (.inr (.inr (.inr (.inl h6)))))
  refine .inr (.inr (.inr (.inr (.inr (.inr ?_)))))
  unfold exText
  rw [if_neg h1, if_neg h2, if_neg h3, if_neg h4, if_neg h5, if_neg h6]
theorem ex_all {p : ByteArray → Prop} (h1 : p (exText 1)) (h2 : p (exText 2)) (h3 : p (exText 3)) (h4 : p (exText 4)) (h5 : p (exText 5)) (h6 : p (exText 6)) (h7 : p ⟨#[]⟩) (k : Int) : p (exText k) := by
  rcases ex_cases k with rfl | rfl | rfl | rfl | rfl | rfl | h
  · exact h1
  · exact h2
  · exact h3
  · exact h4
  · exact h5
  · exact h6
  · rw [h]; exact h7
theorem ex_pI (k : Int) : (exText k).size ≤ 900 ∧ (atO (cutB (exText k) ⟨#[32]⟩).1 || atS (cutB (exText k) ⟨#[32]⟩).1) = true := ex_all (p := fun t => t.size ≤ 900 ∧ (atO (cutB t ⟨#[32]⟩).1 || atS (cutB t ⟨#[32]⟩).1) = true) (by decide +kernel) (by decide +kernel) (by decide +kernel) (by decide +kernel) (by decide +kernel) (by decide +kernel) (by decide +kernel) k
theorem ex_pS (k : Int) : (exText k).size ≤ 900 ∧ (okCS (exText k) || decide ((splB (exText k) 32).length ≠ 2)) = true := ex_all (p := fun t => t.size ≤ 900 ∧ (okCS t || decide ((splB t 32).length ≠ 2)) = true) (by decide +kernel) (by decide +kernel) (by decide +kernel) (by decide +kernel) (by decide +kernel) (by decide +kernel) (by decide +kernel) k
theorem ex_eq (k : Int) : pcS (exText k) = pcI (exText k) := ex_all (p := fun t => pcS t = pcI t) (by decide +kernel) (by decide +kernel) (by decide +kernel) (by decide +kernel) (by decide +kernel) (by decide +kernel) (by decide +kernel) k
theorem ex_len (k : Int) : (pcI (exText k)).2.1.length ≤ 100 := ex_all (p := fun t => (pcI t).2.1.length ≤ 100) (by decide +kernel) (by decide +kernel) (by decide +kernel) (by decide +kernel) (by decide +kernel) (by decide +kernel) (by decide +kernel) k
/-- A text parses just if it is one; what parses is a context. -/
theorem ex_ok (k : Int) : (pcI (exText k)).2.2 = !((exText k).toList == (⟨#[]⟩ : ByteArray).toList) ∧ isCtx (pcI (exText k)).1 (pcI (exText k)).2.1 = true := by
  have e : ∀ t : ByteArray, (t.toList == (⟨#[]⟩ : ByteArray).toList) = (t.data.toList == []) := fun t => by rw [ByteArray.toList_eq, ByteArray.toList_eq]
  rw [e]
  exact ex_all (p := fun t => (pcI t).2.2 = (!(t.data.toList == [])) ∧ isCtx (pcI t).1 (pcI t).2.1 = true) (by decide +kernel) (by decide +kernel) (by decide +kernel) (by decide +kernel) (by decide +kernel) (by decide +kernel) (by decide +kernel) k
def exD (k : Int) : ByteArray := bif (pcI (exText k)).2.2 then dscF (pcI (exText k)).1 (pcI (exText k)).2.1 else ⟨#[]⟩
theorem exD_ok {k : Int} (h : (pcI (exText k)).2.2 = true) : exD k = dscF (pcI (exText k)).1 (pcI (exText k)).2.1 := by
  unfold exD
  rw [h, cond_true]
theorem exD_no {k : Int} (h : (pcI (exText k)).2.2 = false) : exD k = ⟨#[]⟩ := by
  unfold exD
  rw [h, cond_false]
theorem exD_nil (k : Int) : ((exD k).toList == (⟨#[]⟩ : ByteArray).toList) = ((exText k).toList == (⟨#[]⟩ : ByteArray).toList) := by
  have ho := ex_ok k
  cases h : (pcI (exText k)).2.2
  · rw [exD_no h, beq_self_eq_true]
    rw [h] at ho
    have := ho.1
    cases hq : (exText k).toList == (⟨#[]⟩ : ByteArray).toList
    · rw [hq] at this
      cases this
    · rfl
  · rw [exD_ok h]
    rw [h] at ho
    have h2 : ((exText k).toList == (⟨#[]⟩ : ByteArray).toList) = false := by
      cases hq : (exText k).toList == (⟨#[]⟩ : ByteArray).toList
      · rfl
      · have := ho.1
        rw [hq] at this
        cases this
    rw [h2]
    have hs : 38 ≤ (dscF (pcI (exText k)).1 (pcI (exText k)).2.1).size := by
      unfold dscF
      rw [ho.2, cond_true, dsc_size]
      omega
    rw [ByteArray.toList_eq, ByteArray.toList_eq]
    have h3 : (dscF (pcI (exText k)).1 (pcI (exText k)).2.1).data.toList.length = (dscF (pcI (exText k)).1 (pcI (exText k)).2.1).size := rfl
    cases hl : (dscF (pcI (exText k)).1 (pcI (exText k)).2.1).data.toList
    · rw [hl] at h3
      simp at h3
      omega
    · rfl
/- impl.DescribeExample -/
def K_implDescribeExample : List AV → List Ob → Option (AV × List Ob)
  | [.int .i64 k], [] => gd (True) (.str (exD k), [])
  | _, _ => none
@[reducible] def E_implDescribeExample : Env := mkE (tb [(32, K_implExampleText), (75, K_implParseContext), (24, K_implDescribe)]) (fun f => false) (fun r => ([], []))
theorem ev_implDescribeExample (k : Int) (hp : True) : evF E_implDescribeExample (1) Tryz.f27 [.int .i64 k] [] = some (.str (exD k), []) := by
  have hl := ex_len k
  conv => lhs; whnf
  conv => lhs; arg 1; whnf
  refine bnd_g (by exact True.intro) ?_
  conv => lhs; whnf
  conv => lhs; arg 1; whnf
  refine bnd_g (by exact ex_pI k) ?_
  conv => lhs; whnf
  refine br_c (fun h => ?_) (fun h => ?_)
  · have e := exD_no (k := k) (bnt h)
    conv => rhs; rw [e]
    conv => lhs; whnf
  · have e := exD_ok (k := k) (bnf h)
    conv => rhs; rw [e]
    conv => lhs; whnf
    conv => lhs; arg 1; whnf
    refine bnd_g (by omega) ?_
    conv => lhs; whnf
theorem ok_implDescribeExample : FnOk Tryz.prog 27 K_implDescribeExample := by
  refine fn_ok (fn := Tryz.f27) (k := Tryz.f27.ntmps) (E := E_implDescribeExample) (facts_of (List.forall_mem_cons.2 ⟨ok_implExampleText, List.forall_mem_cons.2 ⟨ok_implParseContext, List.forall_mem_cons.2 ⟨ok_implDescribe, List.forall_mem_nil _⟩⟩⟩)) (by kernel_rfl) rfl (by decide +kernel) (by decide +kernel) ?_
  intro avs hin r h
  unfold K_implDescribeExample at h
  split at h
  · obtain ⟨hp, rfl⟩ := gd_o h
    exact ⟨_, ev_implDescribeExample _ hp, rfl⟩
  · cases h

/- spec.DescribeExample -/
def K_specDescribeExample : List AV → List Ob → Option (AV × List Ob)
  | [.int .i64 k], [] => gd (True) (.str (exD k), [])
  | _, _ => none
@[reducible] def E_specDescribeExample : Env := mkE (tb [(33, K_specExampleText), (31, K_specParseContext), (22, K_specDescribe)]) (fun f => false) (fun r => ([], []))
theorem ev_specDescribeExample (k : Int) (hp : True) : evF E_specDescribeExample (1) Tryz.f26 [.int .i64 k] [] = some (.str (exD k), []) := by
  have hl := ex_len k
  have he := ex_eq k
  rw [← he] at hl
  conv => lhs; whnf
  conv => lhs; arg 1; whnf
  refine bnd_g (by exact True.intro) ?_
  conv => lhs; whnf
  conv => lhs; arg 1; whnf
  refine bnd_g (by exact ex_pS k) ?_
  conv => lhs; whnf
  refine br_c (fun h => ?_) (fun h => ?_)
  · have h' : (pcS (exText k)).2.2 = false := bnt h
    rw [he] at h'
    have e := exD_no h'
    conv => rhs; rw [e]
    conv => lhs; whnf
  · have h' : (pcS (exText k)).2.2 = true := bnf h
    rw [he] at h'
    have e := exD_ok h'
    rw [← he] at e
    conv => rhs; rw [e]
    conv => lhs; whnf
    conv => lhs; arg 1; whnf
    refine bnd_g (by omega) ?_
    conv => lhs; whnf
theorem ok_specDescribeExample : FnOk Tryz.prog 26 K_specDescribeExample := by
  refine fn_ok (fn := Tryz.f26) (k := Tryz.f26.ntmps) (E := E_specDescribeExample) (facts_of (List.forall_mem_cons.2 ⟨ok_specExampleText, List.forall_mem_cons.2 ⟨ok_specParseContext, List.forall_mem_cons.2 ⟨ok_specDescribe, List.forall_mem_nil _⟩⟩⟩)) (by kernel_rfl) rfl (by decide +kernel) (by decide +kernel) ?_
  intro avs hin r h
  unfold K_specDescribeExample at h
  split at h
  · obtain ⟨hp, rfl⟩ := gd_o h
    exact ⟨_, ev_specDescribeExample _ hp, rfl⟩
  · cases h

end Go.Sym
