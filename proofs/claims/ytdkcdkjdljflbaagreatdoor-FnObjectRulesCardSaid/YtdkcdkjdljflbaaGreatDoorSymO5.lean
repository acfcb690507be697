/- Functions of the program, each told as a plain equation. -/
import Derived.Test.YtdkcdkjdljflbaaGreatDoorSymO4
namespace Go.Sym
open Go.Proofs
set_option linter.unusedVariables false
set_option linter.unusedSimpArgs false
set_option maxRecDepth 100000
set_option maxHeartbeats 4000000

/- laws.FnObjectRules -/
def K_lawObjectRules : List AV → List Ob → Option (AV × List Ob)
  | [.lst (.int .u8) b], [] => gd (b.length ≤ maxLen) (.bool true, [])
  | _, _ => none
@[reducible] def E_lawObjectRules : Env := mkE (tb [(6, K_bigL), (33, K_drawObjectRuleHolds), (34, K_implObjectRuleHolds), (44, K_specObjectRuleHolds), (35, K_drawObjectBase), (36, K_implObjectBase), (37, K_specObjectBase), (38, K_drawExploreObjects), (39, K_implExploreObjects), (40, K_specExploreObjects), (41, K_drawSharedBy), (46, K_implSharedBy), (47, K_specSharedBy), (42, K_drawNearestObjects), (43, K_implNearestObjects), (48, K_specNearestObjects), (22, K_sameRules), (17, K_sameInts), (45, K_sameExploration), (49, K_specDual), (27, K_specHoldsIn)]) (fun f => false) (fun r => bif r == 17 then ([3, 4, 5, 6, 7, 18, 19, 20, 21], [2, 3, 4, 5, 18, 19, 20]) else bif r == 22 then ([3, 4, 5, 18, 19, 20, 22], [2, 3, 4, 5]) else ([], []))
theorem lp_lawObjectRules (m0 p0 q0 m6 m18 g : Int) (h : Bool) (a0 a6 a18 ns : List Int) (bs : List (Int × Int)) (ha : a6.length ≤ 1048576) (hb : bs.length ≤ 64) (hh : ∀ r ∈ bs, orhF m6 a6 r.1 r.2 = true) (k : AX → S → Option (AV × List Ob)) (d : Nat) : ∀ (n i : Nat) (x : Int), bs.length - i = d → i ≤ bs.length → x = i → d < n →
    lpAt E_lawObjectRules (lp E_lawObjectRules 0 n) 0 (loopAt Tryz.f5 0) (mkS [3, 4, 5, 6, 7, 18, 19, 20, 21] [.ptr 0 0, .ptr 2 0, .bool h, .ptr 3 0, .own 5, .ptr 6 0, .int .i64 g, .own 8, .int .i64 x] [some (.box 26 [.int .i64 m0, .own 1]), some (.row 3 (.int .i64) a0), some (.box 48 [.int .i64 p0, .int .i64 q0]), some (.box 26 [.int .i64 m6, .own 4]), some (.row 3 (.int .i64) a6), some (.row 48 (.pair (.int .i64) (.int .i64)) bs), some (.box 26 [.int .i64 m18, .own 7]), some (.row 3 (.int .i64) a18), some (.row 3 (.int .i64) ns)]) k =
      k (.exit 0) (mkS [2, 3, 4, 5, 18, 19, 20] [.any, .ptr 0 0, .ptr 2 0, .bool h, .ptr 3 0, .int .i64 g, .own 5] [some (.box 26 [.int .i64 m0, .own 1]), some (.row 3 (.int .i64) a0), some (.box 48 [.int .i64 p0, .int .i64 q0]), some (.box 26 [.int .i64 m18, .own 4]), some (.row 3 (.int .i64) a18), some (.row 3 (.int .i64) ns)]) := by
  induction d with
  | zero =>
    intro n i x hd hi hx hn
    subst hx
    rw [lpAt_def]
    conv => lhs; whnf
    refine br_f (df (by omega)) ?_
    conv => lhs; whnf
  | succ d ih =>
    intro n i x hd hi hx hn
    obtain ⟨n, rfl⟩ : ∃ m, n = m + 1 := ⟨n - 1, by omega⟩
    subst hx
    have hv := hh _ (mem_getD (d := (0, 0)) (show i < bs.length by omega))
    rw [lpAt_def]
    conv => lhs; whnf
    refine br_t (dt (by omega)) ?_
    conv => lhs; whnf
    refine br_t (dt2 (by omega) (by omega)) ?_
    conv => lhs; whnf
    repeat ((first | with_reducible apply br_tt | with_reducible apply br_ff | with_reducible apply br_nf | with_reducible apply br_nt | with_reducible refine br_d ?_ (by kernel_rfl) | with_reducible refine br_t (dt2 (by omega) (by omega)) ?_ | with_reducible refine br_t (dt (by omega)) ?_); conv => lhs; whnf)
    conv => lhs; arg 1; whnf
    refine bnd_g (by omega) ?_
    conv => lhs; whnf
    repeat ((first | with_reducible apply br_tt | with_reducible apply br_ff | with_reducible apply br_nf | with_reducible apply br_nt | with_reducible refine br_d ?_ (by kernel_rfl) | with_reducible refine br_t (dt2 (by omega) (by omega)) ?_ | with_reducible refine br_t (dt (by omega)) ?_); conv => lhs; whnf)
    refine br_f (by change (!orhF m6 a6 (bs.getD i (0, 0)).1 (bs.getD i (0, 0)).2) = false; rw [hv]; rfl) ?_
    conv => lhs; whnf
    exact ih n (i + 1) (IntKind.i64.wrap ((i : Int) + 1)) (by omega) (by omega) (by rw [wrap64 (by omega) (by omega)]; simp) (by omega)
theorem l2_lawObjectRules (m0 p0 q0 m18 g : Int) (h : Bool) (a0 a18 ns : List Int) (ha : a18.length ≤ 1048576) (hb : ns.length ≤ 64) (hh : ∀ x ∈ ns, ∀ y ∈ ns, sharedF m18 a18 [g, x] = sharedF m18 a18 [g, y]) (k : AX → S → Option (AV × List Ob)) (d : Nat) : ∀ (n i : Nat) (x : Int), ns.length - i = d → 1 ≤ i → x = i → d < n →
    lpAt E_lawObjectRules (lp E_lawObjectRules 0 n) 0 (loopAt Tryz.f5 1) (mkS [3, 4, 5, 18, 19, 20, 22] [.ptr 0 0, .ptr 2 0, .bool h, .ptr 3 0, .int .i64 g, .own 5, .int .i64 x] [some (.box 26 [.int .i64 m0, .own 1]), some (.row 3 (.int .i64) a0), some (.box 48 [.int .i64 p0, .int .i64 q0]), some (.box 26 [.int .i64 m18, .own 4]), some (.row 3 (.int .i64) a18), some (.row 3 (.int .i64) ns)]) k =
      k (.exit 2) (mkS [2, 3, 4, 5] [.any, .ptr 0 0, .ptr 2 0, .bool h] [some (.box 26 [.int .i64 m0, .own 1]), some (.row 3 (.int .i64) a0), some (.box 48 [.int .i64 p0, .int .i64 q0])]) := by
  induction d with
  | zero =>
    intro n i x hd hi hx hn
    subst hx
    rw [lpAt_def]
    conv => lhs; whnf
    refine br_f (df (by omega)) ?_
    conv => lhs; whnf
  | succ d ih =>
    intro n i x hd hi hx hn
    obtain ⟨n, rfl⟩ : ∃ m, n = m + 1 := ⟨n - 1, by omega⟩
    subst hx
    have hv := hh _ (mem_getD (d := 0) (show i < ns.length by omega)) _ (mem_getD (d := 0) (show 0 < ns.length by omega))
    rw [lpAt_def]
    conv => lhs; whnf
    refine br_t (dt (by omega)) ?_
    conv => lhs; whnf
    repeat ((first | with_reducible apply br_tt | with_reducible apply br_ff | with_reducible apply br_nf | with_reducible apply br_nt | with_reducible refine br_d ?_ (by kernel_rfl) | with_reducible refine br_t (dt2 (by omega) (by omega)) ?_ | with_reducible refine br_t (dt (by omega)) ?_); conv => lhs; whnf)
    conv => lhs; arg 1; whnf
    refine bnd_g (by exact ⟨ha, by simp⟩) ?_
    conv => lhs; whnf
    repeat ((first | with_reducible apply br_tt | with_reducible apply br_ff | with_reducible apply br_nf | with_reducible apply br_nt | with_reducible refine br_d ?_ (by kernel_rfl) | with_reducible refine br_t (dt2 (by omega) (by omega)) ?_ | with_reducible refine br_t (dt (by omega)) ?_); conv => lhs; whnf)
    conv => lhs; arg 1; whnf
    refine bnd_g (by exact ⟨ha, by simp⟩) ?_
    conv => lhs; whnf
    repeat ((first | with_reducible apply br_tt | with_reducible apply br_ff | with_reducible apply br_nf | with_reducible apply br_nt | with_reducible refine br_d ?_ (by kernel_rfl) | with_reducible refine br_t (dt2 (by omega) (by omega)) ?_ | with_reducible refine br_t (dt (by omega)) ?_); conv => lhs; whnf)
    refine br_f (by change (sharedF m18 a18 [g, ns.getD i 0] != sharedF m18 a18 [g, ns.getD 0 0]) = false; rw [hv]; exact bne_self_eq_false _) ?_
    conv => lhs; whnf
    exact ih n (i + 1) (IntKind.i64.wrap ((i : Int) + 1)) (by omega) (by omega) (by rw [wrap64 (by omega) (by omega)]; simp) (by omega)
theorem ev_lawObjectRules (b : List Int) (hp : b.length ≤ maxLen) : evF E_lawObjectRules (400) Tryz.f5 [.lst (.int .u8) b] [] = some (.bool true, []) := by
  conv => lhs; whnf
  conv => lhs; arg 1; whnf
  refine bnd_g (by exact True.intro) ?_
  conv => lhs; whnf
  refine br_c (fun g => ?_) (fun g => ?_)
  · conv => lhs; whnf
  · have hb : b.length ≤ 1048576 := by have := ofn g; omega
    have n0 := newC_ok hb
    have l1 := (bent3_ok n0).1
    have hob := objB_len (bent3 b (newC b)).1 (bent3 b (newC b)).2.1
    have hxl := exoF_len (bent3 b (newC b)).1 (bent3 b (newC b)).2.1
    have hxl1 := hxl.1
    have hxl2 := hxl.2.1
    have hxl3 := hxl.2.2
    have hsl := shrD_len b (newC b)
    have hnl := nearF_len (bent3 b (newC b)).1 (bent3 b (newC b)).2.1 (be b (bent3 b (newC b)).2.2 8 - 1)
    conv => lhs; whnf
    conv => lhs; arg 1; whnf
    refine bnd_g (by exact hb) ?_
    conv => lhs; whnf
    conv => lhs; arg 1; whnf
    refine bnd_g (by omega) ?_
    conv => lhs; whnf
    conv => lhs; arg 1; whnf
    refine bnd_g (by exact hb) ?_
    conv => lhs; whnf
    conv => lhs; arg 1; whnf
    refine bnd_g (by omega) ?_
    conv => lhs; whnf
    conv => lhs; arg 1; whnf
    refine bnd_g (by omega) ?_
    conv => lhs; whnf
    conv => lhs; arg 1; whnf
    refine bnd_g (by exact hb) ?_
    conv => lhs; whnf
    conv => lhs; arg 1; whnf
    refine bnd_g (by omega) ?_
    conv => lhs; whnf
    conv => lhs; arg 1; whnf
    refine bnd_g (by omega) ?_
    conv => lhs; whnf
    conv => lhs; arg 1; whnf
    refine bnd_g (by exact hb) ?_
    conv => lhs; whnf
    conv => lhs; arg 1; whnf
    refine bnd_g (by exact hb) ?_
    conv => lhs; whnf
    conv => lhs; arg 1; whnf
    refine bnd_g (by omega) ?_
    conv => lhs; whnf
    conv => lhs; arg 1; whnf
    refine bnd_g (by omega) ?_
    conv => lhs; whnf
    repeat ((first | with_reducible apply br_tt | with_reducible apply br_ff | with_reducible apply br_nf | with_reducible apply br_nt | with_reducible refine br_d ?_ (by kernel_rfl) | with_reducible refine br_f (by simp; done) ?_); conv => lhs; whnf)
    conv => lhs; arg 1; whnf
    refine bnd_g (by exact ⟨by omega, by omega⟩) ?_
    conv => lhs; whnf
    repeat ((first | with_reducible apply br_tt | with_reducible apply br_ff | with_reducible apply br_nf | with_reducible apply br_nt | with_reducible refine br_d ?_ (by kernel_rfl) | with_reducible refine br_f (by simp; done) ?_); conv => lhs; whnf)
    conv => lhs; arg 1; whnf
    refine bnd_g (by exact ⟨⟨by omega, by omega, by omega⟩, rfl, rfl, rfl, rfl⟩) ?_
    conv => lhs; whnf
    repeat ((first | with_reducible apply br_tt | with_reducible apply br_ff | with_reducible apply br_nf | with_reducible apply br_nt | with_reducible refine br_d ?_ (by kernel_rfl) | with_reducible refine br_f (by simp; done) ?_); conv => lhs; whnf)
    conv => lhs; arg 1; whnf
    refine bnd_g (by exact ⟨by omega, by omega⟩) ?_
    conv => lhs; whnf
    repeat ((first | with_reducible apply br_tt | with_reducible apply br_ff | with_reducible apply br_nf | with_reducible apply br_nt | with_reducible refine br_d ?_ (by kernel_rfl) | with_reducible refine br_f (by simp; done) ?_); conv => lhs; whnf)
    conv => lhs; arg 1; whnf
    refine bnd_g (by exact ⟨by omega, by omega⟩) ?_
    conv => lhs; whnf
    repeat ((first | with_reducible apply br_tt | with_reducible apply br_ff | with_reducible apply br_nf | with_reducible apply br_nt | with_reducible refine br_d ?_ (by kernel_rfl) | with_reducible refine br_f (by simp; done) ?_); conv => lhs; whnf)
    conv => lhs; arg 1; whnf
    refine bnd_g (by omega) ?_
    conv => lhs; whnf
    repeat ((first | with_reducible apply br_tt | with_reducible apply br_ff | with_reducible apply br_nf | with_reducible apply br_nt | with_reducible refine br_d ?_ (by kernel_rfl) | with_reducible refine br_f (by simp; done) ?_); conv => lhs; whnf)
    conv => lhs; arg 1; whnf
    refine bnd_g (by exact ⟨by omega, by omega⟩) ?_
    conv => lhs; whnf
    repeat ((first | with_reducible apply br_tt | with_reducible apply br_ff | with_reducible apply br_nf | with_reducible apply br_nt | with_reducible refine br_d ?_ (by kernel_rfl) | with_reducible refine br_f (by simp; done) ?_); conv => lhs; whnf)
    refine (lp_lawObjectRules (bent3 b (newC b)).1 (orhR b (newC b)).1 (orhR b (newC b)).2 (bent3 b (newC b)).1 (bent3 b (newC b)).1 (be b (bent3 b (newC b)).2.2 8 - 1) _ (bent3 b (newC b)).2.1 (bent3 b (newC b)).2.1 (bent3 b (newC b)).2.1 (nearF (bent3 b (newC b)).1 (bent3 b (newC b)).2.1 (be b (bent3 b (newC b)).2.2 8 - 1)) (objB (bent3 b (newC b)).1 (bent3 b (newC b)).2.1) (by omega) hob (fun r hr => objB_holds hr) _ (objB (bent3 b (newC b)).1 (bent3 b (newC b)).2.1).length _ 0 0 rfl (by omega) rfl (by change _ < 399; omega)).trans ?_
    conv => lhs; whnf
    refine (l2_lawObjectRules (bent3 b (newC b)).1 (orhR b (newC b)).1 (orhR b (newC b)).2 (bent3 b (newC b)).1 (be b (bent3 b (newC b)).2.2 8 - 1) _ (bent3 b (newC b)).2.1 (bent3 b (newC b)).2.1 (nearF (bent3 b (newC b)).1 (bent3 b (newC b)).2.1 (be b (bent3 b (newC b)).2.2 8 - 1)) (by omega) (by omega) (fun x hx y hy => near_shared hx hy) _ ((nearF (bent3 b (newC b)).1 (bent3 b (newC b)).2.1 (be b (bent3 b (newC b)).2.2 8 - 1)).length - 1) _ 1 1 rfl (by omega) rfl (by change _ < 399; omega)).trans ?_
    conv => lhs; whnf
    conv => lhs; arg 1; whnf
    refine bnd_g (by omega) ?_
    conv => lhs; whnf
    refine br_c (fun hd => ?_) (fun hd => ?_)
    · conv => lhs; whnf
      repeat ((first | with_reducible apply br_tt | with_reducible apply br_ff | with_reducible apply br_nf | with_reducible apply br_nt | with_reducible refine br_d ?_ (by kernel_rfl) | with_reducible apply br_t hd | with_reducible apply br_f hd); conv => lhs; whnf)
    · have hd' := bnf hd
      have hdl := dualF_len (bent3 b (newC b)).1 (bent3 b (newC b)).2.1
      have hor := orh_dual hd' (orhR b (newC b)).1 (orhR b (newC b)).2
      have hf := (dualF_true hd').1
      conv => lhs; whnf
      repeat ((first | with_reducible apply br_tt | with_reducible apply br_ff | with_reducible apply br_nf | with_reducible apply br_nt | with_reducible refine br_d ?_ (by kernel_rfl) | with_reducible apply br_t hd | with_reducible apply br_f hd); conv => lhs; whnf)
      conv => lhs; arg 1; whnf
      refine bnd_g (by omega) ?_
      conv => lhs; whnf
      repeat ((first | with_reducible apply br_tt | with_reducible apply br_ff | with_reducible apply br_nf | with_reducible apply br_nt | with_reducible refine br_d ?_ (by kernel_rfl) | with_reducible apply br_t hd | with_reducible apply br_f hd); conv => lhs; whnf)
      refine okB ?_
      rw [hor, hf]
      exact beq_self_eq_true _
theorem ok_lawObjectRules : FnOk Tryz.prog 5 K_lawObjectRules := by
  refine fn_ok (fn := Tryz.f5) (k := Tryz.f5.ntmps) (E := E_lawObjectRules) (facts_of (List.forall_mem_cons.2 ⟨ok_bigL, List.forall_mem_cons.2 ⟨ok_drawObjectRuleHolds, List.forall_mem_cons.2 ⟨ok_implObjectRuleHolds, List.forall_mem_cons.2 ⟨ok_specObjectRuleHolds, List.forall_mem_cons.2 ⟨ok_drawObjectBase, List.forall_mem_cons.2 ⟨ok_implObjectBase, List.forall_mem_cons.2 ⟨ok_specObjectBase, List.forall_mem_cons.2 ⟨ok_drawExploreObjects, List.forall_mem_cons.2 ⟨ok_implExploreObjects, List.forall_mem_cons.2 ⟨ok_specExploreObjects, List.forall_mem_cons.2 ⟨ok_drawSharedBy, List.forall_mem_cons.2 ⟨ok_implSharedBy, List.forall_mem_cons.2 ⟨ok_specSharedBy, List.forall_mem_cons.2 ⟨ok_drawNearestObjects, List.forall_mem_cons.2 ⟨ok_implNearestObjects, List.forall_mem_cons.2 ⟨ok_specNearestObjects, List.forall_mem_cons.2 ⟨ok_sameRules, List.forall_mem_cons.2 ⟨ok_sameInts, List.forall_mem_cons.2 ⟨ok_sameExploration, List.forall_mem_cons.2 ⟨ok_specDual, List.forall_mem_cons.2 ⟨ok_specHoldsIn, List.forall_mem_nil _⟩⟩⟩⟩⟩⟩⟩⟩⟩⟩⟩⟩⟩⟩⟩⟩⟩⟩⟩⟩⟩)) (by kernel_rfl) rfl (by decide +kernel) (by decide +kernel) ?_
  intro avs hin r h
  unfold K_lawObjectRules at h
  split at h
  · obtain ⟨hp, rfl⟩ := gd_o h
    exact ⟨_, ev_lawObjectRules _ hp, rfl⟩
  · cases h

end Go.Sym
