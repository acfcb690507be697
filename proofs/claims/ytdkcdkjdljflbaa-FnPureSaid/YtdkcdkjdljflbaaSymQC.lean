/- Functions of the program, each told as a plain equation. -/
import Derived.Test.YtdkcdkjdljflbaaSymQB
namespace Go.Sym
open Go.Proofs
set_option linter.unusedVariables false
set_option linter.unusedSimpArgs false
set_option maxRecDepth 100000
set_option maxHeartbeats 4000000

/- laws.FnPure -/
def K_lawPure : List AV → List Ob → Option (AV × List Ob)
  | [.lst (.int .u8) b], [] => gd (b.length ≤ maxLen) (.bool true, [])
  | _, _ => none
@[reducible] def E_lawPure : Env := mkE (tb [(20, K_bigL), (21, K_drawInsertRow), (22, K_specContextText), (23, K_implInsertRow), (24, K_implClarify), (25, K_implDropObjects), (26, K_specInsertRow), (27, K_specClarify), (28, K_specEqualContext)]) (fun f => false) (fun r => bif r == 10 then ([3, 4, 5, 6, 7, 8, 9, 10, 11, 12, 13], [3, 4, 5, 6, 8, 9, 10, 11, 12]) else bif r == 14 then ([3, 4, 5, 6, 8, 9, 10, 11, 12, 14], [3, 4, 5, 6, 8, 10, 11, 12]) else bif r == 18 then ([3, 4, 5, 6, 8, 10, 11, 12, 15], [3, 4, 5, 6, 8, 10, 12]) else ([], []))
theorem l0_lawPure (m r xm ym zm bt : Int) (a ys zs : List Int) (o : ByteArray) (ok f gd' : Bool) (k : AX → S → Option (AV × List Ob)) (d : Nat) : ∀ (n i : Nat) (x : Int) (xs : List Int), xs.length - i = d → i ≤ xs.length → xs.length ≤ 100 → x = i → d < n →
    lpAt E_lawPure (lp E_lawPure 0 n) 0 (loopAt Try.f5 0) (mkS [3, 4, 5, 6, 7, 8, 9, 10, 11, 12, 13] [.ptr 0 0, .int .i64 r, .str o, .int .i64 bt, .ptr 2 0, .bool ok, .ptr 4 0, .bool f, .ptr 6 0, .bool gd', .int .i64 x] [some (.box 41 [.int .i64 m, .own 1]), some (.row 3 (.int .i64) a), some (.box 41 [.int .i64 xm, .own 3]), some (.row 3 (.int .i64) xs), some (.box 41 [.int .i64 ym, .own 5]), some (.row 3 (.int .i64) ys), some (.box 41 [.int .i64 zm, .own 7]), some (.row 3 (.int .i64) zs)]) k =
      k (.exit 0) (mkS [3, 4, 5, 6, 8, 9, 10, 11, 12] [.ptr 0 0, .int .i64 r, .str o, .int .i64 bt, .bool ok, .ptr 2 0, .bool f, .ptr 4 0, .bool gd'] [some (.box 41 [.int .i64 m, .own 1]), some (.row 3 (.int .i64) a), some (.box 41 [.int .i64 ym, .own 3]), some (.row 3 (.int .i64) ys), some (.box 41 [.int .i64 zm, .own 5]), some (.row 3 (.int .i64) zs)]) := by
  induction d with
  | zero =>
    intro n i x xs hd hi hl hx hn
    subst hx
    rw [lpAt_def]
    conv => lhs; whnf
    refine br_f (df (by omega)) ?_
    conv => lhs; whnf
  | succ d ih =>
    intro n i x xs hd hi hl hx hn
    obtain ⟨n, rfl⟩ : ∃ m, n = m + 1 := ⟨n - 1, by omega⟩
    subst hx
    rw [lpAt_def]
    conv => lhs; whnf
    refine br_t (dt (by omega)) ?_
    conv => lhs; whnf
    refine br_t (dt2 (by omega) (by omega)) ?_
    conv => lhs; whnf
    refine br_t (dt (by omega)) ?_
    conv => lhs; whnf
    exact ih n (i + 1) (IntKind.i64.wrap ((i : Int) + 1)) _ (by simp; omega) (by simp; omega) (by simp; omega) (by rw [wrap64 (by omega) (by omega)]; simp) (by omega)
theorem l1_lawPure (m r ym zm bt : Int) (a zs : List Int) (o : ByteArray) (ok f gd' : Bool) (k : AX → S → Option (AV × List Ob)) (d : Nat) : ∀ (n i : Nat) (x : Int) (xs : List Int), xs.length - i = d → i ≤ xs.length → xs.length ≤ 100 → x = i → d < n →
    lpAt E_lawPure (lp E_lawPure 0 n) 0 (loopAt Try.f5 1) (mkS [3, 4, 5, 6, 8, 9, 10, 11, 12, 14] [.ptr 0 0, .int .i64 r, .str o, .int .i64 bt, .bool ok, .ptr 2 0, .bool f, .ptr 4 0, .bool gd', .int .i64 x] [some (.box 41 [.int .i64 m, .own 1]), some (.row 3 (.int .i64) a), some (.box 41 [.int .i64 ym, .own 3]), some (.row 3 (.int .i64) xs), some (.box 41 [.int .i64 zm, .own 5]), some (.row 3 (.int .i64) zs)]) k =
      k (.exit 2) (mkS [3, 4, 5, 6, 8, 10, 11, 12] [.ptr 0 0, .int .i64 r, .str o, .int .i64 bt, .bool ok, .bool f, .ptr 2 0, .bool gd'] [some (.box 41 [.int .i64 m, .own 1]), some (.row 3 (.int .i64) a), some (.box 41 [.int .i64 zm, .own 3]), some (.row 3 (.int .i64) zs)]) := by
  induction d with
  | zero =>
    intro n i x xs hd hi hl hx hn
    subst hx
    rw [lpAt_def]
    conv => lhs; whnf
    refine br_f (df (by omega)) ?_
    conv => lhs; whnf
  | succ d ih =>
    intro n i x xs hd hi hl hx hn
    obtain ⟨n, rfl⟩ : ∃ m, n = m + 1 := ⟨n - 1, by omega⟩
    subst hx
    rw [lpAt_def]
    conv => lhs; whnf
    refine br_t (dt (by omega)) ?_
    conv => lhs; whnf
    refine br_t (dt2 (by omega) (by omega)) ?_
    conv => lhs; whnf
    refine br_t (dt (by omega)) ?_
    conv => lhs; whnf
    exact ih n (i + 1) (IntKind.i64.wrap ((i : Int) + 1)) _ (by simp; omega) (by simp; omega) (by simp; omega) (by rw [wrap64 (by omega) (by omega)]; simp) (by omega)
theorem l2_lawPure (m r zm bt : Int) (a : List Int) (o : ByteArray) (ok f gd' : Bool) (k : AX → S → Option (AV × List Ob)) (d : Nat) : ∀ (n i : Nat) (x : Int) (xs : List Int), xs.length - i = d → i ≤ xs.length → xs.length ≤ 100 → x = i → d < n →
    lpAt E_lawPure (lp E_lawPure 0 n) 0 (loopAt Try.f5 2) (mkS [3, 4, 5, 6, 8, 10, 11, 12, 15] [.ptr 0 0, .int .i64 r, .str o, .int .i64 bt, .bool ok, .bool f, .ptr 2 0, .bool gd', .int .i64 x] [some (.box 41 [.int .i64 m, .own 1]), some (.row 3 (.int .i64) a), some (.box 41 [.int .i64 zm, .own 3]), some (.row 3 (.int .i64) xs)]) k =
      k (.exit 4) (mkS [3, 4, 5, 6, 8, 10, 12] [.ptr 0 0, .int .i64 r, .str o, .int .i64 bt, .bool ok, .bool f, .bool gd'] [some (.box 41 [.int .i64 m, .own 1]), some (.row 3 (.int .i64) a)]) := by
  induction d with
  | zero =>
    intro n i x xs hd hi hl hx hn
    subst hx
    rw [lpAt_def]
    conv => lhs; whnf
    refine br_f (df (by omega)) ?_
    conv => lhs; whnf
  | succ d ih =>
    intro n i x xs hd hi hl hx hn
    obtain ⟨n, rfl⟩ : ∃ m, n = m + 1 := ⟨n - 1, by omega⟩
    subst hx
    rw [lpAt_def]
    conv => lhs; whnf
    refine br_t (dt (by omega)) ?_
    conv => lhs; whnf
    refine br_t (dt2 (by omega) (by omega)) ?_
    conv => lhs; whnf
    refine br_t (dt (by omega)) ?_
    conv => lhs; whnf
    exact ih n (i + 1) (IntKind.i64.wrap ((i : Int) + 1)) _ (by simp; omega) (by simp; omega) (by simp; omega) (by rw [wrap64 (by omega) (by omega)]; simp) (by omega)
theorem ev_lawPure (b : List Int) (hp : b.length ≤ maxLen) : evF E_lawPure (200) Try.f5 [.lst (.int .u8) b] [] = some (.bool true, []) := by
  conv => lhs; whnf
  conv => lhs; arg 1; whnf
  refine bnd_g (by exact True.intro) ?_
  conv => lhs; whnf
  refine br_c (fun g => ?_) (fun g => ?_)
  · conv => lhs; whnf
  · have hb : b.length ≤ 1048576 := by have := ofn g; omega
    have n0 := newC_ok hb
    have l1 := att4_len n0
    have hi := insF_len (att4 b (newC b)).1 (att4 b (newC b)).2.1 (att4 b (newC b)).2.2
    have hc := clarF_len (att4 b (newC b)).1 (att4 b (newC b)).2.1
    have hd : (bif isCtx (att4 b (newC b)).1 (att4 b (newC b)).2.1 then wthF (att4 b (newC b)).1 (att4 b (newC b)).2.1 0 0 else []).length ≤ 9 := by
      cases isCtx (att4 b (newC b)).1 (att4 b (newC b)).2.1
      · exact Nat.zero_le _
      · have := wthF_len (att4 b (newC b)).1 (att4 b (newC b)).2.1 0 0
        rw [cond_true]
        omega
    conv => lhs; whnf
    conv => lhs; arg 1; whnf
    refine bnd_g (by exact hb) ?_
    conv => lhs; whnf
    conv => lhs; arg 1; whnf
    refine bnd_g (by omega) ?_
    conv => lhs; whnf
    conv => lhs; arg 1; whnf
    refine bnd_g (by omega) ?_
    conv => lhs; whnf
    conv => lhs; arg 1; whnf
    refine bnd_g (by omega) ?_
    conv => lhs; whnf
    conv => lhs; arg 1; whnf
    refine bnd_g (by omega) ?_
    conv => lhs; whnf
    refine (l0_lawPure _ _ _ _ _ _ _ _ _ _ _ _ _ _ (insF (att4 b (newC b)).1 (att4 b (newC b)).2.1 (att4 b (newC b)).2.2).2.1.length _ 0 0 (insF (att4 b (newC b)).1 (att4 b (newC b)).2.1 (att4 b (newC b)).2.2).2.1 rfl (by omega) (by omega) rfl (by change _ < 199; omega)).trans ?_
    conv => lhs; whnf
    refine (l1_lawPure _ _ _ _ _ _ _ _ _ _ _ _ (clarF (att4 b (newC b)).1 (att4 b (newC b)).2.1).2.1.length _ 0 0 (clarF (att4 b (newC b)).1 (att4 b (newC b)).2.1).2.1 rfl (by omega) (by omega) rfl (by change _ < 199; omega)).trans ?_
    conv => lhs; whnf
    refine (l2_lawPure _ _ _ _ _ _ _ _ _ _ (bif isCtx (att4 b (newC b)).1 (att4 b (newC b)).2.1 then wthF (att4 b (newC b)).1 (att4 b (newC b)).2.1 0 0 else []).length _ 0 0 (bif isCtx (att4 b (newC b)).1 (att4 b (newC b)).2.1 then wthF (att4 b (newC b)).1 (att4 b (newC b)).2.1 0 0 else []) rfl (by omega) (by omega) rfl (by change _ < 199; omega)).trans ?_
    conv => lhs; whnf
    conv => lhs; arg 1; whnf
    refine bnd_g (by omega) ?_
    conv => lhs; whnf
    conv => lhs; arg 1; whnf
    refine bnd_g (by omega) ?_
    conv => lhs; whnf
    conv => lhs; arg 1; whnf
    refine bnd_g (by omega) ?_
    conv => lhs; whnf
    conv => lhs; arg 1; whnf
    refine bnd_g (by omega) ?_
    conv => lhs; whnf
    have q1 : ((ctxTx (att4 b (newC b)).1 (att4 b (newC b)).2.1).toList == (ctxTx (att4 b (newC b)).1 (att4 b (newC b)).2.1).toList) = true := beq_self_eq_true _
    have q2 : ((att4 b (newC b)).1 == (att4 b (newC b)).1) = true := beq_self_eq_true _
    have q3 : ((insF (att4 b (newC b)).1 (att4 b (newC b)).2.1 (att4 b (newC b)).2.2).2.2 == (insF (att4 b (newC b)).1 (att4 b (newC b)).2.1 (att4 b (newC b)).2.2).2.2) = true := beq_self_eq_true _
    have q4 : ((clarF (att4 b (newC b)).1 (att4 b (newC b)).2.1).2.2 == (spClar (att4 b (newC b)).1 (att4 b (newC b)).2.1).2.2) = true := by rw [clarF_ok, spClar_ok]; exact beq_self_eq_true _
    have q5 : (isCtx (att4 b (newC b)).1 (att4 b (newC b)).2.1 == (spClar (att4 b (newC b)).1 (att4 b (newC b)).2.1).2.2) = true := by rw [spClar_ok]; exact beq_self_eq_true _
    repeat ((first | with_reducible apply br_tt | with_reducible apply br_ff | with_reducible apply br_nf | with_reducible apply br_nt | with_reducible refine br_d ?_ (by kernel_rfl) | with_reducible apply br_t q1 | with_reducible apply br_f q1 | with_reducible apply br_t q2 | with_reducible apply br_f q2 | with_reducible apply br_t q3 | with_reducible apply br_f q3 | with_reducible apply br_t q4 | with_reducible apply br_f q4 | with_reducible apply br_t q5 | with_reducible apply br_f q5); conv => lhs; whnf)
    conv => lhs; arg 1; whnf
    refine bnd_g (by exact ⟨by omega, by omega⟩) ?_
    conv => lhs; whnf
    repeat ((first | with_reducible apply br_tt | with_reducible apply br_ff | with_reducible apply br_nf | with_reducible apply br_nt | with_reducible refine br_d ?_ (by kernel_rfl) | with_reducible apply br_t q1 | with_reducible apply br_f q1 | with_reducible apply br_t q2 | with_reducible apply br_f q2 | with_reducible apply br_t q3 | with_reducible apply br_f q3 | with_reducible apply br_t q4 | with_reducible apply br_f q4 | with_reducible apply br_t q5 | with_reducible apply br_f q5); conv => lhs; whnf)
    exact okB (decide_eq_true ⟨rfl, rfl⟩)
theorem ok_lawPure : FnOk Try.prog 5 K_lawPure := by
  refine fn_ok (fn := Try.f5) (k := Try.f5.ntmps) (E := E_lawPure) (facts_of (List.forall_mem_cons.2 ⟨ok_bigL, List.forall_mem_cons.2 ⟨ok_drawInsertRow, List.forall_mem_cons.2 ⟨ok_specContextText, List.forall_mem_cons.2 ⟨ok_implInsertRow, List.forall_mem_cons.2 ⟨ok_implClarify, List.forall_mem_cons.2 ⟨ok_implDropObjects, List.forall_mem_cons.2 ⟨ok_specInsertRow, List.forall_mem_cons.2 ⟨ok_specClarify, List.forall_mem_cons.2 ⟨ok_specEqualContext, List.forall_mem_nil _⟩⟩⟩⟩⟩⟩⟩⟩⟩)) (by kernel_rfl) rfl (by decide +kernel) (by decide +kernel) ?_
  intro avs hin r h
  unfold K_lawPure at h
  split at h
  · obtain ⟨hp, rfl⟩ := gd_o h
    exact ⟨_, ev_lawPure _ hp, rfl⟩
  · cases h

end Go.Sym
