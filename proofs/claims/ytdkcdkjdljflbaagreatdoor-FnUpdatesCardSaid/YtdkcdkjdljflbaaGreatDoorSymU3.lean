/- Functions of the program, each told as a plain equation. -/
import Derived.Test.YtdkcdkjdljflbaaGreatDoorSymU2
namespace Go.Sym
open Go.Proofs
set_option linter.unusedVariables false
set_option linter.unusedSimpArgs false
set_option maxRecDepth 100000
set_option maxHeartbeats 4000000

/- laws.FnUpdates -/
def K_lawUpdates : List AV → List Ob → Option (AV × List Ob)
  | [.lst (.int .u8) b], [] => gd (b.length ≤ maxLen) (.bool true, [])
  | _, _ => none
@[reducible] def E_lawUpdates : Env := mkE (tb [(6, K_bigL), (7, K_drawNewIntents), (8, K_implInsertRow), (9, K_specInsertRow), (10, K_implNewIntents), (11, K_drawLostIntents), (12, K_implLostIntents), (13, K_drawBrokenRules), (14, K_implUpdateBase), (15, K_specUpdateBase), (16, K_specEqualContext), (17, K_sameInts), (18, K_specNewIntents), (19, K_specLostIntents), (20, K_implBrokenRules), (21, K_specBrokenRules), (22, K_sameRules), (24, K_specConcepts), (23, K_intentsL), (25, K_hasIntL), (26, K_specStemBase), (27, K_specHoldsIn)]) (fun f => false) (fun r => bif r == 18 then ([3, 4, 5, 9, 19, 20], [2, 3, 4, 5, 9, 19, 20, 21]) else bif r == 22 then ([3, 4, 5, 9, 19, 20, 21, 22], [3, 4, 5, 9, 19, 20, 21]) else bif r == 30 then ([3, 5, 9, 23, 24, 25], [2, 3, 5, 9]) else ([], []))
theorem lq_lawUpdates (m r xm : Int) (a xa ls old : List Int) (j : Nat) (hj : j < ls.length) (ho : old.length ≤ 64) (k : AX → S → Option (AV × List Ob)) (d : Nat) : ∀ (n i : Nat) (x : Int) (f : Bool), old.length - i = d → i ≤ old.length → x = i → d < n →
    lpAt E_lawUpdates (lp E_lawUpdates 0 n) 0 (loopAt Tryz.f3 1) (mkS [3, 4, 5, 9, 19, 20, 21, 22] [.ptr 0 0, .int .i64 r, .ptr 2 0, .own 4, .own 5, .int .i64 (j : Int), .bool f, .int .i64 x] [some (.box 26 [.int .i64 m, .own 1]), some (.row 3 (.int .i64) a), some (.box 26 [.int .i64 xm, .own 3]), some (.row 3 (.int .i64) xa), some (.row 3 (.int .i64) ls), some (.row 3 (.int .i64) old)]) k =
      k (.exit 2) (mkS [3, 4, 5, 9, 19, 20, 21] [.ptr 0 0, .int .i64 r, .ptr 2 0, .own 4, .own 5, .int .i64 (j : Int), .bool (f || (old.drop i).any (fun o => band o r == ls.getD j 0))] [some (.box 26 [.int .i64 m, .own 1]), some (.row 3 (.int .i64) a), some (.box 26 [.int .i64 xm, .own 3]), some (.row 3 (.int .i64) xa), some (.row 3 (.int .i64) ls), some (.row 3 (.int .i64) old)]) := by
  induction d with
  | zero =>
    intro n i x f hd hi hx hn
    subst hx
    rw [lpAt_def]
    conv => lhs; whnf
    refine br_f (df (by omega)) ?_
    conv => lhs; whnf
    rw [List.drop_of_length_le (by omega), List.any_nil, Bool.or_false]
  | succ d ih =>
    intro n i x f hd hi hx hn
    obtain ⟨n, rfl⟩ : ∃ m, n = m + 1 := ⟨n - 1, by omega⟩
    subst hx
    rw [lpAt_def]
    conv => lhs; whnf
    refine br_t (dt (by omega)) ?_
    conv => lhs; whnf
    refine br_c (fun h => ?_) (fun h => ?_)
    · conv => lhs; whnf
      repeat ((first | with_reducible apply br_tt | with_reducible apply br_ff | with_reducible apply br_nf | with_reducible apply br_nt | with_reducible refine br_d ?_ (by kernel_rfl) | with_reducible apply br_t h | with_reducible apply br_f h | with_reducible refine br_t (dt2 (by omega) (by omega)) ?_); conv => lhs; whnf)
      refine (ih n (i + 1) (IntKind.i64.wrap ((i : Int) + 1)) true (by omega) (by omega) (by rw [wrap64 (by omega) (by omega)]; simp) (by omega)).trans ?_
      rw [h, Bool.true_or, Bool.true_or]
    · conv => lhs; whnf
      repeat ((first | with_reducible apply br_tt | with_reducible apply br_ff | with_reducible apply br_nf | with_reducible apply br_nt | with_reducible refine br_d ?_ (by kernel_rfl) | with_reducible apply br_t h | with_reducible apply br_f h | with_reducible refine br_t (dt2 (by omega) (by omega)) ?_ | with_reducible refine br_t (dt (by omega)) ?_); conv => lhs; whnf)
      refine (ih n (i + 1) (IntKind.i64.wrap ((i : Int) + 1)) (band (old.getD i 0) r == ls.getD j 0) (by omega) (by omega) (by rw [wrap64 (by omega) (by omega)]; simp) (by omega)).trans ?_
      rw [h, Bool.false_or, getD_drop (l := old) (i := i) (d := 0) (by omega), List.any_cons]
theorem lp_lawUpdates (m r xm : Int) (a xa ls old : List Int) (hl : ls.length ≤ 64) (ho : old.length ≤ 64) (hh : ∀ v ∈ ls, old.any (fun o => band o r == v) = true ∧ old.any (fun y => y == v) = false) (k : AX → S → Option (AV × List Ob)) (d : Nat) : ∀ (n i : Nat) (x : Int), ls.length - i = d → i ≤ ls.length → x = i → d + 100 < n →
    lpAt E_lawUpdates (lp E_lawUpdates 0 n) 0 (loopAt Tryz.f3 0) (mkS [3, 4, 5, 9, 19, 20] [.ptr 0 0, .int .i64 r, .ptr 2 0, .own 4, .own 5, .int .i64 x] [some (.box 26 [.int .i64 m, .own 1]), some (.row 3 (.int .i64) a), some (.box 26 [.int .i64 xm, .own 3]), some (.row 3 (.int .i64) xa), some (.row 3 (.int .i64) ls), some (.row 3 (.int .i64) old)]) k =
      k (.exit 0) (mkS [2, 3, 4, 5, 9, 19, 20, 21] [.any, .ptr 0 0, .int .i64 r, .ptr 2 0, .own 4, .own 5, .int .i64 (ls.length : Int), .any] [some (.box 26 [.int .i64 m, .own 1]), some (.row 3 (.int .i64) a), some (.box 26 [.int .i64 xm, .own 3]), some (.row 3 (.int .i64) xa), some (.row 3 (.int .i64) ls), some (.row 3 (.int .i64) old)]) := by
  induction d with
  | zero =>
    intro n i x hd hi hx hn
    subst hx
    rw [lpAt_def]
    conv => lhs; whnf
    refine br_f (df (by omega)) ?_
    conv => lhs; whnf
    have : i = ls.length := by omega
    rw [this]
  | succ d ih =>
    intro n i x hd hi hx hn
    obtain ⟨n, rfl⟩ : ∃ m, n = m + 1 := ⟨n - 1, by omega⟩
    subst hx
    have hv := hh _ (mem_getD (d := 0) (show i < ls.length by omega))
    have h1 := hv.1
    have h2 := hv.2
    rw [lpAt_def]
    conv => lhs; whnf
    refine br_t (dt (by omega)) ?_
    conv => lhs; whnf
    refine (lq_lawUpdates m r xm a xa ls old i (by omega) ho _ old.length _ 0 0 false rfl (by omega) rfl (by omega)).trans ?_
    rw [List.drop_zero, h1, Bool.false_or]
    conv => lhs; whnf
    repeat ((first | with_reducible apply br_tt | with_reducible apply br_ff | with_reducible apply br_nf | with_reducible apply br_nt | with_reducible refine br_d ?_ (by kernel_rfl) | with_reducible refine br_t (dt2 (by omega) (by omega)) ?_ | with_reducible refine br_t (dt (by omega)) ?_); conv => lhs; whnf)
    conv => lhs; arg 1; whnf
    refine bnd_g (by omega) ?_
    conv => lhs; whnf
    repeat ((first | with_reducible apply br_tt | with_reducible apply br_ff | with_reducible apply br_nf | with_reducible apply br_nt | with_reducible refine br_d ?_ (by kernel_rfl) | with_reducible refine br_t (dt2 (by omega) (by omega)) ?_ | with_reducible refine br_t (dt (by omega)) ?_); conv => lhs; whnf)
    refine br_f (by exact h2) ?_
    conv => lhs; whnf
    exact ih n (i + 1) (IntKind.i64.wrap ((i : Int) + 1)) (by omega) (by omega) (by rw [wrap64 (by omega) (by omega)]; simp) (by omega)
theorem l3_lawUpdates (m xm : Int) (a xa ls bk : List Int) (st : List (Int × Int)) (hl : st.length ≤ 64) (hb : bk.length ≤ 64) (hx : xa.length ≤ 1048576) (hh : ∀ j, j < st.length → bk.any (fun y => y == (j : Int)) = !holdS xm xa (st.getD j (0, 0)).1 (st.getD j (0, 0)).2) (k : AX → S → Option (AV × List Ob)) (d : Nat) : ∀ (n i : Nat) (x : Int), st.length - i = d → i ≤ st.length → x = i → d < n →
    lpAt E_lawUpdates (lp E_lawUpdates 0 n) 0 (loopAt Tryz.f3 2) (mkS [3, 5, 9, 23, 24, 25] [.ptr 0 0, .ptr 2 0, .own 4, .own 5, .own 6, .int .i64 x] [some (.box 26 [.int .i64 m, .own 1]), some (.row 3 (.int .i64) a), some (.box 26 [.int .i64 xm, .own 3]), some (.row 3 (.int .i64) xa), some (.row 3 (.int .i64) ls), some (.row 48 (.pair (.int .i64) (.int .i64)) st), some (.row 3 (.int .i64) bk)]) k =
      k (.exit 4) (mkS [2, 3, 5, 9] [.any, .ptr 0 0, .ptr 2 0, .own 4] [some (.box 26 [.int .i64 m, .own 1]), some (.row 3 (.int .i64) a), some (.box 26 [.int .i64 xm, .own 3]), some (.row 3 (.int .i64) xa), some (.row 3 (.int .i64) ls)]) := by
  induction d with
  | zero =>
    intro n i x hd hi hx hn
    subst hx
    rw [lpAt_def]
    conv => lhs; whnf
    refine br_f (df (by omega)) ?_
    conv => lhs; whnf
  | succ d ih =>
    intro n i x hd hi hx hn
    obtain ⟨n, rfl⟩ : ∃ m, n = m + 1 := ⟨n - 1, by omega⟩
    subst hx
    have hv := hh i (by omega)
    rw [lpAt_def]
    conv => lhs; whnf
    refine br_t (dt (by omega)) ?_
    conv => lhs; whnf
    conv => lhs; arg 1; whnf
    refine bnd_g (by omega) ?_
    conv => lhs; whnf
    repeat ((first | with_reducible apply br_tt | with_reducible apply br_ff | with_reducible apply br_nf | with_reducible apply br_nt | with_reducible refine br_d ?_ (by kernel_rfl) | with_reducible refine br_t (dt2 (by omega) (by omega)) ?_ | with_reducible refine br_t (dt (by omega)) ?_); conv => lhs; whnf)
    conv => lhs; arg 1; whnf
    refine bnd_g (by omega) ?_
    conv => lhs; whnf
    repeat ((first | with_reducible apply br_tt | with_reducible apply br_ff | with_reducible apply br_nf | with_reducible apply br_nt | with_reducible refine br_d ?_ (by kernel_rfl) | with_reducible refine br_t (dt2 (by omega) (by omega)) ?_ | with_reducible refine br_t (dt (by omega)) ?_); conv => lhs; whnf)
    refine br_f (by change (bk.any (fun y => y == (i : Int)) == holdS xm xa (st.getD i (0, 0)).1 (st.getD i (0, 0)).2) = false; rw [hv]; cases holdS xm xa (st.getD i (0, 0)).1 (st.getD i (0, 0)).2 <;> rfl) ?_
    conv => lhs; whnf
    exact ih n (i + 1) (IntKind.i64.wrap ((i : Int) + 1)) (by omega) (by omega) (by rw [wrap64 (by omega) (by omega)]; simp) (by omega)
theorem ev_lawUpdates (b : List Int) (hp : b.length ≤ maxLen) : evF E_lawUpdates (400) Tryz.f3 [.lst (.int .u8) b] [] = some (.bool true, []) := by
  conv => lhs; whnf
  conv => lhs; arg 1; whnf
  refine bnd_g (by exact True.intro) ?_
  conv => lhs; whnf
  refine br_c (fun g => ?_) (fun g => ?_)
  · conv => lhs; whnf
  · have hb : b.length ≤ 1048576 := by have := ofn g; omega
    have n0 := newC_ok hb
    have l1 := att4_len n0
    have l2 := (bent3_ok n0).1
    have l3 : (clb9 b (newC b)).1.length ≤ 5 := (bent9_ok (N := 32) n0).1
    have hi := insF_len (att4 b (newC b)).1 (att4 b (newC b)).2.1 (att4 b (newC b)).2.2
    have hn := newF_len (att4 b (newC b)).1 (att4 b (newC b)).2.1 (att4 b (newC b)).2.2
    have ho := lostF_len (bent3 b (newC b)).1 (bent3 b (newC b)).2.1 (be b (bent3 b (newC b)).2.2 8 - 1)
    conv => lhs; whnf
    conv => lhs; arg 1; whnf
    refine bnd_g (by exact hb) ?_
    conv => lhs; whnf
    conv => lhs; arg 1; whnf
    refine bnd_g (by omega) ?_
    conv => lhs; whnf
    conv => lhs; arg 1; whnf
    refine bnd_g (by omega) ?_
    conv => lhs; whnf
    conv => lhs; arg 1; whnf
    refine bnd_g (by omega) ?_
    conv => lhs; whnf
    conv => lhs; arg 1; whnf
    refine bnd_g (by exact hb) ?_
    conv => lhs; whnf
    conv => lhs; arg 1; whnf
    refine bnd_g (by omega) ?_
    conv => lhs; whnf
    conv => lhs; arg 1; whnf
    refine bnd_g (by exact hb) ?_
    conv => lhs; whnf
    have hbk : (brk (clb9 b (newC b)).1 (clb9 b (newC b)).2).length ≤ 5 := by
      have := idxs_length (fun r => !respOf r.1 r.2 (clb9 b (newC b)).2) (clb9 b (newC b)).1 0
      unfold brk
      omega
    have hup := updB_len (att4 b (newC b)).1 (att4 b (newC b)).2.1 (att4 b (newC b)).2.2
    conv => lhs; arg 1; whnf
    refine bnd_g (by omega) ?_
    conv => lhs; whnf
    conv => lhs; arg 1; whnf
    refine bnd_g (by omega) ?_
    conv => lhs; whnf
    repeat ((first | with_reducible apply br_tt | with_reducible apply br_ff | with_reducible apply br_nf | with_reducible apply br_nt | with_reducible refine br_d ?_ (by kernel_rfl) | with_reducible refine br_f (by simp; done) ?_); conv => lhs; whnf)
    conv => lhs; arg 1; whnf
    refine bnd_g (by exact ⟨by omega, by omega⟩) ?_
    conv => lhs; whnf
    repeat ((first | with_reducible apply br_tt | with_reducible apply br_ff | with_reducible apply br_nf | with_reducible apply br_nt | with_reducible refine br_d ?_ (by kernel_rfl) | with_reducible refine br_f (by simp; done) ?_); conv => lhs; whnf)
    conv => lhs; arg 1; whnf
    refine bnd_g (by omega) ?_
    conv => lhs; whnf
    repeat ((first | with_reducible apply br_tt | with_reducible apply br_ff | with_reducible apply br_nf | with_reducible apply br_nt | with_reducible refine br_d ?_ (by kernel_rfl) | with_reducible refine br_f (by simp; done) ?_); conv => lhs; whnf)
    conv => lhs; arg 1; whnf
    refine bnd_g (by exact ⟨by omega, by omega⟩) ?_
    conv => lhs; whnf
    repeat ((first | with_reducible apply br_tt | with_reducible apply br_ff | with_reducible apply br_nf | with_reducible apply br_nt | with_reducible refine br_d ?_ (by kernel_rfl) | with_reducible refine br_f (by simp; done) ?_); conv => lhs; whnf)
    conv => lhs; arg 1; whnf
    refine bnd_g (by omega) ?_
    conv => lhs; whnf
    repeat ((first | with_reducible apply br_tt | with_reducible apply br_ff | with_reducible apply br_nf | with_reducible apply br_nt | with_reducible refine br_d ?_ (by kernel_rfl) | with_reducible refine br_f (by simp; done) ?_); conv => lhs; whnf)
    conv => lhs; arg 1; whnf
    refine bnd_g (by exact ⟨by omega, by omega⟩) ?_
    conv => lhs; whnf
    repeat ((first | with_reducible apply br_tt | with_reducible apply br_ff | with_reducible apply br_nf | with_reducible apply br_nt | with_reducible refine br_d ?_ (by kernel_rfl) | with_reducible refine br_f (by simp; done) ?_); conv => lhs; whnf)
    conv => lhs; arg 1; whnf
    refine bnd_g (by omega) ?_
    conv => lhs; whnf
    repeat ((first | with_reducible apply br_tt | with_reducible apply br_ff | with_reducible apply br_nf | with_reducible apply br_nt | with_reducible refine br_d ?_ (by kernel_rfl) | with_reducible refine br_f (by simp; done) ?_); conv => lhs; whnf)
    conv => lhs; arg 1; whnf
    refine bnd_g (by omega) ?_
    conv => lhs; whnf
    repeat ((first | with_reducible apply br_tt | with_reducible apply br_ff | with_reducible apply br_nf | with_reducible apply br_nt | with_reducible refine br_d ?_ (by kernel_rfl) | with_reducible refine br_f (by simp; done) ?_); conv => lhs; whnf)
    conv => lhs; arg 1; whnf
    refine bnd_g (by exact ⟨by omega, by omega⟩) ?_
    conv => lhs; whnf
    repeat ((first | with_reducible apply br_tt | with_reducible apply br_ff | with_reducible apply br_nf | with_reducible apply br_nt | with_reducible refine br_d ?_ (by kernel_rfl) | with_reducible refine br_f (by simp; done) ?_); conv => lhs; whnf)
    conv => lhs; arg 1; whnf
    refine bnd_g (by exact ⟨by omega, by omega⟩) ?_
    conv => lhs; whnf
    refine br_f (by simp) ?_
    conv => lhs; whnf
    refine br_f (by simp) ?_
    conv => lhs; whnf
    refine br_f (by simp) ?_
    conv => lhs; whnf
    refine br_c (fun hk => ?_) (fun hk => ?_)
    · have hk' := bnt hk
      have e0 : newF (att4 b (newC b)).1 (att4 b (newC b)).2.1 (att4 b (newC b)).2.2 = [] := by unfold newF; rw [hk']; rfl
      conv => lhs; whnf
      refine okB ?_
      rw [e0]
      rfl
    · have hk' := bnf hk
      have hk2 := insF_true hk'
      have hf := hk2.1
      have hc := hk2.2.1
      have hnew := fun v (hv : v ∈ newF (att4 b (newC b)).1 (att4 b (newC b)).2.1 (att4 b (newC b)).2.2) => newF_old hv
      have hcl := concF_len (att4 b (newC b)).1 (att4 b (newC b)).2.1
      have hil := inlF_len (att4 b (newC b)).1 (att4 b (newC b)).2.1
      conv => lhs; whnf
      conv => lhs; arg 1; whnf
      refine bnd_g (by omega) ?_
      conv => lhs; whnf
      conv => lhs; arg 1; whnf
      refine bnd_g (by omega) ?_
      conv => lhs; whnf
      refine (lp_lawUpdates (att4 b (newC b)).1 (att4 b (newC b)).2.2 (insF (att4 b (newC b)).1 (att4 b (newC b)).2.1 (att4 b (newC b)).2.2).1 (att4 b (newC b)).2.1 (insF (att4 b (newC b)).1 (att4 b (newC b)).2.1 (att4 b (newC b)).2.2).2.1 (newF (att4 b (newC b)).1 (att4 b (newC b)).2.1 (att4 b (newC b)).2.2) (inlF (att4 b (newC b)).1 (att4 b (newC b)).2.1) hn hil hnew _ (newF (att4 b (newC b)).1 (att4 b (newC b)).2.1 (att4 b (newC b)).2.2).length _ 0 0 rfl (by omega) rfl (by change _ < 399; omega)).trans ?_
      have hst := stemR_len (att4 b (newC b)).1 (att4 b (newC b)).2.1
      have hbr : (brk (stemR (att4 b (newC b)).1 (att4 b (newC b)).2.1) (att4 b (newC b)).2.2).length ≤ 64 := by
        have := idxs_length (fun r => !respOf r.1 r.2 (att4 b (newC b)).2.2) (stemR (att4 b (newC b)).1 (att4 b (newC b)).2.1) 0
        unfold brk
        omega
      have hh : ∀ j, j < (stemR (att4 b (newC b)).1 (att4 b (newC b)).2.1).length → (brk (stemR (att4 b (newC b)).1 (att4 b (newC b)).2.1) (att4 b (newC b)).2.2).any (fun y => y == (j : Int)) = !holdS (insF (att4 b (newC b)).1 (att4 b (newC b)).2.1 (att4 b (newC b)).2.2).1 (insF (att4 b (newC b)).1 (att4 b (newC b)).2.1 (att4 b (newC b)).2.2).2.1 ((stemR (att4 b (newC b)).1 (att4 b (newC b)).2.1).getD j (0, 0)).1 ((stemR (att4 b (newC b)).1 (att4 b (newC b)).2.1).getD j (0, 0)).2 := fun j hj => by
        have := stem_broken hk' hj
        rw [hf]
        exact this
      have hlost : lostF (insF (att4 b (newC b)).1 (att4 b (newC b)).2.1 (att4 b (newC b)).2.2).1 (insF (att4 b (newC b)).1 (att4 b (newC b)).2.1 (att4 b (newC b)).2.2).2.1 ((att4 b (newC b)).2.1.length : Int) = newF (att4 b (newC b)).1 (att4 b (newC b)).2.1 (att4 b (newC b)).2.2 := by
        have := lost_new hk'
        rw [hf]
        exact this
      have hlf := lostF_len (insF (att4 b (newC b)).1 (att4 b (newC b)).2.1 (att4 b (newC b)).2.2).1 (insF (att4 b (newC b)).1 (att4 b (newC b)).2.1 (att4 b (newC b)).2.2).2.1 ((att4 b (newC b)).2.1.length : Int)
      conv => lhs; whnf
      conv => lhs; arg 1; whnf
      refine bnd_g (by exact hc) ?_
      conv => lhs; whnf
      conv => lhs; arg 1; whnf
      refine bnd_g (by omega) ?_
      conv => lhs; whnf
      refine (l3_lawUpdates (att4 b (newC b)).1 (insF (att4 b (newC b)).1 (att4 b (newC b)).2.1 (att4 b (newC b)).2.2).1 (att4 b (newC b)).2.1 (insF (att4 b (newC b)).1 (att4 b (newC b)).2.1 (att4 b (newC b)).2.2).2.1 (newF (att4 b (newC b)).1 (att4 b (newC b)).2.1 (att4 b (newC b)).2.2) (brk (stemR (att4 b (newC b)).1 (att4 b (newC b)).2.1) (att4 b (newC b)).2.2) (stemR (att4 b (newC b)).1 (att4 b (newC b)).2.1) hst hbr (by omega) hh _ (stemR (att4 b (newC b)).1 (att4 b (newC b)).2.1).length _ 0 0 rfl (by omega) rfl (by change _ < 399; omega)).trans ?_
      conv => lhs; whnf
      conv => lhs; arg 1; whnf
      refine bnd_g (by omega) ?_
      conv => lhs; whnf
      conv => lhs; arg 1; whnf
      refine bnd_g (by exact ⟨by omega, by omega⟩) ?_
      conv => lhs; whnf
      refine okB ?_
      rw [hlost]
      exact decide_eq_true rfl
theorem ok_lawUpdates : FnOk Tryz.prog 3 K_lawUpdates := by
  refine fn_ok (fn := Tryz.f3) (k := Tryz.f3.ntmps) (E := E_lawUpdates) (facts_of (List.forall_mem_cons.2 ⟨ok_bigL, List.forall_mem_cons.2 ⟨ok_drawNewIntents, List.forall_mem_cons.2 ⟨ok_implInsertRow, List.forall_mem_cons.2 ⟨ok_specInsertRow, List.forall_mem_cons.2 ⟨ok_implNewIntents, List.forall_mem_cons.2 ⟨ok_drawLostIntents, List.forall_mem_cons.2 ⟨ok_implLostIntents, List.forall_mem_cons.2 ⟨ok_drawBrokenRules, List.forall_mem_cons.2 ⟨ok_implUpdateBase, List.forall_mem_cons.2 ⟨ok_specUpdateBase, List.forall_mem_cons.2 ⟨ok_specEqualContext, List.forall_mem_cons.2 ⟨ok_sameInts, List.forall_mem_cons.2 ⟨ok_specNewIntents, List.forall_mem_cons.2 ⟨ok_specLostIntents, List.forall_mem_cons.2 ⟨ok_implBrokenRules, List.forall_mem_cons.2 ⟨ok_specBrokenRules, List.forall_mem_cons.2 ⟨ok_sameRules, List.forall_mem_cons.2 ⟨ok_specConcepts, List.forall_mem_cons.2 ⟨ok_intentsL, List.forall_mem_cons.2 ⟨ok_hasIntL, List.forall_mem_cons.2 ⟨ok_specStemBase, List.forall_mem_cons.2 ⟨ok_specHoldsIn, List.forall_mem_nil _⟩⟩⟩⟩⟩⟩⟩⟩⟩⟩⟩⟩⟩⟩⟩⟩⟩⟩⟩⟩⟩⟩)) (by kernel_rfl) rfl (by decide +kernel) (by decide +kernel) ?_
  intro avs hin r h
  unfold K_lawUpdates at h
  split at h
  · obtain ⟨hp, rfl⟩ := gd_o h
    exact ⟨_, ev_lawUpdates _ hp, rfl⟩
  · cases h

end Go.Sym
