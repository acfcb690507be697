/- Functions of the program, each told as a plain equation. -/
import Derived.Test.YtmphbdhjdalgnaaGreatDoorSymME
namespace Go.Sym
open Go.Proofs
set_option linter.unusedVariables false
set_option linter.unusedSimpArgs false
set_option maxRecDepth 100000
set_option maxHeartbeats 4000000

/- laws.FnMapped -/
def K_lawMapped : List AV → List Ob → Option (AV × List Ob)
  | [.lst (.int .u8) b], [] => gd (b.length ≤ maxLen) (.bool true, [])
  | _, _ => none
@[reducible] def E_lawMapped : Env := mkE (tb [(4, K_bigL), (5, K_drawFindMap), (6, K_implFindMap), (7, K_specFindMap), (8, K_drawProfileOf), (9, K_drawHasMap), (10, K_sameInts), (11, K_implProfileOf), (12, K_specProfileOf), (13, K_implHasMap), (14, K_specHasMap), (15, K_specIsBelow), (16, K_specReduceContext), (17, K_specCountConcepts)]) (fun f => false) (fun r => bif r == 11 then ([3, 4, 5, 9, 12], [2, 3, 4, 5, 9, 12]) else bif r == 14 then ([3, 4, 5, 9, 12, 13], [2, 3, 4, 5, 9, 12]) else ([], []))
theorem li_lawMapped (m n cm : Int) (a b z c : List Int) (ha : a.length ≤ 1048576) (hb : b.length ≤ 1048576) (hz : z.length ≤ 64) (hq : ∀ i k : Nat, i < z.length → k < z.length → belowB (concF m a) (i : Int) (k : Int) = belowB (concF n b) (z.getD i 0) (z.getD k 0)) (i : Nat) (hi : i < z.length) (k : AX → S → Option (AV × List Ob)) (d : Nat) : ∀ (f j : Nat) (x : Int), z.length - j = d → j ≤ z.length → x = j → d < f →
    lpAt E_lawMapped (lp E_lawMapped 0 f) 0 (loopAt Tryz.f3 1) (mkS [3, 4, 5, 9, 12, 13] [.ptr 0 0, .ptr 2 0, .own 4, .ptr 5 0, .int .i64 (i : Int), .int .i64 x] [some (.box 26 [.int .i64 m, .own 1]), some (.row 3 (.int .i64) a), some (.box 26 [.int .i64 n, .own 3]), some (.row 3 (.int .i64) b), some (.row 3 (.int .i64) z), some (.box 26 [.int .i64 cm, .own 6]), some (.row 3 (.int .i64) c)]) k =
      k (.exit 2) (mkS [2, 3, 4, 5, 9, 12] [.any, .ptr 0 0, .ptr 2 0, .own 4, .ptr 5 0, .int .i64 (i : Int)] [some (.box 26 [.int .i64 m, .own 1]), some (.row 3 (.int .i64) a), some (.box 26 [.int .i64 n, .own 3]), some (.row 3 (.int .i64) b), some (.row 3 (.int .i64) z), some (.box 26 [.int .i64 cm, .own 6]), some (.row 3 (.int .i64) c)]) := by
  induction d with
  | zero =>
    intro f j x hd hj hx hn
    subst hx
    rw [lpAt_def]
    conv => lhs; whnf
    refine br_f (df (by omega)) ?_
    conv => lhs; whnf
  | succ d ih =>
    intro f j x hd hj hx hn
    obtain ⟨f, rfl⟩ : ∃ m, f = m + 1 := ⟨f - 1, by omega⟩
    subst hx
    have hb0 : (belowB (concF m a) (i : Int) (j : Int) != belowB (concF n b) (z.getD i 0) (z.getD j 0)) = false := by rw [hq i j hi (by omega)]; exact bne_self_eq_false _
    rw [lpAt_def]
    conv => lhs; whnf
    refine br_t (dt (by omega)) ?_
    conv => lhs; whnf
    conv => lhs; arg 1; whnf
    refine bnd_g (by omega) ?_
    conv => lhs; whnf
    refine br_t (dt (by omega)) ?_
    conv => lhs; whnf
    refine br_t (dt (by omega)) ?_
    conv => lhs; whnf
    refine br_t (dt (by omega)) ?_
    conv => lhs; whnf
    refine br_t (dt (by omega)) ?_
    conv => lhs; whnf
    conv => lhs; arg 1; whnf
    refine bnd_g (by omega) ?_
    conv => lhs; whnf
    refine br_t (by kernel_rfl) ?_
    conv => lhs; whnf
    refine br_f (by exact hb0) ?_
    conv => lhs; whnf
    exact ih f (j + 1) _ (by omega) (by omega) (by rw [wrap64 (by omega) (by omega)]; simp) (by omega)
theorem lp_lawMapped (m n cm : Int) (a b z c : List Int) (ha : a.length ≤ 1048576) (hb : b.length ≤ 1048576) (hz : z.length ≤ 64) (hq : ∀ i k : Nat, i < z.length → k < z.length → belowB (concF m a) (i : Int) (k : Int) = belowB (concF n b) (z.getD i 0) (z.getD k 0)) (k : AX → S → Option (AV × List Ob)) (d : Nat) : ∀ (f i : Nat) (x : Int), z.length - i = d → i ≤ z.length → x = i → d + 65 < f →
    lpAt E_lawMapped (lp E_lawMapped 0 f) 0 (loopAt Tryz.f3 0) (mkS [3, 4, 5, 9, 12] [.ptr 0 0, .ptr 2 0, .own 4, .ptr 5 0, .int .i64 x] [some (.box 26 [.int .i64 m, .own 1]), some (.row 3 (.int .i64) a), some (.box 26 [.int .i64 n, .own 3]), some (.row 3 (.int .i64) b), some (.row 3 (.int .i64) z), some (.box 26 [.int .i64 cm, .own 6]), some (.row 3 (.int .i64) c)]) k =
      k (.exit 0) (mkS [2, 3, 4, 5, 9, 12] [.any, .ptr 0 0, .ptr 2 0, .own 4, .ptr 5 0, .int .i64 (z.length : Int)] [some (.box 26 [.int .i64 m, .own 1]), some (.row 3 (.int .i64) a), some (.box 26 [.int .i64 n, .own 3]), some (.row 3 (.int .i64) b), some (.row 3 (.int .i64) z), some (.box 26 [.int .i64 cm, .own 6]), some (.row 3 (.int .i64) c)]) := by
  induction d with
  | zero =>
    intro f i x hd hi hx hn
    have e : (i : Int) = (z.length : Int) := by omega
    subst hx
    rw [lpAt_def]
    conv => lhs; whnf
    refine br_f (df (by omega)) ?_
    conv => lhs; whnf
    rw [e]
  | succ d ih =>
    intro f i x hd hi hx hn
    obtain ⟨f, rfl⟩ : ∃ m, f = m + 1 := ⟨f - 1, by omega⟩
    subst hx
    rw [lpAt_def]
    conv => lhs; whnf
    refine br_t (dt (by omega)) ?_
    conv => lhs; whnf
    refine (li_lawMapped m n cm a b z c ha hb hz hq i (by omega) _ z.length f 0 0 rfl (by omega) rfl (by omega)).trans ?_
    conv => lhs; whnf
    exact ih f (i + 1) _ (by omega) (by omega) (by rw [wrap64 (by omega) (by omega)]; simp) (by omega)
theorem ev_lawMapped (b : List Int) (hp : b.length ≤ maxLen) : evF E_lawMapped (400) Tryz.f3 [.lst (.int .u8) b] [] = some (.bool true, []) := by
  conv => lhs; whnf
  conv => lhs; arg 1; whnf
  refine bnd_g (by exact True.intro) ?_
  conv => lhs; whnf
  refine br_c (fun g => ?_) (fun g => ?_)
  · conv => lhs; whnf
  · have hb : b.length ≤ 1048576 := by have := ofn g; omega
    have n0 := newC_ok hb
    have la := d21_len n0
    have l2 : (t23 b).2.length ≤ 9 := t23b_len (d21_cu n0) la
    have lf := fmF_len (d21 b (newC b)).1 (d21 b (newC b)).2.1 (t23 b).1 (t23 b).2
    have lp := profF_len (d21 b (newC b)).1 (d21 b (newC b)).2.1
    have lr := redF_len (d21 b (newC b)).1 (d21 b (newC b)).2.1
    have lo := redF_ok (d21 b (newC b)).1 (d21 b (newC b)).2.1
    have hq : ∀ i k : Nat, i < ((fmF (d21 b (newC b)).1 (d21 b (newC b)).2.1 (t23 b).1 (t23 b).2).getD []).length → k < ((fmF (d21 b (newC b)).1 (d21 b (newC b)).2.1 (t23 b).1 (t23 b).2).getD []).length → belowB (concF (d21 b (newC b)).1 (d21 b (newC b)).2.1) (i : Int) (k : Int) = belowB (concF (t23 b).1 (t23 b).2) (((fmF (d21 b (newC b)).1 (d21 b (newC b)).2.1 (t23 b).1 (t23 b).2).getD []).getD i 0) (((fmF (d21 b (newC b)).1 (d21 b (newC b)).2.1 (t23 b).1 (t23 b).2).getD []).getD k 0) := by
      intro i k hi hk
      cases h : fmF (d21 b (newC b)).1 (d21 b (newC b)).2.1 (t23 b).1 (t23 b).2 with
      | none => rw [h] at hi; exact absurd hi (Nat.not_lt_zero _)
      | some z => rw [h] at hi hk; exact fm_below h hi hk
    conv => lhs; whnf
    conv => lhs; arg 1; whnf
    refine bnd_g (by exact hb) ?_
    conv => lhs; whnf
    conv => lhs; arg 1; whnf
    refine bnd_g (by omega) ?_
    conv => lhs; whnf
    conv => lhs; arg 1; whnf
    refine bnd_g (by omega) ?_
    conv => lhs; whnf
    conv => lhs; arg 1; whnf
    refine bnd_g (by exact hb) ?_
    conv => lhs; whnf
    conv => lhs; arg 1; whnf
    refine bnd_g (by exact hb) ?_
    conv => lhs; whnf
    repeat ((first | with_reducible apply br_tt | with_reducible apply br_ff | with_reducible apply br_nf | with_reducible apply br_nt | with_reducible refine br_d ?_ (by kernel_rfl) | with_reducible refine br_f (by simp; done) ?_); conv => lhs; whnf)
    conv => lhs; arg 1; whnf
    refine bnd_g (by omega) ?_
    conv => lhs; whnf
    repeat ((first | with_reducible apply br_tt | with_reducible apply br_ff | with_reducible apply br_nf | with_reducible apply br_nt | with_reducible refine br_d ?_ (by kernel_rfl) | with_reducible refine br_f (by simp; done) ?_); conv => lhs; whnf)
    conv => lhs; arg 1; whnf
    refine bnd_g (by omega) ?_
    conv => lhs; whnf
    repeat ((first | with_reducible apply br_tt | with_reducible apply br_ff | with_reducible apply br_nf | with_reducible apply br_nt | with_reducible refine br_d ?_ (by kernel_rfl) | with_reducible refine br_f (by simp; done) ?_); conv => lhs; whnf)
    conv => lhs; arg 1; whnf
    refine bnd_g (by omega) ?_
    conv => lhs; whnf
    repeat ((first | with_reducible apply br_tt | with_reducible apply br_ff | with_reducible apply br_nf | with_reducible apply br_nt | with_reducible refine br_d ?_ (by kernel_rfl) | with_reducible refine br_f (by simp; done) ?_); conv => lhs; whnf)
    conv => lhs; arg 1; whnf
    refine bnd_g (by omega) ?_
    conv => lhs; whnf
    repeat ((first | with_reducible apply br_tt | with_reducible apply br_ff | with_reducible apply br_nf | with_reducible apply br_nt | with_reducible refine br_d ?_ (by kernel_rfl) | with_reducible refine br_f (by simp; done) ?_); conv => lhs; whnf)
    conv => lhs; arg 1; whnf
    refine bnd_g (by omega) ?_
    conv => lhs; whnf
    repeat ((first | with_reducible apply br_tt | with_reducible apply br_ff | with_reducible apply br_nf | with_reducible apply br_nt | with_reducible refine br_d ?_ (by kernel_rfl) | with_reducible refine br_f (by simp; done) ?_); conv => lhs; whnf)
    conv => lhs; arg 1; whnf
    refine bnd_g (by omega) ?_
    conv => lhs; whnf
    repeat ((first | with_reducible apply br_tt | with_reducible apply br_ff | with_reducible apply br_nf | with_reducible apply br_nt | with_reducible refine br_d ?_ (by kernel_rfl) | with_reducible refine br_f (by simp; done) ?_); conv => lhs; whnf)
    refine (lp_lawMapped _ _ _ _ _ _ _ (by omega) (by omega) lf hq _ _ 399 0 0 rfl (by omega) rfl (by omega)).trans ?_
    conv => lhs; whnf
    conv => lhs; arg 1; whnf
    refine bnd_g (by omega) ?_
    conv => lhs; whnf
    refine br_c (fun h1 => ?_) (fun h1 => ?_)
    · conv => lhs; whnf
      repeat ((first | with_reducible apply br_tt | with_reducible apply br_ff | with_reducible apply br_nf | with_reducible apply br_nt | with_reducible refine br_d ?_ (by kernel_rfl) | with_reducible apply br_t h1 | with_reducible apply br_f h1); conv => lhs; whnf)
      all_goals rfl
    · have h1' : isCtx (d21 b (newC b)).1 (d21 b (newC b)).2.1 = true := lo.symm.trans (bnf h1)
      conv => lhs; whnf
      repeat ((first | with_reducible apply br_tt | with_reducible apply br_ff | with_reducible apply br_nf | with_reducible apply br_nt | with_reducible refine br_d ?_ (by kernel_rfl) | with_reducible apply br_t h1 | with_reducible apply br_f h1); conv => lhs; whnf)
      conv => lhs; arg 1; whnf
      refine bnd_g (by omega) ?_
      conv => lhs; whnf
      repeat ((first | with_reducible apply br_tt | with_reducible apply br_ff | with_reducible apply br_nf | with_reducible apply br_nt | with_reducible refine br_d ?_ (by kernel_rfl) | with_reducible apply br_t h1 | with_reducible apply br_f h1); conv => lhs; whnf)
      refine br_c (fun h2 => ?_) (fun h2 => ?_)
      · conv => lhs; whnf
        repeat ((first | with_reducible apply br_tt | with_reducible apply br_ff | with_reducible apply br_nf | with_reducible apply br_nt | with_reducible refine br_d ?_ (by kernel_rfl) | with_reducible apply br_t h1 | with_reducible apply br_f h1 | with_reducible apply br_t h2 | with_reducible apply br_f h2); conv => lhs; whnf)
        all_goals rfl
      · have h2' : (concF (d21 b (newC b)).1 (d21 b (newC b)).2.1).length ≤ 24 := by
          have := ofn h2
          omega
        have h3 := red_map h1' h2'
        conv => lhs; whnf
        repeat ((first | with_reducible apply br_tt | with_reducible apply br_ff | with_reducible apply br_nf | with_reducible apply br_nt | with_reducible refine br_d ?_ (by kernel_rfl) | with_reducible apply br_t h1 | with_reducible apply br_f h1 | with_reducible apply br_t h2 | with_reducible apply br_f h2); conv => lhs; whnf)
        conv => lhs; arg 1; whnf
        refine bnd_g (by omega) ?_
        conv => lhs; whnf
        repeat ((first | with_reducible apply br_tt | with_reducible apply br_ff | with_reducible apply br_nf | with_reducible apply br_nt | with_reducible refine br_d ?_ (by kernel_rfl) | with_reducible apply br_t h1 | with_reducible apply br_f h1 | with_reducible apply br_t h2 | with_reducible apply br_f h2); conv => lhs; whnf)
        all_goals exact okB h3
theorem ok_lawMapped : FnOk Tryz.prog 3 K_lawMapped := by
  refine fn_ok (fn := Tryz.f3) (k := Tryz.f3.ntmps) (E := E_lawMapped) (facts_of (List.forall_mem_cons.2 ⟨ok_bigL, List.forall_mem_cons.2 ⟨ok_drawFindMap, List.forall_mem_cons.2 ⟨ok_implFindMap, List.forall_mem_cons.2 ⟨ok_specFindMap, List.forall_mem_cons.2 ⟨ok_drawProfileOf, List.forall_mem_cons.2 ⟨ok_drawHasMap, List.forall_mem_cons.2 ⟨ok_sameInts, List.forall_mem_cons.2 ⟨ok_implProfileOf, List.forall_mem_cons.2 ⟨ok_specProfileOf, List.forall_mem_cons.2 ⟨ok_implHasMap, List.forall_mem_cons.2 ⟨ok_specHasMap, List.forall_mem_cons.2 ⟨ok_specIsBelow, List.forall_mem_cons.2 ⟨ok_specReduceContext, List.forall_mem_cons.2 ⟨ok_specCountConcepts, List.forall_mem_nil _⟩⟩⟩⟩⟩⟩⟩⟩⟩⟩⟩⟩⟩⟩)) (by kernel_rfl) rfl (by decide +kernel) (by decide +kernel) ?_
  intro avs hin r h
  unfold K_lawMapped at h
  split at h
  · obtain ⟨hp, rfl⟩ := gd_o h
    exact ⟨_, ev_lawMapped _ hp, rfl⟩
  · cases h

end Go.Sym
