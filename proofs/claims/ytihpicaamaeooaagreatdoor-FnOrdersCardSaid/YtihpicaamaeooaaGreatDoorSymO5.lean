/- Functions of the program, each told as a plain equation. -/
import Derived.Test.YtihpicaamaeooaaGreatDoorSymO4
namespace Go.Sym
open Go.Proofs
set_option linter.unusedVariables false
set_option linter.unusedSimpArgs false
set_option maxRecDepth 100000
set_option maxHeartbeats 4000000

/- laws.FnOrders -/
def K_lawOrders : List AV → List Ob → Option (AV × List Ob)
  | [.lst (.int .u8) b], [] => gd (b.length ≤ maxLen) (.bool true, [])
  | _, _ => none
@[reducible] def E_lawOrders : Env := mkE (tb [(5, K_bigL), (6, K_drawContextOfOrder), (7, K_implContextOfOrder), (8, K_specContextOfOrder), (9, K_implIdealContext), (10, K_specIdealContext), (11, K_implIdealsOf), (12, K_drawPlaceOf), (13, K_specEqualContext), (14, K_sameInts), (15, K_specIdealsOf), (16, K_implPlaceOf), (17, K_specPlaceOf), (18, K_implCompletionSize), (19, K_specCompletionSize), (20, K_implOrderText), (21, K_specOrderText), (22, K_implIsOrder), (23, K_specIsOrder), (24, K_specHasElement), (25, K_specIsBelow), (26, K_specConcepts), (27, K_hasIntL), (28, K_specIsDistributive)]) (fun f => false) (fun r => bif r == 15 then ([3, 4, 8, 12, 15], [2, 3, 4, 8, 12, 15]) else bif r == 18 then ([3, 4, 8, 12, 15, 16], [2, 3, 4, 8, 12, 15]) else bif r == 24 then ([3, 8, 12, 17, 18], [2, 3, 8, 12, 17]) else ([], []))
theorem lq_lawOrders (P : List Int) (hP : isOrd P = true) (cn : Int) (hcn : cn = (P.length : Int)) (R : List Int) (hR : R = rowsL P P.length 0) (nI : Int) (I ids : List Int) (j : Nat) (hj : j < P.length) (k : AX → S → Option (AV × List Ob)) (d : Nat) : ∀ (n i : Nat) (x : Int), P.length - i = d → i ≤ P.length → x = i → d < n →
    lpAt E_lawOrders (lp E_lawOrders 0 n) 0 (loopAt Tryz.f3 1) (mkS [3, 4, 8, 12, 15, 16] [.ptr 0 0, .ptr 2 0, .ptr 4 0, .own 6, .int .i64 (j : Int), .int .i64 x] [some (.box 26 [.own 1]), some (.row 3 (.int .i64) P), some (.box 29 [.int .i64 cn, .own 3]), some (.row 3 (.int .i64) R), some (.box 29 [.int .i64 nI, .own 5]), some (.row 3 (.int .i64) I), some (.row 3 (.int .i64) ids)]) k =
      k (.exit 2) (mkS [2, 3, 4, 8, 12, 15] [.any, .ptr 0 0, .ptr 2 0, .ptr 4 0, .own 6, .int .i64 (j : Int)] [some (.box 26 [.own 1]), some (.row 3 (.int .i64) P), some (.box 29 [.int .i64 cn, .own 3]), some (.row 3 (.int .i64) R), some (.box 29 [.int .i64 nI, .own 5]), some (.row 3 (.int .i64) I), some (.row 3 (.int .i64) ids)]) := by
  have h6 := (ord_le hP).1
  have hRl : R.length ≤ 6 := by rw [hR, rowsL_length]; omega
  induction d with
  | zero =>
    intro n i x hd hi hx hn
    subst hx
    rw [lpAt_def]
    conv => lhs; whnf
    refine br_f (df (by omega)) ?_
    conv => lhs; whnf
  | succ d ih =>
    intro n i x hd hi hx hn
    obtain ⟨n, rfl⟩ : ∃ m, n = m + 1 := ⟨n - 1, by omega⟩
    subst hx
    have hv : (hasE (P.getD i 0) (j : Int) != belowB (concF cn R) (placeF P (j : Int)) (placeF P (i : Int))) = false := by
      rw [hcn, hR, place_below hP hj (by omega)]
      exact bne_self_eq_false _
    rw [lpAt_def]
    conv => lhs; whnf
    refine br_t (dt (by omega)) ?_
    conv => lhs; whnf
    refine br_t (dt2 (by omega) (by omega)) ?_
    conv => lhs; whnf
    refine br_t (dt (by omega)) ?_
    conv => lhs; whnf
    conv => lhs; arg 1; whnf
    refine bnd_g (by exact True.intro) ?_
    conv => lhs; whnf
    repeat ((first | with_reducible apply br_tt | with_reducible apply br_ff | with_reducible apply br_nf | with_reducible apply br_nt | with_reducible refine br_d ?_ (by kernel_rfl) | with_reducible refine br_t (dt2 (by omega) (by omega)) ?_); conv => lhs; whnf)
    conv => lhs; arg 1; whnf
    refine bnd_g (by omega) ?_
    conv => lhs; whnf
    repeat ((first | with_reducible apply br_tt | with_reducible apply br_ff | with_reducible apply br_nf | with_reducible apply br_nt | with_reducible refine br_d ?_ (by kernel_rfl) | with_reducible refine br_t (dt2 (by omega) (by omega)) ?_); conv => lhs; whnf)
    conv => lhs; arg 1; whnf
    refine bnd_g (by omega) ?_
    conv => lhs; whnf
    repeat ((first | with_reducible apply br_tt | with_reducible apply br_ff | with_reducible apply br_nf | with_reducible apply br_nt | with_reducible refine br_d ?_ (by kernel_rfl) | with_reducible refine br_t (dt2 (by omega) (by omega)) ?_); conv => lhs; whnf)
    conv => lhs; arg 1; whnf
    refine bnd_g (by omega) ?_
    conv => lhs; whnf
    repeat ((first | with_reducible apply br_tt | with_reducible apply br_ff | with_reducible apply br_nf | with_reducible apply br_nt | with_reducible refine br_d ?_ (by kernel_rfl) | with_reducible refine br_t (dt2 (by omega) (by omega)) ?_); conv => lhs; whnf)
    refine br_f (by exact hv) ?_
    conv => lhs; whnf
    exact ih n (i + 1) (IntKind.i64.wrap ((i : Int) + 1)) (by omega) (by omega) (by rw [wrap64 (by omega) (by omega)]; simp) (by omega)
theorem lp_lawOrders (P : List Int) (hP : isOrd P = true) (cn : Int) (hcn : cn = (P.length : Int)) (R : List Int) (hR : R = rowsL P P.length 0) (nI : Int) (I ids : List Int) (k : AX → S → Option (AV × List Ob)) (d : Nat) : ∀ (n i : Nat) (x : Int), P.length - i = d → i ≤ P.length → x = i → d + 20 < n →
    lpAt E_lawOrders (lp E_lawOrders 0 n) 0 (loopAt Tryz.f3 0) (mkS [3, 4, 8, 12, 15] [.ptr 0 0, .ptr 2 0, .ptr 4 0, .own 6, .int .i64 x] [some (.box 26 [.own 1]), some (.row 3 (.int .i64) P), some (.box 29 [.int .i64 cn, .own 3]), some (.row 3 (.int .i64) R), some (.box 29 [.int .i64 nI, .own 5]), some (.row 3 (.int .i64) I), some (.row 3 (.int .i64) ids)]) k =
      k (.exit 0) (mkS [2, 3, 4, 8, 12, 15] [.any, .ptr 0 0, .ptr 2 0, .ptr 4 0, .own 6, .int .i64 (P.length : Int)] [some (.box 26 [.own 1]), some (.row 3 (.int .i64) P), some (.box 29 [.int .i64 cn, .own 3]), some (.row 3 (.int .i64) R), some (.box 29 [.int .i64 nI, .own 5]), some (.row 3 (.int .i64) I), some (.row 3 (.int .i64) ids)]) := by
  have h6 := (ord_le hP).1
  induction d with
  | zero =>
    intro n i x hd hi hx hn
    subst hx
    have e : i = P.length := by omega
    rw [lpAt_def]
    conv => lhs; whnf
    refine br_f (df (by omega)) ?_
    conv => lhs; whnf
    rw [e]
  | succ d ih =>
    intro n i x hd hi hx hn
    obtain ⟨n, rfl⟩ : ∃ m, n = m + 1 := ⟨n - 1, by omega⟩
    subst hx
    rw [lpAt_def]
    conv => lhs; whnf
    refine br_t (dt (by omega)) ?_
    conv => lhs; whnf
    refine (lq_lawOrders P hP cn hcn R hR nI I ids i (by omega) _ P.length _ 0 0 rfl (by omega) rfl (by omega)).trans ?_
    conv => lhs; whnf
    exact ih n (i + 1) (IntKind.i64.wrap ((i : Int) + 1)) (by omega) (by omega) (by rw [wrap64 (by omega) (by omega)]; simp) (by omega)
theorem l3_lawOrders (P : List Int) (nI : Int) (I ids : List Int) (hids : ids.length ≤ 64) (l : List (Int × Int)) (hl : l.length ≤ 64) (hall : ∀ p ∈ l, ids.any (fun y => y == p.1) = true) (k : AX → S → Option (AV × List Ob)) (d : Nat) : ∀ (n i : Nat) (x : Int), l.length - i = d → i ≤ l.length → x = i → d < n →
    lpAt E_lawOrders (lp E_lawOrders 0 n) 0 (loopAt Tryz.f3 2) (mkS [3, 8, 12, 17, 18] [.ptr 0 0, .ptr 2 0, .own 4, .own 5, .int .i64 x] [some (.box 26 [.own 1]), some (.row 3 (.int .i64) P), some (.box 29 [.int .i64 nI, .own 3]), some (.row 3 (.int .i64) I), some (.row 3 (.int .i64) ids), some (.row 47 (.pair (.int .i64) (.int .i64)) l)]) k =
      k (.exit 4) (mkS [2, 3, 8, 12, 17] [.any, .ptr 0 0, .ptr 2 0, .own 4, .own 5] [some (.box 26 [.own 1]), some (.row 3 (.int .i64) P), some (.box 29 [.int .i64 nI, .own 3]), some (.row 3 (.int .i64) I), some (.row 3 (.int .i64) ids), some (.row 47 (.pair (.int .i64) (.int .i64)) l)]) := by
  induction d with
  | zero =>
    intro n i x hd hi hx hn
    subst hx
    rw [lpAt_def]
    conv => lhs; whnf
    refine br_f (df (by omega)) ?_
    conv => lhs; whnf
  | succ d ih =>
    intro n i x hd hi hx hn
    obtain ⟨n, rfl⟩ : ∃ m, n = m + 1 := ⟨n - 1, by omega⟩
    subst hx
    have hv := hall _ (mem_getD (d := (0, 0)) (show i < l.length by omega))
    have hv' : (!ids.any (fun y => y == (l.getD i (0, 0)).1)) = false := by rw [hv]; rfl
    rw [lpAt_def]
    conv => lhs; whnf
    refine br_t (dt (by omega)) ?_
    conv => lhs; whnf
    refine br_t (dt2 (by omega) (by omega)) ?_
    conv => lhs; whnf
    refine br_t (dt (by omega)) ?_
    conv => lhs; whnf
    conv => lhs; arg 1; whnf
    refine bnd_g (by omega) ?_
    conv => lhs; whnf
    refine br_f (by exact hv') ?_
    conv => lhs; whnf
    exact ih n (i + 1) (IntKind.i64.wrap ((i : Int) + 1)) (by omega) (by omega) (by rw [wrap64 (by omega) (by omega)]; simp) (by omega)
theorem ev_lawOrders (b : List Int) (hp : b.length ≤ maxLen) : evF E_lawOrders (400) Tryz.f3 [.lst (.int .u8) b] [] = some (.bool true, []) := by
  conv => lhs; whnf
  conv => lhs; arg 1; whnf
  refine bnd_g (by exact True.intro) ?_
  conv => lhs; whnf
  refine br_c (fun g => ?_) (fun g => ?_)
  · conv => lhs; whnf
  · have hb : b.length ≤ 1048576 := by have := ofn g; omega
    have n0 := newC_ok hb
    have l6 := (ordD_ok n0).2
    have lc := ctxOrd_len (ordD b (newC b)).1
    have li := ctxIdl_len (ordD b (newC b)).1
    have lf := idealsF_length (ordD b (newC b)).1
    conv => lhs; whnf
    conv => lhs; arg 1; whnf
    refine bnd_g (by exact hb) ?_
    conv => lhs; whnf
    conv => lhs; arg 1; whnf
    refine bnd_g (by omega) ?_
    conv => lhs; whnf
    conv => lhs; arg 1; whnf
    refine bnd_g (by omega) ?_
    conv => lhs; whnf
    conv => lhs; arg 1; whnf
    refine bnd_g (by omega) ?_
    conv => lhs; whnf
    conv => lhs; arg 1; whnf
    refine bnd_g (by omega) ?_
    conv => lhs; whnf
    conv => lhs; arg 1; whnf
    refine bnd_g (by omega) ?_
    conv => lhs; whnf
    conv => lhs; arg 1; whnf
    refine bnd_g (by exact hb) ?_
    conv => lhs; whnf
    repeat ((first | with_reducible apply br_tt | with_reducible apply br_ff | with_reducible apply br_nf | with_reducible apply br_nt | with_reducible refine br_d ?_ (by kernel_rfl) | with_reducible refine br_f (by simp; done) ?_); conv => lhs; whnf)
    conv => lhs; arg 1; whnf
    refine bnd_g (by exact ⟨by omega, by omega⟩) ?_
    conv => lhs; whnf
    repeat ((first | with_reducible apply br_tt | with_reducible apply br_ff | with_reducible apply br_nf | with_reducible apply br_nt | with_reducible refine br_d ?_ (by kernel_rfl) | with_reducible refine br_f (by simp; done) ?_); conv => lhs; whnf)
    conv => lhs; arg 1; whnf
    refine bnd_g (by exact ⟨by omega, by omega⟩) ?_
    conv => lhs; whnf
    repeat ((first | with_reducible apply br_tt | with_reducible apply br_ff | with_reducible apply br_nf | with_reducible apply br_nt | with_reducible refine br_d ?_ (by kernel_rfl) | with_reducible refine br_f (by simp; done) ?_); conv => lhs; whnf)
    conv => lhs; arg 1; whnf
    refine bnd_g (by omega) ?_
    conv => lhs; whnf
    repeat ((first | with_reducible apply br_tt | with_reducible apply br_ff | with_reducible apply br_nf | with_reducible apply br_nt | with_reducible refine br_d ?_ (by kernel_rfl) | with_reducible refine br_f (by simp; done) ?_); conv => lhs; whnf)
    conv => lhs; arg 1; whnf
    refine bnd_g (by exact ⟨by omega, by omega⟩) ?_
    conv => lhs; whnf
    repeat ((first | with_reducible apply br_tt | with_reducible apply br_ff | with_reducible apply br_nf | with_reducible apply br_nt | with_reducible refine br_d ?_ (by kernel_rfl) | with_reducible refine br_f (by simp; done) ?_); conv => lhs; whnf)
    conv => lhs; arg 1; whnf
    refine bnd_g (by omega) ?_
    conv => lhs; whnf
    repeat ((first | with_reducible apply br_tt | with_reducible apply br_ff | with_reducible apply br_nf | with_reducible apply br_nt | with_reducible refine br_d ?_ (by kernel_rfl) | with_reducible refine br_f (by simp; done) ?_); conv => lhs; whnf)
    conv => lhs; arg 1; whnf
    refine bnd_g (by omega) ?_
    conv => lhs; whnf
    repeat ((first | with_reducible apply br_tt | with_reducible apply br_ff | with_reducible apply br_nf | with_reducible apply br_nt | with_reducible refine br_d ?_ (by kernel_rfl) | with_reducible refine br_f (by simp; done) ?_); conv => lhs; whnf)
    conv => lhs; arg 1; whnf
    refine bnd_g (by omega) ?_
    conv => lhs; whnf
    repeat ((first | with_reducible apply br_tt | with_reducible apply br_ff | with_reducible apply br_nf | with_reducible apply br_nt | with_reducible refine br_d ?_ (by kernel_rfl) | with_reducible refine br_f (by simp; done) ?_); conv => lhs; whnf)
    conv => lhs; arg 1; whnf
    refine bnd_g (by omega) ?_
    conv => lhs; whnf
    repeat ((first | with_reducible apply br_tt | with_reducible apply br_ff | with_reducible apply br_nf | with_reducible apply br_nt | with_reducible refine br_d ?_ (by kernel_rfl) | with_reducible refine br_f (by simp; done) ?_); conv => lhs; whnf)
    conv => lhs; arg 1; whnf
    refine bnd_g (by omega) ?_
    conv => lhs; whnf
    repeat ((first | with_reducible apply br_tt | with_reducible apply br_ff | with_reducible apply br_nf | with_reducible apply br_nt | with_reducible refine br_d ?_ (by kernel_rfl) | with_reducible refine br_f (by simp; done) ?_); conv => lhs; whnf)
    conv => lhs; arg 1; whnf
    refine bnd_g (by omega) ?_
    conv => lhs; whnf
    repeat ((first | with_reducible apply br_tt | with_reducible apply br_ff | with_reducible apply br_nf | with_reducible apply br_nt | with_reducible refine br_d ?_ (by kernel_rfl) | with_reducible refine br_f (by simp; done) ?_); conv => lhs; whnf)
    conv => lhs; arg 1; whnf
    refine bnd_g (by omega) ?_
    conv => lhs; whnf
    repeat ((first | with_reducible apply br_tt | with_reducible apply br_ff | with_reducible apply br_nf | with_reducible apply br_nt | with_reducible refine br_d ?_ (by kernel_rfl) | with_reducible refine br_f (by simp; done) ?_); conv => lhs; whnf)
    conv => lhs; arg 1; whnf
    refine bnd_g (by omega) ?_
    conv => lhs; whnf
    have htx : (!((ordTx (ordD b (newC b)).1).toList == (ordTx (ordD b (newC b)).1).toList)) = false := by simp
    have hio : (!(isOrd (ordD b (newC b)).1 == isOrd (ordD b (newC b)).1)) = false := by simp
    repeat ((first | with_reducible apply br_tt | with_reducible apply br_ff | with_reducible apply br_nf | with_reducible apply br_nt | with_reducible refine br_d ?_ (by kernel_rfl) | with_reducible apply br_t htx | with_reducible apply br_f htx | with_reducible apply br_t hio | with_reducible apply br_f hio); conv => lhs; whnf)
    refine br_c (fun h3 => ?_) (fun h3 => ?_)
    · have h3' := bnt h3
      have h0 : isOrd (ordD b (newC b)).1 = false := by
        unfold ctxOrd at h3'
        cases hb : isOrd (ordD b (newC b)).1
        · rfl
        · rw [hb] at h3'; cases h3'
      have e1 : (ctxIdl (ordD b (newC b)).1).2.2 = false := by unfold ctxIdl; rw [h0]; rfl
      have e2 : idealsF (ordD b (newC b)).1 = [] := by unfold idealsF; rw [h0]; rfl
      have e1' : (!(ctxIdl (ordD b (newC b)).1).2.2) = true := by rw [e1]; rfl
      conv => lhs; whnf
      repeat ((first | with_reducible apply br_tt | with_reducible apply br_ff | with_reducible apply br_nf | with_reducible apply br_nt | with_reducible refine br_d ?_ (by kernel_rfl) | with_reducible apply br_t e1' | with_reducible apply br_f e1'); conv => lhs; whnf)
      refine okB ?_
      rw [e2]
      rfl
    · have h3' := bnf h3
      have h0 : isOrd (ordD b (newC b)).1 = true := by
        unfold ctxOrd at h3'
        cases hb : isOrd (ordD b (newC b)).1
        · rw [hb] at h3'; cases h3'
        · rfl
      have ec : ctxOrd (ordD b (newC b)).1 = (((ordD b (newC b)).1.length : Int), rowsL (ordD b (newC b)).1 (ordD b (newC b)).1.length 0, true) := by unfold ctxOrd; rw [h0]; rfl
      have ei : ctxIdl (ordD b (newC b)).1 = (((ordD b (newC b)).1.length : Int), rowsI (ordD b (newC b)).1 (ordD b (newC b)).1.length 0, true) := by unfold ctxIdl; rw [h0]; rfl
      have hall : ∀ p ∈ concF (ctxIdl (ordD b (newC b)).1).1 (ctxIdl (ordD b (newC b)).1).2.1, (idealsF (ordD b (newC b)).1).any (fun y => y == p.1) = true := fun p hp => by
        rw [ei] at hp
        refine List.any_eq_true.2 ⟨p.1, (ideals_conc h0 p.1).1 (List.mem_map.2 ⟨p, hp, rfl⟩), ?_⟩
        exact beq_self_eq_true _
      have hcl := concF_len (ctxIdl (ordD b (newC b)).1).1 (ctxIdl (ordD b (newC b)).1).2.1
      have hcnt : ((concF (ctxIdl (ordD b (newC b)).1).1 (ctxIdl (ordD b (newC b)).1).2.1).length : Int) = ((idealsF (ordD b (newC b)).1).length : Int) := by
        rw [ei]
        exact congrArg _ (ideals_count h0)
      have hcnt' : (((concF (ctxIdl (ordD b (newC b)).1).1 (ctxIdl (ordD b (newC b)).1).2.1).length : Int) == ((idealsF (ordD b (newC b)).1).length : Int)) = true := beq_iff_eq.2 hcnt
      have hdist : lawV (ctxIdl (ordD b (newC b)).1).1 (ctxIdl (ordD b (newC b)).1).2.1 true = true := by
        rw [ei]
        exact dist_i h0
      have hle : cszF (ordD b (newC b)).1 ≤ ((idealsF (ordD b (newC b)).1).length : Int) := by
        have := compl_le h0
        unfold cszF
        rw [ec]
        exact Int.ofNat_le.2 this
      conv => lhs; whnf
      refine (lp_lawOrders (ordD b (newC b)).1 h0 (ctxOrd (ordD b (newC b)).1).1 (by rw [ec]) (ctxOrd (ordD b (newC b)).1).2.1 (by rw [ec]) (ctxIdl (ordD b (newC b)).1).1 (ctxIdl (ordD b (newC b)).1).2.1 (idealsF (ordD b (newC b)).1) _ (ordD b (newC b)).1.length _ 0 0 rfl (by omega) rfl (by change _ < 399; omega)).trans ?_
      conv => lhs; whnf
      conv => lhs; arg 1; whnf
      refine bnd_g (by omega) ?_
      conv => lhs; whnf
      refine (l3_lawOrders (ordD b (newC b)).1 (ctxIdl (ordD b (newC b)).1).1 (ctxIdl (ordD b (newC b)).1).2.1 (idealsF (ordD b (newC b)).1) lf (concF (ctxIdl (ordD b (newC b)).1).1 (ctxIdl (ordD b (newC b)).1).2.1) hcl hall _ (concF (ctxIdl (ordD b (newC b)).1).1 (ctxIdl (ordD b (newC b)).1).2.1).length _ 0 0 rfl (by omega) rfl (by change _ < 399; omega)).trans ?_
      conv => lhs; whnf
      repeat ((first | with_reducible apply br_tt | with_reducible apply br_ff | with_reducible apply br_nf | with_reducible apply br_nt | with_reducible refine br_d ?_ (by kernel_rfl) | with_reducible apply br_t hcnt' | with_reducible apply br_f hcnt'); conv => lhs; whnf)
      conv => lhs; arg 1; whnf
      refine bnd_g (by omega) ?_
      conv => lhs; whnf
      repeat ((first | with_reducible apply br_tt | with_reducible apply br_ff | with_reducible apply br_nf | with_reducible apply br_nt | with_reducible refine br_d ?_ (by kernel_rfl) | with_reducible apply br_t hcnt' | with_reducible apply br_f hcnt' | with_reducible apply br_t hdist | with_reducible apply br_f hdist); conv => lhs; whnf)
      conv => lhs; arg 1; whnf
      refine bnd_g (by omega) ?_
      conv => lhs; whnf
      repeat ((first | with_reducible apply br_tt | with_reducible apply br_ff | with_reducible apply br_nf | with_reducible apply br_nt | with_reducible refine br_d ?_ (by kernel_rfl) | with_reducible apply br_t hcnt' | with_reducible apply br_f hcnt' | with_reducible apply br_t hdist | with_reducible apply br_f hdist); conv => lhs; whnf)
      refine okB ?_
      exact decide_eq_true (by rw [wrap64 (n := ((idealsF (ordD b (newC b)).1).length : Int) + 1) (by omega) (by omega)]; omega)
theorem ok_lawOrders : FnOk Tryz.prog 3 K_lawOrders := by
  refine fn_ok (fn := Tryz.f3) (k := Tryz.f3.ntmps) (E := E_lawOrders) (facts_of (List.forall_mem_cons.2 ⟨(FnOk.soft (fun h => False.elim h) ok_bigL), List.forall_mem_cons.2 ⟨(FnOk.soft (fun h => False.elim h) ok_drawContextOfOrder), List.forall_mem_cons.2 ⟨(FnOk.soft (fun h => False.elim h) ok_implContextOfOrder), List.forall_mem_cons.2 ⟨(FnOk.soft (fun h => False.elim h) ok_specContextOfOrder), List.forall_mem_cons.2 ⟨(FnOk.soft (fun h => False.elim h) ok_implIdealContext), List.forall_mem_cons.2 ⟨(FnOk.soft (fun h => False.elim h) ok_specIdealContext), List.forall_mem_cons.2 ⟨(FnOk.soft (fun h => False.elim h) ok_implIdealsOf), List.forall_mem_cons.2 ⟨(FnOk.soft (fun h => False.elim h) ok_drawPlaceOf), List.forall_mem_cons.2 ⟨(FnOk.soft (fun h => False.elim h) ok_specEqualContext), List.forall_mem_cons.2 ⟨(FnOk.soft (fun h => False.elim h) ok_sameInts), List.forall_mem_cons.2 ⟨(FnOk.soft (fun h => False.elim h) ok_specIdealsOf), List.forall_mem_cons.2 ⟨(FnOk.soft (fun h => False.elim h) ok_implPlaceOf), List.forall_mem_cons.2 ⟨(FnOk.soft (fun h => False.elim h) ok_specPlaceOf), List.forall_mem_cons.2 ⟨(FnOk.soft (fun h => False.elim h) ok_implCompletionSize), List.forall_mem_cons.2 ⟨(FnOk.soft (fun h => False.elim h) ok_specCompletionSize), List.forall_mem_cons.2 ⟨ok_implOrderText, List.forall_mem_cons.2 ⟨ok_specOrderText, List.forall_mem_cons.2 ⟨(FnOk.soft (fun h => False.elim h) ok_implIsOrder), List.forall_mem_cons.2 ⟨(FnOk.soft (fun h => False.elim h) ok_specIsOrder), List.forall_mem_cons.2 ⟨(FnOk.soft (fun h => False.elim h) ok_specHasElement), List.forall_mem_cons.2 ⟨(FnOk.soft (fun h => False.elim h) ok_specIsBelow), List.forall_mem_cons.2 ⟨(FnOk.soft (fun h => False.elim h) ok_specConcepts), List.forall_mem_cons.2 ⟨(FnOk.soft (fun h => False.elim h) ok_hasIntL), List.forall_mem_cons.2 ⟨(FnOk.soft (fun h => False.elim h) ok_specIsDistributive), List.forall_mem_nil _⟩⟩⟩⟩⟩⟩⟩⟩⟩⟩⟩⟩⟩⟩⟩⟩⟩⟩⟩⟩⟩⟩⟩⟩)) (by kernel_rfl) rfl (by decide +kernel) (by decide +kernel) ?_
  intro avs hin r h
  unfold K_lawOrders at h
  split at h
  · obtain ⟨hp, rfl⟩ := gd_o h
    exact ⟨_, ev_lawOrders _ hp, rfl⟩
  · cases h

end Go.Sym
