/- Functions of the program, each told as a plain equation. -/
import Derived.Test.YtdkcdkjdljflbaaGreatDoorSymK4
namespace Go.Sym
open Go.Proofs
set_option linter.unusedVariables false
set_option linter.unusedSimpArgs false
set_option maxRecDepth 100000
set_option maxHeartbeats 4000000

/- spec.IsChain -/
def K_specIsChain : List AV → List Ob → Option (AV × List Ob)
  | [.agg [.int .i64 m, .lst (.int .i64) b]], [] => gd (b.length ≤ 8) (.bool (bif chainL (concF m b) 0 (concF m b).length then false else isCtx m b), [])
  | _, _ => none
@[reducible] def E_specIsChain : Env := mkE (tb [(127, K_l6Under), (53, K_specIsContext), (24, K_specConF)]) (fun f => false) (fun r => bif r == 3 then ([1, 3, 4], [1, 2, 3, 4]) else bif r == 6 then ([1, 3, 4, 5], [1, 2, 3, 4]) else ([], []))
theorem lpi_specIsChain (m : Int) (b : List Int) (l : List (Int × Int)) (hl : l.length ≤ 256) (a : Nat) (ha : a < l.length) (k : AX → S → Option (AV × List Ob)) (d : Nat) : ∀ (n i : Nat) (x : Int), a - i = d → i ≤ a → x = i → d < n →
    lpAt E_specIsChain (lp E_specIsChain 0 n) 0 (loopAt Tryz.f76 1) (mkS [1, 3, 4, 5] [.ptr 0 0, .lst (.pair (.int .i64) (.int .i64)) l, .int .i64 (a : Int), .int .i64 x] [some (.box 26 [.int .i64 m, .lst (.int .i64) b])]) k =
      if ((l.take a).drop i).any (apartB (l.getD a (0, 0))) then k .ret (mkS [1, 2, 3, 4] [.ptr 0 0, .bool false, .lst (.pair (.int .i64) (.int .i64)) l, .int .i64 (a : Int)] [some (.box 26 [.int .i64 m, .lst (.int .i64) b])])
      else k (.exit 2) (mkS [1, 2, 3, 4] [.ptr 0 0, .any, .lst (.pair (.int .i64) (.int .i64)) l, .int .i64 (a : Int)] [some (.box 26 [.int .i64 m, .lst (.int .i64) b])]) := by
  induction d with
  | zero =>
    intro n i x hd hi hx hn
    subst hx
    rw [lpAt_def]
    conv => lhs; whnf
    refine br_f (df (by omega)) ?_
    conv => lhs; whnf
    rw [List.drop_of_length_le (by simp; omega)]
    simp
  | succ d ih =>
    intro n i x hd hi hx hn
    obtain ⟨n, rfl⟩ : ∃ m, n = m + 1 := ⟨n - 1, by omega⟩
    subst hx
    rw [lpAt_def]
    conv => lhs; whnf
    refine br_t (dt (by omega)) ?_
    conv => lhs; whnf
    refine br_t (dt2 (by omega) (by omega)) ?_
    conv => lhs; whnf
    refine br_t (dt2 (by omega) (by omega)) ?_
    conv => lhs; whnf
    conv => lhs; arg 1; whnf
    refine bnd_g (by trivial) ?_
    conv => lhs; whnf
    refine br_c (fun h => ?_) (fun h => ?_)
    · conv => lhs; whnf
      repeat ((first | with_reducible apply br_tt | with_reducible apply br_ff | with_reducible apply br_nf | with_reducible apply br_nt | with_reducible refine br_d ?_ (by kernel_rfl) | with_reducible apply br_t h | with_reducible apply br_f h | with_reducible refine br_t (dt2 (by omega) (by omega)) ?_); conv => lhs; whnf)
      conv => lhs; arg 1; whnf
      refine bnd_g (by trivial) ?_
      conv => lhs; whnf
      repeat ((first | with_reducible apply br_tt | with_reducible apply br_ff | with_reducible apply br_nf | with_reducible apply br_nt | with_reducible refine br_d ?_ (by kernel_rfl) | with_reducible apply br_t h | with_reducible apply br_f h | with_reducible refine br_t (dt2 (by omega) (by omega)) ?_); conv => lhs; whnf)
      refine br_c (fun h2 => ?_) (fun h2 => ?_)
      · conv => lhs; whnf
        have e : ((l.take a).drop i).any (apartB (l.getD a (0, 0))) = true := by
          rw [take_any l (0, 0) _ (by omega) (by omega)]
          have h' : (!underB (l.getD a (0, 0)) (l.getD i (0, 0))) = true := h
          have h2' : (!underB (l.getD i (0, 0)) (l.getD a (0, 0))) = true := h2
          simp only [apartB, h', h2', cond_true, Bool.true_or]
        rw [if_pos e]
      · conv => lhs; whnf
        have e : ((l.take a).drop i).any (apartB (l.getD a (0, 0))) = ((l.take a).drop (i + 1)).any (apartB (l.getD a (0, 0))) := by
          rw [take_any l (0, 0) _ (by omega) (by omega)]
          have h' : (!underB (l.getD a (0, 0)) (l.getD i (0, 0))) = true := h
          have h2' : (!underB (l.getD i (0, 0)) (l.getD a (0, 0))) = false := h2
          simp only [apartB, h', h2', cond_true, Bool.false_or]
        rw [e]
        exact ih n (i + 1) _ (by omega) (by omega) (by rw [wrap64 (by omega) (by omega)]; simp) (by omega)
    · conv => lhs; whnf
      repeat ((first | with_reducible apply br_tt | with_reducible apply br_ff | with_reducible apply br_nf | with_reducible apply br_nt | with_reducible refine br_d ?_ (by kernel_rfl) | with_reducible apply br_t h | with_reducible apply br_f h | with_reducible refine br_t (dt2 (by omega) (by omega)) ?_); conv => lhs; whnf)
      have e : ((l.take a).drop i).any (apartB (l.getD a (0, 0))) = ((l.take a).drop (i + 1)).any (apartB (l.getD a (0, 0))) := by
        rw [take_any l (0, 0) _ (by omega) (by omega)]
        have h' : (!underB (l.getD a (0, 0)) (l.getD i (0, 0))) = false := h
        simp only [apartB, h', cond_false, Bool.false_or]
      rw [e]
      exact ih n (i + 1) _ (by omega) (by omega) (by rw [wrap64 (by omega) (by omega)]; simp) (by omega)
theorem lp_specIsChain (m : Int) (b : List Int) (l : List (Int × Int)) (hl : l.length ≤ 256) (k : AX → S → Option (AV × List Ob)) (r : Option (AV × List Ob)) (hk : ∀ q, k .ret (mkS [1, 2, 3, 4] [.ptr 0 0, .bool false, .lst (.pair (.int .i64) (.int .i64)) l, q] [some (.box 26 [.int .i64 m, .lst (.int .i64) b])]) = r) (d : Nat) : ∀ (n i : Nat) (x : Int), l.length - i = d → i ≤ l.length → x = i → d + 300 < n →
    lpAt E_specIsChain (lp E_specIsChain 0 n) 0 (loopAt Tryz.f76 0) (mkS [1, 3, 4] [.ptr 0 0, .lst (.pair (.int .i64) (.int .i64)) l, .int .i64 x] [some (.box 26 [.int .i64 m, .lst (.int .i64) b])]) k =
      if chainL l i d then r else k (.exit 0) (mkS [1, 2, 3, 4] [.ptr 0 0, .any, .lst (.pair (.int .i64) (.int .i64)) l, .int .i64 l.length] [some (.box 26 [.int .i64 m, .lst (.int .i64) b])]) := by
  induction d with
  | zero =>
    intro n i x hd hi hx hn
    subst hx
    rw [lpAt_def]
    conv => lhs; whnf
    refine br_f (df (by omega)) ?_
    conv => lhs; whnf
    have e : i = l.length := by omega
    rw [e]
    rfl
  | succ d ih =>
    intro n i x hd hi hx hn
    obtain ⟨n, rfl⟩ : ∃ m, n = m + 1 := ⟨n - 1, by omega⟩
    subst hx
    rw [lpAt_def]
    conv => lhs; whnf
    refine br_t (dt (by omega)) ?_
    conv => lhs; whnf
    refine (lpi_specIsChain m b l hl i (by omega) _ i _ 0 0 (by omega) (by omega) rfl (by omega)).trans ?_
    rw [List.drop_zero]
    refine Or.elim (Classical.em ((l.take i).any (apartB (l.getD i (0, 0))) = true)) (fun h => ?_) (fun h => ?_)
    · have e : chainL l i (d + 1) = true := by rw [chainL, h, Bool.true_or]
      rw [if_pos h, if_pos e]
      conv => lhs; whnf
      exact hk _
    · have h' : (l.take i).any (apartB (l.getD i (0, 0))) = false := by simpa using h
      have e : chainL l i (d + 1) = chainL l (i + 1) d := by rw [chainL, h', Bool.false_or]
      rw [if_neg h, e]
      conv => lhs; whnf
      exact ih n (i + 1) _ (by omega) (by omega) (by rw [wrap64 (by omega) (by omega)]; simp) (by omega)
theorem ev_specIsChain (m : Int) (b : List Int) (hp : b.length ≤ 8) : evF E_specIsChain ((concF m b).length + 400) Tryz.f76 [.agg [.int .i64 m, .lst (.int .i64) b]] [] = some (.bool (bif chainL (concF m b) 0 (concF m b).length then false else isCtx m b), []) := by
  have hl : (concF m b).length ≤ 256 := Nat.le_trans (concF_len m b) (by omega)
  conv => lhs; whnf
  conv => lhs; arg 1; whnf
  refine bnd_g (by omega) ?_
  conv => lhs; whnf
  refine (lp_specIsChain m b (concF m b) hl _ (some (.bool false, [])) ?_ (concF m b).length _ 0 0 rfl (by omega) rfl (by omega)).trans ?_
  · intro q
    conv => lhs; whnf
  refine Or.elim (Classical.em (chainL (concF m b) 0 (concF m b).length = true)) (fun h => ?_) (fun h => ?_)
  · rw [if_pos h, h]
    rfl
  · have h' : chainL (concF m b) 0 (concF m b).length = false := by simpa using h
    rw [if_neg h, h']
    conv => lhs; whnf
    conv => lhs; arg 1; whnf
    refine bnd_g (by omega) ?_
    conv => lhs; whnf
    rfl
theorem ok_specIsChain : FnOk Tryz.prog 76 K_specIsChain := by
  refine fn_ok (fn := Tryz.f76) (k := Tryz.f76.ntmps) (E := E_specIsChain) (facts_of (List.forall_mem_cons.2 ⟨ok_l6Under, List.forall_mem_cons.2 ⟨ok_specIsContext, List.forall_mem_cons.2 ⟨ok_specConF, List.forall_mem_nil _⟩⟩⟩)) (by kernel_rfl) rfl (by decide +kernel) (by decide +kernel) ?_
  intro avs hin r h
  unfold K_specIsChain at h
  split at h
  · obtain ⟨hp, rfl⟩ := gd_o h
    exact ⟨_, ev_specIsChain _ _ hp, rfl⟩
  · cases h

/- impl.IsChain -/
def K_implIsChain : List AV → List Ob → Option (AV × List Ob)
  | [.agg [.int .i64 m, .lst (.int .i64) b]], [] => gd (b.length ≤ 8) (.bool (bif chainL (concF m b) 0 (concF m b).length then false else isCtx m b), [])
  | _, _ => none
@[reducible] def E_implIsChain : Env := mkE (tb [(131, K_latBelow), (80, K_implIsContext), (109, K_implConF)]) (fun f => false) (fun r => bif r == 3 then ([1, 3, 9, 10], [1, 2, 3, 9, 10]) else bif r == 6 then ([1, 3, 4, 9, 10, 13, 14], [1, 2, 3, 9, 10]) else ([], []))
theorem bu_implIsChain {l : List (Int × Int)} (hs : ∀ p ∈ l, isSet 8 p.1 = true) {x a : Nat} (hx : x < l.length) : blwB l x a = underB (l.getD x (0, 0)) (l.getD a (0, 0)) :=
  (beq_bnot (hs _ (mem_getD (d := (0, 0)) hx))).symm
theorem lpi_implIsChain (m : Int) (b : List Int) (l : List (Int × Int)) (hl : l.length ≤ 64) (hs : ∀ p ∈ l, isSet 8 p.1 = true) (a : Nat) (ha : a < l.length) (k : AX → S → Option (AV × List Ob)) (d : Nat) : ∀ (n i : Nat) (x : Int), a - i = d → i ≤ a → x = i → d < n →
    lpAt E_implIsChain (lp E_implIsChain 0 n) 0 (loopAt Tryz.f82 1) (mkS [1, 3, 4, 9, 10, 13, 14] [.ptr 0 0, .lst (.pair (.int .i64) (.int .i64)) l, .int .i64 (a : Int), .int .i64 l.length, .int .i64 (a : Int), .int .i64 (a : Int), .int .i64 x] [some (.box 26 [.int .i64 m, .lst (.int .i64) b])]) k =
      if ((l.take a).drop i).any (apartB (l.getD a (0, 0))) then k .ret (mkS [1, 2, 3, 9, 10] [.ptr 0 0, .bool false, .lst (.pair (.int .i64) (.int .i64)) l, .int .i64 l.length, .int .i64 (a : Int)] [some (.box 26 [.int .i64 m, .lst (.int .i64) b])])
      else k (.exit 2) (mkS [1, 2, 3, 9, 10] [.ptr 0 0, .any, .lst (.pair (.int .i64) (.int .i64)) l, .int .i64 l.length, .int .i64 (a : Int)] [some (.box 26 [.int .i64 m, .lst (.int .i64) b])]) := by
  induction d with
  | zero =>
    intro n i x hd hi hx hn
    subst hx
    rw [lpAt_def]
    conv => lhs; whnf
    refine br_f (df (by omega)) ?_
    conv => lhs; whnf
    rw [List.drop_of_length_le (by simp; omega)]
    simp
  | succ d ih =>
    intro n i x hd hi hx hn
    obtain ⟨n, rfl⟩ : ∃ m, n = m + 1 := ⟨n - 1, by omega⟩
    subst hx
    rw [lpAt_def]
    conv => lhs; whnf
    refine br_t (dt (by omega)) ?_
    conv => lhs; whnf
    conv => lhs; arg 1; whnf
    refine bnd_g (by omega) ?_
    conv => lhs; whnf
    refine br_c (fun h => ?_) (fun h => ?_)
    · conv => lhs; whnf
      repeat ((first | with_reducible apply br_tt | with_reducible apply br_ff | with_reducible apply br_nf | with_reducible apply br_nt | with_reducible refine br_d ?_ (by kernel_rfl) | with_reducible apply br_t h | with_reducible apply br_f h | with_reducible refine br_t (dt2 (by omega) (by omega)) ?_); conv => lhs; whnf)
      conv => lhs; arg 1; whnf
      refine bnd_g (by omega) ?_
      conv => lhs; whnf
      repeat ((first | with_reducible apply br_tt | with_reducible apply br_ff | with_reducible apply br_nf | with_reducible apply br_nt | with_reducible refine br_d ?_ (by kernel_rfl) | with_reducible apply br_t h | with_reducible apply br_f h | with_reducible refine br_t (dt2 (by omega) (by omega)) ?_); conv => lhs; whnf)
      refine br_c (fun h2 => ?_) (fun h2 => ?_)
      · conv => lhs; whnf
        have e : ((l.take a).drop i).any (apartB (l.getD a (0, 0))) = true := by
          rw [take_any l (0, 0) _ (by omega) (by omega)]
          have h' : (!underB (l.getD a (0, 0)) (l.getD i (0, 0))) = true := bu_implIsChain hs (x := a) (a := i) (by omega) ▸ h
          have h2' : (!underB (l.getD i (0, 0)) (l.getD a (0, 0))) = true := bu_implIsChain hs (x := i) (a := a) (by omega) ▸ h2
          simp only [apartB, h', h2', cond_true, Bool.true_or]
        rw [if_pos e]
      · conv => lhs; whnf
        have e : ((l.take a).drop i).any (apartB (l.getD a (0, 0))) = ((l.take a).drop (i + 1)).any (apartB (l.getD a (0, 0))) := by
          rw [take_any l (0, 0) _ (by omega) (by omega)]
          have h' : (!underB (l.getD a (0, 0)) (l.getD i (0, 0))) = true := bu_implIsChain hs (x := a) (a := i) (by omega) ▸ h
          have h2' : (!underB (l.getD i (0, 0)) (l.getD a (0, 0))) = false := bu_implIsChain hs (x := i) (a := a) (by omega) ▸ h2
          simp only [apartB, h', h2', cond_true, Bool.false_or]
        rw [e]
        exact ih n (i + 1) _ (by omega) (by omega) (by rw [wrap64 (by omega) (by omega)]; simp) (by omega)
    · conv => lhs; whnf
      repeat ((first | with_reducible apply br_tt | with_reducible apply br_ff | with_reducible apply br_nf | with_reducible apply br_nt | with_reducible refine br_d ?_ (by kernel_rfl) | with_reducible apply br_t h | with_reducible apply br_f h | with_reducible refine br_t (dt2 (by omega) (by omega)) ?_); conv => lhs; whnf)
      have e : ((l.take a).drop i).any (apartB (l.getD a (0, 0))) = ((l.take a).drop (i + 1)).any (apartB (l.getD a (0, 0))) := by
        rw [take_any l (0, 0) _ (by omega) (by omega)]
        have h' : (!underB (l.getD a (0, 0)) (l.getD i (0, 0))) = false := bu_implIsChain hs (x := a) (a := i) (by omega) ▸ h
        simp only [apartB, h', cond_false, Bool.false_or]
      rw [e]
      exact ih n (i + 1) _ (by omega) (by omega) (by rw [wrap64 (by omega) (by omega)]; simp) (by omega)
theorem lp_implIsChain (m : Int) (b : List Int) (l : List (Int × Int)) (hl : l.length ≤ 64) (hs : ∀ p ∈ l, isSet 8 p.1 = true) (k : AX → S → Option (AV × List Ob)) (r : Option (AV × List Ob)) (hk : ∀ q, k .ret (mkS [1, 2, 3, 9, 10] [.ptr 0 0, .bool false, .lst (.pair (.int .i64) (.int .i64)) l, .int .i64 l.length, q] [some (.box 26 [.int .i64 m, .lst (.int .i64) b])]) = r) (d : Nat) : ∀ (n i : Nat) (x : Int), l.length - i = d → i ≤ l.length → x = i → d + 300 < n →
    lpAt E_implIsChain (lp E_implIsChain 0 n) 0 (loopAt Tryz.f82 0) (mkS [1, 3, 9, 10] [.ptr 0 0, .lst (.pair (.int .i64) (.int .i64)) l, .int .i64 l.length, .int .i64 x] [some (.box 26 [.int .i64 m, .lst (.int .i64) b])]) k =
      if chainL l i d then r else k (.exit 0) (mkS [1, 2, 3, 9, 10] [.ptr 0 0, .any, .lst (.pair (.int .i64) (.int .i64)) l, .int .i64 l.length, .int .i64 l.length] [some (.box 26 [.int .i64 m, .lst (.int .i64) b])]) := by
  induction d with
  | zero =>
    intro n i x hd hi hx hn
    subst hx
    rw [lpAt_def]
    conv => lhs; whnf
    refine br_f (df (by omega)) ?_
    conv => lhs; whnf
    have e : i = l.length := by omega
    rw [e]
    rfl
  | succ d ih =>
    intro n i x hd hi hx hn
    obtain ⟨n, rfl⟩ : ∃ m, n = m + 1 := ⟨n - 1, by omega⟩
    subst hx
    rw [lpAt_def]
    conv => lhs; whnf
    refine br_t (dt (by omega)) ?_
    conv => lhs; whnf
    refine (lpi_implIsChain m b l hl hs i (by omega) _ i _ 0 0 (by omega) (by omega) rfl (by omega)).trans ?_
    rw [List.drop_zero]
    refine Or.elim (Classical.em ((l.take i).any (apartB (l.getD i (0, 0))) = true)) (fun h => ?_) (fun h => ?_)
    · have e : chainL l i (d + 1) = true := by rw [chainL, h, Bool.true_or]
      rw [if_pos h, if_pos e]
      conv => lhs; whnf
      exact hk _
    · have h' : (l.take i).any (apartB (l.getD i (0, 0))) = false := by simpa using h
      have e : chainL l i (d + 1) = chainL l (i + 1) d := by rw [chainL, h', Bool.false_or]
      rw [if_neg h, e]
      conv => lhs; whnf
      exact ih n (i + 1) _ (by omega) (by omega) (by rw [wrap64 (by omega) (by omega)]; simp) (by omega)
theorem ev_implIsChain (m : Int) (b : List Int) (hp : b.length ≤ 8) : evF E_implIsChain ((concF m b).length + 400) Tryz.f82 [.agg [.int .i64 m, .lst (.int .i64) b]] [] = some (.bool (bif chainL (concF m b) 0 (concF m b).length then false else isCtx m b), []) := by
  have hl := concF_len m b
  have hs : ∀ p ∈ concF m b, isSet 8 p.1 = true := fun p h => isSet_8 (concF_mem h).2.2.1
  conv => lhs; whnf
  conv => lhs; arg 1; whnf
  refine bnd_g (by omega) ?_
  conv => lhs; whnf
  refine (lp_implIsChain m b (concF m b) hl hs _ (some (.bool false, [])) ?_ (concF m b).length _ 0 0 rfl (by omega) rfl (by omega)).trans ?_
  · intro q
    conv => lhs; whnf
  refine Or.elim (Classical.em (chainL (concF m b) 0 (concF m b).length = true)) (fun h => ?_) (fun h => ?_)
  · rw [if_pos h, h]
    rfl
  · have h' : chainL (concF m b) 0 (concF m b).length = false := by simpa using h
    rw [if_neg h, h']
    conv => lhs; whnf
    conv => lhs; arg 1; whnf
    refine bnd_g (by omega) ?_
    conv => lhs; whnf
    rfl
theorem ok_implIsChain : FnOk Tryz.prog 82 K_implIsChain := by
  refine fn_ok (fn := Tryz.f82) (k := Tryz.f82.ntmps) (E := E_implIsChain) (facts_of (List.forall_mem_cons.2 ⟨ok_latBelow, List.forall_mem_cons.2 ⟨ok_implIsContext, List.forall_mem_cons.2 ⟨ok_implConF, List.forall_mem_nil _⟩⟩⟩)) (by kernel_rfl) rfl (by decide +kernel) (by decide +kernel) ?_
  intro avs hin r h
  unfold K_implIsChain at h
  split at h
  · obtain ⟨hp, rfl⟩ := gd_o h
    exact ⟨_, ev_implIsChain _ _ hp, rfl⟩
  · cases h

/- spec.IsDistributive -/
def K_specIsDistributive : List AV → List Ob → Option (AV × List Ob)
  | [.agg [.int .i64 m, .lst (.int .i64) b]], [] => gd (b.length ≤ 8) (.bool (lawV m b true), [])
  | _, _ => none
@[reducible] def E_specIsDistributive : Env := mkE (tb [(128, K_specLaw)]) (fun f => false) (fun r => ([], []))
theorem ev_specIsDistributive (m : Int) (b : List Int) (hp : b.length ≤ 8) : evF E_specIsDistributive (1) Tryz.f77 [.agg [.int .i64 m, .lst (.int .i64) b]] [] = some (.bool (lawV m b true), []) := by
  conv => lhs; whnf
  conv => lhs; arg 1; whnf
  refine bnd_g (by exact hp) ?_
  conv => lhs; whnf
theorem ok_specIsDistributive : FnOk Tryz.prog 77 K_specIsDistributive := by
  refine fn_ok (fn := Tryz.f77) (k := Tryz.f77.ntmps) (E := E_specIsDistributive) (facts_of (List.forall_mem_cons.2 ⟨ok_specLaw, List.forall_mem_nil _⟩)) (by kernel_rfl) rfl (by decide +kernel) (by decide +kernel) ?_
  intro avs hin r h
  unfold K_specIsDistributive at h
  split at h
  · obtain ⟨hp, rfl⟩ := gd_o h
    exact ⟨_, ev_specIsDistributive _ _ hp, rfl⟩
  · cases h

/- spec.IsModular -/
def K_specIsModular : List AV → List Ob → Option (AV × List Ob)
  | [.agg [.int .i64 m, .lst (.int .i64) b]], [] => gd (b.length ≤ 8) (.bool (lawV m b false), [])
  | _, _ => none
@[reducible] def E_specIsModular : Env := mkE (tb [(128, K_specLaw)]) (fun f => false) (fun r => ([], []))
theorem ev_specIsModular (m : Int) (b : List Int) (hp : b.length ≤ 8) : evF E_specIsModular (1) Tryz.f78 [.agg [.int .i64 m, .lst (.int .i64) b]] [] = some (.bool (lawV m b false), []) := by
  conv => lhs; whnf
  conv => lhs; arg 1; whnf
  refine bnd_g (by exact hp) ?_
  conv => lhs; whnf
theorem ok_specIsModular : FnOk Tryz.prog 78 K_specIsModular := by
  refine fn_ok (fn := Tryz.f78) (k := Tryz.f78.ntmps) (E := E_specIsModular) (facts_of (List.forall_mem_cons.2 ⟨ok_specLaw, List.forall_mem_nil _⟩)) (by kernel_rfl) rfl (by decide +kernel) (by decide +kernel) ?_
  intro avs hin r h
  unfold K_specIsModular at h
  split at h
  · obtain ⟨hp, rfl⟩ := gd_o h
    exact ⟨_, ev_specIsModular _ _ hp, rfl⟩
  · cases h

/- spec.IsBoolean -/
def K_specIsBoolean : List AV → List Ob → Option (AV × List Ob)
  | [.agg [.int .i64 m, .lst (.int .i64) b]], [] => gd (b.length ≤ 8) (.bool (boolV m b), [])
  | _, _ => none
@[reducible] def E_specIsBoolean : Env := mkE (tb [(77, K_specIsDistributive), (126, K_specIsComplemented)]) (fun f => false) (fun r => ([], []))
theorem ev_specIsBoolean (m : Int) (b : List Int) (hp : b.length ≤ 8) : evF E_specIsBoolean (1) Tryz.f75 [.agg [.int .i64 m, .lst (.int .i64) b]] [] = some (.bool (boolV m b), []) := by
  conv => lhs; whnf
  conv => lhs; arg 1; whnf
  refine bnd_g (by exact hp) ?_
  conv => lhs; whnf
  refine br_c (fun g => ?_) (fun g => ?_)
  · conv => lhs; whnf
    repeat ((first | with_reducible apply br_tt | with_reducible apply br_ff | with_reducible apply br_nf | with_reducible apply br_nt | with_reducible refine br_d ?_ (by kernel_rfl) | with_reducible apply br_t g | with_reducible apply br_f g | with_reducible refine br_t (dt2 (by omega) (by omega)) ?_); conv => lhs; whnf)
    conv => lhs; arg 1; whnf
    refine bnd_g (by exact hp) ?_
    conv => lhs; whnf
    repeat ((first | with_reducible apply br_tt | with_reducible apply br_ff | with_reducible apply br_nf | with_reducible apply br_nt | with_reducible refine br_d ?_ (by kernel_rfl) | with_reducible apply br_t g | with_reducible apply br_f g | with_reducible refine br_t (dt2 (by omega) (by omega)) ?_); conv => lhs; whnf)
    unfold boolV
    rw [g]
    rfl
  · conv => lhs; whnf
    repeat ((first | with_reducible apply br_tt | with_reducible apply br_ff | with_reducible apply br_nf | with_reducible apply br_nt | with_reducible refine br_d ?_ (by kernel_rfl) | with_reducible apply br_t g | with_reducible apply br_f g | with_reducible refine br_t (dt2 (by omega) (by omega)) ?_); conv => lhs; whnf)
    unfold boolV
    rw [g]
    rfl
theorem ok_specIsBoolean : FnOk Tryz.prog 75 K_specIsBoolean := by
  refine fn_ok (fn := Tryz.f75) (k := Tryz.f75.ntmps) (E := E_specIsBoolean) (facts_of (List.forall_mem_cons.2 ⟨ok_specIsDistributive, List.forall_mem_cons.2 ⟨ok_specIsComplemented, List.forall_mem_nil _⟩⟩)) (by kernel_rfl) rfl (by decide +kernel) (by decide +kernel) ?_
  intro avs hin r h
  unfold K_specIsBoolean at h
  split at h
  · obtain ⟨hp, rfl⟩ := gd_o h
    exact ⟨_, ev_specIsBoolean _ _ hp, rfl⟩
  · cases h

/- spec.KindName -/
def K_specKindName : List AV → List Ob → Option (AV × List Ob)
  | [.agg [.int .i64 m, .lst (.int .i64) b]], [] => gd (b.length ≤ 1048576) (.str (kindF m b), [])
  | _, _ => none
@[reducible] def E_specKindName : Env := mkE (tb [(53, K_specIsContext), (75, K_specIsBoolean), (76, K_specIsChain), (77, K_specIsDistributive), (78, K_specIsModular)]) (fun f => false) (fun r => ([], []))
theorem ev_specKindName (m : Int) (b : List Int) (hp : b.length ≤ 1048576) : evF E_specKindName (1) Tryz.f29 [.agg [.int .i64 m, .lst (.int .i64) b]] [] = some (.str (kindF m b), []) := by
  unfold kindF
  conv => lhs; whnf
  conv => lhs; arg 1; whnf
  refine bnd_g (by omega) ?_
  conv => lhs; whnf
  refine br_c (fun h1 => ?_) (fun h1 => ?_)
  · conv => lhs; whnf
    rw [h1]
    rfl
  · have hc := bnf h1
    have hb := (isCtx_len hc).1
    conv => lhs; whnf
    conv => lhs; arg 1; whnf
    refine bnd_g (by exact hb) ?_
    conv => lhs; whnf
    refine br_c (fun h2 => ?_) (fun h2 => ?_)
    · conv => lhs; whnf
      rw [h1, h2]
      rfl
    · conv => lhs; whnf
      conv => lhs; arg 1; whnf
      refine bnd_g (by exact hb) ?_
      conv => lhs; whnf
      refine br_c (fun h3 => ?_) (fun h3 => ?_)
      · conv => lhs; whnf
        rw [h1, h2, h3]
        rfl
      · conv => lhs; whnf
        conv => lhs; arg 1; whnf
        refine bnd_g (by exact hb) ?_
        conv => lhs; whnf
        refine br_c (fun h4 => ?_) (fun h4 => ?_)
        · conv => lhs; whnf
          rw [h1, h2, h3, h4]
          rfl
        · conv => lhs; whnf
          conv => lhs; arg 1; whnf
          refine bnd_g (by exact hb) ?_
          conv => lhs; whnf
          refine br_c (fun h5 => ?_) (fun h5 => ?_)
          · conv => lhs; whnf
            rw [h1, h2, h3, h4, h5]
            rfl
          · conv => lhs; whnf
            rw [h1, h2, h3, h4, h5]
            rfl
theorem ok_specKindName : FnOk Tryz.prog 29 K_specKindName := by
  refine fn_ok (fn := Tryz.f29) (k := Tryz.f29.ntmps) (E := E_specKindName) (facts_of (List.forall_mem_cons.2 ⟨ok_specIsContext, List.forall_mem_cons.2 ⟨ok_specIsBoolean, List.forall_mem_cons.2 ⟨ok_specIsChain, List.forall_mem_cons.2 ⟨ok_specIsDistributive, List.forall_mem_cons.2 ⟨ok_specIsModular, List.forall_mem_nil _⟩⟩⟩⟩⟩)) (by kernel_rfl) rfl (by decide +kernel) (by decide +kernel) ?_
  intro avs hin r h
  unfold K_specKindName at h
  split at h
  · obtain ⟨hp, rfl⟩ := gd_o h
    exact ⟨_, ev_specKindName _ _ hp, rfl⟩
  · cases h

/- impl.IsDistributive -/
def K_implIsDistributive : List AV → List Ob → Option (AV × List Ob)
  | [.agg [.int .i64 m, .lst (.int .i64) b]], [] => gd (b.length ≤ 8) (.bool (lawV m b true), [])
  | _, _ => none
@[reducible] def E_implIsDistributive : Env := mkE (tb [(132, K_distributes)]) (fun f => false) (fun r => ([], []))
theorem ev_implIsDistributive (m : Int) (b : List Int) (hp : b.length ≤ 8) : evF E_implIsDistributive (1) Tryz.f83 [.agg [.int .i64 m, .lst (.int .i64) b]] [] = some (.bool (lawV m b true), []) := by
  conv => lhs; whnf
  conv => lhs; arg 1; whnf
  refine bnd_g (by exact hp) ?_
  conv => lhs; whnf
  rfl
theorem ok_implIsDistributive : FnOk Tryz.prog 83 K_implIsDistributive := by
  refine fn_ok (fn := Tryz.f83) (k := Tryz.f83.ntmps) (E := E_implIsDistributive) (facts_of (List.forall_mem_cons.2 ⟨ok_distributes, List.forall_mem_nil _⟩)) (by kernel_rfl) rfl (by decide +kernel) (by decide +kernel) ?_
  intro avs hin r h
  unfold K_implIsDistributive at h
  split at h
  · obtain ⟨hp, rfl⟩ := gd_o h
    exact ⟨_, ev_implIsDistributive _ _ hp, rfl⟩
  · cases h

/- impl.IsModular -/
def K_implIsModular : List AV → List Ob → Option (AV × List Ob)
  | [.agg [.int .i64 m, .lst (.int .i64) b]], [] => gd (b.length ≤ 8) (.bool (lawV m b false), [])
  | _, _ => none
@[reducible] def E_implIsModular : Env := mkE (tb [(132, K_distributes)]) (fun f => false) (fun r => ([], []))
theorem ev_implIsModular (m : Int) (b : List Int) (hp : b.length ≤ 8) : evF E_implIsModular (1) Tryz.f84 [.agg [.int .i64 m, .lst (.int .i64) b]] [] = some (.bool (lawV m b false), []) := by
  conv => lhs; whnf
  conv => lhs; arg 1; whnf
  refine bnd_g (by exact hp) ?_
  conv => lhs; whnf
  rfl
theorem ok_implIsModular : FnOk Tryz.prog 84 K_implIsModular := by
  refine fn_ok (fn := Tryz.f84) (k := Tryz.f84.ntmps) (E := E_implIsModular) (facts_of (List.forall_mem_cons.2 ⟨ok_distributes, List.forall_mem_nil _⟩)) (by kernel_rfl) rfl (by decide +kernel) (by decide +kernel) ?_
  intro avs hin r h
  unfold K_implIsModular at h
  split at h
  · obtain ⟨hp, rfl⟩ := gd_o h
    exact ⟨_, ev_implIsModular _ _ hp, rfl⟩
  · cases h

/- impl.IsBoolean -/
def K_implIsBoolean : List AV → List Ob → Option (AV × List Ob)
  | [.agg [.int .i64 m, .lst (.int .i64) b]], [] => gd (b.length ≤ 8) (.bool (boolV m b), [])
  | _, _ => none
@[reducible] def E_implIsBoolean : Env := mkE (tb [(83, K_implIsDistributive), (130, K_implIsComplemented)]) (fun f => false) (fun r => ([], []))
theorem ev_implIsBoolean (m : Int) (b : List Int) (hp : b.length ≤ 8) : evF E_implIsBoolean (1) Tryz.f81 [.agg [.int .i64 m, .lst (.int .i64) b]] [] = some (.bool (boolV m b), []) := by
  conv => lhs; whnf
  conv => lhs; arg 1; whnf
  refine bnd_g (by exact hp) ?_
  conv => lhs; whnf
  refine br_c (fun g => ?_) (fun g => ?_)
  · conv => lhs; whnf
    repeat ((first | with_reducible apply br_tt | with_reducible apply br_ff | with_reducible apply br_nf | with_reducible apply br_nt | with_reducible refine br_d ?_ (by kernel_rfl) | with_reducible apply br_t g | with_reducible apply br_f g | with_reducible refine br_t (dt2 (by omega) (by omega)) ?_); conv => lhs; whnf)
    conv => lhs; arg 1; whnf
    refine bnd_g (by exact hp) ?_
    conv => lhs; whnf
    repeat ((first | with_reducible apply br_tt | with_reducible apply br_ff | with_reducible apply br_nf | with_reducible apply br_nt | with_reducible refine br_d ?_ (by kernel_rfl) | with_reducible apply br_t g | with_reducible apply br_f g | with_reducible refine br_t (dt2 (by omega) (by omega)) ?_); conv => lhs; whnf)
    unfold boolV
    rw [g]
    rfl
  · conv => lhs; whnf
    repeat ((first | with_reducible apply br_tt | with_reducible apply br_ff | with_reducible apply br_nf | with_reducible apply br_nt | with_reducible refine br_d ?_ (by kernel_rfl) | with_reducible apply br_t g | with_reducible apply br_f g | with_reducible refine br_t (dt2 (by omega) (by omega)) ?_); conv => lhs; whnf)
    unfold boolV
    rw [g]
    rfl
theorem ok_implIsBoolean : FnOk Tryz.prog 81 K_implIsBoolean := by
  refine fn_ok (fn := Tryz.f81) (k := Tryz.f81.ntmps) (E := E_implIsBoolean) (facts_of (List.forall_mem_cons.2 ⟨ok_implIsDistributive, List.forall_mem_cons.2 ⟨ok_implIsComplemented, List.forall_mem_nil _⟩⟩)) (by kernel_rfl) rfl (by decide +kernel) (by decide +kernel) ?_
  intro avs hin r h
  unfold K_implIsBoolean at h
  split at h
  · obtain ⟨hp, rfl⟩ := gd_o h
    exact ⟨_, ev_implIsBoolean _ _ hp, rfl⟩
  · cases h

/- impl.KindName -/
def K_implKindName : List AV → List Ob → Option (AV × List Ob)
  | [.agg [.int .i64 m, .lst (.int .i64) b]], [] => gd (b.length ≤ 1048576) (.str (kindF m b), [])
  | _, _ => none
@[reducible] def E_implKindName : Env := mkE (tb [(80, K_implIsContext), (81, K_implIsBoolean), (82, K_implIsChain), (83, K_implIsDistributive), (84, K_implIsModular)]) (fun f => false) (fun r => ([], []))
theorem ev_implKindName (m : Int) (b : List Int) (hp : b.length ≤ 1048576) : evF E_implKindName (1) Tryz.f31 [.agg [.int .i64 m, .lst (.int .i64) b]] [] = some (.str (kindF m b), []) := by
  unfold kindF
  conv => lhs; whnf
  conv => lhs; arg 1; whnf
  refine bnd_g (by omega) ?_
  conv => lhs; whnf
  refine br_c (fun h1 => ?_) (fun h1 => ?_)
  · conv => lhs; whnf
    rw [h1]
    rfl
  · have hc := bnf h1
    have hb := (isCtx_len hc).1
    conv => lhs; whnf
    conv => lhs; arg 1; whnf
    refine bnd_g (by exact hb) ?_
    conv => lhs; whnf
    refine br_c (fun h2 => ?_) (fun h2 => ?_)
    · conv => lhs; whnf
      rw [h1, h2]
      rfl
    · conv => lhs; whnf
      conv => lhs; arg 1; whnf
      refine bnd_g (by exact hb) ?_
      conv => lhs; whnf
      refine br_c (fun h3 => ?_) (fun h3 => ?_)
      · conv => lhs; whnf
        rw [h1, h2, h3]
        rfl
      · conv => lhs; whnf
        conv => lhs; arg 1; whnf
        refine bnd_g (by exact hb) ?_
        conv => lhs; whnf
        refine br_c (fun h4 => ?_) (fun h4 => ?_)
        · conv => lhs; whnf
          rw [h1, h2, h3, h4]
          rfl
        · conv => lhs; whnf
          conv => lhs; arg 1; whnf
          refine bnd_g (by exact hb) ?_
          conv => lhs; whnf
          refine br_c (fun h5 => ?_) (fun h5 => ?_)
          · conv => lhs; whnf
            rw [h1, h2, h3, h4, h5]
            rfl
          · conv => lhs; whnf
            rw [h1, h2, h3, h4, h5]
            rfl
theorem ok_implKindName : FnOk Tryz.prog 31 K_implKindName := by
  refine fn_ok (fn := Tryz.f31) (k := Tryz.f31.ntmps) (E := E_implKindName) (facts_of (List.forall_mem_cons.2 ⟨ok_implIsContext, List.forall_mem_cons.2 ⟨ok_implIsBoolean, List.forall_mem_cons.2 ⟨ok_implIsChain, List.forall_mem_cons.2 ⟨ok_implIsDistributive, List.forall_mem_cons.2 ⟨ok_implIsModular, List.forall_mem_nil _⟩⟩⟩⟩⟩)) (by kernel_rfl) rfl (by decide +kernel) (by decide +kernel) ?_
  intro avs hin r h
  unfold K_implKindName at h
  split at h
  · obtain ⟨hp, rfl⟩ := gd_o h
    exact ⟨_, ev_implKindName _ _ hp, rfl⟩
  · cases h

end Go.Sym
