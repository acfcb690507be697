/- Functions of the program, each told as a plain equation. -/
import Derived.Test.YtiihfodcocihjaaDoorSymFStabilityOf
namespace Go.Sym
open Go.Proofs
set_option linter.unusedVariables false
set_option linter.unusedSimpArgs false
set_option maxRecDepth 100000
set_option maxHeartbeats 4000000

def msC (m : Int) (b : List Int) (i : Nat) (best x y : Int) : Bool := decide (best < 0) || decide (IntKind.i64.wrap (x * (stabF m b (i : Int)).2) < IntKind.i64.wrap ((stabF m b (i : Int)).1 * y))
def msF (m : Int) (b : List Int) : Nat → Nat → Int → Int → Int → Int
  | 0, _, best, _, _ => best
  | d + 1, i, best, x, y => bif msC m b i best x y then msF m b d (i + 1) i (stabF m b (i : Int)).1 (stabF m b (i : Int)).2 else msF m b d (i + 1) best x y
/- spec.MostStable -/
def K_specMostStable : List AV → List Ob → Option (AV × List Ob)
  | [.agg [.int .i64 m, .lst (.int .i64) b]], [] => gd (b.length ≤ 1048576) (.int .i64 (msF m b (concF m b).length 0 (-1) 0 1), [])
  | _, _ => none
@[reducible] def E_specMostStable : Env := mkE (tb [(74, K_specConcepts), (36, K_specStability)]) (fun f => false) (fun r => bif r == 6 then ([1, 3, 4, 5, 6, 7], [3]) else ([], []))
theorem lp_specMostStable (m : Int) (b : List Int) (hlen : b.length ≤ 1048576) (N : Nat) (hN : N ≤ 64) (k : AX → S → Option (AV × List Ob)) (d : Nat) : ∀ (n i : Nat) (z best x y : Int), N - i = d → i ≤ N → z = i → d < n →
    lpAt E_specMostStable (lp E_specMostStable 0 n) 0 (loopAt Tryd.f45 0) (mkS [1, 3, 4, 5, 6, 7] [.ptr 0 0, .int .i64 best, .int .i64 x, .int .i64 y, .int .i64 (N : Int), .int .i64 z] [some (.box 35 [.int .i64 m, .lst (.int .i64) b])]) k =
      k (.exit 0) (mkS [3] [.int .i64 (msF m b d i best x y)] []) := by
  induction d with
  | zero =>
    intro n i z best x y hd hi hx hn
    subst hx
    rw [lpAt_def]
    conv => lhs; whnf
    refine br_f (df (by omega)) ?_
    conv => lhs; whnf
    rfl
  | succ d ih =>
    intro n i z best x y hd hi hx hn
    obtain ⟨n, rfl⟩ : ∃ m, n = m + 1 := ⟨n - 1, by omega⟩
    subst hx
    rw [lpAt_def]
    conv => lhs; whnf
    refine br_t (dt (by omega)) ?_
    conv => lhs; whnf
    conv => lhs; arg 1; whnf
    refine bnd_g (by exact hlen) ?_
    conv => lhs; whnf
    refine br_c (fun h => ?_) (fun h => ?_)
    · conv => lhs; whnf
      repeat ((first | with_reducible apply br_tt | with_reducible apply br_ff | with_reducible apply br_nf | with_reducible apply br_nt | with_reducible refine br_d ?_ (by kernel_rfl) | with_reducible apply br_t h | with_reducible apply br_f h | with_reducible refine br_t (dt2 (by omega) (by omega)) ?_ | with_reducible refine br_t (dt (by omega)) ?_); conv => lhs; whnf)
      refine Eq.trans (ih n (i + 1) _ _ _ _ (by omega) (by omega) (by rw [wrap64 (n := (i : Int) + 1) (by omega) (by omega)]; simp) (by omega)) ?_
      have e : msC m b i best x y = true := by
        unfold msC
        rw [h, Bool.true_or]
      rw [msF, e, cond_true]
    · conv => lhs; whnf
      repeat ((first | with_reducible apply br_tt | with_reducible apply br_ff | with_reducible apply br_nf | with_reducible apply br_nt | with_reducible refine br_d ?_ (by kernel_rfl) | with_reducible apply br_t h | with_reducible apply br_f h | with_reducible refine br_t (dt2 (by omega) (by omega)) ?_ | with_reducible refine br_t (dt (by omega)) ?_); conv => lhs; whnf)
      refine br_c (fun h2 => ?_) (fun h2 => ?_)
      · conv => lhs; whnf
        refine Eq.trans (ih n (i + 1) _ _ _ _ (by omega) (by omega) (by rw [wrap64 (n := (i : Int) + 1) (by omega) (by omega)]; simp) (by omega)) ?_
        have e : msC m b i best x y = true := by
          unfold msC
          rw [show decide (best < 0) = false from h, Bool.false_or]
          exact h2
        rw [msF, e, cond_true]
      · conv => lhs; whnf
        refine Eq.trans (ih n (i + 1) _ _ _ _ (by omega) (by omega) (by rw [wrap64 (n := (i : Int) + 1) (by omega) (by omega)]; simp) (by omega)) ?_
        have e : msC m b i best x y = false := by
          unfold msC
          rw [show decide (best < 0) = false from h, Bool.false_or]
          exact h2
        rw [msF, e, cond_false]
theorem ev_specMostStable (m : Int) (b : List Int) (hp : b.length ≤ 1048576) : evF E_specMostStable (100) Tryd.f45 [.agg [.int .i64 m, .lst (.int .i64) b]] [] = some (.int .i64 (msF m b (concF m b).length 0 (-1) 0 1), []) := by
  have hl := concF_len m b
  conv => lhs; whnf
  conv => lhs; arg 1; whnf
  refine bnd_g (by exact hp) ?_
  conv => lhs; whnf
  refine (lp_specMostStable m b hp (concF m b).length hl _ (concF m b).length _ 0 0 _ _ _ rfl (by omega) rfl (by change _ < 99; omega)).trans ?_
  conv => lhs; whnf
theorem ok_specMostStable : FnOk Tryd.prog 45 K_specMostStable := by
  refine fn_ok (fn := Tryd.f45) (k := Tryd.f45.ntmps) (E := E_specMostStable) (facts_of (List.forall_mem_cons.2 ⟨ok_specConcepts, List.forall_mem_cons.2 ⟨ok_specStability, List.forall_mem_nil _⟩⟩)) (by kernel_rfl) rfl (by decide +kernel) (by decide +kernel) ?_
  intro avs hin r h
  unfold K_specMostStable at h
  split at h
  · obtain ⟨hp, rfl⟩ := gd_o h
    exact ⟨_, ev_specMostStable _ _ hp, rfl⟩
  · cases h

/- impl.MostStable -/
def K_implMostStable : List AV → List Ob → Option (AV × List Ob)
  | [.agg [.int .i64 m, .lst (.int .i64) b]], [] => gd (b.length ≤ 1048576) (.int .i64 (msF m b (concF m b).length 0 (-1) 0 1), [])
  | _, _ => none
@[reducible] def E_implMostStable : Env := mkE (tb [(100, K_implConcepts), (37, K_implStability)]) (fun f => false) (fun r => bif r == 3 then ([1, 3, 4, 5, 11, 12], [3]) else ([], []))
theorem lp_implMostStable (m : Int) (b : List Int) (hlen : b.length ≤ 1048576) (N : Nat) (hN : N ≤ 64) (k : AX → S → Option (AV × List Ob)) (d : Nat) : ∀ (n i : Nat) (z best x y : Int), N - i = d → i ≤ N → z = i → d < n →
    lpAt E_implMostStable (lp E_implMostStable 0 n) 0 (loopAt Tryd.f46 0) (mkS [1, 3, 4, 5, 11, 12] [.ptr 0 0, .int .i64 best, .int .i64 x, .int .i64 y, .int .i64 (N : Int), .int .i64 z] [some (.box 35 [.int .i64 m, .lst (.int .i64) b])]) k =
      k (.exit 0) (mkS [3] [.int .i64 (msF m b d i best x y)] []) := by
  induction d with
  | zero =>
    intro n i z best x y hd hi hx hn
    subst hx
    rw [lpAt_def]
    conv => lhs; whnf
    refine br_f (df (by omega)) ?_
    conv => lhs; whnf
    rfl
  | succ d ih =>
    intro n i z best x y hd hi hx hn
    obtain ⟨n, rfl⟩ : ∃ m, n = m + 1 := ⟨n - 1, by omega⟩
    subst hx
    rw [lpAt_def]
    conv => lhs; whnf
    refine br_t (dt (by omega)) ?_
    conv => lhs; whnf
    conv => lhs; arg 1; whnf
    refine bnd_g (by exact hlen) ?_
    conv => lhs; whnf
    refine br_c (fun h => ?_) (fun h => ?_)
    · conv => lhs; whnf
      repeat ((first | with_reducible apply br_tt | with_reducible apply br_ff | with_reducible apply br_nf | with_reducible apply br_nt | with_reducible refine br_d ?_ (by kernel_rfl) | with_reducible apply br_t h | with_reducible apply br_f h | with_reducible refine br_t (dt2 (by omega) (by omega)) ?_ | with_reducible refine br_t (dt (by omega)) ?_); conv => lhs; whnf)
      refine Eq.trans (ih n (i + 1) _ _ _ _ (by omega) (by omega) (by rw [wrap64 (n := (i : Int) + 1) (by omega) (by omega)]; simp) (by omega)) ?_
      have e : msC m b i best x y = true := by
        unfold msC
        rw [h, Bool.true_or]
      rw [msF, e, cond_true]
    · conv => lhs; whnf
      repeat ((first | with_reducible apply br_tt | with_reducible apply br_ff | with_reducible apply br_nf | with_reducible apply br_nt | with_reducible refine br_d ?_ (by kernel_rfl) | with_reducible apply br_t h | with_reducible apply br_f h | with_reducible refine br_t (dt2 (by omega) (by omega)) ?_ | with_reducible refine br_t (dt (by omega)) ?_); conv => lhs; whnf)
      refine br_c (fun h2 => ?_) (fun h2 => ?_)
      · conv => lhs; whnf
        refine Eq.trans (ih n (i + 1) _ _ _ _ (by omega) (by omega) (by rw [wrap64 (n := (i : Int) + 1) (by omega) (by omega)]; simp) (by omega)) ?_
        have e : msC m b i best x y = true := by
          unfold msC
          rw [show decide (best < 0) = false from h, Bool.false_or]
          exact h2
        rw [msF, e, cond_true]
      · conv => lhs; whnf
        refine Eq.trans (ih n (i + 1) _ _ _ _ (by omega) (by omega) (by rw [wrap64 (n := (i : Int) + 1) (by omega) (by omega)]; simp) (by omega)) ?_
        have e : msC m b i best x y = false := by
          unfold msC
          rw [show decide (best < 0) = false from h, Bool.false_or]
          exact h2
        rw [msF, e, cond_false]
theorem ev_implMostStable (m : Int) (b : List Int) (hp : b.length ≤ 1048576) : evF E_implMostStable (100) Tryd.f46 [.agg [.int .i64 m, .lst (.int .i64) b]] [] = some (.int .i64 (msF m b (concF m b).length 0 (-1) 0 1), []) := by
  have hl := concF_len m b
  conv => lhs; whnf
  conv => lhs; arg 1; whnf
  refine bnd_g (by exact hp) ?_
  conv => lhs; whnf
  refine (lp_implMostStable m b hp (concF m b).length hl _ (concF m b).length _ 0 0 _ _ _ rfl (by omega) rfl (by change _ < 99; omega)).trans ?_
  conv => lhs; whnf
theorem ok_implMostStable : FnOk Tryd.prog 46 K_implMostStable := by
  refine fn_ok (fn := Tryd.f46) (k := Tryd.f46.ntmps) (E := E_implMostStable) (facts_of (List.forall_mem_cons.2 ⟨ok_implConcepts, List.forall_mem_cons.2 ⟨ok_implStability, List.forall_mem_nil _⟩⟩)) (by kernel_rfl) rfl (by decide +kernel) (by decide +kernel) ?_
  intro avs hin r h
  unfold K_implMostStable at h
  split at h
  · obtain ⟨hp, rfl⟩ := gd_o h
    exact ⟨_, ev_implMostStable _ _ hp, rfl⟩
  · cases h

/- laws.FnExactMostStable -/
def K_lawMostStable : List AV → List Ob → Option (AV × List Ob)
  | [.agg [.int .i64 m, .lst (.int .i64) a]], [] => gd (a.length ≤ maxLen) (.bool true, [])
  | _, _ => none
@[reducible] def E_lawMostStable : Env := mkE (tb [(23, K_szContext), (25, K_toContext), (45, K_specMostStable), (46, K_implMostStable), (28, K_eqContext)]) (fun f => false) (fun r => ([], []))
theorem ev_lawMostStable (m : Int) (a : List Int) (hp : a.length ≤ maxLen) : evF E_lawMostStable (1) Tryd.f10 [.agg [.int .i64 m, .lst (.int .i64) a]] [] = some (.bool true, []) := by
  conv => lhs; whnf
  conv => lhs; arg 1; whnf
  refine bnd_g (by exact ⟨by omega, by omega, hp⟩) ?_
  conv => lhs; whnf
  refine br_c (fun h1 => ?_) (fun h1 => ?_)
  · conv => lhs; whnf
  · conv => lhs; whnf
    obtain ⟨e1, l1⟩ := szI_ok (ofn h1)
    conv => lhs; arg 1; whnf
    refine bnd_g (by omega) ?_
    conv => lhs; whnf
    conv => lhs; arg 1; whnf
    refine bnd_g (by omega) ?_
    conv => lhs; whnf
    conv => lhs; arg 1; whnf
    refine bnd_g (by omega) ?_
    conv => lhs; whnf
    conv => lhs; arg 1; whnf
    refine bnd_g (by omega) ?_
    conv => lhs; whnf
    repeat ((first | with_reducible apply br_tt | with_reducible apply br_ff | with_reducible apply br_nf | with_reducible apply br_nt | with_reducible refine br_d ?_ (by kernel_rfl) | with_reducible refine br_f (by simp; done) ?_); conv => lhs; whnf)
    conv => lhs; arg 1; whnf
    refine bnd_g (by omega) ?_
    conv => lhs; whnf
    conv => lhs; arg 1; whnf
    refine bnd_g (by exact ⟨by omega, by omega⟩) ?_
    conv => lhs; whnf
    repeat ((first | with_reducible apply br_tt | with_reducible apply br_ff | with_reducible apply br_nf | with_reducible apply br_nt | with_reducible refine br_d ?_ (by kernel_rfl) | with_reducible refine br_f (by simp; done) ?_); conv => lhs; whnf)
theorem ok_lawMostStable : FnOk Tryd.prog 10 K_lawMostStable := by
  refine fn_ok (fn := Tryd.f10) (k := Tryd.f10.ntmps) (E := E_lawMostStable) (facts_of (List.forall_mem_cons.2 ⟨ok_szContext, List.forall_mem_cons.2 ⟨ok_toContext, List.forall_mem_cons.2 ⟨ok_specMostStable, List.forall_mem_cons.2 ⟨ok_implMostStable, List.forall_mem_cons.2 ⟨ok_eqContext, List.forall_mem_nil _⟩⟩⟩⟩⟩)) (by kernel_rfl) rfl (by decide +kernel) (by decide +kernel) ?_
  intro avs hin r h
  unfold K_lawMostStable at h
  split at h
  · obtain ⟨hp, rfl⟩ := gd_o h
    exact ⟨_, ev_lawMostStable _ _ hp, rfl⟩
  · cases h

def sepAt (b : List Int) (p : Int × Int) (i : Nat) : Int := bif hasE p.1 (i : Int) then cntF (b.getD i 0) else cntF (band (b.getD i 0) p.2)
def sepS (b : List Int) (p : Int × Int) : Nat → Nat → Int → Int
  | 0, _, q => q
  | d + 1, i, q => sepS b p d (i + 1) (q + sepAt b p i)
theorem sepAt_rng (b : List Int) (p : Int × Int) (i : Nat) : 0 ≤ sepAt b p i ∧ sepAt b p i ≤ 8 := by
  unfold sepAt
  cases hasE p.1 (i : Int)
  · exact cntF_rng _
  · exact cntF_rng _
def sepF (m : Int) (b : List Int) (a : Int) : Int × Int := bif inC (concF m b) a then (IntKind.i64.wrap (cntF (elC (concF m b) a).1 * cntF (elC (concF m b) a).2), sepS b (elC (concF m b) a) b.length 0 0) else (0, 0)
/- spec.SeparationOf -/
def K_specSeparation : List AV → List Ob → Option (AV × List Ob)
  | [.agg [.int .i64 m, .lst (.int .i64) b], .int .i64 a], [] => gd (b.length ≤ 1048576) (.tup [.int .i64 (sepF m b a).1, .int .i64 (sepF m b a).2], [])
  | _, _ => none
@[reducible] def E_specSeparation : Env := mkE (tb [(74, K_specConcepts), (75, K_l6Exists), (86, K_l2Has), (87, K_specCountOf)]) (fun f => false) (fun r => bif r == 6 then ([1, 2, 6, 7, 8], [1, 6, 7]) else ([], []))
theorem lp_specSeparation (m : Int) (b : List Int) (a : Int) (hc : isCtx m b = true) (l : List (Int × Int)) (ha : 0 ≤ a ∧ a < (l.length : Int)) (hl : l.length ≤ 64) (hE : isSet 8 (elC l a).1 = true) (k : AX → S → Option (AV × List Ob)) (d : Nat) : ∀ (n i : Nat) (x q : Int), b.length - i = d → i ≤ b.length → x = i → d < n → 0 ≤ q → q ≤ 8 * i →
    lpAt E_specSeparation (lp E_specSeparation 0 n) 0 (loopAt Tryd.f34 0) (mkS [1, 2, 6, 7, 8] [.int .i64 a, .ptr 0 0, .own 1, .int .i64 q, .int .i64 x] [some (.box 35 [.int .i64 m, .lst (.int .i64) b]), some (.row 84 (.pair (.int .i64) (.int .i64)) l)]) k =
      k (.exit 0) (mkS [1, 6, 7] [.int .i64 a, .own 0, .int .i64 (sepS b (elC l a) d i q)] [some (.row 84 (.pair (.int .i64) (.int .i64)) l)]) := by
  have hlen := isCtx_len hc
  have hr := isSet_le hE
  induction d with
  | zero =>
    intro n i x q hd hi hx hn hq hq'
    subst hx
    rw [lpAt_def]
    conv => lhs; whnf
    refine br_f (df (by omega)) ?_
    conv => lhs; whnf
    rfl
  | succ d ih =>
    intro n i x q hd hi hx hn hq hq'
    obtain ⟨n, rfl⟩ : ∃ m, n = m + 1 := ⟨n - 1, by omega⟩
    subst hx
    have hb := sepAt_rng b (elC l a) i
    have hw : IntKind.i64.wrap (q + sepAt b (elC l a) i) = q + sepAt b (elC l a) i := wrap64 (by omega) (by omega)
    have hh : hasE (elC l a).1 (i : Int) = (elC l a).1.toNat.testBit (i : Int).toNat := by
      unfold hasE
      rw [hE, dt (show 0 ≤ (i : Int) ∧ (i : Int) ≤ 7 by omega)]
      rfl
    rw [lpAt_def]
    conv => lhs; whnf
    refine br_t (dt (by omega)) ?_
    conv => lhs; whnf
    refine br_t (dt2 (by omega) (by omega)) ?_
    conv => lhs; whnf
    refine br_t (dt (by omega)) ?_
    conv => lhs; whnf
    conv => lhs; arg 1; whnf
    refine bnd_g (by (change (0 ≤ (elC l a).1 ∧ (elC l a).1 ≤ 255) ∧ (0 ≤ (i : Int) ∧ (i : Int) ≤ 8); omega)) ?_
    conv => lhs; whnf
    refine br_c (fun h => ?_) (fun h => ?_)
    · have h' : (elC l a).1.toNat.testBit (i : Int).toNat = true := h
      have e : sepAt b (elC l a) i = cntF (b.getD i 0) := by
        unfold sepAt
        rw [hh, h', cond_true]
      rw [e] at hw hb
      conv => lhs; whnf
      refine br_t (dt2 (by omega) (by omega)) ?_
      conv => lhs; whnf
      conv => lhs; arg 1; whnf
      refine bnd_g (by exact True.intro) ?_
      conv => lhs; whnf
      repeat ((first | with_reducible apply br_tt | with_reducible apply br_ff | with_reducible apply br_nf | with_reducible apply br_nt | with_reducible refine br_d ?_ (by kernel_rfl)); conv => lhs; whnf)
      refine Eq.trans (ih n (i + 1) _ _ (by omega) (by omega) (by rw [wrap64 (n := (i : Int) + 1) (by omega) (by omega)]; simp) (by omega) (by change 0 ≤ IntKind.i64.wrap (q + cntF (b.getD i 0)); omega) (by change IntKind.i64.wrap (q + cntF (b.getD i 0)) ≤ 8 * ((i + 1 : Nat) : Int); omega)) ?_
      rw [sepS, e, ← hw]
      rfl
    · have h' : (elC l a).1.toNat.testBit (i : Int).toNat = false := h
      have e : sepAt b (elC l a) i = cntF (band (b.getD i 0) (elC l a).2) := by
        unfold sepAt
        rw [hh, h', cond_false]
      rw [e] at hw hb
      conv => lhs; whnf
      refine br_t (dt2 (by omega) (by omega)) ?_
      conv => lhs; whnf
      refine br_t (dt2 (by omega) (by omega)) ?_
      conv => lhs; whnf
      refine br_t (dt (by omega)) ?_
      conv => lhs; whnf
      conv => lhs; arg 1; whnf
      refine bnd_g (by exact True.intro) ?_
      conv => lhs; whnf
      repeat ((first | with_reducible apply br_tt | with_reducible apply br_ff | with_reducible apply br_nf | with_reducible apply br_nt | with_reducible refine br_d ?_ (by kernel_rfl)); conv => lhs; whnf)
      refine Eq.trans (ih n (i + 1) _ _ (by omega) (by omega) (by rw [wrap64 (n := (i : Int) + 1) (by omega) (by omega)]; simp) (by omega) (by change 0 ≤ IntKind.i64.wrap (q + cntF (band (b.getD i 0) (elC l a).2)); omega) (by change IntKind.i64.wrap (q + cntF (band (b.getD i 0) (elC l a).2)) ≤ 8 * ((i + 1 : Nat) : Int); omega)) ?_
      rw [sepS, e, ← hw]
      rfl
theorem ev_specSeparation (m : Int) (b : List Int) (a : Int) (hp : b.length ≤ 1048576) : evF E_specSeparation (20) Tryd.f34 [.agg [.int .i64 m, .lst (.int .i64) b], .int .i64 a] [] = some (.tup [.int .i64 (sepF m b a).1, .int .i64 (sepF m b a).2], []) := by
  have hl := concF_len m b
  conv => lhs; whnf
  conv => lhs; arg 1; whnf
  refine bnd_g (by exact hp) ?_
  conv => lhs; whnf
  conv => lhs; arg 1; whnf
  refine bnd_g (by exact hl) ?_
  conv => lhs; whnf
  refine br_c (fun h => ?_) (fun h => ?_)
  · unfold sepF
    rw [bnt h]
    conv => lhs; whnf
    rfl
  · have h2 := inC_iff.1 (bnf h)
    obtain ⟨h3, h4, h5, h6, h7⟩ := concF_at (bnf h)
    have h8 := isSet_le h5
    have hlen := isCtx_len h3
    unfold sepF
    rw [bnf h]
    conv => lhs; whnf
    refine (lp_specSeparation m b a h3 (concF m b) h2 hl (by rw [isSet8]; exact dt ⟨by omega, by omega⟩) _ b.length _ 0 0 0 rfl (by omega) rfl (by change _ < 19; omega) (by omega) (by omega)).trans ?_
    conv => lhs; whnf
    refine br_t (dt2 (by omega) (by omega)) ?_
    conv => lhs; whnf
    refine br_t (dt (by omega)) ?_
    conv => lhs; whnf
    conv => lhs; arg 1; whnf
    refine bnd_g (by exact True.intro) ?_
    conv => lhs; whnf
    refine br_t (dt2 (by omega) (by omega)) ?_
    conv => lhs; whnf
    refine br_t (dt (by omega)) ?_
    conv => lhs; whnf
    conv => lhs; arg 1; whnf
    refine bnd_g (by exact True.intro) ?_
    conv => lhs; whnf
    repeat ((first | with_reducible apply br_tt | with_reducible apply br_ff | with_reducible apply br_nf | with_reducible apply br_nt | with_reducible refine br_d ?_ (by kernel_rfl)); conv => lhs; whnf)
    rfl
theorem ok_specSeparation : FnOk Tryd.prog 34 K_specSeparation := by
  refine fn_ok (fn := Tryd.f34) (k := Tryd.f34.ntmps) (E := E_specSeparation) (facts_of (List.forall_mem_cons.2 ⟨ok_specConcepts, List.forall_mem_cons.2 ⟨ok_l6Exists, List.forall_mem_cons.2 ⟨ok_l2Has, List.forall_mem_cons.2 ⟨ok_specCountOf, List.forall_mem_nil _⟩⟩⟩⟩)) (by kernel_rfl) rfl (by decide +kernel) (by decide +kernel) ?_
  intro avs hin r h
  unfold K_specSeparation at h
  split at h
  · obtain ⟨hp, rfl⟩ := gd_o h
    exact ⟨_, ev_specSeparation _ _ _ hp, rfl⟩
  · cases h

/- impl.SeparationOf -/
def K_implSeparation : List AV → List Ob → Option (AV × List Ob)
  | [.agg [.int .i64 m, .lst (.int .i64) b], .int .i64 a], [] => gd (b.length ≤ 1048576) (.tup [.int .i64 (sepF m b a).1, .int .i64 (sepF m b a).2], [])
  | _, _ => none
@[reducible] def E_implSeparation : Env := mkE (tb [(78, K_conceptOf), (88, K_hasElement), (89, K_implCountOf)]) (fun f => false) (fun r => bif r == 6 then ([6, 8, 20, 21, 22], [6, 8]) else ([], []))
theorem lp_implSeparation (m : Int) (b : List Int) (hlen : b.length ≤ 8) (p : Int × Int) (k : AX → S → Option (AV × List Ob)) (d : Nat) : ∀ (n i : Nat) (x q : Int), b.length - i = d → i ≤ b.length → x = i → d < n → 0 ≤ q → q ≤ 8 * i →
    lpAt E_implSeparation (lp E_implSeparation 0 n) 0 (loopAt Tryd.f35 0) (mkS [6, 8, 20, 21, 22] [.ptr 0 0, .int .i64 q, .lst (.int .i64) b, .int .i64 (b.length : Int), .int .i64 x] [some (.box 84 [.int .i64 p.1, .int .i64 p.2])]) k =
      k (.exit 0) (mkS [6, 8] [.ptr 0 0, .int .i64 (sepS b p d i q)] [some (.box 84 [.int .i64 p.1, .int .i64 p.2])]) := by
  induction d with
  | zero =>
    intro n i x q hd hi hx hn hq hq'
    subst hx
    rw [lpAt_def]
    conv => lhs; whnf
    refine br_f (df (by omega)) ?_
    conv => lhs; whnf
    rfl
  | succ d ih =>
    intro n i x q hd hi hx hn hq hq'
    obtain ⟨n, rfl⟩ : ∃ m, n = m + 1 := ⟨n - 1, by omega⟩
    subst hx
    have hb := sepAt_rng b p i
    have hw : IntKind.i64.wrap (q + sepAt b p i) = q + sepAt b p i := wrap64 (by omega) (by omega)
    rw [lpAt_def]
    conv => lhs; whnf
    refine br_t (dt (by omega)) ?_
    conv => lhs; whnf
    refine br_t (dt2 (by omega) (by omega)) ?_
    conv => lhs; whnf
    conv => lhs; arg 1; whnf
    refine bnd_g (by exact True.intro) ?_
    conv => lhs; whnf
    refine br_c (fun h => ?_) (fun h => ?_)
    · have h' : hasE p.1 (i : Int) = true := h
      have e : sepAt b p i = cntF (b.getD i 0) := by
        unfold sepAt
        rw [h', cond_true]
      rw [e] at hw hb
      conv => lhs; whnf
      conv => lhs; arg 1; whnf
      refine bnd_g (by exact True.intro) ?_
      conv => lhs; whnf
      repeat ((first | with_reducible apply br_tt | with_reducible apply br_ff | with_reducible apply br_nf | with_reducible apply br_nt | with_reducible refine br_d ?_ (by kernel_rfl)); conv => lhs; whnf)
      refine Eq.trans (ih n (i + 1) _ _ (by omega) (by omega) (by rw [wrap64 (n := (i : Int) + 1) (by omega) (by omega)]; simp) (by omega) (by change 0 ≤ IntKind.i64.wrap (q + cntF (b.getD i 0)); omega) (by change IntKind.i64.wrap (q + cntF (b.getD i 0)) ≤ 8 * ((i + 1 : Nat) : Int); omega)) ?_
      rw [sepS, e, ← hw]
      rfl
    · have h' : hasE p.1 (i : Int) = false := h
      have e : sepAt b p i = cntF (band (b.getD i 0) p.2) := by
        unfold sepAt
        rw [h', cond_false]
      rw [e] at hw hb
      conv => lhs; whnf
      conv => lhs; arg 1; whnf
      refine bnd_g (by exact True.intro) ?_
      conv => lhs; whnf
      repeat ((first | with_reducible apply br_tt | with_reducible apply br_ff | with_reducible apply br_nf | with_reducible apply br_nt | with_reducible refine br_d ?_ (by kernel_rfl)); conv => lhs; whnf)
      refine Eq.trans (ih n (i + 1) _ _ (by omega) (by omega) (by rw [wrap64 (n := (i : Int) + 1) (by omega) (by omega)]; simp) (by omega) (by change 0 ≤ IntKind.i64.wrap (q + cntF (band (b.getD i 0) p.2)); omega) (by change IntKind.i64.wrap (q + cntF (band (b.getD i 0) p.2)) ≤ 8 * ((i + 1 : Nat) : Int); omega)) ?_
      rw [sepS, e, ← hw]
      rfl
theorem ev_implSeparation (m : Int) (b : List Int) (a : Int) (hp : b.length ≤ 1048576) : evF E_implSeparation (20) Tryd.f35 [.agg [.int .i64 m, .lst (.int .i64) b], .int .i64 a] [] = some (.tup [.int .i64 (sepF m b a).1, .int .i64 (sepF m b a).2], []) := by
  have hl := concF_len m b
  conv => lhs; whnf
  conv => lhs; arg 1; whnf
  refine bnd_g (by exact hp) ?_
  conv => lhs; whnf
  refine br_c (fun h => ?_) (fun h => ?_)
  · unfold sepF
    rw [bnt h]
    conv => lhs; whnf
    rfl
  · have h2 := inC_iff.1 (bnf h)
    obtain ⟨h3, h4, h5, h6, h7⟩ := concF_at (bnf h)
    have h8 := isSet_le h5
    have hlen := isCtx_len h3
    unfold sepF cofF
    rw [bnf h]
    conv => lhs; whnf
    refine (lp_implSeparation m b hlen.1 (elC (concF m b) a) _ b.length _ 0 0 0 rfl (by omega) rfl (by change _ < 19; omega) (by omega) (by omega)).trans ?_
    conv => lhs; whnf
    conv => lhs; arg 1; whnf
    refine bnd_g (by exact True.intro) ?_
    conv => lhs; whnf
    conv => lhs; arg 1; whnf
    refine bnd_g (by exact True.intro) ?_
    conv => lhs; whnf
    repeat ((first | with_reducible apply br_tt | with_reducible apply br_ff | with_reducible apply br_nf | with_reducible apply br_nt | with_reducible refine br_d ?_ (by kernel_rfl)); conv => lhs; whnf)
    rfl
theorem ok_implSeparation : FnOk Tryd.prog 35 K_implSeparation := by
  refine fn_ok (fn := Tryd.f35) (k := Tryd.f35.ntmps) (E := E_implSeparation) (facts_of (List.forall_mem_cons.2 ⟨ok_conceptOf, List.forall_mem_cons.2 ⟨ok_hasElement, List.forall_mem_cons.2 ⟨ok_implCountOf, List.forall_mem_nil _⟩⟩⟩)) (by kernel_rfl) rfl (by decide +kernel) (by decide +kernel) ?_
  intro avs hin r h
  unfold K_implSeparation at h
  split at h
  · obtain ⟨hp, rfl⟩ := gd_o h
    exact ⟨_, ev_implSeparation _ _ _ hp, rfl⟩
  · cases h

/- laws.FnExactSeparationOf -/
def K_lawSeparation : List AV → List Ob → Option (AV × List Ob)
  | [.agg [.int .i64 m, .lst (.int .i64) a], .int .i64 g], [] => gd (a.length ≤ maxLen) (.bool true, [])
  | _, _ => none
@[reducible] def E_lawSeparation : Env := mkE (tb [(23, K_szContext), (25, K_toContext), (34, K_specSeparation), (35, K_implSeparation), (28, K_eqContext)]) (fun f => false) (fun r => ([], []))
theorem ev_lawSeparation (m : Int) (a : List Int) (g : Int) (hp : a.length ≤ maxLen) : evF E_lawSeparation (1) Tryd.f6 [.agg [.int .i64 m, .lst (.int .i64) a], .int .i64 g] [] = some (.bool true, []) := by
  conv => lhs; whnf
  conv => lhs; arg 1; whnf
  refine bnd_g (by exact ⟨by omega, by omega, hp⟩) ?_
  conv => lhs; whnf
  refine br_c (fun h1 => ?_) (fun h1 => ?_)
  · conv => lhs; whnf
  · conv => lhs; whnf
    obtain ⟨e1, l1⟩ := szI_ok (ofn h1)
    conv => lhs; arg 1; whnf
    refine bnd_g (by omega) ?_
    conv => lhs; whnf
    conv => lhs; arg 1; whnf
    refine bnd_g (by omega) ?_
    conv => lhs; whnf
    conv => lhs; arg 1; whnf
    refine bnd_g (by omega) ?_
    conv => lhs; whnf
    conv => lhs; arg 1; whnf
    refine bnd_g (by omega) ?_
    conv => lhs; whnf
    repeat ((first | with_reducible apply br_tt | with_reducible apply br_ff | with_reducible apply br_nf | with_reducible apply br_nt | with_reducible refine br_d ?_ (by kernel_rfl) | with_reducible refine br_f (by simp; done) ?_); conv => lhs; whnf)
    conv => lhs; arg 1; whnf
    refine bnd_g (by omega) ?_
    conv => lhs; whnf
    conv => lhs; arg 1; whnf
    refine bnd_g (by exact ⟨by omega, by omega⟩) ?_
    conv => lhs; whnf
    repeat ((first | with_reducible apply br_tt | with_reducible apply br_ff | with_reducible apply br_nf | with_reducible apply br_nt | with_reducible refine br_d ?_ (by kernel_rfl) | with_reducible refine br_f (by simp; done) ?_); conv => lhs; whnf)
theorem ok_lawSeparation : FnOk Tryd.prog 6 K_lawSeparation := by
  refine fn_ok (fn := Tryd.f6) (k := Tryd.f6.ntmps) (E := E_lawSeparation) (facts_of (List.forall_mem_cons.2 ⟨ok_szContext, List.forall_mem_cons.2 ⟨ok_toContext, List.forall_mem_cons.2 ⟨ok_specSeparation, List.forall_mem_cons.2 ⟨ok_implSeparation, List.forall_mem_cons.2 ⟨ok_eqContext, List.forall_mem_nil _⟩⟩⟩⟩⟩)) (by kernel_rfl) rfl (by decide +kernel) (by decide +kernel) ?_
  intro avs hin r h
  unfold K_lawSeparation at h
  split at h
  · obtain ⟨hp, rfl⟩ := gd_o h
    exact ⟨_, ev_lawSeparation _ _ _ hp, rfl⟩
  · cases h

end Go.Sym
