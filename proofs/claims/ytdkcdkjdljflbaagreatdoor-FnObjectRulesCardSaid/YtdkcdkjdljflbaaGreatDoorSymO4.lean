/- Functions of the program, each told as a plain equation. -/
import Derived.Test.YtdkcdkjdljflbaaGreatDoorSymO3
namespace Go.Sym
open Go.Proofs
set_option linter.unusedVariables false
set_option linter.unusedSimpArgs false
set_option maxRecDepth 100000
set_option maxHeartbeats 4000000

def exoF (m : Int) (a : List Int) : List Int × List (Int × Int) × QL := bif (dualF m a).2.2 then explF (dualF m a).1 (dualF m a).2.1 else ([], [], [])
def exoM (m : Int) (a : List Int) : Int := bif (dualF m a).2.2 then explM (dualF m a).1 (dualF m a).2.1 else 0
theorem exoF_len (m : Int) (a : List Int) : (exoF m a).1.length ≤ 8 ∧ (exoF m a).2.1.length ≤ 32 ∧ (exoF m a).2.2.length ≤ 80 := by
  unfold exoF
  cases (dualF m a).2.2 with
  | false => exact ⟨Nat.zero_le _, Nat.zero_le _, Nat.zero_le _⟩
  | true => exact explF_len _ _
/- impl.ExploreObjects -/
def K_implExploreObjects : List AV → List Ob → Option (AV × List Ob)
  | [.agg [.int .i64 m, .lst (.int .i64) a]], [] => gd (a.length ≤ 1048576) (.tup [.agg [.own 0, .own 1, .int .i64 (exoM m a), .own 2], .bool (dualF m a).2.2], [.row 97 (.pair (.pair (.int .i64) (.int .i64)) (.pair .bool (.int .i64))) (exoF m a).2.2, .row 48 (.pair (.int .i64) (.int .i64)) (exoF m a).2.1, .row 3 (.int .i64) (exoF m a).1])
  | _, _ => none
@[reducible] def E_implExploreObjects : Env := mkE (tb [(93, K_implDual), (94, K_implExplore)]) (fun f => false) (fun r => ([], []))
theorem ev_implExploreObjects (m : Int) (a : List Int) (hp : a.length ≤ 1048576) : evF E_implExploreObjects (1) Tryz.f39 [.agg [.int .i64 m, .lst (.int .i64) a]] [] = some (.tup [.agg [.own 0, .own 1, .int .i64 (exoM m a), .own 2], .bool (dualF m a).2.2], [.row 97 (.pair (.pair (.int .i64) (.int .i64)) (.pair .bool (.int .i64))) (exoF m a).2.2, .row 48 (.pair (.int .i64) (.int .i64)) (exoF m a).2.1, .row 3 (.int .i64) (exoF m a).1]) := by
  have hdl := dualF_len m a
  conv => lhs; whnf
  conv => lhs; arg 1; whnf
  refine bnd_g (by exact hp) ?_
  conv => lhs; whnf
  refine br_c (fun h => ?_) (fun h => ?_)
  · conv => rhs; unfold exoF exoM; rw [bnt h]
    conv => lhs; whnf
    rfl
  · have hc := dualF_ctx (bnf h)
    have e1 : exoF m a = explF (dualF m a).1 (dualF m a).2.1 := by unfold exoF; rw [bnf h]; rfl
    have e2 : exoM m a = explM (dualF m a).1 (dualF m a).2.1 := by unfold exoM; rw [bnf h]; rfl
    conv => rhs; rw [e1, e2, (bnf h).trans hc.symm]
    conv => lhs; whnf
    conv => lhs; arg 1; whnf
    refine bnd_g (by omega) ?_
    conv => lhs; whnf
theorem ok_implExploreObjects : FnOk Tryz.prog 39 K_implExploreObjects := by
  refine fn_ok (fn := Tryz.f39) (k := Tryz.f39.ntmps) (E := E_implExploreObjects) (facts_of (List.forall_mem_cons.2 ⟨ok_implDual, List.forall_mem_cons.2 ⟨ok_implExplore, List.forall_mem_nil _⟩⟩)) (by kernel_rfl) rfl (by decide +kernel) (by decide +kernel) ?_
  intro avs hin r h
  unfold K_implExploreObjects at h
  split at h
  · obtain ⟨hp, rfl⟩ := gd_o h
    exact ⟨_, ev_implExploreObjects _ _ hp, rfl⟩
  · cases h

/- spec.ExploreObjects -/
def K_specExploreObjects : List AV → List Ob → Option (AV × List Ob)
  | [.agg [.int .i64 m, .lst (.int .i64) a]], [] => gd (a.length ≤ 1048576) (.tup [.agg [.own 0, .own 1, .int .i64 (exoM m a), .own 2], .bool (dualF m a).2.2], [.row 97 (.pair (.pair (.int .i64) (.int .i64)) (.pair .bool (.int .i64))) (exoF m a).2.2, .row 48 (.pair (.int .i64) (.int .i64)) (exoF m a).2.1, .row 3 (.int .i64) (exoF m a).1])
  | _, _ => none
@[reducible] def E_specExploreObjects : Env := mkE (tb [(49, K_specDual), (95, K_specExplore)]) (fun f => false) (fun r => ([], []))
theorem ev_specExploreObjects (m : Int) (a : List Int) (hp : a.length ≤ 1048576) : evF E_specExploreObjects (1) Tryz.f40 [.agg [.int .i64 m, .lst (.int .i64) a]] [] = some (.tup [.agg [.own 0, .own 1, .int .i64 (exoM m a), .own 2], .bool (dualF m a).2.2], [.row 97 (.pair (.pair (.int .i64) (.int .i64)) (.pair .bool (.int .i64))) (exoF m a).2.2, .row 48 (.pair (.int .i64) (.int .i64)) (exoF m a).2.1, .row 3 (.int .i64) (exoF m a).1]) := by
  have hdl := dualF_len m a
  conv => lhs; whnf
  conv => lhs; arg 1; whnf
  refine bnd_g (by exact hp) ?_
  conv => lhs; whnf
  refine br_c (fun h => ?_) (fun h => ?_)
  · conv => rhs; unfold exoF exoM; rw [bnt h]
    conv => lhs; whnf
    rfl
  · have hc := dualF_ctx (bnf h)
    have e1 : exoF m a = explF (dualF m a).1 (dualF m a).2.1 := by unfold exoF; rw [bnf h]; rfl
    have e2 : exoM m a = explM (dualF m a).1 (dualF m a).2.1 := by unfold exoM; rw [bnf h]; rfl
    conv => rhs; rw [e1, e2, (bnf h).trans hc.symm]
    conv => lhs; whnf
    conv => lhs; arg 1; whnf
    refine bnd_g (by omega) ?_
    conv => lhs; whnf
theorem ok_specExploreObjects : FnOk Tryz.prog 40 K_specExploreObjects := by
  refine fn_ok (fn := Tryz.f40) (k := Tryz.f40.ntmps) (E := E_specExploreObjects) (facts_of (List.forall_mem_cons.2 ⟨ok_specDual, List.forall_mem_cons.2 ⟨ok_specExplore, List.forall_mem_nil _⟩⟩)) (by kernel_rfl) rfl (by decide +kernel) (by decide +kernel) ?_
  intro avs hin r h
  unfold K_specExploreObjects at h
  split at h
  · obtain ⟨hp, rfl⟩ := gd_o h
    exact ⟨_, ev_specExploreObjects _ _ hp, rfl⟩
  · cases h

/- laws.sameExploration -/
def K_sameExploration : List AV → List Ob → Option (AV × List Ob)
  | [.agg [.lst (.pair (.pair (.int .i64) (.int .i64)) (.pair .bool (.int .i64))) q, .lst (.pair (.int .i64) (.int .i64)) r, .int .i64 m, .lst (.int .i64) a], .agg [.lst (.pair (.pair (.int .i64) (.int .i64)) (.pair .bool (.int .i64))) q', .lst (.pair (.int .i64) (.int .i64)) r', .int .i64 m', .lst (.int .i64) a']], [] => gd ((q.length < 1048577 ∧ r.length < 1048577 ∧ a.length < 1048577) ∧ q' = q ∧ r' = r ∧ m' = m ∧ a' = a) (.bool true, [])
  | _, _ => none
@[reducible] def E_sameExploration : Env := mkE (tb [(22, K_sameRules), (16, K_specEqualContext)]) (fun f => false) (fun r => bif r == 4 then ([2, 3, 5], [4]) else ([], []))
theorem lp_sameExploration (q : QL) (hq : q.length < 1048577) (r : List (Int × Int)) (m : Int) (a : List Int) (k : AX → S → Option (AV × List Ob)) (d : Nat) : ∀ (n i : Nat) (x : Int), q.length - i = d → i ≤ q.length → x = i → d < n →
    lpAt E_sameExploration (lp E_sameExploration 0 n) 0 (loopAt Tryz.f45 0) (mkS [2, 3, 5] [.ptr 0 0, .ptr 1 0, .int .i64 x] [some (.box 60 [.lst (.pair (.pair (.int .i64) (.int .i64)) (.pair .bool (.int .i64))) q, .lst (.pair (.int .i64) (.int .i64)) r, .int .i64 m, .lst (.int .i64) a]), some (.box 60 [.lst (.pair (.pair (.int .i64) (.int .i64)) (.pair .bool (.int .i64))) q, .lst (.pair (.int .i64) (.int .i64)) r, .int .i64 m, .lst (.int .i64) a])]) k =
      k (.exit 0) (mkS [4] [.any] []) := by
  induction d with
  | zero =>
    intro n i x hd hi hx hn
    subst hx
    rw [lpAt_def]
    conv => lhs; whnf
    refine br_f (df (by omega)) ?_
    conv => lhs; whnf
  | succ d ih =>
    intro n i x hd hi hx hn
    obtain ⟨n, rfl⟩ : ∃ m, n = m + 1 := ⟨n - 1, by omega⟩
    subst hx
    rw [lpAt_def]
    conv => lhs; whnf
    refine br_t (dt (by omega)) ?_
    conv => lhs; whnf
    refine br_t (dt2 (by omega) (by omega)) ?_
    conv => lhs; whnf
    refine br_t (dt2 (by omega) (by omega)) ?_
    conv => lhs; whnf
    refine br_t (by kernel_rfl) ?_
    conv => lhs; whnf
    refine br_f (by simp) ?_
    conv => lhs; whnf
    exact ih n (i + 1) (IntKind.i64.wrap ((i : Int) + 1)) (by omega) (by omega) (by rw [wrap64 (by omega) (by omega)]; simp) (by omega)
theorem ev_sameExploration (q : QL) (r : List (Int × Int)) (m : Int) (a : List Int) (q' : QL) (r' : List (Int × Int)) (m' : Int) (a' : List Int) (hp : (q.length < 1048577 ∧ r.length < 1048577 ∧ a.length < 1048577) ∧ q' = q ∧ r' = r ∧ m' = m ∧ a' = a) : evF E_sameExploration (q.length + 2) Tryz.f45 [.agg [.lst (.pair (.pair (.int .i64) (.int .i64)) (.pair .bool (.int .i64))) q, .lst (.pair (.int .i64) (.int .i64)) r, .int .i64 m, .lst (.int .i64) a], .agg [.lst (.pair (.pair (.int .i64) (.int .i64)) (.pair .bool (.int .i64))) q', .lst (.pair (.int .i64) (.int .i64)) r', .int .i64 m', .lst (.int .i64) a']] [] = some (.bool true, []) := by
  obtain ⟨⟨hq, hr, ha⟩, rfl, rfl, rfl, rfl⟩ := hp
  conv => lhs; whnf
  repeat ((first | with_reducible apply br_tt | with_reducible apply br_ff | with_reducible apply br_nf | with_reducible apply br_nt | with_reducible refine br_d ?_ (by kernel_rfl) | with_reducible refine br_f (by simp; done) ?_); conv => lhs; whnf)
  conv => lhs; arg 1; whnf
  refine bnd_g (by exact ⟨by omega, by omega⟩) ?_
  conv => lhs; whnf
  repeat ((first | with_reducible apply br_tt | with_reducible apply br_ff | with_reducible apply br_nf | with_reducible apply br_nt | with_reducible refine br_d ?_ (by kernel_rfl) | with_reducible refine br_f (by simp; done) ?_); conv => lhs; whnf)
  conv => lhs; arg 1; whnf
  refine bnd_g (by exact ⟨by omega, by omega⟩) ?_
  conv => lhs; whnf
  repeat ((first | with_reducible apply br_tt | with_reducible apply br_ff | with_reducible apply br_nf | with_reducible apply br_nt | with_reducible refine br_d ?_ (by kernel_rfl) | with_reducible refine br_f (by simp; done) ?_); conv => lhs; whnf)
  refine (lp_sameExploration q' hq r' m' a' _ q'.length _ 0 0 rfl (by omega) rfl (by omega)).trans ?_
  conv => lhs; whnf
theorem ok_sameExploration : FnOk Tryz.prog 45 K_sameExploration := by
  refine fn_ok (fn := Tryz.f45) (k := Tryz.f45.ntmps) (E := E_sameExploration) (facts_of (List.forall_mem_cons.2 ⟨ok_sameRules, List.forall_mem_cons.2 ⟨ok_specEqualContext, List.forall_mem_nil _⟩⟩)) (by kernel_rfl) rfl (by decide +kernel) (by decide +kernel) ?_
  intro avs hin r h
  unfold K_sameExploration at h
  split at h
  · obtain ⟨hp, rfl⟩ := gd_o h
    exact ⟨_, ev_sameExploration _ _ _ _ _ _ _ _ hp, rfl⟩
  · cases h

/- impl.SharedBy$1 -/
def K_sharedBy1 : List AV → List Ob → Option (AV × List Ob)
  | [.int .i64 x, .vptr [.int .i64 m, .lst (.int .i64) b] 0], [] => gd (b.length ≤ 1048576) (.bool (notObj m b x), [])
  | _, _ => none
@[reducible] def E_sharedBy1 : Env := mkE (tb [(58, K_isObject)]) (fun f => false) (fun r => ([], []))
theorem ev_sharedBy1 (x m : Int) (b : List Int) (hp : b.length ≤ 1048576) : evF E_sharedBy1 (1) Tryz.f101 [.int .i64 x, .vptr [.int .i64 m, .lst (.int .i64) b] 0] [] = some (.bool (notObj m b x), []) := by
  conv => lhs; whnf
  conv => lhs; arg 1; whnf
  refine bnd_g (by exact hp) ?_
  conv => lhs; whnf
  refine okB ?_
  rw [Bool.not_not]
theorem ok_sharedBy1 : FnOk Tryz.prog 101 K_sharedBy1 := by
  refine fn_ok (fn := Tryz.f101) (k := Tryz.f101.ntmps) (E := E_sharedBy1) (facts_of (List.forall_mem_cons.2 ⟨ok_isObject, List.forall_mem_nil _⟩)) (by kernel_rfl) rfl (by decide +kernel) (by decide +kernel) ?_
  intro avs hin r h
  unfold K_sharedBy1 at h
  split at h
  · obtain ⟨hp, rfl⟩ := gd_o h
    exact ⟨_, ev_sharedBy1 _ _ _ hp, rfl⟩
  · cases h

/- slices.IndexFunc[[]int,int] -/
def K_idx_sharedBy1 : List AV → List Ob → Option (AV × List Ob)
  | [.lst (.int .i64) a, .clo 101 [.vptr [.int .i64 m, .lst (.int .i64) b] 0]], [] => gd (a.length < 4611686018427387904 ∧ b.length ≤ 1048576) (.int .i64 (firstI (notObj m b) a 0), [])
  | _, _ => none
@[reducible] def E_idx_sharedBy1 : Env := mkE (tb [(101, K_sharedBy1)]) (fun f => false) (fun r => bif r == 2 then ([0, 1, 7, 8], [4]) else ([], []))
theorem lp_idx_sharedBy1 (a : List Int) (m : Int) (b : List Int) (ht : b.length ≤ 1048576) (ha : a.length < 4611686018427387904) (k : AX → S → Option (AV × List Ob)) (d : Nat) : ∀ (n i : Nat) (x : Int), a.length - i = d → i ≤ a.length → x = i → d < n →
    lpAt E_idx_sharedBy1 (lp E_idx_sharedBy1 0 n) 0 (loopAt Tryz.f139 0) (mkS [0, 1, 7, 8] [.lst (.int .i64) a, .clo 101 [.vptr [.int .i64 m, .lst (.int .i64) b] 0], .int .i64 a.length, .int .i64 x] []) k =
      if (a.drop i).any (notObj m b) then k .ret (mkS [4] [.int .i64 (firstI (notObj m b) (a.drop i) i)] []) else k (.exit 0) (mkS [4] [.any] []) := by
  induction d with
  | zero =>
    intro n i x hd hi hx hn
    subst hx
    rw [lpAt_def]
    conv => lhs; whnf
    refine br_f (df (by omega)) ?_
    conv => lhs; whnf
    rw [List.drop_of_length_le (by omega)]
    simp
  | succ d ih =>
    intro n i x hd hi hx hn
    obtain ⟨n, rfl⟩ : ∃ m, n = m + 1 := ⟨n - 1, by omega⟩
    subst hx
    rw [lpAt_def]
    conv => lhs; whnf
    refine br_t (dt (by omega)) ?_
    conv => lhs; whnf
    refine br_t (dt2 (by omega) (by omega)) ?_
    conv => lhs; whnf
    conv => lhs; arg 1; whnf
    refine bnd_g (by exact ht) ?_
    conv => lhs; whnf
    rw [getD_drop (l := a) (i := i) (d := 0) (by omega)]
    refine br_c (fun h => ?_) (fun h => ?_)
    · have h' : (notObj m b) (a.getD i 0) = true := h
      conv => lhs; whnf
      rw [if_pos (by rw [List.any_cons, h', Bool.true_or])]
      rw [firstI, h', cond_true]
    · have h' : (notObj m b) (a.getD i 0) = false := h
      conv => lhs; whnf
      rw [ih n (i + 1) _ (by omega) (by omega) (by rw [wrap64 (by omega) (by omega)]; simp) (by omega)]
      rw [List.any_cons, h', Bool.false_or, firstI, h', cond_false]
      rfl
theorem ev_idx_sharedBy1 (a : List Int) (m : Int) (b : List Int) (hp : a.length < 4611686018427387904 ∧ b.length ≤ 1048576) : evF E_idx_sharedBy1 (a.length + 2) Tryz.f139 [.lst (.int .i64) a, .clo 101 [.vptr [.int .i64 m, .lst (.int .i64) b] 0]] [] = some (.int .i64 (firstI (notObj m b) a 0), []) := by
  conv => lhs; whnf
  refine (lp_idx_sharedBy1 a m b hp.2 hp.1 _ a.length _ 0 0 rfl (by omega) rfl (by omega)).trans ?_
  simp only [List.drop_zero]
  split
  · conv => lhs; whnf
    rfl
  · rename_i he
    conv => lhs; whnf
    have : firstI (notObj m b) a 0 = -1 := firstI_none (notObj m b) a 0 (by simpa using he)
    rw [this]
theorem ok_idx_sharedBy1 : FnOk Tryz.prog 139 K_idx_sharedBy1 := by
  refine fn_ok (fn := Tryz.f139) (k := Tryz.f139.ntmps) (E := E_idx_sharedBy1) (facts_of (List.forall_mem_cons.2 ⟨ok_sharedBy1, List.forall_mem_nil _⟩)) (by kernel_rfl) rfl (by decide +kernel) (by decide +kernel) ?_
  intro avs hin r h
  unfold K_idx_sharedBy1 at h
  split at h
  · obtain ⟨hp, rfl⟩ := gd_o h
    exact ⟨_, ev_idx_sharedBy1 _ _ _ hp, rfl⟩
  · cases h

/- slices.ContainsFunc[[]int,int] -/
def K_has_sharedBy1 : List AV → List Ob → Option (AV × List Ob)
  | [.lst (.int .i64) a, .clo 101 [.vptr [.int .i64 m, .lst (.int .i64) b] 0]], [] => gd (a.length < 4611686018427387904 ∧ b.length ≤ 1048576) (.bool (a.any (notObj m b)), [])
  | _, _ => none
@[reducible] def E_has_sharedBy1 : Env := mkE (tb [(139, K_idx_sharedBy1)]) (fun f => false) (fun r => ([], []))
theorem ev_has_sharedBy1 (a : List Int) (m : Int) (b : List Int) (hp : a.length < 4611686018427387904 ∧ b.length ≤ 1048576) : evF E_has_sharedBy1 (1) Tryz.f100 [.lst (.int .i64) a, .clo 101 [.vptr [.int .i64 m, .lst (.int .i64) b] 0]] [] = some (.bool (a.any (notObj m b)), []) := by
  conv => lhs; whnf
  conv => lhs; arg 1; whnf
  refine bnd_g (by exact hp) ?_
  conv => lhs; whnf
  refine okB ?_
  exact firstI_iff (notObj m b) a 0 (by omega)
theorem ok_has_sharedBy1 : FnOk Tryz.prog 100 K_has_sharedBy1 := by
  refine fn_ok (fn := Tryz.f100) (k := Tryz.f100.ntmps) (E := E_has_sharedBy1) (facts_of (List.forall_mem_cons.2 ⟨ok_idx_sharedBy1, List.forall_mem_nil _⟩)) (by kernel_rfl) rfl (by decide +kernel) (by decide +kernel) ?_
  intro avs hin r h
  unfold K_has_sharedBy1 at h
  split at h
  · obtain ⟨hp, rfl⟩ := gd_o h
    exact ⟨_, ev_has_sharedBy1 _ _ _ hp, rfl⟩
  · cases h

/- impl.SharedBy -/
def K_implSharedBy : List AV → List Ob → Option (AV × List Ob)
  | [.agg [.int .i64 m, .lst (.int .i64) b], .lst (.int .i64) l], [] => gd (b.length ≤ 1048576 ∧ l.length ≤ 1048576) (.int .i64 (sharedF m b l), [])
  | _, _ => none
@[reducible] def E_implSharedBy : Env := mkE (tb [(80, K_implIsContext), (100, K_has_sharedBy1), (102, K_implFullSet), (98, K_implCountOf)]) (fun f => false) (fun r => bif r == 5 then ([2, 5, 19, 20, 21], [5]) else ([], []))
theorem lp_implSharedBy (m : Int) (b l : List Int) (hb : b.length ≤ 1048576) (hl : l.length ≤ 1048576) (hg : ∀ g ∈ l, 0 ≤ g ∧ g ≤ (b.length : Int) - 1) (k : AX → S → Option (AV × List Ob)) (d : Nat) : ∀ (n i : Nat) (x q : Int), l.length - i = d → i ≤ l.length → x = i → d < n →
    lpAt E_implSharedBy (lp E_implSharedBy 0 n) 0 (loopAt Tryz.f46 0) (mkS [2, 5, 19, 20, 21] [.ptr 0 0, .int .i64 q, .lst (.int .i64) l, .int .i64 l.length, .int .i64 x] [some (.box 26 [.int .i64 m, .lst (.int .i64) b])]) k =
      k (.exit 0) (mkS [5] [.int .i64 (andRows b (l.drop i) q)] []) := by
  induction d with
  | zero =>
    intro n i x q hd hi hx hn
    subst hx
    rw [lpAt_def]
    conv => lhs; whnf
    refine br_f (df (by omega)) ?_
    conv => lhs; whnf
    rw [List.drop_of_length_le (by omega), andRows]
  | succ d ih =>
    intro n i x q hd hi hx hn
    obtain ⟨n, rfl⟩ : ∃ m, n = m + 1 := ⟨n - 1, by omega⟩
    subst hx
    rw [lpAt_def]
    conv => lhs; whnf
    refine br_t (dt (by omega)) ?_
    conv => lhs; whnf
    refine br_t (dt2 (by omega) (by omega)) ?_
    conv => lhs; whnf
    have hm : l.getD i 0 ∈ l := by
      rw [List.getD_eq_getElem?_getD, List.getElem?_eq_getElem (by omega)]
      exact List.getElem_mem _
    have hq := hg _ hm
    refine br_t (dt2 hq.1 (by have := hq.2; change l.getD i 0 < _; omega)) ?_
    conv => lhs; whnf
    rw [ih n (i + 1) _ _ (by omega) (by omega) (by rw [wrap64 (by omega) (by omega)]; simp) (by omega)]
    rw [getD_drop (l := l) (i := i) (d := 0) (by omega), andRows]
    rfl
theorem ev_implSharedBy (m : Int) (b l : List Int) (hp : b.length ≤ 1048576 ∧ l.length ≤ 1048576) : evF E_implSharedBy (l.length + 2) Tryz.f46 [.agg [.int .i64 m, .lst (.int .i64) b], .lst (.int .i64) l] [] = some (.int .i64 (sharedF m b l), []) := by
  conv => lhs; whnf
  conv => lhs; arg 1; whnf
  refine bnd_g (by omega) ?_
  conv => lhs; whnf
  refine br_c (fun h => ?_) (fun h => ?_)
  · conv => lhs; whnf
    repeat ((first | with_reducible apply br_tt | with_reducible apply br_ff | with_reducible apply br_nf | with_reducible apply br_nt | with_reducible refine br_d ?_ (by kernel_rfl) | with_reducible apply br_t h | with_reducible apply br_f h); conv => lhs; whnf)
    refine okI ?_
    unfold sharedF
    rw [bnt h]
    rfl
  · conv => lhs; whnf
    repeat ((first | with_reducible apply br_tt | with_reducible apply br_ff | with_reducible apply br_nf | with_reducible apply br_nt | with_reducible refine br_d ?_ (by kernel_rfl) | with_reducible apply br_t h | with_reducible apply br_f h); conv => lhs; whnf)
    conv => lhs; arg 1; whnf
    refine bnd_g (by exact ⟨by omega, hp.1⟩) ?_
    conv => lhs; whnf
    repeat ((first | with_reducible apply br_tt | with_reducible apply br_ff | with_reducible apply br_nf | with_reducible apply br_nt | with_reducible refine br_d ?_ (by kernel_rfl) | with_reducible apply br_t h | with_reducible apply br_f h); conv => lhs; whnf)
    refine br_c (fun h2 => ?_) (fun h2 => ?_)
    · conv => lhs; whnf
      refine okI ?_
      unfold sharedF
      rw [h2]
      simp
    · conv => lhs; whnf
      conv => lhs; arg 1; whnf
      refine bnd_g (by exact True.intro) ?_
      conv => lhs; whnf
      have hg : ∀ g ∈ l, 0 ≤ g ∧ g ≤ (b.length : Int) - 1 := by
        intro g hg
        have h3 := List.any_eq_false.1 h2 g hg
        unfold notObj at h3
        simp only [bnf h, Bool.true_and, Bool.not_eq_true', decide_eq_false_iff_not, Classical.not_not] at h3
        exact h3
      refine (lp_implSharedBy m b l hp.1 hp.2 hg _ l.length _ 0 0 _ rfl (by omega) rfl (by omega)).trans ?_
      conv => lhs; whnf
      conv => lhs; arg 1; whnf
      refine bnd_g (by exact True.intro) ?_
      conv => lhs; whnf
      refine okI ?_
      unfold sharedF
      rw [bnf h, h2]
      rfl
theorem ok_implSharedBy : FnOk Tryz.prog 46 K_implSharedBy := by
  refine fn_ok (fn := Tryz.f46) (k := Tryz.f46.ntmps) (E := E_implSharedBy) (facts_of (List.forall_mem_cons.2 ⟨ok_implIsContext, List.forall_mem_cons.2 ⟨ok_has_sharedBy1, List.forall_mem_cons.2 ⟨ok_implFullSet, List.forall_mem_cons.2 ⟨ok_implCountOf, List.forall_mem_nil _⟩⟩⟩⟩)) (by kernel_rfl) rfl (by decide +kernel) (by decide +kernel) ?_
  intro avs hin r h
  unfold K_implSharedBy at h
  split at h
  · obtain ⟨hp, rfl⟩ := gd_o h
    exact ⟨_, ev_implSharedBy _ _ _ hp, rfl⟩
  · cases h

/- spec.CountOf -/
def K_specCountOf : List AV → List Ob → Option (AV × List Ob)
  | [.int .i64 s], [] => gd (True) (.int .i64 (cntF s), [])
  | _, _ => none
@[reducible] def E_specCountOf : Env := mkE (tb [(54, K_specIsSet)]) (fun f => false) (fun r => bif r == 4 then ([0, 3], [3]) else ([], []))
theorem lp_specCountOf (k : AX → S → Option (AV × List Ob)) (d : Nat) : ∀ (n s : Nat) (q : Int), s < 2 ^ d → s < 256 → d < n → 0 ≤ q → q ≤ 1000000 - d →
    lpAt E_specCountOf (lp E_specCountOf 0 n) 0 (loopAt Tryz.f104 0) (mkS [0, 3] [.int .i64 (s : Int), .int .i64 q] []) k =
      k (.exit 0) (mkS [3] [.int .i64 (q + popF d s)] []) := by
  induction d with
  | zero =>
    intro n s q hd hs hn hq hq'
    have : s = 0 := by simp at hd; omega
    subst this
    rw [lpAt_def]
    conv => lhs; whnf
    refine br_f (by rfl) ?_
    conv => lhs; whnf
    rw [popF]
    simp
  | succ d ih =>
    intro n s q hd hs hn hq hq'
    obtain ⟨n, rfl⟩ : ∃ m, n = m + 1 := ⟨n - 1, by omega⟩
    rw [lpAt_def]
    conv => lhs; whnf
    refine br_c (fun h => ?_) (fun h => ?_)
    · conv => lhs; whnf
      refine br_f (df (by omega)) ?_
      conv => lhs; whnf
      have e1 := and1_of s hs
      have e2 := half_of s
      unfold band at e1
      rw [e1, e2]
      rw [wrap64 (by omega) (by omega)]
      rw [ih n (s / 2) _ (by rw [Nat.pow_succ] at hd; omega) (by omega) (by omega) (by omega) (by omega)]
      rw [popF]
      have e3 : q + ((s % 2 : Nat) : Int) + ((popF d (s / 2) : Nat) : Int) = q + ((s % 2 + popF d (s / 2) : Nat) : Int) := by push_cast; omega
      rw [e3]
    · have h := ofn h
      have : s = 0 := by omega
      subst this
      conv => lhs; whnf
      have e0 : ∀ d, popF d 0 = 0 := by
        intro d
        induction d with
        | zero => rfl
        | succ d ih => rw [popF, ih]
      rw [e0]
      simp
theorem ev_specCountOf (s : Int) (hp : True) : evF E_specCountOf (20) Tryz.f104 [.int .i64 s] [] = some (.int .i64 (cntF s), []) := by
  conv => lhs; whnf
  conv => lhs; arg 1; whnf
  refine bnd_g (by exact True.intro) ?_
  conv => lhs; whnf
  refine br_c (fun h => ?_) (fun h => ?_)
  · conv => lhs; whnf
    unfold cntF
    rw [if_neg (by rw [bnt h]; exact Bool.false_ne_true)]
  · have hs := isSet_le (bnf h)
    obtain ⟨n, rfl⟩ : ∃ n : Nat, s = (n : Int) := ⟨s.toNat, by omega⟩
    conv => lhs; whnf
    refine (lp_specCountOf _ 8 _ n 0 (by omega) (by omega) (by decide) (by omega) (by omega)).trans ?_
    conv => lhs; whnf
    unfold cntF
    rw [if_pos (bnf h)]
    simp
theorem ok_specCountOf : FnOk Tryz.prog 104 K_specCountOf := by
  refine fn_ok (fn := Tryz.f104) (k := Tryz.f104.ntmps) (E := E_specCountOf) (facts_of (List.forall_mem_cons.2 ⟨ok_specIsSet, List.forall_mem_nil _⟩)) (by kernel_rfl) rfl (by decide +kernel) (by decide +kernel) ?_
  intro avs hin r h
  unfold K_specCountOf at h
  split at h
  · obtain ⟨hp, rfl⟩ := gd_o h
    exact ⟨_, ev_specCountOf _ hp, rfl⟩
  · cases h

/- spec.SharedBy -/
def K_specSharedBy : List AV → List Ob → Option (AV × List Ob)
  | [.agg [.int .i64 m, .lst (.int .i64) b], .lst (.int .i64) l], [] => gd (b.length ≤ 1048576 ∧ l.length ≤ 1048576) (.int .i64 (sharedF m b l), [])
  | _, _ => none
@[reducible] def E_specSharedBy : Env := mkE (tb [(53, K_specIsContext), (103, K_specFullSet), (66, K_l1In), (104, K_specCountOf)]) (fun f => false) (fun r => bif r == 5 then ([1, 2, 5, 6], [4, 5]) else ([], []))
theorem lp_specSharedBy (m : Int) (b l : List Int) (hm : isCtx m b = true) (hl : l.length ≤ 1048576) (k : AX → S → Option (AV × List Ob)) (r : Option (AV × List Ob)) (hk : ∀ q, k .ret (mkS [4, 5] [.int .i64 (-1), .int .i64 q] []) = r) (d : Nat) : ∀ (n i : Nat) (x q : Int), l.length - i = d → i ≤ l.length → x = i → d < n →
    lpAt E_specSharedBy (lp E_specSharedBy 0 n) 0 (loopAt Tryz.f47 0) (mkS [1, 2, 5, 6] [.lst (.int .i64) l, .ptr 0 0, .int .i64 q, .int .i64 x] [some (.box 26 [.int .i64 m, .lst (.int .i64) b])]) k =
      if (l.drop i).any (notObj m b) then r else k (.exit 0) (mkS [4, 5] [.any, .int .i64 (andRows b (l.drop i) q)] []) := by
  have hb := (isCtx_len hm).1
  induction d with
  | zero =>
    intro n i x q hd hi hx hn
    subst hx
    rw [lpAt_def]
    conv => lhs; whnf
    refine br_f (df (by omega)) ?_
    conv => lhs; whnf
    rw [List.drop_of_length_le (by omega), andRows]
    rfl
  | succ d ih =>
    intro n i x q hd hi hx hn
    obtain ⟨n, rfl⟩ : ∃ m, n = m + 1 := ⟨n - 1, by omega⟩
    subst hx
    rw [lpAt_def]
    conv => lhs; whnf
    refine br_t (dt (by omega)) ?_
    conv => lhs; whnf
    refine br_t (dt2 (by omega) (by omega)) ?_
    conv => lhs; whnf
    rw [wrap64 (n := (b.length : Int) - 1) (by omega) (by omega)]
    conv => lhs; arg 1; whnf
    refine bnd_g (by exact True.intro) ?_
    conv => lhs; whnf
    refine br_t (by kernel_rfl) ?_
    conv => lhs; whnf
    rw [getD_drop (l := l) (i := i) (d := 0) (by omega)]
    refine br_c (fun h => ?_) (fun h => ?_)
    · have h' : notObj m b (l.getD i 0) = true := by
        unfold notObj
        rw [hm, Bool.true_and]
        exact h
      conv => lhs; whnf
      rw [if_pos (by rw [List.any_cons, h', Bool.true_or])]
      exact hk _
    · have h' : notObj m b (l.getD i 0) = false := by
        unfold notObj
        rw [hm, Bool.true_and]
        exact h
      have h2 : 0 ≤ l.getD i 0 ∧ l.getD i 0 ≤ (b.length : Int) - 1 := ofnf h
      conv => lhs; whnf
      refine br_t (dt2 (by omega) (by omega)) ?_
      conv => lhs; whnf
      refine br_t (dt2 h2.1 (by have := h2.2; change l.getD i 0 < _; omega)) ?_
      conv => lhs; whnf
      refine br_t (by kernel_rfl) ?_
      conv => lhs; whnf
      rw [ih n (i + 1) _ _ (by omega) (by omega) (by rw [wrap64 (by omega) (by omega)]; simp) (by omega)]
      rw [List.any_cons, h', Bool.false_or, andRows]
      rfl
theorem ev_specSharedBy (m : Int) (b l : List Int) (hp : b.length ≤ 1048576 ∧ l.length ≤ 1048576) : evF E_specSharedBy (l.length + 2) Tryz.f47 [.agg [.int .i64 m, .lst (.int .i64) b], .lst (.int .i64) l] [] = some (.int .i64 (sharedF m b l), []) := by
  conv => lhs; whnf
  conv => lhs; arg 1; whnf
  refine bnd_g (by omega) ?_
  conv => lhs; whnf
  refine br_c (fun h => ?_) (fun h => ?_)
  · conv => lhs; whnf
    unfold sharedF
    rw [bnt h]
    rfl
  · conv => lhs; whnf
    conv => lhs; arg 1; whnf
    refine bnd_g (by exact True.intro) ?_
    conv => lhs; whnf
    refine (lp_specSharedBy m b l (bnf h) hp.2 _ _ (fun _ => rfl) l.length _ 0 0 _ rfl (by omega) rfl (by omega)).trans ?_
    simp only [List.drop_zero]
    split
    · rename_i h2
      conv => lhs; whnf
      unfold sharedF
      rw [h2]
      simp
    · rename_i h2
      conv => lhs; whnf
      conv => lhs; arg 1; whnf
      refine bnd_g (by exact True.intro) ?_
      conv => lhs; whnf
      refine okI ?_
      unfold sharedF
      rw [Bool.not_eq_true] at h2
      rw [bnf h, h2]
      rfl
theorem ok_specSharedBy : FnOk Tryz.prog 47 K_specSharedBy := by
  refine fn_ok (fn := Tryz.f47) (k := Tryz.f47.ntmps) (E := E_specSharedBy) (facts_of (List.forall_mem_cons.2 ⟨ok_specIsContext, List.forall_mem_cons.2 ⟨ok_specFullSet, List.forall_mem_cons.2 ⟨ok_l1In, List.forall_mem_cons.2 ⟨ok_specCountOf, List.forall_mem_nil _⟩⟩⟩⟩)) (by kernel_rfl) rfl (by decide +kernel) (by decide +kernel) ?_
  intro avs hin r h
  unfold K_specSharedBy at h
  split at h
  · obtain ⟨hp, rfl⟩ := gd_o h
    exact ⟨_, ev_specSharedBy _ _ _ hp, rfl⟩
  · cases h

/- impl.NearestObjects -/
def K_implNearestObjects : List AV → List Ob → Option (AV × List Ob)
  | [.agg [.int .i64 m, .lst (.int .i64) a], .int .i64 g], [] => gd (a.length ≤ 1048576) (.own 0, [.row 3 (.int .i64) (nearF m a g)])
  | _, _ => none
@[reducible] def E_implNearestObjects : Env := mkE (tb [(58, K_isObject), (98, K_implCountOf)]) (fun f => false) (fun r => bif r == 5 then ([1, 2, 5, 6, 16, 17, 18], [1, 2, 5, 6, 16, 17, 18]) else ([], []))
theorem lp_implNearestObjects (m : Int) (a : List Int) (g : Int) (hc : isCtx m a = true) (hg : 0 ≤ g ∧ g ≤ (a.length : Int) - 1) (k : AX → S → Option (AV × List Ob)) (d : Nat) : ∀ (n i : Nat) (x q : Int) (zs : List Int), a.length - i = d → i ≤ a.length → x = i → d < n → zs.length ≤ i →
    ∃ q', lpAt E_implNearestObjects (lp E_implNearestObjects 0 n) 0 (loopAt Tryz.f43 0) (mkS [1, 2, 5, 6, 16, 17, 18] [.int .i64 g, .ptr 0 0, .own 1, .int .i64 q, .lst (.int .i64) a, .int .i64 (a.length : Int), .int .i64 x] [some (.box 26 [.int .i64 m, .lst (.int .i64) a]), some (.row 3 (.int .i64) zs)]) k =
      k (.exit 0) (mkS [1, 2, 5, 6, 16, 17, 18] [.int .i64 g, .ptr 0 0, .own 1, .int .i64 q', .lst (.int .i64) a, .int .i64 (a.length : Int), .int .i64 (a.length : Int)] [some (.box 26 [.int .i64 m, .lst (.int .i64) a]), some (.row 3 (.int .i64) (nearL a g d i q zs))]) := by
  have hl := (isCtx_len hc).1
  induction d with
  | zero =>
    intro n i x q zs hd hi hx hn hz
    subst hx
    refine ⟨q, ?_⟩
    rw [lpAt_def]
    conv => lhs; whnf
    refine br_f (df (by omega)) ?_
    conv => lhs; whnf
    have : i = a.length := by omega
    rw [nearL, this]
  | succ d ih =>
    intro n i x q zs hd hi hx hn hz
    obtain ⟨n, rfl⟩ : ∃ m, n = m + 1 := ⟨n - 1, by omega⟩
    subst hx
    by_cases h1 : (i : Int) = g
    · obtain ⟨q', e⟩ := ih n (i + 1) _ q zs (by omega) (by omega) rfl (by omega) (by omega)
      refine ⟨q', ?_⟩
      have hb : ((i : Int) == g) = true := by rw [beq_iff_eq]; exact h1
      rw [lpAt_def]
      conv => lhs; whnf
      refine br_t (dt (by omega)) ?_
      conv => lhs; whnf
      refine br_t (dt2 (by omega) (by omega)) ?_
      conv => lhs; whnf
      refine br_t (dt2 hg.1 (by have := hg.2; omega)) ?_
      conv => lhs; whnf
      conv => lhs; arg 1; whnf
      refine bnd_g (by exact True.intro) ?_
      conv => lhs; whnf
      repeat ((first | with_reducible apply br_tt | with_reducible apply br_ff | with_reducible apply br_nf | with_reducible apply br_nt | with_reducible refine br_d ?_ (by kernel_rfl) | with_reducible apply br_t hb | with_reducible apply br_f hb); conv => lhs; whnf)
      rw [nearL, if_pos h1]
      rw [wrap64 (n := (i : Int) + 1) (by omega) (by omega)]
      exact e
    · have hb : ((i : Int) == g) = false := by rw [beq_eq_false_iff_ne]; exact h1
      by_cases h2 : q < nearN a g i
      · obtain ⟨q', e⟩ := ih n (i + 1) _ (nearN a g i) [(i : Int)] (by omega) (by omega) rfl (by omega) (by simp)
        refine ⟨q', ?_⟩
        rw [lpAt_def]
        conv => lhs; whnf
        refine br_t (dt (by omega)) ?_
        conv => lhs; whnf
        refine br_t (dt2 (by omega) (by omega)) ?_
        conv => lhs; whnf
        refine br_t (dt2 hg.1 (by have := hg.2; omega)) ?_
        conv => lhs; whnf
        conv => lhs; arg 1; whnf
        refine bnd_g (by exact True.intro) ?_
        conv => lhs; whnf
        repeat ((first | with_reducible apply br_tt | with_reducible apply br_ff | with_reducible apply br_nf | with_reducible apply br_nt | with_reducible refine br_d ?_ (by kernel_rfl) | with_reducible apply br_t hb | with_reducible apply br_f hb); conv => lhs; whnf)
        refine br_f (df (by change ¬ (nearN a g i < q); omega)) ?_
        conv => lhs; whnf
        refine br_t (dt h2) ?_
        conv => lhs; whnf
        refine br_t (dt (by simp [room])) ?_
        conv => lhs; whnf
        rw [nearL, if_neg h1, if_pos h2]
        rw [wrap64 (n := (i : Int) + 1) (by omega) (by omega)]
        exact e
      · by_cases h3 : nearN a g i = q
        · obtain ⟨q', e⟩ := ih n (i + 1) _ q (zs ++ [(i : Int)]) (by omega) (by omega) rfl (by omega) (by simp; omega)
          refine ⟨q', ?_⟩
          rw [lpAt_def]
          conv => lhs; whnf
          refine br_t (dt (by omega)) ?_
          conv => lhs; whnf
          refine br_t (dt2 (by omega) (by omega)) ?_
          conv => lhs; whnf
          refine br_t (dt2 hg.1 (by have := hg.2; omega)) ?_
          conv => lhs; whnf
          conv => lhs; arg 1; whnf
          refine bnd_g (by exact True.intro) ?_
          conv => lhs; whnf
          repeat ((first | with_reducible apply br_tt | with_reducible apply br_ff | with_reducible apply br_nf | with_reducible apply br_nt | with_reducible refine br_d ?_ (by kernel_rfl) | with_reducible apply br_t hb | with_reducible apply br_f hb); conv => lhs; whnf)
          refine br_f (df (by change ¬ (nearN a g i < q); omega)) ?_
          conv => lhs; whnf
          refine br_f (df h2) ?_
          conv => lhs; whnf
          refine br_t (dt (by simp [room]; omega)) ?_
          conv => lhs; whnf
          rw [nearL, if_neg h1, if_neg h2, if_pos h3]
          rw [wrap64 (n := (i : Int) + 1) (by omega) (by omega)]
          exact e
        · obtain ⟨q', e⟩ := ih n (i + 1) _ q zs (by omega) (by omega) rfl (by omega) (by omega)
          refine ⟨q', ?_⟩
          rw [lpAt_def]
          conv => lhs; whnf
          refine br_t (dt (by omega)) ?_
          conv => lhs; whnf
          refine br_t (dt2 (by omega) (by omega)) ?_
          conv => lhs; whnf
          refine br_t (dt2 hg.1 (by have := hg.2; omega)) ?_
          conv => lhs; whnf
          conv => lhs; arg 1; whnf
          refine bnd_g (by exact True.intro) ?_
          conv => lhs; whnf
          repeat ((first | with_reducible apply br_tt | with_reducible apply br_ff | with_reducible apply br_nf | with_reducible apply br_nt | with_reducible refine br_d ?_ (by kernel_rfl) | with_reducible apply br_t hb | with_reducible apply br_f hb); conv => lhs; whnf)
          refine br_t (dt (by change nearN a g i < q; omega)) ?_
          conv => lhs; whnf
          rw [nearL, if_neg h1, if_neg h2, if_neg h3]
          rw [wrap64 (n := (i : Int) + 1) (by omega) (by omega)]
          exact e
theorem ev_implNearestObjects (m : Int) (a : List Int) (g : Int) (hp : a.length ≤ 1048576) : evF E_implNearestObjects (20) Tryz.f43 [.agg [.int .i64 m, .lst (.int .i64) a], .int .i64 g] [] = some (.own 0, [.row 3 (.int .i64) (nearF m a g)]) := by
  conv => lhs; whnf
  conv => lhs; arg 1; whnf
  refine bnd_g (by exact hp) ?_
  conv => lhs; whnf
  refine br_c (fun h => ?_) (fun h => ?_)
  · have hf : nearF m a g = [] := by
      unfold nearF
      rw [bnf (bnt h)]
      rfl
    rw [hf]
    conv => lhs; whnf
  · have h := bnt (bnf h)
    have hf : nearF m a g = nearL a g a.length 0 (-1) [] := by
      unfold nearF
      rw [h]
      rfl
    rw [hf]
    unfold notObj at h
    have h := Bool.and_eq_true_iff.1 (bnf h)
    have hl := (isCtx_len h.1).1
    conv => lhs; whnf
    obtain ⟨q', e⟩ := lp_implNearestObjects m a g h.1 (ofd h.2) _ a.length _ 0 0 (-1) [] rfl (by omega) rfl (by change _ < 19; omega) (by simp)
    refine e.trans ?_
    conv => lhs; whnf
theorem ok_implNearestObjects : FnOk Tryz.prog 43 K_implNearestObjects := by
  refine fn_ok (fn := Tryz.f43) (k := Tryz.f43.ntmps) (E := E_implNearestObjects) (facts_of (List.forall_mem_cons.2 ⟨ok_isObject, List.forall_mem_cons.2 ⟨ok_implCountOf, List.forall_mem_nil _⟩⟩)) (by kernel_rfl) rfl (by decide +kernel) (by decide +kernel) ?_
  intro avs hin r h
  unfold K_implNearestObjects at h
  split at h
  · obtain ⟨hp, rfl⟩ := gd_o h
    exact ⟨_, ev_implNearestObjects _ _ _ hp, rfl⟩
  · cases h

/- spec.NearestObjects -/
def K_specNearestObjects : List AV → List Ob → Option (AV × List Ob)
  | [.agg [.int .i64 m, .lst (.int .i64) a], .int .i64 g], [] => gd (a.length ≤ 1048576) (.own 0, [.row 3 (.int .i64) (nearF m a g)])
  | _, _ => none
@[reducible] def E_specNearestObjects : Env := mkE (tb [(53, K_specIsContext), (66, K_l1In), (104, K_specCountOf)]) (fun f => false) (fun r => bif r == 4 then ([1, 2, 5, 6, 7], [1, 2, 5, 6, 7]) else ([], []))
theorem lp_specNearestObjects (m : Int) (a : List Int) (g : Int) (hc : isCtx m a = true) (hg : 0 ≤ g ∧ g ≤ (a.length : Int) - 1) (k : AX → S → Option (AV × List Ob)) (d : Nat) : ∀ (n i : Nat) (x q : Int) (zs : List Int), a.length - i = d → i ≤ a.length → x = i → d < n → zs.length ≤ i →
    ∃ q', lpAt E_specNearestObjects (lp E_specNearestObjects 0 n) 0 (loopAt Tryz.f48 0) (mkS [1, 2, 5, 6, 7] [.int .i64 g, .ptr 0 0, .own 1, .int .i64 q, .int .i64 x] [some (.box 26 [.int .i64 m, .lst (.int .i64) a]), some (.row 3 (.int .i64) zs)]) k =
      k (.exit 0) (mkS [1, 2, 5, 6, 7] [.int .i64 g, .ptr 0 0, .own 1, .int .i64 q', .int .i64 (a.length : Int)] [some (.box 26 [.int .i64 m, .lst (.int .i64) a]), some (.row 3 (.int .i64) (nearL a g d i q zs))]) := by
  have hl := (isCtx_len hc).1
  induction d with
  | zero =>
    intro n i x q zs hd hi hx hn hz
    subst hx
    refine ⟨q, ?_⟩
    have hf : decide ((i : Int) < (a.length : Int)) = false := df (by omega)
    rw [lpAt_def]
    conv => lhs; whnf
    repeat ((first | with_reducible apply br_tt | with_reducible apply br_ff | with_reducible apply br_nf | with_reducible apply br_nt | with_reducible refine br_d ?_ (by kernel_rfl) | with_reducible apply br_t hf | with_reducible apply br_f hf); conv => lhs; whnf)
    have : i = a.length := by omega
    rw [nearL, this]
  | succ d ih =>
    intro n i x q zs hd hi hx hn hz
    obtain ⟨n, rfl⟩ : ∃ m, n = m + 1 := ⟨n - 1, by omega⟩
    subst hx
    have hf : decide ((i : Int) < (a.length : Int)) = true := dt (by omega)
    have hg' : decide (0 ≤ g ∧ g ≤ (a.length : Int) - 1) = true := dt hg
    have hw : IntKind.i64.wrap ((a.length : Int) - 1) = (a.length : Int) - 1 := wrap64 (by omega) (by omega)
    have hg2 : decide (0 ≤ g ∧ g ≤ IntKind.i64.wrap ((a.length : Int) - 1)) = true := dt (by rw [hw]; exact hg)
    by_cases h1 : (i : Int) = g
    · obtain ⟨q', e⟩ := ih n (i + 1) _ q zs (by omega) (by omega) rfl (by omega) (by omega)
      refine ⟨q', ?_⟩
      rw [lpAt_def]
      conv => lhs; whnf
      repeat ((first | with_reducible apply br_tt | with_reducible apply br_ff | with_reducible apply br_nf | with_reducible apply br_nt | with_reducible refine br_d ?_ (by kernel_rfl) | with_reducible apply br_t hf | with_reducible apply br_f hf); conv => lhs; whnf)
      conv => lhs; arg 1; whnf
      refine bnd_g (by omega) ?_
      conv => lhs; whnf
      repeat ((first | with_reducible apply br_tt | with_reducible apply br_ff | with_reducible apply br_nf | with_reducible apply br_nt | with_reducible refine br_d ?_ (by kernel_rfl) | with_reducible apply br_t hf | with_reducible apply br_f hf | with_reducible apply br_t hc | with_reducible apply br_f hc); conv => lhs; whnf)
      conv => lhs; arg 1; whnf
      refine bnd_g (by exact True.intro) ?_
      conv => lhs; whnf
      repeat ((first | with_reducible apply br_tt | with_reducible apply br_ff | with_reducible apply br_nf | with_reducible apply br_nt | with_reducible refine br_d ?_ (by kernel_rfl) | with_reducible apply br_t hf | with_reducible apply br_f hf | with_reducible apply br_t hc | with_reducible apply br_f hc | with_reducible apply br_t hg2 | with_reducible apply br_f hg2); conv => lhs; whnf)
      refine br_t (by (rw [beq_iff_eq]; exact h1)) ?_
      conv => lhs; whnf
      rw [nearL, if_pos h1]
      rw [wrap64 (n := (i : Int) + 1) (by omega) (by omega)]
      exact e
    · by_cases h2 : q < nearN a g i
      · obtain ⟨q', e⟩ := ih n (i + 1) _ (nearN a g i) [(i : Int)] (by omega) (by omega) rfl (by omega) (by simp)
        refine ⟨q', ?_⟩
        rw [lpAt_def]
        conv => lhs; whnf
        repeat ((first | with_reducible apply br_tt | with_reducible apply br_ff | with_reducible apply br_nf | with_reducible apply br_nt | with_reducible refine br_d ?_ (by kernel_rfl) | with_reducible apply br_t hf | with_reducible apply br_f hf); conv => lhs; whnf)
        conv => lhs; arg 1; whnf
        refine bnd_g (by omega) ?_
        conv => lhs; whnf
        repeat ((first | with_reducible apply br_tt | with_reducible apply br_ff | with_reducible apply br_nf | with_reducible apply br_nt | with_reducible refine br_d ?_ (by kernel_rfl) | with_reducible apply br_t hf | with_reducible apply br_f hf | with_reducible apply br_t hc | with_reducible apply br_f hc); conv => lhs; whnf)
        conv => lhs; arg 1; whnf
        refine bnd_g (by exact True.intro) ?_
        conv => lhs; whnf
        repeat ((first | with_reducible apply br_tt | with_reducible apply br_ff | with_reducible apply br_nf | with_reducible apply br_nt | with_reducible refine br_d ?_ (by kernel_rfl) | with_reducible apply br_t hf | with_reducible apply br_f hf | with_reducible apply br_t hc | with_reducible apply br_f hc | with_reducible apply br_t hg2 | with_reducible apply br_f hg2); conv => lhs; whnf)
        refine br_f (by (rw [beq_eq_false_iff_ne]; exact h1)) ?_
        conv => lhs; whnf
        refine br_t (dt2 (by omega) (by omega)) ?_
        conv => lhs; whnf
        refine br_t (dt2 hg.1 (by have := hg.2; omega)) ?_
        conv => lhs; whnf
        conv => lhs; arg 1; whnf
        refine bnd_g (by exact True.intro) ?_
        conv => lhs; whnf
        repeat ((first | with_reducible apply br_tt | with_reducible apply br_ff | with_reducible apply br_nf | with_reducible apply br_nt | with_reducible refine br_d ?_ (by kernel_rfl)); conv => lhs; whnf)
        refine br_t (dt h2) ?_
        conv => lhs; whnf
        refine br_t (by rw [beq_iff_eq]) ?_
        conv => lhs; whnf
        refine br_t (dt (by simp [room])) ?_
        conv => lhs; whnf
        rw [nearL, if_neg h1, if_pos h2]
        rw [wrap64 (n := (i : Int) + 1) (by omega) (by omega)]
        exact e
      · by_cases h3 : nearN a g i = q
        · obtain ⟨q', e⟩ := ih n (i + 1) _ q (zs ++ [(i : Int)]) (by omega) (by omega) rfl (by omega) (by simp; omega)
          refine ⟨q', ?_⟩
          rw [lpAt_def]
          conv => lhs; whnf
          repeat ((first | with_reducible apply br_tt | with_reducible apply br_ff | with_reducible apply br_nf | with_reducible apply br_nt | with_reducible refine br_d ?_ (by kernel_rfl) | with_reducible apply br_t hf | with_reducible apply br_f hf); conv => lhs; whnf)
          conv => lhs; arg 1; whnf
          refine bnd_g (by omega) ?_
          conv => lhs; whnf
          repeat ((first | with_reducible apply br_tt | with_reducible apply br_ff | with_reducible apply br_nf | with_reducible apply br_nt | with_reducible refine br_d ?_ (by kernel_rfl) | with_reducible apply br_t hf | with_reducible apply br_f hf | with_reducible apply br_t hc | with_reducible apply br_f hc); conv => lhs; whnf)
          conv => lhs; arg 1; whnf
          refine bnd_g (by exact True.intro) ?_
          conv => lhs; whnf
          repeat ((first | with_reducible apply br_tt | with_reducible apply br_ff | with_reducible apply br_nf | with_reducible apply br_nt | with_reducible refine br_d ?_ (by kernel_rfl) | with_reducible apply br_t hf | with_reducible apply br_f hf | with_reducible apply br_t hc | with_reducible apply br_f hc | with_reducible apply br_t hg2 | with_reducible apply br_f hg2); conv => lhs; whnf)
          refine br_f (by (rw [beq_eq_false_iff_ne]; exact h1)) ?_
          conv => lhs; whnf
          refine br_t (dt2 (by omega) (by omega)) ?_
          conv => lhs; whnf
          refine br_t (dt2 hg.1 (by have := hg.2; omega)) ?_
          conv => lhs; whnf
          conv => lhs; arg 1; whnf
          refine bnd_g (by exact True.intro) ?_
          conv => lhs; whnf
          repeat ((first | with_reducible apply br_tt | with_reducible apply br_ff | with_reducible apply br_nf | with_reducible apply br_nt | with_reducible refine br_d ?_ (by kernel_rfl)); conv => lhs; whnf)
          refine br_f (df h2) ?_
          conv => lhs; whnf
          refine br_t (by rw [beq_iff_eq]; exact h3) ?_
          conv => lhs; whnf
          refine br_t (dt (by simp [room]; omega)) ?_
          conv => lhs; whnf
          rw [nearL, if_neg h1, if_neg h2, if_pos h3]
          rw [wrap64 (n := (i : Int) + 1) (by omega) (by omega)]
          exact e
        · obtain ⟨q', e⟩ := ih n (i + 1) _ q zs (by omega) (by omega) rfl (by omega) (by omega)
          refine ⟨q', ?_⟩
          rw [lpAt_def]
          conv => lhs; whnf
          repeat ((first | with_reducible apply br_tt | with_reducible apply br_ff | with_reducible apply br_nf | with_reducible apply br_nt | with_reducible refine br_d ?_ (by kernel_rfl) | with_reducible apply br_t hf | with_reducible apply br_f hf); conv => lhs; whnf)
          conv => lhs; arg 1; whnf
          refine bnd_g (by omega) ?_
          conv => lhs; whnf
          repeat ((first | with_reducible apply br_tt | with_reducible apply br_ff | with_reducible apply br_nf | with_reducible apply br_nt | with_reducible refine br_d ?_ (by kernel_rfl) | with_reducible apply br_t hf | with_reducible apply br_f hf | with_reducible apply br_t hc | with_reducible apply br_f hc); conv => lhs; whnf)
          conv => lhs; arg 1; whnf
          refine bnd_g (by exact True.intro) ?_
          conv => lhs; whnf
          repeat ((first | with_reducible apply br_tt | with_reducible apply br_ff | with_reducible apply br_nf | with_reducible apply br_nt | with_reducible refine br_d ?_ (by kernel_rfl) | with_reducible apply br_t hf | with_reducible apply br_f hf | with_reducible apply br_t hc | with_reducible apply br_f hc | with_reducible apply br_t hg2 | with_reducible apply br_f hg2); conv => lhs; whnf)
          refine br_f (by (rw [beq_eq_false_iff_ne]; exact h1)) ?_
          conv => lhs; whnf
          refine br_t (dt2 (by omega) (by omega)) ?_
          conv => lhs; whnf
          refine br_t (dt2 hg.1 (by have := hg.2; omega)) ?_
          conv => lhs; whnf
          conv => lhs; arg 1; whnf
          refine bnd_g (by exact True.intro) ?_
          conv => lhs; whnf
          repeat ((first | with_reducible apply br_tt | with_reducible apply br_ff | with_reducible apply br_nf | with_reducible apply br_nt | with_reducible refine br_d ?_ (by kernel_rfl)); conv => lhs; whnf)
          refine br_f (df h2) ?_
          conv => lhs; whnf
          refine br_f (by rw [beq_eq_false_iff_ne]; exact h3) ?_
          conv => lhs; whnf
          rw [nearL, if_neg h1, if_neg h2, if_neg h3]
          rw [wrap64 (n := (i : Int) + 1) (by omega) (by omega)]
          exact e
theorem ev_specNearestObjects (m : Int) (a : List Int) (g : Int) (hp : a.length ≤ 1048576) : evF E_specNearestObjects (20) Tryz.f48 [.agg [.int .i64 m, .lst (.int .i64) a], .int .i64 g] [] = some (.own 0, [.row 3 (.int .i64) (nearF m a g)]) := by
  by_cases h : notObj m a g = true
  · have hf : nearF m a g = [] := by
      unfold nearF
      rw [h]
      rfl
    rw [hf]
    conv => lhs; whnf
    rw [lpAt_def]
    conv => lhs; whnf
    unfold notObj at h
    have h := bnt h
    refine br_c (fun h1 => ?_) (fun h1 => ?_)
    · conv => lhs; whnf
      repeat ((first | with_reducible apply br_tt | with_reducible apply br_ff | with_reducible apply br_nf | with_reducible apply br_nt | with_reducible refine br_d ?_ (by kernel_rfl) | with_reducible apply br_t h1 | with_reducible apply br_f h1); conv => lhs; whnf)
      conv => lhs; arg 1; whnf
      refine bnd_g (by omega) ?_
      conv => lhs; whnf
      repeat ((first | with_reducible apply br_tt | with_reducible apply br_ff | with_reducible apply br_nf | with_reducible apply br_nt | with_reducible refine br_d ?_ (by kernel_rfl) | with_reducible apply br_t h1 | with_reducible apply br_f h1); conv => lhs; whnf)
      refine br_c (fun h2 => ?_) (fun h2 => ?_)
      · conv => lhs; whnf
        repeat ((first | with_reducible apply br_tt | with_reducible apply br_ff | with_reducible apply br_nf | with_reducible apply br_nt | with_reducible refine br_d ?_ (by kernel_rfl) | with_reducible apply br_t h2 | with_reducible apply br_f h2); conv => lhs; whnf)
        rw [h2, Bool.true_and] at h
        have hw : IntKind.i64.wrap ((a.length : Int) - 1) = (a.length : Int) - 1 := wrap64 (by omega) (by omega)
        have hg2 : decide (0 ≤ g ∧ g ≤ IntKind.i64.wrap ((a.length : Int) - 1)) = false := df (by rw [hw]; exact ofn h)
        conv => lhs; arg 1; whnf
        refine bnd_g (by exact True.intro) ?_
        conv => lhs; whnf
        repeat ((first | with_reducible apply br_tt | with_reducible apply br_ff | with_reducible apply br_nf | with_reducible apply br_nt | with_reducible refine br_d ?_ (by kernel_rfl) | with_reducible apply br_t h2 | with_reducible apply br_f h2 | with_reducible apply br_t hg2 | with_reducible apply br_f hg2); conv => lhs; whnf)
      · conv => lhs; whnf
        repeat ((first | with_reducible apply br_tt | with_reducible apply br_ff | with_reducible apply br_nf | with_reducible apply br_nt | with_reducible refine br_d ?_ (by kernel_rfl) | with_reducible apply br_t h2 | with_reducible apply br_f h2); conv => lhs; whnf)
    · conv => lhs; whnf
      repeat ((first | with_reducible apply br_tt | with_reducible apply br_ff | with_reducible apply br_nf | with_reducible apply br_nt | with_reducible refine br_d ?_ (by kernel_rfl) | with_reducible apply br_t h1 | with_reducible apply br_f h1); conv => lhs; whnf)
  · rw [Bool.not_eq_true] at h
    have hf : nearF m a g = nearL a g a.length 0 (-1) [] := by
      unfold nearF
      rw [h]
      rfl
    rw [hf]
    unfold notObj at h
    have h := Bool.and_eq_true_iff.1 (bnf h)
    have hl := (isCtx_len h.1).1
    conv => lhs; whnf
    obtain ⟨q', e⟩ := lp_specNearestObjects m a g h.1 (ofd h.2) _ a.length _ 0 0 (-1) [] rfl (by omega) rfl (by change _ < 19; omega) (by simp)
    refine e.trans ?_
    conv => lhs; whnf
theorem ok_specNearestObjects : FnOk Tryz.prog 48 K_specNearestObjects := by
  refine fn_ok (fn := Tryz.f48) (k := Tryz.f48.ntmps) (E := E_specNearestObjects) (facts_of (List.forall_mem_cons.2 ⟨ok_specIsContext, List.forall_mem_cons.2 ⟨ok_l1In, List.forall_mem_cons.2 ⟨ok_specCountOf, List.forall_mem_nil _⟩⟩⟩)) (by kernel_rfl) rfl (by decide +kernel) (by decide +kernel) ?_
  intro avs hin r h
  unfold K_specNearestObjects at h
  split at h
  · obtain ⟨hp, rfl⟩ := gd_o h
    exact ⟨_, ev_specNearestObjects _ _ _ hp, rfl⟩
  · cases h

end Go.Sym
