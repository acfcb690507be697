/- Functions of the program, each told as a plain equation. -/
import Derived.Test.YtonbmmjagdbgaaaDoorSymN1
namespace Go.Sym
open Go.Proofs
set_option linter.unusedVariables false
set_option linter.unusedSimpArgs false
set_option maxRecDepth 100000
set_option maxHeartbeats 4000000

/- impl.parseSets -/
def K_implParseSets : List AV → List Ob → Option (AV × List Ob)
  | [.str t], [] => gd (t.size ≤ 1000) (.tup [.own 0, .bool (pzI t).2], [.row 3 (.int .i64) (pzI t).1])
  | _, _ => none
@[reducible] def E_implParseSets : Env := mkE (tb [(38, K_splitX), (39, K_implParseSet)]) (fun f => false) (fun r => bif r == 5 then ([4, 13, 14, 15], [2, 3, 4]) else ([], []))
theorem lp_implParseSets (ws : List ByteArray) (hw : ws.length ≤ 2000) (k : AX → S → Option (AV × List Ob)) (r : Option (AV × List Ob)) (hk : ∀ zs : List Int, k .ret (mkS [2, 3, 4] [.own 0, .bool false, .own 1] [some (.row 3 (.int .i64) []), some (.row 3 (.int .i64) zs)]) = r) (d : Nat) : ∀ (n i : Nat) (x : Int) (zs : List Int), ws.length - i = d → i ≤ ws.length → x = i → d < n → zs.length ≤ i →
    lpAt E_implParseSets (lp E_implParseSets 0 n) 0 (loopAt Tryd.f24 0) (mkS [4, 13, 14, 15] [.own 0, .own 1, .int .i64 (ws.length : Int), .int .i64 x] [some (.row 3 (.int .i64) zs), some (.row 9 .str ws)]) k =
      match pzL (ws.drop i) zs with
      | some l => k (.exit 0) (mkS [2, 3, 4] [.any, .any, .own 0] [some (.row 3 (.int .i64) l)])
      | none => r := by
  induction d with
  | zero =>
    intro n i x zs hd hi hx hn hz
    subst hx
    rw [lpAt_def]
    conv => lhs; whnf
    refine br_f (df (by omega)) ?_
    conv => lhs; whnf
    rw [List.drop_of_length_le (by omega)]
    rfl
  | succ d ih =>
    intro n i x zs hd hi hx hn hz
    obtain ⟨n, rfl⟩ : ∃ m, n = m + 1 := ⟨n - 1, by omega⟩
    subst hx
    rw [lpAt_def]
    conv => lhs; whnf
    refine br_t (dt (by omega)) ?_
    conv => lhs; whnf
    refine br_t (dt2 (by omega) (by omega)) ?_
    conv => lhs; whnf
    refine br_t (dt (by omega)) ?_
    conv => lhs; whnf
    conv => lhs; arg 1; whnf
    refine bnd_g (by exact True.intro) ?_
    conv => lhs; whnf
    refine br_c (fun h => ?_) (fun h => ?_)
    · have h' : (psI (ws.getD i ByteArray.empty)).2 = false := bnt h
      have e : pzL (ws.drop i) zs = none := by rw [getD_drop (l := ws) (i := i) (d := ByteArray.empty) (by omega), pzL, h', cond_false]
      conv => rhs; rw [e]
      conv => lhs; whnf
      exact hk zs
    · have h' : (psI (ws.getD i ByteArray.empty)).2 = true := bnf h
      have e : pzL (ws.drop i) zs = pzL (ws.drop (i + 1)) (zs ++ [(psI (ws.getD i ByteArray.empty)).1]) := by rw [getD_drop (l := ws) (i := i) (d := ByteArray.empty) (by omega), pzL, h', cond_true]
      conv => rhs; rw [e]
      conv => lhs; whnf
      refine br_t (dt (by simp [room]; omega)) ?_
      conv => lhs; whnf
      exact ih n (i + 1) (IntKind.i64.wrap ((i : Int) + 1)) _ (by omega) (by omega) (by rw [wrap64 (by omega) (by omega)]; simp) (by omega) (by simp; omega)
theorem ev_implParseSets (t : ByteArray) (hp : t.size ≤ 1000) : evF E_implParseSets (2100) Tryd.f24 [.str t] [] = some (.tup [.own 0, .bool (pzI t).2], [.row 3 (.int .i64) (pzI t).1]) := by
  conv => lhs; whnf
  refine br_c (fun h => ?_) (fun h => ?_)
  · have h' : (t.toList == noneB.toList) = true := h
    have e : pzI t = ([], true) := by unfold pzI; rw [h']; rfl
    conv => rhs; rw [e]
    conv => lhs; whnf
  · have h' : (t.toList == noneB.toList) = false := h
    have hc := Lib.countB_le (⟨#[44]⟩ : ByteArray) (by decide) t.size t (Nat.le_refl _)
    have hl : (splitsB t ⟨#[44]⟩).length = Lib.countB t ⟨#[44]⟩ + 1 := Lib.splitB_all _ (by decide) 0 _ t rfl
    conv => lhs; whnf
    conv => lhs; arg 1; whnf
    refine bnd_g (by exact ⟨by omega, by decide⟩) ?_
    conv => lhs; whnf
    refine (lp_implParseSets (splitsB t ⟨#[44]⟩) (by omega) _ (some (.tup [.own 0, .bool false], [.row 3 (.int .i64) []])) (fun zs => ?_) (splitsB t ⟨#[44]⟩).length _ 0 0 [] rfl (by omega) rfl (by change _ < 2099; omega) (by simp)).trans ?_
    · conv => lhs; whnf
    rw [List.drop_zero]
    cases hz : pzL (splitsB t ⟨#[44]⟩) [] with
    | some l =>
      have e : pzI t = (l, true) := by unfold pzI; rw [h', cond_false, hz]
      conv => rhs; rw [e]
      conv => lhs; whnf
    | none =>
      have e : pzI t = ([], false) := by unfold pzI; rw [h', cond_false, hz]
      conv => rhs; rw [e]
theorem ok_implParseSets : FnOk Tryd.prog 24 K_implParseSets := by
  refine fn_ok (fn := Tryd.f24) (k := Tryd.f24.ntmps) (E := E_implParseSets) (facts_of (List.forall_mem_cons.2 ⟨ok_splitX, List.forall_mem_cons.2 ⟨ok_implParseSet, List.forall_mem_nil _⟩⟩)) (by kernel_rfl) rfl (by decide +kernel) (by decide +kernel) ?_
  intro avs hin r h
  unfold K_implParseSets at h
  split at h
  · obtain ⟨hp, rfl⟩ := gd_o h
    exact ⟨_, ev_implParseSets _ hp, rfl⟩
  · cases h

def pcI (t : ByteArray) : Int × List Int × Bool := bif (cutB t ⟨#[32]⟩).2.2 && ((rdI (cutB t ⟨#[32]⟩).1 0 999999).2 && ((pzI (cutB t ⟨#[32]⟩).2.1).2 && isCtx (rdI (cutB t ⟨#[32]⟩).1 0 999999).1 (pzI (cutB t ⟨#[32]⟩).2.1).1))
  then ((rdI (cutB t ⟨#[32]⟩).1 0 999999).1, (pzI (cutB t ⟨#[32]⟩).2.1).1, true) else (0, [], false)
theorem cut_size (t sep : ByteArray) : (cutB t sep).1.size ≤ t.size ∧ (cutB t sep).2.1.size ≤ t.size := by
  have e : t.size = t.data.toList.length := rfl
  have e1 : (cutB t sep).1.size = (Lib.cut t.data.toList sep.data.toList).1.length := rfl
  have e2 : (cutB t sep).2.1.size = (Lib.cut t.data.toList sep.data.toList).2.1.length := rfl
  rw [e1, e2, e]
  unfold Lib.cut
  split
  · simp only [List.length_take, List.length_drop]
    omega
  · simp
theorem pzL_len : ∀ (ws : List ByteArray) (acc l : List Int), pzL ws acc = some l → l.length = acc.length + ws.length
  | [], acc, l, h => by
    rw [pzL] at h
    cases h
    simp
  | w :: r, acc, l, h => by
    rw [pzL] at h
    cases hq : (psI w).2
    · rw [hq, cond_false] at h
      cases h
    · rw [hq, cond_true] at h
      have := pzL_len r _ l h
      simp at this ⊢
      omega
theorem pzI_len (t : ByteArray) : (pzI t).1.length ≤ t.size + 1 := by
  have hc := Lib.countB_le (⟨#[44]⟩ : ByteArray) (by decide) t.size t (Nat.le_refl _)
  have hl : (splitsB t ⟨#[44]⟩).length = Lib.countB t ⟨#[44]⟩ + 1 := Lib.splitB_all _ (by decide) 0 _ t rfl
  unfold pzI
  cases t.toList == noneB.toList
  · rw [cond_false]
    cases hz : pzL (splitsB t ⟨#[44]⟩) [] with
    | some l =>
      have := pzL_len _ _ _ hz
      simp at this ⊢
      omega
    | none => simp
  · simp
/- impl.IsContext$1 -/
def K_badRow1 : List AV → List Ob → Option (AV × List Ob)
  | [.int .i64 x, .vptr [.int .i64 m, .lst (.int .i64) b] 0], [] => gd (True) (.bool (badRow m x), [])
  | _, _ => none
@[reducible] def E_badRow1 : Env := mkE (tb [(42, K_implIsSet)]) (fun f => false) (fun r => ([], []))
theorem ev_badRow1 (x m : Int) (b : List Int) (hp : True) : evF E_badRow1 (1) Tryd.f41 [.int .i64 x, .vptr [.int .i64 m, .lst (.int .i64) b] 0] [] = some (.bool (badRow m x), []) := by
  conv => lhs; whnf
  conv => lhs; arg 1; whnf
  refine bnd_g (by exact True.intro) ?_
  conv => lhs; whnf
  rfl
theorem ok_badRow1 : FnOk Tryd.prog 41 K_badRow1 := by
  refine fn_ok (fn := Tryd.f41) (k := Tryd.f41.ntmps) (E := E_badRow1) (facts_of (List.forall_mem_cons.2 ⟨ok_implIsSet, List.forall_mem_nil _⟩)) (by kernel_rfl) rfl (by decide +kernel) (by decide +kernel) ?_
  intro avs hin r h
  unfold K_badRow1 at h
  split at h
  · obtain ⟨hp, rfl⟩ := gd_o h
    exact ⟨_, ev_badRow1 _ _ _ hp, rfl⟩
  · cases h

/- slices.IndexFunc[[]int,int] -/
def K_idx_badRow1 : List AV → List Ob → Option (AV × List Ob)
  | [.lst (.int .i64) a, .clo 41 [.vptr [.int .i64 m, .lst (.int .i64) b] 0]], [] => gd (a.length < 4611686018427387904 ∧ True) (.int .i64 (firstI (badRow m) a 0), [])
  | _, _ => none
@[reducible] def E_idx_badRow1 : Env := mkE (tb [(41, K_badRow1)]) (fun f => false) (fun r => bif r == 2 then ([0, 1, 7, 8], [4]) else ([], []))
theorem lp_idx_badRow1 (a : List Int) (m : Int) (b : List Int) (ht : True) (ha : a.length < 4611686018427387904) (k : AX → S → Option (AV × List Ob)) (d : Nat) : ∀ (n i : Nat) (x : Int), a.length - i = d → i ≤ a.length → x = i → d < n →
    lpAt E_idx_badRow1 (lp E_idx_badRow1 0 n) 0 (loopAt Tryd.f53 0) (mkS [0, 1, 7, 8] [.lst (.int .i64) a, .clo 41 [.vptr [.int .i64 m, .lst (.int .i64) b] 0], .int .i64 a.length, .int .i64 x] []) k =
      if (a.drop i).any (badRow m) then k .ret (mkS [4] [.int .i64 (firstI (badRow m) (a.drop i) i)] []) else k (.exit 0) (mkS [4] [.any] []) := by
  induction d with
  | zero =>
    intro n i x hd hi hx hn
    subst hx
    rw [lpAt_def]
    conv => lhs; whnf
    refine br_f (df (by omega)) ?_
    conv => lhs; whnf
    rw [List.drop_of_length_le (by omega)]
    simp
  | succ d ih =>
    intro n i x hd hi hx hn
    obtain ⟨n, rfl⟩ : ∃ m, n = m + 1 := ⟨n - 1, by omega⟩
    subst hx
    rw [lpAt_def]
    conv => lhs; whnf
    refine br_t (dt (by omega)) ?_
    conv => lhs; whnf
    refine br_t (dt2 (by omega) (by omega)) ?_
    conv => lhs; whnf
    conv => lhs; arg 1; whnf
    refine bnd_g (by exact True.intro) ?_
    conv => lhs; whnf
    rw [getD_drop (l := a) (i := i) (d := 0) (by omega)]
    refine br_c (fun h => ?_) (fun h => ?_)
    · have h' : (badRow m) (a.getD i 0) = true := h
      conv => lhs; whnf
      rw [if_pos (by rw [List.any_cons, h', Bool.true_or])]
      rw [firstI, h', cond_true]
    · have h' : (badRow m) (a.getD i 0) = false := h
      conv => lhs; whnf
      rw [ih n (i + 1) _ (by omega) (by omega) (by rw [wrap64 (by omega) (by omega)]; simp) (by omega)]
      rw [List.any_cons, h', Bool.false_or, firstI, h', cond_false]
      rfl
theorem ev_idx_badRow1 (a : List Int) (m : Int) (b : List Int) (hp : a.length < 4611686018427387904 ∧ True) : evF E_idx_badRow1 (a.length + 2) Tryd.f53 [.lst (.int .i64) a, .clo 41 [.vptr [.int .i64 m, .lst (.int .i64) b] 0]] [] = some (.int .i64 (firstI (badRow m) a 0), []) := by
  conv => lhs; whnf
  refine (lp_idx_badRow1 a m b hp.2 hp.1 _ a.length _ 0 0 rfl (by omega) rfl (by omega)).trans ?_
  simp only [List.drop_zero]
  split
  · conv => lhs; whnf
    rfl
  · rename_i he
    conv => lhs; whnf
    have : firstI (badRow m) a 0 = -1 := firstI_none (badRow m) a 0 (by simpa using he)
    rw [this]
theorem ok_idx_badRow1 : FnOk Tryd.prog 53 K_idx_badRow1 := by
  refine fn_ok (fn := Tryd.f53) (k := Tryd.f53.ntmps) (E := E_idx_badRow1) (facts_of (List.forall_mem_cons.2 ⟨ok_badRow1, List.forall_mem_nil _⟩)) (by kernel_rfl) rfl (by decide +kernel) (by decide +kernel) ?_
  intro avs hin r h
  unfold K_idx_badRow1 at h
  split at h
  · obtain ⟨hp, rfl⟩ := gd_o h
    exact ⟨_, ev_idx_badRow1 _ _ _ hp, rfl⟩
  · cases h

/- slices.ContainsFunc[[]int,int] -/
def K_has_badRow1 : List AV → List Ob → Option (AV × List Ob)
  | [.lst (.int .i64) a, .clo 41 [.vptr [.int .i64 m, .lst (.int .i64) b] 0]], [] => gd (a.length < 4611686018427387904 ∧ True) (.bool (a.any (badRow m)), [])
  | _, _ => none
@[reducible] def E_has_badRow1 : Env := mkE (tb [(53, K_idx_badRow1)]) (fun f => false) (fun r => ([], []))
theorem ev_has_badRow1 (a : List Int) (m : Int) (b : List Int) (hp : a.length < 4611686018427387904 ∧ True) : evF E_has_badRow1 (1) Tryd.f40 [.lst (.int .i64) a, .clo 41 [.vptr [.int .i64 m, .lst (.int .i64) b] 0]] [] = some (.bool (a.any (badRow m)), []) := by
  conv => lhs; whnf
  conv => lhs; arg 1; whnf
  refine bnd_g (by exact hp) ?_
  conv => lhs; whnf
  refine okB ?_
  exact firstI_iff (badRow m) a 0 (by omega)
theorem ok_has_badRow1 : FnOk Tryd.prog 40 K_has_badRow1 := by
  refine fn_ok (fn := Tryd.f40) (k := Tryd.f40.ntmps) (E := E_has_badRow1) (facts_of (List.forall_mem_cons.2 ⟨ok_idx_badRow1, List.forall_mem_nil _⟩)) (by kernel_rfl) rfl (by decide +kernel) (by decide +kernel) ?_
  intro avs hin r h
  unfold K_has_badRow1 at h
  split at h
  · obtain ⟨hp, rfl⟩ := gd_o h
    exact ⟨_, ev_has_badRow1 _ _ _ hp, rfl⟩
  · cases h

/- impl.IsContext -/
def K_implIsContext : List AV → List Ob → Option (AV × List Ob)
  | [.agg [.int .i64 m, .lst (.int .i64) a]], [] => gd (a.length < 4611686018427387904) (.bool (isCtx m a), [])
  | _, _ => none
@[reducible] def E_implIsContext : Env := mkE (tb [(26, K_within), (40, K_has_badRow1)]) (fun f => false) (fun r => ([], []))
theorem ev_implIsContext (m : Int) (a : List Int) (hp : a.length < 4611686018427387904) : evF E_implIsContext (1) Tryd.f25 [.agg [.int .i64 m, .lst (.int .i64) a]] [] = some (.bool (isCtx m a), []) := by
  conv => lhs; whnf
  conv => lhs; arg 1; whnf
  refine bnd_g (by exact True.intro) ?_
  conv => lhs; whnf
  refine br_c (fun h => ?_) (fun h => ?_)
  · conv => lhs; whnf
    repeat ((first | with_reducible apply br_tt | with_reducible apply br_ff | with_reducible apply br_nf | with_reducible apply br_nt | with_reducible refine br_d ?_ (by kernel_rfl) | with_reducible apply br_t h | with_reducible apply br_f h); conv => lhs; whnf)
    refine br_c (fun h2 => ?_) (fun h2 => ?_)
    · conv => lhs; whnf
      repeat ((first | with_reducible apply br_tt | with_reducible apply br_ff | with_reducible apply br_nf | with_reducible apply br_nt | with_reducible refine br_d ?_ (by kernel_rfl) | with_reducible apply br_t h | with_reducible apply br_f h | with_reducible apply br_t h2 | with_reducible apply br_f h2); conv => lhs; whnf)
      conv => lhs; arg 1; whnf
      refine bnd_g (by exact ⟨hp, True.intro⟩) ?_
      conv => lhs; whnf
      repeat ((first | with_reducible apply br_tt | with_reducible apply br_ff | with_reducible apply br_nf | with_reducible apply br_nt | with_reducible refine br_d ?_ (by kernel_rfl) | with_reducible apply br_t h | with_reducible apply br_f h | with_reducible apply br_t h2 | with_reducible apply br_f h2); conv => lhs; whnf)
      refine okB ?_
      unfold isCtx
      have := ofd h2
      rw [any_badRow, h, dt (by omega), Bool.true_and, Bool.true_and]
    · conv => lhs; whnf
      repeat ((first | with_reducible apply br_tt | with_reducible apply br_ff | with_reducible apply br_nf | with_reducible apply br_nt | with_reducible refine br_d ?_ (by kernel_rfl) | with_reducible apply br_t h | with_reducible apply br_f h | with_reducible apply br_t h2 | with_reducible apply br_f h2); conv => lhs; whnf)
      refine okB ?_
      unfold isCtx
      have := ofn h2
      rw [h, df (by omega), Bool.true_and, Bool.false_and]
  · conv => lhs; whnf
    repeat ((first | with_reducible apply br_tt | with_reducible apply br_ff | with_reducible apply br_nf | with_reducible apply br_nt | with_reducible refine br_d ?_ (by kernel_rfl) | with_reducible apply br_t h | with_reducible apply br_f h); conv => lhs; whnf)
    refine okB ?_
    unfold isCtx
    rw [h, Bool.false_and, Bool.false_and]
theorem ok_implIsContext : FnOk Tryd.prog 25 K_implIsContext := by
  refine fn_ok (fn := Tryd.f25) (k := Tryd.f25.ntmps) (E := E_implIsContext) (facts_of (List.forall_mem_cons.2 ⟨ok_within, List.forall_mem_cons.2 ⟨ok_has_badRow1, List.forall_mem_nil _⟩⟩)) (by kernel_rfl) rfl (by decide +kernel) (by decide +kernel) ?_
  intro avs hin r h
  unfold K_implIsContext at h
  split at h
  · obtain ⟨hp, rfl⟩ := gd_o h
    exact ⟨_, ev_implIsContext _ _ hp, rfl⟩
  · cases h

/- impl.ParseContext -/
def K_implParseContext : List AV → List Ob → Option (AV × List Ob)
  | [.str t], [] => gd (t.size ≤ 900 ∧ (atO (cutB t ⟨#[32]⟩).1 || atS (cutB t ⟨#[32]⟩).1) = true) (.tup [.agg [.int .i64 (pcI t).1, .own 0], .bool (pcI t).2.2], [.row 3 (.int .i64) (pcI t).2.1])
  | _, _ => none
@[reducible] def E_implParseContext : Env := mkE (tb [(22, K_cutX), (23, K_parseNumber), (24, K_implParseSets), (25, K_implIsContext)]) (fun f => false) (fun r => ([], []))
theorem ev_implParseContext (t : ByteArray) (hp : t.size ≤ 900 ∧ (atO (cutB t ⟨#[32]⟩).1 || atS (cutB t ⟨#[32]⟩).1) = true) : evF E_implParseContext (1) Tryd.f12 [.str t] [] = some (.tup [.agg [.int .i64 (pcI t).1, .own 0], .bool (pcI t).2.2], [.row 3 (.int .i64) (pcI t).2.1]) := by
  have hs := cut_size t ⟨#[32]⟩
  have hp1 := hp.1
  have hz := pzI_len (cutB t ⟨#[32]⟩).2.1
  conv => lhs; whnf
  conv => lhs; arg 1; whnf
  refine bnd_g (by omega) ?_
  conv => lhs; whnf
  conv => lhs; arg 1; whnf
  refine bnd_g (by exact ⟨by omega, hp.2⟩) ?_
  conv => lhs; whnf
  conv => lhs; arg 1; whnf
  refine bnd_g (by omega) ?_
  conv => lhs; whnf
  refine br_c (fun h1 => ?_) (fun h1 => ?_)
  · have h1' : (!(cutB t ⟨#[32]⟩).2.2) = true := h1
    have e : pcI t = (0, [], false) := by unfold pcI; rw [bnt h1']; rfl
    conv => rhs; rw [e]
    conv => lhs; whnf
    repeat ((first | with_reducible apply br_tt | with_reducible apply br_ff | with_reducible apply br_nf | with_reducible apply br_nt | with_reducible refine br_d ?_ (by kernel_rfl) | with_reducible apply br_t h1 | with_reducible apply br_f h1); conv => lhs; whnf)
  · have h1' : (!(cutB t ⟨#[32]⟩).2.2) = false := h1
    conv => lhs; whnf
    repeat ((first | with_reducible apply br_tt | with_reducible apply br_ff | with_reducible apply br_nf | with_reducible apply br_nt | with_reducible refine br_d ?_ (by kernel_rfl) | with_reducible apply br_t h1 | with_reducible apply br_f h1); conv => lhs; whnf)
    refine br_c (fun h2 => ?_) (fun h2 => ?_)
    · have h2' : (!(rdI (cutB t ⟨#[32]⟩).1 0 999999).2) = true := h2
      have e : pcI t = (0, [], false) := by unfold pcI; rw [bnf h1', bnt h2']; rfl
      conv => rhs; rw [e]
      conv => lhs; whnf
      repeat ((first | with_reducible apply br_tt | with_reducible apply br_ff | with_reducible apply br_nf | with_reducible apply br_nt | with_reducible refine br_d ?_ (by kernel_rfl) | with_reducible apply br_t h1 | with_reducible apply br_f h1 | with_reducible apply br_t h2 | with_reducible apply br_f h2); conv => lhs; whnf)
    · have h2' : (!(rdI (cutB t ⟨#[32]⟩).1 0 999999).2) = false := h2
      conv => lhs; whnf
      repeat ((first | with_reducible apply br_tt | with_reducible apply br_ff | with_reducible apply br_nf | with_reducible apply br_nt | with_reducible refine br_d ?_ (by kernel_rfl) | with_reducible apply br_t h1 | with_reducible apply br_f h1 | with_reducible apply br_t h2 | with_reducible apply br_f h2); conv => lhs; whnf)
      refine br_c (fun h3 => ?_) (fun h3 => ?_)
      · have h3' : (!(pzI (cutB t ⟨#[32]⟩).2.1).2) = true := h3
        have e : pcI t = (0, [], false) := by unfold pcI; rw [bnf h1', bnf h2', bnt h3']; rfl
        conv => rhs; rw [e]
        conv => lhs; whnf
        repeat ((first | with_reducible apply br_tt | with_reducible apply br_ff | with_reducible apply br_nf | with_reducible apply br_nt | with_reducible refine br_d ?_ (by kernel_rfl) | with_reducible apply br_t h1 | with_reducible apply br_f h1 | with_reducible apply br_t h2 | with_reducible apply br_f h2 | with_reducible apply br_t h3 | with_reducible apply br_f h3); conv => lhs; whnf)
      · have h3' : (!(pzI (cutB t ⟨#[32]⟩).2.1).2) = false := h3
        conv => lhs; whnf
        repeat ((first | with_reducible apply br_tt | with_reducible apply br_ff | with_reducible apply br_nf | with_reducible apply br_nt | with_reducible refine br_d ?_ (by kernel_rfl) | with_reducible apply br_t h1 | with_reducible apply br_f h1 | with_reducible apply br_t h2 | with_reducible apply br_f h2 | with_reducible apply br_t h3 | with_reducible apply br_f h3); conv => lhs; whnf)
        conv => lhs; arg 1; whnf
        refine bnd_g (by omega) ?_
        conv => lhs; whnf
        repeat ((first | with_reducible apply br_tt | with_reducible apply br_ff | with_reducible apply br_nf | with_reducible apply br_nt | with_reducible refine br_d ?_ (by kernel_rfl) | with_reducible apply br_t h1 | with_reducible apply br_f h1 | with_reducible apply br_t h2 | with_reducible apply br_f h2 | with_reducible apply br_t h3 | with_reducible apply br_f h3); conv => lhs; whnf)
        refine br_c (fun h4 => ?_) (fun h4 => ?_)
        · have h4' : (!isCtx (rdI (cutB t ⟨#[32]⟩).1 0 999999).1 (pzI (cutB t ⟨#[32]⟩).2.1).1) = true := h4
          have e : pcI t = (0, [], false) := by unfold pcI; rw [bnf h1', bnf h2', bnf h3', bnt h4']; rfl
          conv => rhs; rw [e]
          conv => lhs; whnf
          repeat ((first | with_reducible apply br_tt | with_reducible apply br_ff | with_reducible apply br_nf | with_reducible apply br_nt | with_reducible refine br_d ?_ (by kernel_rfl) | with_reducible apply br_t h1 | with_reducible apply br_f h1 | with_reducible apply br_t h2 | with_reducible apply br_f h2 | with_reducible apply br_t h3 | with_reducible apply br_f h3 | with_reducible apply br_t h4 | with_reducible apply br_f h4); conv => lhs; whnf)
        · have h4' : (!isCtx (rdI (cutB t ⟨#[32]⟩).1 0 999999).1 (pzI (cutB t ⟨#[32]⟩).2.1).1) = false := h4
          have e : pcI t = ((rdI (cutB t ⟨#[32]⟩).1 0 999999).1, (pzI (cutB t ⟨#[32]⟩).2.1).1, true) := by unfold pcI; rw [bnf h1', bnf h2', bnf h3', bnf h4']; rfl
          conv => rhs; rw [e]
          conv => lhs; whnf
          repeat ((first | with_reducible apply br_tt | with_reducible apply br_ff | with_reducible apply br_nf | with_reducible apply br_nt | with_reducible refine br_d ?_ (by kernel_rfl) | with_reducible apply br_t h1 | with_reducible apply br_f h1 | with_reducible apply br_t h2 | with_reducible apply br_f h2 | with_reducible apply br_t h3 | with_reducible apply br_f h3 | with_reducible apply br_t h4 | with_reducible apply br_f h4); conv => lhs; whnf)
theorem ok_implParseContext : FnOk Tryd.prog 12 K_implParseContext := by
  refine fn_ok (fn := Tryd.f12) (k := Tryd.f12.ntmps) (E := E_implParseContext) (facts_of (List.forall_mem_cons.2 ⟨ok_cutX, List.forall_mem_cons.2 ⟨ok_parseNumber, List.forall_mem_cons.2 ⟨ok_implParseSets, List.forall_mem_cons.2 ⟨ok_implIsContext, List.forall_mem_nil _⟩⟩⟩⟩)) (by kernel_rfl) rfl (by decide +kernel) (by decide +kernel) ?_
  intro avs hin r h
  unfold K_implParseContext at h
  split at h
  · obtain ⟨hp, rfl⟩ := gd_o h
    exact ⟨_, ev_implParseContext _ hp, rfl⟩
  · cases h

end Go.Sym
