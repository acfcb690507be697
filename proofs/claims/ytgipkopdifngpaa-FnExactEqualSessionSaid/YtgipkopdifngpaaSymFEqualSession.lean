/- Functions of the program, each told as a plain equation. -/
import Derived.Test.YtgipkopdifngpaaSymX
namespace Go.Sym
open Go.Proofs
set_option linter.unusedVariables false
set_option linter.unusedSimpArgs false
set_option maxRecDepth 100000
set_option maxHeartbeats 4000000

def szI (n left : Int) : Int := if left < n then -1 else left - n
theorem szI_ok {n left : Int} (h : ¬ szI n left < 0) : szI n left = left - n ∧ n ≤ left := by
  unfold szI at h ⊢
  split at h
  · omega
  · rename_i h5; exact ⟨if_neg h5, by omega⟩
/- laws.szIntS -/
def K_szIntS : List AV → List Ob → Option (AV × List Ob)
  | [.lst (.int .i64) a, .int .i64 left], [] => gd (0 ≤ left ∧ left ≤ 1048576 ∧ a.length ≤ maxLen) (.int .i64 (szI a.length left), [])
  | _, _ => none
@[reducible] def E_szIntS : Env := mkE (tb []) (fun f => false) (fun r => ([], []))
theorem ev_szIntS (a : List Int) (left : Int) (hp : 0 ≤ left ∧ left ≤ 1048576 ∧ a.length ≤ maxLen) : evF E_szIntS (1) Try.f64 [.lst (.int .i64) a, .int .i64 left] [] = some (.int .i64 (szI a.length left), []) := by
  obtain ⟨h0, h1, h2⟩ := hp
  have hm := maxLen_eq
  have hw : IntKind.i64.wrap (left - a.length) = left - a.length := wrap64 (by omega) (by omega)
  conv => lhs; whnf
  refine br_c (fun h => ?_) (fun h => ?_)
  · conv => lhs; whnf
    have h := ofd h
    rw [hw] at h
    rw [szI, if_pos (by omega)]
  · conv => lhs; whnf
    have h := ofn h
    rw [hw] at h
    rw [szI, if_neg (by omega), hw]
theorem ok_szIntS : FnOk Try.prog 64 K_szIntS := by
  refine fn_ok (fn := Try.f64) (k := Try.f64.ntmps) (E := E_szIntS) (facts_of (List.forall_mem_nil _)) (by kernel_rfl) rfl (by decide +kernel) (by decide +kernel) ?_
  intro avs hin r h
  unfold K_szIntS at h
  split at h
  · obtain ⟨hp, rfl⟩ := gd_o h
    exact ⟨_, ev_szIntS _ _ hp, rfl⟩
  · cases h

/- laws.szContext -/
def K_szContext : List AV → List Ob → Option (AV × List Ob)
  | [.agg [.int .i64 m, .lst (.int .i64) a], .int .i64 left], [] => gd (0 ≤ left ∧ left ≤ 1048576 ∧ a.length ≤ maxLen) (.int .i64 (szI a.length left), [])
  | _, _ => none
@[reducible] def E_szContext : Env := mkE (tb [(64, K_szIntS)]) (fun f => false) (fun r => ([], []))
theorem ev_szContext (m : Int) (a : List Int) (left : Int) (hp : 0 ≤ left ∧ left ≤ 1048576 ∧ a.length ≤ maxLen) : evF E_szContext (1) Try.f40 [.agg [.int .i64 m, .lst (.int .i64) a], .int .i64 left] [] = some (.int .i64 (szI a.length left), []) := by
  obtain ⟨h0, h1, h2⟩ := hp
  conv => lhs; whnf
  conv => lhs; arg 1; whnf
  refine bnd_g (by exact ⟨h0, h1, h2⟩) ?_
  conv => lhs; whnf
  refine br_c (fun h => ?_) (fun h => ?_)
  · conv => lhs; whnf
    have h := ofd h
    unfold szI at h ⊢
    split at h
    · rw [if_pos (by omega)]
    · omega
  · conv => lhs; whnf
theorem ok_szContext : FnOk Try.prog 40 K_szContext := by
  refine fn_ok (fn := Try.f40) (k := Try.f40.ntmps) (E := E_szContext) (facts_of (List.forall_mem_cons.2 ⟨ok_szIntS, List.forall_mem_nil _⟩)) (by kernel_rfl) rfl (by decide +kernel) (by decide +kernel) ?_
  intro avs hin r h
  unfold K_szContext at h
  split at h
  · obtain ⟨hp, rfl⟩ := gd_o h
    exact ⟨_, ev_szContext _ _ _ hp, rfl⟩
  · cases h

/- laws.szSession -/
def K_szSession : List AV → List Ob → Option (AV × List Ob)
  | [.agg [.int .i64 m, .lst (.int .i64) a, .int .i64 n, .lst (.int .i64) b], .int .i64 left], [] => gd (0 ≤ left ∧ left ≤ 1048576 ∧ a.length ≤ maxLen ∧ b.length ≤ maxLen) (.int .i64 (szI (a.length + b.length) left), [])
  | _, _ => none
@[reducible] def E_szSession : Env := mkE (tb [(40, K_szContext)]) (fun f => false) (fun r => ([], []))
theorem ev_szSession (m : Int) (a : List Int) (n : Int) (b : List Int) (left : Int) (hp : 0 ≤ left ∧ left ≤ 1048576 ∧ a.length ≤ maxLen ∧ b.length ≤ maxLen) : evF E_szSession (1) Try.f26 [.agg [.int .i64 m, .lst (.int .i64) a, .int .i64 n, .lst (.int .i64) b], .int .i64 left] [] = some (.int .i64 (szI (a.length + b.length) left), []) := by
  obtain ⟨h0, h1, h2, h3⟩ := hp
  conv => lhs; whnf
  conv => lhs; arg 1; whnf
  refine bnd_g (by exact ⟨h0, h1, h2⟩) ?_
  conv => lhs; whnf
  refine br_c (fun h => ?_) (fun h => ?_)
  · conv => lhs; whnf
    have h := ofd h
    unfold szI at h ⊢
    split at h
    · rw [if_pos (by omega)]
    · omega
  · conv => lhs; whnf
    obtain ⟨e1, l1⟩ := szI_ok (ofn h)
    rw [e1]
    conv => lhs; arg 1; whnf
    refine bnd_g (by exact ⟨by omega, by omega, h3⟩) ?_
    conv => lhs; whnf
    refine br_c (fun h' => ?_) (fun h' => ?_)
    · conv => lhs; whnf
      have h := ofd h'
      unfold szI at h ⊢
      split at h
      · rw [if_pos (by omega)]
      · omega
    · conv => lhs; whnf
      obtain ⟨e2, l2⟩ := szI_ok (ofn h')
      rw [e2]
      unfold szI
      rw [if_neg (by omega)]
      congr 3
      omega
theorem ok_szSession : FnOk Try.prog 26 K_szSession := by
  refine fn_ok (fn := Try.f26) (k := Try.f26.ntmps) (E := E_szSession) (facts_of (List.forall_mem_cons.2 ⟨ok_szContext, List.forall_mem_nil _⟩)) (by kernel_rfl) rfl (by decide +kernel) (by decide +kernel) ?_
  intro avs hin r h
  unfold K_szSession at h
  split at h
  · obtain ⟨hp, rfl⟩ := gd_o h
    exact ⟨_, ev_szSession _ _ _ _ _ hp, rfl⟩
  · cases h

/- laws.toIntS -/
def K_toIntS : List AV → List Ob → Option (AV × List Ob)
  | [.lst (.int .i64) a], [] => gd (a.length ≤ 1048576) (.own 0, [.row 3 (.int .i64) a])
  | _, _ => none
@[reducible] def E_toIntS : Env := mkE (tb []) (fun f => false) (fun r => bif r == 3 then ([0, 3, 4], [3]) else ([], []))
theorem lp_toIntS (a : List Int) (ha : a.length ≤ 1048576) (k : AX → S → Option (AV × List Ob)) (d : Nat) : ∀ (n i : Nat) (x : Int) (ys : List Int), a.length - i = d → i ≤ a.length → x = i → d < n → ys.length = a.length → ys.take i = a.take i →
    lpAt E_toIntS (lp E_toIntS 0 n) 0 (loopAt Try.f59 0) (mkS [0, 3, 4] [.lst (.int .i64) a, .own 0, .int .i64 x] [some (.row 3 (.int .i64) ys)]) k =
      k (.exit 0) (mkS [3] [.own 0] [some (.row 3 (.int .i64) a)]) := by
  induction d with
  | zero =>
    intro n i x ys hd hi hx hn hl ht
    subst hx
    rw [lpAt_def]
    conv => lhs; whnf
    refine br_f (df (by omega)) ?_
    conv => lhs; whnf
    have : ys = a := by rw [List.take_of_length_le (by omega), List.take_of_length_le (by omega)] at ht; exact ht
    rw [this]
  | succ d ih =>
    intro n i x ys hd hi hx hn hl ht
    obtain ⟨n, rfl⟩ : ∃ m, n = m + 1 := ⟨n - 1, by omega⟩
    subst hx
    rw [lpAt_def]
    conv => lhs; whnf
    refine br_t (dt (by omega)) ?_
    conv => lhs; whnf
    refine br_t (dt2 (by omega) (by omega)) ?_
    conv => lhs; whnf
    refine br_t (dt2 (by omega) (by omega)) ?_
    conv => lhs; whnf
    refine br_t (dt (by omega)) ?_
    conv => lhs; whnf
    refine ih n (i + 1) _ _ (by omega) (by omega) (by rw [wrap64 (by omega) (by omega)]; simp) (by omega) (by simp [hl]) ?_
    have hlt : i < a.length := by omega
    simp only [Int.toNat_natCast]
    rw [List.take_succ_eq_append_getElem (by simp; omega), List.take_succ_eq_append_getElem hlt, List.take_set_of_le (by omega), ht]
    simp [hlt]
theorem ev_toIntS (a : List Int) (hp : a.length ≤ 1048576) : evF E_toIntS (a.length + 2) Try.f59 [.lst (.int .i64) a] [] = some (.own 0, [.row 3 (.int .i64) a]) := by
  conv => lhs; whnf
  refine br_t (mk_ok (by dsimp only; omega)) ?_
  conv => lhs; whnf
  refine (lp_toIntS a hp _ _ _ 0 0 _ rfl (by omega) rfl (by omega) (by simp) (by simp)).trans ?_
  conv => lhs; whnf
theorem ok_toIntS : FnOk Try.prog 59 K_toIntS := by
  refine fn_ok (fn := Try.f59) (k := Try.f59.ntmps) (E := E_toIntS) (facts_of (List.forall_mem_nil _)) (by kernel_rfl) rfl (by decide +kernel) (by decide +kernel) ?_
  intro avs hin r h
  unfold K_toIntS at h
  split at h
  · obtain ⟨hp, rfl⟩ := gd_o h
    exact ⟨_, ev_toIntS _ hp, rfl⟩
  · cases h

/- laws.toContext -/
def K_toContext : List AV → List Ob → Option (AV × List Ob)
  | [.agg [.int .i64 m, .lst (.int .i64) a]], [] => gd (a.length ≤ 1048576) (.agg [.int .i64 m, .own 0], [.row 3 (.int .i64) a])
  | _, _ => none
@[reducible] def E_toContext : Env := mkE (tb [(59, K_toIntS)]) (fun f => false) (fun r => ([], []))
theorem ev_toContext (m : Int) (a : List Int) (hp : a.length ≤ 1048576) : evF E_toContext (1) Try.f42 [.agg [.int .i64 m, .lst (.int .i64) a]] [] = some (.agg [.int .i64 m, .own 0], [.row 3 (.int .i64) a]) := by
  conv => lhs; whnf
  conv => lhs; arg 1; whnf
  refine bnd_g (by exact hp) ?_
  conv => lhs; whnf
theorem ok_toContext : FnOk Try.prog 42 K_toContext := by
  refine fn_ok (fn := Try.f42) (k := Try.f42.ntmps) (E := E_toContext) (facts_of (List.forall_mem_cons.2 ⟨ok_toIntS, List.forall_mem_nil _⟩)) (by kernel_rfl) rfl (by decide +kernel) (by decide +kernel) ?_
  intro avs hin r h
  unfold K_toContext at h
  split at h
  · obtain ⟨hp, rfl⟩ := gd_o h
    exact ⟨_, ev_toContext _ _ hp, rfl⟩
  · cases h

/- laws.toSession -/
def K_toSession : List AV → List Ob → Option (AV × List Ob)
  | [.agg [.int .i64 m, .lst (.int .i64) a, .int .i64 n, .lst (.int .i64) b]], [] => gd (a.length ≤ 1048576 ∧ b.length ≤ 1048576) (.agg [.int .i64 m, .own 0, .int .i64 n, .own 1], [.row 3 (.int .i64) a, .row 3 (.int .i64) b])
  | _, _ => none
@[reducible] def E_toSession : Env := mkE (tb [(42, K_toContext)]) (fun f => false) (fun r => ([], []))
theorem ev_toSession (m : Int) (a : List Int) (n : Int) (b : List Int) (hp : a.length ≤ 1048576 ∧ b.length ≤ 1048576) : evF E_toSession (1) Try.f28 [.agg [.int .i64 m, .lst (.int .i64) a, .int .i64 n, .lst (.int .i64) b]] [] = some (.agg [.int .i64 m, .own 0, .int .i64 n, .own 1], [.row 3 (.int .i64) a, .row 3 (.int .i64) b]) := by
  conv => lhs; whnf
  conv => lhs; arg 1; whnf
  refine bnd_g (by exact hp.1) ?_
  conv => lhs; whnf
  conv => lhs; arg 1; whnf
  refine bnd_g (by exact hp.2) ?_
  conv => lhs; whnf
theorem ok_toSession : FnOk Try.prog 28 K_toSession := by
  refine fn_ok (fn := Try.f28) (k := Try.f28.ntmps) (E := E_toSession) (facts_of (List.forall_mem_cons.2 ⟨ok_toContext, List.forall_mem_nil _⟩)) (by kernel_rfl) rfl (by decide +kernel) (by decide +kernel) ?_
  intro avs hin r h
  unfold K_toSession at h
  split at h
  · obtain ⟨hp, rfl⟩ := gd_o h
    exact ⟨_, ev_toSession _ _ _ _ hp, rfl⟩
  · cases h

/- spec.l2Same -/
def K_l2Same : List AV → List Ob → Option (AV × List Ob)
  | [.lst (.int .i64) a, .lst (.int .i64) b], [] => gd (a.length < 4611686018427387904 ∧ b.length < 4611686018427387904) (.bool (decide (a = b)), [])
  | _, _ => none
@[reducible] def E_l2Same : Env := mkE (tb []) (fun f => false) (fun r => bif r == 4 then ([0, 1, 5], [4]) else ([], []))
theorem lp_l2Same (a b : List Int) (hl : a.length = b.length) (ha : a.length < 4611686018427387904) (k : AX → S → Option (AV × List Ob)) (d : Nat) : ∀ (n i : Nat) (x : Int), a.length - i = d → i ≤ a.length → x = i → d < n →
    lpAt E_l2Same (lp E_l2Same 0 n) 0 (loopAt Try.f105 0) (mkS [0, 1, 5] [.lst (.int .i64) a, .lst (.int .i64) b, .int .i64 x] []) k =
      if a.drop i = b.drop i then k (.exit 0) (mkS [4] [.any] []) else k .ret (mkS [4] [.bool false] []) := by
  induction d with
  | zero =>
    intro n i x hd hi hx hn
    subst hx
    rw [lpAt_def]
    conv => lhs; whnf
    refine br_f (df (by omega)) ?_
    conv => lhs; whnf
    rw [if_pos (by rw [List.drop_of_length_le (by omega), List.drop_of_length_le (by omega)])]
  | succ d ih =>
    intro n i x hd hi hx hn
    obtain ⟨n, rfl⟩ : ∃ m, n = m + 1 := ⟨n - 1, by omega⟩
    subst hx
    rw [lpAt_def]
    conv => lhs; whnf
    refine br_t (dt (by omega)) ?_
    conv => lhs; whnf
    refine br_t (dt2 (by omega) (by omega)) ?_
    conv => lhs; whnf
    refine br_t (dt2 (by omega) (by omega)) ?_
    conv => lhs; whnf
    rw [getD_drop (l := a) (i := i) (d := 0) (by omega), getD_drop (l := b) (i := i) (d := 0) (by omega)]
    refine br_t (by kernel_rfl) ?_
    conv => lhs; whnf
    refine br_c (fun h => ?_) (fun h => ?_)
    · conv => lhs; whnf
      rw [if_neg]
      intro he
      have := (List.cons.inj he).1
      simp at h
      exact h this
    · conv => lhs; whnf
      rw [ih n (i + 1) _ (by omega) (by omega) (by rw [wrap64 (by omega) (by omega)]; simp) (by omega)]
      simp at h
      simp [h]
theorem ev_l2Same (a b : List Int) (hp : a.length < 4611686018427387904 ∧ b.length < 4611686018427387904) : evF E_l2Same (a.length + 2) Try.f105 [.lst (.int .i64) a, .lst (.int .i64) b] [] = some (.bool (decide (a = b)), []) := by
  conv => lhs; whnf
  refine br_c (fun h => ?_) (fun h => ?_)
  · conv => lhs; whnf
    have : a ≠ b := by
      rintro rfl
      simp at h
    simp [this]
  · conv => lhs; whnf
    have hl : a.length = b.length := by simp at h; omega
    refine (lp_l2Same a b hl hp.1 _ _ _ 0 0 rfl (by omega) rfl (by omega)).trans ?_
    simp only [List.drop_zero]
    split
    · rename_i he
      conv => lhs; whnf
      simp [he]
    · rename_i he
      conv => lhs; whnf
      simp [he]
theorem ok_l2Same : FnOk Try.prog 105 K_l2Same := by
  refine fn_ok (fn := Try.f105) (k := Try.f105.ntmps) (E := E_l2Same) (facts_of (List.forall_mem_nil _)) (by kernel_rfl) rfl (by decide +kernel) (by decide +kernel) ?_
  intro avs hin r h
  unfold K_l2Same at h
  split at h
  · obtain ⟨hp, rfl⟩ := gd_o h
    exact ⟨_, ev_l2Same _ _ hp, rfl⟩
  · cases h

/- spec.EqualContext -/
def K_specEqualContext : List AV → List Ob → Option (AV × List Ob)
  | [.agg [.int .i64 m, .lst (.int .i64) a], .agg [.int .i64 m', .lst (.int .i64) a']], [] => gd (a.length < 4611686018427387904 ∧ a'.length < 4611686018427387904) (.bool (decide (m = m' ∧ a = a')), [])
  | _, _ => none
@[reducible] def E_specEqualContext : Env := mkE (tb [(105, K_l2Same)]) (fun f => false) (fun r => ([], []))
theorem ev_specEqualContext (m : Int) (a : List Int) (m' : Int) (a' : List Int) (hp : a.length < 4611686018427387904 ∧ a'.length < 4611686018427387904) : evF E_specEqualContext (1) Try.f70 [.agg [.int .i64 m, .lst (.int .i64) a], .agg [.int .i64 m', .lst (.int .i64) a']] [] = some (.bool (decide (m = m' ∧ a = a')), []) := by
  conv => lhs; whnf
  refine br_c (fun h => ?_) (fun h => ?_)
  · conv => lhs; whnf
    repeat ((first | with_reducible apply br_tt | with_reducible apply br_ff | with_reducible refine br_d ?_ (by kernel_rfl) | with_reducible apply br_t h | with_reducible apply br_f h); conv => lhs; whnf)
    conv => lhs; arg 1; whnf
    refine bnd_g (by exact ⟨hp.1, hp.2⟩) ?_
    conv => lhs; whnf
    repeat ((first | with_reducible apply br_tt | with_reducible apply br_ff | with_reducible refine br_d ?_ (by kernel_rfl) | with_reducible apply br_t h | with_reducible apply br_f h); conv => lhs; whnf)
    simp at h
    simp [h]
  · conv => lhs; whnf
    repeat ((first | with_reducible apply br_tt | with_reducible apply br_ff | with_reducible refine br_d ?_ (by kernel_rfl) | with_reducible apply br_t h | with_reducible apply br_f h); conv => lhs; whnf)
    simp at h
    simp [h]
theorem ok_specEqualContext : FnOk Try.prog 70 K_specEqualContext := by
  refine fn_ok (fn := Try.f70) (k := Try.f70.ntmps) (E := E_specEqualContext) (facts_of (List.forall_mem_cons.2 ⟨ok_l2Same, List.forall_mem_nil _⟩)) (by kernel_rfl) rfl (by decide +kernel) (by decide +kernel) ?_
  intro avs hin r h
  unfold K_specEqualContext at h
  split at h
  · obtain ⟨hp, rfl⟩ := gd_o h
    exact ⟨_, ev_specEqualContext _ _ _ _ hp, rfl⟩
  · cases h

/- spec.EqualSession -/
def K_specEqualSession : List AV → List Ob → Option (AV × List Ob)
  | [.agg [.int .i64 m, .lst (.int .i64) a, .int .i64 n, .lst (.int .i64) b], .agg [.int .i64 m', .lst (.int .i64) a', .int .i64 n', .lst (.int .i64) b']], [] => gd (a.length < 4611686018427387904 ∧ b.length < 4611686018427387904 ∧ a'.length < 4611686018427387904 ∧ b'.length < 4611686018427387904) (.bool (decide ((m = m' ∧ a = a') ∧ (n = n' ∧ b = b'))), [])
  | _, _ => none
@[reducible] def E_specEqualSession : Env := mkE (tb [(70, K_specEqualContext)]) (fun f => false) (fun r => ([], []))
theorem ev_specEqualSession (m : Int) (a : List Int) (n : Int) (b : List Int) (m' : Int) (a' : List Int) (n' : Int) (b' : List Int) (hp : a.length < 4611686018427387904 ∧ b.length < 4611686018427387904 ∧ a'.length < 4611686018427387904 ∧ b'.length < 4611686018427387904) : evF E_specEqualSession (1) Try.f27 [.agg [.int .i64 m, .lst (.int .i64) a, .int .i64 n, .lst (.int .i64) b], .agg [.int .i64 m', .lst (.int .i64) a', .int .i64 n', .lst (.int .i64) b']] [] = some (.bool (decide ((m = m' ∧ a = a') ∧ (n = n' ∧ b = b'))), []) := by
  conv => lhs; whnf
  conv => lhs; arg 1; whnf
  refine bnd_g (by exact ⟨hp.1, hp.2.2.1⟩) ?_
  conv => lhs; whnf
  refine br_c (fun h => ?_) (fun h => ?_)
  · conv => lhs; whnf
    repeat ((first | with_reducible apply br_tt | with_reducible apply br_ff | with_reducible refine br_d ?_ (by kernel_rfl) | with_reducible apply br_t h | with_reducible apply br_f h); conv => lhs; whnf)
    conv => lhs; arg 1; whnf
    refine bnd_g (by exact ⟨hp.2.1, hp.2.2.2⟩) ?_
    conv => lhs; whnf
    repeat ((first | with_reducible apply br_tt | with_reducible apply br_ff | with_reducible refine br_d ?_ (by kernel_rfl) | with_reducible apply br_t h | with_reducible apply br_f h); conv => lhs; whnf)
    simp at h
    simp [h]
  · conv => lhs; whnf
    repeat ((first | with_reducible apply br_tt | with_reducible apply br_ff | with_reducible refine br_d ?_ (by kernel_rfl) | with_reducible apply br_t h | with_reducible apply br_f h); conv => lhs; whnf)
    simp at h
    simp
    intro h1 h2
    exact absurd h2 (h h1)
theorem ok_specEqualSession : FnOk Try.prog 27 K_specEqualSession := by
  refine fn_ok (fn := Try.f27) (k := Try.f27.ntmps) (E := E_specEqualSession) (facts_of (List.forall_mem_cons.2 ⟨ok_specEqualContext, List.forall_mem_nil _⟩)) (by kernel_rfl) rfl (by decide +kernel) (by decide +kernel) ?_
  intro avs hin r h
  unfold K_specEqualSession at h
  split at h
  · obtain ⟨hp, rfl⟩ := gd_o h
    exact ⟨_, ev_specEqualSession _ _ _ _ _ _ _ _ hp, rfl⟩
  · cases h

/- slices.Equal[[]int,int] -/
def K_slicesEqualInt : List AV → List Ob → Option (AV × List Ob)
  | [.lst (.int .i64) a, .lst (.int .i64) b], [] => gd (a.length < 4611686018427387904 ∧ b.length < 4611686018427387904) (.bool (decide (a = b)), [])
  | _, _ => none
@[reducible] def E_slicesEqualInt : Env := mkE (tb []) (fun f => false) (fun r => bif r == 4 then ([0, 1, 12, 13], [4]) else ([], []))
theorem lp_slicesEqualInt (a b : List Int) (hl : a.length = b.length) (ha : a.length < 4611686018427387904) (k : AX → S → Option (AV × List Ob)) (d : Nat) : ∀ (n i : Nat) (x : Int), a.length - i = d → i ≤ a.length → x = i → d < n →
    lpAt E_slicesEqualInt (lp E_slicesEqualInt 0 n) 0 (loopAt Try.f106 0) (mkS [0, 1, 12, 13] [.lst (.int .i64) a, .lst (.int .i64) b, .int .i64 a.length, .int .i64 x] []) k =
      if a.drop i = b.drop i then k (.exit 0) (mkS [4] [.any] []) else k .ret (mkS [4] [.bool false] []) := by
  induction d with
  | zero =>
    intro n i x hd hi hx hn
    subst hx
    rw [lpAt_def]
    conv => lhs; whnf
    refine br_f (df (by omega)) ?_
    conv => lhs; whnf
    rw [if_pos (by rw [List.drop_of_length_le (by omega), List.drop_of_length_le (by omega)])]
  | succ d ih =>
    intro n i x hd hi hx hn
    obtain ⟨n, rfl⟩ : ∃ m, n = m + 1 := ⟨n - 1, by omega⟩
    subst hx
    rw [lpAt_def]
    conv => lhs; whnf
    refine br_t (dt (by omega)) ?_
    conv => lhs; whnf
    refine br_t (dt2 (by omega) (by omega)) ?_
    conv => lhs; whnf
    refine br_t (dt2 (by omega) (by omega)) ?_
    conv => lhs; whnf
    rw [getD_drop (l := a) (i := i) (d := 0) (by omega), getD_drop (l := b) (i := i) (d := 0) (by omega)]
    refine br_t (by kernel_rfl) ?_
    conv => lhs; whnf
    refine br_c (fun h => ?_) (fun h => ?_)
    · conv => lhs; whnf
      rw [if_neg]
      intro he
      have := (List.cons.inj he).1
      simp at h
      exact h this
    · conv => lhs; whnf
      rw [ih n (i + 1) _ (by omega) (by omega) (by rw [wrap64 (by omega) (by omega)]; simp) (by omega)]
      simp at h
      simp [h]
theorem ev_slicesEqualInt (a b : List Int) (hp : a.length < 4611686018427387904 ∧ b.length < 4611686018427387904) : evF E_slicesEqualInt (a.length + 2) Try.f106 [.lst (.int .i64) a, .lst (.int .i64) b] [] = some (.bool (decide (a = b)), []) := by
  conv => lhs; whnf
  refine br_c (fun h => ?_) (fun h => ?_)
  · conv => lhs; whnf
    have : a ≠ b := by
      rintro rfl
      simp at h
    simp [this]
  · conv => lhs; whnf
    have hl : a.length = b.length := by simp at h; omega
    refine (lp_slicesEqualInt a b hl hp.1 _ _ _ 0 0 rfl (by omega) rfl (by omega)).trans ?_
    simp only [List.drop_zero]
    split
    · rename_i he
      conv => lhs; whnf
      simp [he]
    · rename_i he
      conv => lhs; whnf
      simp [he]
theorem ok_slicesEqualInt : FnOk Try.prog 106 K_slicesEqualInt := by
  refine fn_ok (fn := Try.f106) (k := Try.f106.ntmps) (E := E_slicesEqualInt) (facts_of (List.forall_mem_nil _)) (by kernel_rfl) rfl (by decide +kernel) (by decide +kernel) ?_
  intro avs hin r h
  unfold K_slicesEqualInt at h
  split at h
  · obtain ⟨hp, rfl⟩ := gd_o h
    exact ⟨_, ev_slicesEqualInt _ _ hp, rfl⟩
  · cases h

/- impl.EqualContext -/
def K_implEqualContext : List AV → List Ob → Option (AV × List Ob)
  | [.agg [.int .i64 m, .lst (.int .i64) a], .agg [.int .i64 m', .lst (.int .i64) a']], [] => gd (a.length < 4611686018427387904 ∧ a'.length < 4611686018427387904) (.bool (decide (m = m' ∧ a = a')), [])
  | _, _ => none
@[reducible] def E_implEqualContext : Env := mkE (tb [(106, K_slicesEqualInt)]) (fun f => false) (fun r => ([], []))
theorem ev_implEqualContext (m : Int) (a : List Int) (m' : Int) (a' : List Int) (hp : a.length < 4611686018427387904 ∧ a'.length < 4611686018427387904) : evF E_implEqualContext (1) Try.f71 [.agg [.int .i64 m, .lst (.int .i64) a], .agg [.int .i64 m', .lst (.int .i64) a']] [] = some (.bool (decide (m = m' ∧ a = a')), []) := by
  conv => lhs; whnf
  refine br_c (fun h => ?_) (fun h => ?_)
  · conv => lhs; whnf
    repeat ((first | with_reducible apply br_tt | with_reducible apply br_ff | with_reducible refine br_d ?_ (by kernel_rfl) | with_reducible apply br_t h | with_reducible apply br_f h); conv => lhs; whnf)
    conv => lhs; arg 1; whnf
    refine bnd_g (by exact ⟨hp.1, hp.2⟩) ?_
    conv => lhs; whnf
    repeat ((first | with_reducible apply br_tt | with_reducible apply br_ff | with_reducible refine br_d ?_ (by kernel_rfl) | with_reducible apply br_t h | with_reducible apply br_f h); conv => lhs; whnf)
    simp at h
    simp [h]
  · conv => lhs; whnf
    repeat ((first | with_reducible apply br_tt | with_reducible apply br_ff | with_reducible refine br_d ?_ (by kernel_rfl) | with_reducible apply br_t h | with_reducible apply br_f h); conv => lhs; whnf)
    simp at h
    simp [h]
theorem ok_implEqualContext : FnOk Try.prog 71 K_implEqualContext := by
  refine fn_ok (fn := Try.f71) (k := Try.f71.ntmps) (E := E_implEqualContext) (facts_of (List.forall_mem_cons.2 ⟨ok_slicesEqualInt, List.forall_mem_nil _⟩)) (by kernel_rfl) rfl (by decide +kernel) (by decide +kernel) ?_
  intro avs hin r h
  unfold K_implEqualContext at h
  split at h
  · obtain ⟨hp, rfl⟩ := gd_o h
    exact ⟨_, ev_implEqualContext _ _ _ _ hp, rfl⟩
  · cases h

/- impl.EqualSession -/
def K_implEqualSession : List AV → List Ob → Option (AV × List Ob)
  | [.agg [.int .i64 m, .lst (.int .i64) a, .int .i64 n, .lst (.int .i64) b], .agg [.int .i64 m', .lst (.int .i64) a', .int .i64 n', .lst (.int .i64) b']], [] => gd (a.length < 4611686018427387904 ∧ b.length < 4611686018427387904 ∧ a'.length < 4611686018427387904 ∧ b'.length < 4611686018427387904) (.bool (decide ((m = m' ∧ a = a') ∧ (n = n' ∧ b = b'))), [])
  | _, _ => none
@[reducible] def E_implEqualSession : Env := mkE (tb [(71, K_implEqualContext)]) (fun f => false) (fun r => ([], []))
theorem ev_implEqualSession (m : Int) (a : List Int) (n : Int) (b : List Int) (m' : Int) (a' : List Int) (n' : Int) (b' : List Int) (hp : a.length < 4611686018427387904 ∧ b.length < 4611686018427387904 ∧ a'.length < 4611686018427387904 ∧ b'.length < 4611686018427387904) : evF E_implEqualSession (1) Try.f29 [.agg [.int .i64 m, .lst (.int .i64) a, .int .i64 n, .lst (.int .i64) b], .agg [.int .i64 m', .lst (.int .i64) a', .int .i64 n', .lst (.int .i64) b']] [] = some (.bool (decide ((m = m' ∧ a = a') ∧ (n = n' ∧ b = b'))), []) := by
  conv => lhs; whnf
  conv => lhs; arg 1; whnf
  refine bnd_g (by exact ⟨hp.1, hp.2.2.1⟩) ?_
  conv => lhs; whnf
  refine br_c (fun h => ?_) (fun h => ?_)
  · conv => lhs; whnf
    repeat ((first | with_reducible apply br_tt | with_reducible apply br_ff | with_reducible refine br_d ?_ (by kernel_rfl) | with_reducible apply br_t h | with_reducible apply br_f h); conv => lhs; whnf)
    conv => lhs; arg 1; whnf
    refine bnd_g (by exact ⟨hp.2.1, hp.2.2.2⟩) ?_
    conv => lhs; whnf
    repeat ((first | with_reducible apply br_tt | with_reducible apply br_ff | with_reducible refine br_d ?_ (by kernel_rfl) | with_reducible apply br_t h | with_reducible apply br_f h); conv => lhs; whnf)
    simp at h
    simp [h]
  · conv => lhs; whnf
    repeat ((first | with_reducible apply br_tt | with_reducible apply br_ff | with_reducible refine br_d ?_ (by kernel_rfl) | with_reducible apply br_t h | with_reducible apply br_f h); conv => lhs; whnf)
    simp at h
    simp
    intro h1 h2
    exact absurd h2 (h h1)
theorem ok_implEqualSession : FnOk Try.prog 29 K_implEqualSession := by
  refine fn_ok (fn := Try.f29) (k := Try.f29.ntmps) (E := E_implEqualSession) (facts_of (List.forall_mem_cons.2 ⟨ok_implEqualContext, List.forall_mem_nil _⟩)) (by kernel_rfl) rfl (by decide +kernel) (by decide +kernel) ?_
  intro avs hin r h
  unfold K_implEqualSession at h
  split at h
  · obtain ⟨hp, rfl⟩ := gd_o h
    exact ⟨_, ev_implEqualSession _ _ _ _ _ _ _ _ hp, rfl⟩
  · cases h

/- laws.eqIntS -/
def K_eqIntS : List AV → List Ob → Option (AV × List Ob)
  | [.lst (.int .i64) a, .lst (.int .i64) b], [] => gd (a.length < 4611686018427387904 ∧ b.length < 4611686018427387904) (.bool (decide (a = b)), [])
  | _, _ => none
@[reducible] def E_eqIntS : Env := mkE (tb []) (fun f => false) (fun r => bif r == 4 then ([0, 1, 5], [4]) else ([], []))
theorem lp_eqIntS (a b : List Int) (hl : a.length = b.length) (ha : a.length < 4611686018427387904) (k : AX → S → Option (AV × List Ob)) (d : Nat) : ∀ (n i : Nat) (x : Int), a.length - i = d → i ≤ a.length → x = i → d < n →
    lpAt E_eqIntS (lp E_eqIntS 0 n) 0 (loopAt Try.f35 0) (mkS [0, 1, 5] [.lst (.int .i64) a, .lst (.int .i64) b, .int .i64 x] []) k =
      if a.drop i = b.drop i then k (.exit 0) (mkS [4] [.any] []) else k .ret (mkS [4] [.bool false] []) := by
  induction d with
  | zero =>
    intro n i x hd hi hx hn
    subst hx
    rw [lpAt_def]
    conv => lhs; whnf
    refine br_f (df (by omega)) ?_
    conv => lhs; whnf
    rw [if_pos (by rw [List.drop_of_length_le (by omega), List.drop_of_length_le (by omega)])]
  | succ d ih =>
    intro n i x hd hi hx hn
    obtain ⟨n, rfl⟩ : ∃ m, n = m + 1 := ⟨n - 1, by omega⟩
    subst hx
    rw [lpAt_def]
    conv => lhs; whnf
    refine br_t (dt (by omega)) ?_
    conv => lhs; whnf
    refine br_t (dt2 (by omega) (by omega)) ?_
    conv => lhs; whnf
    refine br_t (dt2 (by omega) (by omega)) ?_
    conv => lhs; whnf
    rw [getD_drop (l := a) (i := i) (d := 0) (by omega), getD_drop (l := b) (i := i) (d := 0) (by omega)]
    refine br_t (by kernel_rfl) ?_
    conv => lhs; whnf
    refine br_c (fun h => ?_) (fun h => ?_)
    · conv => lhs; whnf
      rw [if_neg]
      intro he
      have := (List.cons.inj he).1
      simp at h
      exact h this
    · conv => lhs; whnf
      rw [ih n (i + 1) _ (by omega) (by omega) (by rw [wrap64 (by omega) (by omega)]; simp) (by omega)]
      simp at h
      simp [h]
theorem ev_eqIntS (a b : List Int) (hp : a.length < 4611686018427387904 ∧ b.length < 4611686018427387904) : evF E_eqIntS (a.length + 2) Try.f35 [.lst (.int .i64) a, .lst (.int .i64) b] [] = some (.bool (decide (a = b)), []) := by
  conv => lhs; whnf
  refine br_c (fun h => ?_) (fun h => ?_)
  · conv => lhs; whnf
    have : a ≠ b := by
      rintro rfl
      simp at h
    simp [this]
  · conv => lhs; whnf
    have hl : a.length = b.length := by simp at h; omega
    refine (lp_eqIntS a b hl hp.1 _ _ _ 0 0 rfl (by omega) rfl (by omega)).trans ?_
    simp only [List.drop_zero]
    split
    · rename_i he
      conv => lhs; whnf
      simp [he]
    · rename_i he
      conv => lhs; whnf
      simp [he]
theorem ok_eqIntS : FnOk Try.prog 35 K_eqIntS := by
  refine fn_ok (fn := Try.f35) (k := Try.f35.ntmps) (E := E_eqIntS) (facts_of (List.forall_mem_nil _)) (by kernel_rfl) rfl (by decide +kernel) (by decide +kernel) ?_
  intro avs hin r h
  unfold K_eqIntS at h
  split at h
  · obtain ⟨hp, rfl⟩ := gd_o h
    exact ⟨_, ev_eqIntS _ _ hp, rfl⟩
  · cases h

/- laws.eqContext -/
def K_eqContext : List AV → List Ob → Option (AV × List Ob)
  | [.agg [.int .i64 m, .lst (.int .i64) a], .agg [.int .i64 m', .lst (.int .i64) a']], [] => gd (a.length < 4611686018427387904 ∧ a'.length < 4611686018427387904) (.bool (decide (m = m' ∧ a = a')), [])
  | _, _ => none
@[reducible] def E_eqContext : Env := mkE (tb [(35, K_eqIntS)]) (fun f => false) (fun r => ([], []))
theorem ev_eqContext (m : Int) (a : List Int) (m' : Int) (a' : List Int) (hp : a.length < 4611686018427387904 ∧ a'.length < 4611686018427387904) : evF E_eqContext (1) Try.f44 [.agg [.int .i64 m, .lst (.int .i64) a], .agg [.int .i64 m', .lst (.int .i64) a']] [] = some (.bool (decide (m = m' ∧ a = a')), []) := by
  conv => lhs; whnf
  refine br_c (fun h => ?_) (fun h => ?_)
  · conv => lhs; whnf
    simp at h
    simp [h]
  · conv => lhs; whnf
    conv => lhs; arg 1; whnf
    refine bnd_g (by exact ⟨hp.1, hp.2⟩) ?_
    conv => lhs; whnf
    refine br_c (fun h' => ?_) (fun h' => ?_)
    · conv => lhs; whnf
      simp at h h'
      simp [h']
    · conv => lhs; whnf
      simp at h h'
      simp [h, h']
theorem ok_eqContext : FnOk Try.prog 44 K_eqContext := by
  refine fn_ok (fn := Try.f44) (k := Try.f44.ntmps) (E := E_eqContext) (facts_of (List.forall_mem_cons.2 ⟨ok_eqIntS, List.forall_mem_nil _⟩)) (by kernel_rfl) rfl (by decide +kernel) (by decide +kernel) ?_
  intro avs hin r h
  unfold K_eqContext at h
  split at h
  · obtain ⟨hp, rfl⟩ := gd_o h
    exact ⟨_, ev_eqContext _ _ _ _ hp, rfl⟩
  · cases h

/- laws.eqSession -/
def K_eqSession : List AV → List Ob → Option (AV × List Ob)
  | [.agg [.int .i64 m, .lst (.int .i64) a, .int .i64 n, .lst (.int .i64) b], .agg [.int .i64 m', .lst (.int .i64) a', .int .i64 n', .lst (.int .i64) b']], [] => gd (a.length < 4611686018427387904 ∧ b.length < 4611686018427387904 ∧ a'.length < 4611686018427387904 ∧ b'.length < 4611686018427387904) (.bool (decide ((m = m' ∧ a = a') ∧ (n = n' ∧ b = b'))), [])
  | _, _ => none
@[reducible] def E_eqSession : Env := mkE (tb [(44, K_eqContext)]) (fun f => false) (fun r => ([], []))
theorem ev_eqSession (m : Int) (a : List Int) (n : Int) (b : List Int) (m' : Int) (a' : List Int) (n' : Int) (b' : List Int) (hp : a.length < 4611686018427387904 ∧ b.length < 4611686018427387904 ∧ a'.length < 4611686018427387904 ∧ b'.length < 4611686018427387904) : evF E_eqSession (1) Try.f30 [.agg [.int .i64 m, .lst (.int .i64) a, .int .i64 n, .lst (.int .i64) b], .agg [.int .i64 m', .lst (.int .i64) a', .int .i64 n', .lst (.int .i64) b']] [] = some (.bool (decide ((m = m' ∧ a = a') ∧ (n = n' ∧ b = b'))), []) := by
  conv => lhs; whnf
  conv => lhs; arg 1; whnf
  refine bnd_g (by exact ⟨hp.1, hp.2.2.1⟩) ?_
  conv => lhs; whnf
  refine br_c (fun h => ?_) (fun h => ?_)
  · conv => lhs; whnf
    simp only [Bool.not_eq_true', decide_eq_false_iff_not] at h
    rw [decide_eq_false (fun q => h q.1)]
  · conv => lhs; whnf
    conv => lhs; arg 1; whnf
    refine bnd_g (by exact ⟨hp.2.1, hp.2.2.2⟩) ?_
    conv => lhs; whnf
    refine br_c (fun h' => ?_) (fun h' => ?_)
    · conv => lhs; whnf
      simp only [Bool.not_eq_true', decide_eq_false_iff_not] at h'
      rw [decide_eq_false (fun q => h' q.2)]
    · conv => lhs; whnf
      simp at h h'
      simp [h, h']
theorem ok_eqSession : FnOk Try.prog 30 K_eqSession := by
  refine fn_ok (fn := Try.f30) (k := Try.f30.ntmps) (E := E_eqSession) (facts_of (List.forall_mem_cons.2 ⟨ok_eqContext, List.forall_mem_nil _⟩)) (by kernel_rfl) rfl (by decide +kernel) (by decide +kernel) ?_
  intro avs hin r h
  unfold K_eqSession at h
  split at h
  · obtain ⟨hp, rfl⟩ := gd_o h
    exact ⟨_, ev_eqSession _ _ _ _ _ _ _ _ hp, rfl⟩
  · cases h

/- laws.FnExactEqualSession -/
def K_lawEqualSession : List AV → List Ob → Option (AV × List Ob)
  | [.agg [.int .i64 m, .lst (.int .i64) a, .int .i64 n, .lst (.int .i64) b], .agg [.int .i64 m', .lst (.int .i64) a', .int .i64 n', .lst (.int .i64) b']], [] => gd (a.length ≤ maxLen ∧ b.length ≤ maxLen ∧ a'.length ≤ maxLen ∧ b'.length ≤ maxLen) (.bool true, [])
  | _, _ => none
@[reducible] def E_lawEqualSession : Env := mkE (tb [(26, K_szSession), (28, K_toSession), (27, K_specEqualSession), (29, K_implEqualSession), (30, K_eqSession)]) (fun f => false) (fun r => ([], []))
theorem ev_lawEqualSession (m : Int) (a : List Int) (n : Int) (b : List Int) (m' : Int) (a' : List Int) (n' : Int) (b' : List Int) (hp : a.length ≤ maxLen ∧ b.length ≤ maxLen ∧ a'.length ≤ maxLen ∧ b'.length ≤ maxLen) : evF E_lawEqualSession (1) Try.f6 [.agg [.int .i64 m, .lst (.int .i64) a, .int .i64 n, .lst (.int .i64) b], .agg [.int .i64 m', .lst (.int .i64) a', .int .i64 n', .lst (.int .i64) b']] [] = some (.bool true, []) := by
  obtain ⟨p1, p2, p3, p4⟩ := hp
  conv => lhs; whnf
  conv => lhs; arg 1; whnf
  refine bnd_g (by exact ⟨by omega, by omega, p1, p2⟩) ?_
  conv => lhs; whnf
  refine br_c (fun h1 => ?_) (fun h1 => ?_)
  · conv => lhs; whnf
  · conv => lhs; whnf
    obtain ⟨e1, l1⟩ := szI_ok (ofn h1)
    rw [e1]
    conv => lhs; arg 1; whnf
    refine bnd_g (by exact ⟨by omega, by omega, p3, p4⟩) ?_
    conv => lhs; whnf
    refine br_c (fun h2 => ?_) (fun h2 => ?_)
    · conv => lhs; whnf
    · conv => lhs; whnf
      obtain ⟨e2, l2⟩ := szI_ok (ofn h2)
      conv => lhs; arg 1; whnf
      refine bnd_g (by exact ⟨by omega, by omega⟩) ?_
      conv => lhs; whnf
      conv => lhs; arg 1; whnf
      refine bnd_g (by exact ⟨by omega, by omega⟩) ?_
      conv => lhs; whnf
      conv => lhs; arg 1; whnf
      refine bnd_g (by exact ⟨by omega, by omega, by omega, by omega⟩) ?_
      conv => lhs; whnf
      repeat ((first | with_reducible apply br_tt | with_reducible apply br_ff | with_reducible refine br_d ?_ (by kernel_rfl)); conv => lhs; whnf)
      conv => lhs; arg 1; whnf
      refine bnd_g (by exact ⟨by omega, by omega⟩) ?_
      conv => lhs; whnf
      conv => lhs; arg 1; whnf
      refine bnd_g (by exact ⟨by omega, by omega⟩) ?_
      conv => lhs; whnf
      conv => lhs; arg 1; whnf
      refine bnd_g (by exact ⟨by omega, by omega, by omega, by omega⟩) ?_
      conv => lhs; whnf
      refine br_f (by simp) ?_
      conv => lhs; whnf
      conv => lhs; arg 1; whnf
      refine bnd_g (by exact ⟨by omega, by omega⟩) ?_
      conv => lhs; whnf
      conv => lhs; arg 1; whnf
      refine bnd_g (by exact ⟨by omega, by omega, by omega, by omega⟩) ?_
      conv => lhs; whnf
      repeat ((first | with_reducible apply br_tt | with_reducible apply br_ff | with_reducible refine br_d ?_ (by kernel_rfl)); conv => lhs; whnf)
      refine br_f (by simp) ?_
      conv => lhs; whnf
      conv => lhs; arg 1; whnf
      refine bnd_g (by exact ⟨by omega, by omega⟩) ?_
      conv => lhs; whnf
      conv => lhs; arg 1; whnf
      refine bnd_g (by exact ⟨by omega, by omega, by omega, by omega⟩) ?_
      conv => lhs; whnf
      repeat ((first | with_reducible apply br_tt | with_reducible apply br_ff | with_reducible refine br_d ?_ (by kernel_rfl)); conv => lhs; whnf)
      refine br_f (by simp) ?_
      conv => lhs; whnf
theorem ok_lawEqualSession : FnOk Try.prog 6 K_lawEqualSession := by
  refine fn_ok (fn := Try.f6) (k := Try.f6.ntmps) (E := E_lawEqualSession) (facts_of (List.forall_mem_cons.2 ⟨ok_szSession, List.forall_mem_cons.2 ⟨ok_toSession, List.forall_mem_cons.2 ⟨ok_specEqualSession, List.forall_mem_cons.2 ⟨ok_implEqualSession, List.forall_mem_cons.2 ⟨ok_eqSession, List.forall_mem_nil _⟩⟩⟩⟩⟩)) (by kernel_rfl) rfl (by decide +kernel) (by decide +kernel) ?_
  intro avs hin r h
  unfold K_lawEqualSession at h
  split at h
  · obtain ⟨hp, rfl⟩ := gd_o h
    exact ⟨_, ev_lawEqualSession _ _ _ _ _ _ _ _ hp, rfl⟩
  · cases h

end Go.Sym
