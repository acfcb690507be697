/- Functions of the program, each told as a plain equation. -/
import Derived.Test.YtonbmmjagdbgaaaDoorSymN7
namespace Go.Sym
open Go.Proofs
set_option linter.unusedVariables false
set_option linter.unusedSimpArgs false
set_option maxRecDepth 100000
set_option maxHeartbeats 4000000

/- laws.eqIntS -/
def K_eqIntS : List AV → List Ob → Option (AV × List Ob)
  | [.lst (.int .i64) a, .lst (.int .i64) b], [] => gd (a.length < 4611686018427387904 ∧ b.length < 4611686018427387904) (.bool (decide (a = b)), [])
  | _, _ => none
@[reducible] def E_eqIntS : Env := mkE (tb []) (fun f => false) (fun r => bif r == 4 then ([0, 1, 5], [4]) else ([], []))
theorem lp_eqIntS (a b : List Int) (hl : a.length = b.length) (ha : a.length < 4611686018427387904) (k : AX → S → Option (AV × List Ob)) (d : Nat) : ∀ (n i : Nat) (x : Int), a.length - i = d → i ≤ a.length → x = i → d < n →
    lpAt E_eqIntS (lp E_eqIntS 0 n) 0 (loopAt Tryd.f28 0) (mkS [0, 1, 5] [.lst (.int .i64) a, .lst (.int .i64) b, .int .i64 x] []) k =
      if a.drop i = b.drop i then k (.exit 0) (mkS [4] [.any] []) else k .ret (mkS [4] [.bool false] []) := by
  induction d with
  | zero =>
    intro n i x hd hi hx hn
    subst hx
    rw [lpAt_def]
    conv => lhs; whnf
    refine br_f (df (by omega)) ?_
    conv => lhs; whnf
    rw [if_pos (by rw [List.drop_of_length_le (by omega), List.drop_of_length_le (by omega)])]
  | succ d ih =>
    intro n i x hd hi hx hn
    obtain ⟨n, rfl⟩ : ∃ m, n = m + 1 := ⟨n - 1, by omega⟩
    subst hx
    rw [lpAt_def]
    conv => lhs; whnf
    refine br_t (dt (by omega)) ?_
    conv => lhs; whnf
    refine br_t (dt2 (by omega) (by omega)) ?_
    conv => lhs; whnf
    refine br_t (dt2 (by omega) (by omega)) ?_
    conv => lhs; whnf
    rw [getD_drop (l := a) (i := i) (d := 0) (by omega), getD_drop (l := b) (i := i) (d := 0) (by omega)]
    refine br_t (by kernel_rfl) ?_
    conv => lhs; whnf
    refine br_c (fun h => ?_) (fun h => ?_)
    · conv => lhs; whnf
      rw [if_neg]
      intro he
      have := (List.cons.inj he).1
      simp at h
      exact h this
    · conv => lhs; whnf
      rw [ih n (i + 1) _ (by omega) (by omega) (by rw [wrap64 (by omega) (by omega)]; simp) (by omega)]
      simp at h
      simp [h]
theorem ev_eqIntS (a b : List Int) (hp : a.length < 4611686018427387904 ∧ b.length < 4611686018427387904) : evF E_eqIntS (a.length + 2) Tryd.f28 [.lst (.int .i64) a, .lst (.int .i64) b] [] = some (.bool (decide (a = b)), []) := by
  conv => lhs; whnf
  refine br_c (fun h => ?_) (fun h => ?_)
  · conv => lhs; whnf
    have : a ≠ b := by
      rintro rfl
      simp at h
    simp [this]
  · conv => lhs; whnf
    have hl : a.length = b.length := by simp at h; omega
    refine (lp_eqIntS a b hl hp.1 _ _ _ 0 0 rfl (by omega) rfl (by omega)).trans ?_
    simp only [List.drop_zero]
    split
    · rename_i he
      conv => lhs; whnf
      simp [he]
    · rename_i he
      conv => lhs; whnf
      simp [he]
theorem ok_eqIntS : FnOk Tryd.prog 28 K_eqIntS := by
  refine fn_ok (fn := Tryd.f28) (k := Tryd.f28.ntmps) (E := E_eqIntS) (facts_of (List.forall_mem_nil _)) (by kernel_rfl) rfl (by decide +kernel) (by decide +kernel) ?_
  intro avs hin r h
  unfold K_eqIntS at h
  split at h
  · obtain ⟨hp, rfl⟩ := gd_o h
    exact ⟨_, ev_eqIntS _ _ hp, rfl⟩
  · cases h

/- laws.eqContext -/
def K_eqContext : List AV → List Ob → Option (AV × List Ob)
  | [.agg [.int .i64 m, .lst (.int .i64) a], .agg [.int .i64 m', .lst (.int .i64) a']], [] => gd (a.length < 4611686018427387904 ∧ a'.length < 4611686018427387904) (.bool (decide (m = m' ∧ a = a')), [])
  | _, _ => none
@[reducible] def E_eqContext : Env := mkE (tb [(28, K_eqIntS)]) (fun f => false) (fun r => ([], []))
theorem ev_eqContext (m : Int) (a : List Int) (m' : Int) (a' : List Int) (hp : a.length < 4611686018427387904 ∧ a'.length < 4611686018427387904) : evF E_eqContext (1) Tryd.f15 [.agg [.int .i64 m, .lst (.int .i64) a], .agg [.int .i64 m', .lst (.int .i64) a']] [] = some (.bool (decide (m = m' ∧ a = a')), []) := by
  conv => lhs; whnf
  refine br_c (fun h => ?_) (fun h => ?_)
  · conv => lhs; whnf
    simp at h
    simp [h]
  · conv => lhs; whnf
    conv => lhs; arg 1; whnf
    refine bnd_g (by exact ⟨hp.1, hp.2⟩) ?_
    conv => lhs; whnf
    refine br_c (fun h' => ?_) (fun h' => ?_)
    · conv => lhs; whnf
      simp at h h'
      simp [h']
    · conv => lhs; whnf
      simp at h h'
      simp [h, h']
theorem ok_eqContext : FnOk Tryd.prog 15 K_eqContext := by
  refine fn_ok (fn := Tryd.f15) (k := Tryd.f15.ntmps) (E := E_eqContext) (facts_of (List.forall_mem_cons.2 ⟨ok_eqIntS, List.forall_mem_nil _⟩)) (by kernel_rfl) rfl (by decide +kernel) (by decide +kernel) ?_
  intro avs hin r h
  unfold K_eqContext at h
  split at h
  · obtain ⟨hp, rfl⟩ := gd_o h
    exact ⟨_, ev_eqContext _ _ _ _ hp, rfl⟩
  · cases h

/- laws.eqSession -/
def K_eqSession : List AV → List Ob → Option (AV × List Ob)
  | [.agg [.int .i64 m, .lst (.int .i64) a, .int .i64 n, .lst (.int .i64) b], .agg [.int .i64 m', .lst (.int .i64) a', .int .i64 n', .lst (.int .i64) b']], [] => gd (a.length < 4611686018427387904 ∧ b.length < 4611686018427387904 ∧ a'.length < 4611686018427387904 ∧ b'.length < 4611686018427387904) (.bool (decide ((m = m' ∧ a = a') ∧ (n = n' ∧ b = b'))), [])
  | _, _ => none
@[reducible] def E_eqSession : Env := mkE (tb [(15, K_eqContext)]) (fun f => false) (fun r => ([], []))
theorem ev_eqSession (m : Int) (a : List Int) (n : Int) (b : List Int) (m' : Int) (a' : List Int) (n' : Int) (b' : List Int) (hp : a.length < 4611686018427387904 ∧ b.length < 4611686018427387904 ∧ a'.length < 4611686018427387904 ∧ b'.length < 4611686018427387904) : evF E_eqSession (1) Tryd.f6 [.agg [.int .i64 m, .lst (.int .i64) a, .int .i64 n, .lst (.int .i64) b], .agg [.int .i64 m', .lst (.int .i64) a', .int .i64 n', .lst (.int .i64) b']] [] = some (.bool (decide ((m = m' ∧ a = a') ∧ (n = n' ∧ b = b'))), []) := by
  conv => lhs; whnf
  conv => lhs; arg 1; whnf
  refine bnd_g (by exact ⟨hp.1, hp.2.2.1⟩) ?_
  conv => lhs; whnf
  refine br_c (fun h => ?_) (fun h => ?_)
  · conv => lhs; whnf
    simp only [Bool.not_eq_true', decide_eq_false_iff_not] at h
    rw [decide_eq_false (fun q => h q.1)]
  · conv => lhs; whnf
    conv => lhs; arg 1; whnf
    refine bnd_g (by exact ⟨hp.2.1, hp.2.2.2⟩) ?_
    conv => lhs; whnf
    refine br_c (fun h' => ?_) (fun h' => ?_)
    · conv => lhs; whnf
      simp only [Bool.not_eq_true', decide_eq_false_iff_not] at h'
      rw [decide_eq_false (fun q => h' q.2)]
    · conv => lhs; whnf
      simp at h h'
      simp [h, h']
theorem ok_eqSession : FnOk Tryd.prog 6 K_eqSession := by
  refine fn_ok (fn := Tryd.f6) (k := Tryd.f6.ntmps) (E := E_eqSession) (facts_of (List.forall_mem_cons.2 ⟨ok_eqContext, List.forall_mem_nil _⟩)) (by kernel_rfl) rfl (by decide +kernel) (by decide +kernel) ?_
  intro avs hin r h
  unfold K_eqSession at h
  split at h
  · obtain ⟨hp, rfl⟩ := gd_o h
    exact ⟨_, ev_eqSession _ _ _ _ _ _ _ _ hp, rfl⟩
  · cases h

/- laws.heldIntS -/
def K_heldIntS : List AV → List Ob → Option (AV × List Ob)
  | [.lst (.int .i64) a, .int .i64 q], [] => gd (a.length ≤ 16777216 ∧ 0 ≤ q ∧ q ≤ 1152921504606846976) (.int .i64 (held a q), [])
  | _, _ => none
@[reducible] def E_heldIntS : Env := mkE (tb []) (fun f => false) (fun r => bif r == 2 then ([0, 1, 5], [1, 4]) else ([], []))
theorem lp_heldIntS (a : List Int) (ha : a.length ≤ 16777216) (k : AX → S → Option (AV × List Ob)) (r : Option (AV × List Ob)) (hk : ∀ q, k .ret (mkS [1, 4] [.int .i64 q, .int .i64 (-1)] []) = r) (d : Nat) : ∀ (n i : Nat) (x q : Int), a.length - i = d → i ≤ a.length → 0 ≤ q → q ≤ 1152921504606846976 + i → x = i → d < n →
    lpAt E_heldIntS (lp E_heldIntS 0 n) 0 (loopAt Tryd.f30 0) (mkS [0, 1, 5] [.lst (.int .i64) a, .int .i64 q, .int .i64 x] []) k =
      if a.drop i = iotaI q d then k (.exit 0) (mkS [1, 4] [.int .i64 (q + d), .any] []) else r := by
  induction d with
  | zero =>
    intro n i x q hd hi hq hq' hx hn
    subst hx
    rw [lpAt_def]
    conv => lhs; whnf
    refine br_f (df (by omega)) ?_
    conv => lhs; whnf
    rw [if_pos (by rw [List.drop_of_length_le (by omega)]; rfl)]
    simp
  | succ d ih =>
    intro n i x q hd hi hq hq' hx hn
    obtain ⟨n, rfl⟩ : ∃ m, n = m + 1 := ⟨n - 1, by omega⟩
    subst hx
    rw [lpAt_def]
    conv => lhs; whnf
    refine br_t (dt (by omega)) ?_
    conv => lhs; whnf
    refine br_t (dt2 (by omega) (by omega)) ?_
    conv => lhs; whnf
    rw [getD_drop (l := a) (i := i) (d := 0) (by omega)]
    refine br_c (fun h => ?_) (fun h => ?_)
    · conv => lhs; whnf
      rw [if_neg]
      · exact hk _
      · intro he
        have := (List.cons.inj he).1
        simp at h
        exact h this
    · conv => lhs; whnf
      rw [wrap64 (n := q + 1) (by omega) (by omega)]
      rw [ih n (i + 1) _ (q + 1) (by omega) (by omega) (by omega) (by omega) (by rw [wrap64 (by omega) (by omega)]; simp) (by omega)]
      have e1 : q + 1 + (d : Int) = q + ((d + 1 : Nat) : Int) := by push_cast; omega
      rw [e1]
      simp at h
      simp [h, iotaI]
theorem ev_heldIntS (a : List Int) (q : Int) (hp : a.length ≤ 16777216 ∧ 0 ≤ q ∧ q ≤ 1152921504606846976) : evF E_heldIntS (a.length + 2) Tryd.f30 [.lst (.int .i64) a, .int .i64 q] [] = some (.int .i64 (held a q), []) := by
  conv => lhs; whnf
  refine (lp_heldIntS a hp.1 _ _ (fun _ => by conv => lhs; whnf; rfl) a.length _ 0 0 q rfl (by omega) hp.2.1 (by omega) rfl (by omega)).trans ?_
  simp only [List.drop_zero]
  unfold held
  split
  · rename_i he
    conv => lhs; whnf
  · rename_i he
    rfl
theorem ok_heldIntS : FnOk Tryd.prog 30 K_heldIntS := by
  refine fn_ok (fn := Tryd.f30) (k := Tryd.f30.ntmps) (E := E_heldIntS) (facts_of (List.forall_mem_nil _)) (by kernel_rfl) rfl (by decide +kernel) (by decide +kernel) ?_
  intro avs hin r h
  unfold K_heldIntS at h
  split at h
  · obtain ⟨hp, rfl⟩ := gd_o h
    exact ⟨_, ev_heldIntS _ _ hp, rfl⟩
  · cases h

/- laws.heldContext -/
def K_heldContext : List AV → List Ob → Option (AV × List Ob)
  | [.agg [.int .i64 m, .lst (.int .i64) a], .int .i64 q], [] => gd (a.length ≤ 16777216 ∧ 0 ≤ q ∧ q ≤ 1152921504606846976) (.int .i64 (held a q), [])
  | _, _ => none
@[reducible] def E_heldContext : Env := mkE (tb [(30, K_heldIntS)]) (fun f => false) (fun r => ([], []))
theorem ev_heldContext (m : Int) (a : List Int) (q : Int) (hp : a.length ≤ 16777216 ∧ 0 ≤ q ∧ q ≤ 1152921504606846976) : evF E_heldContext (1) Tryd.f17 [.agg [.int .i64 m, .lst (.int .i64) a], .int .i64 q] [] = some (.int .i64 (held a q), []) := by
  conv => lhs; whnf
  conv => lhs; arg 1; whnf
  refine bnd_g (by exact hp) ?_
  conv => lhs; whnf
  refine br_c (fun h => ?_) (fun h => ?_)
  · conv => lhs; whnf
    have h := ofd h
    unfold held at h ⊢
    split at h
    · omega
    · rename_i h5; rw [if_neg h5]
  · conv => lhs; whnf
theorem ok_heldContext : FnOk Tryd.prog 17 K_heldContext := by
  refine fn_ok (fn := Tryd.f17) (k := Tryd.f17.ntmps) (E := E_heldContext) (facts_of (List.forall_mem_cons.2 ⟨ok_heldIntS, List.forall_mem_nil _⟩)) (by kernel_rfl) rfl (by decide +kernel) (by decide +kernel) ?_
  intro avs hin r h
  unfold K_heldContext at h
  split at h
  · obtain ⟨hp, rfl⟩ := gd_o h
    exact ⟨_, ev_heldContext _ _ _ hp, rfl⟩
  · cases h

/- laws.heldSession -/
def K_heldSession : List AV → List Ob → Option (AV × List Ob)
  | [.agg [.int .i64 m, .lst (.int .i64) a, .int .i64 n, .lst (.int .i64) b], .int .i64 q], [] => gd ((a.length ≤ 1000 ∧ b.length ≤ 1000) ∧ (0 ≤ q ∧ q ≤ 1000000) ∧ a = iotaI q a.length ∧ b = iotaI (q + a.length) b.length) (.int .i64 (q + a.length + b.length), [])
  | _, _ => none
@[reducible] def E_heldSession : Env := mkE (tb [(17, K_heldContext)]) (fun f => false) (fun r => ([], []))
theorem ev_heldSession (m : Int) (a : List Int) (n : Int) (b : List Int) (q : Int) (hp : (a.length ≤ 1000 ∧ b.length ≤ 1000) ∧ (0 ≤ q ∧ q ≤ 1000000) ∧ a = iotaI q a.length ∧ b = iotaI (q + a.length) b.length) : evF E_heldSession (1) Tryd.f8 [.agg [.int .i64 m, .lst (.int .i64) a, .int .i64 n, .lst (.int .i64) b], .int .i64 q] [] = some (.int .i64 (q + a.length + b.length), []) := by
  have h1 := hp.1
  have h2 := hp.2.1
  have e1 : held a q = q + a.length := by unfold held; rw [if_pos hp.2.2.1]
  have e2 : held b (held a q) = q + a.length + b.length := by rw [e1]; unfold held; rw [if_pos hp.2.2.2]
  conv => rhs; rw [← e2]
  conv => lhs; whnf
  conv => lhs; arg 1; whnf
  refine bnd_g (by exact ⟨by omega, by omega, by omega⟩) ?_
  conv => lhs; whnf
  refine br_f (df (by rw [e1]; omega)) ?_
  conv => lhs; whnf
  conv => lhs; arg 1; whnf
  refine bnd_g (by exact ⟨by omega, by rw [e1]; omega, by rw [e1]; omega⟩) ?_
  conv => lhs; whnf
  refine br_f (df (by rw [e2]; omega)) ?_
  conv => lhs; whnf
theorem ok_heldSession : FnOk Tryd.prog 8 K_heldSession := by
  refine fn_ok (fn := Tryd.f8) (k := Tryd.f8.ntmps) (E := E_heldSession) (facts_of (List.forall_mem_cons.2 ⟨ok_heldContext, List.forall_mem_nil _⟩)) (by kernel_rfl) rfl (by decide +kernel) (by decide +kernel) ?_
  intro avs hin r h
  unfold K_heldSession at h
  split at h
  · obtain ⟨hp, rfl⟩ := gd_o h
    exact ⟨_, ev_heldSession _ _ _ _ _ hp, rfl⟩
  · cases h

/- laws.markIntS -/
def K_markIntS : List AV → List Ob → Option (AV × List Ob)
  | [.own 0, .int .i64 q], [.row 3 (.int .i64) a] => gd (a.length ≤ 16777216 ∧ 0 ≤ q ∧ q ≤ 1152921504606846976) (.int .i64 (q + a.length), [.row 3 (.int .i64) (iotaI q a.length)])
  | _, _ => none
@[reducible] def E_markIntS : Env := mkE (tb []) (fun f => false) (fun r => bif r == 2 then ([0, 1, 5], [1]) else ([], []))
theorem lp_markIntS (k : AX → S → Option (AV × List Ob)) (d : Nat) : ∀ (n i : Nat) (x q : Int) (ys : List Int), ys.length - i = d → i ≤ ys.length → ys.length ≤ 16777216 → 0 ≤ q → q ≤ 1152921504606846976 + i → x = i → d < n →
    lpAt E_markIntS (lp E_markIntS 1 n) 1 (loopAt Tryd.f29 0) (mkS [0, 1, 5] [.own 0, .int .i64 q, .int .i64 x] [some (.row 3 (.int .i64) ys)]) k =
      k (.exit 0) (mkS [1] [.int .i64 (q + d)] [some (.row 3 (.int .i64) (ys.take i ++ iotaI q d))]) := by
  induction d with
  | zero =>
    intro n i x q ys hd hi hl hq hq' hx hn
    subst hx
    rw [lpAt_def]
    conv => lhs; whnf
    refine br_f (df (by omega)) ?_
    conv => lhs; whnf
    simp only [iotaI, List.append_nil, List.take_of_length_le (show ys.length ≤ i by omega)]
    simp
  | succ d ih =>
    intro n i x q ys hd hi hl hq hq' hx hn
    obtain ⟨n, rfl⟩ : ∃ m, n = m + 1 := ⟨n - 1, by omega⟩
    subst hx
    rw [lpAt_def]
    conv => lhs; whnf
    refine br_t (dt (by omega)) ?_
    conv => lhs; whnf
    refine br_t (dt2 (by omega) (by omega)) ?_
    conv => lhs; whnf
    refine br_t (dt (by omega)) ?_
    conv => lhs; whnf
    rw [wrap64 (n := q + 1) (by omega) (by omega)]
    rw [ih n (i + 1) _ (q + 1) _ (by simp; omega) (by simp; omega) (by simp; omega) (by omega) (by omega) (by rw [wrap64 (by omega) (by omega)]; simp) (by omega)]
    simp only [Int.toNat_natCast]
    rw [take_set_succ (by omega)]
    have e1 : q + 1 + (d : Int) = q + ((d + 1 : Nat) : Int) := by push_cast; omega
    rw [e1]
    simp [iotaI]
theorem ev_markIntS (a : List Int) (q : Int) (hp : a.length ≤ 16777216 ∧ 0 ≤ q ∧ q ≤ 1152921504606846976) : evF E_markIntS (a.length + 2) Tryd.f29 [.own 0, .int .i64 q] [.row 3 (.int .i64) a] = some (.int .i64 (q + a.length), [.row 3 (.int .i64) (iotaI q a.length)]) := by
  conv => lhs; whnf
  refine (lp_markIntS _ a.length _ 0 0 q a rfl (by omega) hp.1 hp.2.1 (by omega) rfl (by omega)).trans ?_
  conv => lhs; whnf
  simp
theorem ok_markIntS : FnOk Tryd.prog 29 K_markIntS := by
  refine fn_ok (fn := Tryd.f29) (k := Tryd.f29.ntmps) (E := E_markIntS) (facts_of (List.forall_mem_nil _)) (by kernel_rfl) rfl (by decide +kernel) (by decide +kernel) ?_
  intro avs hin r h
  unfold K_markIntS at h
  split at h
  · obtain ⟨hp, rfl⟩ := gd_o h
    exact ⟨_, ev_markIntS _ _ hp, rfl⟩
  · cases h

/- laws.markContext -/
def K_markContext : List AV → List Ob → Option (AV × List Ob)
  | [.agg [.int .i64 m, .own 0], .int .i64 q], [.row 3 (.int .i64) a] => gd (a.length ≤ 16777216 ∧ 0 ≤ q ∧ q ≤ 1152921504606846976) (.int .i64 (q + a.length), [.row 3 (.int .i64) (iotaI q a.length)])
  | _, _ => none
@[reducible] def E_markContext : Env := mkE (tb [(29, K_markIntS)]) (fun f => [29].contains f) (fun r => ([], []))
theorem ev_markContext (m : Int) (a : List Int) (q : Int) (hp : a.length ≤ 16777216 ∧ 0 ≤ q ∧ q ≤ 1152921504606846976) : evF E_markContext (1) Tryd.f16 [.agg [.int .i64 m, .own 0], .int .i64 q] [.row 3 (.int .i64) a] = some (.int .i64 (q + a.length), [.row 3 (.int .i64) (iotaI q a.length)]) := by
  conv => lhs; whnf
  conv => lhs; arg 1; whnf
  refine bnd_g (by exact hp) ?_
  conv => lhs; whnf
theorem ok_markContext : FnOk Tryd.prog 16 K_markContext := by
  refine fn_ok (fn := Tryd.f16) (k := Tryd.f16.ntmps) (E := E_markContext) (facts_of (List.forall_mem_cons.2 ⟨ok_markIntS, List.forall_mem_nil _⟩)) (by kernel_rfl) rfl (by decide +kernel) (by decide +kernel) ?_
  intro avs hin r h
  unfold K_markContext at h
  split at h
  · obtain ⟨hp, rfl⟩ := gd_o h
    exact ⟨_, ev_markContext _ _ _ hp, rfl⟩
  · cases h

/- laws.markSession -/
def K_markSession : List AV → List Ob → Option (AV × List Ob)
  | [.agg [.int .i64 m, .own 0, .int .i64 n, .own 1], .int .i64 q], [.row 3 (.int .i64) a, .row 3 (.int .i64) b] => gd ((a.length ≤ 1000 ∧ b.length ≤ 1000) ∧ 0 ≤ q ∧ q ≤ 1000000) (.int .i64 (q + a.length + b.length), [.row 3 (.int .i64) (iotaI q a.length), .row 3 (.int .i64) (iotaI (q + a.length) b.length)])
  | _, _ => none
@[reducible] def E_markSession : Env := mkE (tb [(16, K_markContext)]) (fun f => [16].contains f) (fun r => ([], []))
theorem ev_markSession (m : Int) (a : List Int) (n : Int) (b : List Int) (q : Int) (hp : (a.length ≤ 1000 ∧ b.length ≤ 1000) ∧ 0 ≤ q ∧ q ≤ 1000000) : evF E_markSession (1) Tryd.f7 [.agg [.int .i64 m, .own 0, .int .i64 n, .own 1], .int .i64 q] [.row 3 (.int .i64) a, .row 3 (.int .i64) b] = some (.int .i64 (q + a.length + b.length), [.row 3 (.int .i64) (iotaI q a.length), .row 3 (.int .i64) (iotaI (q + a.length) b.length)]) := by
  have h1 := hp.1
  have h2 := hp.2
  conv => lhs; whnf
  conv => lhs; arg 1; whnf
  refine bnd_g (by exact ⟨by omega, by omega, by omega⟩) ?_
  conv => lhs; whnf
  conv => lhs; arg 1; whnf
  refine bnd_g (by exact ⟨by omega, by omega, by omega⟩) ?_
  conv => lhs; whnf
theorem ok_markSession : FnOk Tryd.prog 7 K_markSession := by
  refine fn_ok (fn := Tryd.f7) (k := Tryd.f7.ntmps) (E := E_markSession) (facts_of (List.forall_mem_cons.2 ⟨ok_markContext, List.forall_mem_nil _⟩)) (by kernel_rfl) rfl (by decide +kernel) (by decide +kernel) ?_
  intro avs hin r h
  unfold K_markSession at h
  split at h
  · obtain ⟨hp, rfl⟩ := gd_o h
    exact ⟨_, ev_markSession _ _ _ _ _ hp, rfl⟩
  · cases h

/- laws.FnExactNewSession -/
def K_lawNewSession : List AV → List Ob → Option (AV × List Ob)
  | [], [] => gd (True) (.bool true, [])
  | _, _ => none
@[reducible] def E_lawNewSession : Env := mkE (tb [(4, K_specNewSession), (5, K_implNewSession), (6, K_eqSession), (8, K_heldSession), (7, K_markSession)]) (fun f => [7].contains f) (fun r => ([], []))
theorem ev_lawNewSession  (hp : True) : evF E_lawNewSession (1) Tryd.f3 [] [] = some (.bool true, []) := by
  conv => lhs; whnf
  conv => lhs; arg 1; whnf
  refine bnd_g (by exact True.intro) ?_
  conv => lhs; whnf
  conv => lhs; arg 1; whnf
  refine bnd_g (by exact True.intro) ?_
  conv => lhs; whnf
  conv => lhs; arg 1; whnf
  refine bnd_g (by exact ⟨by decide, by decide, by decide, by decide⟩) ?_
  conv => lhs; whnf
  repeat ((first | with_reducible apply br_tt | with_reducible apply br_ff | with_reducible apply br_nf | with_reducible apply br_nt | with_reducible refine br_d ?_ (by kernel_rfl) | with_reducible refine br_f (by simp; done) ?_); conv => lhs; whnf)
  conv => lhs; arg 1; whnf
  refine bnd_g (by exact ⟨⟨by decide, by decide⟩, by decide, by decide⟩) ?_
  conv => lhs; whnf
  repeat ((first | with_reducible apply br_tt | with_reducible apply br_ff | with_reducible apply br_nf | with_reducible apply br_nt | with_reducible refine br_d ?_ (by kernel_rfl) | with_reducible refine br_f (by simp; done) ?_); conv => lhs; whnf)
  conv => lhs; arg 1; whnf
  refine bnd_g (by exact ⟨⟨by decide, by decide⟩, ⟨by decide, by decide⟩, by decide, by decide⟩) ?_
  conv => lhs; whnf
  repeat ((first | with_reducible apply br_tt | with_reducible apply br_ff | with_reducible apply br_nf | with_reducible apply br_nt | with_reducible refine br_d ?_ (by kernel_rfl) | with_reducible refine br_f (by simp; done) ?_); conv => lhs; whnf)
  conv => lhs; arg 1; whnf
  refine bnd_g (by exact True.intro) ?_
  conv => lhs; whnf
  conv => lhs; arg 1; whnf
  refine bnd_g (by exact ⟨by decide, by decide, by decide, by decide⟩) ?_
  conv => lhs; whnf
  repeat ((first | with_reducible apply br_tt | with_reducible apply br_ff | with_reducible apply br_nf | with_reducible apply br_nt | with_reducible refine br_d ?_ (by kernel_rfl) | with_reducible refine br_f (by simp; done) ?_); conv => lhs; whnf)
  conv => lhs; arg 1; whnf
  refine bnd_g (by exact ⟨⟨by decide, by decide⟩, ⟨by decide, by decide⟩, by decide, by decide⟩) ?_
  conv => lhs; whnf
  repeat ((first | with_reducible apply br_tt | with_reducible apply br_ff | with_reducible apply br_nf | with_reducible apply br_nt | with_reducible refine br_d ?_ (by kernel_rfl) | with_reducible refine br_f (by simp; done) ?_); conv => lhs; whnf)
theorem ok_lawNewSession : FnOk Tryd.prog 3 K_lawNewSession := by
  refine fn_ok (fn := Tryd.f3) (k := Tryd.f3.ntmps) (E := E_lawNewSession) (facts_of (List.forall_mem_cons.2 ⟨ok_specNewSession, List.forall_mem_cons.2 ⟨ok_implNewSession, List.forall_mem_cons.2 ⟨ok_eqSession, List.forall_mem_cons.2 ⟨ok_heldSession, List.forall_mem_cons.2 ⟨ok_markSession, List.forall_mem_nil _⟩⟩⟩⟩⟩)) (by kernel_rfl) rfl (by decide +kernel) (by decide +kernel) ?_
  intro avs hin r h
  unfold K_lawNewSession at h
  split at h
  · obtain ⟨hp, rfl⟩ := gd_o h
    exact ⟨_, ev_lawNewSession hp, rfl⟩
  · cases h

end Go.Sym
