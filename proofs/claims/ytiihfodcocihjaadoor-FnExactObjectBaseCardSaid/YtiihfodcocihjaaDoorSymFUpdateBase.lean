/- Functions of the program, each told as a plain equation. -/
import Derived.Test.YtiihfodcocihjaaDoorSymW5
namespace Go.Sym
open Go.Proofs
set_option linter.unusedVariables false
set_option linter.unusedSimpArgs false
set_option maxRecDepth 100000
set_option maxHeartbeats 4000000

/- impl.InsertRow -/
def K_implInsertRow : List AV → List Ob → Option (AV × List Ob)
  | [.agg [.int .i64 m, .lst (.int .i64) a], .int .i64 r], [] => gd (a.length ≤ 1048576) (.tup [.agg [.int .i64 (insF m a r).1, .own 0], .bool (insF m a r).2.2], [.row 3 (.int .i64) (insF m a r).2.1])
  | _, _ => none
@[reducible] def E_implInsertRow : Env := mkE (tb [(130, K_areAttributes), (134, K_cloneInt)]) (fun f => false) (fun r => ([], []))
theorem ev_implInsertRow (m : Int) (a : List Int) (r : Int) (hp : a.length ≤ 1048576) : evF E_implInsertRow (1) Tryd.f84 [.agg [.int .i64 m, .lst (.int .i64) a], .int .i64 r] [] = some (.tup [.agg [.int .i64 (insF m a r).1, .own 0], .bool (insF m a r).2.2], [.row 3 (.int .i64) (insF m a r).2.1]) := by
  conv => lhs; whnf
  conv => lhs; arg 1; whnf
  refine bnd_g (by omega) ?_
  conv => lhs; whnf
  refine br_c (fun h => ?_) (fun h => ?_)
  · have hf : insF m a r = (0, [], false) := by
      unfold insF
      rw [bnt h]
      rfl
    rw [hf]
    conv => lhs; whnf
    repeat ((first | with_reducible apply br_tt | with_reducible apply br_ff | with_reducible apply br_nf | with_reducible apply br_nt | with_reducible refine br_d ?_ (by kernel_rfl) | with_reducible apply br_t h | with_reducible apply br_f h); conv => lhs; whnf)
  · conv => lhs; whnf
    repeat ((first | with_reducible apply br_tt | with_reducible apply br_ff | with_reducible apply br_nf | with_reducible apply br_nt | with_reducible refine br_d ?_ (by kernel_rfl) | with_reducible apply br_t h | with_reducible apply br_f h); conv => lhs; whnf)
    have h' := bnf h
    have hl := (isCtx_len (Bool.and_eq_true_iff.1 h').1).1
    refine br_c (fun h3 => ?_) (fun h3 => ?_)
    · have hf : insF m a r = (0, [], false) := by
        unfold insF
        have : (a.length : Int) = 8 := by simpa using h3
        rw [h', df (by omega)]
        rfl
      rw [hf]
      conv => lhs; whnf
    · have hf : insF m a r = (m, a ++ [r], true) := by
        unfold insF
        have : ¬ (a.length : Int) = 8 := by simpa using h3
        rw [h', dt (by omega)]
        rfl
      rw [hf]
      conv => lhs; whnf
      conv => lhs; arg 1; whnf
      refine bnd_g (by exact hp) ?_
      conv => lhs; whnf
      refine br_t (dt (by simp [room]; omega)) ?_
      conv => lhs; whnf
      repeat ((first | with_reducible apply br_tt | with_reducible apply br_ff | with_reducible apply br_nf | with_reducible apply br_nt | with_reducible refine br_d ?_ (by kernel_rfl)); conv => lhs; whnf)
theorem ok_implInsertRow : FnOk Tryd.prog 84 K_implInsertRow := by
  refine fn_ok (fn := Tryd.f84) (k := Tryd.f84.ntmps) (E := E_implInsertRow) (facts_of (List.forall_mem_cons.2 ⟨ok_areAttributes, List.forall_mem_cons.2 ⟨ok_cloneInt, List.forall_mem_nil _⟩⟩)) (by kernel_rfl) rfl (by decide +kernel) (by decide +kernel) ?_
  intro avs hin r h
  unfold K_implInsertRow at h
  split at h
  · obtain ⟨hp, rfl⟩ := gd_o h
    exact ⟨_, ev_implInsertRow _ _ _ hp, rfl⟩
  · cases h

/- impl.UpdateBase -/
def K_implUpdateBase : List AV → List Ob → Option (AV × List Ob)
  | [.agg [.int .i64 m, .lst (.int .i64) a], .int .i64 r], [] => gd (a.length ≤ 1048576) (.tup [.own 0, .bool (insF m a r).2.2], [.row 106 (.pair (.int .i64) (.int .i64)) (updB m a r)])
  | _, _ => none
@[reducible] def E_implUpdateBase : Env := mkE (tb [(84, K_implInsertRow), (109, K_implStem)]) (fun f => false) (fun r => ([], []))
theorem ev_implUpdateBase (m : Int) (a : List Int) (r : Int) (hp : a.length ≤ 1048576) : evF E_implUpdateBase (1) Tryd.f55 [.agg [.int .i64 m, .lst (.int .i64) a], .int .i64 r] [] = some (.tup [.own 0, .bool (insF m a r).2.2], [.row 106 (.pair (.int .i64) (.int .i64)) (updB m a r)]) := by
  conv => lhs; whnf
  conv => lhs; arg 1; whnf
  refine bnd_g (by exact hp) ?_
  conv => lhs; whnf
  refine br_c (fun h => ?_) (fun h => ?_)
  · unfold updB
    rw [bnt h]
    conv => lhs; whnf
    rfl
  · have hc := insF_ctx (bnf h)
    unfold updB
    rw [bnf h]
    conv => lhs; whnf
    conv => lhs; arg 1; whnf
    refine bnd_g (by exact hc) ?_
    conv => lhs; whnf
    rfl
theorem ok_implUpdateBase : FnOk Tryd.prog 55 K_implUpdateBase := by
  refine fn_ok (fn := Tryd.f55) (k := Tryd.f55.ntmps) (E := E_implUpdateBase) (facts_of (List.forall_mem_cons.2 ⟨ok_implInsertRow, List.forall_mem_cons.2 ⟨ok_implStem, List.forall_mem_nil _⟩⟩)) (by kernel_rfl) rfl (by decide +kernel) (by decide +kernel) ?_
  intro avs hin r h
  unfold K_implUpdateBase at h
  split at h
  · obtain ⟨hp, rfl⟩ := gd_o h
    exact ⟨_, ev_implUpdateBase _ _ _ hp, rfl⟩
  · cases h

/- laws.eqRule -/
def K_eqRule : List AV → List Ob → Option (AV × List Ob)
  | [.agg [.int .i64 p, .int .i64 q], .agg [.int .i64 p', .int .i64 q']], [] => gd (True) (.bool (decide ((p, q) = (p', q'))), [])
  | _, _ => none
@[reducible] def E_eqRule : Env := mkE (tb []) (fun f => false) (fun r => ([], []))
theorem ev_eqRule (p q p' q' : Int) (hp : True) : evF E_eqRule (1) Tryd.f110 [.agg [.int .i64 p, .int .i64 q], .agg [.int .i64 p', .int .i64 q']] [] = some (.bool (decide ((p, q) = (p', q'))), []) := by
  conv => lhs; whnf
  refine br_c (fun h => ?_) (fun h => ?_)
  · conv => lhs; whnf
    simp at h
    simp [h]
  · conv => lhs; whnf
    refine br_c (fun h' => ?_) (fun h' => ?_)
    · conv => lhs; whnf
      simp at h h'
      simp [h']
    · conv => lhs; whnf
      simp at h h'
      simp [h, h']
theorem ok_eqRule : FnOk Tryd.prog 110 K_eqRule := by
  refine fn_ok (fn := Tryd.f110) (k := Tryd.f110.ntmps) (E := E_eqRule) (facts_of (List.forall_mem_nil _)) (by kernel_rfl) rfl (by decide +kernel) (by decide +kernel) ?_
  intro avs hin r h
  unfold K_eqRule at h
  split at h
  · obtain ⟨hp, rfl⟩ := gd_o h
    exact ⟨_, ev_eqRule _ _ _ _ hp, rfl⟩
  · cases h

/- laws.eqRuleS -/
def K_eqRuleS : List AV → List Ob → Option (AV × List Ob)
  | [.lst (.pair (.int .i64) (.int .i64)) a, .lst (.pair (.int .i64) (.int .i64)) b], [] => gd (a.length < 4611686018427387904 ∧ b.length < 4611686018427387904) (.bool (decide (a = b)), [])
  | _, _ => none
@[reducible] def E_eqRuleS : Env := mkE (tb [(110, K_eqRule)]) (fun f => false) (fun r => bif r == 4 then ([0, 1, 5], [4]) else ([], []))
theorem lp_eqRuleS (a b : List (Int × Int)) (hl : a.length = b.length) (ha : a.length < 4611686018427387904) (k : AX → S → Option (AV × List Ob)) (d : Nat) : ∀ (n i : Nat) (x : Int), a.length - i = d → i ≤ a.length → x = i → d < n →
    lpAt E_eqRuleS (lp E_eqRuleS 0 n) 0 (loopAt Tryd.f56 0) (mkS [0, 1, 5] [.lst (.pair (.int .i64) (.int .i64)) a, .lst (.pair (.int .i64) (.int .i64)) b, .int .i64 x] []) k =
      if a.drop i = b.drop i then k (.exit 0) (mkS [4] [.any] []) else k .ret (mkS [4] [.bool false] []) := by
  induction d with
  | zero =>
    intro n i x hd hi hx hn
    subst hx
    rw [lpAt_def]
    conv => lhs; whnf
    refine br_f (df (by omega)) ?_
    conv => lhs; whnf
    rw [if_pos (by rw [List.drop_of_length_le (by omega), List.drop_of_length_le (by omega)])]
  | succ d ih =>
    intro n i x hd hi hx hn
    obtain ⟨n, rfl⟩ : ∃ m, n = m + 1 := ⟨n - 1, by omega⟩
    subst hx
    rw [lpAt_def]
    conv => lhs; whnf
    refine br_t (dt (by omega)) ?_
    conv => lhs; whnf
    refine br_t (dt2 (by omega) (by omega)) ?_
    conv => lhs; whnf
    refine br_t (dt2 (by omega) (by omega)) ?_
    conv => lhs; whnf
    conv => lhs; arg 1; whnf
    refine bnd_g (by exact True.intro) ?_
    conv => lhs; whnf
    rw [getD_drop (l := a) (i := i) (d := (0, 0)) (by omega), getD_drop (l := b) (i := i) (d := (0, 0)) (by omega)]
    refine br_t (by kernel_rfl) ?_
    conv => lhs; whnf
    refine br_c (fun h => ?_) (fun h => ?_)
    · conv => lhs; whnf
      rw [if_neg]
      intro he
      exact ofnt h (List.cons.inj he).1
    · conv => lhs; whnf
      rw [ih n (i + 1) _ (by omega) (by omega) (by rw [wrap64 (by omega) (by omega)]; simp) (by omega)]
      have h : a.getD i (0, 0) = b.getD i (0, 0) := ofnf h
      rw [h]
      simp
theorem ev_eqRuleS (a b : List (Int × Int)) (hp : a.length < 4611686018427387904 ∧ b.length < 4611686018427387904) : evF E_eqRuleS (a.length + 2) Tryd.f56 [.lst (.pair (.int .i64) (.int .i64)) a, .lst (.pair (.int .i64) (.int .i64)) b] [] = some (.bool (decide (a = b)), []) := by
  conv => lhs; whnf
  refine br_c (fun h => ?_) (fun h => ?_)
  · conv => lhs; whnf
    have : a ≠ b := by
      rintro rfl
      simp at h
    simp [this]
  · conv => lhs; whnf
    have hl : a.length = b.length := by simp at h; omega
    refine (lp_eqRuleS a b hl hp.1 _ _ _ 0 0 rfl (by omega) rfl (by omega)).trans ?_
    simp only [List.drop_zero]
    split
    · rename_i he
      conv => lhs; whnf
      simp [he]
    · rename_i he
      conv => lhs; whnf
      simp [he]
theorem ok_eqRuleS : FnOk Tryd.prog 56 K_eqRuleS := by
  refine fn_ok (fn := Tryd.f56) (k := Tryd.f56.ntmps) (E := E_eqRuleS) (facts_of (List.forall_mem_cons.2 ⟨ok_eqRule, List.forall_mem_nil _⟩)) (by kernel_rfl) rfl (by decide +kernel) (by decide +kernel) ?_
  intro avs hin r h
  unfold K_eqRuleS at h
  split at h
  · obtain ⟨hp, rfl⟩ := gd_o h
    exact ⟨_, ev_eqRuleS _ _ hp, rfl⟩
  · cases h

def iotaI : Int → Nat → List Int
  | _, 0 => []
  | k, n + 1 => k :: iotaI (k + 1) n
@[simp] theorem iotaI_length : ∀ (n : Nat) (k : Int), (iotaI k n).length = n
  | 0, _ => rfl
  | n + 1, k => by simp [iotaI, iotaI_length n]
def held (a : List Int) (k : Int) : Int := if a = iotaI k a.length then k + a.length else -1
theorem held_iota (k : Int) (n : Nat) : held (iotaI k n) k = k + n := by simp [held]
theorem take_set_succ {α : Type} {ys : List α} {i : Nat} {v : α} (h : i < ys.length) : (ys.set i v).take (i + 1) = ys.take i ++ [v] := by
  rw [List.take_succ_eq_append_getElem (by simpa using h), List.take_set_of_le (by omega)]
  simp
theorem getD_set_self {α : Type} {ys : List α} {i : Nat} {v d : α} (h : i < ys.length) : (ys.set i v).getD i d = v := by
  simp [List.getD, h]
def iotaR : Int → Nat → List (Int × Int)
  | _, 0 => []
  | k, n + 1 => (k, k + 1) :: iotaR (k + 2) n
@[simp] theorem iotaR_length : ∀ (n : Nat) (k : Int), (iotaR k n).length = n
  | 0, _ => rfl
  | n + 1, k => by simp [iotaR, iotaR_length n]
def heldRF (l : List (Int × Int)) (k : Int) : Int := if l = iotaR k l.length then k + 2 * l.length else -1
theorem heldR_iota (k : Int) (n : Nat) : heldRF (iotaR k n) k = k + 2 * n := by
  unfold heldRF
  rw [iotaR_length, if_pos rfl]
/- laws.heldRuleS -/
def K_heldRuleS : List AV → List Ob → Option (AV × List Ob)
  | [.lst (.pair (.int .i64) (.int .i64)) a, .int .i64 q], [] => gd (a.length ≤ 16777216 ∧ 0 ≤ q ∧ q ≤ 1152921504606846976) (.int .i64 (heldRF a q), [])
  | _, _ => none
@[reducible] def E_heldRuleS : Env := mkE (tb []) (fun f => false) (fun r => bif r == 2 then ([0, 1, 5], [1, 4]) else ([], []))
theorem lp_heldRuleS (a : List (Int × Int)) (ha : a.length ≤ 16777216) (k : AX → S → Option (AV × List Ob)) (r : Option (AV × List Ob)) (hk : ∀ q, k .ret (mkS [1, 4] [.int .i64 q, .int .i64 (-1)] []) = r) (d : Nat) : ∀ (n i : Nat) (x q : Int), a.length - i = d → i ≤ a.length → 0 ≤ q → q ≤ 1152921504606846976 + 2 * i → x = i → d < n →
    lpAt E_heldRuleS (lp E_heldRuleS 0 n) 0 (loopAt Tryd.f58 0) (mkS [0, 1, 5] [.lst (.pair (.int .i64) (.int .i64)) a, .int .i64 q, .int .i64 x] []) k =
      if a.drop i = iotaR q d then k (.exit 0) (mkS [1, 4] [.int .i64 (q + 2 * d), .any] []) else r := by
  induction d with
  | zero =>
    intro n i x q hd hi hq hq' hx hn
    subst hx
    rw [lpAt_def]
    conv => lhs; whnf
    refine br_f (df (by omega)) ?_
    conv => lhs; whnf
    rw [if_pos (by rw [List.drop_of_length_le (by omega)]; rfl)]
    simp
  | succ d ih =>
    intro n i x q hd hi hq hq' hx hn
    obtain ⟨n, rfl⟩ : ∃ m, n = m + 1 := ⟨n - 1, by omega⟩
    subst hx
    have hw1 : IntKind.i64.wrap (q + 1) = q + 1 := wrap64 (by omega) (by omega)
    have hw2 : IntKind.i64.wrap (IntKind.i64.wrap (q + 1) + 1) = q + 2 := by rw [hw1, wrap64 (by omega) (by omega)]; omega
    rw [getD_drop (l := a) (i := i) (d := (0, 0)) (by omega), iotaR, lpAt_def]
    conv => lhs; whnf
    refine br_t (dt (by omega)) ?_
    conv => lhs; whnf
    refine br_t (dt2 (by omega) (by omega)) ?_
    conv => lhs; whnf
    refine br_c (fun h => ?_) (fun h => ?_)
    · have h' : ((a.getD i (0, 0)).1 != q) = true := h
      conv => lhs; whnf
      rw [if_neg]
      · exact hk _
      · intro he
        have := congrArg Prod.fst (List.cons.inj he).1
        simp at h' this
        exact h' this
    · have h' : ((a.getD i (0, 0)).1 != q) = false := h
      conv => lhs; whnf
      refine br_t (dt2 (by omega) (by omega)) ?_
      conv => lhs; whnf
      refine br_c (fun h2 => ?_) (fun h2 => ?_)
      · have h2' : ((a.getD i (0, 0)).2 != IntKind.i64.wrap (q + 1)) = true := h2
        rw [hw1] at h2'
        conv => lhs; whnf
        rw [if_neg]
        · exact hk _
        · intro he
          have := congrArg Prod.snd (List.cons.inj he).1
          simp at h2' this
          exact h2' this
      · have h2' : ((a.getD i (0, 0)).2 != IntKind.i64.wrap (q + 1)) = false := h2
        rw [hw1] at h2'
        conv => lhs; whnf
        refine Eq.trans (ih n (i + 1) _ _ (by omega) (by omega) (by rw [hw2]; omega) (by rw [hw2]; push_cast; omega) (by rw [wrap64 (n := (i : Int) + 1) (by omega) (by omega)]; simp) (by omega)) ?_
        have e : a.getD i (0, 0) = (q, q + 1) := by
          simp only [bne_eq_false_iff_eq] at h' h2'
          exact Prod.ext h' h2'
        rw [hw2, e]
        have e1 : q + 2 + 2 * (d : Int) = q + 2 * ((d + 1 : Nat) : Int) := by push_cast; omega
        rw [e1]
        simp only [List.cons.injEq, true_and]
theorem ev_heldRuleS (a : List (Int × Int)) (q : Int) (hp : a.length ≤ 16777216 ∧ 0 ≤ q ∧ q ≤ 1152921504606846976) : evF E_heldRuleS (a.length + 2) Tryd.f58 [.lst (.pair (.int .i64) (.int .i64)) a, .int .i64 q] [] = some (.int .i64 (heldRF a q), []) := by
  conv => lhs; whnf
  refine (lp_heldRuleS a hp.1 _ _ (fun _ => by conv => lhs; whnf; rfl) a.length _ 0 0 q rfl (by omega) hp.2.1 (by omega) rfl (by omega)).trans ?_
  simp only [List.drop_zero]
  unfold heldRF
  split
  · rename_i he
    conv => lhs; whnf
  · rename_i he
    rfl
theorem ok_heldRuleS : FnOk Tryd.prog 58 K_heldRuleS := by
  refine fn_ok (fn := Tryd.f58) (k := Tryd.f58.ntmps) (E := E_heldRuleS) (facts_of (List.forall_mem_nil _)) (by kernel_rfl) rfl (by decide +kernel) (by decide +kernel) ?_
  intro avs hin r h
  unfold K_heldRuleS at h
  split at h
  · obtain ⟨hp, rfl⟩ := gd_o h
    exact ⟨_, ev_heldRuleS _ _ hp, rfl⟩
  · cases h

/- laws.markIntS -/
def K_markIntS : List AV → List Ob → Option (AV × List Ob)
  | [.own 0, .int .i64 q], [.row 3 (.int .i64) a] => gd (a.length ≤ 16777216 ∧ 0 ≤ q ∧ q ≤ 1152921504606846976) (.int .i64 (q + a.length), [.row 3 (.int .i64) (iotaI q a.length)])
  | _, _ => none
@[reducible] def E_markIntS : Env := mkE (tb []) (fun f => false) (fun r => bif r == 2 then ([0, 1, 5], [1]) else ([], []))
theorem lp_markIntS (k : AX → S → Option (AV × List Ob)) (d : Nat) : ∀ (n i : Nat) (x q : Int) (ys : List Int), ys.length - i = d → i ≤ ys.length → ys.length ≤ 16777216 → 0 ≤ q → q ≤ 1152921504606846976 + i → x = i → d < n →
    lpAt E_markIntS (lp E_markIntS 1 n) 1 (loopAt Tryd.f30 0) (mkS [0, 1, 5] [.own 0, .int .i64 q, .int .i64 x] [some (.row 3 (.int .i64) ys)]) k =
      k (.exit 0) (mkS [1] [.int .i64 (q + d)] [some (.row 3 (.int .i64) (ys.take i ++ iotaI q d))]) := by
  induction d with
  | zero =>
    intro n i x q ys hd hi hl hq hq' hx hn
    subst hx
    rw [lpAt_def]
    conv => lhs; whnf
    refine br_f (df (by omega)) ?_
    conv => lhs; whnf
    simp only [iotaI, List.append_nil, List.take_of_length_le (show ys.length ≤ i by omega)]
    simp
  | succ d ih =>
    intro n i x q ys hd hi hl hq hq' hx hn
    obtain ⟨n, rfl⟩ : ∃ m, n = m + 1 := ⟨n - 1, by omega⟩
    subst hx
    rw [lpAt_def]
    conv => lhs; whnf
    refine br_t (dt (by omega)) ?_
    conv => lhs; whnf
    refine br_t (dt2 (by omega) (by omega)) ?_
    conv => lhs; whnf
    refine br_t (dt (by omega)) ?_
    conv => lhs; whnf
    rw [wrap64 (n := q + 1) (by omega) (by omega)]
    rw [ih n (i + 1) _ (q + 1) _ (by simp; omega) (by simp; omega) (by simp; omega) (by omega) (by omega) (by rw [wrap64 (by omega) (by omega)]; simp) (by omega)]
    simp only [Int.toNat_natCast]
    rw [take_set_succ (by omega)]
    have e1 : q + 1 + (d : Int) = q + ((d + 1 : Nat) : Int) := by push_cast; omega
    rw [e1]
    simp [iotaI]
theorem ev_markIntS (a : List Int) (q : Int) (hp : a.length ≤ 16777216 ∧ 0 ≤ q ∧ q ≤ 1152921504606846976) : evF E_markIntS (a.length + 2) Tryd.f30 [.own 0, .int .i64 q] [.row 3 (.int .i64) a] = some (.int .i64 (q + a.length), [.row 3 (.int .i64) (iotaI q a.length)]) := by
  conv => lhs; whnf
  refine (lp_markIntS _ a.length _ 0 0 q a rfl (by omega) hp.1 hp.2.1 (by omega) rfl (by omega)).trans ?_
  conv => lhs; whnf
  simp
theorem ok_markIntS : FnOk Tryd.prog 30 K_markIntS := by
  refine fn_ok (fn := Tryd.f30) (k := Tryd.f30.ntmps) (E := E_markIntS) (facts_of (List.forall_mem_nil _)) (by kernel_rfl) rfl (by decide +kernel) (by decide +kernel) ?_
  intro avs hin r h
  unfold K_markIntS at h
  split at h
  · obtain ⟨hp, rfl⟩ := gd_o h
    exact ⟨_, ev_markIntS _ _ hp, rfl⟩
  · cases h

/- laws.markContext -/
def K_markContext : List AV → List Ob → Option (AV × List Ob)
  | [.agg [.int .i64 m, .own 0], .int .i64 q], [.row 3 (.int .i64) a] => gd (a.length ≤ 16777216 ∧ 0 ≤ q ∧ q ≤ 1152921504606846976) (.int .i64 (q + a.length), [.row 3 (.int .i64) (iotaI q a.length)])
  | _, _ => none
@[reducible] def E_markContext : Env := mkE (tb [(30, K_markIntS)]) (fun f => [30].contains f) (fun r => ([], []))
theorem ev_markContext (m : Int) (a : List Int) (q : Int) (hp : a.length ≤ 16777216 ∧ 0 ≤ q ∧ q ≤ 1152921504606846976) : evF E_markContext (1) Tryd.f29 [.agg [.int .i64 m, .own 0], .int .i64 q] [.row 3 (.int .i64) a] = some (.int .i64 (q + a.length), [.row 3 (.int .i64) (iotaI q a.length)]) := by
  conv => lhs; whnf
  conv => lhs; arg 1; whnf
  refine bnd_g (by exact hp) ?_
  conv => lhs; whnf
theorem ok_markContext : FnOk Tryd.prog 29 K_markContext := by
  refine fn_ok (fn := Tryd.f29) (k := Tryd.f29.ntmps) (E := E_markContext) (facts_of (List.forall_mem_cons.2 ⟨ok_markIntS, List.forall_mem_nil _⟩)) (by kernel_rfl) rfl (by decide +kernel) (by decide +kernel) ?_
  intro avs hin r h
  unfold K_markContext at h
  split at h
  · obtain ⟨hp, rfl⟩ := gd_o h
    exact ⟨_, ev_markContext _ _ _ hp, rfl⟩
  · cases h

/- laws.markRuleS -/
def K_markRuleS : List AV → List Ob → Option (AV × List Ob)
  | [.own 0, .int .i64 q], [.row 106 (.pair (.int .i64) (.int .i64)) a] => gd (a.length ≤ 16777216 ∧ 0 ≤ q ∧ q ≤ 1152921504606846976) (.int .i64 (q + 2 * a.length), [.row 106 (.pair (.int .i64) (.int .i64)) (iotaR q a.length)])
  | _, _ => none
@[reducible] def E_markRuleS : Env := mkE (tb []) (fun f => false) (fun r => bif r == 2 then ([0, 1, 5], [1]) else ([], []))
theorem lp_markRuleS (k : AX → S → Option (AV × List Ob)) (d : Nat) : ∀ (n i : Nat) (x q : Int) (ys : List (Int × Int)), ys.length - i = d → i ≤ ys.length → ys.length ≤ 16777216 → 0 ≤ q → q ≤ 1152921504606846976 + 2 * i → x = i → d < n →
    lpAt E_markRuleS (lp E_markRuleS 1 n) 1 (loopAt Tryd.f57 0) (mkS [0, 1, 5] [.own 0, .int .i64 q, .int .i64 x] [some (.row 106 (.pair (.int .i64) (.int .i64)) ys)]) k =
      k (.exit 0) (mkS [1] [.int .i64 (q + 2 * d)] [some (.row 106 (.pair (.int .i64) (.int .i64)) (ys.take i ++ iotaR q d))]) := by
  induction d with
  | zero =>
    intro n i x q ys hd hi hl hq hq' hx hn
    subst hx
    rw [lpAt_def]
    conv => lhs; whnf
    refine br_f (df (by omega)) ?_
    conv => lhs; whnf
    simp only [iotaR, List.append_nil, List.take_of_length_le (show ys.length ≤ i by omega)]
    simp
  | succ d ih =>
    intro n i x q ys hd hi hl hq hq' hx hn
    obtain ⟨n, rfl⟩ : ∃ m, n = m + 1 := ⟨n - 1, by omega⟩
    subst hx
    rw [lpAt_def]
    conv => lhs; whnf
    refine br_t (dt (by omega)) ?_
    conv => lhs; whnf
    refine br_t (dt2 (by omega) (by omega)) ?_
    conv => lhs; whnf
    refine br_t (dt (by omega)) ?_
    conv => lhs; whnf
    rw [wrap64 (n := q + 1) (by omega) (by omega)]
    refine br_t (dt2 (by omega) (by simp; omega)) ?_
    conv => lhs; whnf
    refine br_t (dt (by simp; omega)) ?_
    conv => lhs; whnf
    rw [wrap64 (n := q + 1 + 1) (by omega) (by omega)]
    rw [ih n (i + 1) _ (q + 1 + 1) _ (by simp; omega) (by simp; omega) (by simp; omega) (by omega) (by omega) (by rw [wrap64 (by omega) (by omega)]; simp) (by omega)]
    simp only [Int.toNat_natCast]
    rw [take_set_succ (by simp; omega)]
    have e1 : q + 1 + 1 + 2 * (d : Int) = q + 2 * ((d + 1 : Nat) : Int) := by push_cast; omega
    have e2 : q + 1 + 1 = q + 2 := by omega
    rw [e1, e2]
    simp only [iotaR, List.set_set, getD_set_self (show i < ys.length by omega)]
    simp
    rw [List.take_set_of_le (by omega)]
theorem ev_markRuleS (a : List (Int × Int)) (q : Int) (hp : a.length ≤ 16777216 ∧ 0 ≤ q ∧ q ≤ 1152921504606846976) : evF E_markRuleS (a.length + 2) Tryd.f57 [.own 0, .int .i64 q] [.row 106 (.pair (.int .i64) (.int .i64)) a] = some (.int .i64 (q + 2 * a.length), [.row 106 (.pair (.int .i64) (.int .i64)) (iotaR q a.length)]) := by
  conv => lhs; whnf
  refine (lp_markRuleS _ a.length _ 0 0 q a rfl (by omega) hp.1 hp.2.1 (by omega) rfl (by omega)).trans ?_
  conv => lhs; whnf
  simp
theorem ok_markRuleS : FnOk Tryd.prog 57 K_markRuleS := by
  refine fn_ok (fn := Tryd.f57) (k := Tryd.f57.ntmps) (E := E_markRuleS) (facts_of (List.forall_mem_nil _)) (by kernel_rfl) rfl (by decide +kernel) (by decide +kernel) ?_
  intro avs hin r h
  unfold K_markRuleS at h
  split at h
  · obtain ⟨hp, rfl⟩ := gd_o h
    exact ⟨_, ev_markRuleS _ _ hp, rfl⟩
  · cases h

/- laws.FnExactUpdateBase -/
def K_lawUpdateBase : List AV → List Ob → Option (AV × List Ob)
  | [.agg [.int .i64 m, .lst (.int .i64) a], .int .i64 s], [] => gd (a.length ≤ maxLen) (.bool true, [])
  | _, _ => none
@[reducible] def E_lawUpdateBase : Env := mkE (tb [(23, K_szContext), (25, K_toContext), (54, K_specUpdateBase), (55, K_implUpdateBase), (56, K_eqRuleS), (28, K_eqContext), (58, K_heldRuleS), (29, K_markContext), (57, K_markRuleS)]) (fun f => [29, 57].contains f) (fun r => ([], []))
theorem ev_lawUpdateBase (m : Int) (a : List Int) (s : Int) (hp : a.length ≤ maxLen) : evF E_lawUpdateBase (1) Tryd.f14 [.agg [.int .i64 m, .lst (.int .i64) a], .int .i64 s] [] = some (.bool true, []) := by
  conv => lhs; whnf
  conv => lhs; arg 1; whnf
  refine bnd_g (by exact ⟨by omega, by omega, hp⟩) ?_
  conv => lhs; whnf
  refine br_c (fun h1 => ?_) (fun h1 => ?_)
  · conv => lhs; whnf
  · conv => lhs; whnf
    obtain ⟨e1, l1⟩ := szI_ok (ofn h1)
    have hb := updB_len m a s
    conv => lhs; arg 1; whnf
    refine bnd_g (by omega) ?_
    conv => lhs; whnf
    conv => lhs; arg 1; whnf
    refine bnd_g (by omega) ?_
    conv => lhs; whnf
    conv => lhs; arg 1; whnf
    refine bnd_g (by omega) ?_
    conv => lhs; whnf
    conv => lhs; arg 1; whnf
    refine bnd_g (by omega) ?_
    conv => lhs; whnf
    conv => lhs; arg 1; whnf
    refine bnd_g (by exact ⟨by omega, by omega⟩) ?_
    conv => lhs; whnf
    repeat ((first | with_reducible apply br_tt | with_reducible apply br_ff | with_reducible apply br_nf | with_reducible apply br_nt | with_reducible refine br_d ?_ (by kernel_rfl) | with_reducible refine br_f (by simp; done) ?_); conv => lhs; whnf)
    conv => lhs; arg 1; whnf
    refine bnd_g (by omega) ?_
    conv => lhs; whnf
    conv => lhs; arg 1; whnf
    refine bnd_g (by exact ⟨by omega, by omega⟩) ?_
    conv => lhs; whnf
    repeat ((first | with_reducible apply br_tt | with_reducible apply br_ff | with_reducible apply br_nf | with_reducible apply br_nt | with_reducible refine br_d ?_ (by kernel_rfl) | with_reducible refine br_f (by simp; done) ?_); conv => lhs; whnf)
    conv => lhs; arg 1; whnf
    refine bnd_g (by exact ⟨by omega, by omega, by omega⟩) ?_
    conv => lhs; whnf
    have hk : decide ((1 : Int) + (a.length : Int) < 0) = false := df (by omega)
    repeat ((first | with_reducible apply br_tt | with_reducible apply br_ff | with_reducible apply br_nf | with_reducible apply br_nt | with_reducible refine br_d ?_ (by kernel_rfl) | with_reducible apply br_t hk | with_reducible apply br_f hk); conv => lhs; whnf)
    conv => lhs; arg 1; whnf
    refine bnd_g (by exact ⟨by omega, by omega⟩) ?_
    conv => lhs; whnf
    repeat ((first | with_reducible apply br_tt | with_reducible apply br_ff | with_reducible apply br_nf | with_reducible apply br_nt | with_reducible refine br_d ?_ (by kernel_rfl) | with_reducible apply br_t hk | with_reducible apply br_f hk | with_reducible refine br_f (by simp; done) ?_); conv => lhs; whnf)
    conv => lhs; arg 1; whnf
    refine bnd_g (by exact ⟨by omega, by omega, by omega⟩) ?_
    conv => lhs; whnf
    conv => lhs; arg 1; whnf
    refine bnd_g (by exact ⟨by simp; omega, by omega, by omega⟩) ?_
    conv => lhs; whnf
    refine br_f (by (apply decide_eq_false; rw [heldR_iota]; omega)) ?_
    conv => lhs; whnf
    refine br_f (by (rw [heldR_iota]; simp)) ?_
    conv => lhs; whnf
    conv => lhs; arg 1; whnf
    refine bnd_g (by omega) ?_
    conv => lhs; whnf
    conv => lhs; arg 1; whnf
    refine bnd_g (by omega) ?_
    conv => lhs; whnf
    conv => lhs; arg 1; whnf
    refine bnd_g (by exact ⟨by omega, by omega⟩) ?_
    conv => lhs; whnf
    repeat ((first | with_reducible apply br_tt | with_reducible apply br_ff | with_reducible apply br_nf | with_reducible apply br_nt | with_reducible refine br_d ?_ (by kernel_rfl) | with_reducible refine br_f (by simp; done) ?_); conv => lhs; whnf)
    conv => lhs; arg 1; whnf
    refine bnd_g (by exact ⟨by simp; omega, by omega, by omega⟩) ?_
    conv => lhs; whnf
    refine br_f (by (apply decide_eq_false; rw [heldR_iota]; omega)) ?_
    conv => lhs; whnf
    refine br_f (by (rw [heldR_iota]; simp)) ?_
    conv => lhs; whnf
theorem ok_lawUpdateBase : FnOk Tryd.prog 14 K_lawUpdateBase := by
  refine fn_ok (fn := Tryd.f14) (k := Tryd.f14.ntmps) (E := E_lawUpdateBase) (facts_of (List.forall_mem_cons.2 ⟨ok_szContext, List.forall_mem_cons.2 ⟨ok_toContext, List.forall_mem_cons.2 ⟨ok_specUpdateBase, List.forall_mem_cons.2 ⟨ok_implUpdateBase, List.forall_mem_cons.2 ⟨ok_eqRuleS, List.forall_mem_cons.2 ⟨ok_eqContext, List.forall_mem_cons.2 ⟨ok_heldRuleS, List.forall_mem_cons.2 ⟨ok_markContext, List.forall_mem_cons.2 ⟨ok_markRuleS, List.forall_mem_nil _⟩⟩⟩⟩⟩⟩⟩⟩⟩)) (by kernel_rfl) rfl (by decide +kernel) (by decide +kernel) ?_
  intro avs hin r h
  unfold K_lawUpdateBase at h
  split at h
  · obtain ⟨hp, rfl⟩ := gd_o h
    exact ⟨_, ev_lawUpdateBase _ _ _ hp, rfl⟩
  · cases h

end Go.Sym
