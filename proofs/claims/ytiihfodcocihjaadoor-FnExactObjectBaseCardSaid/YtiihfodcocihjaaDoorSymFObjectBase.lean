/- Functions of the program, each told as a plain equation. -/
import Derived.Test.YtiihfodcocihjaaDoorSymFUpdateBase
namespace Go.Sym
open Go.Proofs
set_option linter.unusedVariables false
set_option linter.unusedSimpArgs false
set_option maxRecDepth 100000
set_option maxHeartbeats 4000000

def dualF (m : Int) (b : List Int) : Int × List Int × Bool := bif isCtx m b && !decide ((b.length : Int) > 6) then ((b.length : Int), colsF m b, true) else (0, [], false)
theorem colF_isSet {b : List Int} (h : b.length ≤ 8) (e : Nat) : isSet (b.length : Int) (colF b e) = true := by
  have hc := colF_set b (e : Int) h
  have hlt : (colF b (e : Int)).toNat < 2 ^ b.length := by
    refine Nat.lt_pow_two_of_testBit _ fun i hi => ?_
    cases hb : (colF b (e : Int)).toNat.testBit i
    · rfl
    · have := ((colF_bit h e i).1 hb).1
      omega
  unfold isSet
  refine dt ⟨by omega, by omega, ?_⟩
  have e2 : ((2 ^ b.length : Nat) : Int) = (2 : Int) ^ b.length := by push_cast; rfl
  rw [Int.toNat_natCast]
  omega
theorem colsL_sets {b : List Int} (h : b.length ≤ 8) : ∀ (d i : Nat), (colsL b d i).all (isSet (b.length : Int)) = true
  | 0, _ => rfl
  | d + 1, i => by rw [colsL, List.all_cons, colF_isSet h i, colsL_sets h d (i + 1)]; rfl
theorem colsF_length {m : Int} {b : List Int} : (colsF m b).length = m.toNat := colsL_length b _ _
theorem dualF_ctx {m : Int} {b : List Int} (h : (dualF m b).2.2 = true) : isCtx (dualF m b).1 (dualF m b).2.1 = true := by
  unfold dualF at h ⊢
  cases hc : (isCtx m b && !decide ((b.length : Int) > 6))
  · rw [hc] at h; cases h
  · rw [cond_true]
    rw [Bool.and_eq_true, Bool.not_eq_true', decide_eq_false_iff_not] at hc
    have hl := isCtx_len hc.1
    show isCtx (b.length : Int) (colsF m b) = true
    unfold isCtx
    have h1 : decide (0 ≤ (b.length : Int) ∧ (b.length : Int) ≤ 6) = true := decide_eq_true (by omega)
    have h2 : decide ((colsF m b).length ≤ 8) = true := decide_eq_true (by rw [colsF_length]; omega)
    have h3 : (colsF m b).all (isSet (b.length : Int)) = true := colsL_sets hl.1 _ _
    rw [h1, h2, h3]
    rfl
theorem dualF_len (m : Int) (b : List Int) : (dualF m b).2.1.length ≤ 8 := by
  unfold dualF
  cases hc : (isCtx m b && !decide ((b.length : Int) > 6))
  · exact Nat.zero_le _
  · rw [Bool.and_eq_true] at hc
    have hl := isCtx_len hc.1
    show (colsF m b).length ≤ 8
    rw [colsF_length]
    omega
def objB (m : Int) (b : List Int) : List (Int × Int) := bif (dualF m b).2.2 then stemR (dualF m b).1 (dualF m b).2.1 else []
theorem objB_len (m : Int) (b : List Int) : (objB m b).length ≤ 64 := by
  unfold objB
  cases (dualF m b).2.2
  · exact Nat.zero_le _
  · exact stemR_len _ _
/- spec.l3Column -/
def K_l3Column : List AV → List Ob → Option (AV × List Ob)
  | [.agg [.int .i64 m, .lst (.int .i64) b], .int .i64 e], [] => gd ((0 ≤ e ∧ e ≤ 8) ∧ b.length ≤ 8 ∧ ∀ x ∈ b, 0 ≤ x ∧ x ≤ 255) (.int .i64 (colF b e), [])
  | _, _ => none
@[reducible] def E_l3Column : Env := mkE (tb [(86, K_l2Has)]) (fun f => false) (fun r => bif r == 3 then ([1, 2, 5, 6], [5]) else ([], []))
theorem lp_l3Column (m : Int) (b : List Int) (e : Int) (hb : b.length ≤ 8) (hs : ∀ x ∈ b, 0 ≤ x ∧ x ≤ 255) (he : 0 ≤ e ∧ e ≤ 8) (k : AX → S → Option (AV × List Ob)) (d : Nat) : ∀ (n i : Nat) (x q : Int), b.length - i = d → i ≤ b.length → x = i → d < n →
    lpAt E_l3Column (lp E_l3Column 0 n) 0 (loopAt Tryd.f148 0) (mkS [1, 2, 5, 6] [.int .i64 e, .ptr 0 0, .int .i64 q, .int .i64 x] [some (.box 35 [.int .i64 m, .lst (.int .i64) b])]) k =
      k (.exit 0) (mkS [5] [.int .i64 (orF (bitAt b e) d i q)] []) := by
  induction d with
  | zero =>
    intro n i x q hd hi hx hn
    subst hx
    rw [lpAt_def]
    conv => lhs; whnf
    refine br_f (df (by omega)) ?_
    conv => lhs; whnf
    rfl
  | succ d ih =>
    intro n i x q hd hi hx hn
    obtain ⟨n, rfl⟩ : ∃ m, n = m + 1 := ⟨n - 1, by omega⟩
    subst hx
    rw [lpAt_def]
    conv => lhs; whnf
    refine br_t (dt (by omega)) ?_
    conv => lhs; whnf
    refine br_t (dt2 (by omega) (by omega)) ?_
    conv => lhs; whnf
    conv => lhs; arg 1; whnf
    refine bnd_g (by exact ⟨hs _ (mem_getD (by omega)), he⟩) ?_
    conv => lhs; whnf
    refine br_c (fun h => ?_) (fun h => ?_)
    · have h' : bitAt b e i = true := h
      conv => lhs; whnf
      refine br_f (by (rw [wrapu (n := (i : Int)) (by omega) (by omega)]; exact df (by omega))) ?_
      conv => lhs; whnf
      rw [shl1u (by omega)]
      rw [ih n (i + 1) _ _ (by omega) (by omega) (by rw [wrap64 (by omega) (by omega)]; simp) (by omega)]
      rw [orF, h', cond_true]
      rfl
    · have h' : bitAt b e i = false := h
      conv => lhs; whnf
      rw [ih n (i + 1) _ _ (by omega) (by omega) (by rw [wrap64 (by omega) (by omega)]; simp) (by omega)]
      rw [orF, h', cond_false]
theorem ev_l3Column (m : Int) (b : List Int) (e : Int) (hp : (0 ≤ e ∧ e ≤ 8) ∧ b.length ≤ 8 ∧ ∀ x ∈ b, 0 ≤ x ∧ x ≤ 255) : evF E_l3Column (20) Tryd.f148 [.agg [.int .i64 m, .lst (.int .i64) b], .int .i64 e] [] = some (.int .i64 (colF b e), []) := by
  conv => lhs; whnf
  refine (lp_l3Column m b e hp.2.1 hp.2.2 hp.1 _ b.length _ 0 0 _ rfl (by omega) rfl (by have := hp.2.1; change _ < 19; omega)).trans ?_
  conv => lhs; whnf
  rfl
theorem ok_l3Column : FnOk Tryd.prog 148 K_l3Column := by
  refine fn_ok (fn := Tryd.f148) (k := Tryd.f148.ntmps) (E := E_l3Column) (facts_of (List.forall_mem_cons.2 ⟨ok_l2Has, List.forall_mem_nil _⟩)) (by kernel_rfl) rfl (by decide +kernel) (by decide +kernel) ?_
  intro avs hin r h
  unfold K_l3Column at h
  split at h
  · obtain ⟨hp, rfl⟩ := gd_o h
    exact ⟨_, ev_l3Column _ _ _ hp, rfl⟩
  · cases h

/- spec.DualContext -/
def K_specDual : List AV → List Ob → Option (AV × List Ob)
  | [.agg [.int .i64 m, .lst (.int .i64) b]], [] => gd (b.length ≤ 1048576) (.tup [.agg [.int .i64 (dualF m b).1, .own 0], .bool (dualF m b).2.2], [.row 3 (.int .i64) (dualF m b).2.1])
  | _, _ => none
@[reducible] def E_specDual : Env := mkE (tb [(104, K_specIsContext), (148, K_l3Column)]) (fun f => false) (fun r => bif r == 5 then ([1, 2, 4, 5], [2, 4]) else ([], []))
theorem lp_specDual (m : Nat) (hm : m ≤ 6) (b : List Int) (hb : b.length ≤ 8) (hs : ∀ x ∈ b, 0 ≤ x ∧ x ≤ 255) (k : AX → S → Option (AV × List Ob)) (d : Nat) : ∀ (n i : Nat) (x : Int) (zs : List Int), m - i = d → i ≤ m → x = i → d < n → zs.length ≤ i →
    lpAt E_specDual (lp E_specDual 0 n) 0 (loopAt Tryd.f111 0) (mkS [1, 2, 4, 5] [.ptr 0 0, .ptr 1 0, .ptr 3 0, .int .i64 x] [some (.box 35 [.int .i64 (m : Int), .lst (.int .i64) b]), some (.box 35 [.int .i64 0, .own 2]), some (.row 3 (.int .i64) []), some (.box 35 [.int .i64 b.length, .own 4]), some (.row 3 (.int .i64) zs)]) k =
      k (.exit 0) (mkS [2, 4] [.ptr 0 0, .ptr 2 0] [some (.box 35 [.int .i64 0, .own 1]), some (.row 3 (.int .i64) []), some (.box 35 [.int .i64 b.length, .own 3]), some (.row 3 (.int .i64) (zs ++ colsL b d i))]) := by
  induction d with
  | zero =>
    intro n i x zs hd hi hx hn hz
    subst hx
    rw [lpAt_def]
    conv => lhs; whnf
    refine br_f (df (by omega)) ?_
    conv => lhs; whnf
    rw [colsL, List.append_nil]
  | succ d ih =>
    intro n i x zs hd hi hx hn hz
    obtain ⟨n, rfl⟩ : ∃ m, n = m + 1 := ⟨n - 1, by omega⟩
    subst hx
    rw [lpAt_def]
    conv => lhs; whnf
    refine br_t (dt (by omega)) ?_
    conv => lhs; whnf
    conv => lhs; arg 1; whnf
    refine bnd_g (by exact ⟨⟨by omega, by omega⟩, hb, hs⟩) ?_
    conv => lhs; whnf
    refine br_t (dt (by simp [room]; omega)) ?_
    conv => lhs; whnf
    repeat ((first | with_reducible apply br_tt | with_reducible apply br_ff | with_reducible apply br_nf | with_reducible apply br_nt | with_reducible refine br_d ?_ (by kernel_rfl)); conv => lhs; whnf)
    refine Eq.trans (ih n (i + 1) _ _ (by omega) (by omega) (by rw [wrap64 (n := (i : Int) + 1) (by omega) (by omega)]; simp) (by omega) (by simp; omega)) ?_
    rw [colsL]
    simp only [List.append_assoc]
    rfl
theorem ev_specDual (m : Int) (b : List Int) (hp : b.length ≤ 1048576) : evF E_specDual (20) Tryd.f111 [.agg [.int .i64 m, .lst (.int .i64) b]] [] = some (.tup [.agg [.int .i64 (dualF m b).1, .own 0], .bool (dualF m b).2.2], [.row 3 (.int .i64) (dualF m b).2.1]) := by
  conv => lhs; whnf
  conv => lhs; arg 1; whnf
  refine bnd_g (by omega) ?_
  conv => lhs; whnf
  refine br_c (fun h => ?_) (fun h => ?_)
  · have h0 : isCtx m b = false := bnt h
    have hf : dualF m b = (0, [], false) := by unfold dualF; rw [h0]; rfl
    conv => lhs; whnf
    repeat ((first | with_reducible apply br_tt | with_reducible apply br_ff | with_reducible apply br_nf | with_reducible apply br_nt | with_reducible refine br_d ?_ (by kernel_rfl) | with_reducible apply br_t h | with_reducible apply br_f h); conv => lhs; whnf)
    rw [hf]
  · have h0 : isCtx m b = true := bnf h
    have hl := isCtx_len h0
    conv => lhs; whnf
    repeat ((first | with_reducible apply br_tt | with_reducible apply br_ff | with_reducible apply br_nf | with_reducible apply br_nt | with_reducible refine br_d ?_ (by kernel_rfl) | with_reducible apply br_t h | with_reducible apply br_f h); conv => lhs; whnf)
    refine br_c (fun h2 => ?_) (fun h2 => ?_)
    · have h2' : decide ((b.length : Int) > 6) = true := h2
      have hf : dualF m b = (0, [], false) := by unfold dualF; rw [h0, h2']; rfl
      conv => lhs; whnf
      rw [hf]
    · have h2' : decide ((b.length : Int) > 6) = false := h2
      have hf : dualF m b = ((b.length : Int), colsF m b, true) := by unfold dualF; rw [h0, h2']; rfl
      obtain ⟨mm, rfl⟩ : ∃ mm : Nat, m = mm := ⟨m.toNat, by omega⟩
      conv => lhs; whnf
      refine (lp_specDual mm (by omega) b hl.1 (ctx_small h0) _ mm _ 0 0 [] rfl (Nat.zero_le _) rfl (by change _ < 19; omega) (Nat.le_refl _)).trans ?_
      conv => lhs; whnf
      rw [hf]
      rfl
theorem ok_specDual : FnOk Tryd.prog 111 K_specDual := by
  refine fn_ok (fn := Tryd.f111) (k := Tryd.f111.ntmps) (E := E_specDual) (facts_of (List.forall_mem_cons.2 ⟨ok_specIsContext, List.forall_mem_cons.2 ⟨ok_l3Column, List.forall_mem_nil _⟩⟩)) (by kernel_rfl) rfl (by decide +kernel) (by decide +kernel) ?_
  intro avs hin r h
  unfold K_specDual at h
  split at h
  · obtain ⟨hp, rfl⟩ := gd_o h
    exact ⟨_, ev_specDual _ _ hp, rfl⟩
  · cases h

/- spec.ObjectBase -/
def K_specObjectBase : List AV → List Ob → Option (AV × List Ob)
  | [.agg [.int .i64 m, .lst (.int .i64) a]], [] => gd (a.length ≤ 1048576) (.tup [.own 0, .bool (dualF m a).2.2], [.row 106 (.pair (.int .i64) (.int .i64)) (objB m a)])
  | _, _ => none
@[reducible] def E_specObjectBase : Env := mkE (tb [(111, K_specDual), (108, K_specStem)]) (fun f => false) (fun r => ([], []))
theorem ev_specObjectBase (m : Int) (a : List Int) (hp : a.length ≤ 1048576) : evF E_specObjectBase (1) Tryd.f59 [.agg [.int .i64 m, .lst (.int .i64) a]] [] = some (.tup [.own 0, .bool (dualF m a).2.2], [.row 106 (.pair (.int .i64) (.int .i64)) (objB m a)]) := by
  conv => lhs; whnf
  conv => lhs; arg 1; whnf
  refine bnd_g (by exact hp) ?_
  conv => lhs; whnf
  refine br_c (fun h => ?_) (fun h => ?_)
  · unfold objB
    rw [bnt h]
    conv => lhs; whnf
    rfl
  · have hc := dualF_ctx (bnf h)
    unfold objB
    rw [bnf h]
    conv => lhs; whnf
    conv => lhs; arg 1; whnf
    refine bnd_g (by exact hc) ?_
    conv => lhs; whnf
    rfl
theorem ok_specObjectBase : FnOk Tryd.prog 59 K_specObjectBase := by
  refine fn_ok (fn := Tryd.f59) (k := Tryd.f59.ntmps) (E := E_specObjectBase) (facts_of (List.forall_mem_cons.2 ⟨ok_specDual, List.forall_mem_cons.2 ⟨ok_specStem, List.forall_mem_nil _⟩⟩)) (by kernel_rfl) rfl (by decide +kernel) (by decide +kernel) ?_
  intro avs hin r h
  unfold K_specObjectBase at h
  split at h
  · obtain ⟨hp, rfl⟩ := gd_o h
    exact ⟨_, ev_specObjectBase _ _ hp, rfl⟩
  · cases h

/- impl.DualContext -/
def K_implDual : List AV → List Ob → Option (AV × List Ob)
  | [.agg [.int .i64 m, .lst (.int .i64) b]], [] => gd (b.length ≤ 1048576) (.tup [.agg [.int .i64 (dualF m b).1, .own 0], .bool (dualF m b).2.2], [.row 3 (.int .i64) (dualF m b).2.1])
  | _, _ => none
@[reducible] def E_implDual : Env := mkE (tb [(144, K_implIsContext), (153, K_columns)]) (fun f => false) (fun r => ([], []))
theorem ev_implDual (m : Int) (b : List Int) (hp : b.length ≤ 1048576) : evF E_implDual (1) Tryd.f112 [.agg [.int .i64 m, .lst (.int .i64) b]] [] = some (.tup [.agg [.int .i64 (dualF m b).1, .own 0], .bool (dualF m b).2.2], [.row 3 (.int .i64) (dualF m b).2.1]) := by
  conv => lhs; whnf
  conv => lhs; arg 1; whnf
  refine bnd_g (by omega) ?_
  conv => lhs; whnf
  refine br_c (fun h => ?_) (fun h => ?_)
  · have h0 : isCtx m b = false := bnt h
    have hf : dualF m b = (0, [], false) := by unfold dualF; rw [h0]; rfl
    conv => lhs; whnf
    repeat ((first | with_reducible apply br_tt | with_reducible apply br_ff | with_reducible apply br_nf | with_reducible apply br_nt | with_reducible refine br_d ?_ (by kernel_rfl) | with_reducible apply br_t h | with_reducible apply br_f h); conv => lhs; whnf)
    rw [hf]
  · have h0 : isCtx m b = true := bnf h
    conv => lhs; whnf
    repeat ((first | with_reducible apply br_tt | with_reducible apply br_ff | with_reducible apply br_nf | with_reducible apply br_nt | with_reducible refine br_d ?_ (by kernel_rfl) | with_reducible apply br_t h | with_reducible apply br_f h); conv => lhs; whnf)
    refine br_c (fun h2 => ?_) (fun h2 => ?_)
    · have h2' : decide ((b.length : Int) > 6) = true := h2
      have hf : dualF m b = (0, [], false) := by unfold dualF; rw [h0, h2']; rfl
      conv => lhs; whnf
      rw [hf]
    · have h2' : decide ((b.length : Int) > 6) = false := h2
      have hf : dualF m b = ((b.length : Int), colsF m b, true) := by unfold dualF; rw [h0, h2']; rfl
      conv => lhs; whnf
      conv => lhs; arg 1; whnf
      refine bnd_g (by exact h0) ?_
      conv => lhs; whnf
      repeat ((first | with_reducible apply br_tt | with_reducible apply br_ff | with_reducible apply br_nf | with_reducible apply br_nt | with_reducible refine br_d ?_ (by kernel_rfl)); conv => lhs; whnf)
      rw [hf]
theorem ok_implDual : FnOk Tryd.prog 112 K_implDual := by
  refine fn_ok (fn := Tryd.f112) (k := Tryd.f112.ntmps) (E := E_implDual) (facts_of (List.forall_mem_cons.2 ⟨ok_implIsContext, List.forall_mem_cons.2 ⟨ok_columns, List.forall_mem_nil _⟩⟩)) (by kernel_rfl) rfl (by decide +kernel) (by decide +kernel) ?_
  intro avs hin r h
  unfold K_implDual at h
  split at h
  · obtain ⟨hp, rfl⟩ := gd_o h
    exact ⟨_, ev_implDual _ _ hp, rfl⟩
  · cases h

/- impl.ObjectBase -/
def K_implObjectBase : List AV → List Ob → Option (AV × List Ob)
  | [.agg [.int .i64 m, .lst (.int .i64) a]], [] => gd (a.length ≤ 1048576) (.tup [.own 0, .bool (dualF m a).2.2], [.row 106 (.pair (.int .i64) (.int .i64)) (objB m a)])
  | _, _ => none
@[reducible] def E_implObjectBase : Env := mkE (tb [(112, K_implDual), (109, K_implStem)]) (fun f => false) (fun r => ([], []))
theorem ev_implObjectBase (m : Int) (a : List Int) (hp : a.length ≤ 1048576) : evF E_implObjectBase (1) Tryd.f60 [.agg [.int .i64 m, .lst (.int .i64) a]] [] = some (.tup [.own 0, .bool (dualF m a).2.2], [.row 106 (.pair (.int .i64) (.int .i64)) (objB m a)]) := by
  conv => lhs; whnf
  conv => lhs; arg 1; whnf
  refine bnd_g (by exact hp) ?_
  conv => lhs; whnf
  refine br_c (fun h => ?_) (fun h => ?_)
  · unfold objB
    rw [bnt h]
    conv => lhs; whnf
    rfl
  · have hc := dualF_ctx (bnf h)
    unfold objB
    rw [bnf h]
    conv => lhs; whnf
    conv => lhs; arg 1; whnf
    refine bnd_g (by exact hc) ?_
    conv => lhs; whnf
    rfl
theorem ok_implObjectBase : FnOk Tryd.prog 60 K_implObjectBase := by
  refine fn_ok (fn := Tryd.f60) (k := Tryd.f60.ntmps) (E := E_implObjectBase) (facts_of (List.forall_mem_cons.2 ⟨ok_implDual, List.forall_mem_cons.2 ⟨ok_implStem, List.forall_mem_nil _⟩⟩)) (by kernel_rfl) rfl (by decide +kernel) (by decide +kernel) ?_
  intro avs hin r h
  unfold K_implObjectBase at h
  split at h
  · obtain ⟨hp, rfl⟩ := gd_o h
    exact ⟨_, ev_implObjectBase _ _ hp, rfl⟩
  · cases h

/- laws.FnExactObjectBase -/
def K_lawObjectBase : List AV → List Ob → Option (AV × List Ob)
  | [.agg [.int .i64 m, .lst (.int .i64) a]], [] => gd (a.length ≤ maxLen) (.bool true, [])
  | _, _ => none
@[reducible] def E_lawObjectBase : Env := mkE (tb [(23, K_szContext), (25, K_toContext), (59, K_specObjectBase), (60, K_implObjectBase), (56, K_eqRuleS), (28, K_eqContext), (58, K_heldRuleS), (29, K_markContext), (57, K_markRuleS)]) (fun f => [29, 57].contains f) (fun r => ([], []))
theorem ev_lawObjectBase (m : Int) (a : List Int) (hp : a.length ≤ maxLen) : evF E_lawObjectBase (1) Tryd.f15 [.agg [.int .i64 m, .lst (.int .i64) a]] [] = some (.bool true, []) := by
  conv => lhs; whnf
  conv => lhs; arg 1; whnf
  refine bnd_g (by exact ⟨by omega, by omega, hp⟩) ?_
  conv => lhs; whnf
  refine br_c (fun h1 => ?_) (fun h1 => ?_)
  · conv => lhs; whnf
  · conv => lhs; whnf
    obtain ⟨e1, l1⟩ := szI_ok (ofn h1)
    have hb := objB_len m a
    conv => lhs; arg 1; whnf
    refine bnd_g (by omega) ?_
    conv => lhs; whnf
    conv => lhs; arg 1; whnf
    refine bnd_g (by omega) ?_
    conv => lhs; whnf
    conv => lhs; arg 1; whnf
    refine bnd_g (by omega) ?_
    conv => lhs; whnf
    conv => lhs; arg 1; whnf
    refine bnd_g (by omega) ?_
    conv => lhs; whnf
    conv => lhs; arg 1; whnf
    refine bnd_g (by exact ⟨by omega, by omega⟩) ?_
    conv => lhs; whnf
    repeat ((first | with_reducible apply br_tt | with_reducible apply br_ff | with_reducible apply br_nf | with_reducible apply br_nt | with_reducible refine br_d ?_ (by kernel_rfl) | with_reducible refine br_f (by simp; done) ?_); conv => lhs; whnf)
    conv => lhs; arg 1; whnf
    refine bnd_g (by omega) ?_
    conv => lhs; whnf
    conv => lhs; arg 1; whnf
    refine bnd_g (by exact ⟨by omega, by omega⟩) ?_
    conv => lhs; whnf
    repeat ((first | with_reducible apply br_tt | with_reducible apply br_ff | with_reducible apply br_nf | with_reducible apply br_nt | with_reducible refine br_d ?_ (by kernel_rfl) | with_reducible refine br_f (by simp; done) ?_); conv => lhs; whnf)
    conv => lhs; arg 1; whnf
    refine bnd_g (by exact ⟨by omega, by omega, by omega⟩) ?_
    conv => lhs; whnf
    have hk : decide ((1 : Int) + (a.length : Int) < 0) = false := df (by omega)
    repeat ((first | with_reducible apply br_tt | with_reducible apply br_ff | with_reducible apply br_nf | with_reducible apply br_nt | with_reducible refine br_d ?_ (by kernel_rfl) | with_reducible apply br_t hk | with_reducible apply br_f hk); conv => lhs; whnf)
    conv => lhs; arg 1; whnf
    refine bnd_g (by exact ⟨by omega, by omega⟩) ?_
    conv => lhs; whnf
    repeat ((first | with_reducible apply br_tt | with_reducible apply br_ff | with_reducible apply br_nf | with_reducible apply br_nt | with_reducible refine br_d ?_ (by kernel_rfl) | with_reducible apply br_t hk | with_reducible apply br_f hk | with_reducible refine br_f (by simp; done) ?_); conv => lhs; whnf)
    conv => lhs; arg 1; whnf
    refine bnd_g (by exact ⟨by omega, by omega, by omega⟩) ?_
    conv => lhs; whnf
    conv => lhs; arg 1; whnf
    refine bnd_g (by exact ⟨by simp; omega, by omega, by omega⟩) ?_
    conv => lhs; whnf
    refine br_f (by (apply decide_eq_false; rw [heldR_iota]; omega)) ?_
    conv => lhs; whnf
    refine br_f (by (rw [heldR_iota]; simp)) ?_
    conv => lhs; whnf
    conv => lhs; arg 1; whnf
    refine bnd_g (by omega) ?_
    conv => lhs; whnf
    conv => lhs; arg 1; whnf
    refine bnd_g (by omega) ?_
    conv => lhs; whnf
    conv => lhs; arg 1; whnf
    refine bnd_g (by exact ⟨by omega, by omega⟩) ?_
    conv => lhs; whnf
    repeat ((first | with_reducible apply br_tt | with_reducible apply br_ff | with_reducible apply br_nf | with_reducible apply br_nt | with_reducible refine br_d ?_ (by kernel_rfl) | with_reducible refine br_f (by simp; done) ?_); conv => lhs; whnf)
    conv => lhs; arg 1; whnf
    refine bnd_g (by exact ⟨by simp; omega, by omega, by omega⟩) ?_
    conv => lhs; whnf
    refine br_f (by (apply decide_eq_false; rw [heldR_iota]; omega)) ?_
    conv => lhs; whnf
    refine br_f (by (rw [heldR_iota]; simp)) ?_
    conv => lhs; whnf
theorem ok_lawObjectBase : FnOk Tryd.prog 15 K_lawObjectBase := by
  refine fn_ok (fn := Tryd.f15) (k := Tryd.f15.ntmps) (E := E_lawObjectBase) (facts_of (List.forall_mem_cons.2 ⟨ok_szContext, List.forall_mem_cons.2 ⟨ok_toContext, List.forall_mem_cons.2 ⟨ok_specObjectBase, List.forall_mem_cons.2 ⟨ok_implObjectBase, List.forall_mem_cons.2 ⟨ok_eqRuleS, List.forall_mem_cons.2 ⟨ok_eqContext, List.forall_mem_cons.2 ⟨ok_heldRuleS, List.forall_mem_cons.2 ⟨ok_markContext, List.forall_mem_cons.2 ⟨ok_markRuleS, List.forall_mem_nil _⟩⟩⟩⟩⟩⟩⟩⟩⟩)) (by kernel_rfl) rfl (by decide +kernel) (by decide +kernel) ?_
  intro avs hin r h
  unfold K_lawObjectBase at h
  split at h
  · obtain ⟨hp, rfl⟩ := gd_o h
    exact ⟨_, ev_lawObjectBase _ _ hp, rfl⟩
  · cases h

end Go.Sym
