/- Functions of the program, each told as a plain equation. -/
import Derived.Test.YtiihfodcocihjaaGreatDoorSymExB
namespace Go.Sym
open Go.Proofs
set_option linter.unusedVariables false
set_option linter.unusedSimpArgs false
set_option maxRecDepth 100000
set_option maxHeartbeats 4000000

def iotaR : Int → Nat → List (Int × Int)
  | _, 0 => []
  | k, n + 1 => (k, k + 1) :: iotaR (k + 2) n
@[simp] theorem iotaR_length : ∀ (n : Nat) (k : Int), (iotaR k n).length = n
  | 0, _ => rfl
  | n + 1, k => by simp [iotaR, iotaR_length n]
def dualF (m : Int) (b : List Int) : Int × List Int × Bool := bif isCtx m b && !decide ((b.length : Int) > 6) then ((b.length : Int), colsF m b, true) else (0, [], false)
theorem colF_isSet {b : List Int} (h : b.length ≤ 8) (e : Nat) : isSet (b.length : Int) (colF b e) = true := by
  have hc := colF_set b (e : Int) h
  have hlt : (colF b (e : Int)).toNat < 2 ^ b.length := by
    refine Nat.lt_pow_two_of_testBit _ fun i hi => ?_
    cases hb : (colF b (e : Int)).toNat.testBit i
    · rfl
    · have := ((colF_bit h e i).1 hb).1
      omega
  unfold isSet
  refine dt ⟨by omega, by omega, ?_⟩
  have e2 : ((2 ^ b.length : Nat) : Int) = (2 : Int) ^ b.length := by push_cast; rfl
  rw [Int.toNat_natCast]
  omega
theorem colsL_sets {b : List Int} (h : b.length ≤ 8) : ∀ (d i : Nat), (colsL b d i).all (isSet (b.length : Int)) = true
  | 0, _ => rfl
  | d + 1, i => by rw [colsL, List.all_cons, colF_isSet h i, colsL_sets h d (i + 1)]; rfl
theorem colsF_length {m : Int} {b : List Int} : (colsF m b).length = m.toNat := colsL_length b _ _
theorem dualF_ctx {m : Int} {b : List Int} (h : (dualF m b).2.2 = true) : isCtx (dualF m b).1 (dualF m b).2.1 = true := by
  unfold dualF at h ⊢
  cases hc : (isCtx m b && !decide ((b.length : Int) > 6))
  · rw [hc] at h; cases h
  · rw [cond_true]
    rw [Bool.and_eq_true, Bool.not_eq_true', decide_eq_false_iff_not] at hc
    have hl := isCtx_len hc.1
    show isCtx (b.length : Int) (colsF m b) = true
    unfold isCtx
    have h1 : decide (0 ≤ (b.length : Int) ∧ (b.length : Int) ≤ 6) = true := decide_eq_true (by omega)
    have h2 : decide ((colsF m b).length ≤ 8) = true := decide_eq_true (by rw [colsF_length]; omega)
    have h3 : (colsF m b).all (isSet (b.length : Int)) = true := colsL_sets hl.1 _ _
    rw [h1, h2, h3]
    rfl
theorem dualF_len (m : Int) (b : List Int) : (dualF m b).2.1.length ≤ 8 := by
  unfold dualF
  cases hc : (isCtx m b && !decide ((b.length : Int) > 6))
  · exact Nat.zero_le _
  · rw [Bool.and_eq_true] at hc
    have hl := isCtx_len hc.1
    show (colsF m b).length ≤ 8
    rw [colsF_length]
    omega
def objB (m : Int) (b : List Int) : List (Int × Int) := bif (dualF m b).2.2 then stemR (dualF m b).1 (dualF m b).2.1 else []
def exoF (m : Int) (a : List Int) : List Int × List (Int × Int) × QL := bif (dualF m a).2.2 then explF (dualF m a).1 (dualF m a).2.1 else ([], [], [])
def exoM (m : Int) (a : List Int) : Int := bif (dualF m a).2.2 then explM (dualF m a).1 (dualF m a).2.1 else 0
theorem exoF_len (m : Int) (a : List Int) : (exoF m a).1.length ≤ 8 ∧ (exoF m a).2.1.length ≤ 32 ∧ (exoF m a).2.2.length ≤ 80 := by
  unfold exoF
  cases (dualF m a).2.2 with
  | false => exact ⟨Nat.zero_le _, Nat.zero_le _, Nat.zero_le _⟩
  | true => exact explF_len _ _
def heldRF (l : List (Int × Int)) (k : Int) : Int := if l = iotaR k l.length then k + 2 * l.length else -1
theorem heldR_iota (k : Int) (n : Nat) : heldRF (iotaR k n) k = k + 2 * n := by
  unfold heldRF
  rw [iotaR_length, if_pos rfl]
def heldXF (Q : QL) (R : List (Int × Int)) (a : List Int) (q : Int) : Int :=
  bif decide (heldQF Q q < 0) then -1 else bif decide (heldRF R (heldQF Q q) < 0) then -1 else bif decide (held a (heldRF R (heldQF Q q)) < 0) then -1 else held a (heldRF R (heldQF Q q))
theorem heldX_iota (q : Int) (n1 n2 n3 : Nat) (hq : 0 ≤ q) : heldXF (iotaQ q n1) (iotaR (q + 4 * n1) n2) (iotaI (q + 4 * n1 + 2 * n2) n3) q = q + 4 * n1 + 2 * n2 + n3 := by
  unfold heldXF
  rw [heldQ_iota, heldR_iota, held_iota, df (by omega), df (by omega), df (by omega)]
  rfl
theorem heldQ_le {l : QL} {k : Int} (h : ¬ heldQF l k < 0) : heldQF l k = k + 4 * l.length := by
  unfold heldQF at h ⊢
  split at h
  · rename_i e; rw [if_pos e]
  · omega
theorem heldR_le {l : List (Int × Int)} {k : Int} (h : ¬ heldRF l k < 0) : heldRF l k = k + 2 * l.length := by
  unfold heldRF at h ⊢
  split at h
  · rename_i e; rw [if_pos e]
  · omega
/- spec.l3Column -/
def K_l3Column : List AV → List Ob → Option (AV × List Ob)
  | [.agg [.int .i64 m, .lst (.int .i64) b], .int .i64 e], [] => gd ((0 ≤ e ∧ e ≤ 8) ∧ b.length ≤ 8 ∧ ∀ x ∈ b, 0 ≤ x ∧ x ≤ 255) (.int .i64 (colF b e), [])
  | _, _ => none
@[reducible] def E_l3Column : Env := mkE (tb [(137, K_l2Has)]) (fun f => false) (fun r => bif r == 3 then ([1, 2, 5, 6], [5]) else ([], []))
theorem lp_l3Column (m : Int) (b : List Int) (e : Int) (hb : b.length ≤ 8) (hs : ∀ x ∈ b, 0 ≤ x ∧ x ≤ 255) (he : 0 ≤ e ∧ e ≤ 8) (k : AX → S → Option (AV × List Ob)) (d : Nat) : ∀ (n i : Nat) (x q : Int), b.length - i = d → i ≤ b.length → x = i → d < n →
    lpAt E_l3Column (lp E_l3Column 0 n) 0 (loopAt Tryz.f107 0) (mkS [1, 2, 5, 6] [.int .i64 e, .ptr 0 0, .int .i64 q, .int .i64 x] [some (.box 27 [.int .i64 m, .lst (.int .i64) b])]) k =
      k (.exit 0) (mkS [5] [.int .i64 (orF (bitAt b e) d i q)] []) := by
  induction d with
  | zero =>
    intro n i x q hd hi hx hn
    subst hx
    rw [lpAt_def]
    conv => lhs; whnf
    refine br_f (df (by omega)) ?_
    conv => lhs; whnf
    rfl
  | succ d ih =>
    intro n i x q hd hi hx hn
    obtain ⟨n, rfl⟩ : ∃ m, n = m + 1 := ⟨n - 1, by omega⟩
    subst hx
    rw [lpAt_def]
    conv => lhs; whnf
    refine br_t (dt (by omega)) ?_
    conv => lhs; whnf
    refine br_t (dt2 (by omega) (by omega)) ?_
    conv => lhs; whnf
    conv => lhs; arg 1; whnf
    refine bnd_g (by exact ⟨hs _ (mem_getD (by omega)), he⟩) ?_
    conv => lhs; whnf
    refine br_c (fun h => ?_) (fun h => ?_)
    · have h' : bitAt b e i = true := h
      conv => lhs; whnf
      refine br_f (by (rw [wrapu (n := (i : Int)) (by omega) (by omega)]; exact df (by omega))) ?_
      conv => lhs; whnf
      rw [shl1u (by omega)]
      rw [ih n (i + 1) _ _ (by omega) (by omega) (by rw [wrap64 (by omega) (by omega)]; simp) (by omega)]
      rw [orF, h', cond_true]
      rfl
    · have h' : bitAt b e i = false := h
      conv => lhs; whnf
      rw [ih n (i + 1) _ _ (by omega) (by omega) (by rw [wrap64 (by omega) (by omega)]; simp) (by omega)]
      rw [orF, h', cond_false]
theorem ev_l3Column (m : Int) (b : List Int) (e : Int) (hp : (0 ≤ e ∧ e ≤ 8) ∧ b.length ≤ 8 ∧ ∀ x ∈ b, 0 ≤ x ∧ x ≤ 255) : evF E_l3Column (20) Tryz.f107 [.agg [.int .i64 m, .lst (.int .i64) b], .int .i64 e] [] = some (.int .i64 (colF b e), []) := by
  conv => lhs; whnf
  refine (lp_l3Column m b e hp.2.1 hp.2.2 hp.1 _ b.length _ 0 0 _ rfl (by omega) rfl (by have := hp.2.1; change _ < 19; omega)).trans ?_
  conv => lhs; whnf
  rfl
theorem ok_l3Column : FnOk Tryz.prog 107 K_l3Column := by
  refine fn_ok (fn := Tryz.f107) (k := Tryz.f107.ntmps) (E := E_l3Column) (facts_of (List.forall_mem_cons.2 ⟨ok_l2Has, List.forall_mem_nil _⟩)) (by kernel_rfl) rfl (by decide +kernel) (by decide +kernel) ?_
  intro avs hin r h
  unfold K_l3Column at h
  split at h
  · obtain ⟨hp, rfl⟩ := gd_o h
    exact ⟨_, ev_l3Column _ _ _ hp, rfl⟩
  · cases h

/- spec.DualContext -/
def K_specDual : List AV → List Ob → Option (AV × List Ob)
  | [.agg [.int .i64 m, .lst (.int .i64) b]], [] => gd (b.length ≤ 1048576) (.tup [.agg [.int .i64 (dualF m b).1, .own 0], .bool (dualF m b).2.2], [.row 3 (.int .i64) (dualF m b).2.1])
  | _, _ => none
@[reducible] def E_specDual : Env := mkE (tb [(38, K_specIsContext), (107, K_l3Column)]) (fun f => false) (fun r => bif r == 5 then ([1, 2, 4, 5], [2, 4]) else ([], []))
theorem lp_specDual (m : Nat) (hm : m ≤ 6) (b : List Int) (hb : b.length ≤ 8) (hs : ∀ x ∈ b, 0 ≤ x ∧ x ≤ 255) (k : AX → S → Option (AV × List Ob)) (d : Nat) : ∀ (n i : Nat) (x : Int) (zs : List Int), m - i = d → i ≤ m → x = i → d < n → zs.length ≤ i →
    lpAt E_specDual (lp E_specDual 0 n) 0 (loopAt Tryz.f49 0) (mkS [1, 2, 4, 5] [.ptr 0 0, .ptr 1 0, .ptr 3 0, .int .i64 x] [some (.box 27 [.int .i64 (m : Int), .lst (.int .i64) b]), some (.box 27 [.int .i64 0, .own 2]), some (.row 3 (.int .i64) []), some (.box 27 [.int .i64 b.length, .own 4]), some (.row 3 (.int .i64) zs)]) k =
      k (.exit 0) (mkS [2, 4] [.ptr 0 0, .ptr 2 0] [some (.box 27 [.int .i64 0, .own 1]), some (.row 3 (.int .i64) []), some (.box 27 [.int .i64 b.length, .own 3]), some (.row 3 (.int .i64) (zs ++ colsL b d i))]) := by
  induction d with
  | zero =>
    intro n i x zs hd hi hx hn hz
    subst hx
    rw [lpAt_def]
    conv => lhs; whnf
    refine br_f (df (by omega)) ?_
    conv => lhs; whnf
    rw [colsL, List.append_nil]
  | succ d ih =>
    intro n i x zs hd hi hx hn hz
    obtain ⟨n, rfl⟩ : ∃ m, n = m + 1 := ⟨n - 1, by omega⟩
    subst hx
    rw [lpAt_def]
    conv => lhs; whnf
    refine br_t (dt (by omega)) ?_
    conv => lhs; whnf
    conv => lhs; arg 1; whnf
    refine bnd_g (by exact ⟨⟨by omega, by omega⟩, hb, hs⟩) ?_
    conv => lhs; whnf
    refine br_t (dt (by simp [room]; omega)) ?_
    conv => lhs; whnf
    repeat ((first | with_reducible apply br_tt | with_reducible apply br_ff | with_reducible apply br_nf | with_reducible apply br_nt | with_reducible refine br_d ?_ (by kernel_rfl)); conv => lhs; whnf)
    refine Eq.trans (ih n (i + 1) _ _ (by omega) (by omega) (by rw [wrap64 (n := (i : Int) + 1) (by omega) (by omega)]; simp) (by omega) (by simp; omega)) ?_
    rw [colsL]
    simp only [List.append_assoc]
    rfl
theorem ev_specDual (m : Int) (b : List Int) (hp : b.length ≤ 1048576) : evF E_specDual (20) Tryz.f49 [.agg [.int .i64 m, .lst (.int .i64) b]] [] = some (.tup [.agg [.int .i64 (dualF m b).1, .own 0], .bool (dualF m b).2.2], [.row 3 (.int .i64) (dualF m b).2.1]) := by
  conv => lhs; whnf
  conv => lhs; arg 1; whnf
  refine bnd_g (by omega) ?_
  conv => lhs; whnf
  refine br_c (fun h => ?_) (fun h => ?_)
  · have h0 : isCtx m b = false := bnt h
    have hf : dualF m b = (0, [], false) := by unfold dualF; rw [h0]; rfl
    conv => lhs; whnf
    repeat ((first | with_reducible apply br_tt | with_reducible apply br_ff | with_reducible apply br_nf | with_reducible apply br_nt | with_reducible refine br_d ?_ (by kernel_rfl) | with_reducible apply br_t h | with_reducible apply br_f h); conv => lhs; whnf)
    rw [hf]
  · have h0 : isCtx m b = true := bnf h
    have hl := isCtx_len h0
    conv => lhs; whnf
    repeat ((first | with_reducible apply br_tt | with_reducible apply br_ff | with_reducible apply br_nf | with_reducible apply br_nt | with_reducible refine br_d ?_ (by kernel_rfl) | with_reducible apply br_t h | with_reducible apply br_f h); conv => lhs; whnf)
    refine br_c (fun h2 => ?_) (fun h2 => ?_)
    · have h2' : decide ((b.length : Int) > 6) = true := h2
      have hf : dualF m b = (0, [], false) := by unfold dualF; rw [h0, h2']; rfl
      conv => lhs; whnf
      rw [hf]
    · have h2' : decide ((b.length : Int) > 6) = false := h2
      have hf : dualF m b = ((b.length : Int), colsF m b, true) := by unfold dualF; rw [h0, h2']; rfl
      obtain ⟨mm, rfl⟩ : ∃ mm : Nat, m = mm := ⟨m.toNat, by omega⟩
      conv => lhs; whnf
      refine (lp_specDual mm (by omega) b hl.1 (ctx_small h0) _ mm _ 0 0 [] rfl (Nat.zero_le _) rfl (by change _ < 19; omega) (Nat.le_refl _)).trans ?_
      conv => lhs; whnf
      rw [hf]
      rfl
theorem ok_specDual : FnOk Tryz.prog 49 K_specDual := by
  refine fn_ok (fn := Tryz.f49) (k := Tryz.f49.ntmps) (E := E_specDual) (facts_of (List.forall_mem_cons.2 ⟨ok_specIsContext, List.forall_mem_cons.2 ⟨ok_l3Column, List.forall_mem_nil _⟩⟩)) (by kernel_rfl) rfl (by decide +kernel) (by decide +kernel) ?_
  intro avs hin r h
  unfold K_specDual at h
  split at h
  · obtain ⟨hp, rfl⟩ := gd_o h
    exact ⟨_, ev_specDual _ _ hp, rfl⟩
  · cases h

/- spec.ExploreObjects -/
def K_specExploreObjects : List AV → List Ob → Option (AV × List Ob)
  | [.agg [.int .i64 m, .lst (.int .i64) a]], [] => gd (a.length ≤ 1048576) (.tup [.agg [.own 0, .own 1, .int .i64 (exoM m a), .own 2], .bool (dualF m a).2.2], [.row 93 (.pair (.pair (.int .i64) (.int .i64)) (.pair .bool (.int .i64))) (exoF m a).2.2, .row 91 (.pair (.int .i64) (.int .i64)) (exoF m a).2.1, .row 3 (.int .i64) (exoF m a).1])
  | _, _ => none
@[reducible] def E_specExploreObjects : Env := mkE (tb [(49, K_specDual), (50, K_specExplore)]) (fun f => false) (fun r => ([], []))
theorem ev_specExploreObjects (m : Int) (a : List Int) (hp : a.length ≤ 1048576) : evF E_specExploreObjects (1) Tryz.f15 [.agg [.int .i64 m, .lst (.int .i64) a]] [] = some (.tup [.agg [.own 0, .own 1, .int .i64 (exoM m a), .own 2], .bool (dualF m a).2.2], [.row 93 (.pair (.pair (.int .i64) (.int .i64)) (.pair .bool (.int .i64))) (exoF m a).2.2, .row 91 (.pair (.int .i64) (.int .i64)) (exoF m a).2.1, .row 3 (.int .i64) (exoF m a).1]) := by
  have hdl := dualF_len m a
  conv => lhs; whnf
  conv => lhs; arg 1; whnf
  refine bnd_g (by exact hp) ?_
  conv => lhs; whnf
  refine br_c (fun h => ?_) (fun h => ?_)
  · conv => rhs; unfold exoF exoM; rw [bnt h]
    conv => lhs; whnf
    rfl
  · have hc := dualF_ctx (bnf h)
    have e1 : exoF m a = explF (dualF m a).1 (dualF m a).2.1 := by unfold exoF; rw [bnf h]; rfl
    have e2 : exoM m a = explM (dualF m a).1 (dualF m a).2.1 := by unfold exoM; rw [bnf h]; rfl
    conv => rhs; rw [e1, e2, (bnf h).trans hc.symm]
    conv => lhs; whnf
    conv => lhs; arg 1; whnf
    refine bnd_g (by omega) ?_
    conv => lhs; whnf
theorem ok_specExploreObjects : FnOk Tryz.prog 15 K_specExploreObjects := by
  refine fn_ok (fn := Tryz.f15) (k := Tryz.f15.ntmps) (E := E_specExploreObjects) (facts_of (List.forall_mem_cons.2 ⟨ok_specDual, List.forall_mem_cons.2 ⟨ok_specExplore, List.forall_mem_nil _⟩⟩)) (by kernel_rfl) rfl (by decide +kernel) (by decide +kernel) ?_
  intro avs hin r h
  unfold K_specExploreObjects at h
  split at h
  · obtain ⟨hp, rfl⟩ := gd_o h
    exact ⟨_, ev_specExploreObjects _ _ hp, rfl⟩
  · cases h

/- impl.DualContext -/
def K_implDual : List AV → List Ob → Option (AV × List Ob)
  | [.agg [.int .i64 m, .lst (.int .i64) b]], [] => gd (b.length ≤ 1048576) (.tup [.agg [.int .i64 (dualF m b).1, .own 0], .bool (dualF m b).2.2], [.row 3 (.int .i64) (dualF m b).2.1])
  | _, _ => none
@[reducible] def E_implDual : Env := mkE (tb [(44, K_implIsContext), (113, K_columns)]) (fun f => false) (fun r => ([], []))
theorem ev_implDual (m : Int) (b : List Int) (hp : b.length ≤ 1048576) : evF E_implDual (1) Tryz.f51 [.agg [.int .i64 m, .lst (.int .i64) b]] [] = some (.tup [.agg [.int .i64 (dualF m b).1, .own 0], .bool (dualF m b).2.2], [.row 3 (.int .i64) (dualF m b).2.1]) := by
  conv => lhs; whnf
  conv => lhs; arg 1; whnf
  refine bnd_g (by omega) ?_
  conv => lhs; whnf
  refine br_c (fun h => ?_) (fun h => ?_)
  · have h0 : isCtx m b = false := bnt h
    have hf : dualF m b = (0, [], false) := by unfold dualF; rw [h0]; rfl
    conv => lhs; whnf
    repeat ((first | with_reducible apply br_tt | with_reducible apply br_ff | with_reducible apply br_nf | with_reducible apply br_nt | with_reducible refine br_d ?_ (by kernel_rfl) | with_reducible apply br_t h | with_reducible apply br_f h); conv => lhs; whnf)
    rw [hf]
  · have h0 : isCtx m b = true := bnf h
    conv => lhs; whnf
    repeat ((first | with_reducible apply br_tt | with_reducible apply br_ff | with_reducible apply br_nf | with_reducible apply br_nt | with_reducible refine br_d ?_ (by kernel_rfl) | with_reducible apply br_t h | with_reducible apply br_f h); conv => lhs; whnf)
    refine br_c (fun h2 => ?_) (fun h2 => ?_)
    · have h2' : decide ((b.length : Int) > 6) = true := h2
      have hf : dualF m b = (0, [], false) := by unfold dualF; rw [h0, h2']; rfl
      conv => lhs; whnf
      rw [hf]
    · have h2' : decide ((b.length : Int) > 6) = false := h2
      have hf : dualF m b = ((b.length : Int), colsF m b, true) := by unfold dualF; rw [h0, h2']; rfl
      conv => lhs; whnf
      conv => lhs; arg 1; whnf
      refine bnd_g (by exact h0) ?_
      conv => lhs; whnf
      repeat ((first | with_reducible apply br_tt | with_reducible apply br_ff | with_reducible apply br_nf | with_reducible apply br_nt | with_reducible refine br_d ?_ (by kernel_rfl)); conv => lhs; whnf)
      rw [hf]
theorem ok_implDual : FnOk Tryz.prog 51 K_implDual := by
  refine fn_ok (fn := Tryz.f51) (k := Tryz.f51.ntmps) (E := E_implDual) (facts_of (List.forall_mem_cons.2 ⟨ok_implIsContext, List.forall_mem_cons.2 ⟨ok_columns, List.forall_mem_nil _⟩⟩)) (by kernel_rfl) rfl (by decide +kernel) (by decide +kernel) ?_
  intro avs hin r h
  unfold K_implDual at h
  split at h
  · obtain ⟨hp, rfl⟩ := gd_o h
    exact ⟨_, ev_implDual _ _ hp, rfl⟩
  · cases h

/- impl.ExploreObjects -/
def K_implExploreObjects : List AV → List Ob → Option (AV × List Ob)
  | [.agg [.int .i64 m, .lst (.int .i64) a]], [] => gd (a.length ≤ 1048576) (.tup [.agg [.own 0, .own 1, .int .i64 (exoM m a), .own 2], .bool (dualF m a).2.2], [.row 93 (.pair (.pair (.int .i64) (.int .i64)) (.pair .bool (.int .i64))) (exoF m a).2.2, .row 91 (.pair (.int .i64) (.int .i64)) (exoF m a).2.1, .row 3 (.int .i64) (exoF m a).1])
  | _, _ => none
@[reducible] def E_implExploreObjects : Env := mkE (tb [(51, K_implDual), (52, K_implExplore)]) (fun f => false) (fun r => ([], []))
theorem ev_implExploreObjects (m : Int) (a : List Int) (hp : a.length ≤ 1048576) : evF E_implExploreObjects (1) Tryz.f16 [.agg [.int .i64 m, .lst (.int .i64) a]] [] = some (.tup [.agg [.own 0, .own 1, .int .i64 (exoM m a), .own 2], .bool (dualF m a).2.2], [.row 93 (.pair (.pair (.int .i64) (.int .i64)) (.pair .bool (.int .i64))) (exoF m a).2.2, .row 91 (.pair (.int .i64) (.int .i64)) (exoF m a).2.1, .row 3 (.int .i64) (exoF m a).1]) := by
  have hdl := dualF_len m a
  conv => lhs; whnf
  conv => lhs; arg 1; whnf
  refine bnd_g (by exact hp) ?_
  conv => lhs; whnf
  refine br_c (fun h => ?_) (fun h => ?_)
  · conv => rhs; unfold exoF exoM; rw [bnt h]
    conv => lhs; whnf
    rfl
  · have hc := dualF_ctx (bnf h)
    have e1 : exoF m a = explF (dualF m a).1 (dualF m a).2.1 := by unfold exoF; rw [bnf h]; rfl
    have e2 : exoM m a = explM (dualF m a).1 (dualF m a).2.1 := by unfold exoM; rw [bnf h]; rfl
    conv => rhs; rw [e1, e2, (bnf h).trans hc.symm]
    conv => lhs; whnf
    conv => lhs; arg 1; whnf
    refine bnd_g (by omega) ?_
    conv => lhs; whnf
theorem ok_implExploreObjects : FnOk Tryz.prog 16 K_implExploreObjects := by
  refine fn_ok (fn := Tryz.f16) (k := Tryz.f16.ntmps) (E := E_implExploreObjects) (facts_of (List.forall_mem_cons.2 ⟨ok_implDual, List.forall_mem_cons.2 ⟨ok_implExplore, List.forall_mem_nil _⟩⟩)) (by kernel_rfl) rfl (by decide +kernel) (by decide +kernel) ?_
  intro avs hin r h
  unfold K_implExploreObjects at h
  split at h
  · obtain ⟨hp, rfl⟩ := gd_o h
    exact ⟨_, ev_implExploreObjects _ _ hp, rfl⟩
  · cases h

/- laws.eqRule -/
def K_eqRule : List AV → List Ob → Option (AV × List Ob)
  | [.agg [.int .i64 p, .int .i64 q], .agg [.int .i64 p', .int .i64 q']], [] => gd (True) (.bool (decide ((p, q) = (p', q'))), [])
  | _, _ => none
@[reducible] def E_eqRule : Env := mkE (tb []) (fun f => false) (fun r => ([], []))
theorem ev_eqRule (p q p' q' : Int) (hp : True) : evF E_eqRule (1) Tryz.f124 [.agg [.int .i64 p, .int .i64 q], .agg [.int .i64 p', .int .i64 q']] [] = some (.bool (decide ((p, q) = (p', q'))), []) := by
  conv => lhs; whnf
  refine br_c (fun h => ?_) (fun h => ?_)
  · conv => lhs; whnf
    simp at h
    simp [h]
  · conv => lhs; whnf
    refine br_c (fun h' => ?_) (fun h' => ?_)
    · conv => lhs; whnf
      simp at h h'
      simp [h']
    · conv => lhs; whnf
      simp at h h'
      simp [h, h']
theorem ok_eqRule : FnOk Tryz.prog 124 K_eqRule := by
  refine fn_ok (fn := Tryz.f124) (k := Tryz.f124.ntmps) (E := E_eqRule) (facts_of (List.forall_mem_nil _)) (by kernel_rfl) rfl (by decide +kernel) (by decide +kernel) ?_
  intro avs hin r h
  unfold K_eqRule at h
  split at h
  · obtain ⟨hp, rfl⟩ := gd_o h
    exact ⟨_, ev_eqRule _ _ _ _ hp, rfl⟩
  · cases h

/- laws.eqQuestion -/
def K_eqQuestion : List AV → List Ob → Option (AV × List Ob)
  | [.agg [.int .i64 p, .int .i64 q, .bool b, .int .i64 e], .agg [.int .i64 p', .int .i64 q', .bool b', .int .i64 e']], [] => gd (True) (.bool (decide (((p, q), b, e) = ((p', q'), b', e'))), [])
  | _, _ => none
@[reducible] def E_eqQuestion : Env := mkE (tb [(124, K_eqRule)]) (fun f => false) (fun r => ([], []))
theorem ev_eqQuestion (p q : Int) (b : Bool) (e : Int) (p' q' : Int) (b' : Bool) (e' : Int) (hp : True) : evF E_eqQuestion (1) Tryz.f123 [.agg [.int .i64 p, .int .i64 q, .bool b, .int .i64 e], .agg [.int .i64 p', .int .i64 q', .bool b', .int .i64 e']] [] = some (.bool (decide (((p, q), b, e) = ((p', q'), b', e'))), []) := by
  conv => lhs; whnf
  conv => lhs; arg 1; whnf
  refine bnd_g (by exact True.intro) ?_
  conv => lhs; whnf
  refine br_c (fun h => ?_) (fun h => ?_)
  · have h' : ¬ (p, q) = (p', q') := ofn (bnt h)
    conv => lhs; whnf
    refine okB ?_
    symm
    exact decide_eq_false fun e => h' (by cases e; rfl)
  · have h' : (p, q) = (p', q') := ofd (bnf h)
    cases h'
    conv => lhs; whnf
    refine br_c (fun h2 => ?_) (fun h2 => ?_)
    · have h2' : b ≠ b' := by
        have h2 : (!(b == b')) = true := h2
        simpa using h2
      conv => lhs; whnf
      refine okB ?_
      symm
      exact decide_eq_false fun e => h2' (by cases e; rfl)
    · have h2' : b = b' := by
        have h2 : (!(b == b')) = false := h2
        simpa using h2
      subst h2'
      conv => lhs; whnf
      refine br_c (fun h3 => ?_) (fun h3 => ?_)
      · have h3' : e ≠ e' := by
          have h3 : (e != e') = true := h3
          simpa using h3
        conv => lhs; whnf
        refine okB ?_
        symm
        exact decide_eq_false fun e => h3' (by cases e; rfl)
      · have h3' : e = e' := by
          have h3 : (e != e') = false := h3
          simpa using h3
        subst h3'
        conv => lhs; whnf
        refine okB ?_
        simp
theorem ok_eqQuestion : FnOk Tryz.prog 123 K_eqQuestion := by
  refine fn_ok (fn := Tryz.f123) (k := Tryz.f123.ntmps) (E := E_eqQuestion) (facts_of (List.forall_mem_cons.2 ⟨ok_eqRule, List.forall_mem_nil _⟩)) (by kernel_rfl) rfl (by decide +kernel) (by decide +kernel) ?_
  intro avs hin r h
  unfold K_eqQuestion at h
  split at h
  · obtain ⟨hp, rfl⟩ := gd_o h
    exact ⟨_, ev_eqQuestion _ _ _ _ _ _ _ _ hp, rfl⟩
  · cases h

/- laws.eqQuestionS -/
def K_eqQuestionS : List AV → List Ob → Option (AV × List Ob)
  | [.lst (.pair (.pair (.int .i64) (.int .i64)) (.pair .bool (.int .i64))) a, .lst (.pair (.pair (.int .i64) (.int .i64)) (.pair .bool (.int .i64))) b], [] => gd (a.length < 4611686018427387904 ∧ b.length < 4611686018427387904) (.bool (decide (a = b)), [])
  | _, _ => none
@[reducible] def E_eqQuestionS : Env := mkE (tb [(123, K_eqQuestion)]) (fun f => false) (fun r => bif r == 4 then ([0, 1, 5], [4]) else ([], []))
theorem lp_eqQuestionS (a b : QL) (hl : a.length = b.length) (ha : a.length < 4611686018427387904) (k : AX → S → Option (AV × List Ob)) (d : Nat) : ∀ (n i : Nat) (x : Int), a.length - i = d → i ≤ a.length → x = i → d < n →
    lpAt E_eqQuestionS (lp E_eqQuestionS 0 n) 0 (loopAt Tryz.f53 0) (mkS [0, 1, 5] [.lst (.pair (.pair (.int .i64) (.int .i64)) (.pair .bool (.int .i64))) a, .lst (.pair (.pair (.int .i64) (.int .i64)) (.pair .bool (.int .i64))) b, .int .i64 x] []) k =
      if a.drop i = b.drop i then k (.exit 0) (mkS [4] [.any] []) else k .ret (mkS [4] [.bool false] []) := by
  induction d with
  | zero =>
    intro n i x hd hi hx hn
    subst hx
    rw [lpAt_def]
    conv => lhs; whnf
    refine br_f (df (by omega)) ?_
    conv => lhs; whnf
    rw [if_pos (by rw [List.drop_of_length_le (by omega), List.drop_of_length_le (by omega)])]
  | succ d ih =>
    intro n i x hd hi hx hn
    obtain ⟨n, rfl⟩ : ∃ m, n = m + 1 := ⟨n - 1, by omega⟩
    subst hx
    rw [lpAt_def]
    conv => lhs; whnf
    refine br_t (dt (by omega)) ?_
    conv => lhs; whnf
    refine br_t (dt2 (by omega) (by omega)) ?_
    conv => lhs; whnf
    refine br_t (dt2 (by omega) (by omega)) ?_
    conv => lhs; whnf
    conv => lhs; arg 1; whnf
    refine bnd_g (by exact True.intro) ?_
    conv => lhs; whnf
    rw [getD_drop (l := a) (i := i) (d := dQ) (by omega), getD_drop (l := b) (i := i) (d := dQ) (by omega)]
    refine br_t (by kernel_rfl) ?_
    conv => lhs; whnf
    refine br_c (fun h => ?_) (fun h => ?_)
    · have h' : ¬ a.getD i dQ = b.getD i dQ := ofn (bnt h)
      conv => lhs; whnf
      rw [if_neg]
      intro he
      exact h' (List.cons.inj he).1
    · have h' : a.getD i dQ = b.getD i dQ := ofd (bnf h)
      conv => lhs; whnf
      rw [ih n (i + 1) _ (by omega) (by omega) (by rw [wrap64 (by omega) (by omega)]; simp) (by omega)]
      rw [h']
      simp
theorem ev_eqQuestionS (a b : QL) (hp : a.length < 4611686018427387904 ∧ b.length < 4611686018427387904) : evF E_eqQuestionS (a.length + 2) Tryz.f53 [.lst (.pair (.pair (.int .i64) (.int .i64)) (.pair .bool (.int .i64))) a, .lst (.pair (.pair (.int .i64) (.int .i64)) (.pair .bool (.int .i64))) b] [] = some (.bool (decide (a = b)), []) := by
  conv => lhs; whnf
  refine br_c (fun h => ?_) (fun h => ?_)
  · conv => lhs; whnf
    have : a ≠ b := by
      rintro rfl
      simp at h
    simp [this]
  · conv => lhs; whnf
    have hl : a.length = b.length := by simp at h; omega
    refine (lp_eqQuestionS a b hl hp.1 _ _ _ 0 0 rfl (by omega) rfl (by omega)).trans ?_
    simp only [List.drop_zero]
    split
    · rename_i he
      conv => lhs; whnf
      simp [he]
    · rename_i he
      conv => lhs; whnf
      simp [he]
theorem ok_eqQuestionS : FnOk Tryz.prog 53 K_eqQuestionS := by
  refine fn_ok (fn := Tryz.f53) (k := Tryz.f53.ntmps) (E := E_eqQuestionS) (facts_of (List.forall_mem_cons.2 ⟨ok_eqQuestion, List.forall_mem_nil _⟩)) (by kernel_rfl) rfl (by decide +kernel) (by decide +kernel) ?_
  intro avs hin r h
  unfold K_eqQuestionS at h
  split at h
  · obtain ⟨hp, rfl⟩ := gd_o h
    exact ⟨_, ev_eqQuestionS _ _ hp, rfl⟩
  · cases h

/- laws.eqRuleS -/
def K_eqRuleS : List AV → List Ob → Option (AV × List Ob)
  | [.lst (.pair (.int .i64) (.int .i64)) a, .lst (.pair (.int .i64) (.int .i64)) b], [] => gd (a.length < 4611686018427387904 ∧ b.length < 4611686018427387904) (.bool (decide (a = b)), [])
  | _, _ => none
@[reducible] def E_eqRuleS : Env := mkE (tb [(124, K_eqRule)]) (fun f => false) (fun r => bif r == 4 then ([0, 1, 5], [4]) else ([], []))
theorem lp_eqRuleS (a b : List (Int × Int)) (hl : a.length = b.length) (ha : a.length < 4611686018427387904) (k : AX → S → Option (AV × List Ob)) (d : Nat) : ∀ (n i : Nat) (x : Int), a.length - i = d → i ≤ a.length → x = i → d < n →
    lpAt E_eqRuleS (lp E_eqRuleS 0 n) 0 (loopAt Tryz.f54 0) (mkS [0, 1, 5] [.lst (.pair (.int .i64) (.int .i64)) a, .lst (.pair (.int .i64) (.int .i64)) b, .int .i64 x] []) k =
      if a.drop i = b.drop i then k (.exit 0) (mkS [4] [.any] []) else k .ret (mkS [4] [.bool false] []) := by
  induction d with
  | zero =>
    intro n i x hd hi hx hn
    subst hx
    rw [lpAt_def]
    conv => lhs; whnf
    refine br_f (df (by omega)) ?_
    conv => lhs; whnf
    rw [if_pos (by rw [List.drop_of_length_le (by omega), List.drop_of_length_le (by omega)])]
  | succ d ih =>
    intro n i x hd hi hx hn
    obtain ⟨n, rfl⟩ : ∃ m, n = m + 1 := ⟨n - 1, by omega⟩
    subst hx
    rw [lpAt_def]
    conv => lhs; whnf
    refine br_t (dt (by omega)) ?_
    conv => lhs; whnf
    refine br_t (dt2 (by omega) (by omega)) ?_
    conv => lhs; whnf
    refine br_t (dt2 (by omega) (by omega)) ?_
    conv => lhs; whnf
    conv => lhs; arg 1; whnf
    refine bnd_g (by exact True.intro) ?_
    conv => lhs; whnf
    rw [getD_drop (l := a) (i := i) (d := (0, 0)) (by omega), getD_drop (l := b) (i := i) (d := (0, 0)) (by omega)]
    refine br_t (by kernel_rfl) ?_
    conv => lhs; whnf
    refine br_c (fun h => ?_) (fun h => ?_)
    · conv => lhs; whnf
      rw [if_neg]
      intro he
      exact ofnt h (List.cons.inj he).1
    · conv => lhs; whnf
      rw [ih n (i + 1) _ (by omega) (by omega) (by rw [wrap64 (by omega) (by omega)]; simp) (by omega)]
      have h : a.getD i (0, 0) = b.getD i (0, 0) := ofnf h
      rw [h]
      simp
theorem ev_eqRuleS (a b : List (Int × Int)) (hp : a.length < 4611686018427387904 ∧ b.length < 4611686018427387904) : evF E_eqRuleS (a.length + 2) Tryz.f54 [.lst (.pair (.int .i64) (.int .i64)) a, .lst (.pair (.int .i64) (.int .i64)) b] [] = some (.bool (decide (a = b)), []) := by
  conv => lhs; whnf
  refine br_c (fun h => ?_) (fun h => ?_)
  · conv => lhs; whnf
    have : a ≠ b := by
      rintro rfl
      simp at h
    simp [this]
  · conv => lhs; whnf
    have hl : a.length = b.length := by simp at h; omega
    refine (lp_eqRuleS a b hl hp.1 _ _ _ 0 0 rfl (by omega) rfl (by omega)).trans ?_
    simp only [List.drop_zero]
    split
    · rename_i he
      conv => lhs; whnf
      simp [he]
    · rename_i he
      conv => lhs; whnf
      simp [he]
theorem ok_eqRuleS : FnOk Tryz.prog 54 K_eqRuleS := by
  refine fn_ok (fn := Tryz.f54) (k := Tryz.f54.ntmps) (E := E_eqRuleS) (facts_of (List.forall_mem_cons.2 ⟨ok_eqRule, List.forall_mem_nil _⟩)) (by kernel_rfl) rfl (by decide +kernel) (by decide +kernel) ?_
  intro avs hin r h
  unfold K_eqRuleS at h
  split at h
  · obtain ⟨hp, rfl⟩ := gd_o h
    exact ⟨_, ev_eqRuleS _ _ hp, rfl⟩
  · cases h

/- laws.eqExploration -/
def K_eqExploration : List AV → List Ob → Option (AV × List Ob)
  | [.agg [.lst (.pair (.pair (.int .i64) (.int .i64)) (.pair .bool (.int .i64))) q, .lst (.pair (.int .i64) (.int .i64)) r, .int .i64 m, .lst (.int .i64) a], .agg [.lst (.pair (.pair (.int .i64) (.int .i64)) (.pair .bool (.int .i64))) q', .lst (.pair (.int .i64) (.int .i64)) r', .int .i64 m', .lst (.int .i64) a']], [] => gd ((q.length < 1048577 ∧ q'.length < 1048577) ∧ (r.length < 1048577 ∧ r'.length < 1048577) ∧ (a.length < 1048577 ∧ a'.length < 1048577)) (.bool ((decide (q = q') && decide (r = r')) && decide (m = m' ∧ a = a')), [])
  | _, _ => none
@[reducible] def E_eqExploration : Env := mkE (tb [(53, K_eqQuestionS), (54, K_eqRuleS), (14, K_eqContext)]) (fun f => false) (fun r => ([], []))
theorem ev_eqExploration (q : QL) (r : List (Int × Int)) (m : Int) (a : List Int) (q' : QL) (r' : List (Int × Int)) (m' : Int) (a' : List Int) (hp : (q.length < 1048577 ∧ q'.length < 1048577) ∧ (r.length < 1048577 ∧ r'.length < 1048577) ∧ (a.length < 1048577 ∧ a'.length < 1048577)) : evF E_eqExploration (1) Tryz.f17 [.agg [.lst (.pair (.pair (.int .i64) (.int .i64)) (.pair .bool (.int .i64))) q, .lst (.pair (.int .i64) (.int .i64)) r, .int .i64 m, .lst (.int .i64) a], .agg [.lst (.pair (.pair (.int .i64) (.int .i64)) (.pair .bool (.int .i64))) q', .lst (.pair (.int .i64) (.int .i64)) r', .int .i64 m', .lst (.int .i64) a']] [] = some (.bool ((decide (q = q') && decide (r = r')) && decide (m = m' ∧ a = a')), []) := by
  conv => lhs; whnf
  conv => lhs; arg 1; whnf
  refine bnd_g (by exact ⟨by omega, by omega⟩) ?_
  conv => lhs; whnf
  refine br_c (fun h => ?_) (fun h => ?_)
  · conv => rhs; rw [bnt h]
    conv => lhs; whnf
    rfl
  · conv => lhs; whnf
    conv => lhs; arg 1; whnf
    refine bnd_g (by exact ⟨by omega, by omega⟩) ?_
    conv => lhs; whnf
    refine br_c (fun h2 => ?_) (fun h2 => ?_)
    · conv => rhs; rw [bnt h2, Bool.and_false]
      conv => lhs; whnf
      rfl
    · conv => lhs; whnf
      conv => lhs; arg 1; whnf
      refine bnd_g (by exact ⟨by omega, by omega⟩) ?_
      conv => lhs; whnf
      conv => rhs; rw [bnf h, bnf h2, Bool.and_self, Bool.true_and]
      refine br_c (fun h3 => ?_) (fun h3 => ?_)
      · conv => rhs; rw [bnt h3]
        conv => lhs; whnf
      · conv => rhs; rw [bnf h3]
        conv => lhs; whnf
theorem ok_eqExploration : FnOk Tryz.prog 17 K_eqExploration := by
  refine fn_ok (fn := Tryz.f17) (k := Tryz.f17.ntmps) (E := E_eqExploration) (facts_of (List.forall_mem_cons.2 ⟨ok_eqQuestionS, List.forall_mem_cons.2 ⟨ok_eqRuleS, List.forall_mem_cons.2 ⟨ok_eqContext, List.forall_mem_nil _⟩⟩⟩)) (by kernel_rfl) rfl (by decide +kernel) (by decide +kernel) ?_
  intro avs hin r h
  unfold K_eqExploration at h
  split at h
  · obtain ⟨hp, rfl⟩ := gd_o h
    exact ⟨_, ev_eqExploration _ _ _ _ _ _ _ _ hp, rfl⟩
  · cases h

/- laws.heldQuestionS -/
def K_heldQuestionS : List AV → List Ob → Option (AV × List Ob)
  | [.lst (.pair (.pair (.int .i64) (.int .i64)) (.pair .bool (.int .i64))) a, .int .i64 q], [] => gd (a.length ≤ 16777216 ∧ 0 ≤ q ∧ q ≤ 1152921504606846976) (.int .i64 (heldQF a q), [])
  | _, _ => none
@[reducible] def E_heldQuestionS : Env := mkE (tb []) (fun f => false) (fun r => bif r == 2 then ([0, 1, 5], [1, 4]) else ([], []))
theorem lp_heldQuestionS (a : QL) (ha : a.length ≤ 16777216) (k : AX → S → Option (AV × List Ob)) (r : Option (AV × List Ob)) (hk : ∀ q, k .ret (mkS [1, 4] [.int .i64 q, .int .i64 (-1)] []) = r) (d : Nat) : ∀ (n i : Nat) (x q : Int), a.length - i = d → i ≤ a.length → 0 ≤ q → q ≤ 1152921504606846976 + 4 * i → x = i → d < n →
    lpAt E_heldQuestionS (lp E_heldQuestionS 0 n) 0 (loopAt Tryz.f57 0) (mkS [0, 1, 5] [.lst (.pair (.pair (.int .i64) (.int .i64)) (.pair .bool (.int .i64))) a, .int .i64 q, .int .i64 x] []) k =
      if a.drop i = iotaQ q d then k (.exit 0) (mkS [1, 4] [.int .i64 (q + 4 * d), .any] []) else r := by
  induction d with
  | zero =>
    intro n i x q hd hi hq hq' hx hn
    subst hx
    rw [lpAt_def]
    conv => lhs; whnf
    refine br_f (df (by omega)) ?_
    conv => lhs; whnf
    rw [if_pos (by rw [List.drop_of_length_le (by omega)]; rfl)]
    simp
  | succ d ih =>
    intro n i x q hd hi hq hq' hx hn
    obtain ⟨n, rfl⟩ : ∃ m, n = m + 1 := ⟨n - 1, by omega⟩
    subst hx
    have w1 : IntKind.i64.wrap (q + 1) = q + 1 := wrap64 (by omega) (by omega)
    have w2 : IntKind.i64.wrap (IntKind.i64.wrap (q + 1) + 1) = q + 2 := by rw [w1, wrap64 (by omega) (by omega)]; omega
    have w3 : IntKind.i64.wrap (IntKind.i64.wrap (IntKind.i64.wrap (q + 1) + 1) + 1) = q + 3 := by rw [w2, wrap64 (by omega) (by omega)]; omega
    have w4 : IntKind.i64.wrap (IntKind.i64.wrap (IntKind.i64.wrap (IntKind.i64.wrap (q + 1) + 1) + 1) + 1) = q + 4 := by rw [w3, wrap64 (by omega) (by omega)]; omega
    rw [getD_drop (l := a) (i := i) (d := dQ) (by omega), iotaQ, lpAt_def]
    conv => lhs; whnf
    refine br_t (dt (by omega)) ?_
    conv => lhs; whnf
    refine br_t (dt2 (by omega) (by omega)) ?_
    conv => lhs; whnf
    refine br_c (fun h => ?_) (fun h => ?_)
    · have h' : ((a.getD i dQ).1.1 != q) = true := h
      conv => lhs; whnf
      rw [if_neg]
      · exact hk _
      · intro he
        have := congrArg (fun z => z.1.1) (List.cons.inj he).1
        simp at h' this
        exact h' this
    · have h' : ((a.getD i dQ).1.1 != q) = false := h
      conv => lhs; whnf
      refine br_t (dt2 (by omega) (by omega)) ?_
      conv => lhs; whnf
      refine br_c (fun h2 => ?_) (fun h2 => ?_)
      · have h2' : ((a.getD i dQ).1.2 != IntKind.i64.wrap (q + 1)) = true := h2
        rw [w1] at h2'
        conv => lhs; whnf
        rw [if_neg]
        · exact hk _
        · intro he
          have := congrArg (fun z => z.1.2) (List.cons.inj he).1
          simp at h2' this
          exact h2' this
      · have h2' : ((a.getD i dQ).1.2 != IntKind.i64.wrap (q + 1)) = false := h2
        rw [w1] at h2'
        conv => lhs; whnf
        refine br_t (dt2 (by omega) (by omega)) ?_
        conv => lhs; whnf
        refine br_f (df (by omega)) ?_
        conv => lhs; whnf
        refine br_c (fun h3 => ?_) (fun h3 => ?_)
        · have h3' : (!((a.getD i dQ).2.1 == ((IntKind.i64.wrap (IntKind.i64.wrap (q + 1) + 1)).tmod 3 == 0))) = true := h3
          rw [w2] at h3'
          conv => lhs; whnf
          rw [if_neg]
          · exact hk _
          · intro he
            have := congrArg (fun z => z.2.1) (List.cons.inj he).1
            simp only at this
            rw [this] at h3'
            simp at h3'
        · have h3' : (!((a.getD i dQ).2.1 == ((IntKind.i64.wrap (IntKind.i64.wrap (q + 1) + 1)).tmod 3 == 0))) = false := h3
          rw [w2] at h3'
          conv => lhs; whnf
          refine br_t (dt2 (by omega) (by omega)) ?_
          conv => lhs; whnf
          refine br_c (fun h4 => ?_) (fun h4 => ?_)
          · have h4' : ((a.getD i dQ).2.2 != IntKind.i64.wrap (IntKind.i64.wrap (IntKind.i64.wrap (q + 1) + 1) + 1)) = true := h4
            rw [w3] at h4'
            conv => lhs; whnf
            rw [if_neg]
            · exact hk _
            · intro he
              have := congrArg (fun z => z.2.2) (List.cons.inj he).1
              simp at h4' this
              exact h4' this
          · have h4' : ((a.getD i dQ).2.2 != IntKind.i64.wrap (IntKind.i64.wrap (IntKind.i64.wrap (q + 1) + 1) + 1)) = false := h4
            rw [w3] at h4'
            conv => lhs; whnf
            refine Eq.trans (ih n (i + 1) _ _ (by omega) (by omega) (by rw [w4]; omega) (by rw [w4]; push_cast; omega) (by rw [wrap64 (n := (i : Int) + 1) (by omega) (by omega)]; simp) (by omega)) ?_
            have e : a.getD i dQ = ((q, q + 1), (q + 2).tmod 3 == 0, q + 3) := by
              have e3 : (a.getD i dQ).2.1 = ((q + 2).tmod 3 == 0) := by
                generalize (a.getD i dQ).2.1 = u at h3'
                generalize ((q + 2).tmod 3 == 0) = v at h3'
                revert h3'
                cases u <;> cases v <;> decide
              simp only [bne_eq_false_iff_eq] at h' h2' h4'
              exact Prod.ext (Prod.ext h' h2') (Prod.ext e3 h4')
            rw [w4, e]
            have e1 : q + 4 + 4 * (d : Int) = q + 4 * ((d + 1 : Nat) : Int) := by push_cast; omega
            rw [e1]
            simp only [List.cons.injEq, true_and]
theorem ev_heldQuestionS (a : QL) (q : Int) (hp : a.length ≤ 16777216 ∧ 0 ≤ q ∧ q ≤ 1152921504606846976) : evF E_heldQuestionS (a.length + 2) Tryz.f57 [.lst (.pair (.pair (.int .i64) (.int .i64)) (.pair .bool (.int .i64))) a, .int .i64 q] [] = some (.int .i64 (heldQF a q), []) := by
  conv => lhs; whnf
  refine (lp_heldQuestionS a hp.1 _ _ (fun _ => by conv => lhs; whnf; rfl) a.length _ 0 0 q rfl (by omega) hp.2.1 (by omega) rfl (by omega)).trans ?_
  simp only [List.drop_zero]
  unfold heldQF
  split
  · rename_i he
    conv => lhs; whnf
  · rename_i he
    rfl
theorem ok_heldQuestionS : FnOk Tryz.prog 57 K_heldQuestionS := by
  refine fn_ok (fn := Tryz.f57) (k := Tryz.f57.ntmps) (E := E_heldQuestionS) (facts_of (List.forall_mem_nil _)) (by kernel_rfl) rfl (by decide +kernel) (by decide +kernel) ?_
  intro avs hin r h
  unfold K_heldQuestionS at h
  split at h
  · obtain ⟨hp, rfl⟩ := gd_o h
    exact ⟨_, ev_heldQuestionS _ _ hp, rfl⟩
  · cases h

/- laws.heldRuleS -/
def K_heldRuleS : List AV → List Ob → Option (AV × List Ob)
  | [.lst (.pair (.int .i64) (.int .i64)) a, .int .i64 q], [] => gd (a.length ≤ 16777216 ∧ 0 ≤ q ∧ q ≤ 1152921504606846976) (.int .i64 (heldRF a q), [])
  | _, _ => none
@[reducible] def E_heldRuleS : Env := mkE (tb []) (fun f => false) (fun r => bif r == 2 then ([0, 1, 5], [1, 4]) else ([], []))
theorem lp_heldRuleS (a : List (Int × Int)) (ha : a.length ≤ 16777216) (k : AX → S → Option (AV × List Ob)) (r : Option (AV × List Ob)) (hk : ∀ q, k .ret (mkS [1, 4] [.int .i64 q, .int .i64 (-1)] []) = r) (d : Nat) : ∀ (n i : Nat) (x q : Int), a.length - i = d → i ≤ a.length → 0 ≤ q → q ≤ 1152921504606846976 + 2 * i → x = i → d < n →
    lpAt E_heldRuleS (lp E_heldRuleS 0 n) 0 (loopAt Tryz.f58 0) (mkS [0, 1, 5] [.lst (.pair (.int .i64) (.int .i64)) a, .int .i64 q, .int .i64 x] []) k =
      if a.drop i = iotaR q d then k (.exit 0) (mkS [1, 4] [.int .i64 (q + 2 * d), .any] []) else r := by
  induction d with
  | zero =>
    intro n i x q hd hi hq hq' hx hn
    subst hx
    rw [lpAt_def]
    conv => lhs; whnf
    refine br_f (df (by omega)) ?_
    conv => lhs; whnf
    rw [if_pos (by rw [List.drop_of_length_le (by omega)]; rfl)]
    simp
  | succ d ih =>
    intro n i x q hd hi hq hq' hx hn
    obtain ⟨n, rfl⟩ : ∃ m, n = m + 1 := ⟨n - 1, by omega⟩
    subst hx
    have hw1 : IntKind.i64.wrap (q + 1) = q + 1 := wrap64 (by omega) (by omega)
    have hw2 : IntKind.i64.wrap (IntKind.i64.wrap (q + 1) + 1) = q + 2 := by rw [hw1, wrap64 (by omega) (by omega)]; omega
    rw [getD_drop (l := a) (i := i) (d := (0, 0)) (by omega), iotaR, lpAt_def]
    conv => lhs; whnf
    refine br_t (dt (by omega)) ?_
    conv => lhs; whnf
    refine br_t (dt2 (by omega) (by omega)) ?_
    conv => lhs; whnf
    refine br_c (fun h => ?_) (fun h => ?_)
    · have h' : ((a.getD i (0, 0)).1 != q) = true := h
      conv => lhs; whnf
      rw [if_neg]
      · exact hk _
      · intro he
        have := congrArg Prod.fst (List.cons.inj he).1
        simp at h' this
        exact h' this
    · have h' : ((a.getD i (0, 0)).1 != q) = false := h
      conv => lhs; whnf
      refine br_t (dt2 (by omega) (by omega)) ?_
      conv => lhs; whnf
      refine br_c (fun h2 => ?_) (fun h2 => ?_)
      · have h2' : ((a.getD i (0, 0)).2 != IntKind.i64.wrap (q + 1)) = true := h2
        rw [hw1] at h2'
        conv => lhs; whnf
        rw [if_neg]
        · exact hk _
        · intro he
          have := congrArg Prod.snd (List.cons.inj he).1
          simp at h2' this
          exact h2' this
      · have h2' : ((a.getD i (0, 0)).2 != IntKind.i64.wrap (q + 1)) = false := h2
        rw [hw1] at h2'
        conv => lhs; whnf
        refine Eq.trans (ih n (i + 1) _ _ (by omega) (by omega) (by rw [hw2]; omega) (by rw [hw2]; push_cast; omega) (by rw [wrap64 (n := (i : Int) + 1) (by omega) (by omega)]; simp) (by omega)) ?_
        have e : a.getD i (0, 0) = (q, q + 1) := by
          simp only [bne_eq_false_iff_eq] at h' h2'
          exact Prod.ext h' h2'
        rw [hw2, e]
        have e1 : q + 2 + 2 * (d : Int) = q + 2 * ((d + 1 : Nat) : Int) := by push_cast; omega
        rw [e1]
        simp only [List.cons.injEq, true_and]
theorem ev_heldRuleS (a : List (Int × Int)) (q : Int) (hp : a.length ≤ 16777216 ∧ 0 ≤ q ∧ q ≤ 1152921504606846976) : evF E_heldRuleS (a.length + 2) Tryz.f58 [.lst (.pair (.int .i64) (.int .i64)) a, .int .i64 q] [] = some (.int .i64 (heldRF a q), []) := by
  conv => lhs; whnf
  refine (lp_heldRuleS a hp.1 _ _ (fun _ => by conv => lhs; whnf; rfl) a.length _ 0 0 q rfl (by omega) hp.2.1 (by omega) rfl (by omega)).trans ?_
  simp only [List.drop_zero]
  unfold heldRF
  split
  · rename_i he
    conv => lhs; whnf
  · rename_i he
    rfl
theorem ok_heldRuleS : FnOk Tryz.prog 58 K_heldRuleS := by
  refine fn_ok (fn := Tryz.f58) (k := Tryz.f58.ntmps) (E := E_heldRuleS) (facts_of (List.forall_mem_nil _)) (by kernel_rfl) rfl (by decide +kernel) (by decide +kernel) ?_
  intro avs hin r h
  unfold K_heldRuleS at h
  split at h
  · obtain ⟨hp, rfl⟩ := gd_o h
    exact ⟨_, ev_heldRuleS _ _ hp, rfl⟩
  · cases h

/- laws.heldIntS -/
def K_heldIntS : List AV → List Ob → Option (AV × List Ob)
  | [.lst (.int .i64) a, .int .i64 q], [] => gd (a.length ≤ 16777216 ∧ 0 ≤ q ∧ q ≤ 1152921504606846976) (.int .i64 (held a q), [])
  | _, _ => none
@[reducible] def E_heldIntS : Env := mkE (tb []) (fun f => false) (fun r => bif r == 2 then ([0, 1, 5], [1, 4]) else ([], []))
theorem lp_heldIntS (a : List Int) (ha : a.length ≤ 16777216) (k : AX → S → Option (AV × List Ob)) (r : Option (AV × List Ob)) (hk : ∀ q, k .ret (mkS [1, 4] [.int .i64 q, .int .i64 (-1)] []) = r) (d : Nat) : ∀ (n i : Nat) (x q : Int), a.length - i = d → i ≤ a.length → 0 ≤ q → q ≤ 1152921504606846976 + i → x = i → d < n →
    lpAt E_heldIntS (lp E_heldIntS 0 n) 0 (loopAt Tryz.f27 0) (mkS [0, 1, 5] [.lst (.int .i64) a, .int .i64 q, .int .i64 x] []) k =
      if a.drop i = iotaI q d then k (.exit 0) (mkS [1, 4] [.int .i64 (q + d), .any] []) else r := by
  induction d with
  | zero =>
    intro n i x q hd hi hq hq' hx hn
    subst hx
    rw [lpAt_def]
    conv => lhs; whnf
    refine br_f (df (by omega)) ?_
    conv => lhs; whnf
    rw [if_pos (by rw [List.drop_of_length_le (by omega)]; rfl)]
    simp
  | succ d ih =>
    intro n i x q hd hi hq hq' hx hn
    obtain ⟨n, rfl⟩ : ∃ m, n = m + 1 := ⟨n - 1, by omega⟩
    subst hx
    rw [lpAt_def]
    conv => lhs; whnf
    refine br_t (dt (by omega)) ?_
    conv => lhs; whnf
    refine br_t (dt2 (by omega) (by omega)) ?_
    conv => lhs; whnf
    rw [getD_drop (l := a) (i := i) (d := 0) (by omega)]
    refine br_c (fun h => ?_) (fun h => ?_)
    · conv => lhs; whnf
      rw [if_neg]
      · exact hk _
      · intro he
        have := (List.cons.inj he).1
        simp at h
        exact h this
    · conv => lhs; whnf
      rw [wrap64 (n := q + 1) (by omega) (by omega)]
      rw [ih n (i + 1) _ (q + 1) (by omega) (by omega) (by omega) (by omega) (by rw [wrap64 (by omega) (by omega)]; simp) (by omega)]
      have e1 : q + 1 + (d : Int) = q + ((d + 1 : Nat) : Int) := by push_cast; omega
      rw [e1]
      simp at h
      simp [h, iotaI]
theorem ev_heldIntS (a : List Int) (q : Int) (hp : a.length ≤ 16777216 ∧ 0 ≤ q ∧ q ≤ 1152921504606846976) : evF E_heldIntS (a.length + 2) Tryz.f27 [.lst (.int .i64) a, .int .i64 q] [] = some (.int .i64 (held a q), []) := by
  conv => lhs; whnf
  refine (lp_heldIntS a hp.1 _ _ (fun _ => by conv => lhs; whnf; rfl) a.length _ 0 0 q rfl (by omega) hp.2.1 (by omega) rfl (by omega)).trans ?_
  simp only [List.drop_zero]
  unfold held
  split
  · rename_i he
    conv => lhs; whnf
  · rename_i he
    rfl
theorem ok_heldIntS : FnOk Tryz.prog 27 K_heldIntS := by
  refine fn_ok (fn := Tryz.f27) (k := Tryz.f27.ntmps) (E := E_heldIntS) (facts_of (List.forall_mem_nil _)) (by kernel_rfl) rfl (by decide +kernel) (by decide +kernel) ?_
  intro avs hin r h
  unfold K_heldIntS at h
  split at h
  · obtain ⟨hp, rfl⟩ := gd_o h
    exact ⟨_, ev_heldIntS _ _ hp, rfl⟩
  · cases h

/- laws.heldContext -/
def K_heldContext : List AV → List Ob → Option (AV × List Ob)
  | [.agg [.int .i64 m, .lst (.int .i64) a], .int .i64 q], [] => gd (a.length ≤ 16777216 ∧ 0 ≤ q ∧ q ≤ 1152921504606846976) (.int .i64 (held a q), [])
  | _, _ => none
@[reducible] def E_heldContext : Env := mkE (tb [(27, K_heldIntS)]) (fun f => false) (fun r => ([], []))
theorem ev_heldContext (m : Int) (a : List Int) (q : Int) (hp : a.length ≤ 16777216 ∧ 0 ≤ q ∧ q ≤ 1152921504606846976) : evF E_heldContext (1) Tryz.f59 [.agg [.int .i64 m, .lst (.int .i64) a], .int .i64 q] [] = some (.int .i64 (held a q), []) := by
  conv => lhs; whnf
  conv => lhs; arg 1; whnf
  refine bnd_g (by exact hp) ?_
  conv => lhs; whnf
  refine br_c (fun h => ?_) (fun h => ?_)
  · conv => lhs; whnf
    have h := ofd h
    unfold held at h ⊢
    split at h
    · omega
    · rename_i h5; rw [if_neg h5]
  · conv => lhs; whnf
theorem ok_heldContext : FnOk Tryz.prog 59 K_heldContext := by
  refine fn_ok (fn := Tryz.f59) (k := Tryz.f59.ntmps) (E := E_heldContext) (facts_of (List.forall_mem_cons.2 ⟨ok_heldIntS, List.forall_mem_nil _⟩)) (by kernel_rfl) rfl (by decide +kernel) (by decide +kernel) ?_
  intro avs hin r h
  unfold K_heldContext at h
  split at h
  · obtain ⟨hp, rfl⟩ := gd_o h
    exact ⟨_, ev_heldContext _ _ _ hp, rfl⟩
  · cases h

/- laws.heldExploration -/
def K_heldExploration : List AV → List Ob → Option (AV × List Ob)
  | [.agg [.lst (.pair (.pair (.int .i64) (.int .i64)) (.pair .bool (.int .i64))) Q, .lst (.pair (.int .i64) (.int .i64)) R, .int .i64 m, .lst (.int .i64) a], .int .i64 q], [] => gd ((Q.length ≤ 1000 ∧ R.length ≤ 1000) ∧ a.length ≤ 1000 ∧ (0 ≤ q ∧ q ≤ 1000)) (.int .i64 (heldXF Q R a q), [])
  | _, _ => none
@[reducible] def E_heldExploration : Env := mkE (tb [(57, K_heldQuestionS), (58, K_heldRuleS), (59, K_heldContext)]) (fun f => false) (fun r => ([], []))
theorem ev_heldExploration (Q : QL) (R : List (Int × Int)) (m : Int) (a : List Int) (q : Int) (hp : (Q.length ≤ 1000 ∧ R.length ≤ 1000) ∧ a.length ≤ 1000 ∧ (0 ≤ q ∧ q ≤ 1000)) : evF E_heldExploration (1) Tryz.f20 [.agg [.lst (.pair (.pair (.int .i64) (.int .i64)) (.pair .bool (.int .i64))) Q, .lst (.pair (.int .i64) (.int .i64)) R, .int .i64 m, .lst (.int .i64) a], .int .i64 q] [] = some (.int .i64 (heldXF Q R a q), []) := by
  conv => lhs; whnf
  conv => lhs; arg 1; whnf
  refine bnd_g (by exact ⟨by omega, by omega, by omega⟩) ?_
  conv => lhs; whnf
  refine br_c (fun h1 => ?_) (fun h1 => ?_)
  · conv => rhs; unfold heldXF; rw [h1, cond_true]
    conv => lhs; whnf
  · have e1 := heldQ_le (ofn h1)
    conv => lhs; whnf
    conv => lhs; arg 1; whnf
    refine bnd_g (by exact ⟨by omega, by omega, by omega⟩) ?_
    conv => lhs; whnf
    refine br_c (fun h2 => ?_) (fun h2 => ?_)
    · conv => rhs; unfold heldXF; rw [h1, cond_false, h2, cond_true]
      conv => lhs; whnf
    · have e2 := heldR_le (ofn h2)
      conv => lhs; whnf
      conv => lhs; arg 1; whnf
      refine bnd_g (by exact ⟨by omega, by omega, by omega⟩) ?_
      conv => lhs; whnf
      refine br_c (fun h3 => ?_) (fun h3 => ?_)
      · conv => rhs; unfold heldXF; rw [h1, cond_false, h2, cond_false, h3, cond_true]
        conv => lhs; whnf
      · conv => rhs; unfold heldXF; rw [h1, cond_false, h2, cond_false, h3, cond_false]
        conv => lhs; whnf
theorem ok_heldExploration : FnOk Tryz.prog 20 K_heldExploration := by
  refine fn_ok (fn := Tryz.f20) (k := Tryz.f20.ntmps) (E := E_heldExploration) (facts_of (List.forall_mem_cons.2 ⟨ok_heldQuestionS, List.forall_mem_cons.2 ⟨ok_heldRuleS, List.forall_mem_cons.2 ⟨ok_heldContext, List.forall_mem_nil _⟩⟩⟩)) (by kernel_rfl) rfl (by decide +kernel) (by decide +kernel) ?_
  intro avs hin r h
  unfold K_heldExploration at h
  split at h
  · obtain ⟨hp, rfl⟩ := gd_o h
    exact ⟨_, ev_heldExploration _ _ _ _ _ hp, rfl⟩
  · cases h

/- laws.markIntS -/
def K_markIntS : List AV → List Ob → Option (AV × List Ob)
  | [.own 0, .int .i64 q], [.row 3 (.int .i64) a] => gd (a.length ≤ 16777216 ∧ 0 ≤ q ∧ q ≤ 1152921504606846976) (.int .i64 (q + a.length), [.row 3 (.int .i64) (iotaI q a.length)])
  | _, _ => none
@[reducible] def E_markIntS : Env := mkE (tb []) (fun f => false) (fun r => bif r == 2 then ([0, 1, 5], [1]) else ([], []))
theorem lp_markIntS (k : AX → S → Option (AV × List Ob)) (d : Nat) : ∀ (n i : Nat) (x q : Int) (ys : List Int), ys.length - i = d → i ≤ ys.length → ys.length ≤ 16777216 → 0 ≤ q → q ≤ 1152921504606846976 + i → x = i → d < n →
    lpAt E_markIntS (lp E_markIntS 1 n) 1 (loopAt Tryz.f26 0) (mkS [0, 1, 5] [.own 0, .int .i64 q, .int .i64 x] [some (.row 3 (.int .i64) ys)]) k =
      k (.exit 0) (mkS [1] [.int .i64 (q + d)] [some (.row 3 (.int .i64) (ys.take i ++ iotaI q d))]) := by
  induction d with
  | zero =>
    intro n i x q ys hd hi hl hq hq' hx hn
    subst hx
    rw [lpAt_def]
    conv => lhs; whnf
    refine br_f (df (by omega)) ?_
    conv => lhs; whnf
    simp only [iotaI, List.append_nil, List.take_of_length_le (show ys.length ≤ i by omega)]
    simp
  | succ d ih =>
    intro n i x q ys hd hi hl hq hq' hx hn
    obtain ⟨n, rfl⟩ : ∃ m, n = m + 1 := ⟨n - 1, by omega⟩
    subst hx
    rw [lpAt_def]
    conv => lhs; whnf
    refine br_t (dt (by omega)) ?_
    conv => lhs; whnf
    refine br_t (dt2 (by omega) (by omega)) ?_
    conv => lhs; whnf
    refine br_t (dt (by omega)) ?_
    conv => lhs; whnf
    rw [wrap64 (n := q + 1) (by omega) (by omega)]
    rw [ih n (i + 1) _ (q + 1) _ (by simp; omega) (by simp; omega) (by simp; omega) (by omega) (by omega) (by rw [wrap64 (by omega) (by omega)]; simp) (by omega)]
    simp only [Int.toNat_natCast]
    rw [take_set_succ (by omega)]
    have e1 : q + 1 + (d : Int) = q + ((d + 1 : Nat) : Int) := by push_cast; omega
    rw [e1]
    simp [iotaI]
theorem ev_markIntS (a : List Int) (q : Int) (hp : a.length ≤ 16777216 ∧ 0 ≤ q ∧ q ≤ 1152921504606846976) : evF E_markIntS (a.length + 2) Tryz.f26 [.own 0, .int .i64 q] [.row 3 (.int .i64) a] = some (.int .i64 (q + a.length), [.row 3 (.int .i64) (iotaI q a.length)]) := by
  conv => lhs; whnf
  refine (lp_markIntS _ a.length _ 0 0 q a rfl (by omega) hp.1 hp.2.1 (by omega) rfl (by omega)).trans ?_
  conv => lhs; whnf
  simp
theorem ok_markIntS : FnOk Tryz.prog 26 K_markIntS := by
  refine fn_ok (fn := Tryz.f26) (k := Tryz.f26.ntmps) (E := E_markIntS) (facts_of (List.forall_mem_nil _)) (by kernel_rfl) rfl (by decide +kernel) (by decide +kernel) ?_
  intro avs hin r h
  unfold K_markIntS at h
  split at h
  · obtain ⟨hp, rfl⟩ := gd_o h
    exact ⟨_, ev_markIntS _ _ hp, rfl⟩
  · cases h

/- laws.markContext -/
def K_markContext : List AV → List Ob → Option (AV × List Ob)
  | [.agg [.int .i64 m, .own 0], .int .i64 q], [.row 3 (.int .i64) a] => gd (a.length ≤ 16777216 ∧ 0 ≤ q ∧ q ≤ 1152921504606846976) (.int .i64 (q + a.length), [.row 3 (.int .i64) (iotaI q a.length)])
  | _, _ => none
@[reducible] def E_markContext : Env := mkE (tb [(26, K_markIntS)]) (fun f => [26].contains f) (fun r => ([], []))
theorem ev_markContext (m : Int) (a : List Int) (q : Int) (hp : a.length ≤ 16777216 ∧ 0 ≤ q ∧ q ≤ 1152921504606846976) : evF E_markContext (1) Tryz.f18 [.agg [.int .i64 m, .own 0], .int .i64 q] [.row 3 (.int .i64) a] = some (.int .i64 (q + a.length), [.row 3 (.int .i64) (iotaI q a.length)]) := by
  conv => lhs; whnf
  conv => lhs; arg 1; whnf
  refine bnd_g (by exact hp) ?_
  conv => lhs; whnf
theorem ok_markContext : FnOk Tryz.prog 18 K_markContext := by
  refine fn_ok (fn := Tryz.f18) (k := Tryz.f18.ntmps) (E := E_markContext) (facts_of (List.forall_mem_cons.2 ⟨ok_markIntS, List.forall_mem_nil _⟩)) (by kernel_rfl) rfl (by decide +kernel) (by decide +kernel) ?_
  intro avs hin r h
  unfold K_markContext at h
  split at h
  · obtain ⟨hp, rfl⟩ := gd_o h
    exact ⟨_, ev_markContext _ _ _ hp, rfl⟩
  · cases h

/- laws.markQuestionS -/
def K_markQuestionS : List AV → List Ob → Option (AV × List Ob)
  | [.own 0, .int .i64 q], [.row 93 (.pair (.pair (.int .i64) (.int .i64)) (.pair .bool (.int .i64))) a] => gd (a.length ≤ 16777216 ∧ 0 ≤ q ∧ q ≤ 1152921504606846976) (.int .i64 (q + 4 * a.length), [.row 93 (.pair (.pair (.int .i64) (.int .i64)) (.pair .bool (.int .i64))) (iotaQ q a.length)])
  | _, _ => none
@[reducible] def E_markQuestionS : Env := mkE (tb []) (fun f => false) (fun r => bif r == 2 then ([0, 1, 5], [1]) else ([], []))
theorem lp_markQuestionS (k : AX → S → Option (AV × List Ob)) (d : Nat) : ∀ (n i : Nat) (x q : Int) (ys : QL), ys.length - i = d → i ≤ ys.length → ys.length ≤ 16777216 → 0 ≤ q → q ≤ 1152921504606846976 + 4 * i → x = i → d < n →
    lpAt E_markQuestionS (lp E_markQuestionS 1 n) 1 (loopAt Tryz.f55 0) (mkS [0, 1, 5] [.own 0, .int .i64 q, .int .i64 x] [some (.row 93 (.pair (.pair (.int .i64) (.int .i64)) (.pair .bool (.int .i64))) ys)]) k =
      k (.exit 0) (mkS [1] [.int .i64 (q + 4 * d)] [some (.row 93 (.pair (.pair (.int .i64) (.int .i64)) (.pair .bool (.int .i64))) (ys.take i ++ iotaQ q d))]) := by
  induction d with
  | zero =>
    intro n i x q ys hd hi hl hq hq' hx hn
    subst hx
    rw [lpAt_def]
    conv => lhs; whnf
    refine br_f (df (by omega)) ?_
    conv => lhs; whnf
    simp only [iotaQ, List.append_nil, List.take_of_length_le (show ys.length ≤ i by omega)]
    simp
  | succ d ih =>
    intro n i x q ys hd hi hl hq hq' hx hn
    obtain ⟨n, rfl⟩ : ∃ m, n = m + 1 := ⟨n - 1, by omega⟩
    subst hx
    have w1 : IntKind.i64.wrap (q + 1) = q + 1 := wrap64 (by omega) (by omega)
    have w2 : IntKind.i64.wrap (q + 1 + 1) = q + 2 := by rw [wrap64 (by omega) (by omega)]; omega
    have w3 : IntKind.i64.wrap (q + 2 + 1) = q + 3 := by rw [wrap64 (by omega) (by omega)]; omega
    have w4 : IntKind.i64.wrap (q + 3 + 1) = q + 4 := by rw [wrap64 (by omega) (by omega)]; omega
    have hq1 : ∀ j : Nat, j < ys.length → ∀ z, (decide (0 ≤ (j : Int)) && decide ((j : Int) < ((ys.set j z).length : Int))) = true := fun j hj z => dt2 (by omega) (by simp; omega)
    rw [lpAt_def]
    conv => lhs; whnf
    refine br_t (dt (by omega)) ?_
    conv => lhs; whnf
    refine br_t (dt2 (by omega) (by omega)) ?_
    conv => lhs; whnf
    refine br_t (dt (by omega)) ?_
    conv => lhs; whnf
    refine br_t (dt2 (by omega) (by simp; omega)) ?_
    conv => lhs; whnf
    refine br_t (dt (by simp; omega)) ?_
    conv => lhs; whnf
    refine br_f (df (by omega)) ?_
    conv => lhs; whnf
    refine br_t (dt2 (by omega) (by simp; omega)) ?_
    conv => lhs; whnf
    refine br_t (dt (by simp; omega)) ?_
    conv => lhs; whnf
    refine br_t (dt2 (by omega) (by simp; omega)) ?_
    conv => lhs; whnf
    refine br_t (dt (by simp; omega)) ?_
    conv => lhs; whnf
    rw [w1, w2, w3, w4]
    rw [ih n (i + 1) _ (q + 4) _ (by simp; omega) (by simp; omega) (by simp; omega) (by omega) (by omega) (by rw [wrap64 (by omega) (by omega)]; simp) (by omega)]
    simp only [Int.toNat_natCast]
    rw [take_set_succ (by simp; omega)]
    have e1 : q + 4 + 4 * (d : Int) = q + 4 * ((d + 1 : Nat) : Int) := by push_cast; omega
    rw [e1]
    simp only [iotaQ, List.set_set, getD_set_self (show i < ys.length by omega)]
    simp
    rw [List.take_set_of_le (by omega)]
theorem ev_markQuestionS (a : QL) (q : Int) (hp : a.length ≤ 16777216 ∧ 0 ≤ q ∧ q ≤ 1152921504606846976) : evF E_markQuestionS (a.length + 2) Tryz.f55 [.own 0, .int .i64 q] [.row 93 (.pair (.pair (.int .i64) (.int .i64)) (.pair .bool (.int .i64))) a] = some (.int .i64 (q + 4 * a.length), [.row 93 (.pair (.pair (.int .i64) (.int .i64)) (.pair .bool (.int .i64))) (iotaQ q a.length)]) := by
  conv => lhs; whnf
  refine (lp_markQuestionS _ a.length _ 0 0 q a rfl (by omega) hp.1 hp.2.1 (by omega) rfl (by omega)).trans ?_
  conv => lhs; whnf
  simp
theorem ok_markQuestionS : FnOk Tryz.prog 55 K_markQuestionS := by
  refine fn_ok (fn := Tryz.f55) (k := Tryz.f55.ntmps) (E := E_markQuestionS) (facts_of (List.forall_mem_nil _)) (by kernel_rfl) rfl (by decide +kernel) (by decide +kernel) ?_
  intro avs hin r h
  unfold K_markQuestionS at h
  split at h
  · obtain ⟨hp, rfl⟩ := gd_o h
    exact ⟨_, ev_markQuestionS _ _ hp, rfl⟩
  · cases h

/- laws.markRuleS -/
def K_markRuleS : List AV → List Ob → Option (AV × List Ob)
  | [.own 0, .int .i64 q], [.row 91 (.pair (.int .i64) (.int .i64)) a] => gd (a.length ≤ 16777216 ∧ 0 ≤ q ∧ q ≤ 1152921504606846976) (.int .i64 (q + 2 * a.length), [.row 91 (.pair (.int .i64) (.int .i64)) (iotaR q a.length)])
  | _, _ => none
@[reducible] def E_markRuleS : Env := mkE (tb []) (fun f => false) (fun r => bif r == 2 then ([0, 1, 5], [1]) else ([], []))
theorem lp_markRuleS (k : AX → S → Option (AV × List Ob)) (d : Nat) : ∀ (n i : Nat) (x q : Int) (ys : List (Int × Int)), ys.length - i = d → i ≤ ys.length → ys.length ≤ 16777216 → 0 ≤ q → q ≤ 1152921504606846976 + 2 * i → x = i → d < n →
    lpAt E_markRuleS (lp E_markRuleS 1 n) 1 (loopAt Tryz.f56 0) (mkS [0, 1, 5] [.own 0, .int .i64 q, .int .i64 x] [some (.row 91 (.pair (.int .i64) (.int .i64)) ys)]) k =
      k (.exit 0) (mkS [1] [.int .i64 (q + 2 * d)] [some (.row 91 (.pair (.int .i64) (.int .i64)) (ys.take i ++ iotaR q d))]) := by
  induction d with
  | zero =>
    intro n i x q ys hd hi hl hq hq' hx hn
    subst hx
    rw [lpAt_def]
    conv => lhs; whnf
    refine br_f (df (by omega)) ?_
    conv => lhs; whnf
    simp only [iotaR, List.append_nil, List.take_of_length_le (show ys.length ≤ i by omega)]
    simp
  | succ d ih =>
    intro n i x q ys hd hi hl hq hq' hx hn
    obtain ⟨n, rfl⟩ : ∃ m, n = m + 1 := ⟨n - 1, by omega⟩
    subst hx
    rw [lpAt_def]
    conv => lhs; whnf
    refine br_t (dt (by omega)) ?_
    conv => lhs; whnf
    refine br_t (dt2 (by omega) (by omega)) ?_
    conv => lhs; whnf
    refine br_t (dt (by omega)) ?_
    conv => lhs; whnf
    rw [wrap64 (n := q + 1) (by omega) (by omega)]
    refine br_t (dt2 (by omega) (by simp; omega)) ?_
    conv => lhs; whnf
    refine br_t (dt (by simp; omega)) ?_
    conv => lhs; whnf
    rw [wrap64 (n := q + 1 + 1) (by omega) (by omega)]
    rw [ih n (i + 1) _ (q + 1 + 1) _ (by simp; omega) (by simp; omega) (by simp; omega) (by omega) (by omega) (by rw [wrap64 (by omega) (by omega)]; simp) (by omega)]
    simp only [Int.toNat_natCast]
    rw [take_set_succ (by simp; omega)]
    have e1 : q + 1 + 1 + 2 * (d : Int) = q + 2 * ((d + 1 : Nat) : Int) := by push_cast; omega
    have e2 : q + 1 + 1 = q + 2 := by omega
    rw [e1, e2]
    simp only [iotaR, List.set_set, getD_set_self (show i < ys.length by omega)]
    simp
    rw [List.take_set_of_le (by omega)]
theorem ev_markRuleS (a : List (Int × Int)) (q : Int) (hp : a.length ≤ 16777216 ∧ 0 ≤ q ∧ q ≤ 1152921504606846976) : evF E_markRuleS (a.length + 2) Tryz.f56 [.own 0, .int .i64 q] [.row 91 (.pair (.int .i64) (.int .i64)) a] = some (.int .i64 (q + 2 * a.length), [.row 91 (.pair (.int .i64) (.int .i64)) (iotaR q a.length)]) := by
  conv => lhs; whnf
  refine (lp_markRuleS _ a.length _ 0 0 q a rfl (by omega) hp.1 hp.2.1 (by omega) rfl (by omega)).trans ?_
  conv => lhs; whnf
  simp
theorem ok_markRuleS : FnOk Tryz.prog 56 K_markRuleS := by
  refine fn_ok (fn := Tryz.f56) (k := Tryz.f56.ntmps) (E := E_markRuleS) (facts_of (List.forall_mem_nil _)) (by kernel_rfl) rfl (by decide +kernel) (by decide +kernel) ?_
  intro avs hin r h
  unfold K_markRuleS at h
  split at h
  · obtain ⟨hp, rfl⟩ := gd_o h
    exact ⟨_, ev_markRuleS _ _ hp, rfl⟩
  · cases h

/- laws.markExploration -/
def K_markExploration : List AV → List Ob → Option (AV × List Ob)
  | [.agg [.own 0, .own 1, .int .i64 m, .own 2], .int .i64 q], [.row 93 (.pair (.pair (.int .i64) (.int .i64)) (.pair .bool (.int .i64))) Q, .row 91 (.pair (.int .i64) (.int .i64)) R, .row 3 (.int .i64) a] => gd ((Q.length ≤ 1000 ∧ R.length ≤ 1000) ∧ a.length ≤ 1000 ∧ (0 ≤ q ∧ q ≤ 1000)) (.int .i64 (q + 4 * Q.length + 2 * R.length + a.length), [.row 93 (.pair (.pair (.int .i64) (.int .i64)) (.pair .bool (.int .i64))) (iotaQ q Q.length), .row 91 (.pair (.int .i64) (.int .i64)) (iotaR (q + 4 * Q.length) R.length), .row 3 (.int .i64) (iotaI (q + 4 * Q.length + 2 * R.length) a.length)])
  | _, _ => none
@[reducible] def E_markExploration : Env := mkE (tb [(55, K_markQuestionS), (56, K_markRuleS), (18, K_markContext)]) (fun f => [55, 56, 18].contains f) (fun r => ([], []))
theorem ev_markExploration (Q : QL) (R : List (Int × Int)) (m : Int) (a : List Int) (q : Int) (hp : (Q.length ≤ 1000 ∧ R.length ≤ 1000) ∧ a.length ≤ 1000 ∧ (0 ≤ q ∧ q ≤ 1000)) : evF E_markExploration (1) Tryz.f19 [.agg [.own 0, .own 1, .int .i64 m, .own 2], .int .i64 q] [.row 93 (.pair (.pair (.int .i64) (.int .i64)) (.pair .bool (.int .i64))) Q, .row 91 (.pair (.int .i64) (.int .i64)) R, .row 3 (.int .i64) a] = some (.int .i64 (q + 4 * Q.length + 2 * R.length + a.length), [.row 93 (.pair (.pair (.int .i64) (.int .i64)) (.pair .bool (.int .i64))) (iotaQ q Q.length), .row 91 (.pair (.int .i64) (.int .i64)) (iotaR (q + 4 * Q.length) R.length), .row 3 (.int .i64) (iotaI (q + 4 * Q.length + 2 * R.length) a.length)]) := by
  conv => lhs; whnf
  conv => lhs; arg 1; whnf
  refine bnd_g (by exact ⟨by omega, by omega, by omega⟩) ?_
  conv => lhs; whnf
  conv => lhs; arg 1; whnf
  refine bnd_g (by exact ⟨by omega, by omega, by omega⟩) ?_
  conv => lhs; whnf
  conv => lhs; arg 1; whnf
  refine bnd_g (by exact ⟨by omega, by omega, by omega⟩) ?_
  conv => lhs; whnf
theorem ok_markExploration : FnOk Tryz.prog 19 K_markExploration := by
  refine fn_ok (fn := Tryz.f19) (k := Tryz.f19.ntmps) (E := E_markExploration) (facts_of (List.forall_mem_cons.2 ⟨ok_markQuestionS, List.forall_mem_cons.2 ⟨ok_markRuleS, List.forall_mem_cons.2 ⟨ok_markContext, List.forall_mem_nil _⟩⟩⟩)) (by kernel_rfl) rfl (by decide +kernel) (by decide +kernel) ?_
  intro avs hin r h
  unfold K_markExploration at h
  split at h
  · obtain ⟨hp, rfl⟩ := gd_o h
    exact ⟨_, ev_markExploration _ _ _ _ _ hp, rfl⟩
  · cases h

/- laws.FnExactExploreObjects -/
def K_lawExploreObjects : List AV → List Ob → Option (AV × List Ob)
  | [.agg [.int .i64 m, .lst (.int .i64) a]], [] => gd (a.length ≤ maxLen) (.bool true, [])
  | _, _ => none
@[reducible] def E_lawExploreObjects : Env := mkE (tb [(10, K_szContext), (12, K_toContext), (15, K_specExploreObjects), (16, K_implExploreObjects), (17, K_eqExploration), (14, K_eqContext), (20, K_heldExploration), (18, K_markContext), (19, K_markExploration)]) (fun f => [18, 19].contains f) (fun r => ([], []))
theorem ev_lawExploreObjects (m : Int) (a : List Int) (hp : a.length ≤ maxLen) : evF E_lawExploreObjects (1) Tryz.f4 [.agg [.int .i64 m, .lst (.int .i64) a]] [] = some (.bool true, []) := by
  have hb := exoF_len m a
  conv => lhs; whnf
  conv => lhs; arg 1; whnf
  refine bnd_g (by exact ⟨by omega, by omega, hp⟩) ?_
  conv => lhs; whnf
  refine br_c (fun h1 => ?_) (fun h1 => ?_)
  · conv => lhs; whnf
  · have g := szI_ok (ofn h1)
    have s1 := g.2
    conv => lhs; whnf
    conv => lhs; arg 1; whnf
    refine bnd_g (by omega) ?_
    conv => lhs; whnf
    conv => lhs; arg 1; whnf
    refine bnd_g (by omega) ?_
    conv => lhs; whnf
    conv => lhs; arg 1; whnf
    refine bnd_g (by omega) ?_
    conv => lhs; whnf
    conv => lhs; arg 1; whnf
    refine bnd_g (by omega) ?_
    conv => lhs; whnf
    conv => lhs; arg 1; whnf
    refine bnd_g (by exact ⟨by omega, by omega, by omega⟩) ?_
    conv => lhs; whnf
    repeat ((first | with_reducible apply br_tt | with_reducible apply br_ff | with_reducible apply br_nf | with_reducible apply br_nt | with_reducible refine br_d ?_ (by kernel_rfl) | with_reducible refine br_f (by simp; done) ?_); conv => lhs; whnf)
    conv => lhs; arg 1; whnf
    refine bnd_g (by omega) ?_
    conv => lhs; whnf
    conv => lhs; arg 1; whnf
    refine bnd_g (by exact ⟨by omega, by omega⟩) ?_
    conv => lhs; whnf
    repeat ((first | with_reducible apply br_tt | with_reducible apply br_ff | with_reducible apply br_nf | with_reducible apply br_nt | with_reducible refine br_d ?_ (by kernel_rfl) | with_reducible refine br_f (by simp; done) ?_); conv => lhs; whnf)
    conv => lhs; arg 1; whnf
    refine bnd_g (by exact ⟨by omega, by omega, by omega⟩) ?_
    conv => lhs; whnf
    have hk : decide ((1 : Int) + (a.length : Int) < 0) = false := df (by omega)
    repeat ((first | with_reducible apply br_tt | with_reducible apply br_ff | with_reducible apply br_nf | with_reducible apply br_nt | with_reducible refine br_d ?_ (by kernel_rfl) | with_reducible apply br_t hk | with_reducible apply br_f hk); conv => lhs; whnf)
    conv => lhs; arg 1; whnf
    refine bnd_g (by exact ⟨by omega, by omega, by omega⟩) ?_
    conv => lhs; whnf
    repeat ((first | with_reducible apply br_tt | with_reducible apply br_ff | with_reducible apply br_nf | with_reducible apply br_nt | with_reducible refine br_d ?_ (by kernel_rfl) | with_reducible apply br_t hk | with_reducible apply br_f hk | with_reducible refine br_f (by simp; done) ?_); conv => lhs; whnf)
    conv => lhs; arg 1; whnf
    refine bnd_g (by exact ⟨by omega, by omega, by omega⟩) ?_
    conv => lhs; whnf
    conv => lhs; arg 1; whnf
    refine bnd_g (by exact ⟨by simp; omega, by simp; omega, by omega⟩) ?_
    conv => lhs; whnf
    refine br_f (by (apply decide_eq_false; rw [heldX_iota _ _ _ _ (by omega)]; omega)) ?_
    conv => lhs; whnf
    refine br_f (by (rw [heldX_iota _ _ _ _ (by omega)]; simp)) ?_
    conv => lhs; whnf
    conv => lhs; arg 1; whnf
    refine bnd_g (by omega) ?_
    conv => lhs; whnf
    conv => lhs; arg 1; whnf
    refine bnd_g (by omega) ?_
    conv => lhs; whnf
    conv => lhs; arg 1; whnf
    refine bnd_g (by exact ⟨by omega, by omega, by omega⟩) ?_
    conv => lhs; whnf
    repeat ((first | with_reducible apply br_tt | with_reducible apply br_ff | with_reducible apply br_nf | with_reducible apply br_nt | with_reducible refine br_d ?_ (by kernel_rfl) | with_reducible refine br_f (by simp; done) ?_); conv => lhs; whnf)
    conv => lhs; arg 1; whnf
    refine bnd_g (by exact ⟨by simp; omega, by simp; omega, by omega⟩) ?_
    conv => lhs; whnf
    refine br_f (by (apply decide_eq_false; rw [heldX_iota _ _ _ _ (by omega)]; omega)) ?_
    conv => lhs; whnf
    refine br_f (by (rw [heldX_iota _ _ _ _ (by omega)]; simp)) ?_
    conv => lhs; whnf
theorem ok_lawExploreObjects : FnOk Tryz.prog 4 K_lawExploreObjects := by
  refine fn_ok (fn := Tryz.f4) (k := Tryz.f4.ntmps) (E := E_lawExploreObjects) (facts_of (List.forall_mem_cons.2 ⟨ok_szContext, List.forall_mem_cons.2 ⟨ok_toContext, List.forall_mem_cons.2 ⟨ok_specExploreObjects, List.forall_mem_cons.2 ⟨ok_implExploreObjects, List.forall_mem_cons.2 ⟨ok_eqExploration, List.forall_mem_cons.2 ⟨ok_eqContext, List.forall_mem_cons.2 ⟨ok_heldExploration, List.forall_mem_cons.2 ⟨ok_markContext, List.forall_mem_cons.2 ⟨ok_markExploration, List.forall_mem_nil _⟩⟩⟩⟩⟩⟩⟩⟩⟩)) (by kernel_rfl) rfl (by decide +kernel) (by decide +kernel) ?_
  intro avs hin r h
  unfold K_lawExploreObjects at h
  split at h
  · obtain ⟨hp, rfl⟩ := gd_o h
    exact ⟨_, ev_lawExploreObjects _ _ hp, rfl⟩
  · cases h

end Go.Sym
