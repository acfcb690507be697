/- Functions of the program, each told as a plain equation. -/
import Derived.Test.YtgipkopdifngpaaSymX
namespace Go.Sym
open Go.Proofs
set_option linter.unusedVariables false
set_option linter.unusedSimpArgs false
set_option maxRecDepth 100000
set_option maxHeartbeats 4000000

def szI (n left : Int) : Int := if left < n then -1 else left - n
theorem szI_ok {n left : Int} (h : ¬ szI n left < 0) : szI n left = left - n ∧ n ≤ left := by
  unfold szI at h ⊢
  split at h
  · omega
  · rename_i h5; exact ⟨if_neg h5, by omega⟩
/- laws.szIntS -/
def K_szIntS : List AV → List Ob → Option (AV × List Ob)
  | [.lst (.int .i64) a, .int .i64 left], [] => gd (0 ≤ left ∧ left ≤ 1048576 ∧ a.length ≤ maxLen) (.int .i64 (szI a.length left), [])
  | _, _ => none
@[reducible] def E_szIntS : Env := mkE (tb []) (fun f => false) (fun r => ([], []))
theorem ev_szIntS (a : List Int) (left : Int) (hp : 0 ≤ left ∧ left ≤ 1048576 ∧ a.length ≤ maxLen) : evF E_szIntS (1) Try.f64 [.lst (.int .i64) a, .int .i64 left] [] = some (.int .i64 (szI a.length left), []) := by
  obtain ⟨h0, h1, h2⟩ := hp
  have hm := maxLen_eq
  have hw : IntKind.i64.wrap (left - a.length) = left - a.length := wrap64 (by omega) (by omega)
  conv => lhs; whnf
  refine br_c (fun h => ?_) (fun h => ?_)
  · conv => lhs; whnf
    have h := ofd h
    rw [hw] at h
    rw [szI, if_pos (by omega)]
  · conv => lhs; whnf
    have h := ofn h
    rw [hw] at h
    rw [szI, if_neg (by omega), hw]
theorem ok_szIntS : FnOk Try.prog 64 K_szIntS := by
  refine fn_ok (fn := Try.f64) (k := Try.f64.ntmps) (E := E_szIntS) (facts_of (List.forall_mem_nil _)) (by kernel_rfl) rfl (by decide +kernel) (by decide +kernel) ?_
  intro avs hin r h
  unfold K_szIntS at h
  split at h
  · obtain ⟨hp, rfl⟩ := gd_o h
    exact ⟨_, ev_szIntS _ _ hp, rfl⟩
  · cases h

/- laws.szPattern -/
def K_szPattern : List AV → List Ob → Option (AV × List Ob)
  | [.agg [.lst (.int .i64) a, .lst (.int .i64) b], .int .i64 left], [] => gd (0 ≤ left ∧ left ≤ 1048576 ∧ a.length ≤ maxLen ∧ b.length ≤ maxLen) (.int .i64 (szI (a.length + b.length) left), [])
  | _, _ => none
@[reducible] def E_szPattern : Env := mkE (tb [(64, K_szIntS)]) (fun f => false) (fun r => ([], []))
theorem ev_szPattern (a b : List Int) (left : Int) (hp : 0 ≤ left ∧ left ≤ 1048576 ∧ a.length ≤ maxLen ∧ b.length ≤ maxLen) : evF E_szPattern (1) Try.f16 [.agg [.lst (.int .i64) a, .lst (.int .i64) b], .int .i64 left] [] = some (.int .i64 (szI (a.length + b.length) left), []) := by
  obtain ⟨h0, h1, h2, h3⟩ := hp
  conv => lhs; whnf
  conv => lhs; arg 1; whnf
  refine bnd_g (by exact ⟨h0, h1, h2⟩) ?_
  conv => lhs; whnf
  refine br_c (fun h => ?_) (fun h => ?_)
  · conv => lhs; whnf
    have h := ofd h
    unfold szI at h ⊢
    split at h
    · rw [if_pos (by omega)]
    · omega
  · conv => lhs; whnf
    have h := ofn h
    have hs : szI a.length left = left - a.length ∧ (a.length : Int) ≤ left := by
      unfold szI at h ⊢
      split at h
      · omega
      · rename_i h5; exact ⟨if_neg h5, by omega⟩
    rw [hs.1]
    conv => lhs; arg 1; whnf
    refine bnd_g (by exact ⟨by omega, by omega, h3⟩) ?_
    conv => lhs; whnf
    refine br_c (fun h => ?_) (fun h => ?_)
    · conv => lhs; whnf
      have h := ofd h
      unfold szI at h ⊢
      split at h
      · rw [if_pos (by omega)]
      · omega
    · conv => lhs; whnf
      have h := ofn h
      unfold szI at h ⊢
      split at h
      · omega
      · rename_i h5
        rw [if_neg h5, if_neg (by omega)]
        congr 3
        omega
theorem ok_szPattern : FnOk Try.prog 16 K_szPattern := by
  refine fn_ok (fn := Try.f16) (k := Try.f16.ntmps) (E := E_szPattern) (facts_of (List.forall_mem_cons.2 ⟨ok_szIntS, List.forall_mem_nil _⟩)) (by kernel_rfl) rfl (by decide +kernel) (by decide +kernel) ?_
  intro avs hin r h
  unfold K_szPattern at h
  split at h
  · obtain ⟨hp, rfl⟩ := gd_o h
    exact ⟨_, ev_szPattern _ _ _ hp, rfl⟩
  · cases h

/- laws.toIntS -/
def K_toIntS : List AV → List Ob → Option (AV × List Ob)
  | [.lst (.int .i64) a], [] => gd (a.length ≤ 1048576) (.own 0, [.row 3 (.int .i64) a])
  | _, _ => none
@[reducible] def E_toIntS : Env := mkE (tb []) (fun f => false) (fun r => bif r == 3 then ([0, 3, 4], [3]) else ([], []))
theorem lp_toIntS (a : List Int) (ha : a.length ≤ 1048576) (k : AX → S → Option (AV × List Ob)) (d : Nat) : ∀ (n i : Nat) (x : Int) (ys : List Int), a.length - i = d → i ≤ a.length → x = i → d < n → ys.length = a.length → ys.take i = a.take i →
    lpAt E_toIntS (lp E_toIntS 0 n) 0 (loopAt Try.f59 0) (mkS [0, 3, 4] [.lst (.int .i64) a, .own 0, .int .i64 x] [some (.row 3 (.int .i64) ys)]) k =
      k (.exit 0) (mkS [3] [.own 0] [some (.row 3 (.int .i64) a)]) := by
  induction d with
  | zero =>
    intro n i x ys hd hi hx hn hl ht
    subst hx
    rw [lpAt_def]
    conv => lhs; whnf
    refine br_f (df (by omega)) ?_
    conv => lhs; whnf
    have : ys = a := by rw [List.take_of_length_le (by omega), List.take_of_length_le (by omega)] at ht; exact ht
    rw [this]
  | succ d ih =>
    intro n i x ys hd hi hx hn hl ht
    obtain ⟨n, rfl⟩ : ∃ m, n = m + 1 := ⟨n - 1, by omega⟩
    subst hx
    rw [lpAt_def]
    conv => lhs; whnf
    refine br_t (dt (by omega)) ?_
    conv => lhs; whnf
    refine br_t (dt2 (by omega) (by omega)) ?_
    conv => lhs; whnf
    refine br_t (dt2 (by omega) (by omega)) ?_
    conv => lhs; whnf
    refine br_t (dt (by omega)) ?_
    conv => lhs; whnf
    refine ih n (i + 1) _ _ (by omega) (by omega) (by rw [wrap64 (by omega) (by omega)]; simp) (by omega) (by simp [hl]) ?_
    have hlt : i < a.length := by omega
    simp only [Int.toNat_natCast]
    rw [List.take_succ_eq_append_getElem (by simp; omega), List.take_succ_eq_append_getElem hlt, List.take_set_of_le (by omega), ht]
    simp [hlt]
theorem ev_toIntS (a : List Int) (hp : a.length ≤ 1048576) : evF E_toIntS (a.length + 2) Try.f59 [.lst (.int .i64) a] [] = some (.own 0, [.row 3 (.int .i64) a]) := by
  conv => lhs; whnf
  refine br_t (mk_ok (by dsimp only; omega)) ?_
  conv => lhs; whnf
  refine (lp_toIntS a hp _ _ _ 0 0 _ rfl (by omega) rfl (by omega) (by simp) (by simp)).trans ?_
  conv => lhs; whnf
theorem ok_toIntS : FnOk Try.prog 59 K_toIntS := by
  refine fn_ok (fn := Try.f59) (k := Try.f59.ntmps) (E := E_toIntS) (facts_of (List.forall_mem_nil _)) (by kernel_rfl) rfl (by decide +kernel) (by decide +kernel) ?_
  intro avs hin r h
  unfold K_toIntS at h
  split at h
  · obtain ⟨hp, rfl⟩ := gd_o h
    exact ⟨_, ev_toIntS _ hp, rfl⟩
  · cases h

/- laws.toPattern -/
def K_toPattern : List AV → List Ob → Option (AV × List Ob)
  | [.agg [.lst (.int .i64) a, .lst (.int .i64) b]], [] => gd (a.length ≤ 1048576 ∧ b.length ≤ 1048576) (.agg [.own 0, .own 1], [.row 3 (.int .i64) a, .row 3 (.int .i64) b])
  | _, _ => none
@[reducible] def E_toPattern : Env := mkE (tb [(59, K_toIntS)]) (fun f => false) (fun r => ([], []))
theorem ev_toPattern (a b : List Int) (hp : a.length ≤ 1048576 ∧ b.length ≤ 1048576) : evF E_toPattern (1) Try.f18 [.agg [.lst (.int .i64) a, .lst (.int .i64) b]] [] = some (.agg [.own 0, .own 1], [.row 3 (.int .i64) a, .row 3 (.int .i64) b]) := by
  conv => lhs; whnf
  conv => lhs; arg 1; whnf
  refine bnd_g (by exact hp.1) ?_
  conv => lhs; whnf
  conv => lhs; arg 1; whnf
  refine bnd_g (by exact hp.2) ?_
  conv => lhs; whnf
theorem ok_toPattern : FnOk Try.prog 18 K_toPattern := by
  refine fn_ok (fn := Try.f18) (k := Try.f18.ntmps) (E := E_toPattern) (facts_of (List.forall_mem_cons.2 ⟨ok_toIntS, List.forall_mem_nil _⟩)) (by kernel_rfl) rfl (by decide +kernel) (by decide +kernel) ?_
  intro avs hin r h
  unfold K_toPattern at h
  split at h
  · obtain ⟨hp, rfl⟩ := gd_o h
    exact ⟨_, ev_toPattern _ _ hp, rfl⟩
  · cases h

/-- f holds of i, .., i + d - 1. -/
def allB (f : Nat → Bool) : Nat → Nat → Bool
  | 0, _ => true
  | d + 1, i => f i && allB f d (i + 1)
theorem allB_iff (f : Nat → Bool) : ∀ (d i : Nat), allB f d i = true ↔ ∀ j, i ≤ j → j < i + d → f j = true
  | 0, i => by simp only [allB, true_iff]; intro j h1 h2; omega
  | d + 1, i => by
    rw [allB, Bool.and_eq_true, allB_iff f d (i + 1)]
    constructor
    · rintro ⟨h1, h2⟩ j h3 h4
      by_cases h : j = i
      · rw [h]; exact h1
      · exact h2 j (by omega) (by omega)
    · intro h
      exact ⟨h i (by omega) (by omega), fun j h1 h2 => h j (by omega) (by omega)⟩
def widerAt (a b c d : List Int) (j : Nat) : Bool := !(decide (a.getD j 0 > c.getD j 0) || decide (b.getD j 0 < d.getD j 0))
def isWider (a b c d : List Int) : Bool := b.length == a.length && c.length == a.length && d.length == a.length && allB (widerAt a b c d) a.length 0
/- spec.IsWider -/
def K_specIsWider : List AV → List Ob → Option (AV × List Ob)
  | [.agg [.lst (.int .i64) a, .lst (.int .i64) b], .agg [.lst (.int .i64) c, .lst (.int .i64) e]], [] => gd (a.length < 4611686018427387904 ∧ b.length < 4611686018427387904 ∧ c.length < 4611686018427387904 ∧ e.length < 4611686018427387904) (.bool (isWider a b c e), [])
  | _, _ => none
@[reducible] def E_specIsWider : Env := mkE (tb []) (fun f => false) (fun r => bif r == 5 then ([2, 3, 5, 6], [4]) else ([], []))
theorem lp_specIsWider (a b c e : List Int) (hb : b.length = a.length) (hc : c.length = a.length) (he : e.length = a.length) (ha : a.length < 4611686018427387904) (k : AX → S → Option (AV × List Ob)) (d : Nat) : ∀ (n i : Nat) (x : Int), a.length - i = d → i ≤ a.length → x = i → d < n →
    lpAt E_specIsWider (lp E_specIsWider 0 n) 0 (loopAt Try.f17 0) (mkS [2, 3, 5, 6] [.ptr 0 0, .ptr 1 0, .int .i64 a.length, .int .i64 x] [some (.box 29 [.lst (.int .i64) a, .lst (.int .i64) b]), some (.box 29 [.lst (.int .i64) c, .lst (.int .i64) e])]) k =
      if allB (widerAt a b c e) d i then k (.exit 0) (mkS [4] [.any] []) else k .ret (mkS [4] [.bool false] []) := by
  induction d with
  | zero =>
    intro n i x hd hi hx hn
    subst hx
    rw [lpAt_def]
    conv => lhs; whnf
    refine br_f (df (by omega)) ?_
    conv => lhs; whnf
    rfl
  | succ d ih =>
    intro n i x hd hi hx hn
    obtain ⟨n, rfl⟩ : ∃ m, n = m + 1 := ⟨n - 1, by omega⟩
    subst hx
    rw [lpAt_def]
    conv => lhs; whnf
    refine br_t (dt (by omega)) ?_
    conv => lhs; whnf
    refine br_t (dt2 (by omega) (by omega)) ?_
    conv => lhs; whnf
    refine br_t (dt2 (by omega) (by omega)) ?_
    conv => lhs; whnf
    refine br_c (fun h => ?_) (fun h => ?_)
    · conv => lhs; whnf
      repeat ((first | with_reducible apply br_tt | with_reducible apply br_ff | with_reducible refine br_d ?_ (by kernel_rfl) | with_reducible apply br_t h | with_reducible apply br_f h); conv => lhs; whnf)
      rw [if_neg]
      simp [allB, widerAt] at h ⊢
      omega
    · conv => lhs; whnf
      repeat ((first | with_reducible apply br_tt | with_reducible apply br_ff | with_reducible refine br_d ?_ (by kernel_rfl) | with_reducible apply br_t h | with_reducible apply br_f h); conv => lhs; whnf)
      refine br_t (dt2 (by omega) (by omega)) ?_
      conv => lhs; whnf
      repeat ((first | with_reducible apply br_tt | with_reducible apply br_ff | with_reducible refine br_d ?_ (by kernel_rfl) | with_reducible apply br_t h | with_reducible apply br_f h); conv => lhs; whnf)
      refine br_t (dt2 (by omega) (by omega)) ?_
      conv => lhs; whnf
      repeat ((first | with_reducible apply br_tt | with_reducible apply br_ff | with_reducible refine br_d ?_ (by kernel_rfl) | with_reducible apply br_t h | with_reducible apply br_f h); conv => lhs; whnf)
      refine br_c (fun h' => ?_) (fun h' => ?_)
      · conv => lhs; whnf
        rw [if_neg]
        simp [allB, widerAt] at h h' ⊢
        omega
      · conv => lhs; whnf
        rw [ih n (i + 1) _ (by omega) (by omega) (by rw [wrap64 (by omega) (by omega)]; simp) (by omega)]
        have : widerAt a b c e i = true := by simp [widerAt] at h h' ⊢; omega
        simp [allB, this]
theorem ev_specIsWider (a b c e : List Int) (hp : a.length < 4611686018427387904 ∧ b.length < 4611686018427387904 ∧ c.length < 4611686018427387904 ∧ e.length < 4611686018427387904) : evF E_specIsWider (a.length + 2) Try.f17 [.agg [.lst (.int .i64) a, .lst (.int .i64) b], .agg [.lst (.int .i64) c, .lst (.int .i64) e]] [] = some (.bool (isWider a b c e), []) := by
  conv => lhs; whnf
  refine br_c (fun h1 => ?_) (fun h1 => ?_)
  · conv => lhs; whnf
    repeat ((first | with_reducible apply br_tt | with_reducible apply br_ff | with_reducible refine br_d ?_ (by kernel_rfl) | with_reducible apply br_t h1 | with_reducible apply br_f h1); conv => lhs; whnf)
    have : isWider a b c e = false := by simp at h1; simp [isWider]; omega
    rw [this]
  · conv => lhs; whnf
    repeat ((first | with_reducible apply br_tt | with_reducible apply br_ff | with_reducible refine br_d ?_ (by kernel_rfl) | with_reducible apply br_t h1 | with_reducible apply br_f h1); conv => lhs; whnf)
    refine br_c (fun h2 => ?_) (fun h2 => ?_)
    · conv => lhs; whnf
      repeat ((first | with_reducible apply br_tt | with_reducible apply br_ff | with_reducible refine br_d ?_ (by kernel_rfl) | with_reducible apply br_t h1 | with_reducible apply br_f h1 | with_reducible apply br_t h2 | with_reducible apply br_f h2); conv => lhs; whnf)
      have : isWider a b c e = false := by simp at h2; simp [isWider]; omega
      rw [this]
    · conv => lhs; whnf
      repeat ((first | with_reducible apply br_tt | with_reducible apply br_ff | with_reducible refine br_d ?_ (by kernel_rfl) | with_reducible apply br_t h1 | with_reducible apply br_f h1 | with_reducible apply br_t h2 | with_reducible apply br_f h2); conv => lhs; whnf)
      refine br_c (fun h3 => ?_) (fun h3 => ?_)
      · conv => lhs; whnf
        have : isWider a b c e = false := by simp at h3; simp [isWider]; omega
        rw [this]
      · conv => lhs; whnf
        have q1 : b.length = a.length := by simp at h1; omega
        have q2 : c.length = a.length := by simp at h2; omega
        have q3 : e.length = a.length := by simp at h3; omega
        refine (lp_specIsWider a b c e q1 q2 q3 hp.1 _ a.length _ 0 0 rfl (by omega) rfl (by omega)).trans ?_
        have hw : isWider a b c e = allB (widerAt a b c e) a.length 0 := by simp [isWider, q1, q2, q3]
        rw [hw]
        split
        · rename_i h
          conv => lhs; whnf
          rw [h]
        · rename_i h
          conv => lhs; whnf
          rw [Bool.not_eq_true] at h
          rw [h]
theorem ok_specIsWider : FnOk Try.prog 17 K_specIsWider := by
  refine fn_ok (fn := Try.f17) (k := Try.f17.ntmps) (E := E_specIsWider) (facts_of (List.forall_mem_nil _)) (by kernel_rfl) rfl (by decide +kernel) (by decide +kernel) ?_
  intro avs hin r h
  unfold K_specIsWider at h
  split at h
  · obtain ⟨hp, rfl⟩ := gd_o h
    exact ⟨_, ev_specIsWider _ _ _ _ hp, rfl⟩
  · cases h

/- impl.IsWider -/
def K_implIsWider : List AV → List Ob → Option (AV × List Ob)
  | [.agg [.lst (.int .i64) a, .lst (.int .i64) b], .agg [.lst (.int .i64) c, .lst (.int .i64) e]], [] => gd (a.length < 4611686018427387904 ∧ b.length < 4611686018427387904 ∧ c.length < 4611686018427387904 ∧ e.length < 4611686018427387904) (.bool (isWider a b c e), [])
  | _, _ => none
@[reducible] def E_implIsWider : Env := mkE (tb []) (fun f => false) (fun r => bif r == 5 then ([2, 3, 29, 30], [4]) else ([], []))
theorem lp_implIsWider (a b c e : List Int) (hb : b.length = a.length) (hc : c.length = a.length) (he : e.length = a.length) (ha : a.length < 4611686018427387904) (k : AX → S → Option (AV × List Ob)) (d : Nat) : ∀ (n i : Nat) (x : Int), a.length - i = d → i ≤ a.length → x = i → d < n →
    lpAt E_implIsWider (lp E_implIsWider 0 n) 0 (loopAt Try.f19 0) (mkS [2, 3, 29, 30] [.ptr 0 0, .ptr 1 0, .int .i64 a.length, .int .i64 x] [some (.box 29 [.lst (.int .i64) a, .lst (.int .i64) b]), some (.box 29 [.lst (.int .i64) c, .lst (.int .i64) e])]) k =
      if allB (widerAt a b c e) d i then k (.exit 0) (mkS [4] [.any] []) else k .ret (mkS [4] [.bool false] []) := by
  induction d with
  | zero =>
    intro n i x hd hi hx hn
    subst hx
    rw [lpAt_def]
    conv => lhs; whnf
    refine br_f (df (by omega)) ?_
    conv => lhs; whnf
    rfl
  | succ d ih =>
    intro n i x hd hi hx hn
    obtain ⟨n, rfl⟩ : ∃ m, n = m + 1 := ⟨n - 1, by omega⟩
    subst hx
    rw [lpAt_def]
    conv => lhs; whnf
    refine br_t (dt (by omega)) ?_
    conv => lhs; whnf
    refine br_t (dt2 (by omega) (by omega)) ?_
    conv => lhs; whnf
    refine br_t (dt2 (by omega) (by omega)) ?_
    conv => lhs; whnf
    refine br_c (fun h => ?_) (fun h => ?_)
    · conv => lhs; whnf
      repeat ((first | with_reducible apply br_tt | with_reducible apply br_ff | with_reducible refine br_d ?_ (by kernel_rfl) | with_reducible apply br_t h | with_reducible apply br_f h); conv => lhs; whnf)
      rw [if_neg]
      simp [allB, widerAt] at h ⊢
      omega
    · conv => lhs; whnf
      repeat ((first | with_reducible apply br_tt | with_reducible apply br_ff | with_reducible refine br_d ?_ (by kernel_rfl) | with_reducible apply br_t h | with_reducible apply br_f h); conv => lhs; whnf)
      refine br_t (dt2 (by omega) (by omega)) ?_
      conv => lhs; whnf
      repeat ((first | with_reducible apply br_tt | with_reducible apply br_ff | with_reducible refine br_d ?_ (by kernel_rfl) | with_reducible apply br_t h | with_reducible apply br_f h); conv => lhs; whnf)
      refine br_t (dt2 (by omega) (by omega)) ?_
      conv => lhs; whnf
      repeat ((first | with_reducible apply br_tt | with_reducible apply br_ff | with_reducible refine br_d ?_ (by kernel_rfl) | with_reducible apply br_t h | with_reducible apply br_f h); conv => lhs; whnf)
      refine br_c (fun h' => ?_) (fun h' => ?_)
      · conv => lhs; whnf
        rw [if_neg]
        simp [allB, widerAt] at h h' ⊢
        omega
      · conv => lhs; whnf
        rw [ih n (i + 1) _ (by omega) (by omega) (by rw [wrap64 (by omega) (by omega)]; simp) (by omega)]
        have : widerAt a b c e i = true := by simp [widerAt] at h h' ⊢; omega
        simp [allB, this]
theorem ev_implIsWider (a b c e : List Int) (hp : a.length < 4611686018427387904 ∧ b.length < 4611686018427387904 ∧ c.length < 4611686018427387904 ∧ e.length < 4611686018427387904) : evF E_implIsWider (a.length + 2) Try.f19 [.agg [.lst (.int .i64) a, .lst (.int .i64) b], .agg [.lst (.int .i64) c, .lst (.int .i64) e]] [] = some (.bool (isWider a b c e), []) := by
  conv => lhs; whnf
  refine br_c (fun h1 => ?_) (fun h1 => ?_)
  · conv => lhs; whnf
    repeat ((first | with_reducible apply br_tt | with_reducible apply br_ff | with_reducible refine br_d ?_ (by kernel_rfl) | with_reducible apply br_t h1 | with_reducible apply br_f h1); conv => lhs; whnf)
    have : isWider a b c e = false := by simp at h1; simp [isWider]; omega
    rw [this]
  · conv => lhs; whnf
    repeat ((first | with_reducible apply br_tt | with_reducible apply br_ff | with_reducible refine br_d ?_ (by kernel_rfl) | with_reducible apply br_t h1 | with_reducible apply br_f h1); conv => lhs; whnf)
    refine br_c (fun h2 => ?_) (fun h2 => ?_)
    · conv => lhs; whnf
      repeat ((first | with_reducible apply br_tt | with_reducible apply br_ff | with_reducible refine br_d ?_ (by kernel_rfl) | with_reducible apply br_t h1 | with_reducible apply br_f h1 | with_reducible apply br_t h2 | with_reducible apply br_f h2); conv => lhs; whnf)
      have : isWider a b c e = false := by simp at h2; simp [isWider]; omega
      rw [this]
    · conv => lhs; whnf
      repeat ((first | with_reducible apply br_tt | with_reducible apply br_ff | with_reducible refine br_d ?_ (by kernel_rfl) | with_reducible apply br_t h1 | with_reducible apply br_f h1 | with_reducible apply br_t h2 | with_reducible apply br_f h2); conv => lhs; whnf)
      refine br_c (fun h3 => ?_) (fun h3 => ?_)
      · conv => lhs; whnf
        have : isWider a b c e = false := by simp at h3; simp [isWider]; omega
        rw [this]
      · conv => lhs; whnf
        have q1 : b.length = a.length := by simp at h1; omega
        have q2 : c.length = a.length := by simp at h2; omega
        have q3 : e.length = a.length := by simp at h3; omega
        refine (lp_implIsWider a b c e q1 q2 q3 hp.1 _ a.length _ 0 0 rfl (by omega) rfl (by omega)).trans ?_
        have hw : isWider a b c e = allB (widerAt a b c e) a.length 0 := by simp [isWider, q1, q2, q3]
        rw [hw]
        split
        · rename_i h
          conv => lhs; whnf
          rw [h]
        · rename_i h
          conv => lhs; whnf
          rw [Bool.not_eq_true] at h
          rw [h]
theorem ok_implIsWider : FnOk Try.prog 19 K_implIsWider := by
  refine fn_ok (fn := Try.f19) (k := Try.f19.ntmps) (E := E_implIsWider) (facts_of (List.forall_mem_nil _)) (by kernel_rfl) rfl (by decide +kernel) (by decide +kernel) ?_
  intro avs hin r h
  unfold K_implIsWider at h
  split at h
  · obtain ⟨hp, rfl⟩ := gd_o h
    exact ⟨_, ev_implIsWider _ _ _ _ hp, rfl⟩
  · cases h

/- laws.eqIntS -/
def K_eqIntS : List AV → List Ob → Option (AV × List Ob)
  | [.lst (.int .i64) a, .lst (.int .i64) b], [] => gd (a.length < 4611686018427387904 ∧ b.length < 4611686018427387904) (.bool (decide (a = b)), [])
  | _, _ => none
@[reducible] def E_eqIntS : Env := mkE (tb []) (fun f => false) (fun r => bif r == 4 then ([0, 1, 5], [4]) else ([], []))
theorem lp_eqIntS (a b : List Int) (hl : a.length = b.length) (ha : a.length < 4611686018427387904) (k : AX → S → Option (AV × List Ob)) (d : Nat) : ∀ (n i : Nat) (x : Int), a.length - i = d → i ≤ a.length → x = i → d < n →
    lpAt E_eqIntS (lp E_eqIntS 0 n) 0 (loopAt Try.f35 0) (mkS [0, 1, 5] [.lst (.int .i64) a, .lst (.int .i64) b, .int .i64 x] []) k =
      if a.drop i = b.drop i then k (.exit 0) (mkS [4] [.any] []) else k .ret (mkS [4] [.bool false] []) := by
  induction d with
  | zero =>
    intro n i x hd hi hx hn
    subst hx
    rw [lpAt_def]
    conv => lhs; whnf
    refine br_f (df (by omega)) ?_
    conv => lhs; whnf
    rw [if_pos (by rw [List.drop_of_length_le (by omega), List.drop_of_length_le (by omega)])]
  | succ d ih =>
    intro n i x hd hi hx hn
    obtain ⟨n, rfl⟩ : ∃ m, n = m + 1 := ⟨n - 1, by omega⟩
    subst hx
    rw [lpAt_def]
    conv => lhs; whnf
    refine br_t (dt (by omega)) ?_
    conv => lhs; whnf
    refine br_t (dt2 (by omega) (by omega)) ?_
    conv => lhs; whnf
    refine br_t (dt2 (by omega) (by omega)) ?_
    conv => lhs; whnf
    rw [getD_drop (l := a) (i := i) (d := 0) (by omega), getD_drop (l := b) (i := i) (d := 0) (by omega)]
    refine br_t (by kernel_rfl) ?_
    conv => lhs; whnf
    refine br_c (fun h => ?_) (fun h => ?_)
    · conv => lhs; whnf
      rw [if_neg]
      intro he
      have := (List.cons.inj he).1
      simp at h
      exact h this
    · conv => lhs; whnf
      rw [ih n (i + 1) _ (by omega) (by omega) (by rw [wrap64 (by omega) (by omega)]; simp) (by omega)]
      simp at h
      simp [h]
theorem ev_eqIntS (a b : List Int) (hp : a.length < 4611686018427387904 ∧ b.length < 4611686018427387904) : evF E_eqIntS (a.length + 2) Try.f35 [.lst (.int .i64) a, .lst (.int .i64) b] [] = some (.bool (decide (a = b)), []) := by
  conv => lhs; whnf
  refine br_c (fun h => ?_) (fun h => ?_)
  · conv => lhs; whnf
    have : a ≠ b := by
      rintro rfl
      simp at h
    simp [this]
  · conv => lhs; whnf
    have hl : a.length = b.length := by simp at h; omega
    refine (lp_eqIntS a b hl hp.1 _ _ _ 0 0 rfl (by omega) rfl (by omega)).trans ?_
    simp only [List.drop_zero]
    split
    · rename_i he
      conv => lhs; whnf
      simp [he]
    · rename_i he
      conv => lhs; whnf
      simp [he]
theorem ok_eqIntS : FnOk Try.prog 35 K_eqIntS := by
  refine fn_ok (fn := Try.f35) (k := Try.f35.ntmps) (E := E_eqIntS) (facts_of (List.forall_mem_nil _)) (by kernel_rfl) rfl (by decide +kernel) (by decide +kernel) ?_
  intro avs hin r h
  unfold K_eqIntS at h
  split at h
  · obtain ⟨hp, rfl⟩ := gd_o h
    exact ⟨_, ev_eqIntS _ _ hp, rfl⟩
  · cases h

/- laws.eqPattern -/
def K_eqPattern : List AV → List Ob → Option (AV × List Ob)
  | [.agg [.lst (.int .i64) a, .lst (.int .i64) b], .agg [.lst (.int .i64) a', .lst (.int .i64) b']], [] => gd (a.length < 4611686018427387904 ∧ b.length < 4611686018427387904 ∧ a'.length < 4611686018427387904 ∧ b'.length < 4611686018427387904) (.bool (decide (a = a' ∧ b = b')), [])
  | _, _ => none
@[reducible] def E_eqPattern : Env := mkE (tb [(35, K_eqIntS)]) (fun f => false) (fun r => ([], []))
theorem ev_eqPattern (a b a' b' : List Int) (hp : a.length < 4611686018427387904 ∧ b.length < 4611686018427387904 ∧ a'.length < 4611686018427387904 ∧ b'.length < 4611686018427387904) : evF E_eqPattern (1) Try.f20 [.agg [.lst (.int .i64) a, .lst (.int .i64) b], .agg [.lst (.int .i64) a', .lst (.int .i64) b']] [] = some (.bool (decide (a = a' ∧ b = b')), []) := by
  conv => lhs; whnf
  conv => lhs; arg 1; whnf
  refine bnd_g (by exact ⟨hp.1, hp.2.2.1⟩) ?_
  conv => lhs; whnf
  refine br_c (fun h => ?_) (fun h => ?_)
  · conv => lhs; whnf
    simp at h
    simp [h]
  · conv => lhs; whnf
    conv => lhs; arg 1; whnf
    refine bnd_g (by exact ⟨hp.2.1, hp.2.2.2⟩) ?_
    conv => lhs; whnf
    refine br_c (fun h' => ?_) (fun h' => ?_)
    · conv => lhs; whnf
      simp at h h'
      simp [h, h']
    · conv => lhs; whnf
      simp at h h'
      simp [h, h']
theorem ok_eqPattern : FnOk Try.prog 20 K_eqPattern := by
  refine fn_ok (fn := Try.f20) (k := Try.f20.ntmps) (E := E_eqPattern) (facts_of (List.forall_mem_cons.2 ⟨ok_eqIntS, List.forall_mem_nil _⟩)) (by kernel_rfl) rfl (by decide +kernel) (by decide +kernel) ?_
  intro avs hin r h
  unfold K_eqPattern at h
  split at h
  · obtain ⟨hp, rfl⟩ := gd_o h
    exact ⟨_, ev_eqPattern _ _ _ _ hp, rfl⟩
  · cases h

/- laws.FnExactIsWider -/
def K_lawIsWider : List AV → List Ob → Option (AV × List Ob)
  | [.agg [.lst (.int .i64) a, .lst (.int .i64) b], .agg [.lst (.int .i64) c, .lst (.int .i64) e]], [] => gd (a.length ≤ maxLen ∧ b.length ≤ maxLen ∧ c.length ≤ maxLen ∧ e.length ≤ maxLen) (.bool true, [])
  | _, _ => none
@[reducible] def E_lawIsWider : Env := mkE (tb [(16, K_szPattern), (18, K_toPattern), (17, K_specIsWider), (19, K_implIsWider), (20, K_eqPattern)]) (fun f => false) (fun r => ([], []))
theorem ev_lawIsWider (a b c e : List Int) (hp : a.length ≤ maxLen ∧ b.length ≤ maxLen ∧ c.length ≤ maxLen ∧ e.length ≤ maxLen) : evF E_lawIsWider (1) Try.f4 [.agg [.lst (.int .i64) a, .lst (.int .i64) b], .agg [.lst (.int .i64) c, .lst (.int .i64) e]] [] = some (.bool true, []) := by
  obtain ⟨p1, p2, p3, p4⟩ := hp
  conv => lhs; whnf
  conv => lhs; arg 1; whnf
  refine bnd_g (by exact ⟨by omega, by omega, p1, p2⟩) ?_
  conv => lhs; whnf
  refine br_c (fun h1 => ?_) (fun h1 => ?_)
  · conv => lhs; whnf
  · conv => lhs; whnf
    obtain ⟨e1, l1⟩ := szI_ok (ofn h1)
    rw [e1]
    conv => lhs; arg 1; whnf
    refine bnd_g (by exact ⟨by omega, by omega, p3, p4⟩) ?_
    conv => lhs; whnf
    refine br_c (fun h2 => ?_) (fun h2 => ?_)
    · conv => lhs; whnf
    · conv => lhs; whnf
      obtain ⟨e2, l2⟩ := szI_ok (ofn h2)
      conv => lhs; arg 1; whnf
      refine bnd_g (by exact ⟨by omega, by omega⟩) ?_
      conv => lhs; whnf
      conv => lhs; arg 1; whnf
      refine bnd_g (by exact ⟨by omega, by omega⟩) ?_
      conv => lhs; whnf
      conv => lhs; arg 1; whnf
      refine bnd_g (by exact ⟨by omega, by omega, by omega, by omega⟩) ?_
      conv => lhs; whnf
      repeat ((first | with_reducible apply br_tt | with_reducible apply br_ff | with_reducible refine br_d ?_ (by kernel_rfl)); conv => lhs; whnf)
      conv => lhs; arg 1; whnf
      refine bnd_g (by exact ⟨by omega, by omega⟩) ?_
      conv => lhs; whnf
      conv => lhs; arg 1; whnf
      refine bnd_g (by exact ⟨by omega, by omega⟩) ?_
      conv => lhs; whnf
      conv => lhs; arg 1; whnf
      refine bnd_g (by exact ⟨by omega, by omega, by omega, by omega⟩) ?_
      conv => lhs; whnf
      refine br_f (by simp) ?_
      conv => lhs; whnf
      conv => lhs; arg 1; whnf
      refine bnd_g (by exact ⟨by omega, by omega⟩) ?_
      conv => lhs; whnf
      conv => lhs; arg 1; whnf
      refine bnd_g (by exact ⟨by omega, by omega, by omega, by omega⟩) ?_
      conv => lhs; whnf
      repeat ((first | with_reducible apply br_tt | with_reducible apply br_ff | with_reducible refine br_d ?_ (by kernel_rfl)); conv => lhs; whnf)
      refine br_f (by simp) ?_
      conv => lhs; whnf
      conv => lhs; arg 1; whnf
      refine bnd_g (by exact ⟨by omega, by omega⟩) ?_
      conv => lhs; whnf
      conv => lhs; arg 1; whnf
      refine bnd_g (by exact ⟨by omega, by omega, by omega, by omega⟩) ?_
      conv => lhs; whnf
      repeat ((first | with_reducible apply br_tt | with_reducible apply br_ff | with_reducible refine br_d ?_ (by kernel_rfl)); conv => lhs; whnf)
      refine br_f (by simp) ?_
      conv => lhs; whnf
theorem ok_lawIsWider : FnOk Try.prog 4 K_lawIsWider := by
  refine fn_ok (fn := Try.f4) (k := Try.f4.ntmps) (E := E_lawIsWider) (facts_of (List.forall_mem_cons.2 ⟨ok_szPattern, List.forall_mem_cons.2 ⟨ok_toPattern, List.forall_mem_cons.2 ⟨ok_specIsWider, List.forall_mem_cons.2 ⟨ok_implIsWider, List.forall_mem_cons.2 ⟨ok_eqPattern, List.forall_mem_nil _⟩⟩⟩⟩⟩)) (by kernel_rfl) rfl (by decide +kernel) (by decide +kernel) ?_
  intro avs hin r h
  unfold K_lawIsWider at h
  split at h
  · obtain ⟨hp, rfl⟩ := gd_o h
    exact ⟨_, ev_lawIsWider _ _ _ _ hp, rfl⟩
  · cases h

end Go.Sym
