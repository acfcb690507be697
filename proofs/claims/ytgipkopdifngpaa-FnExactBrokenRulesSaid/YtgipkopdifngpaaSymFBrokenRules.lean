/- Functions of the program, each told as a plain equation. -/
import Derived.Test.YtgipkopdifngpaaSymX
namespace Go.Sym
open Go.Proofs
set_option linter.unusedVariables false
set_option linter.unusedSimpArgs false
set_option maxRecDepth 100000
set_option maxHeartbeats 4000000

def szI (n left : Int) : Int := if left < n then -1 else left - n
theorem szI_ok {n left : Int} (h : ¬ szI n left < 0) : szI n left = left - n ∧ n ≤ left := by
  unfold szI at h ⊢
  split at h
  · omega
  · rename_i h5; exact ⟨if_neg h5, by omega⟩
/- laws.szRuleS -/
def K_szRuleS : List AV → List Ob → Option (AV × List Ob)
  | [.lst (.pair (.int .i64) (.int .i64)) a, .int .i64 left], [] => gd (0 ≤ left ∧ left ≤ 1048576 ∧ a.length ≤ maxLen) (.int .i64 (szI a.length left), [])
  | _, _ => none
@[reducible] def E_szRuleS : Env := mkE (tb []) (fun f => false) (fun r => ([], []))
theorem ev_szRuleS (a : List (Int × Int)) (left : Int) (hp : 0 ≤ left ∧ left ≤ 1048576 ∧ a.length ≤ maxLen) : evF E_szRuleS (1) Try.f31 [.lst (.pair (.int .i64) (.int .i64)) a, .int .i64 left] [] = some (.int .i64 (szI a.length left), []) := by
  obtain ⟨h0, h1, h2⟩ := hp
  have hm := maxLen_eq
  have hw : IntKind.i64.wrap (left - a.length) = left - a.length := wrap64 (by omega) (by omega)
  conv => lhs; whnf
  refine br_c (fun h => ?_) (fun h => ?_)
  · conv => lhs; whnf
    have h := ofd h
    rw [hw] at h
    rw [szI, if_pos (by omega)]
  · conv => lhs; whnf
    have h := ofn h
    rw [hw] at h
    rw [szI, if_neg (by omega), hw]
theorem ok_szRuleS : FnOk Try.prog 31 K_szRuleS := by
  refine fn_ok (fn := Try.f31) (k := Try.f31.ntmps) (E := E_szRuleS) (facts_of (List.forall_mem_nil _)) (by kernel_rfl) rfl (by decide +kernel) (by decide +kernel) ?_
  intro avs hin r h
  unfold K_szRuleS at h
  split at h
  · obtain ⟨hp, rfl⟩ := gd_o h
    exact ⟨_, ev_szRuleS _ _ hp, rfl⟩
  · cases h

def iotaI : Int → Nat → List Int
  | _, 0 => []
  | k, n + 1 => k :: iotaI (k + 1) n
@[simp] theorem iotaI_length : ∀ (n : Nat) (k : Int), (iotaI k n).length = n
  | 0, _ => rfl
  | n + 1, k => by simp [iotaI, iotaI_length n]
def held (a : List Int) (k : Int) : Int := if a = iotaI k a.length then k + a.length else -1
theorem held_iota (k : Int) (n : Nat) : held (iotaI k n) k = k + n := by simp [held]
theorem take_set_succ {α : Type} {ys : List α} {i : Nat} {v : α} (h : i < ys.length) : (ys.set i v).take (i + 1) = ys.take i ++ [v] := by
  rw [List.take_succ_eq_append_getElem (by simpa using h), List.take_set_of_le (by omega)]
  simp
theorem getD_set_self {α : Type} {ys : List α} {i : Nat} {v d : α} (h : i < ys.length) : (ys.set i v).getD i d = v := by
  simp [List.getD, h]
/- laws.toRule -/
def K_toRule : List AV → List Ob → Option (AV × List Ob)
  | [.agg [.int .i64 p, .int .i64 q]], [] => gd (True) (.agg [.int .i64 p, .int .i64 q], [])
  | _, _ => none
@[reducible] def E_toRule : Env := mkE (tb []) (fun f => false) (fun r => ([], []))
theorem ev_toRule (p q : Int) (hp : True) : evF E_toRule (1) Try.f48 [.agg [.int .i64 p, .int .i64 q]] [] = some (.agg [.int .i64 p, .int .i64 q], []) := by
  conv => lhs; whnf
theorem ok_toRule : FnOk Try.prog 48 K_toRule := by
  refine fn_ok (fn := Try.f48) (k := Try.f48.ntmps) (E := E_toRule) (facts_of (List.forall_mem_nil _)) (by kernel_rfl) rfl (by decide +kernel) (by decide +kernel) ?_
  intro avs hin r h
  unfold K_toRule at h
  split at h
  · obtain ⟨hp, rfl⟩ := gd_o h
    exact ⟨_, ev_toRule _ _ hp, rfl⟩
  · cases h

/- laws.toRuleS -/
def K_toRuleS : List AV → List Ob → Option (AV × List Ob)
  | [.lst (.pair (.int .i64) (.int .i64)) a], [] => gd (a.length ≤ 1048576) (.own 0, [.row 68 (.pair (.int .i64) (.int .i64)) a])
  | _, _ => none
@[reducible] def E_toRuleS : Env := mkE (tb [(48, K_toRule)]) (fun f => false) (fun r => bif r == 3 then ([0, 3, 4], [3]) else ([], []))
theorem lp_toRuleS (a : List (Int × Int)) (ha : a.length ≤ 1048576) (k : AX → S → Option (AV × List Ob)) (d : Nat) : ∀ (n i : Nat) (x : Int) (ys : List (Int × Int)), a.length - i = d → i ≤ a.length → x = i → d < n → ys.length = a.length →
    lpAt E_toRuleS (lp E_toRuleS 0 n) 0 (loopAt Try.f33 0) (mkS [0, 3, 4] [.lst (.pair (.int .i64) (.int .i64)) a, .own 0, .int .i64 x] [some (.row 68 (.pair (.int .i64) (.int .i64)) ys)]) k =
      k (.exit 0) (mkS [3] [.own 0] [some (.row 68 (.pair (.int .i64) (.int .i64)) (ys.take i ++ a.drop i))]) := by
  induction d with
  | zero =>
    intro n i x ys hd hi hx hn hl
    subst hx
    rw [lpAt_def]
    conv => lhs; whnf
    refine br_f (df (by omega)) ?_
    conv => lhs; whnf
    rw [List.drop_of_length_le (by omega), List.append_nil, List.take_of_length_le (by omega)]
  | succ d ih =>
    intro n i x ys hd hi hx hn hl
    obtain ⟨n, rfl⟩ : ∃ m, n = m + 1 := ⟨n - 1, by omega⟩
    subst hx
    rw [lpAt_def]
    conv => lhs; whnf
    refine br_t (dt (by omega)) ?_
    conv => lhs; whnf
    refine br_t (dt2 (by omega) (by omega)) ?_
    conv => lhs; whnf
    conv => lhs; arg 1; whnf
    refine bnd_g (by exact True.intro) ?_
    conv => lhs; whnf
    refine br_t (dt2 (by omega) (by omega)) ?_
    conv => lhs; whnf
    refine br_t (dt (by omega)) ?_
    conv => lhs; whnf
    refine (ih n (i + 1) _ _ (by omega) (by omega) (by rw [wrap64 (by omega) (by omega)]; simp) (by omega) (by simp [hl])).trans ?_
    simp only [Int.toNat_natCast]
    rw [take_set_succ (by omega), getD_drop (l := a) (i := i) (d := (0, 0)) (by omega)]
    simp
theorem ev_toRuleS (a : List (Int × Int)) (hp : a.length ≤ 1048576) : evF E_toRuleS (a.length + 2) Try.f33 [.lst (.pair (.int .i64) (.int .i64)) a] [] = some (.own 0, [.row 68 (.pair (.int .i64) (.int .i64)) a]) := by
  conv => lhs; whnf
  refine br_t (mk_ok (by dsimp only; omega)) ?_
  conv => lhs; whnf
  refine (lp_toRuleS a hp _ _ _ 0 0 _ rfl (by omega) rfl (by omega) (by simp)).trans ?_
  conv => lhs; whnf
  simp
theorem ok_toRuleS : FnOk Try.prog 33 K_toRuleS := by
  refine fn_ok (fn := Try.f33) (k := Try.f33.ntmps) (E := E_toRuleS) (facts_of (List.forall_mem_cons.2 ⟨ok_toRule, List.forall_mem_nil _⟩)) (by kernel_rfl) rfl (by decide +kernel) (by decide +kernel) ?_
  intro avs hin r h
  unfold K_toRuleS at h
  split at h
  · obtain ⟨hp, rfl⟩ := gd_o h
    exact ⟨_, ev_toRuleS _ hp, rfl⟩
  · cases h

def isSet (n s : Int) : Bool := decide ((0 ≤ n ∧ n ≤ 8) ∧ (0 ≤ s ∧ s ≤ 2 ^ n.toNat - 1))
theorem shl_set {n : Int} (h0 : 0 ≤ n) (h8 : n ≤ 8) : IntKind.i64.wrap (IntKind.i64.wrap (1 * 2 ^ min n.toNat IntKind.i64.bits) - 1) = 2 ^ n.toNat - 1 := by
  have h : n = 0 ∨ n = 1 ∨ n = 2 ∨ n = 3 ∨ n = 4 ∨ n = 5 ∨ n = 6 ∨ n = 7 ∨ n = 8 := by omega
  rcases h with rfl | rfl | rfl | rfl | rfl | rfl | rfl | rfl | rfl <;> decide +kernel
theorem wrapu {n : Int} (h0 : 0 ≤ n) (h8 : n ≤ 8) : IntKind.u64.wrap n = n := by
  simp [IntKind.wrap, IntKind.bits, IntKind.signed]
  omega
theorem isSet8 (s : Int) : isSet 8 s = decide (0 ≤ s ∧ s ≤ 255) := by simp [isSet]
/-- The machine's and, and its and-not, on int. -/
def band (a b : Int) : Int := IntKind.i64.wrap (BitVec.ofInt IntKind.i64.bits a &&& BitVec.ofInt IntKind.i64.bits b).toNat
def bnot (a b : Int) : Int := IntKind.i64.wrap (BitVec.ofInt IntKind.i64.bits a &&& ~~~(BitVec.ofInt IntKind.i64.bits b)).toNat
def bor (a b : Int) : Int := IntKind.i64.wrap (BitVec.ofInt IntKind.i64.bits a ||| BitVec.ofInt IntKind.i64.bits b).toNat
theorem wrap_bv (x : BitVec 64) : IntKind.i64.wrap x.toNat = x.toInt := by
  simp [IntKind.wrap, IntKind.bits, IntKind.signed, BitVec.toInt]
  omega
theorem ofInt_toInt {a : Int} (h1 : -9223372036854775808 ≤ a) (h2 : a ≤ 9223372036854775807) : (BitVec.ofInt 64 a).toInt = a := by
  rw [BitVec.toInt_ofInt]
  simp [Int.bmod]
  omega
theorem bv_sub (x y : BitVec 64) : x &&& y = x ↔ x &&& ~~~y = 0#64 := by
  constructor
  · intro h
    apply BitVec.eq_of_getLsbD_eq
    intro i hi
    have h1 := congrArg (fun z => BitVec.getLsbD z i) h
    simp [hi] at h1 ⊢
    exact h1
  · intro h
    apply BitVec.eq_of_getLsbD_eq
    intro i hi
    have h1 := congrArg (fun z => BitVec.getLsbD z i) h
    simp [hi] at h1 ⊢
    exact h1
theorem sub_iff {a b : Int} (h1 : -9223372036854775808 ≤ a) (h2 : a ≤ 9223372036854775807) : band a b = a ↔ bnot a b = 0 := by
  unfold band bnot
  show IntKind.i64.wrap (BitVec.ofInt 64 a &&& BitVec.ofInt 64 b).toNat = a ↔ IntKind.i64.wrap (BitVec.ofInt 64 a &&& ~~~(BitVec.ofInt 64 b)).toNat = 0
  rw [wrap_bv, wrap_bv]
  conv => lhs; rhs; rw [← ofInt_toInt h1 h2]
  rw [BitVec.toInt_inj, ← BitVec.toInt_zero, BitVec.toInt_inj]
  exact bv_sub _ _
def badR (r : Int × Int) : Bool := !(isSet 8 r.1 && isSet 8 r.2)
def respOf (p q s : Int) : Bool := isSet 8 p && isSet 8 q && isSet 8 s && (!(bnot p s == 0) || bnot q s == 0)
theorem bne_bnot {p s : Int} (h : isSet 8 p = true) : (band p s != p) = !(bnot p s == 0) := by
  rw [isSet8] at h
  have h := of_decide_eq_true h
  have e := sub_iff (a := p) (b := s) (by omega) (by omega)
  simp only [bne]
  congr 1
  rw [Bool.eq_iff_iff, beq_iff_eq, beq_iff_eq, e]
theorem beq_bnot {p s : Int} (h : isSet 8 p = true) : (band p s == p) = (bnot p s == 0) := by
  have := bne_bnot (s := s) h
  simpa [bne] using this
def firstI {α : Type} (p : α → Bool) : List α → Int → Int
  | [], _ => -1
  | x :: r, i => bif p x then i else firstI p r (i + 1)
theorem firstI_iff {α : Type} (p : α → Bool) : ∀ (l : List α) (i : Int), 0 ≤ i → (decide (firstI p l i ≥ 0)) = l.any p
  | [], i, h => by simp [firstI]
  | x :: r, i, h => by
    cases hx : p x
    · simp only [firstI, hx, cond_false, List.any_cons, Bool.false_or]
      exact firstI_iff p r (i + 1) (by omega)
    · simp [firstI, hx]
      omega
theorem firstI_none {α : Type} (p : α → Bool) : ∀ (l : List α) (i : Int), l.any p = false → firstI p l i = -1
  | [], i, h => rfl
  | x :: r, i, h => by
    simp only [List.any_cons, Bool.or_eq_false_iff] at h
    simp only [firstI, h.1, cond_false]
    exact firstI_none p r (i + 1) h.2
def idxs {α : Type} (p : α → Bool) : List α → Int → List Int
  | [], _ => []
  | x :: r, i => bif p x then i :: idxs p r (i + 1) else idxs p r (i + 1)
def brk (a : List (Int × Int)) (s : Int) : List Int := idxs (fun r => !respOf r.1 r.2 s) a 0
theorem idxs_length {α : Type} (p : α → Bool) : ∀ (l : List α) (i : Int), (idxs p l i).length ≤ l.length
  | [], i => by simp [idxs]
  | x :: r, i => by
    have := idxs_length p r (i + 1)
    cases hx : p x <;> simp [idxs, hx] <;> omega
/- spec.l1In -/
def K_l1In : List AV → List Ob → Option (AV × List Ob)
  | [.int .i64 n, .int .i64 l, .int .i64 h], [] => gd (True) (.bool (decide (l ≤ n ∧ n ≤ h)), [])
  | _, _ => none
@[reducible] def E_l1In : Env := mkE (tb []) (fun f => false) (fun r => ([], []))
theorem ev_l1In (n l h : Int) (hp : True) : evF E_l1In (1) Try.f65 [.int .i64 n, .int .i64 l, .int .i64 h] [] = some (.bool (decide (l ≤ n ∧ n ≤ h)), []) := by
  conv => lhs; whnf
  refine br_c (fun h1 => ?_) (fun h1 => ?_)
  · conv => lhs; whnf
    repeat ((first | with_reducible apply br_tt | with_reducible apply br_ff | with_reducible refine br_d ?_ (by kernel_rfl) | with_reducible apply br_t h1 | with_reducible apply br_f h1); conv => lhs; whnf)
    have := ofd h1
    simp [this]
  · conv => lhs; whnf
    repeat ((first | with_reducible apply br_tt | with_reducible apply br_ff | with_reducible refine br_d ?_ (by kernel_rfl) | with_reducible apply br_t h1 | with_reducible apply br_f h1); conv => lhs; whnf)
    have := ofn h1
    simp [this]
theorem ok_l1In : FnOk Try.prog 65 K_l1In := by
  refine fn_ok (fn := Try.f65) (k := Try.f65.ntmps) (E := E_l1In) (facts_of (List.forall_mem_nil _)) (by kernel_rfl) rfl (by decide +kernel) (by decide +kernel) ?_
  intro avs hin r h
  unfold K_l1In at h
  split at h
  · obtain ⟨hp, rfl⟩ := gd_o h
    exact ⟨_, ev_l1In _ _ _ hp, rfl⟩
  · cases h

/- spec.IsSet -/
def K_specIsSet : List AV → List Ob → Option (AV × List Ob)
  | [.int .i64 n, .int .i64 s], [] => gd (True) (.bool (isSet n s), [])
  | _, _ => none
@[reducible] def E_specIsSet : Env := mkE (tb [(65, K_l1In)]) (fun f => false) (fun r => ([], []))
theorem ev_specIsSet (n s : Int) (hp : True) : evF E_specIsSet (1) Try.f76 [.int .i64 n, .int .i64 s] [] = some (.bool (isSet n s), []) := by
  conv => lhs; whnf
  conv => lhs; arg 1; whnf
  refine bnd_g (by exact True.intro) ?_
  conv => lhs; whnf
  refine br_c (fun h => ?_) (fun h => ?_)
  · conv => lhs; whnf
    have h8 := ofd h
    repeat ((first | with_reducible apply br_tt | with_reducible apply br_ff | with_reducible refine br_d ?_ (by kernel_rfl) | with_reducible apply br_t h | with_reducible apply br_f h); conv => lhs; whnf)
    rw [wrapu h8.1 h8.2]
    refine br_f (df (by omega)) ?_
    conv => lhs; whnf
    repeat ((first | with_reducible apply br_tt | with_reducible apply br_ff | with_reducible refine br_d ?_ (by kernel_rfl) | with_reducible apply br_t h | with_reducible apply br_f h); conv => lhs; whnf)
    conv => lhs; arg 1; whnf
    refine bnd_g (by exact True.intro) ?_
    conv => lhs; whnf
    repeat ((first | with_reducible apply br_tt | with_reducible apply br_ff | with_reducible refine br_d ?_ (by kernel_rfl) | with_reducible apply br_t h | with_reducible apply br_f h); conv => lhs; whnf)
    refine okB ?_
    unfold isSet
    refine decide_eq_decide.2 ?_
    rw [shl_set h8.1 h8.2]
    exact ⟨fun h => ⟨h8, h⟩, fun h => h.2⟩
  · conv => lhs; whnf
    repeat ((first | with_reducible apply br_tt | with_reducible apply br_ff | with_reducible refine br_d ?_ (by kernel_rfl) | with_reducible apply br_t h | with_reducible apply br_f h); conv => lhs; whnf)
    have h8 := ofn h
    simp [isSet, h8]
theorem ok_specIsSet : FnOk Try.prog 76 K_specIsSet := by
  refine fn_ok (fn := Try.f76) (k := Try.f76.ntmps) (E := E_specIsSet) (facts_of (List.forall_mem_cons.2 ⟨ok_l1In, List.forall_mem_nil _⟩)) (by kernel_rfl) rfl (by decide +kernel) (by decide +kernel) ?_
  intro avs hin r h
  unfold K_specIsSet at h
  split at h
  · obtain ⟨hp, rfl⟩ := gd_o h
    exact ⟨_, ev_specIsSet _ _ hp, rfl⟩
  · cases h

/- spec.l9Rule -/
def K_l9Rule : List AV → List Ob → Option (AV × List Ob)
  | [.int .i64 8, .agg [.int .i64 p, .int .i64 q]], [] => gd (True) (.bool (isSet 8 p && isSet 8 q), [])
  | _, _ => none
@[reducible] def E_l9Rule : Env := mkE (tb [(76, K_specIsSet)]) (fun f => false) (fun r => ([], []))
theorem ev_l9Rule (p q : Int) (hp : True) : evF E_l9Rule (1) Try.f80 [.int .i64 8, .agg [.int .i64 p, .int .i64 q]] [] = some (.bool (isSet 8 p && isSet 8 q), []) := by
  conv => lhs; whnf
  conv => lhs; arg 1; whnf
  refine bnd_g (by exact True.intro) ?_
  conv => lhs; whnf
  refine br_c (fun h => ?_) (fun h => ?_)
  · conv => lhs; whnf
    repeat ((first | with_reducible apply br_tt | with_reducible apply br_ff | with_reducible refine br_d ?_ (by kernel_rfl) | with_reducible apply br_t h | with_reducible apply br_f h); conv => lhs; whnf)
    conv => lhs; arg 1; whnf
    refine bnd_g (by exact True.intro) ?_
    conv => lhs; whnf
    repeat ((first | with_reducible apply br_tt | with_reducible apply br_ff | with_reducible refine br_d ?_ (by kernel_rfl) | with_reducible apply br_t h | with_reducible apply br_f h); conv => lhs; whnf)
    rw [h, Bool.true_and]
  · conv => lhs; whnf
    repeat ((first | with_reducible apply br_tt | with_reducible apply br_ff | with_reducible refine br_d ?_ (by kernel_rfl) | with_reducible apply br_t h | with_reducible apply br_f h); conv => lhs; whnf)
    rw [h, Bool.false_and]
theorem ok_l9Rule : FnOk Try.prog 80 K_l9Rule := by
  refine fn_ok (fn := Try.f80) (k := Try.f80.ntmps) (E := E_l9Rule) (facts_of (List.forall_mem_cons.2 ⟨ok_specIsSet, List.forall_mem_nil _⟩)) (by kernel_rfl) rfl (by decide +kernel) (by decide +kernel) ?_
  intro avs hin r h
  unfold K_l9Rule at h
  split at h
  · obtain ⟨hp, rfl⟩ := gd_o h
    exact ⟨_, ev_l9Rule _ _ hp, rfl⟩
  · cases h

/- spec.Respects -/
def K_specRespects : List AV → List Ob → Option (AV × List Ob)
  | [.agg [.int .i64 p, .int .i64 q], .int .i64 s], [] => gd (True) (.bool (respOf p q s), [])
  | _, _ => none
@[reducible] def E_specRespects : Env := mkE (tb [(80, K_l9Rule), (76, K_specIsSet)]) (fun f => false) (fun r => ([], []))
theorem ev_specRespects (p q s : Int) (hp : True) : evF E_specRespects (1) Try.f72 [.agg [.int .i64 p, .int .i64 q], .int .i64 s] [] = some (.bool (respOf p q s), []) := by
  conv => lhs; whnf
  conv => lhs; arg 1; whnf
  refine bnd_g (by exact True.intro) ?_
  conv => lhs; whnf
  refine br_c (fun h => ?_) (fun h => ?_)
  · have hpq := Bool.and_eq_true_iff.1 h
    conv => lhs; whnf
    repeat ((first | with_reducible apply br_tt | with_reducible apply br_ff | with_reducible refine br_d ?_ (by kernel_rfl) | with_reducible apply br_t h | with_reducible apply br_f h); conv => lhs; whnf)
    conv => lhs; arg 1; whnf
    refine bnd_g (by exact True.intro) ?_
    conv => lhs; whnf
    repeat ((first | with_reducible apply br_tt | with_reducible apply br_ff | with_reducible refine br_d ?_ (by kernel_rfl) | with_reducible apply br_t h | with_reducible apply br_f h); conv => lhs; whnf)
    refine br_c (fun h2 => ?_) (fun h2 => ?_)
    · conv => lhs; whnf
      repeat ((first | with_reducible apply br_tt | with_reducible apply br_ff | with_reducible refine br_d ?_ (by kernel_rfl) | with_reducible apply br_t h | with_reducible apply br_f h | with_reducible apply br_t h2 | with_reducible apply br_f h2); conv => lhs; whnf)
      refine br_c (fun h3 => ?_) (fun h3 => ?_)
      · conv => lhs; whnf
        repeat ((first | with_reducible apply br_tt | with_reducible apply br_ff | with_reducible refine br_d ?_ (by kernel_rfl) | with_reducible apply br_t h | with_reducible apply br_f h | with_reducible apply br_t h2 | with_reducible apply br_f h2 | with_reducible apply br_t h3 | with_reducible apply br_f h3); conv => lhs; whnf)
        change (band p s != p) = true at h3
        rw [bne_bnot hpq.1] at h3
        simp [respOf, hpq.1, hpq.2, h2, h3]
      · conv => lhs; whnf
        repeat ((first | with_reducible apply br_tt | with_reducible apply br_ff | with_reducible refine br_d ?_ (by kernel_rfl) | with_reducible apply br_t h | with_reducible apply br_f h | with_reducible apply br_t h2 | with_reducible apply br_f h2 | with_reducible apply br_t h3 | with_reducible apply br_f h3); conv => lhs; whnf)
        change (band p s != p) = false at h3
        rw [bne_bnot hpq.1] at h3
        refine okB ?_
        change (band q s == q) = _
        rw [beq_bnot hpq.2]
        simp only [respOf, hpq.1, hpq.2, h2, h3, Bool.true_and, Bool.false_or]
    · conv => lhs; whnf
      repeat ((first | with_reducible apply br_tt | with_reducible apply br_ff | with_reducible refine br_d ?_ (by kernel_rfl) | with_reducible apply br_t h | with_reducible apply br_f h | with_reducible apply br_t h2 | with_reducible apply br_f h2); conv => lhs; whnf)
      simp [respOf, h2]
  · conv => lhs; whnf
    repeat ((first | with_reducible apply br_tt | with_reducible apply br_ff | with_reducible refine br_d ?_ (by kernel_rfl) | with_reducible apply br_t h | with_reducible apply br_f h); conv => lhs; whnf)
    refine okB ?_
    simp only [respOf, h, Bool.false_and]
theorem ok_specRespects : FnOk Try.prog 72 K_specRespects := by
  refine fn_ok (fn := Try.f72) (k := Try.f72.ntmps) (E := E_specRespects) (facts_of (List.forall_mem_cons.2 ⟨ok_l9Rule, List.forall_mem_cons.2 ⟨ok_specIsSet, List.forall_mem_nil _⟩⟩)) (by kernel_rfl) rfl (by decide +kernel) (by decide +kernel) ?_
  intro avs hin r h
  unfold K_specRespects at h
  split at h
  · obtain ⟨hp, rfl⟩ := gd_o h
    exact ⟨_, ev_specRespects _ _ _ hp, rfl⟩
  · cases h

/- spec.BrokenRules -/
def K_specBrokenRules : List AV → List Ob → Option (AV × List Ob)
  | [.lst (.pair (.int .i64) (.int .i64)) a, .int .i64 s], [] => gd (a.length ≤ 1048576) (.own 0, [.row 3 (.int .i64) (brk a s)])
  | _, _ => none
@[reducible] def E_specBrokenRules : Env := mkE (tb [(72, K_specRespects)]) (fun f => false) (fun r => bif r == 3 then ([0, 1, 5, 6], [5]) else ([], []))
theorem lp_specBrokenRules (a : List (Int × Int)) (s : Int) (ha : a.length ≤ 1048576) (k : AX → S → Option (AV × List Ob)) (d : Nat) : ∀ (n i : Nat) (x : Int) (ys : List Int), a.length - i = d → i ≤ a.length → x = i → d < n → ys.length ≤ i →
    lpAt E_specBrokenRules (lp E_specBrokenRules 0 n) 0 (loopAt Try.f32 0) (mkS [0, 1, 5, 6] [.lst (.pair (.int .i64) (.int .i64)) a, .int .i64 s, .own 0, .int .i64 x] [some (.row 3 (.int .i64) ys)]) k =
      k (.exit 0) (mkS [5] [.own 0] [some (.row 3 (.int .i64) (ys ++ idxs (fun r => !respOf r.1 r.2 s) (a.drop i) i))]) := by
  induction d with
  | zero =>
    intro n i x ys hd hi hx hn hl
    subst hx
    rw [lpAt_def]
    conv => lhs; whnf
    refine br_f (df (by omega)) ?_
    conv => lhs; whnf
    rw [List.drop_of_length_le (by omega), idxs, List.append_nil]
  | succ d ih =>
    intro n i x ys hd hi hx hn hl
    obtain ⟨n, rfl⟩ : ∃ m, n = m + 1 := ⟨n - 1, by omega⟩
    subst hx
    rw [lpAt_def]
    conv => lhs; whnf
    refine br_t (dt (by omega)) ?_
    conv => lhs; whnf
    refine br_t (dt2 (by omega) (by omega)) ?_
    conv => lhs; whnf
    conv => lhs; arg 1; whnf
    refine bnd_g (by exact True.intro) ?_
    conv => lhs; whnf
    rw [getD_drop (l := a) (i := i) (d := (0, 0)) (by omega)]
    refine br_c (fun h => ?_) (fun h => ?_)
    · have h' : respOf (a.getD i (0, 0)).1 (a.getD i (0, 0)).2 s = false := by simpa using h
      conv => lhs; whnf
      refine br_t (dt (by simp [room]; omega)) ?_
      conv => lhs; whnf
      rw [ih n (i + 1) _ _ (by omega) (by omega) (by rw [wrap64 (by omega) (by omega)]; simp) (by omega) (by simp; omega)]
      simp [idxs, -List.getD_eq_getElem?_getD, h']
    · have h' : respOf (a.getD i (0, 0)).1 (a.getD i (0, 0)).2 s = true := by simpa using h
      conv => lhs; whnf
      rw [ih n (i + 1) _ _ (by omega) (by omega) (by rw [wrap64 (by omega) (by omega)]; simp) (by omega) (by omega)]
      simp [idxs, -List.getD_eq_getElem?_getD, h']
theorem ev_specBrokenRules (a : List (Int × Int)) (s : Int) (hp : a.length ≤ 1048576) : evF E_specBrokenRules (a.length + 2) Try.f32 [.lst (.pair (.int .i64) (.int .i64)) a, .int .i64 s] [] = some (.own 0, [.row 3 (.int .i64) (brk a s)]) := by
  conv => lhs; whnf
  refine (lp_specBrokenRules a s hp _ _ _ 0 0 _ rfl (by omega) rfl (by omega) (by simp)).trans ?_
  conv => lhs; whnf
  simp [brk]
theorem ok_specBrokenRules : FnOk Try.prog 32 K_specBrokenRules := by
  refine fn_ok (fn := Try.f32) (k := Try.f32.ntmps) (E := E_specBrokenRules) (facts_of (List.forall_mem_cons.2 ⟨ok_specRespects, List.forall_mem_nil _⟩)) (by kernel_rfl) rfl (by decide +kernel) (by decide +kernel) ?_
  intro avs hin r h
  unfold K_specBrokenRules at h
  split at h
  · obtain ⟨hp, rfl⟩ := gd_o h
    exact ⟨_, ev_specBrokenRules _ _ hp, rfl⟩
  · cases h

/- impl.within -/
def K_within : List AV → List Ob → Option (AV × List Ob)
  | [.int .i64 n, .int .i64 l, .int .i64 h], [] => gd (True) (.bool (decide (l ≤ n ∧ n ≤ h)), [])
  | _, _ => none
@[reducible] def E_within : Env := mkE (tb []) (fun f => false) (fun r => ([], []))
theorem ev_within (n l h : Int) (hp : True) : evF E_within (1) Try.f63 [.int .i64 n, .int .i64 l, .int .i64 h] [] = some (.bool (decide (l ≤ n ∧ n ≤ h)), []) := by
  conv => lhs; whnf
  refine br_c (fun h1 => ?_) (fun h1 => ?_)
  · conv => lhs; whnf
    repeat ((first | with_reducible apply br_tt | with_reducible apply br_ff | with_reducible refine br_d ?_ (by kernel_rfl) | with_reducible apply br_t h1 | with_reducible apply br_f h1); conv => lhs; whnf)
    have := ofd h1
    simp [this]
  · conv => lhs; whnf
    repeat ((first | with_reducible apply br_tt | with_reducible apply br_ff | with_reducible refine br_d ?_ (by kernel_rfl) | with_reducible apply br_t h1 | with_reducible apply br_f h1); conv => lhs; whnf)
    have := ofn h1
    simp [this]
theorem ok_within : FnOk Try.prog 63 K_within := by
  refine fn_ok (fn := Try.f63) (k := Try.f63.ntmps) (E := E_within) (facts_of (List.forall_mem_nil _)) (by kernel_rfl) rfl (by decide +kernel) (by decide +kernel) ?_
  intro avs hin r h
  unfold K_within at h
  split at h
  · obtain ⟨hp, rfl⟩ := gd_o h
    exact ⟨_, ev_within _ _ _ hp, rfl⟩
  · cases h

/- impl.IsSet -/
def K_implIsSet : List AV → List Ob → Option (AV × List Ob)
  | [.int .i64 n, .int .i64 s], [] => gd (True) (.bool (isSet n s), [])
  | _, _ => none
@[reducible] def E_implIsSet : Env := mkE (tb [(63, K_within)]) (fun f => false) (fun r => ([], []))
theorem ev_implIsSet (n s : Int) (hp : True) : evF E_implIsSet (1) Try.f109 [.int .i64 n, .int .i64 s] [] = some (.bool (isSet n s), []) := by
  conv => lhs; whnf
  conv => lhs; arg 1; whnf
  refine bnd_g (by exact True.intro) ?_
  conv => lhs; whnf
  refine br_c (fun h => ?_) (fun h => ?_)
  · conv => lhs; whnf
    have h8 := ofd h
    repeat ((first | with_reducible apply br_tt | with_reducible apply br_ff | with_reducible refine br_d ?_ (by kernel_rfl) | with_reducible apply br_t h | with_reducible apply br_f h); conv => lhs; whnf)
    refine br_f (df (by omega)) ?_
    conv => lhs; whnf
    repeat ((first | with_reducible apply br_tt | with_reducible apply br_ff | with_reducible refine br_d ?_ (by kernel_rfl) | with_reducible apply br_t h | with_reducible apply br_f h); conv => lhs; whnf)
    conv => lhs; arg 1; whnf
    refine bnd_g (by exact True.intro) ?_
    conv => lhs; whnf
    repeat ((first | with_reducible apply br_tt | with_reducible apply br_ff | with_reducible refine br_d ?_ (by kernel_rfl) | with_reducible apply br_t h | with_reducible apply br_f h); conv => lhs; whnf)
    refine okB ?_
    unfold isSet
    refine decide_eq_decide.2 ?_
    rw [shl_set h8.1 h8.2]
    exact ⟨fun h => ⟨h8, h⟩, fun h => h.2⟩
  · conv => lhs; whnf
    repeat ((first | with_reducible apply br_tt | with_reducible apply br_ff | with_reducible refine br_d ?_ (by kernel_rfl) | with_reducible apply br_t h | with_reducible apply br_f h); conv => lhs; whnf)
    have h8 := ofn h
    simp [isSet, h8]
theorem ok_implIsSet : FnOk Try.prog 109 K_implIsSet := by
  refine fn_ok (fn := Try.f109) (k := Try.f109.ntmps) (E := E_implIsSet) (facts_of (List.forall_mem_cons.2 ⟨ok_within, List.forall_mem_nil _⟩)) (by kernel_rfl) rfl (by decide +kernel) (by decide +kernel) ?_
  intro avs hin r h
  unfold K_implIsSet at h
  split at h
  · obtain ⟨hp, rfl⟩ := gd_o h
    exact ⟨_, ev_implIsSet _ _ hp, rfl⟩
  · cases h

/- impl.isAnySet -/
def K_isAnySet : List AV → List Ob → Option (AV × List Ob)
  | [.int .i64 s], [] => gd (True) (.bool (isSet 8 s), [])
  | _, _ => none
@[reducible] def E_isAnySet : Env := mkE (tb [(109, K_implIsSet)]) (fun f => false) (fun r => ([], []))
theorem ev_isAnySet (s : Int) (hp : True) : evF E_isAnySet (1) Try.f108 [.int .i64 s] [] = some (.bool (isSet 8 s), []) := by
  conv => lhs; whnf
  conv => lhs; arg 1; whnf
  refine bnd_g (by exact True.intro) ?_
  conv => lhs; whnf
theorem ok_isAnySet : FnOk Try.prog 108 K_isAnySet := by
  refine fn_ok (fn := Try.f108) (k := Try.f108.ntmps) (E := E_isAnySet) (facts_of (List.forall_mem_cons.2 ⟨ok_implIsSet, List.forall_mem_nil _⟩)) (by kernel_rfl) rfl (by decide +kernel) (by decide +kernel) ?_
  intro avs hin r h
  unfold K_isAnySet at h
  split at h
  · obtain ⟨hp, rfl⟩ := gd_o h
    exact ⟨_, ev_isAnySet _ hp, rfl⟩
  · cases h

/- impl.areAnyRules$1 -/
def K_anyRules1 : List AV → List Ob → Option (AV × List Ob)
  | [.agg [.int .i64 p, .int .i64 q]], [] => gd (True) (.bool (badR (p, q)), [])
  | _, _ => none
@[reducible] def E_anyRules1 : Env := mkE (tb [(108, K_isAnySet)]) (fun f => false) (fun r => ([], []))
theorem ev_anyRules1 (p q : Int) (hp : True) : evF E_anyRules1 (1) Try.f115 [.agg [.int .i64 p, .int .i64 q]] [] = some (.bool (badR (p, q)), []) := by
  conv => lhs; whnf
  conv => lhs; arg 1; whnf
  refine bnd_g (by exact True.intro) ?_
  conv => lhs; whnf
  refine br_c (fun h => ?_) (fun h => ?_)
  · conv => lhs; whnf
    repeat ((first | with_reducible apply br_tt | with_reducible apply br_ff | with_reducible refine br_d ?_ (by kernel_rfl) | with_reducible apply br_t h | with_reducible apply br_f h); conv => lhs; whnf)
    simp at h
    simp [badR, h]
  · conv => lhs; whnf
    repeat ((first | with_reducible apply br_tt | with_reducible apply br_ff | with_reducible refine br_d ?_ (by kernel_rfl) | with_reducible apply br_t h | with_reducible apply br_f h); conv => lhs; whnf)
    conv => lhs; arg 1; whnf
    refine bnd_g (by exact True.intro) ?_
    conv => lhs; whnf
    repeat ((first | with_reducible apply br_tt | with_reducible apply br_ff | with_reducible refine br_d ?_ (by kernel_rfl) | with_reducible apply br_t h | with_reducible apply br_f h); conv => lhs; whnf)
    simp at h
    simp [badR, h]
theorem ok_anyRules1 : FnOk Try.prog 115 K_anyRules1 := by
  refine fn_ok (fn := Try.f115) (k := Try.f115.ntmps) (E := E_anyRules1) (facts_of (List.forall_mem_cons.2 ⟨ok_isAnySet, List.forall_mem_nil _⟩)) (by kernel_rfl) rfl (by decide +kernel) (by decide +kernel) ?_
  intro avs hin r h
  unfold K_anyRules1 at h
  split at h
  · obtain ⟨hp, rfl⟩ := gd_o h
    exact ⟨_, ev_anyRules1 _ _ hp, rfl⟩
  · cases h

/- slices.IndexFunc[[]loop.example/g00596/impl.Rule,loop.example/g00596/impl.Rule] -/
def K_indexRule : List AV → List Ob → Option (AV × List Ob)
  | [.lst (.pair (.int .i64) (.int .i64)) a, .clo 115 []], [] => gd (a.length < 4611686018427387904) (.int .i64 (firstI badR a 0), [])
  | _, _ => none
@[reducible] def E_indexRule : Env := mkE (tb [(115, K_anyRules1)]) (fun f => false) (fun r => bif r == 2 then ([0, 1, 7, 8], [4]) else ([], []))
theorem lp_indexRule (a : List (Int × Int)) (ha : a.length < 4611686018427387904) (k : AX → S → Option (AV × List Ob)) (d : Nat) : ∀ (n i : Nat) (x : Int), a.length - i = d → i ≤ a.length → x = i → d < n →
    lpAt E_indexRule (lp E_indexRule 0 n) 0 (loopAt Try.f118 0) (mkS [0, 1, 7, 8] [.lst (.pair (.int .i64) (.int .i64)) a, .clo 115 [], .int .i64 a.length, .int .i64 x] []) k =
      if (a.drop i).any badR then k .ret (mkS [4] [.int .i64 (firstI badR (a.drop i) i)] []) else k (.exit 0) (mkS [4] [.any] []) := by
  induction d with
  | zero =>
    intro n i x hd hi hx hn
    subst hx
    rw [lpAt_def]
    conv => lhs; whnf
    refine br_f (df (by omega)) ?_
    conv => lhs; whnf
    rw [List.drop_of_length_le (by omega)]
    simp
  | succ d ih =>
    intro n i x hd hi hx hn
    obtain ⟨n, rfl⟩ : ∃ m, n = m + 1 := ⟨n - 1, by omega⟩
    subst hx
    rw [lpAt_def]
    conv => lhs; whnf
    refine br_t (dt (by omega)) ?_
    conv => lhs; whnf
    refine br_t (dt2 (by omega) (by omega)) ?_
    conv => lhs; whnf
    conv => lhs; arg 1; whnf
    refine bnd_g (by exact True.intro) ?_
    conv => lhs; whnf
    rw [getD_drop (l := a) (i := i) (d := (0, 0)) (by omega)]
    refine br_c (fun h => ?_) (fun h => ?_)
    · have h' : badR (a.getD i (0, 0)) = true := h
      conv => lhs; whnf
      rw [if_pos (by simp only [List.any_cons, h', Bool.true_or])]
      simp only [firstI, h', cond_true]
    · have h' : badR (a.getD i (0, 0)) = false := h
      conv => lhs; whnf
      rw [ih n (i + 1) _ (by omega) (by omega) (by rw [wrap64 (by omega) (by omega)]; simp) (by omega)]
      simp only [List.any_cons, h', Bool.false_or, firstI, cond_false]
      rfl
theorem ev_indexRule (a : List (Int × Int)) (hp : a.length < 4611686018427387904) : evF E_indexRule (a.length + 2) Try.f118 [.lst (.pair (.int .i64) (.int .i64)) a, .clo 115 []] [] = some (.int .i64 (firstI badR a 0), []) := by
  conv => lhs; whnf
  refine (lp_indexRule a hp _ a.length _ 0 0 rfl (by omega) rfl (by omega)).trans ?_
  simp only [List.drop_zero]
  split
  · conv => lhs; whnf
    rfl
  · rename_i he
    conv => lhs; whnf
    have : firstI badR a 0 = -1 := firstI_none badR a 0 (by simpa using he)
    rw [this]
theorem ok_indexRule : FnOk Try.prog 118 K_indexRule := by
  refine fn_ok (fn := Try.f118) (k := Try.f118.ntmps) (E := E_indexRule) (facts_of (List.forall_mem_cons.2 ⟨ok_anyRules1, List.forall_mem_nil _⟩)) (by kernel_rfl) rfl (by decide +kernel) (by decide +kernel) ?_
  intro avs hin r h
  unfold K_indexRule at h
  split at h
  · obtain ⟨hp, rfl⟩ := gd_o h
    exact ⟨_, ev_indexRule _ hp, rfl⟩
  · cases h

/- slices.ContainsFunc[[]loop.example/g00596/impl.Rule,loop.example/g00596/impl.Rule] -/
def K_containsRule : List AV → List Ob → Option (AV × List Ob)
  | [.lst (.pair (.int .i64) (.int .i64)) a, .clo 115 []], [] => gd (a.length < 4611686018427387904) (.bool (a.any badR), [])
  | _, _ => none
@[reducible] def E_containsRule : Env := mkE (tb [(118, K_indexRule)]) (fun f => false) (fun r => ([], []))
theorem ev_containsRule (a : List (Int × Int)) (hp : a.length < 4611686018427387904) : evF E_containsRule (1) Try.f114 [.lst (.pair (.int .i64) (.int .i64)) a, .clo 115 []] [] = some (.bool (a.any badR), []) := by
  conv => lhs; whnf
  conv => lhs; arg 1; whnf
  refine bnd_g (by exact hp) ?_
  conv => lhs; whnf
  refine okB ?_
  exact firstI_iff badR a 0 (by omega)
theorem ok_containsRule : FnOk Try.prog 114 K_containsRule := by
  refine fn_ok (fn := Try.f114) (k := Try.f114.ntmps) (E := E_containsRule) (facts_of (List.forall_mem_cons.2 ⟨ok_indexRule, List.forall_mem_nil _⟩)) (by kernel_rfl) rfl (by decide +kernel) (by decide +kernel) ?_
  intro avs hin r h
  unfold K_containsRule at h
  split at h
  · obtain ⟨hp, rfl⟩ := gd_o h
    exact ⟨_, ev_containsRule _ hp, rfl⟩
  · cases h

/- impl.areAnyRules -/
def K_areAnyRules : List AV → List Ob → Option (AV × List Ob)
  | [.lst (.pair (.int .i64) (.int .i64)) a], [] => gd (a.length < 4611686018427387904) (.bool (!a.any badR), [])
  | _, _ => none
@[reducible] def E_areAnyRules : Env := mkE (tb [(114, K_containsRule)]) (fun f => false) (fun r => ([], []))
theorem ev_areAnyRules (a : List (Int × Int)) (hp : a.length < 4611686018427387904) : evF E_areAnyRules (1) Try.f107 [.lst (.pair (.int .i64) (.int .i64)) a] [] = some (.bool (!a.any badR), []) := by
  conv => lhs; whnf
  conv => lhs; arg 1; whnf
  refine bnd_g (by exact hp) ?_
  conv => lhs; whnf
theorem ok_areAnyRules : FnOk Try.prog 107 K_areAnyRules := by
  refine fn_ok (fn := Try.f107) (k := Try.f107.ntmps) (E := E_areAnyRules) (facts_of (List.forall_mem_cons.2 ⟨ok_containsRule, List.forall_mem_nil _⟩)) (by kernel_rfl) rfl (by decide +kernel) (by decide +kernel) ?_
  intro avs hin r h
  unfold K_areAnyRules at h
  split at h
  · obtain ⟨hp, rfl⟩ := gd_o h
    exact ⟨_, ev_areAnyRules _ hp, rfl⟩
  · cases h

/- impl.inSet -/
def K_inSet : List AV → List Ob → Option (AV × List Ob)
  | [.int .i64 a, .int .i64 b], [] => gd (True) (.bool (bnot a b == 0), [])
  | _, _ => none
@[reducible] def E_inSet : Env := mkE (tb []) (fun f => false) (fun r => ([], []))
theorem ev_inSet (a b : Int) (hp : True) : evF E_inSet (1) Try.f83 [.int .i64 a, .int .i64 b] [] = some (.bool (bnot a b == 0), []) := by
  conv => lhs; whnf
  rfl
theorem ok_inSet : FnOk Try.prog 83 K_inSet := by
  refine fn_ok (fn := Try.f83) (k := Try.f83.ntmps) (E := E_inSet) (facts_of (List.forall_mem_nil _)) (by kernel_rfl) rfl (by decide +kernel) (by decide +kernel) ?_
  intro avs hin r h
  unfold K_inSet at h
  split at h
  · obtain ⟨hp, rfl⟩ := gd_o h
    exact ⟨_, ev_inSet _ _ hp, rfl⟩
  · cases h

/- impl.Respects -/
def K_implRespects : List AV → List Ob → Option (AV × List Ob)
  | [.agg [.int .i64 p, .int .i64 q], .int .i64 s], [] => gd (True) (.bool (respOf p q s), [])
  | _, _ => none
@[reducible] def E_implRespects : Env := mkE (tb [(107, K_areAnyRules), (108, K_isAnySet), (83, K_inSet)]) (fun f => false) (fun r => ([], []))
theorem ev_implRespects (p q s : Int) (hp : True) : evF E_implRespects (1) Try.f73 [.agg [.int .i64 p, .int .i64 q], .int .i64 s] [] = some (.bool (respOf p q s), []) := by
  conv => lhs; whnf
  conv => lhs; arg 1; whnf
  refine bnd_g (by simp) ?_
  conv => lhs; whnf
  refine br_c (fun h => ?_) (fun h => ?_)
  · have hpq : isSet 8 p = true ∧ isSet 8 q = true := by simpa [badR] using h
    conv => lhs; whnf
    repeat ((first | with_reducible apply br_tt | with_reducible apply br_ff | with_reducible refine br_d ?_ (by kernel_rfl) | with_reducible apply br_t h | with_reducible apply br_f h); conv => lhs; whnf)
    conv => lhs; arg 1; whnf
    refine bnd_g (by exact True.intro) ?_
    conv => lhs; whnf
    repeat ((first | with_reducible apply br_tt | with_reducible apply br_ff | with_reducible refine br_d ?_ (by kernel_rfl) | with_reducible apply br_t h | with_reducible apply br_f h); conv => lhs; whnf)
    refine br_c (fun h2 => ?_) (fun h2 => ?_)
    · conv => lhs; whnf
      repeat ((first | with_reducible apply br_tt | with_reducible apply br_ff | with_reducible refine br_d ?_ (by kernel_rfl) | with_reducible apply br_t h | with_reducible apply br_f h | with_reducible apply br_t h2 | with_reducible apply br_f h2); conv => lhs; whnf)
      conv => lhs; arg 1; whnf
      refine bnd_g (by exact True.intro) ?_
      conv => lhs; whnf
      repeat ((first | with_reducible apply br_tt | with_reducible apply br_ff | with_reducible refine br_d ?_ (by kernel_rfl) | with_reducible apply br_t h | with_reducible apply br_f h | with_reducible apply br_t h2 | with_reducible apply br_f h2); conv => lhs; whnf)
      refine br_c (fun h3 => ?_) (fun h3 => ?_)
      · conv => lhs; whnf
        repeat ((first | with_reducible apply br_tt | with_reducible apply br_ff | with_reducible refine br_d ?_ (by kernel_rfl) | with_reducible apply br_t h | with_reducible apply br_f h | with_reducible apply br_t h2 | with_reducible apply br_f h2 | with_reducible apply br_t h3 | with_reducible apply br_f h3); conv => lhs; whnf)
        simp only [respOf, hpq.1, hpq.2, h2, h3, Bool.true_and, Bool.true_or]
      · conv => lhs; whnf
        repeat ((first | with_reducible apply br_tt | with_reducible apply br_ff | with_reducible refine br_d ?_ (by kernel_rfl) | with_reducible apply br_t h | with_reducible apply br_f h | with_reducible apply br_t h2 | with_reducible apply br_f h2 | with_reducible apply br_t h3 | with_reducible apply br_f h3); conv => lhs; whnf)
        conv => lhs; arg 1; whnf
        refine bnd_g (by exact True.intro) ?_
        conv => lhs; whnf
        repeat ((first | with_reducible apply br_tt | with_reducible apply br_ff | with_reducible refine br_d ?_ (by kernel_rfl) | with_reducible apply br_t h | with_reducible apply br_f h | with_reducible apply br_t h2 | with_reducible apply br_f h2 | with_reducible apply br_t h3 | with_reducible apply br_f h3); conv => lhs; whnf)
        simp only [respOf, hpq.1, hpq.2, h2, h3, Bool.true_and, Bool.false_or]
    · conv => lhs; whnf
      repeat ((first | with_reducible apply br_tt | with_reducible apply br_ff | with_reducible refine br_d ?_ (by kernel_rfl) | with_reducible apply br_t h | with_reducible apply br_f h | with_reducible apply br_t h2 | with_reducible apply br_f h2); conv => lhs; whnf)
      simp [respOf, h2]
  · conv => lhs; whnf
    repeat ((first | with_reducible apply br_tt | with_reducible apply br_ff | with_reducible refine br_d ?_ (by kernel_rfl) | with_reducible apply br_t h | with_reducible apply br_f h); conv => lhs; whnf)
    refine okB ?_
    have : (isSet 8 p && isSet 8 q) = false := by simpa [badR] using h
    simp only [respOf, this, Bool.false_and]
theorem ok_implRespects : FnOk Try.prog 73 K_implRespects := by
  refine fn_ok (fn := Try.f73) (k := Try.f73.ntmps) (E := E_implRespects) (facts_of (List.forall_mem_cons.2 ⟨ok_areAnyRules, List.forall_mem_cons.2 ⟨ok_isAnySet, List.forall_mem_cons.2 ⟨ok_inSet, List.forall_mem_nil _⟩⟩⟩)) (by kernel_rfl) rfl (by decide +kernel) (by decide +kernel) ?_
  intro avs hin r h
  unfold K_implRespects at h
  split at h
  · obtain ⟨hp, rfl⟩ := gd_o h
    exact ⟨_, ev_implRespects _ _ _ hp, rfl⟩
  · cases h

/- impl.BrokenRules -/
def K_implBrokenRules : List AV → List Ob → Option (AV × List Ob)
  | [.lst (.pair (.int .i64) (.int .i64)) a, .int .i64 s], [] => gd (a.length ≤ 1048576) (.own 0, [.row 3 (.int .i64) (brk a s)])
  | _, _ => none
@[reducible] def E_implBrokenRules : Env := mkE (tb [(73, K_implRespects)]) (fun f => false) (fun r => bif r == 3 then ([1, 5, 9, 10, 11], [5]) else ([], []))
theorem lp_implBrokenRules (a : List (Int × Int)) (s : Int) (ha : a.length ≤ 1048576) (k : AX → S → Option (AV × List Ob)) (d : Nat) : ∀ (n i : Nat) (x : Int) (ys : List Int), a.length - i = d → i ≤ a.length → x = i → d < n → ys.length ≤ i →
    lpAt E_implBrokenRules (lp E_implBrokenRules 0 n) 0 (loopAt Try.f34 0) (mkS [1, 5, 9, 10, 11] [.int .i64 s, .own 0, .lst (.pair (.int .i64) (.int .i64)) a, .int .i64 a.length, .int .i64 x] [some (.row 3 (.int .i64) ys)]) k =
      k (.exit 0) (mkS [5] [.own 0] [some (.row 3 (.int .i64) (ys ++ idxs (fun r => !respOf r.1 r.2 s) (a.drop i) i))]) := by
  induction d with
  | zero =>
    intro n i x ys hd hi hx hn hl
    subst hx
    rw [lpAt_def]
    conv => lhs; whnf
    refine br_f (df (by omega)) ?_
    conv => lhs; whnf
    rw [List.drop_of_length_le (by omega), idxs, List.append_nil]
  | succ d ih =>
    intro n i x ys hd hi hx hn hl
    obtain ⟨n, rfl⟩ : ∃ m, n = m + 1 := ⟨n - 1, by omega⟩
    subst hx
    rw [lpAt_def]
    conv => lhs; whnf
    refine br_t (dt (by omega)) ?_
    conv => lhs; whnf
    refine br_t (dt2 (by omega) (by omega)) ?_
    conv => lhs; whnf
    conv => lhs; arg 1; whnf
    refine bnd_g (by exact True.intro) ?_
    conv => lhs; whnf
    rw [getD_drop (l := a) (i := i) (d := (0, 0)) (by omega)]
    refine br_c (fun h => ?_) (fun h => ?_)
    · have h' : respOf (a.getD i (0, 0)).1 (a.getD i (0, 0)).2 s = false := by simpa using h
      conv => lhs; whnf
      refine br_t (dt (by simp [room]; omega)) ?_
      conv => lhs; whnf
      rw [ih n (i + 1) _ _ (by omega) (by omega) (by rw [wrap64 (by omega) (by omega)]; simp) (by omega) (by simp; omega)]
      simp [idxs, -List.getD_eq_getElem?_getD, h']
    · have h' : respOf (a.getD i (0, 0)).1 (a.getD i (0, 0)).2 s = true := by simpa using h
      conv => lhs; whnf
      rw [ih n (i + 1) _ _ (by omega) (by omega) (by rw [wrap64 (by omega) (by omega)]; simp) (by omega) (by omega)]
      simp [idxs, -List.getD_eq_getElem?_getD, h']
theorem ev_implBrokenRules (a : List (Int × Int)) (s : Int) (hp : a.length ≤ 1048576) : evF E_implBrokenRules (a.length + 2) Try.f34 [.lst (.pair (.int .i64) (.int .i64)) a, .int .i64 s] [] = some (.own 0, [.row 3 (.int .i64) (brk a s)]) := by
  conv => lhs; whnf
  refine (lp_implBrokenRules a s hp _ _ _ 0 0 _ rfl (by omega) rfl (by omega) (by simp)).trans ?_
  conv => lhs; whnf
  simp [brk]
theorem ok_implBrokenRules : FnOk Try.prog 34 K_implBrokenRules := by
  refine fn_ok (fn := Try.f34) (k := Try.f34.ntmps) (E := E_implBrokenRules) (facts_of (List.forall_mem_cons.2 ⟨ok_implRespects, List.forall_mem_nil _⟩)) (by kernel_rfl) rfl (by decide +kernel) (by decide +kernel) ?_
  intro avs hin r h
  unfold K_implBrokenRules at h
  split at h
  · obtain ⟨hp, rfl⟩ := gd_o h
    exact ⟨_, ev_implBrokenRules _ _ hp, rfl⟩
  · cases h

/- laws.eqIntS -/
def K_eqIntS : List AV → List Ob → Option (AV × List Ob)
  | [.lst (.int .i64) a, .lst (.int .i64) b], [] => gd (a.length < 4611686018427387904 ∧ b.length < 4611686018427387904) (.bool (decide (a = b)), [])
  | _, _ => none
@[reducible] def E_eqIntS : Env := mkE (tb []) (fun f => false) (fun r => bif r == 4 then ([0, 1, 5], [4]) else ([], []))
theorem lp_eqIntS (a b : List Int) (hl : a.length = b.length) (ha : a.length < 4611686018427387904) (k : AX → S → Option (AV × List Ob)) (d : Nat) : ∀ (n i : Nat) (x : Int), a.length - i = d → i ≤ a.length → x = i → d < n →
    lpAt E_eqIntS (lp E_eqIntS 0 n) 0 (loopAt Try.f35 0) (mkS [0, 1, 5] [.lst (.int .i64) a, .lst (.int .i64) b, .int .i64 x] []) k =
      if a.drop i = b.drop i then k (.exit 0) (mkS [4] [.any] []) else k .ret (mkS [4] [.bool false] []) := by
  induction d with
  | zero =>
    intro n i x hd hi hx hn
    subst hx
    rw [lpAt_def]
    conv => lhs; whnf
    refine br_f (df (by omega)) ?_
    conv => lhs; whnf
    rw [if_pos (by rw [List.drop_of_length_le (by omega), List.drop_of_length_le (by omega)])]
  | succ d ih =>
    intro n i x hd hi hx hn
    obtain ⟨n, rfl⟩ : ∃ m, n = m + 1 := ⟨n - 1, by omega⟩
    subst hx
    rw [lpAt_def]
    conv => lhs; whnf
    refine br_t (dt (by omega)) ?_
    conv => lhs; whnf
    refine br_t (dt2 (by omega) (by omega)) ?_
    conv => lhs; whnf
    refine br_t (dt2 (by omega) (by omega)) ?_
    conv => lhs; whnf
    rw [getD_drop (l := a) (i := i) (d := 0) (by omega), getD_drop (l := b) (i := i) (d := 0) (by omega)]
    refine br_t (by kernel_rfl) ?_
    conv => lhs; whnf
    refine br_c (fun h => ?_) (fun h => ?_)
    · conv => lhs; whnf
      rw [if_neg]
      intro he
      have := (List.cons.inj he).1
      simp at h
      exact h this
    · conv => lhs; whnf
      rw [ih n (i + 1) _ (by omega) (by omega) (by rw [wrap64 (by omega) (by omega)]; simp) (by omega)]
      simp at h
      simp [h]
theorem ev_eqIntS (a b : List Int) (hp : a.length < 4611686018427387904 ∧ b.length < 4611686018427387904) : evF E_eqIntS (a.length + 2) Try.f35 [.lst (.int .i64) a, .lst (.int .i64) b] [] = some (.bool (decide (a = b)), []) := by
  conv => lhs; whnf
  refine br_c (fun h => ?_) (fun h => ?_)
  · conv => lhs; whnf
    have : a ≠ b := by
      rintro rfl
      simp at h
    simp [this]
  · conv => lhs; whnf
    have hl : a.length = b.length := by simp at h; omega
    refine (lp_eqIntS a b hl hp.1 _ _ _ 0 0 rfl (by omega) rfl (by omega)).trans ?_
    simp only [List.drop_zero]
    split
    · rename_i he
      conv => lhs; whnf
      simp [he]
    · rename_i he
      conv => lhs; whnf
      simp [he]
theorem ok_eqIntS : FnOk Try.prog 35 K_eqIntS := by
  refine fn_ok (fn := Try.f35) (k := Try.f35.ntmps) (E := E_eqIntS) (facts_of (List.forall_mem_nil _)) (by kernel_rfl) rfl (by decide +kernel) (by decide +kernel) ?_
  intro avs hin r h
  unfold K_eqIntS at h
  split at h
  · obtain ⟨hp, rfl⟩ := gd_o h
    exact ⟨_, ev_eqIntS _ _ hp, rfl⟩
  · cases h

/- laws.eqRule -/
def K_eqRule : List AV → List Ob → Option (AV × List Ob)
  | [.agg [.int .i64 p, .int .i64 q], .agg [.int .i64 p', .int .i64 q']], [] => gd (True) (.bool (decide ((p, q) = (p', q'))), [])
  | _, _ => none
@[reducible] def E_eqRule : Env := mkE (tb []) (fun f => false) (fun r => ([], []))
theorem ev_eqRule (p q p' q' : Int) (hp : True) : evF E_eqRule (1) Try.f74 [.agg [.int .i64 p, .int .i64 q], .agg [.int .i64 p', .int .i64 q']] [] = some (.bool (decide ((p, q) = (p', q'))), []) := by
  conv => lhs; whnf
  refine br_c (fun h => ?_) (fun h => ?_)
  · conv => lhs; whnf
    simp at h
    simp [h]
  · conv => lhs; whnf
    refine br_c (fun h' => ?_) (fun h' => ?_)
    · conv => lhs; whnf
      simp at h h'
      simp [h']
    · conv => lhs; whnf
      simp at h h'
      simp [h, h']
theorem ok_eqRule : FnOk Try.prog 74 K_eqRule := by
  refine fn_ok (fn := Try.f74) (k := Try.f74.ntmps) (E := E_eqRule) (facts_of (List.forall_mem_nil _)) (by kernel_rfl) rfl (by decide +kernel) (by decide +kernel) ?_
  intro avs hin r h
  unfold K_eqRule at h
  split at h
  · obtain ⟨hp, rfl⟩ := gd_o h
    exact ⟨_, ev_eqRule _ _ _ _ hp, rfl⟩
  · cases h

/- laws.eqRuleS -/
def K_eqRuleS : List AV → List Ob → Option (AV × List Ob)
  | [.lst (.pair (.int .i64) (.int .i64)) a, .lst (.pair (.int .i64) (.int .i64)) b], [] => gd (a.length < 4611686018427387904 ∧ b.length < 4611686018427387904) (.bool (decide (a = b)), [])
  | _, _ => none
@[reducible] def E_eqRuleS : Env := mkE (tb [(74, K_eqRule)]) (fun f => false) (fun r => bif r == 4 then ([0, 1, 5], [4]) else ([], []))
theorem lp_eqRuleS (a b : List (Int × Int)) (hl : a.length = b.length) (ha : a.length < 4611686018427387904) (k : AX → S → Option (AV × List Ob)) (d : Nat) : ∀ (n i : Nat) (x : Int), a.length - i = d → i ≤ a.length → x = i → d < n →
    lpAt E_eqRuleS (lp E_eqRuleS 0 n) 0 (loopAt Try.f36 0) (mkS [0, 1, 5] [.lst (.pair (.int .i64) (.int .i64)) a, .lst (.pair (.int .i64) (.int .i64)) b, .int .i64 x] []) k =
      if a.drop i = b.drop i then k (.exit 0) (mkS [4] [.any] []) else k .ret (mkS [4] [.bool false] []) := by
  induction d with
  | zero =>
    intro n i x hd hi hx hn
    subst hx
    rw [lpAt_def]
    conv => lhs; whnf
    refine br_f (df (by omega)) ?_
    conv => lhs; whnf
    rw [if_pos (by rw [List.drop_of_length_le (by omega), List.drop_of_length_le (by omega)])]
  | succ d ih =>
    intro n i x hd hi hx hn
    obtain ⟨n, rfl⟩ : ∃ m, n = m + 1 := ⟨n - 1, by omega⟩
    subst hx
    rw [lpAt_def]
    conv => lhs; whnf
    refine br_t (dt (by omega)) ?_
    conv => lhs; whnf
    refine br_t (dt2 (by omega) (by omega)) ?_
    conv => lhs; whnf
    refine br_t (dt2 (by omega) (by omega)) ?_
    conv => lhs; whnf
    conv => lhs; arg 1; whnf
    refine bnd_g (by exact True.intro) ?_
    conv => lhs; whnf
    rw [getD_drop (l := a) (i := i) (d := (0, 0)) (by omega), getD_drop (l := b) (i := i) (d := (0, 0)) (by omega)]
    refine br_t (by kernel_rfl) ?_
    conv => lhs; whnf
    refine br_c (fun h => ?_) (fun h => ?_)
    · conv => lhs; whnf
      rw [if_neg]
      intro he
      exact ofnt h (List.cons.inj he).1
    · conv => lhs; whnf
      rw [ih n (i + 1) _ (by omega) (by omega) (by rw [wrap64 (by omega) (by omega)]; simp) (by omega)]
      have h : a.getD i (0, 0) = b.getD i (0, 0) := ofnf h
      rw [h]
      simp
theorem ev_eqRuleS (a b : List (Int × Int)) (hp : a.length < 4611686018427387904 ∧ b.length < 4611686018427387904) : evF E_eqRuleS (a.length + 2) Try.f36 [.lst (.pair (.int .i64) (.int .i64)) a, .lst (.pair (.int .i64) (.int .i64)) b] [] = some (.bool (decide (a = b)), []) := by
  conv => lhs; whnf
  refine br_c (fun h => ?_) (fun h => ?_)
  · conv => lhs; whnf
    have : a ≠ b := by
      rintro rfl
      simp at h
    simp [this]
  · conv => lhs; whnf
    have hl : a.length = b.length := by simp at h; omega
    refine (lp_eqRuleS a b hl hp.1 _ _ _ 0 0 rfl (by omega) rfl (by omega)).trans ?_
    simp only [List.drop_zero]
    split
    · rename_i he
      conv => lhs; whnf
      simp [he]
    · rename_i he
      conv => lhs; whnf
      simp [he]
theorem ok_eqRuleS : FnOk Try.prog 36 K_eqRuleS := by
  refine fn_ok (fn := Try.f36) (k := Try.f36.ntmps) (E := E_eqRuleS) (facts_of (List.forall_mem_cons.2 ⟨ok_eqRule, List.forall_mem_nil _⟩)) (by kernel_rfl) rfl (by decide +kernel) (by decide +kernel) ?_
  intro avs hin r h
  unfold K_eqRuleS at h
  split at h
  · obtain ⟨hp, rfl⟩ := gd_o h
    exact ⟨_, ev_eqRuleS _ _ hp, rfl⟩
  · cases h

/- laws.heldIntS -/
def K_heldIntS : List AV → List Ob → Option (AV × List Ob)
  | [.lst (.int .i64) a, .int .i64 q], [] => gd (a.length ≤ 16777216 ∧ 0 ≤ q ∧ q ≤ 1152921504606846976) (.int .i64 (held a q), [])
  | _, _ => none
@[reducible] def E_heldIntS : Env := mkE (tb []) (fun f => false) (fun r => bif r == 2 then ([0, 1, 5], [1, 4]) else ([], []))
theorem lp_heldIntS (a : List Int) (ha : a.length ≤ 16777216) (k : AX → S → Option (AV × List Ob)) (r : Option (AV × List Ob)) (hk : ∀ q, k .ret (mkS [1, 4] [.int .i64 q, .int .i64 (-1)] []) = r) (d : Nat) : ∀ (n i : Nat) (x q : Int), a.length - i = d → i ≤ a.length → 0 ≤ q → q ≤ 1152921504606846976 + i → x = i → d < n →
    lpAt E_heldIntS (lp E_heldIntS 0 n) 0 (loopAt Try.f39 0) (mkS [0, 1, 5] [.lst (.int .i64) a, .int .i64 q, .int .i64 x] []) k =
      if a.drop i = iotaI q d then k (.exit 0) (mkS [1, 4] [.int .i64 (q + d), .any] []) else r := by
  induction d with
  | zero =>
    intro n i x q hd hi hq hq' hx hn
    subst hx
    rw [lpAt_def]
    conv => lhs; whnf
    refine br_f (df (by omega)) ?_
    conv => lhs; whnf
    rw [if_pos (by rw [List.drop_of_length_le (by omega)]; rfl)]
    simp
  | succ d ih =>
    intro n i x q hd hi hq hq' hx hn
    obtain ⟨n, rfl⟩ : ∃ m, n = m + 1 := ⟨n - 1, by omega⟩
    subst hx
    rw [lpAt_def]
    conv => lhs; whnf
    refine br_t (dt (by omega)) ?_
    conv => lhs; whnf
    refine br_t (dt2 (by omega) (by omega)) ?_
    conv => lhs; whnf
    rw [getD_drop (l := a) (i := i) (d := 0) (by omega)]
    refine br_c (fun h => ?_) (fun h => ?_)
    · conv => lhs; whnf
      rw [if_neg]
      · exact hk _
      · intro he
        have := (List.cons.inj he).1
        simp at h
        exact h this
    · conv => lhs; whnf
      rw [wrap64 (n := q + 1) (by omega) (by omega)]
      rw [ih n (i + 1) _ (q + 1) (by omega) (by omega) (by omega) (by omega) (by rw [wrap64 (by omega) (by omega)]; simp) (by omega)]
      have e1 : q + 1 + (d : Int) = q + ((d + 1 : Nat) : Int) := by push_cast; omega
      rw [e1]
      simp at h
      simp [h, iotaI]
theorem ev_heldIntS (a : List Int) (q : Int) (hp : a.length ≤ 16777216 ∧ 0 ≤ q ∧ q ≤ 1152921504606846976) : evF E_heldIntS (a.length + 2) Try.f39 [.lst (.int .i64) a, .int .i64 q] [] = some (.int .i64 (held a q), []) := by
  conv => lhs; whnf
  refine (lp_heldIntS a hp.1 _ _ (fun _ => by conv => lhs; whnf; rfl) a.length _ 0 0 q rfl (by omega) hp.2.1 (by omega) rfl (by omega)).trans ?_
  simp only [List.drop_zero]
  unfold held
  split
  · rename_i he
    conv => lhs; whnf
  · rename_i he
    rfl
theorem ok_heldIntS : FnOk Try.prog 39 K_heldIntS := by
  refine fn_ok (fn := Try.f39) (k := Try.f39.ntmps) (E := E_heldIntS) (facts_of (List.forall_mem_nil _)) (by kernel_rfl) rfl (by decide +kernel) (by decide +kernel) ?_
  intro avs hin r h
  unfold K_heldIntS at h
  split at h
  · obtain ⟨hp, rfl⟩ := gd_o h
    exact ⟨_, ev_heldIntS _ _ hp, rfl⟩
  · cases h

def iotaR : Int → Nat → List (Int × Int)
  | _, 0 => []
  | k, n + 1 => (k, k + 1) :: iotaR (k + 2) n
@[simp] theorem iotaR_length : ∀ (n : Nat) (k : Int), (iotaR k n).length = n
  | 0, _ => rfl
  | n + 1, k => by simp [iotaR, iotaR_length n]
/- laws.markRuleS -/
def K_markRuleS : List AV → List Ob → Option (AV × List Ob)
  | [.own 0, .int .i64 q], [.row 68 (.pair (.int .i64) (.int .i64)) a] => gd (a.length ≤ 16777216 ∧ 0 ≤ q ∧ q ≤ 1152921504606846976) (.int .i64 (q + 2 * a.length), [.row 68 (.pair (.int .i64) (.int .i64)) (iotaR q a.length)])
  | _, _ => none
@[reducible] def E_markRuleS : Env := mkE (tb []) (fun f => false) (fun r => bif r == 2 then ([0, 1, 5], [1]) else ([], []))
theorem lp_markRuleS (k : AX → S → Option (AV × List Ob)) (d : Nat) : ∀ (n i : Nat) (x q : Int) (ys : List (Int × Int)), ys.length - i = d → i ≤ ys.length → ys.length ≤ 16777216 → 0 ≤ q → q ≤ 1152921504606846976 + 2 * i → x = i → d < n →
    lpAt E_markRuleS (lp E_markRuleS 1 n) 1 (loopAt Try.f37 0) (mkS [0, 1, 5] [.own 0, .int .i64 q, .int .i64 x] [some (.row 68 (.pair (.int .i64) (.int .i64)) ys)]) k =
      k (.exit 0) (mkS [1] [.int .i64 (q + 2 * d)] [some (.row 68 (.pair (.int .i64) (.int .i64)) (ys.take i ++ iotaR q d))]) := by
  induction d with
  | zero =>
    intro n i x q ys hd hi hl hq hq' hx hn
    subst hx
    rw [lpAt_def]
    conv => lhs; whnf
    refine br_f (df (by omega)) ?_
    conv => lhs; whnf
    simp only [iotaR, List.append_nil, List.take_of_length_le (show ys.length ≤ i by omega)]
    simp
  | succ d ih =>
    intro n i x q ys hd hi hl hq hq' hx hn
    obtain ⟨n, rfl⟩ : ∃ m, n = m + 1 := ⟨n - 1, by omega⟩
    subst hx
    rw [lpAt_def]
    conv => lhs; whnf
    refine br_t (dt (by omega)) ?_
    conv => lhs; whnf
    refine br_t (dt2 (by omega) (by omega)) ?_
    conv => lhs; whnf
    refine br_t (dt (by omega)) ?_
    conv => lhs; whnf
    rw [wrap64 (n := q + 1) (by omega) (by omega)]
    refine br_t (dt2 (by omega) (by simp; omega)) ?_
    conv => lhs; whnf
    refine br_t (dt (by simp; omega)) ?_
    conv => lhs; whnf
    rw [wrap64 (n := q + 1 + 1) (by omega) (by omega)]
    rw [ih n (i + 1) _ (q + 1 + 1) _ (by simp; omega) (by simp; omega) (by simp; omega) (by omega) (by omega) (by rw [wrap64 (by omega) (by omega)]; simp) (by omega)]
    simp only [Int.toNat_natCast]
    rw [take_set_succ (by simp; omega)]
    have e1 : q + 1 + 1 + 2 * (d : Int) = q + 2 * ((d + 1 : Nat) : Int) := by push_cast; omega
    have e2 : q + 1 + 1 = q + 2 := by omega
    rw [e1, e2]
    simp only [iotaR, List.set_set, getD_set_self (show i < ys.length by omega)]
    simp
    rw [List.take_set_of_le (by omega)]
theorem ev_markRuleS (a : List (Int × Int)) (q : Int) (hp : a.length ≤ 16777216 ∧ 0 ≤ q ∧ q ≤ 1152921504606846976) : evF E_markRuleS (a.length + 2) Try.f37 [.own 0, .int .i64 q] [.row 68 (.pair (.int .i64) (.int .i64)) a] = some (.int .i64 (q + 2 * a.length), [.row 68 (.pair (.int .i64) (.int .i64)) (iotaR q a.length)]) := by
  conv => lhs; whnf
  refine (lp_markRuleS _ a.length _ 0 0 q a rfl (by omega) hp.1 hp.2.1 (by omega) rfl (by omega)).trans ?_
  conv => lhs; whnf
  simp
theorem ok_markRuleS : FnOk Try.prog 37 K_markRuleS := by
  refine fn_ok (fn := Try.f37) (k := Try.f37.ntmps) (E := E_markRuleS) (facts_of (List.forall_mem_nil _)) (by kernel_rfl) rfl (by decide +kernel) (by decide +kernel) ?_
  intro avs hin r h
  unfold K_markRuleS at h
  split at h
  · obtain ⟨hp, rfl⟩ := gd_o h
    exact ⟨_, ev_markRuleS _ _ hp, rfl⟩
  · cases h

/- laws.markIntS -/
def K_markIntS : List AV → List Ob → Option (AV × List Ob)
  | [.own 0, .int .i64 q], [.row 3 (.int .i64) a] => gd (a.length ≤ 16777216 ∧ 0 ≤ q ∧ q ≤ 1152921504606846976) (.int .i64 (q + a.length), [.row 3 (.int .i64) (iotaI q a.length)])
  | _, _ => none
@[reducible] def E_markIntS : Env := mkE (tb []) (fun f => false) (fun r => bif r == 2 then ([0, 1, 5], [1]) else ([], []))
theorem lp_markIntS (k : AX → S → Option (AV × List Ob)) (d : Nat) : ∀ (n i : Nat) (x q : Int) (ys : List Int), ys.length - i = d → i ≤ ys.length → ys.length ≤ 16777216 → 0 ≤ q → q ≤ 1152921504606846976 + i → x = i → d < n →
    lpAt E_markIntS (lp E_markIntS 1 n) 1 (loopAt Try.f38 0) (mkS [0, 1, 5] [.own 0, .int .i64 q, .int .i64 x] [some (.row 3 (.int .i64) ys)]) k =
      k (.exit 0) (mkS [1] [.int .i64 (q + d)] [some (.row 3 (.int .i64) (ys.take i ++ iotaI q d))]) := by
  induction d with
  | zero =>
    intro n i x q ys hd hi hl hq hq' hx hn
    subst hx
    rw [lpAt_def]
    conv => lhs; whnf
    refine br_f (df (by omega)) ?_
    conv => lhs; whnf
    simp only [iotaI, List.append_nil, List.take_of_length_le (show ys.length ≤ i by omega)]
    simp
  | succ d ih =>
    intro n i x q ys hd hi hl hq hq' hx hn
    obtain ⟨n, rfl⟩ : ∃ m, n = m + 1 := ⟨n - 1, by omega⟩
    subst hx
    rw [lpAt_def]
    conv => lhs; whnf
    refine br_t (dt (by omega)) ?_
    conv => lhs; whnf
    refine br_t (dt2 (by omega) (by omega)) ?_
    conv => lhs; whnf
    refine br_t (dt (by omega)) ?_
    conv => lhs; whnf
    rw [wrap64 (n := q + 1) (by omega) (by omega)]
    rw [ih n (i + 1) _ (q + 1) _ (by simp; omega) (by simp; omega) (by simp; omega) (by omega) (by omega) (by rw [wrap64 (by omega) (by omega)]; simp) (by omega)]
    simp only [Int.toNat_natCast]
    rw [take_set_succ (by omega)]
    have e1 : q + 1 + (d : Int) = q + ((d + 1 : Nat) : Int) := by push_cast; omega
    rw [e1]
    simp [iotaI]
theorem ev_markIntS (a : List Int) (q : Int) (hp : a.length ≤ 16777216 ∧ 0 ≤ q ∧ q ≤ 1152921504606846976) : evF E_markIntS (a.length + 2) Try.f38 [.own 0, .int .i64 q] [.row 3 (.int .i64) a] = some (.int .i64 (q + a.length), [.row 3 (.int .i64) (iotaI q a.length)]) := by
  conv => lhs; whnf
  refine (lp_markIntS _ a.length _ 0 0 q a rfl (by omega) hp.1 hp.2.1 (by omega) rfl (by omega)).trans ?_
  conv => lhs; whnf
  simp
theorem ok_markIntS : FnOk Try.prog 38 K_markIntS := by
  refine fn_ok (fn := Try.f38) (k := Try.f38.ntmps) (E := E_markIntS) (facts_of (List.forall_mem_nil _)) (by kernel_rfl) rfl (by decide +kernel) (by decide +kernel) ?_
  intro avs hin r h
  unfold K_markIntS at h
  split at h
  · obtain ⟨hp, rfl⟩ := gd_o h
    exact ⟨_, ev_markIntS _ _ hp, rfl⟩
  · cases h

/- laws.FnExactBrokenRules -/
def K_lawBrokenRules : List AV → List Ob → Option (AV × List Ob)
  | [.lst (.pair (.int .i64) (.int .i64)) a, .int .i64 s], [] => gd (a.length ≤ maxLen) (.bool true, [])
  | _, _ => none
@[reducible] def E_lawBrokenRules : Env := mkE (tb [(31, K_szRuleS), (33, K_toRuleS), (32, K_specBrokenRules), (34, K_implBrokenRules), (35, K_eqIntS), (36, K_eqRuleS), (39, K_heldIntS), (37, K_markRuleS), (38, K_markIntS)]) (fun f => [37, 38].contains f) (fun r => ([], []))
theorem ev_lawBrokenRules (a : List (Int × Int)) (s : Int) (hp : a.length ≤ maxLen) : evF E_lawBrokenRules (1) Try.f7 [.lst (.pair (.int .i64) (.int .i64)) a, .int .i64 s] [] = some (.bool true, []) := by
  conv => lhs; whnf
  conv => lhs; arg 1; whnf
  refine bnd_g (by exact ⟨by omega, by omega, hp⟩) ?_
  conv => lhs; whnf
  refine br_c (fun h1 => ?_) (fun h1 => ?_)
  · conv => lhs; whnf
  · conv => lhs; whnf
    obtain ⟨e1, l1⟩ := szI_ok (ofn h1)
    have hb : (brk a s).length ≤ 1048576 := by
      have := idxs_length (fun r => !respOf r.1 r.2 s) a 0
      unfold brk
      omega
    conv => lhs; arg 1; whnf
    refine bnd_g (by omega) ?_
    conv => lhs; whnf
    conv => lhs; arg 1; whnf
    refine bnd_g (by omega) ?_
    conv => lhs; whnf
    conv => lhs; arg 1; whnf
    refine bnd_g (by omega) ?_
    conv => lhs; whnf
    conv => lhs; arg 1; whnf
    refine bnd_g (by omega) ?_
    conv => lhs; whnf
    conv => lhs; arg 1; whnf
    refine bnd_g (by exact ⟨by omega, by omega⟩) ?_
    conv => lhs; whnf
    repeat ((first | with_reducible apply br_tt | with_reducible apply br_ff | with_reducible refine br_d ?_ (by kernel_rfl)); conv => lhs; whnf)
    refine br_f (by simp) ?_
    conv => lhs; whnf
    conv => lhs; arg 1; whnf
    refine bnd_g (by omega) ?_
    conv => lhs; whnf
    conv => lhs; arg 1; whnf
    refine bnd_g (by exact ⟨by omega, by omega⟩) ?_
    conv => lhs; whnf
    repeat ((first | with_reducible apply br_tt | with_reducible apply br_ff | with_reducible refine br_d ?_ (by kernel_rfl)); conv => lhs; whnf)
    refine br_f (by simp) ?_
    conv => lhs; whnf
    conv => lhs; arg 1; whnf
    refine bnd_g (by exact ⟨by omega, by omega, by omega⟩) ?_
    conv => lhs; whnf
    have hk : decide ((1 : Int) + 2 * (a.length : Int) < 0) = false := df (by omega)
    repeat ((first | with_reducible apply br_tt | with_reducible apply br_ff | with_reducible refine br_d ?_ (by kernel_rfl) | with_reducible apply br_t hk | with_reducible apply br_f hk); conv => lhs; whnf)
    conv => lhs; arg 1; whnf
    refine bnd_g (by exact ⟨by omega, by omega⟩) ?_
    conv => lhs; whnf
    repeat ((first | with_reducible apply br_tt | with_reducible apply br_ff | with_reducible refine br_d ?_ (by kernel_rfl) | with_reducible apply br_t hk | with_reducible apply br_f hk); conv => lhs; whnf)
    refine br_f (by simp) ?_
    conv => lhs; whnf
    conv => lhs; arg 1; whnf
    refine bnd_g (by exact ⟨by omega, by omega, by omega⟩) ?_
    conv => lhs; whnf
    conv => lhs; arg 1; whnf
    refine bnd_g (by exact ⟨by simp; omega, by omega, by omega⟩) ?_
    conv => lhs; whnf
    refine br_f (by (apply decide_eq_false; rw [held_iota]; omega)) ?_
    conv => lhs; whnf
    refine br_f (by (rw [held_iota]; simp)) ?_
    conv => lhs; whnf
    conv => lhs; arg 1; whnf
    refine bnd_g (by omega) ?_
    conv => lhs; whnf
    conv => lhs; arg 1; whnf
    refine bnd_g (by omega) ?_
    conv => lhs; whnf
    conv => lhs; arg 1; whnf
    refine bnd_g (by exact ⟨by omega, by omega⟩) ?_
    conv => lhs; whnf
    repeat ((first | with_reducible apply br_tt | with_reducible apply br_ff | with_reducible refine br_d ?_ (by kernel_rfl)); conv => lhs; whnf)
    refine br_f (by simp) ?_
    conv => lhs; whnf
    conv => lhs; arg 1; whnf
    refine bnd_g (by exact ⟨by simp; omega, by omega, by omega⟩) ?_
    conv => lhs; whnf
    refine br_f (by (apply decide_eq_false; rw [held_iota]; omega)) ?_
    conv => lhs; whnf
    refine br_f (by (rw [held_iota]; simp)) ?_
    conv => lhs; whnf
theorem ok_lawBrokenRules : FnOk Try.prog 7 K_lawBrokenRules := by
  refine fn_ok (fn := Try.f7) (k := Try.f7.ntmps) (E := E_lawBrokenRules) (facts_of (List.forall_mem_cons.2 ⟨ok_szRuleS, List.forall_mem_cons.2 ⟨ok_toRuleS, List.forall_mem_cons.2 ⟨ok_specBrokenRules, List.forall_mem_cons.2 ⟨ok_implBrokenRules, List.forall_mem_cons.2 ⟨ok_eqIntS, List.forall_mem_cons.2 ⟨ok_eqRuleS, List.forall_mem_cons.2 ⟨ok_heldIntS, List.forall_mem_cons.2 ⟨ok_markRuleS, List.forall_mem_cons.2 ⟨ok_markIntS, List.forall_mem_nil _⟩⟩⟩⟩⟩⟩⟩⟩⟩)) (by kernel_rfl) rfl (by decide +kernel) (by decide +kernel) ?_
  intro avs hin r h
  unfold K_lawBrokenRules at h
  split at h
  · obtain ⟨hp, rfl⟩ := gd_o h
    exact ⟨_, ev_lawBrokenRules _ _ hp, rfl⟩
  · cases h

end Go.Sym
