/- Functions of the program, each told as a plain equation. -/
import Derived.Test.YtgipkopdifngpaaSymX
namespace Go.Sym
open Go.Proofs
set_option linter.unusedVariables false
set_option linter.unusedSimpArgs false
set_option maxRecDepth 100000
set_option maxHeartbeats 4000000

def szI (n left : Int) : Int := if left < n then -1 else left - n
theorem szI_ok {n left : Int} (h : ¬ szI n left < 0) : szI n left = left - n ∧ n ≤ left := by
  unfold szI at h ⊢
  split at h
  · omega
  · rename_i h5; exact ⟨if_neg h5, by omega⟩
def szL : List (List Int) → Int → Int
  | [], left => left
  | x :: r, left => if szI x.length left < 0 then -1 else szL r (szI x.length left)
def szSS (a : List (List Int)) (left : Int) : Int := if left < a.length then -1 else szL a (left - a.length)
theorem szL_ok : ∀ (a : List (List Int)) (left : Int), 0 ≤ left → ¬ szL a left < 0 → szL a left ≤ left ∧ ∀ x ∈ a, (x.length : Int) ≤ left
  | [], left, h, _ => ⟨by unfold szL; omega, fun x hx => by cases hx⟩
  | x :: r, left, h, hs => by
    unfold szL at hs ⊢
    split at hs
    · omega
    · rename_i h5
      obtain ⟨e1, l1⟩ := szI_ok h5
      rw [if_neg h5]
      obtain ⟨g1, g2⟩ := szL_ok r _ (by omega) hs
      refine ⟨by omega, fun y hy => ?_⟩
      rcases List.mem_cons.1 hy with rfl | hy
      · exact l1
      · have := g2 y hy
        omega
theorem szL_neg : ∀ (a : List (List Int)) (left : Int), 0 ≤ left → szL a left < 0 → szL a left = -1
  | [], left, h, hs => by unfold szL at hs; omega
  | x :: r, left, h, hs => by
    unfold szL at hs ⊢
    split at hs
    · rename_i h5; rw [if_pos h5]
    · rename_i h5
      rw [if_neg h5]
      exact szL_neg r _ (by omega) hs
theorem szSS_ok {a : List (List Int)} {left : Int} (h0 : 0 ≤ left) (h : ¬ szSS a left < 0) : 0 ≤ szSS a left ∧ szSS a left ≤ left ∧ (a.length : Int) ≤ left ∧ ∀ x ∈ a, (x.length : Int) ≤ left := by
  unfold szSS at h ⊢
  split at h
  · omega
  · rename_i h5
    rw [if_neg h5]
    obtain ⟨g1, g2⟩ := szL_ok a _ (by omega) h
    exact ⟨by omega, by omega, by omega, fun x hx => by have := g2 x hx; omega⟩
/- laws.szIntS -/
def K_szIntS : List AV → List Ob → Option (AV × List Ob)
  | [.lst (.int .i64) a, .int .i64 left], [] => gd (0 ≤ left ∧ left ≤ 1048576 ∧ a.length ≤ maxLen) (.int .i64 (szI a.length left), [])
  | _, _ => none
@[reducible] def E_szIntS : Env := mkE (tb []) (fun f => false) (fun r => ([], []))
theorem ev_szIntS (a : List Int) (left : Int) (hp : 0 ≤ left ∧ left ≤ 1048576 ∧ a.length ≤ maxLen) : evF E_szIntS (1) Try.f64 [.lst (.int .i64) a, .int .i64 left] [] = some (.int .i64 (szI a.length left), []) := by
  obtain ⟨h0, h1, h2⟩ := hp
  have hm := maxLen_eq
  have hw : IntKind.i64.wrap (left - a.length) = left - a.length := wrap64 (by omega) (by omega)
  conv => lhs; whnf
  refine br_c (fun h => ?_) (fun h => ?_)
  · conv => lhs; whnf
    have h := ofd h
    rw [hw] at h
    rw [szI, if_pos (by omega)]
  · conv => lhs; whnf
    have h := ofn h
    rw [hw] at h
    rw [szI, if_neg (by omega), hw]
theorem ok_szIntS : FnOk Try.prog 64 K_szIntS := by
  refine fn_ok (fn := Try.f64) (k := Try.f64.ntmps) (E := E_szIntS) (facts_of (List.forall_mem_nil _)) (by kernel_rfl) rfl (by decide +kernel) (by decide +kernel) ?_
  intro avs hin r h
  unfold K_szIntS at h
  split at h
  · obtain ⟨hp, rfl⟩ := gd_o h
    exact ⟨_, ev_szIntS _ _ hp, rfl⟩
  · cases h

/- laws.szIntSS -/
def K_szIntSS : List AV → List Ob → Option (AV × List Ob)
  | [.lst (.lst (.int .i64)) a, .int .i64 left], [] => gd ((0 ≤ left ∧ left ≤ 1048576) ∧ a.length ≤ maxLen ∧ ∀ x ∈ a, x.length ≤ maxLen) (.int .i64 (szSS a left), [])
  | _, _ => none
@[reducible] def E_szIntSS : Env := mkE (tb [(64, K_szIntS)]) (fun f => false) (fun r => bif r == 5 then ([0, 1, 5], [1, 4]) else ([], []))
theorem lp_szIntSS (a : List (List Int)) (ha : a.length ≤ 1048576) (hm : ∀ x ∈ a, x.length ≤ maxLen) (k : AX → S → Option (AV × List Ob)) (r : Option (AV × List Ob)) (hk : ∀ q, k .ret (mkS [1, 4] [.int .i64 q, .int .i64 (-1)] []) = r) (d : Nat) : ∀ (n i : Nat) (x q : Int), a.length - i = d → i ≤ a.length → x = i → d < n → 0 ≤ q → q ≤ 1048576 →
    lpAt E_szIntSS (lp E_szIntSS 0 n) 0 (loopAt Try.f21 0) (mkS [0, 1, 5] [.lst (.lst (.int .i64)) a, .int .i64 q, .int .i64 x] []) k =
      if szL (a.drop i) q < 0 then r else k (.exit 0) (mkS [1, 4] [.int .i64 (szL (a.drop i) q), .any] []) := by
  induction d with
  | zero =>
    intro n i x q hd hi hx hn h0 hq
    subst hx
    rw [lpAt_def]
    conv => lhs; whnf
    refine br_f (df (by omega)) ?_
    conv => lhs; whnf
    rw [List.drop_of_length_le (by omega), szL, if_neg (by omega)]
  | succ d ih =>
    intro n i x q hd hi hx hn h0 hq
    obtain ⟨n, rfl⟩ : ∃ m, n = m + 1 := ⟨n - 1, by omega⟩
    subst hx
    rw [lpAt_def]
    conv => lhs; whnf
    refine br_t (dt (by omega)) ?_
    conv => lhs; whnf
    refine br_t (dt2 (by omega) (by omega)) ?_
    conv => lhs; whnf
    conv => lhs; arg 1; whnf
    refine bnd_g (by exact ⟨h0, hq, hm _ (mem_getD (by omega))⟩) ?_
    conv => lhs; whnf
    rw [getD_drop (l := a) (i := i) (d := []) (by omega)]
    refine br_c (fun h => ?_) (fun h => ?_)
    · have h : szI (a.getD i []).length q < 0 := ofd h
      conv => lhs; whnf
      rw [szL, if_pos h, if_pos (by omega)]
      exact hk _
    · have h : ¬ szI (a.getD i []).length q < 0 := ofn h
      have e := szI_ok h
      conv => lhs; whnf
      rw [ih n (i + 1) _ _ (by omega) (by omega) (by rw [wrap64 (by omega) (by omega)]; simp) (by omega) (by change 0 ≤ szI (a.getD i []).length q; omega) (by change szI (a.getD i []).length q ≤ _; omega)]
      rw [szL, if_neg h]
      rfl
theorem ev_szIntSS (a : List (List Int)) (left : Int) (hp : (0 ≤ left ∧ left ≤ 1048576) ∧ a.length ≤ maxLen ∧ ∀ x ∈ a, x.length ≤ maxLen) : evF E_szIntSS (a.length + 2) Try.f21 [.lst (.lst (.int .i64)) a, .int .i64 left] [] = some (.int .i64 (szSS a left), []) := by
  obtain ⟨⟨h0, h1⟩, h2, h3⟩ := hp
  have hm := maxLen_eq
  have hw : IntKind.i64.wrap (left - a.length) = left - a.length := wrap64 (by omega) (by omega)
  conv => lhs; whnf
  refine br_c (fun h => ?_) (fun h => ?_)
  · conv => lhs; whnf
    have h := ofd h
    rw [hw] at h
    rw [szSS, if_pos (by omega)]
  · conv => lhs; whnf
    have h := ofn h
    rw [hw] at h ⊢
    refine (lp_szIntSS a (by omega) h3 _ _ (fun _ => rfl) a.length _ 0 0 _ rfl (by omega) rfl (by omega) (by omega) (by omega)).trans ?_
    rw [List.drop_zero]
    have e : szSS a left = szL a (left - a.length) := by unfold szSS; rw [if_neg (by omega)]
    rw [e]
    split
    · rename_i h5
      conv => lhs; whnf
      have : szL a (left - a.length) = -1 := szL_neg _ _ (by omega) h5
      rw [this]
    · conv => lhs; whnf
theorem ok_szIntSS : FnOk Try.prog 21 K_szIntSS := by
  refine fn_ok (fn := Try.f21) (k := Try.f21.ntmps) (E := E_szIntSS) (facts_of (List.forall_mem_cons.2 ⟨ok_szIntS, List.forall_mem_nil _⟩)) (by kernel_rfl) rfl (by decide +kernel) (by decide +kernel) ?_
  intro avs hin r h
  unfold K_szIntSS at h
  split at h
  · obtain ⟨hp, rfl⟩ := gd_o h
    exact ⟨_, ev_szIntSS _ _ hp, rfl⟩
  · cases h

/- laws.szPattern -/
def K_szPattern : List AV → List Ob → Option (AV × List Ob)
  | [.agg [.lst (.int .i64) a, .lst (.int .i64) b], .int .i64 left], [] => gd (0 ≤ left ∧ left ≤ 1048576 ∧ a.length ≤ maxLen ∧ b.length ≤ maxLen) (.int .i64 (szI (a.length + b.length) left), [])
  | _, _ => none
@[reducible] def E_szPattern : Env := mkE (tb [(64, K_szIntS)]) (fun f => false) (fun r => ([], []))
theorem ev_szPattern (a b : List Int) (left : Int) (hp : 0 ≤ left ∧ left ≤ 1048576 ∧ a.length ≤ maxLen ∧ b.length ≤ maxLen) : evF E_szPattern (1) Try.f16 [.agg [.lst (.int .i64) a, .lst (.int .i64) b], .int .i64 left] [] = some (.int .i64 (szI (a.length + b.length) left), []) := by
  obtain ⟨h0, h1, h2, h3⟩ := hp
  conv => lhs; whnf
  conv => lhs; arg 1; whnf
  refine bnd_g (by exact ⟨h0, h1, h2⟩) ?_
  conv => lhs; whnf
  refine br_c (fun h => ?_) (fun h => ?_)
  · conv => lhs; whnf
    have h := ofd h
    unfold szI at h ⊢
    split at h
    · rw [if_pos (by omega)]
    · omega
  · conv => lhs; whnf
    have h := ofn h
    have hs : szI a.length left = left - a.length ∧ (a.length : Int) ≤ left := by
      unfold szI at h ⊢
      split at h
      · omega
      · rename_i h5; exact ⟨if_neg h5, by omega⟩
    rw [hs.1]
    conv => lhs; arg 1; whnf
    refine bnd_g (by exact ⟨by omega, by omega, h3⟩) ?_
    conv => lhs; whnf
    refine br_c (fun h => ?_) (fun h => ?_)
    · conv => lhs; whnf
      have h := ofd h
      unfold szI at h ⊢
      split at h
      · rw [if_pos (by omega)]
      · omega
    · conv => lhs; whnf
      have h := ofn h
      unfold szI at h ⊢
      split at h
      · omega
      · rename_i h5
        rw [if_neg h5, if_neg (by omega)]
        congr 3
        omega
theorem ok_szPattern : FnOk Try.prog 16 K_szPattern := by
  refine fn_ok (fn := Try.f16) (k := Try.f16.ntmps) (E := E_szPattern) (facts_of (List.forall_mem_cons.2 ⟨ok_szIntS, List.forall_mem_nil _⟩)) (by kernel_rfl) rfl (by decide +kernel) (by decide +kernel) ?_
  intro avs hin r h
  unfold K_szPattern at h
  split at h
  · obtain ⟨hp, rfl⟩ := gd_o h
    exact ⟨_, ev_szPattern _ _ _ hp, rfl⟩
  · cases h

def iotaI : Int → Nat → List Int
  | _, 0 => []
  | k, n + 1 => k :: iotaI (k + 1) n
@[simp] theorem iotaI_length : ∀ (n : Nat) (k : Int), (iotaI k n).length = n
  | 0, _ => rfl
  | n + 1, k => by simp [iotaI, iotaI_length n]
def held (a : List Int) (k : Int) : Int := if a = iotaI k a.length then k + a.length else -1
theorem held_iota (k : Int) (n : Nat) : held (iotaI k n) k = k + n := by simp [held]
theorem take_set_succ {α : Type} {ys : List α} {i : Nat} {v : α} (h : i < ys.length) : (ys.set i v).take (i + 1) = ys.take i ++ [v] := by
  rw [List.take_succ_eq_append_getElem (by simpa using h), List.take_set_of_le (by omega)]
  simp
theorem getD_set_self {α : Type} {ys : List α} {i : Nat} {v d : α} (h : i < ys.length) : (ys.set i v).getD i d = v := by
  simp [List.getD, h]
/- laws.toIntS -/
def K_toIntS : List AV → List Ob → Option (AV × List Ob)
  | [.lst (.int .i64) a], [] => gd (a.length ≤ 1048576) (.own 0, [.row 3 (.int .i64) a])
  | _, _ => none
@[reducible] def E_toIntS : Env := mkE (tb []) (fun f => false) (fun r => bif r == 3 then ([0, 3, 4], [3]) else ([], []))
theorem lp_toIntS (a : List Int) (ha : a.length ≤ 1048576) (k : AX → S → Option (AV × List Ob)) (d : Nat) : ∀ (n i : Nat) (x : Int) (ys : List Int), a.length - i = d → i ≤ a.length → x = i → d < n → ys.length = a.length → ys.take i = a.take i →
    lpAt E_toIntS (lp E_toIntS 0 n) 0 (loopAt Try.f59 0) (mkS [0, 3, 4] [.lst (.int .i64) a, .own 0, .int .i64 x] [some (.row 3 (.int .i64) ys)]) k =
      k (.exit 0) (mkS [3] [.own 0] [some (.row 3 (.int .i64) a)]) := by
  induction d with
  | zero =>
    intro n i x ys hd hi hx hn hl ht
    subst hx
    rw [lpAt_def]
    conv => lhs; whnf
    refine br_f (df (by omega)) ?_
    conv => lhs; whnf
    have : ys = a := by rw [List.take_of_length_le (by omega), List.take_of_length_le (by omega)] at ht; exact ht
    rw [this]
  | succ d ih =>
    intro n i x ys hd hi hx hn hl ht
    obtain ⟨n, rfl⟩ : ∃ m, n = m + 1 := ⟨n - 1, by omega⟩
    subst hx
    rw [lpAt_def]
    conv => lhs; whnf
    refine br_t (dt (by omega)) ?_
    conv => lhs; whnf
    refine br_t (dt2 (by omega) (by omega)) ?_
    conv => lhs; whnf
    refine br_t (dt2 (by omega) (by omega)) ?_
    conv => lhs; whnf
    refine br_t (dt (by omega)) ?_
    conv => lhs; whnf
    refine ih n (i + 1) _ _ (by omega) (by omega) (by rw [wrap64 (by omega) (by omega)]; simp) (by omega) (by simp [hl]) ?_
    have hlt : i < a.length := by omega
    simp only [Int.toNat_natCast]
    rw [List.take_succ_eq_append_getElem (by simp; omega), List.take_succ_eq_append_getElem hlt, List.take_set_of_le (by omega), ht]
    simp [hlt]
theorem ev_toIntS (a : List Int) (hp : a.length ≤ 1048576) : evF E_toIntS (a.length + 2) Try.f59 [.lst (.int .i64) a] [] = some (.own 0, [.row 3 (.int .i64) a]) := by
  conv => lhs; whnf
  refine br_t (mk_ok (by dsimp only; omega)) ?_
  conv => lhs; whnf
  refine (lp_toIntS a hp _ _ _ 0 0 _ rfl (by omega) rfl (by omega) (by simp) (by simp)).trans ?_
  conv => lhs; whnf
theorem ok_toIntS : FnOk Try.prog 59 K_toIntS := by
  refine fn_ok (fn := Try.f59) (k := Try.f59.ntmps) (E := E_toIntS) (facts_of (List.forall_mem_nil _)) (by kernel_rfl) rfl (by decide +kernel) (by decide +kernel) ?_
  intro avs hin r h
  unfold K_toIntS at h
  split at h
  · obtain ⟨hp, rfl⟩ := gd_o h
    exact ⟨_, ev_toIntS _ hp, rfl⟩
  · cases h

/- laws.toIntS -/
def K_toIntSF : List AV → List Ob → Option (AV × List Ob)
  | [.lst (.int .i64) a], [] => gd (a.length ≤ 1048576) (.lst (.int .i64) a, [])
  | _, _ => none
theorem ok_toIntSF : FnOk Try.prog 59 K_toIntSF := by
  refine FnOk.le (FnOk.frz ok_toIntS) (fun avs hin p h => ?_)
  unfold K_toIntSF at h
  split at h
  · obtain ⟨hp, rfl⟩ := gd_o h
    refine Eq.trans (frz_s (K := K_toIntS) (p := ?p) ?hq) ?hr
    case hq => exact gd_s hp
    case hr => rfl
  · cases h

/- laws.toIntSS -/
def K_toIntSS : List AV → List Ob → Option (AV × List Ob)
  | [.lst (.lst (.int .i64)) a], [] => gd (a.length ≤ 1048576 ∧ ∀ x ∈ a, x.length ≤ 1048576) (.own 0, [.row 24 (.lst (.int .i64)) a])
  | _, _ => none
@[reducible] def E_toIntSS : Env := mkE (tb [(59, K_toIntSF)]) (fun f => false) (fun r => bif r == 3 then ([0, 3, 4], [3]) else ([], []))
theorem lp_toIntSS (a : List (List Int)) (ha : a.length ≤ 1048576) (hm : ∀ x ∈ a, x.length ≤ 1048576) (k : AX → S → Option (AV × List Ob)) (d : Nat) : ∀ (n i : Nat) (x : Int) (ys : List (List Int)), a.length - i = d → i ≤ a.length → x = i → d < n → ys.length = a.length →
    lpAt E_toIntSS (lp E_toIntSS 0 n) 0 (loopAt Try.f23 0) (mkS [0, 3, 4] [.lst (.lst (.int .i64)) a, .own 0, .int .i64 x] [some (.row 24 (.lst (.int .i64)) ys)]) k =
      k (.exit 0) (mkS [3] [.own 0] [some (.row 24 (.lst (.int .i64)) (ys.take i ++ a.drop i))]) := by
  induction d with
  | zero =>
    intro n i x ys hd hi hx hn hl
    subst hx
    rw [lpAt_def]
    conv => lhs; whnf
    refine br_f (df (by omega)) ?_
    conv => lhs; whnf
    rw [List.drop_of_length_le (by omega), List.append_nil, List.take_of_length_le (by omega)]
  | succ d ih =>
    intro n i x ys hd hi hx hn hl
    obtain ⟨n, rfl⟩ : ∃ m, n = m + 1 := ⟨n - 1, by omega⟩
    subst hx
    rw [lpAt_def]
    conv => lhs; whnf
    refine br_t (dt (by omega)) ?_
    conv => lhs; whnf
    refine br_t (dt2 (by omega) (by omega)) ?_
    conv => lhs; whnf
    conv => lhs; arg 1; whnf
    refine bnd_g (by exact hm _ (mem_getD (by omega))) ?_
    conv => lhs; whnf
    refine br_t (dt2 (by omega) (by omega)) ?_
    conv => lhs; whnf
    refine br_t (dt (by omega)) ?_
    conv => lhs; whnf
    refine (ih n (i + 1) _ _ (by omega) (by omega) (by rw [wrap64 (by omega) (by omega)]; simp) (by omega) (by simp [hl])).trans ?_
    simp only [Int.toNat_natCast]
    rw [take_set_succ (by omega), getD_drop (l := a) (i := i) (d := []) (by omega)]
    simp
theorem ev_toIntSS (a : List (List Int)) (hp : a.length ≤ 1048576 ∧ ∀ x ∈ a, x.length ≤ 1048576) : evF E_toIntSS (a.length + 2) Try.f23 [.lst (.lst (.int .i64)) a] [] = some (.own 0, [.row 24 (.lst (.int .i64)) a]) := by
  conv => lhs; whnf
  refine br_t (mk_ok (by dsimp only; omega)) ?_
  conv => lhs; whnf
  refine (lp_toIntSS a hp.1 hp.2 _ _ _ 0 0 _ rfl (by omega) rfl (by omega) (by simp)).trans ?_
  conv => lhs; whnf
  simp
theorem ok_toIntSS : FnOk Try.prog 23 K_toIntSS := by
  refine fn_ok (fn := Try.f23) (k := Try.f23.ntmps) (E := E_toIntSS) (facts_of (List.forall_mem_cons.2 ⟨ok_toIntSF, List.forall_mem_nil _⟩)) (by kernel_rfl) rfl (by decide +kernel) (by decide +kernel) ?_
  intro avs hin r h
  unfold K_toIntSS at h
  split at h
  · obtain ⟨hp, rfl⟩ := gd_o h
    exact ⟨_, ev_toIntSS _ hp, rfl⟩
  · cases h

/- laws.toPattern -/
def K_toPattern : List AV → List Ob → Option (AV × List Ob)
  | [.agg [.lst (.int .i64) a, .lst (.int .i64) b]], [] => gd (a.length ≤ 1048576 ∧ b.length ≤ 1048576) (.agg [.own 0, .own 1], [.row 3 (.int .i64) a, .row 3 (.int .i64) b])
  | _, _ => none
@[reducible] def E_toPattern : Env := mkE (tb [(59, K_toIntS)]) (fun f => false) (fun r => ([], []))
theorem ev_toPattern (a b : List Int) (hp : a.length ≤ 1048576 ∧ b.length ≤ 1048576) : evF E_toPattern (1) Try.f18 [.agg [.lst (.int .i64) a, .lst (.int .i64) b]] [] = some (.agg [.own 0, .own 1], [.row 3 (.int .i64) a, .row 3 (.int .i64) b]) := by
  conv => lhs; whnf
  conv => lhs; arg 1; whnf
  refine bnd_g (by exact hp.1) ?_
  conv => lhs; whnf
  conv => lhs; arg 1; whnf
  refine bnd_g (by exact hp.2) ?_
  conv => lhs; whnf
theorem ok_toPattern : FnOk Try.prog 18 K_toPattern := by
  refine fn_ok (fn := Try.f18) (k := Try.f18.ntmps) (E := E_toPattern) (facts_of (List.forall_mem_cons.2 ⟨ok_toIntS, List.forall_mem_nil _⟩)) (by kernel_rfl) rfl (by decide +kernel) (by decide +kernel) ?_
  intro avs hin r h
  unfold K_toPattern at h
  split at h
  · obtain ⟨hp, rfl⟩ := gd_o h
    exact ⟨_, ev_toPattern _ _ hp, rfl⟩
  · cases h

def isSet (n s : Int) : Bool := decide ((0 ≤ n ∧ n ≤ 8) ∧ (0 ≤ s ∧ s ≤ 2 ^ n.toNat - 1))
theorem shl_set {n : Int} (h0 : 0 ≤ n) (h8 : n ≤ 8) : IntKind.i64.wrap (IntKind.i64.wrap (1 * 2 ^ min n.toNat IntKind.i64.bits) - 1) = 2 ^ n.toNat - 1 := by
  have h : n = 0 ∨ n = 1 ∨ n = 2 ∨ n = 3 ∨ n = 4 ∨ n = 5 ∨ n = 6 ∨ n = 7 ∨ n = 8 := by omega
  rcases h with rfl | rfl | rfl | rfl | rfl | rfl | rfl | rfl | rfl <;> decide +kernel
theorem wrapu {n : Int} (h0 : 0 ≤ n) (h8 : n ≤ 8) : IntKind.u64.wrap n = n := by
  simp [IntKind.wrap, IntKind.bits, IntKind.signed]
  omega
theorem isSet8 (s : Int) : isSet 8 s = decide (0 ≤ s ∧ s ≤ 255) := by simp [isSet]
/-- The machine's and, and its and-not, on int. -/
def band (a b : Int) : Int := IntKind.i64.wrap (BitVec.ofInt IntKind.i64.bits a &&& BitVec.ofInt IntKind.i64.bits b).toNat
def bnot (a b : Int) : Int := IntKind.i64.wrap (BitVec.ofInt IntKind.i64.bits a &&& ~~~(BitVec.ofInt IntKind.i64.bits b)).toNat
def bor (a b : Int) : Int := IntKind.i64.wrap (BitVec.ofInt IntKind.i64.bits a ||| BitVec.ofInt IntKind.i64.bits b).toNat
theorem wrap_bv (x : BitVec 64) : IntKind.i64.wrap x.toNat = x.toInt := by
  simp [IntKind.wrap, IntKind.bits, IntKind.signed, BitVec.toInt]
  omega
theorem ofInt_toInt {a : Int} (h1 : -9223372036854775808 ≤ a) (h2 : a ≤ 9223372036854775807) : (BitVec.ofInt 64 a).toInt = a := by
  rw [BitVec.toInt_ofInt]
  simp [Int.bmod]
  omega
theorem bv_sub (x y : BitVec 64) : x &&& y = x ↔ x &&& ~~~y = 0#64 := by
  constructor
  · intro h
    apply BitVec.eq_of_getLsbD_eq
    intro i hi
    have h1 := congrArg (fun z => BitVec.getLsbD z i) h
    simp [hi] at h1 ⊢
    exact h1
  · intro h
    apply BitVec.eq_of_getLsbD_eq
    intro i hi
    have h1 := congrArg (fun z => BitVec.getLsbD z i) h
    simp [hi] at h1 ⊢
    exact h1
theorem sub_iff {a b : Int} (h1 : -9223372036854775808 ≤ a) (h2 : a ≤ 9223372036854775807) : band a b = a ↔ bnot a b = 0 := by
  unfold band bnot
  show IntKind.i64.wrap (BitVec.ofInt 64 a &&& BitVec.ofInt 64 b).toNat = a ↔ IntKind.i64.wrap (BitVec.ofInt 64 a &&& ~~~(BitVec.ofInt 64 b)).toNat = 0
  rw [wrap_bv, wrap_bv]
  conv => lhs; rhs; rw [← ofInt_toInt h1 h2]
  rw [BitVec.toInt_inj, ← BitVec.toInt_zero, BitVec.toInt_inj]
  exact bv_sub _ _
def badR (r : Int × Int) : Bool := !(isSet 8 r.1 && isSet 8 r.2)
def respOf (p q s : Int) : Bool := isSet 8 p && isSet 8 q && isSet 8 s && (!(bnot p s == 0) || bnot q s == 0)
theorem bne_bnot {p s : Int} (h : isSet 8 p = true) : (band p s != p) = !(bnot p s == 0) := by
  rw [isSet8] at h
  have h := of_decide_eq_true h
  have e := sub_iff (a := p) (b := s) (by omega) (by omega)
  simp only [bne]
  congr 1
  rw [Bool.eq_iff_iff, beq_iff_eq, beq_iff_eq, e]
theorem beq_bnot {p s : Int} (h : isSet 8 p = true) : (band p s == p) = (bnot p s == 0) := by
  have := bne_bnot (s := s) h
  simpa [bne] using this
def firstI {α : Type} (p : α → Bool) : List α → Int → Int
  | [], _ => -1
  | x :: r, i => bif p x then i else firstI p r (i + 1)
theorem firstI_iff {α : Type} (p : α → Bool) : ∀ (l : List α) (i : Int), 0 ≤ i → (decide (firstI p l i ≥ 0)) = l.any p
  | [], i, h => by simp [firstI]
  | x :: r, i, h => by
    cases hx : p x
    · simp only [firstI, hx, cond_false, List.any_cons, Bool.false_or]
      exact firstI_iff p r (i + 1) (by omega)
    · simp [firstI, hx]
      omega
theorem firstI_none {α : Type} (p : α → Bool) : ∀ (l : List α) (i : Int), l.any p = false → firstI p l i = -1
  | [], i, h => rfl
  | x :: r, i, h => by
    simp only [List.any_cons, Bool.or_eq_false_iff] at h
    simp only [firstI, h.1, cond_false]
    exact firstI_none p r (i + 1) h.2
def idxs {α : Type} (p : α → Bool) : List α → Int → List Int
  | [], _ => []
  | x :: r, i => bif p x then i :: idxs p r (i + 1) else idxs p r (i + 1)
def brk (a : List (Int × Int)) (s : Int) : List Int := idxs (fun r => !respOf r.1 r.2 s) a 0
theorem idxs_length {α : Type} (p : α → Bool) : ∀ (l : List α) (i : Int), (idxs p l i).length ≤ l.length
  | [], i => by simp [idxs]
  | x :: r, i => by
    have := idxs_length p r (i + 1)
    cases hx : p x <;> simp [idxs, hx] <;> omega
def okNum (n : Int) : Bool := decide (0 ≤ n ∧ n ≤ 9)
def badNum (n : Int) : Bool := !okNum n
def okPt (w : Nat) (x : List Int) : Bool := decide (x.length = w) && x.all okNum
def arePts (a : List (List Int)) : Bool := decide (1 ≤ a.length ∧ a.length ≤ 8) && (decide ((a.getD 0 []).length ≤ 3) && a.all (okPt (a.getD 0 []).length))
def badPt (a : List (List Int)) (x : List Int) : Bool := decide (x.length ≠ (a.getD 0 []).length) || decide (3 < x.length) || x.any badNum
theorem arePts_parts {a : List (List Int)} (h : arePts a = true) : (1 ≤ a.length ∧ a.length ≤ 8) ∧ (a.getD 0 []).length ≤ 3 ∧ ∀ x ∈ a, x.length = (a.getD 0 []).length := by
  unfold arePts at h
  simp only [Bool.and_eq_true, decide_eq_true_eq, List.all_eq_true] at h
  refine ⟨h.1, h.2.1, fun x hx => ?_⟩
  have := h.2.2 x hx
  unfold okPt at this
  simp only [Bool.and_eq_true, decide_eq_true_eq] at this
  exact this.1
theorem any_badPt {a : List (List Int)} (h : 1 ≤ a.length) : a.any (badPt a) = !(decide ((a.getD 0 []).length ≤ 3) && a.all (okPt (a.getD 0 []).length)) := by
  suffices hs : (!a.any (badPt a)) = (decide ((a.getD 0 []).length ≤ 3) && a.all (okPt (a.getD 0 []).length)) by rw [← hs, Bool.not_not]
  rw [Bool.eq_iff_iff]
  simp only [Bool.not_eq_true', List.any_eq_false, Bool.and_eq_true, List.all_eq_true, decide_eq_true_eq]
  constructor
  · intro g
    have g0 := g _ (mem_getD (d := []) (show 0 < a.length by omega))
    unfold badPt at g0
    simp only [Bool.or_eq_true, decide_eq_true_eq, not_or] at g0
    refine ⟨by omega, fun x hx => ?_⟩
    have g1 := g x hx
    unfold badPt at g1
    simp only [Bool.or_eq_true, decide_eq_true_eq, not_or] at g1
    unfold okPt
    rw [dt (by omega), Bool.true_and, List.all_eq_true]
    intro n hn
    have g2 := g1.2
    rw [Bool.not_eq_true, List.any_eq_false] at g2
    have := g2 n hn
    unfold badNum at this
    simpa using this
  · rintro ⟨g1, g2⟩ x hx
    have g3 := g2 x hx
    unfold okPt at g3
    simp only [Bool.and_eq_true, decide_eq_true_eq, List.all_eq_true] at g3
    unfold badPt
    simp only [Bool.or_eq_true, decide_eq_true_eq, not_or]
    refine ⟨⟨by omega, by omega⟩, ?_⟩
    rw [Bool.not_eq_true, List.any_eq_false]
    intro n hn
    unfold badNum
    simp [g3.2 n hn]
theorem shl1 {i : Nat} (h : i ≤ 8) : IntKind.i64.wrap (1 * 2 ^ min (i : Int).toNat IntKind.i64.bits) = ((2 ^ i : Nat) : Int) := by
  have h : i = 0 ∨ i = 1 ∨ i = 2 ∨ i = 3 ∨ i = 4 ∨ i = 5 ∨ i = 6 ∨ i = 7 ∨ i = 8 := by omega
  rcases h with rfl | rfl | rfl | rfl | rfl | rfl | rfl | rfl | rfl <;> decide
theorem shl1u {i : Nat} (h : i ≤ 8) : IntKind.i64.wrap (1 * 2 ^ min (IntKind.u64.wrap (i : Int)).toNat IntKind.i64.bits) = ((2 ^ i : Nat) : Int) := by
  rw [wrapu (by omega) (by omega)]
  exact shl1 h
def orF (p : Int → Bool) : Nat → Nat → Int → Int
  | 0, _, acc => acc
  | d + 1, i, acc => orF p d (i + 1) (bif p i then bor acc ((2 ^ i : Nat) : Int) else acc)
theorem orF_ext {p q : Int → Bool} : ∀ (d i : Nat) (acc : Int), (∀ j : Nat, i ≤ j → j < i + d → p j = q j) → orF p d i acc = orF q d i acc
  | 0, _, _, _ => rfl
  | d + 1, i, acc, h => by
    rw [orF, orF, h i (by omega) (by omega), orF_ext d (i + 1) _ (fun j h1 h2 => h j (by omega) (by omega))]
/-- f holds of i, .., i + d - 1. -/
def allB (f : Nat → Bool) : Nat → Nat → Bool
  | 0, _ => true
  | d + 1, i => f i && allB f d (i + 1)
theorem allB_iff (f : Nat → Bool) : ∀ (d i : Nat), allB f d i = true ↔ ∀ j, i ≤ j → j < i + d → f j = true
  | 0, i => by simp only [allB, true_iff]; intro j h1 h2; omega
  | d + 1, i => by
    rw [allB, Bool.and_eq_true, allB_iff f d (i + 1)]
    constructor
    · rintro ⟨h1, h2⟩ j h3 h4
      by_cases h : j = i
      · rw [h]; exact h1
      · exact h2 j (by omega) (by omega)
    · intro h
      exact ⟨h i (by omega) (by omega), fun j h1 h2 => h j (by omega) (by omega)⟩
def fitAt (y lo hi : List Int) (j : Nat) : Bool := decide (lo.getD j 0 ≤ y.getD j 0 ∧ y.getD j 0 ≤ hi.getD j 0)
def fits (y lo hi : List Int) : Bool := allB (fitAt y lo hi) y.length 0
def fitP (a : List (List Int)) (lo hi : List Int) (g : Int) : Bool := fits (a.getD g.toNat []) lo hi
def fitF (a : List (List Int)) (lo hi : List Int) : Int :=
  bif arePts a && decide (lo.length = (a.getD 0 []).length) && decide (hi.length = (a.getD 0 []).length) then orF (fitP a lo hi) a.length 0 0 else 0
/- spec.l1In -/
def K_l1In : List AV → List Ob → Option (AV × List Ob)
  | [.int .i64 n, .int .i64 l, .int .i64 h], [] => gd (True) (.bool (decide (l ≤ n ∧ n ≤ h)), [])
  | _, _ => none
@[reducible] def E_l1In : Env := mkE (tb []) (fun f => false) (fun r => ([], []))
theorem ev_l1In (n l h : Int) (hp : True) : evF E_l1In (1) Try.f65 [.int .i64 n, .int .i64 l, .int .i64 h] [] = some (.bool (decide (l ≤ n ∧ n ≤ h)), []) := by
  conv => lhs; whnf
  refine br_c (fun h1 => ?_) (fun h1 => ?_)
  · conv => lhs; whnf
    repeat ((first | with_reducible apply br_tt | with_reducible apply br_ff | with_reducible apply br_nf | with_reducible apply br_nt | with_reducible refine br_d ?_ (by kernel_rfl) | with_reducible apply br_t h1 | with_reducible apply br_f h1); conv => lhs; whnf)
    have := ofd h1
    simp [this]
  · conv => lhs; whnf
    repeat ((first | with_reducible apply br_tt | with_reducible apply br_ff | with_reducible apply br_nf | with_reducible apply br_nt | with_reducible refine br_d ?_ (by kernel_rfl) | with_reducible apply br_t h1 | with_reducible apply br_f h1); conv => lhs; whnf)
    have := ofn h1
    simp [this]
theorem ok_l1In : FnOk Try.prog 65 K_l1In := by
  refine fn_ok (fn := Try.f65) (k := Try.f65.ntmps) (E := E_l1In) (facts_of (List.forall_mem_nil _)) (by kernel_rfl) rfl (by decide +kernel) (by decide +kernel) ?_
  intro avs hin r h
  unfold K_l1In at h
  split at h
  · obtain ⟨hp, rfl⟩ := gd_o h
    exact ⟨_, ev_l1In _ _ _ hp, rfl⟩
  · cases h

/- spec.ArePoints -/
def K_specArePoints : List AV → List Ob → Option (AV × List Ob)
  | [.lst (.lst (.int .i64)) a], [] => gd (a.length ≤ 1048576 ∧ ∀ x ∈ a, x.length ≤ 1048576) (.bool (arePts a), [])
  | _, _ => none
@[reducible] def E_specArePoints : Env := mkE (tb [(65, K_l1In)]) (fun f => false) (fun r => bif r == 2 then ([0, 3], [0, 2, 3]) else bif r == 7 then ([0, 3, 4], [0, 2, 3]) else ([], []))
theorem lq_specArePoints (a : List (List Int)) (g : Nat) (hg : g < a.length) (y : List Int) (hy : a.getD g [] = y) (hl : y.length ≤ 1048576) (k : AX → S → Option (AV × List Ob)) (r : Option (AV × List Ob)) (hk : k .ret (mkS [0, 2, 3] [.lst (.lst (.int .i64)) a, .bool false, .int .i64 (g : Int)] []) = r) (d : Nat) : ∀ (n i : Nat) (x : Int), y.length - i = d → i ≤ y.length → x = i → d < n →
    lpAt E_specArePoints (lp E_specArePoints 0 n) 0 (loopAt Try.f22 1) (mkS [0, 3, 4] [.lst (.lst (.int .i64)) a, .int .i64 (g : Int), .int .i64 x] []) k =
      if (y.drop i).all okNum then k (.exit 2) (mkS [0, 2, 3] [.lst (.lst (.int .i64)) a, .any, .int .i64 (g : Int)] []) else r := by
  subst hy
  induction d with
  | zero =>
    intro n i x hd hi hx hn
    subst hx
    rw [lpAt_def]
    conv => lhs; whnf
    refine br_t (dt2 (by omega) (by omega)) ?_
    conv => lhs; whnf
    refine br_f (df (by change ¬ ((i : Int) < ((a.getD g []).length : Int)); omega)) ?_
    conv => lhs; whnf
    rw [List.drop_of_length_le (by omega), if_pos (by rfl)]
  | succ d ih =>
    intro n i x hd hi hx hn
    obtain ⟨n, rfl⟩ : ∃ m, n = m + 1 := ⟨n - 1, by omega⟩
    subst hx
    rw [lpAt_def]
    conv => lhs; whnf
    refine br_t (dt2 (by omega) (by omega)) ?_
    conv => lhs; whnf
    refine br_t (dt (by change ((i : Int) < ((a.getD g []).length : Int)); omega)) ?_
    conv => lhs; whnf
    refine br_t (dt2 (by omega) (by omega)) ?_
    conv => lhs; whnf
    refine br_t (dt2 (by omega) (by change ((i : Int) < ((a.getD g []).length : Int)); omega)) ?_
    conv => lhs; whnf
    conv => lhs; arg 1; whnf
    refine bnd_g (by exact True.intro) ?_
    conv => lhs; whnf
    rw [getD_drop (l := a.getD g []) (i := i) (d := 0) (by omega)]
    refine br_c (fun h => ?_) (fun h => ?_)
    · have h' : okNum ((a.getD g []).getD i 0) = false := bnt h
      conv => lhs; whnf
      rw [if_neg (by rw [List.all_cons, h', Bool.false_and]; exact Bool.false_ne_true)]
      exact hk
    · have h' : okNum ((a.getD g []).getD i 0) = true := bnf h
      conv => lhs; whnf
      rw [ih n (i + 1) _ (by omega) (by omega) (by rw [wrap64 (by omega) (by omega)]; simp) (by omega)]
      rw [List.all_cons, h', Bool.true_and]

theorem lp_specArePoints (a : List (List Int)) (ha : a.length ≤ 1048576) (hm : ∀ x ∈ a, x.length ≤ 1048576) (k : AX → S → Option (AV × List Ob)) (r : Option (AV × List Ob)) (hk : ∀ g : Int, k .ret (mkS [0, 2, 3] [.lst (.lst (.int .i64)) a, .bool false, .int .i64 g] []) = r) (d : Nat) : ∀ (n i : Nat) (x : Int), a.length - i = d → i ≤ a.length → x = i → d + 1048580 < n →
    lpAt E_specArePoints (lp E_specArePoints 0 n) 0 (loopAt Try.f22 0) (mkS [0, 3] [.lst (.lst (.int .i64)) a, .int .i64 x] []) k =
      if (a.drop i).all (okPt (a.getD 0 []).length) then k (.exit 0) (mkS [0, 2, 3] [.lst (.lst (.int .i64)) a, .any, .int .i64 (a.length : Int)] []) else r := by
  induction d with
  | zero =>
    intro n i x hd hi hx hn
    subst hx
    rw [lpAt_def]
    conv => lhs; whnf
    refine br_f (df (by omega)) ?_
    conv => lhs; whnf
    have : i = a.length := by omega
    rw [List.drop_of_length_le (by omega), if_pos (by rfl), this]
  | succ d ih =>
    intro n i x hd hi hx hn
    obtain ⟨n, rfl⟩ : ∃ m, n = m + 1 := ⟨n - 1, by omega⟩
    subst hx
    have hl := hm _ (mem_getD (d := []) (show i < a.length by omega))
    rw [lpAt_def]
    conv => lhs; whnf
    refine br_t (dt (by omega)) ?_
    conv => lhs; whnf
    refine br_t (dt2 (by omega) (by omega)) ?_
    conv => lhs; whnf
    refine br_t (dt2 (by omega) (by change (0 : Int) < (a.length : Int); omega)) ?_
    conv => lhs; whnf
    refine br_t (by kernel_rfl) ?_
    conv => lhs; whnf
    rw [getD_drop (l := a) (i := i) (d := []) (by omega)]
    refine br_c (fun h => ?_) (fun h => ?_)
    · have h' : ¬ (a.getD i []).length = (a.getD 0 []).length := by
        intro e
        have h2 : (((a.getD i []).length : Int) != ((a.getD 0 []).length : Int)) = true := h
        rw [e] at h2
        simp at h2
      conv => lhs; whnf
      rw [if_neg (by rw [List.all_cons]; unfold okPt; rw [df h']; exact Bool.false_ne_true)]
      exact hk _
    · have h' : (a.getD i []).length = (a.getD 0 []).length := by
        have h2 : (((a.getD i []).length : Int) != ((a.getD 0 []).length : Int)) = false := h
        simp only [bne_eq_false_iff_eq] at h2
        omega
      conv => lhs; whnf
      refine (lq_specArePoints a i (by omega) _ rfl hl _ _ rfl (a.getD i []).length _ 0 0 rfl (by omega) rfl (by omega)).trans ?_
      rw [List.drop_zero]
      split
      · rename_i h2
        conv => lhs; whnf
        rw [ih n (i + 1) _ (by omega) (by omega) (by rw [wrap64 (by omega) (by omega)]; simp) (by omega)]
        have e : okPt (a.getD 0 []).length (a.getD i []) = true := by
          unfold okPt
          rw [dt h', h2]
          rfl
        rw [List.all_cons, e, Bool.true_and]
      · rename_i h2
        conv => lhs; whnf
        have e : okPt (a.getD 0 []).length (a.getD i []) = false := by
          unfold okPt
          rw [Bool.not_eq_true] at h2
          rw [h2, Bool.and_false]
        rw [if_neg (by rw [List.all_cons, e]; exact Bool.false_ne_true)]
        exact hk _
theorem ev_specArePoints (a : List (List Int)) (hp : a.length ≤ 1048576 ∧ ∀ x ∈ a, x.length ≤ 1048576) : evF E_specArePoints (4000000) Try.f22 [.lst (.lst (.int .i64)) a] [] = some (.bool (arePts a), []) := by
  conv => lhs; whnf
  refine (lp_specArePoints a hp.1 hp.2 _ _ (fun _ => rfl) a.length _ 0 0 rfl (by omega) rfl (by have := hp.1; change a.length + 1048580 < 3999999; omega)).trans ?_
  rw [List.drop_zero]
  split
  · rename_i h2
    conv => lhs; whnf
    conv => lhs; arg 1; whnf
    refine bnd_g (by exact True.intro) ?_
    conv => lhs; whnf
    refine br_c (fun h => ?_) (fun h => ?_)
    · have h' := ofd h
      conv => lhs; whnf
      repeat ((first | with_reducible apply br_tt | with_reducible apply br_ff | with_reducible apply br_nf | with_reducible apply br_nt | with_reducible refine br_d ?_ (by kernel_rfl) | with_reducible apply br_t h | with_reducible apply br_f h); conv => lhs; whnf)
      refine br_t (dt2 (by omega) (by change (0 : Int) < (a.length : Int); omega)) ?_
      conv => lhs; whnf
      repeat ((first | with_reducible apply br_tt | with_reducible apply br_ff | with_reducible apply br_nf | with_reducible apply br_nt | with_reducible refine br_d ?_ (by kernel_rfl) | with_reducible apply br_t h | with_reducible apply br_f h); conv => lhs; whnf)
      refine okB ?_
      unfold arePts
      rw [h2, show decide (1 ≤ a.length ∧ a.length ≤ 8) = true from dt (by omega), Bool.true_and, Bool.and_true]
      exact decide_eq_decide.2 (by change ((a.getD 0 []).length : Int) ≤ 3 ↔ _; omega)
    · have h' := ofn h
      conv => lhs; whnf
      repeat ((first | with_reducible apply br_tt | with_reducible apply br_ff | with_reducible apply br_nf | with_reducible apply br_nt | with_reducible refine br_d ?_ (by kernel_rfl) | with_reducible apply br_t h | with_reducible apply br_f h); conv => lhs; whnf)
      refine okB ?_
      unfold arePts
      rw [df (by omega), Bool.false_and]
  · rename_i h2
    conv => lhs; whnf
    refine okB ?_
    unfold arePts
    rw [Bool.not_eq_true] at h2
    rw [h2, Bool.and_false, Bool.and_false]
theorem ok_specArePoints : FnOk Try.prog 22 K_specArePoints := by
  refine fn_ok (fn := Try.f22) (k := Try.f22.ntmps) (E := E_specArePoints) (facts_of (List.forall_mem_cons.2 ⟨ok_l1In, List.forall_mem_nil _⟩)) (by kernel_rfl) rfl (by decide +kernel) (by decide +kernel) ?_
  intro avs hin r h
  unfold K_specArePoints at h
  split at h
  · obtain ⟨hp, rfl⟩ := gd_o h
    exact ⟨_, ev_specArePoints _ hp, rfl⟩
  · cases h

/- spec.FittingPoints -/
def K_specFittingPoints : List AV → List Ob → Option (AV × List Ob)
  | [.lst (.lst (.int .i64)) a, .agg [.lst (.int .i64) lo, .lst (.int .i64) hi]], [] => gd ((a.length ≤ 1048576 ∧ ∀ x ∈ a, x.length ≤ 1048576) ∧ (lo.length ≤ 1048576 ∧ hi.length ≤ 1048576)) (.int .i64 (fitF a lo hi), [])
  | _, _ => none
@[reducible] def E_specFittingPoints : Env := mkE (tb [(22, K_specArePoints), (65, K_l1In)]) (fun f => false) (fun r => bif r == 5 then ([0, 3, 5, 6], [0, 3, 5, 6, 7]) else bif r == 9 then ([0, 3, 5, 6, 7, 8], [0, 3, 5, 6, 7]) else ([], []))
theorem lq_specFittingPoints (a : List (List Int)) (lo hi : List Int) (g : Nat) (hg : g < a.length) (y : List Int) (hy : a.getD g [] = y) (hl : lo.length = y.length) (hh : hi.length = y.length) (h3 : y.length ≤ 3) (q : Int) (k : AX → S → Option (AV × List Ob)) (d : Nat) : ∀ (n i : Nat) (x : Int) (f : Bool), y.length - i = d → i ≤ y.length → x = i → d < n →
    lpAt E_specFittingPoints (lp E_specFittingPoints 0 n) 0 (loopAt Try.f50 1) (mkS [0, 3, 5, 6, 7, 8] [.lst (.lst (.int .i64)) a, .ptr 0 0, .int .i64 q, .int .i64 (g : Int), .bool f, .int .i64 x] [some (.box 29 [.lst (.int .i64) lo, .lst (.int .i64) hi])]) k =
      k (.exit 2) (mkS [0, 3, 5, 6, 7] [.lst (.lst (.int .i64)) a, .ptr 0 0, .int .i64 q, .int .i64 (g : Int), .bool (f && allB (fitAt y lo hi) d i)] [some (.box 29 [.lst (.int .i64) lo, .lst (.int .i64) hi])]) := by
  subst hy
  induction d with
  | zero =>
    intro n i x f hd hi' hx hn
    subst hx
    rw [lpAt_def]
    conv => lhs; whnf
    refine br_t (dt2 (by omega) (by omega)) ?_
    conv => lhs; whnf
    refine br_f (df (by change ¬ ((i : Int) < ((a.getD g []).length : Int)); omega)) ?_
    conv => lhs; whnf
    rw [allB, Bool.and_true]
  | succ d ih =>
    intro n i x f hd hi' hx hn
    obtain ⟨n, rfl⟩ : ∃ m, n = m + 1 := ⟨n - 1, by omega⟩
    subst hx
    rw [lpAt_def]
    conv => lhs; whnf
    refine br_t (dt2 (by omega) (by omega)) ?_
    conv => lhs; whnf
    refine br_t (dt (by change ((i : Int) < ((a.getD g []).length : Int)); omega)) ?_
    conv => lhs; whnf
    refine br_c (fun h => ?_) (fun h => ?_)
    · conv => lhs; whnf
      repeat ((first | with_reducible apply br_tt | with_reducible apply br_ff | with_reducible apply br_nf | with_reducible apply br_nt | with_reducible refine br_d ?_ (by kernel_rfl) | with_reducible apply br_t h | with_reducible apply br_f h | with_reducible refine br_t (dt2 (by omega) (by omega)) ?_); conv => lhs; whnf)
      refine br_t (dt2 (by omega) (by change ((i : Int) < ((a.getD g []).length : Int)); omega)) ?_
      conv => lhs; whnf
      repeat ((first | with_reducible apply br_tt | with_reducible apply br_ff | with_reducible apply br_nf | with_reducible apply br_nt | with_reducible refine br_d ?_ (by kernel_rfl) | with_reducible apply br_t h | with_reducible apply br_f h | with_reducible refine br_t (dt2 (by omega) (by omega)) ?_); conv => lhs; whnf)
      conv => lhs; arg 1; whnf
      refine bnd_g (by exact True.intro) ?_
      conv => lhs; whnf
      repeat ((first | with_reducible apply br_tt | with_reducible apply br_ff | with_reducible apply br_nf | with_reducible apply br_nt | with_reducible refine br_d ?_ (by kernel_rfl) | with_reducible apply br_t h | with_reducible apply br_f h | with_reducible refine br_t (dt2 (by omega) (by omega)) ?_); conv => lhs; whnf)
      rw [ih n (i + 1) _ _ (by omega) (by omega) (by rw [wrap64 (by omega) (by omega)]; simp) (by omega)]
      rw [h, allB, Bool.true_and]
      rfl
    · conv => lhs; whnf
      repeat ((first | with_reducible apply br_tt | with_reducible apply br_ff | with_reducible apply br_nf | with_reducible apply br_nt | with_reducible refine br_d ?_ (by kernel_rfl) | with_reducible apply br_t h | with_reducible apply br_f h | with_reducible refine br_t (dt2 (by omega) (by omega)) ?_); conv => lhs; whnf)
      rw [ih n (i + 1) _ _ (by omega) (by omega) (by rw [wrap64 (by omega) (by omega)]; simp) (by omega)]
      simp only [h, Bool.false_and]

theorem lp_specFittingPoints (a : List (List Int)) (lo hi : List Int) (h8 : a.length ≤ 8) (hw : ∀ x ∈ a, x.length = (a.getD 0 []).length) (hl : lo.length = (a.getD 0 []).length) (hh : hi.length = (a.getD 0 []).length) (h3 : (a.getD 0 []).length ≤ 3) (k : AX → S → Option (AV × List Ob)) (d : Nat) : ∀ (n i : Nat) (x q : Int), a.length - i = d → i ≤ a.length → x = i → d + 10 < n →
    lpAt E_specFittingPoints (lp E_specFittingPoints 0 n) 0 (loopAt Try.f50 0) (mkS [0, 3, 5, 6] [.lst (.lst (.int .i64)) a, .ptr 0 0, .int .i64 q, .int .i64 x] [some (.box 29 [.lst (.int .i64) lo, .lst (.int .i64) hi])]) k =
      k (.exit 0) (mkS [0, 3, 5, 6, 7] [.lst (.lst (.int .i64)) a, .ptr 0 0, .int .i64 (orF (fitP a lo hi) d i q), .int .i64 (a.length : Int), .any] [some (.box 29 [.lst (.int .i64) lo, .lst (.int .i64) hi])]) := by
  induction d with
  | zero =>
    intro n i x q hd hi' hx hn
    subst hx
    rw [lpAt_def]
    conv => lhs; whnf
    refine br_f (df (by omega)) ?_
    conv => lhs; whnf
    have : i = a.length := by omega
    rw [orF, this]
  | succ d ih =>
    intro n i x q hd hi' hx hn
    obtain ⟨n, rfl⟩ : ∃ m, n = m + 1 := ⟨n - 1, by omega⟩
    subst hx
    have hwi := hw _ (mem_getD (d := []) (show i < a.length by omega))
    rw [lpAt_def]
    conv => lhs; whnf
    refine br_t (dt (by omega)) ?_
    conv => lhs; whnf
    refine (lq_specFittingPoints a lo hi i (by omega) _ rfl (by omega) (by omega) (by omega) q _ (a.getD i []).length _ 0 0 _ rfl (by omega) rfl (by omega)).trans ?_
    rw [Bool.true_and]
    conv => lhs; whnf
    refine br_c (fun h => ?_) (fun h => ?_)
    · have h' : fitP a lo hi (i : Int) = true := h
      conv => lhs; whnf
      refine br_f (by (rw [wrapu (n := (i : Int)) (by omega) (by omega)]; exact df (by omega))) ?_
      conv => lhs; whnf
      rw [shl1u (by omega)]
      rw [ih n (i + 1) _ _ (by omega) (by omega) (by rw [wrap64 (by omega) (by omega)]; simp) (by omega)]
      rw [orF, h', cond_true]
      rfl
    · have h' : fitP a lo hi (i : Int) = false := h
      conv => lhs; whnf
      rw [ih n (i + 1) _ _ (by omega) (by omega) (by rw [wrap64 (by omega) (by omega)]; simp) (by omega)]
      rw [orF, h', cond_false]
theorem ev_specFittingPoints (a : List (List Int)) (lo hi : List Int) (hp : (a.length ≤ 1048576 ∧ ∀ x ∈ a, x.length ≤ 1048576) ∧ (lo.length ≤ 1048576 ∧ hi.length ≤ 1048576)) : evF E_specFittingPoints (40) Try.f50 [.lst (.lst (.int .i64)) a, .agg [.lst (.int .i64) lo, .lst (.int .i64) hi]] [] = some (.int .i64 (fitF a lo hi), []) := by
  conv => lhs; whnf
  conv => lhs; arg 1; whnf
  refine bnd_g (by exact hp.1) ?_
  conv => lhs; whnf
  refine br_c (fun h => ?_) (fun h => ?_)
  · conv => lhs; whnf
    repeat ((first | with_reducible apply br_tt | with_reducible apply br_ff | with_reducible apply br_nf | with_reducible apply br_nt | with_reducible refine br_d ?_ (by kernel_rfl) | with_reducible apply br_t h | with_reducible apply br_f h); conv => lhs; whnf)
    refine okI ?_
    unfold fitF
    rw [bnt h]
    rfl
  · have hA := arePts_parts (bnf h)
    conv => lhs; whnf
    repeat ((first | with_reducible apply br_tt | with_reducible apply br_ff | with_reducible apply br_nf | with_reducible apply br_nt | with_reducible refine br_d ?_ (by kernel_rfl) | with_reducible apply br_t h | with_reducible apply br_f h); conv => lhs; whnf)
    refine br_t (dt2 (by omega) (by change (0 : Int) < (a.length : Int); omega)) ?_
    conv => lhs; whnf
    repeat ((first | with_reducible apply br_tt | with_reducible apply br_ff | with_reducible apply br_nf | with_reducible apply br_nt | with_reducible refine br_d ?_ (by kernel_rfl) | with_reducible apply br_t h | with_reducible apply br_f h); conv => lhs; whnf)
    refine br_c (fun h2 => ?_) (fun h2 => ?_)
    · have h' : decide (lo.length = (a.getD 0 []).length) = false := by
        refine df fun e => ?_
        have h2 : ((lo.length : Int) != ((a.getD 0 []).length : Int)) = true := h2
        rw [e] at h2
        simp at h2
      conv => lhs; whnf
      repeat ((first | with_reducible apply br_tt | with_reducible apply br_ff | with_reducible apply br_nf | with_reducible apply br_nt | with_reducible refine br_d ?_ (by kernel_rfl) | with_reducible apply br_t h2 | with_reducible apply br_f h2); conv => lhs; whnf)
      refine okI ?_
      unfold fitF
      rw [h', Bool.and_false, Bool.false_and]
      rfl
    · have h' : lo.length = (a.getD 0 []).length := by
        have h2 : ((lo.length : Int) != ((a.getD 0 []).length : Int)) = false := h2
        simp only [bne_eq_false_iff_eq] at h2
        omega
      conv => lhs; whnf
      repeat ((first | with_reducible apply br_tt | with_reducible apply br_ff | with_reducible apply br_nf | with_reducible apply br_nt | with_reducible refine br_d ?_ (by kernel_rfl) | with_reducible apply br_t h2 | with_reducible apply br_f h2); conv => lhs; whnf)
      refine br_t (dt2 (by omega) (by change (0 : Int) < (a.length : Int); omega)) ?_
      conv => lhs; whnf
      repeat ((first | with_reducible apply br_tt | with_reducible apply br_ff | with_reducible apply br_nf | with_reducible apply br_nt | with_reducible refine br_d ?_ (by kernel_rfl) | with_reducible apply br_t h2 | with_reducible apply br_f h2); conv => lhs; whnf)
      refine br_c (fun h3 => ?_) (fun h3 => ?_)
      · have h'' : decide (hi.length = (a.getD 0 []).length) = false := by
          refine df fun e => ?_
          have h2 : ((hi.length : Int) != ((a.getD 0 []).length : Int)) = true := h3
          rw [e] at h2
          simp at h2
        conv => lhs; whnf
        refine okI ?_
        unfold fitF
        rw [h'', Bool.and_false]
        rfl
      · have h'' : hi.length = (a.getD 0 []).length := by
          have h2 : ((hi.length : Int) != ((a.getD 0 []).length : Int)) = false := h3
          simp only [bne_eq_false_iff_eq] at h2
          omega
        conv => lhs; whnf
        refine (lp_specFittingPoints a lo hi hA.1.2 hA.2.2 h' h'' hA.2.1 _ a.length _ 0 0 0 rfl (by omega) rfl (by change _ < 39; omega)).trans ?_
        conv => lhs; whnf
        refine okI ?_
        unfold fitF
        rw [bnf h, dt h', dt h'']
        rfl
theorem ok_specFittingPoints : FnOk Try.prog 50 K_specFittingPoints := by
  refine fn_ok (fn := Try.f50) (k := Try.f50.ntmps) (E := E_specFittingPoints) (facts_of (List.forall_mem_cons.2 ⟨ok_specArePoints, List.forall_mem_cons.2 ⟨ok_l1In, List.forall_mem_nil _⟩⟩)) (by kernel_rfl) rfl (by decide +kernel) (by decide +kernel) ?_
  intro avs hin r h
  unfold K_specFittingPoints at h
  split at h
  · obtain ⟨hp, rfl⟩ := gd_o h
    exact ⟨_, ev_specFittingPoints _ _ _ hp, rfl⟩
  · cases h

/- impl.within -/
def K_within : List AV → List Ob → Option (AV × List Ob)
  | [.int .i64 n, .int .i64 l, .int .i64 h], [] => gd (True) (.bool (decide (l ≤ n ∧ n ≤ h)), [])
  | _, _ => none
@[reducible] def E_within : Env := mkE (tb []) (fun f => false) (fun r => ([], []))
theorem ev_within (n l h : Int) (hp : True) : evF E_within (1) Try.f63 [.int .i64 n, .int .i64 l, .int .i64 h] [] = some (.bool (decide (l ≤ n ∧ n ≤ h)), []) := by
  conv => lhs; whnf
  refine br_c (fun h1 => ?_) (fun h1 => ?_)
  · conv => lhs; whnf
    repeat ((first | with_reducible apply br_tt | with_reducible apply br_ff | with_reducible apply br_nf | with_reducible apply br_nt | with_reducible refine br_d ?_ (by kernel_rfl) | with_reducible apply br_t h1 | with_reducible apply br_f h1); conv => lhs; whnf)
    have := ofd h1
    simp [this]
  · conv => lhs; whnf
    repeat ((first | with_reducible apply br_tt | with_reducible apply br_ff | with_reducible apply br_nf | with_reducible apply br_nt | with_reducible refine br_d ?_ (by kernel_rfl) | with_reducible apply br_t h1 | with_reducible apply br_f h1); conv => lhs; whnf)
    have := ofn h1
    simp [this]
theorem ok_within : FnOk Try.prog 63 K_within := by
  refine fn_ok (fn := Try.f63) (k := Try.f63.ntmps) (E := E_within) (facts_of (List.forall_mem_nil _)) (by kernel_rfl) rfl (by decide +kernel) (by decide +kernel) ?_
  intro avs hin r h
  unfold K_within at h
  split at h
  · obtain ⟨hp, rfl⟩ := gd_o h
    exact ⟨_, ev_within _ _ _ hp, rfl⟩
  · cases h

/- impl.ArePoints$1$1 -/
def K_badNum1 : List AV → List Ob → Option (AV × List Ob)
  | [.int .i64 x], [] => gd (True) (.bool (badNum x), [])
  | _, _ => none
@[reducible] def E_badNum1 : Env := mkE (tb [(63, K_within)]) (fun f => false) (fun r => ([], []))
theorem ev_badNum1 (x : Int) (hp : True) : evF E_badNum1 (1) Try.f69 [.int .i64 x] [] = some (.bool (badNum x), []) := by
  conv => lhs; whnf
  conv => lhs; arg 1; whnf
  refine bnd_g (by exact True.intro) ?_
  conv => lhs; whnf
  rfl
theorem ok_badNum1 : FnOk Try.prog 69 K_badNum1 := by
  refine fn_ok (fn := Try.f69) (k := Try.f69.ntmps) (E := E_badNum1) (facts_of (List.forall_mem_cons.2 ⟨ok_within, List.forall_mem_nil _⟩)) (by kernel_rfl) rfl (by decide +kernel) (by decide +kernel) ?_
  intro avs hin r h
  unfold K_badNum1 at h
  split at h
  · obtain ⟨hp, rfl⟩ := gd_o h
    exact ⟨_, ev_badNum1 _ hp, rfl⟩
  · cases h

/- slices.IndexFunc[[]int,int] -/
def K_idx_badNum1 : List AV → List Ob → Option (AV × List Ob)
  | [.lst (.int .i64) a, .clo 69 []], [] => gd (a.length < 4611686018427387904 ∧ True) (.int .i64 (firstI badNum a 0), [])
  | _, _ => none
@[reducible] def E_idx_badNum1 : Env := mkE (tb [(69, K_badNum1)]) (fun f => false) (fun r => bif r == 2 then ([0, 1, 7, 8], [4]) else ([], []))
theorem lp_idx_badNum1 (a : List Int)  (ht : True) (ha : a.length < 4611686018427387904) (k : AX → S → Option (AV × List Ob)) (d : Nat) : ∀ (n i : Nat) (x : Int), a.length - i = d → i ≤ a.length → x = i → d < n →
    lpAt E_idx_badNum1 (lp E_idx_badNum1 0 n) 0 (loopAt Try.f104 0) (mkS [0, 1, 7, 8] [.lst (.int .i64) a, .clo 69 [], .int .i64 a.length, .int .i64 x] []) k =
      if (a.drop i).any badNum then k .ret (mkS [4] [.int .i64 (firstI badNum (a.drop i) i)] []) else k (.exit 0) (mkS [4] [.any] []) := by
  induction d with
  | zero =>
    intro n i x hd hi hx hn
    subst hx
    rw [lpAt_def]
    conv => lhs; whnf
    refine br_f (df (by omega)) ?_
    conv => lhs; whnf
    rw [List.drop_of_length_le (by omega)]
    simp
  | succ d ih =>
    intro n i x hd hi hx hn
    obtain ⟨n, rfl⟩ : ∃ m, n = m + 1 := ⟨n - 1, by omega⟩
    subst hx
    rw [lpAt_def]
    conv => lhs; whnf
    refine br_t (dt (by omega)) ?_
    conv => lhs; whnf
    refine br_t (dt2 (by omega) (by omega)) ?_
    conv => lhs; whnf
    conv => lhs; arg 1; whnf
    refine bnd_g (by exact True.intro) ?_
    conv => lhs; whnf
    rw [getD_drop (l := a) (i := i) (d := 0) (by omega)]
    refine br_c (fun h => ?_) (fun h => ?_)
    · have h' : badNum (a.getD i 0) = true := h
      conv => lhs; whnf
      rw [if_pos (by rw [List.any_cons, h', Bool.true_or])]
      rw [firstI, h', cond_true]
    · have h' : badNum (a.getD i 0) = false := h
      conv => lhs; whnf
      rw [ih n (i + 1) _ (by omega) (by omega) (by rw [wrap64 (by omega) (by omega)]; simp) (by omega)]
      rw [List.any_cons, h', Bool.false_or, firstI, h', cond_false]
      rfl
theorem ev_idx_badNum1 (a : List Int) (hp : a.length < 4611686018427387904 ∧ True) : evF E_idx_badNum1 (a.length + 2) Try.f104 [.lst (.int .i64) a, .clo 69 []] [] = some (.int .i64 (firstI badNum a 0), []) := by
  conv => lhs; whnf
  refine (lp_idx_badNum1 a  hp.2 hp.1 _ a.length _ 0 0 rfl (by omega) rfl (by omega)).trans ?_
  simp only [List.drop_zero]
  split
  · conv => lhs; whnf
    rfl
  · rename_i he
    conv => lhs; whnf
    have : firstI badNum a 0 = -1 := firstI_none badNum a 0 (by simpa using he)
    rw [this]
theorem ok_idx_badNum1 : FnOk Try.prog 104 K_idx_badNum1 := by
  refine fn_ok (fn := Try.f104) (k := Try.f104.ntmps) (E := E_idx_badNum1) (facts_of (List.forall_mem_cons.2 ⟨ok_badNum1, List.forall_mem_nil _⟩)) (by kernel_rfl) rfl (by decide +kernel) (by decide +kernel) ?_
  intro avs hin r h
  unfold K_idx_badNum1 at h
  split at h
  · obtain ⟨hp, rfl⟩ := gd_o h
    exact ⟨_, ev_idx_badNum1 _ hp, rfl⟩
  · cases h

/- slices.ContainsFunc[[]int,int] -/
def K_has_badNum1 : List AV → List Ob → Option (AV × List Ob)
  | [.lst (.int .i64) a, .clo 69 []], [] => gd (a.length < 4611686018427387904 ∧ True) (.bool (a.any badNum), [])
  | _, _ => none
@[reducible] def E_has_badNum1 : Env := mkE (tb [(104, K_idx_badNum1)]) (fun f => false) (fun r => ([], []))
theorem ev_has_badNum1 (a : List Int) (hp : a.length < 4611686018427387904 ∧ True) : evF E_has_badNum1 (1) Try.f68 [.lst (.int .i64) a, .clo 69 []] [] = some (.bool (a.any badNum), []) := by
  conv => lhs; whnf
  conv => lhs; arg 1; whnf
  refine bnd_g (by exact hp) ?_
  conv => lhs; whnf
  refine okB ?_
  exact firstI_iff badNum a 0 (by omega)
theorem ok_has_badNum1 : FnOk Try.prog 68 K_has_badNum1 := by
  refine fn_ok (fn := Try.f68) (k := Try.f68.ntmps) (E := E_has_badNum1) (facts_of (List.forall_mem_cons.2 ⟨ok_idx_badNum1, List.forall_mem_nil _⟩)) (by kernel_rfl) rfl (by decide +kernel) (by decide +kernel) ?_
  intro avs hin r h
  unfold K_has_badNum1 at h
  split at h
  · obtain ⟨hp, rfl⟩ := gd_o h
    exact ⟨_, ev_has_badNum1 _ hp, rfl⟩
  · cases h

/- impl.ArePoints$1 -/
def K_badPt1 : List AV → List Ob → Option (AV × List Ob)
  | [.lst (.int .i64) x, .vptr [.lst (.lst (.int .i64)) b] 0], [] => gd (1 ≤ b.length ∧ x.length ≤ 1048576) (.bool (badPt b x), [])
  | _, _ => none
@[reducible] def E_badPt1 : Env := mkE (tb [(68, K_has_badNum1)]) (fun f => false) (fun r => ([], []))
theorem ev_badPt1 (x : List Int) (b : List (List Int)) (hp : 1 ≤ b.length ∧ x.length ≤ 1048576) : evF E_badPt1 (1) Try.f67 [.lst (.int .i64) x, .vptr [.lst (.lst (.int .i64)) b] 0] [] = some (.bool (badPt b x), []) := by
  conv => lhs; whnf
  refine br_t (dt2 (by omega) (by change (0 : Int) < (b.length : Int); omega)) ?_
  conv => lhs; whnf
  refine br_c (fun h => ?_) (fun h => ?_)
  · have h' : decide (x.length ≠ (b.getD 0 []).length) = true := by
      refine dt fun e => ?_
      have h2 : ((x.length : Int) != ((b.getD 0 []).length : Int)) = true := h
      rw [e] at h2
      simp at h2
    conv => lhs; whnf
    repeat ((first | with_reducible apply br_tt | with_reducible apply br_ff | with_reducible apply br_nf | with_reducible apply br_nt | with_reducible refine br_d ?_ (by kernel_rfl) | with_reducible apply br_t h | with_reducible apply br_f h); conv => lhs; whnf)
    refine okB ?_
    unfold badPt
    rw [h']
    rfl
  · have h' : decide (x.length ≠ (b.getD 0 []).length) = false := by
      have h2 : ((x.length : Int) != ((b.getD 0 []).length : Int)) = false := h
      simp only [bne_eq_false_iff_eq] at h2
      refine df fun e => e (by omega)
    conv => lhs; whnf
    repeat ((first | with_reducible apply br_tt | with_reducible apply br_ff | with_reducible apply br_nf | with_reducible apply br_nt | with_reducible refine br_d ?_ (by kernel_rfl) | with_reducible apply br_t h | with_reducible apply br_f h); conv => lhs; whnf)
    refine br_c (fun h2 => ?_) (fun h2 => ?_)
    · conv => lhs; whnf
      repeat ((first | with_reducible apply br_tt | with_reducible apply br_ff | with_reducible apply br_nf | with_reducible apply br_nt | with_reducible refine br_d ?_ (by kernel_rfl) | with_reducible apply br_t h | with_reducible apply br_f h | with_reducible apply br_t h2 | with_reducible apply br_f h2); conv => lhs; whnf)
      refine okB ?_
      unfold badPt
      have := ofd h2
      rw [h', dt (by omega)]
      rfl
    · conv => lhs; whnf
      repeat ((first | with_reducible apply br_tt | with_reducible apply br_ff | with_reducible apply br_nf | with_reducible apply br_nt | with_reducible refine br_d ?_ (by kernel_rfl) | with_reducible apply br_t h | with_reducible apply br_f h | with_reducible apply br_t h2 | with_reducible apply br_f h2); conv => lhs; whnf)
      conv => lhs; arg 1; whnf
      refine bnd_g (by exact ⟨by omega, True.intro⟩) ?_
      conv => lhs; whnf
      repeat ((first | with_reducible apply br_tt | with_reducible apply br_ff | with_reducible apply br_nf | with_reducible apply br_nt | with_reducible refine br_d ?_ (by kernel_rfl) | with_reducible apply br_t h | with_reducible apply br_f h | with_reducible apply br_t h2 | with_reducible apply br_f h2); conv => lhs; whnf)
      refine okB ?_
      unfold badPt
      have := ofn h2
      rw [h', df (by omega)]
      rfl
theorem ok_badPt1 : FnOk Try.prog 67 K_badPt1 := by
  refine fn_ok (fn := Try.f67) (k := Try.f67.ntmps) (E := E_badPt1) (facts_of (List.forall_mem_cons.2 ⟨ok_has_badNum1, List.forall_mem_nil _⟩)) (by kernel_rfl) rfl (by decide +kernel) (by decide +kernel) ?_
  intro avs hin r h
  unfold K_badPt1 at h
  split at h
  · obtain ⟨hp, rfl⟩ := gd_o h
    exact ⟨_, ev_badPt1 _ _ hp, rfl⟩
  · cases h

/- slices.IndexFunc[[][]int,[]int] -/
def K_idx_badPt1 : List AV → List Ob → Option (AV × List Ob)
  | [.lst (.lst (.int .i64)) a, .clo 67 [.vptr [.lst (.lst (.int .i64)) b] 0]], [] => gd (a.length < 4611686018427387904 ∧ (1 ≤ b.length ∧ ∀ x ∈ a, x.length ≤ 1048576)) (.int .i64 (firstI (badPt b) a 0), [])
  | _, _ => none
@[reducible] def E_idx_badPt1 : Env := mkE (tb [(67, K_badPt1)]) (fun f => false) (fun r => bif r == 2 then ([0, 1, 7, 8], [4]) else ([], []))
theorem lp_idx_badPt1 (a : List (List Int)) (b : List (List Int)) (ht : 1 ≤ b.length ∧ ∀ x ∈ a, x.length ≤ 1048576) (ha : a.length < 4611686018427387904) (k : AX → S → Option (AV × List Ob)) (d : Nat) : ∀ (n i : Nat) (x : Int), a.length - i = d → i ≤ a.length → x = i → d < n →
    lpAt E_idx_badPt1 (lp E_idx_badPt1 0 n) 0 (loopAt Try.f103 0) (mkS [0, 1, 7, 8] [.lst (.lst (.int .i64)) a, .clo 67 [.vptr [.lst (.lst (.int .i64)) b] 0], .int .i64 a.length, .int .i64 x] []) k =
      if (a.drop i).any (badPt b) then k .ret (mkS [4] [.int .i64 (firstI (badPt b) (a.drop i) i)] []) else k (.exit 0) (mkS [4] [.any] []) := by
  induction d with
  | zero =>
    intro n i x hd hi hx hn
    subst hx
    rw [lpAt_def]
    conv => lhs; whnf
    refine br_f (df (by omega)) ?_
    conv => lhs; whnf
    rw [List.drop_of_length_le (by omega)]
    simp
  | succ d ih =>
    intro n i x hd hi hx hn
    obtain ⟨n, rfl⟩ : ∃ m, n = m + 1 := ⟨n - 1, by omega⟩
    subst hx
    rw [lpAt_def]
    conv => lhs; whnf
    refine br_t (dt (by omega)) ?_
    conv => lhs; whnf
    refine br_t (dt2 (by omega) (by omega)) ?_
    conv => lhs; whnf
    conv => lhs; arg 1; whnf
    refine bnd_g (by exact ⟨ht.1, ht.2 _ (mem_getD (by omega))⟩) ?_
    conv => lhs; whnf
    rw [getD_drop (l := a) (i := i) (d := []) (by omega)]
    refine br_c (fun h => ?_) (fun h => ?_)
    · have h' : (badPt b) (a.getD i []) = true := h
      conv => lhs; whnf
      rw [if_pos (by rw [List.any_cons, h', Bool.true_or])]
      rw [firstI, h', cond_true]
    · have h' : (badPt b) (a.getD i []) = false := h
      conv => lhs; whnf
      rw [ih n (i + 1) _ (by omega) (by omega) (by rw [wrap64 (by omega) (by omega)]; simp) (by omega)]
      rw [List.any_cons, h', Bool.false_or, firstI, h', cond_false]
      rfl
theorem ev_idx_badPt1 (a : List (List Int)) (b : List (List Int)) (hp : a.length < 4611686018427387904 ∧ (1 ≤ b.length ∧ ∀ x ∈ a, x.length ≤ 1048576)) : evF E_idx_badPt1 (a.length + 2) Try.f103 [.lst (.lst (.int .i64)) a, .clo 67 [.vptr [.lst (.lst (.int .i64)) b] 0]] [] = some (.int .i64 (firstI (badPt b) a 0), []) := by
  conv => lhs; whnf
  refine (lp_idx_badPt1 a b hp.2 hp.1 _ a.length _ 0 0 rfl (by omega) rfl (by omega)).trans ?_
  simp only [List.drop_zero]
  split
  · conv => lhs; whnf
    rfl
  · rename_i he
    conv => lhs; whnf
    have : firstI (badPt b) a 0 = -1 := firstI_none (badPt b) a 0 (by simpa using he)
    rw [this]
theorem ok_idx_badPt1 : FnOk Try.prog 103 K_idx_badPt1 := by
  refine fn_ok (fn := Try.f103) (k := Try.f103.ntmps) (E := E_idx_badPt1) (facts_of (List.forall_mem_cons.2 ⟨ok_badPt1, List.forall_mem_nil _⟩)) (by kernel_rfl) rfl (by decide +kernel) (by decide +kernel) ?_
  intro avs hin r h
  unfold K_idx_badPt1 at h
  split at h
  · obtain ⟨hp, rfl⟩ := gd_o h
    exact ⟨_, ev_idx_badPt1 _ _ hp, rfl⟩
  · cases h

/- slices.ContainsFunc[[][]int,[]int] -/
def K_has_badPt1 : List AV → List Ob → Option (AV × List Ob)
  | [.lst (.lst (.int .i64)) a, .clo 67 [.vptr [.lst (.lst (.int .i64)) b] 0]], [] => gd (a.length < 4611686018427387904 ∧ (1 ≤ b.length ∧ ∀ x ∈ a, x.length ≤ 1048576)) (.bool (a.any (badPt b)), [])
  | _, _ => none
@[reducible] def E_has_badPt1 : Env := mkE (tb [(103, K_idx_badPt1)]) (fun f => false) (fun r => ([], []))
theorem ev_has_badPt1 (a : List (List Int)) (b : List (List Int)) (hp : a.length < 4611686018427387904 ∧ (1 ≤ b.length ∧ ∀ x ∈ a, x.length ≤ 1048576)) : evF E_has_badPt1 (1) Try.f66 [.lst (.lst (.int .i64)) a, .clo 67 [.vptr [.lst (.lst (.int .i64)) b] 0]] [] = some (.bool (a.any (badPt b)), []) := by
  conv => lhs; whnf
  conv => lhs; arg 1; whnf
  refine bnd_g (by exact hp) ?_
  conv => lhs; whnf
  refine okB ?_
  exact firstI_iff (badPt b) a 0 (by omega)
theorem ok_has_badPt1 : FnOk Try.prog 66 K_has_badPt1 := by
  refine fn_ok (fn := Try.f66) (k := Try.f66.ntmps) (E := E_has_badPt1) (facts_of (List.forall_mem_cons.2 ⟨ok_idx_badPt1, List.forall_mem_nil _⟩)) (by kernel_rfl) rfl (by decide +kernel) (by decide +kernel) ?_
  intro avs hin r h
  unfold K_has_badPt1 at h
  split at h
  · obtain ⟨hp, rfl⟩ := gd_o h
    exact ⟨_, ev_has_badPt1 _ _ hp, rfl⟩
  · cases h

/- impl.ArePoints -/
def K_implArePoints : List AV → List Ob → Option (AV × List Ob)
  | [.lst (.lst (.int .i64)) a], [] => gd (a.length ≤ 1048576 ∧ ∀ x ∈ a, x.length ≤ 1048576) (.bool (arePts a), [])
  | _, _ => none
@[reducible] def E_implArePoints : Env := mkE (tb [(63, K_within), (66, K_has_badPt1)]) (fun f => false) (fun r => ([], []))
theorem ev_implArePoints (a : List (List Int)) (hp : a.length ≤ 1048576 ∧ ∀ x ∈ a, x.length ≤ 1048576) : evF E_implArePoints (1) Try.f24 [.lst (.lst (.int .i64)) a] [] = some (.bool (arePts a), []) := by
  conv => lhs; whnf
  conv => lhs; arg 1; whnf
  refine bnd_g (by exact True.intro) ?_
  conv => lhs; whnf
  refine br_c (fun h => ?_) (fun h => ?_)
  · have h' := ofnt h
    conv => lhs; whnf
    refine okB ?_
    unfold arePts
    rw [df (by omega), Bool.false_and]
  · have h' := ofnf h
    conv => lhs; whnf
    conv => lhs; arg 1; whnf
    refine bnd_g (by exact ⟨by omega, by omega, hp.2⟩) ?_
    conv => lhs; whnf
    refine okB ?_
    unfold arePts
    rw [any_badPt (by omega), Bool.not_not, show decide (1 ≤ a.length ∧ a.length ≤ 8) = true from dt (by omega), Bool.true_and]
theorem ok_implArePoints : FnOk Try.prog 24 K_implArePoints := by
  refine fn_ok (fn := Try.f24) (k := Try.f24.ntmps) (E := E_implArePoints) (facts_of (List.forall_mem_cons.2 ⟨ok_within, List.forall_mem_cons.2 ⟨ok_has_badPt1, List.forall_mem_nil _⟩⟩)) (by kernel_rfl) rfl (by decide +kernel) (by decide +kernel) ?_
  intro avs hin r h
  unfold K_implArePoints at h
  split at h
  · obtain ⟨hp, rfl⟩ := gd_o h
    exact ⟨_, ev_implArePoints _ hp, rfl⟩
  · cases h

/- impl.FittingPoints$1 -/
def K_fit1 : List AV → List Ob → Option (AV × List Ob)
  | [.int .i64 g, .vptr [.lst (.lst (.int .i64)) a] 0, .vptr [.lst (.int .i64) lo, .lst (.int .i64) hi] 0], [] => gd ((0 ≤ g ∧ g < a.length) ∧ (∀ x ∈ a, x.length = (a.getD 0 []).length) ∧ (lo.length = (a.getD 0 []).length ∧ hi.length = (a.getD 0 []).length ∧ (a.getD 0 []).length ≤ 3)) (.bool (fitP a lo hi g), [])
  | _, _ => none
@[reducible] def E_fit1 : Env := mkE (tb [(63, K_within)]) (fun f => false) (fun r => bif r == 2 then ([2, 10, 11, 12], [4]) else ([], []))
theorem lp_fit1 (y lo hi : List Int) (hl : lo.length = y.length) (hh : hi.length = y.length) (hy : y.length ≤ 1048576) (k : AX → S → Option (AV × List Ob)) (d : Nat) : ∀ (n i : Nat) (x : Int), y.length - i = d → i ≤ y.length → x = i → d < n →
    lpAt E_fit1 (lp E_fit1 0 n) 0 (loopAt Try.f86 0) (mkS [2, 10, 11, 12] [.vptr [.lst (.int .i64) lo, .lst (.int .i64) hi] 0, .lst (.int .i64) y, .int .i64 y.length, .int .i64 x] []) k =
      if allB (fitAt y lo hi) d i then k (.exit 0) (mkS [4] [.any] []) else k .ret (mkS [4] [.bool false] []) := by
  induction d with
  | zero =>
    intro n i x hd hi' hx hn
    subst hx
    rw [lpAt_def]
    conv => lhs; whnf
    refine br_f (df (by omega)) ?_
    conv => lhs; whnf
    rfl
  | succ d ih =>
    intro n i x hd hi' hx hn
    obtain ⟨n, rfl⟩ : ∃ m, n = m + 1 := ⟨n - 1, by omega⟩
    subst hx
    rw [lpAt_def]
    conv => lhs; whnf
    refine br_t (dt (by omega)) ?_
    conv => lhs; whnf
    refine br_t (dt2 (by omega) (by omega)) ?_
    conv => lhs; whnf
    refine br_t (dt2 (by omega) (by omega)) ?_
    conv => lhs; whnf
    refine br_t (dt2 (by omega) (by omega)) ?_
    conv => lhs; whnf
    conv => lhs; arg 1; whnf
    refine bnd_g (by exact True.intro) ?_
    conv => lhs; whnf
    refine br_t (by kernel_rfl) ?_
    conv => lhs; whnf
    refine br_c (fun h => ?_) (fun h => ?_)
    · have h' : fitAt y lo hi i = false := bnt h
      conv => lhs; whnf
      rw [if_neg (by rw [allB, h']; exact Bool.false_ne_true)]
    · have h' : fitAt y lo hi i = true := bnf h
      conv => lhs; whnf
      rw [ih n (i + 1) _ (by omega) (by omega) (by rw [wrap64 (by omega) (by omega)]; simp) (by omega)]
      rw [allB, h', Bool.true_and]
theorem ev_fit1 (g : Int) (a : List (List Int)) (lo hi : List Int) (hp : (0 ≤ g ∧ g < a.length) ∧ (∀ x ∈ a, x.length = (a.getD 0 []).length) ∧ (lo.length = (a.getD 0 []).length ∧ hi.length = (a.getD 0 []).length ∧ (a.getD 0 []).length ≤ 3)) : evF E_fit1 (20) Try.f86 [.int .i64 g, .vptr [.lst (.lst (.int .i64)) a] 0, .vptr [.lst (.int .i64) lo, .lst (.int .i64) hi] 0] [] = some (.bool (fitP a lo hi g), []) := by
  obtain ⟨⟨h0, h1⟩, h2, h3, h4, h5⟩ := hp
  have hm := h2 (a.getD g.toNat []) (mem_getD (by omega))
  conv => lhs; whnf
  refine br_t (dt2 h0 h1) ?_
  conv => lhs; whnf
  refine (lp_fit1 (a.getD g.toNat []) lo hi (by omega) (by omega) (by omega) _ (a.getD g.toNat []).length _ 0 0 rfl (by omega) rfl (by change _ < 19; omega)).trans ?_
  split
  · rename_i h
    conv => lhs; whnf
    exact okB h.symm
  · rename_i h
    conv => lhs; whnf
    rw [Bool.not_eq_true] at h
    exact okB h.symm
theorem ok_fit1 : FnOk Try.prog 86 K_fit1 := by
  refine fn_ok (fn := Try.f86) (k := Try.f86.ntmps) (E := E_fit1) (facts_of (List.forall_mem_cons.2 ⟨ok_within, List.forall_mem_nil _⟩)) (by kernel_rfl) rfl (by decide +kernel) (by decide +kernel) ?_
  intro avs hin r h
  unfold K_fit1 at h
  split at h
  · obtain ⟨hp, rfl⟩ := gd_o h
    exact ⟨_, ev_fit1 _ _ _ _ hp, rfl⟩
  · cases h

/- impl.accepted -/
def K_acc_fit1 : List AV → List Ob → Option (AV × List Ob)
  | [.int .i64 N, .clo 86 [.vptr [.lst (.lst (.int .i64)) a] 0, .vptr [.lst (.int .i64) lo, .lst (.int .i64) hi] 0]], [] => gd ((0 ≤ N ∧ N ≤ 8) ∧ N = (a.length : Int) ∧ (∀ x ∈ a, x.length = (a.getD 0 []).length) ∧ (lo.length = (a.getD 0 []).length ∧ hi.length = (a.getD 0 []).length ∧ (a.getD 0 []).length ≤ 3)) (.int .i64 (orF (fitP a lo hi) N.toNat 0 0), [])
  | _, _ => none
@[reducible] def E_acc_fit1 : Env := mkE (tb [(86, K_fit1)]) (fun f => false) (fun r => bif r == 3 then ([1, 5, 7, 8], [5]) else ([], []))
theorem lp_acc_fit1 (N : Nat) (a : List (List Int)) (lo hi : List Int) (ht : N = a.length ∧ (∀ x ∈ a, x.length = (a.getD 0 []).length) ∧ (lo.length = (a.getD 0 []).length ∧ hi.length = (a.getD 0 []).length ∧ (a.getD 0 []).length ≤ 3)) (hN : N ≤ 8) (k : AX → S → Option (AV × List Ob)) (d : Nat) : ∀ (n i : Nat) (x q : Int), N - i = d → i ≤ N → x = i → d < n →
    lpAt E_acc_fit1 (lp E_acc_fit1 0 n) 0 (loopAt Try.f85 0) (mkS [1, 5, 7, 8] [.clo 86 [.vptr [.lst (.lst (.int .i64)) a] 0, .vptr [.lst (.int .i64) lo, .lst (.int .i64) hi] 0], .int .i64 q, .int .i64 N, .int .i64 x] []) k =
      k (.exit 0) (mkS [5] [.int .i64 (orF (fitP a lo hi) d i q)] []) := by
  induction d with
  | zero =>
    intro n i x q hd hI hx hn
    subst hx
    rw [lpAt_def]
    conv => lhs; whnf
    refine br_f (df (by omega)) ?_
    conv => lhs; whnf
    rfl
  | succ d ih =>
    intro n i x q hd hI hx hn
    obtain ⟨n, rfl⟩ : ∃ m, n = m + 1 := ⟨n - 1, by omega⟩
    subst hx
    rw [lpAt_def]
    conv => lhs; whnf
    refine br_t (dt (by omega)) ?_
    conv => lhs; whnf
    conv => lhs; arg 1; whnf
    refine bnd_g (by exact ⟨⟨by omega, by omega⟩, ht.2⟩) ?_
    conv => lhs; whnf
    refine br_c (fun h => ?_) (fun h => ?_)
    · have h' : (fitP a lo hi) (i : Int) = true := h
      conv => lhs; whnf
      refine br_f (df (by omega)) ?_
      conv => lhs; whnf
      rw [shl1 (by omega)]
      rw [ih n (i + 1) _ _ (by omega) (by omega) (by rw [wrap64 (by omega) (by omega)]; simp) (by omega)]
      rw [orF, h', cond_true]
      rfl
    · have h' : (fitP a lo hi) (i : Int) = false := h
      conv => lhs; whnf
      rw [ih n (i + 1) _ _ (by omega) (by omega) (by rw [wrap64 (by omega) (by omega)]; simp) (by omega)]
      rw [orF, h', cond_false]
theorem ev_acc_fit1 (N : Int) (a : List (List Int)) (lo hi : List Int) (hp : (0 ≤ N ∧ N ≤ 8) ∧ N = (a.length : Int) ∧ (∀ x ∈ a, x.length = (a.getD 0 []).length) ∧ (lo.length = (a.getD 0 []).length ∧ hi.length = (a.getD 0 []).length ∧ (a.getD 0 []).length ≤ 3)) : evF E_acc_fit1 (20) Try.f85 [.int .i64 N, .clo 86 [.vptr [.lst (.lst (.int .i64)) a] 0, .vptr [.lst (.int .i64) lo, .lst (.int .i64) hi] 0]] [] = some (.int .i64 (orF (fitP a lo hi) N.toNat 0 0), []) := by
  obtain ⟨M, rfl⟩ : ∃ M : Nat, N = M := ⟨N.toNat, by omega⟩
  rw [Int.toNat_natCast]
  conv => lhs; whnf
  refine (lp_acc_fit1 M a lo hi ⟨by omega, hp.2.2⟩ (by omega) _ M _ 0 0 _ rfl (by omega) rfl (by change M < 19; omega)).trans ?_
  conv => lhs; whnf
theorem ok_acc_fit1 : FnOk Try.prog 85 K_acc_fit1 := by
  refine fn_ok (fn := Try.f85) (k := Try.f85.ntmps) (E := E_acc_fit1) (facts_of (List.forall_mem_cons.2 ⟨ok_fit1, List.forall_mem_nil _⟩)) (by kernel_rfl) rfl (by decide +kernel) (by decide +kernel) ?_
  intro avs hin r h
  unfold K_acc_fit1 at h
  split at h
  · obtain ⟨hp, rfl⟩ := gd_o h
    exact ⟨_, ev_acc_fit1 _ _ _ _ hp, rfl⟩
  · cases h

/- impl.FittingPoints -/
def K_implFittingPoints : List AV → List Ob → Option (AV × List Ob)
  | [.lst (.lst (.int .i64)) a, .agg [.lst (.int .i64) lo, .lst (.int .i64) hi]], [] => gd ((a.length ≤ 1048576 ∧ ∀ x ∈ a, x.length ≤ 1048576) ∧ (lo.length ≤ 1048576 ∧ hi.length ≤ 1048576)) (.int .i64 (fitF a lo hi), [])
  | _, _ => none
@[reducible] def E_implFittingPoints : Env := mkE (tb [(24, K_implArePoints), (85, K_acc_fit1)]) (fun f => false) (fun r => ([], []))
theorem ev_implFittingPoints (a : List (List Int)) (lo hi : List Int) (hp : (a.length ≤ 1048576 ∧ ∀ x ∈ a, x.length ≤ 1048576) ∧ (lo.length ≤ 1048576 ∧ hi.length ≤ 1048576)) : evF E_implFittingPoints (1) Try.f51 [.lst (.lst (.int .i64)) a, .agg [.lst (.int .i64) lo, .lst (.int .i64) hi]] [] = some (.int .i64 (fitF a lo hi), []) := by
  conv => lhs; whnf
  conv => lhs; arg 1; whnf
  refine bnd_g (by exact hp.1) ?_
  conv => lhs; whnf
  refine br_c (fun h => ?_) (fun h => ?_)
  · conv => lhs; whnf
    repeat ((first | with_reducible apply br_tt | with_reducible apply br_ff | with_reducible apply br_nf | with_reducible apply br_nt | with_reducible refine br_d ?_ (by kernel_rfl) | with_reducible apply br_t h | with_reducible apply br_f h); conv => lhs; whnf)
    refine okI ?_
    unfold fitF
    rw [bnt h]
    rfl
  · have hA := arePts_parts (bnf h)
    conv => lhs; whnf
    repeat ((first | with_reducible apply br_tt | with_reducible apply br_ff | with_reducible apply br_nf | with_reducible apply br_nt | with_reducible refine br_d ?_ (by kernel_rfl) | with_reducible apply br_t h | with_reducible apply br_f h); conv => lhs; whnf)
    refine br_t (dt2 (by omega) (by change (0 : Int) < (a.length : Int); omega)) ?_
    conv => lhs; whnf
    repeat ((first | with_reducible apply br_tt | with_reducible apply br_ff | with_reducible apply br_nf | with_reducible apply br_nt | with_reducible refine br_d ?_ (by kernel_rfl) | with_reducible apply br_t h | with_reducible apply br_f h); conv => lhs; whnf)
    refine br_c (fun h2 => ?_) (fun h2 => ?_)
    · have h' : decide (lo.length = (a.getD 0 []).length) = false := by
        refine df fun e => ?_
        have h2 : ((lo.length : Int) != ((a.getD 0 []).length : Int)) = true := h2
        rw [e] at h2
        simp at h2
      conv => lhs; whnf
      repeat ((first | with_reducible apply br_tt | with_reducible apply br_ff | with_reducible apply br_nf | with_reducible apply br_nt | with_reducible refine br_d ?_ (by kernel_rfl) | with_reducible apply br_t h2 | with_reducible apply br_f h2); conv => lhs; whnf)
      refine okI ?_
      unfold fitF
      rw [h', Bool.and_false, Bool.false_and]
      rfl
    · have h' : lo.length = (a.getD 0 []).length := by
        have h2 : ((lo.length : Int) != ((a.getD 0 []).length : Int)) = false := h2
        simp only [bne_eq_false_iff_eq] at h2
        omega
      conv => lhs; whnf
      repeat ((first | with_reducible apply br_tt | with_reducible apply br_ff | with_reducible apply br_nf | with_reducible apply br_nt | with_reducible refine br_d ?_ (by kernel_rfl) | with_reducible apply br_t h2 | with_reducible apply br_f h2); conv => lhs; whnf)
      refine br_t (dt2 (by omega) (by change (0 : Int) < (a.length : Int); omega)) ?_
      conv => lhs; whnf
      repeat ((first | with_reducible apply br_tt | with_reducible apply br_ff | with_reducible apply br_nf | with_reducible apply br_nt | with_reducible refine br_d ?_ (by kernel_rfl) | with_reducible apply br_t h2 | with_reducible apply br_f h2); conv => lhs; whnf)
      refine br_c (fun h3 => ?_) (fun h3 => ?_)
      · have h'' : decide (hi.length = (a.getD 0 []).length) = false := by
          refine df fun e => ?_
          have h2 : ((hi.length : Int) != ((a.getD 0 []).length : Int)) = true := h3
          rw [e] at h2
          simp at h2
        conv => lhs; whnf
        refine okI ?_
        unfold fitF
        rw [h'', Bool.and_false]
        rfl
      · have h'' : hi.length = (a.getD 0 []).length := by
          have h2 : ((hi.length : Int) != ((a.getD 0 []).length : Int)) = false := h3
          simp only [bne_eq_false_iff_eq] at h2
          omega
        conv => lhs; whnf
        conv => lhs; arg 1; whnf
        refine bnd_g (by exact ⟨⟨by omega, by omega⟩, rfl, hA.2.2, h', h'', hA.2.1⟩) ?_
        conv => lhs; whnf
        refine okI ?_
        unfold fitF
        rw [bnf h, dt h', dt h'']
        rfl
theorem ok_implFittingPoints : FnOk Try.prog 51 K_implFittingPoints := by
  refine fn_ok (fn := Try.f51) (k := Try.f51.ntmps) (E := E_implFittingPoints) (facts_of (List.forall_mem_cons.2 ⟨ok_implArePoints, List.forall_mem_cons.2 ⟨ok_acc_fit1, List.forall_mem_nil _⟩⟩)) (by kernel_rfl) rfl (by decide +kernel) (by decide +kernel) ?_
  intro avs hin r h
  unfold K_implFittingPoints at h
  split at h
  · obtain ⟨hp, rfl⟩ := gd_o h
    exact ⟨_, ev_implFittingPoints _ _ _ hp, rfl⟩
  · cases h

/- laws.eqIntS -/
def K_eqIntS : List AV → List Ob → Option (AV × List Ob)
  | [.lst (.int .i64) a, .lst (.int .i64) b], [] => gd (a.length < 4611686018427387904 ∧ b.length < 4611686018427387904) (.bool (decide (a = b)), [])
  | _, _ => none
@[reducible] def E_eqIntS : Env := mkE (tb []) (fun f => false) (fun r => bif r == 4 then ([0, 1, 5], [4]) else ([], []))
theorem lp_eqIntS (a b : List Int) (hl : a.length = b.length) (ha : a.length < 4611686018427387904) (k : AX → S → Option (AV × List Ob)) (d : Nat) : ∀ (n i : Nat) (x : Int), a.length - i = d → i ≤ a.length → x = i → d < n →
    lpAt E_eqIntS (lp E_eqIntS 0 n) 0 (loopAt Try.f35 0) (mkS [0, 1, 5] [.lst (.int .i64) a, .lst (.int .i64) b, .int .i64 x] []) k =
      if a.drop i = b.drop i then k (.exit 0) (mkS [4] [.any] []) else k .ret (mkS [4] [.bool false] []) := by
  induction d with
  | zero =>
    intro n i x hd hi hx hn
    subst hx
    rw [lpAt_def]
    conv => lhs; whnf
    refine br_f (df (by omega)) ?_
    conv => lhs; whnf
    rw [if_pos (by rw [List.drop_of_length_le (by omega), List.drop_of_length_le (by omega)])]
  | succ d ih =>
    intro n i x hd hi hx hn
    obtain ⟨n, rfl⟩ : ∃ m, n = m + 1 := ⟨n - 1, by omega⟩
    subst hx
    rw [lpAt_def]
    conv => lhs; whnf
    refine br_t (dt (by omega)) ?_
    conv => lhs; whnf
    refine br_t (dt2 (by omega) (by omega)) ?_
    conv => lhs; whnf
    refine br_t (dt2 (by omega) (by omega)) ?_
    conv => lhs; whnf
    rw [getD_drop (l := a) (i := i) (d := 0) (by omega), getD_drop (l := b) (i := i) (d := 0) (by omega)]
    refine br_t (by kernel_rfl) ?_
    conv => lhs; whnf
    refine br_c (fun h => ?_) (fun h => ?_)
    · conv => lhs; whnf
      rw [if_neg]
      intro he
      have := (List.cons.inj he).1
      simp at h
      exact h this
    · conv => lhs; whnf
      rw [ih n (i + 1) _ (by omega) (by omega) (by rw [wrap64 (by omega) (by omega)]; simp) (by omega)]
      simp at h
      simp [h]
theorem ev_eqIntS (a b : List Int) (hp : a.length < 4611686018427387904 ∧ b.length < 4611686018427387904) : evF E_eqIntS (a.length + 2) Try.f35 [.lst (.int .i64) a, .lst (.int .i64) b] [] = some (.bool (decide (a = b)), []) := by
  conv => lhs; whnf
  refine br_c (fun h => ?_) (fun h => ?_)
  · conv => lhs; whnf
    have : a ≠ b := by
      rintro rfl
      simp at h
    simp [this]
  · conv => lhs; whnf
    have hl : a.length = b.length := by simp at h; omega
    refine (lp_eqIntS a b hl hp.1 _ _ _ 0 0 rfl (by omega) rfl (by omega)).trans ?_
    simp only [List.drop_zero]
    split
    · rename_i he
      conv => lhs; whnf
      simp [he]
    · rename_i he
      conv => lhs; whnf
      simp [he]
theorem ok_eqIntS : FnOk Try.prog 35 K_eqIntS := by
  refine fn_ok (fn := Try.f35) (k := Try.f35.ntmps) (E := E_eqIntS) (facts_of (List.forall_mem_nil _)) (by kernel_rfl) rfl (by decide +kernel) (by decide +kernel) ?_
  intro avs hin r h
  unfold K_eqIntS at h
  split at h
  · obtain ⟨hp, rfl⟩ := gd_o h
    exact ⟨_, ev_eqIntS _ _ hp, rfl⟩
  · cases h

/- laws.eqIntSS -/
def K_eqIntSS : List AV → List Ob → Option (AV × List Ob)
  | [.lst (.lst (.int .i64)) a, .lst (.lst (.int .i64)) b], [] => gd ((a.length < 4611686018427387904 ∧ b.length < 4611686018427387904) ∧ (∀ x ∈ a, x.length < 4611686018427387904) ∧ (∀ x ∈ b, x.length < 4611686018427387904)) (.bool (decide (a = b)), [])
  | _, _ => none
@[reducible] def E_eqIntSS : Env := mkE (tb [(35, K_eqIntS)]) (fun f => false) (fun r => bif r == 4 then ([0, 1, 5], [4]) else ([], []))
theorem lp_eqIntSS (a b : List (List Int)) (hl : a.length = b.length) (ha : a.length < 4611686018427387904) (hA : ∀ x ∈ a, x.length < 4611686018427387904) (hB : ∀ x ∈ b, x.length < 4611686018427387904) (k : AX → S → Option (AV × List Ob)) (d : Nat) : ∀ (n i : Nat) (x : Int), a.length - i = d → i ≤ a.length → x = i → d < n →
    lpAt E_eqIntSS (lp E_eqIntSS 0 n) 0 (loopAt Try.f25 0) (mkS [0, 1, 5] [.lst (.lst (.int .i64)) a, .lst (.lst (.int .i64)) b, .int .i64 x] []) k =
      if a.drop i = b.drop i then k (.exit 0) (mkS [4] [.any] []) else k .ret (mkS [4] [.bool false] []) := by
  induction d with
  | zero =>
    intro n i x hd hi hx hn
    subst hx
    rw [lpAt_def]
    conv => lhs; whnf
    refine br_f (df (by omega)) ?_
    conv => lhs; whnf
    rw [if_pos (by rw [List.drop_of_length_le (by omega), List.drop_of_length_le (by omega)])]
  | succ d ih =>
    intro n i x hd hi hx hn
    obtain ⟨n, rfl⟩ : ∃ m, n = m + 1 := ⟨n - 1, by omega⟩
    subst hx
    rw [lpAt_def]
    conv => lhs; whnf
    refine br_t (dt (by omega)) ?_
    conv => lhs; whnf
    refine br_t (dt2 (by omega) (by omega)) ?_
    conv => lhs; whnf
    refine br_t (dt2 (by omega) (by omega)) ?_
    conv => lhs; whnf
    conv => lhs; arg 1; whnf
    refine bnd_g (by exact ⟨hA _ (mem_getD (by omega)), hB _ (mem_getD (by omega))⟩) ?_
    conv => lhs; whnf
    rw [getD_drop (l := a) (i := i) (d := []) (by omega), getD_drop (l := b) (i := i) (d := []) (by omega)]
    refine br_t (by kernel_rfl) ?_
    conv => lhs; whnf
    refine br_c (fun h => ?_) (fun h => ?_)
    · conv => lhs; whnf
      rw [if_neg]
      intro he
      exact ofnt h (List.cons.inj he).1
    · conv => lhs; whnf
      rw [ih n (i + 1) _ (by omega) (by omega) (by rw [wrap64 (by omega) (by omega)]; simp) (by omega)]
      have h : a.getD i [] = b.getD i [] := ofnf h
      rw [h]
      simp
theorem ev_eqIntSS (a b : List (List Int)) (hp : (a.length < 4611686018427387904 ∧ b.length < 4611686018427387904) ∧ (∀ x ∈ a, x.length < 4611686018427387904) ∧ (∀ x ∈ b, x.length < 4611686018427387904)) : evF E_eqIntSS (a.length + 2) Try.f25 [.lst (.lst (.int .i64)) a, .lst (.lst (.int .i64)) b] [] = some (.bool (decide (a = b)), []) := by
  conv => lhs; whnf
  refine br_c (fun h => ?_) (fun h => ?_)
  · conv => lhs; whnf
    have : a ≠ b := by
      rintro rfl
      simp at h
    simp [this]
  · conv => lhs; whnf
    have hl : a.length = b.length := by simp at h; omega
    refine (lp_eqIntSS a b hl hp.1.1 hp.2.1 hp.2.2 _ _ _ 0 0 rfl (by omega) rfl (by omega)).trans ?_
    simp only [List.drop_zero]
    split
    · rename_i he
      conv => lhs; whnf
      simp [he]
    · rename_i he
      conv => lhs; whnf
      simp [he]
theorem ok_eqIntSS : FnOk Try.prog 25 K_eqIntSS := by
  refine fn_ok (fn := Try.f25) (k := Try.f25.ntmps) (E := E_eqIntSS) (facts_of (List.forall_mem_cons.2 ⟨ok_eqIntS, List.forall_mem_nil _⟩)) (by kernel_rfl) rfl (by decide +kernel) (by decide +kernel) ?_
  intro avs hin r h
  unfold K_eqIntSS at h
  split at h
  · obtain ⟨hp, rfl⟩ := gd_o h
    exact ⟨_, ev_eqIntSS _ _ hp, rfl⟩
  · cases h

/- laws.eqPattern -/
def K_eqPattern : List AV → List Ob → Option (AV × List Ob)
  | [.agg [.lst (.int .i64) a, .lst (.int .i64) b], .agg [.lst (.int .i64) a', .lst (.int .i64) b']], [] => gd (a.length < 4611686018427387904 ∧ b.length < 4611686018427387904 ∧ a'.length < 4611686018427387904 ∧ b'.length < 4611686018427387904) (.bool (decide (a = a' ∧ b = b')), [])
  | _, _ => none
@[reducible] def E_eqPattern : Env := mkE (tb [(35, K_eqIntS)]) (fun f => false) (fun r => ([], []))
theorem ev_eqPattern (a b a' b' : List Int) (hp : a.length < 4611686018427387904 ∧ b.length < 4611686018427387904 ∧ a'.length < 4611686018427387904 ∧ b'.length < 4611686018427387904) : evF E_eqPattern (1) Try.f20 [.agg [.lst (.int .i64) a, .lst (.int .i64) b], .agg [.lst (.int .i64) a', .lst (.int .i64) b']] [] = some (.bool (decide (a = a' ∧ b = b')), []) := by
  conv => lhs; whnf
  conv => lhs; arg 1; whnf
  refine bnd_g (by exact ⟨hp.1, hp.2.2.1⟩) ?_
  conv => lhs; whnf
  refine br_c (fun h => ?_) (fun h => ?_)
  · conv => lhs; whnf
    simp at h
    simp [h]
  · conv => lhs; whnf
    conv => lhs; arg 1; whnf
    refine bnd_g (by exact ⟨hp.2.1, hp.2.2.2⟩) ?_
    conv => lhs; whnf
    refine br_c (fun h' => ?_) (fun h' => ?_)
    · conv => lhs; whnf
      simp at h h'
      simp [h, h']
    · conv => lhs; whnf
      simp at h h'
      simp [h, h']
theorem ok_eqPattern : FnOk Try.prog 20 K_eqPattern := by
  refine fn_ok (fn := Try.f20) (k := Try.f20.ntmps) (E := E_eqPattern) (facts_of (List.forall_mem_cons.2 ⟨ok_eqIntS, List.forall_mem_nil _⟩)) (by kernel_rfl) rfl (by decide +kernel) (by decide +kernel) ?_
  intro avs hin r h
  unfold K_eqPattern at h
  split at h
  · obtain ⟨hp, rfl⟩ := gd_o h
    exact ⟨_, ev_eqPattern _ _ _ _ hp, rfl⟩
  · cases h

/- laws.FnExactFittingPoints -/
def K_lawFittingPoints : List AV → List Ob → Option (AV × List Ob)
  | [.lst (.lst (.int .i64)) a, .agg [.lst (.int .i64) lo, .lst (.int .i64) hi]], [] => gd ((a.length ≤ maxLen ∧ ∀ x ∈ a, x.length ≤ maxLen) ∧ lo.length ≤ maxLen ∧ hi.length ≤ maxLen) (.bool true, [])
  | _, _ => none
@[reducible] def E_lawFittingPoints : Env := mkE (tb [(21, K_szIntSS), (16, K_szPattern), (23, K_toIntSS), (18, K_toPattern), (50, K_specFittingPoints), (51, K_implFittingPoints), (25, K_eqIntSS), (20, K_eqPattern)]) (fun f => false) (fun r => ([], []))
theorem ev_lawFittingPoints (a : List (List Int)) (lo hi : List Int) (hp : (a.length ≤ maxLen ∧ ∀ x ∈ a, x.length ≤ maxLen) ∧ lo.length ≤ maxLen ∧ hi.length ≤ maxLen) : evF E_lawFittingPoints (1) Try.f10 [.lst (.lst (.int .i64)) a, .agg [.lst (.int .i64) lo, .lst (.int .i64) hi]] [] = some (.bool true, []) := by
  conv => lhs; whnf
  conv => lhs; arg 1; whnf
  refine bnd_g (by exact ⟨⟨by omega, by omega⟩, hp.1⟩) ?_
  conv => lhs; whnf
  refine br_c (fun h1 => ?_) (fun h1 => ?_)
  · conv => lhs; whnf
  · conv => lhs; whnf
    obtain ⟨s1, s2, l1, l2⟩ := szSS_ok (by omega) (ofn h1)
    have l3 : ∀ x ∈ a, x.length ≤ 1048576 := fun x hx => by have := l2 x hx; omega
    have l4 : ∀ x ∈ a, x.length < 4611686018427387904 := fun x hx => by have := l2 x hx; omega
    conv => lhs; arg 1; whnf
    refine bnd_g (by exact ⟨s1, s2, hp.2⟩) ?_
    conv => lhs; whnf
    refine br_c (fun h2 => ?_) (fun h2 => ?_)
    · conv => lhs; whnf
    · conv => lhs; whnf
      obtain ⟨e2, l5⟩ := szI_ok (ofn h2)
      conv => lhs; arg 1; whnf
      refine bnd_g (by exact ⟨by omega, l3⟩) ?_
      conv => lhs; whnf
      conv => lhs; arg 1; whnf
      refine bnd_g (by exact ⟨by omega, by omega⟩) ?_
      conv => lhs; whnf
      conv => lhs; arg 1; whnf
      refine bnd_g (by exact ⟨⟨by omega, l3⟩, by omega, by omega⟩) ?_
      conv => lhs; whnf
      repeat ((first | with_reducible apply br_tt | with_reducible apply br_ff | with_reducible apply br_nf | with_reducible apply br_nt | with_reducible refine br_d ?_ (by kernel_rfl) | with_reducible refine br_f (by simp; done) ?_); conv => lhs; whnf)
      conv => lhs; arg 1; whnf
      refine bnd_g (by exact ⟨by omega, l3⟩) ?_
      conv => lhs; whnf
      conv => lhs; arg 1; whnf
      refine bnd_g (by exact ⟨by omega, by omega⟩) ?_
      conv => lhs; whnf
      conv => lhs; arg 1; whnf
      refine bnd_g (by exact ⟨⟨by omega, l3⟩, by omega, by omega⟩) ?_
      conv => lhs; whnf
      repeat ((first | with_reducible apply br_tt | with_reducible apply br_ff | with_reducible apply br_nf | with_reducible apply br_nt | with_reducible refine br_d ?_ (by kernel_rfl) | with_reducible refine br_f (by simp; done) ?_); conv => lhs; whnf)
      conv => lhs; arg 1; whnf
      refine bnd_g (by exact ⟨by omega, l3⟩) ?_
      conv => lhs; whnf
      conv => lhs; arg 1; whnf
      refine bnd_g (by exact ⟨⟨by omega, by omega⟩, l4, l4⟩) ?_
      conv => lhs; whnf
      repeat ((first | with_reducible apply br_tt | with_reducible apply br_ff | with_reducible apply br_nf | with_reducible apply br_nt | with_reducible refine br_d ?_ (by kernel_rfl) | with_reducible refine br_f (by simp; done) ?_); conv => lhs; whnf)
      conv => lhs; arg 1; whnf
      refine bnd_g (by exact ⟨by omega, by omega⟩) ?_
      conv => lhs; whnf
      conv => lhs; arg 1; whnf
      refine bnd_g (by exact ⟨by omega, by omega, by omega, by omega⟩) ?_
      conv => lhs; whnf
      repeat ((first | with_reducible apply br_tt | with_reducible apply br_ff | with_reducible apply br_nf | with_reducible apply br_nt | with_reducible refine br_d ?_ (by kernel_rfl) | with_reducible refine br_f (by simp; done) ?_); conv => lhs; whnf)
theorem ok_lawFittingPoints : FnOk Try.prog 10 K_lawFittingPoints := by
  refine fn_ok (fn := Try.f10) (k := Try.f10.ntmps) (E := E_lawFittingPoints) (facts_of (List.forall_mem_cons.2 ⟨ok_szIntSS, List.forall_mem_cons.2 ⟨ok_szPattern, List.forall_mem_cons.2 ⟨ok_toIntSS, List.forall_mem_cons.2 ⟨ok_toPattern, List.forall_mem_cons.2 ⟨ok_specFittingPoints, List.forall_mem_cons.2 ⟨ok_implFittingPoints, List.forall_mem_cons.2 ⟨ok_eqIntSS, List.forall_mem_cons.2 ⟨ok_eqPattern, List.forall_mem_nil _⟩⟩⟩⟩⟩⟩⟩⟩)) (by kernel_rfl) rfl (by decide +kernel) (by decide +kernel) ?_
  intro avs hin r h
  unfold K_lawFittingPoints at h
  split at h
  · obtain ⟨hp, rfl⟩ := gd_o h
    exact ⟨_, ev_lawFittingPoints _ _ _ hp, rfl⟩
  · cases h

end Go.Sym
