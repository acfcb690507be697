/- Functions of the program, each told as a plain equation. -/
import Derived.Test.YtiihfodcocihjaaDoorSymCptC
namespace Go.Sym
open Go.Proofs
set_option linter.unusedVariables false
set_option linter.unusedSimpArgs false
set_option maxRecDepth 100000
set_option maxHeartbeats 4000000

def sumB (f : Nat → Bool) : Nat → Nat → Int → Int
  | 0, _, q => q
  | d + 1, i, q => sumB f d (i + 1) (q + bif f i then 1 else 0)
theorem sumB_le (f : Nat → Bool) : ∀ (d i : Nat) (q : Int), q ≤ sumB f d i q ∧ sumB f d i q ≤ q + d
  | 0, i, q => by simp [sumB]
  | d + 1, i, q => by
    have h := sumB_le f d (i + 1) (q + bif f i then 1 else 0)
    rw [sumB]
    cases hf : f i <;> rw [hf] at h <;> simp only [cond_true, cond_false] at h ⊢ <;> omega
theorem sumB_none (f : Nat → Bool) : ∀ (d i : Nat) (q : Int), (∀ j, i ≤ j → f j = false) → sumB f d i q = q
  | 0, i, q, _ => rfl
  | d + 1, i, q, h => by
    rw [sumB, h i (Nat.le_refl _), cond_false, Int.add_zero]
    exact sumB_none f d (i + 1) q fun j hj => h j (by omega)
theorem sumB_cut (f g : Nat → Bool) (n : Nat) : ∀ (d c i : Nat) (q : Int), i + d = n → (∀ j, j < n → f j = g j) → (∀ j, n ≤ j → g j = false) → sumB g (d + c) i q = sumB f d i q
  | 0, c, i, q, h1, h2, h3 => by
    rw [Nat.zero_add]
    exact sumB_none g c i q fun j hj => h3 j (by omega)
  | d + 1, c, i, q, h1, h2, h3 => by
    rw [show d + 1 + c = (d + c) + 1 by omega, sumB, sumB, ← h2 i (by omega)]
    exact sumB_cut f g n d c (i + 1) _ (by omega) h2 h3
abbrev elC (l : List (Int × Int)) (a : Int) : Int × Int := l.getD a.toNat (0, 0)
def inC (l : List (Int × Int)) (a : Int) : Bool := decide (0 ≤ a ∧ a ≤ (l.length : Int) - 1)
theorem concF_len (m : Int) (b : List Int) : (concF m b).length ≤ 64 := by
  unfold concF
  cases h : isCtx m b with
  | false => simp
  | true =>
    have hl := isCtx_len h
    obtain ⟨h1, h2, h3, h4, h5⟩ := lec_all ⟨m.toNat, by omega⟩
    simp only at h2
    have hpw := pow64 (n := m.toNat) (by omega)
    have := List.length_filter_le (closedI m b) (lecI m.toNat)
    rw [cond_true, List.length_map]
    omega
theorem concF_mem {m : Int} {b : List Int} {p : Int × Int} (h : p ∈ concF m b) : isCtx m b = true ∧ isSet m p.2 = true ∧ isSet b.length p.1 = true ∧ p.1 = extF b p.2 ∧ intentF m b p.1 = p.2 := by
  unfold concF at h
  cases hc : isCtx m b with
  | false => rw [hc] at h; cases h
  | true =>
    rw [hc, cond_true] at h
    obtain ⟨x, hx, rfl⟩ := List.mem_map.1 h
    have hx := List.mem_filter.1 hx
    have hl := isCtx_len hc
    obtain ⟨hs, s, rfl, hlt⟩ := lecI_isSet ⟨by omega, by omega⟩ hx.1
    have hr := isSet_le hs
    refine ⟨rfl, hs, ext_isSet hl.1 (ctx_small hc) (by omega), rfl, ?_⟩
    have := hx.2
    unfold closedI at this
    exact eq_of_beq this
theorem inC_iff {l : List (Int × Int)} {a : Int} : inC l a = true ↔ 0 ≤ a ∧ a < (l.length : Int) := by
  unfold inC
  rw [decide_eq_true_eq]
  omega
theorem concF_at {m : Int} {b : List Int} {a : Int} (h : inC (concF m b) a = true) : isCtx m b = true ∧ isSet m (elC (concF m b) a).2 = true ∧ isSet b.length (elC (concF m b) a).1 = true ∧ (elC (concF m b) a).1 = extF b (elC (concF m b) a).2 ∧ intentF m b (elC (concF m b) a).1 = (elC (concF m b) a).2 := by
  have h := inC_iff.1 h
  exact concF_mem (mem_getD (by omega))
def cofF (m : Int) (b : List Int) (a : Int) : Int × Int := bif inC (concF m b) a then elC (concF m b) a else (0, 0)
def stAt (m : Int) (b : List Int) (p : Int × Int) (s : Nat) : Bool := (band (s : Int) p.1 == (s : Int)) && (intentF m b (s : Int) == p.2)
def stNum (m : Int) (b : List Int) (p : Int × Int) : Int := sumB (stAt m b p) (p.1.toNat + 1) 0 0
def powC (s : Int) : Int := ((2 ^ (cntF s).toNat : Nat) : Int)
theorem cntF_rng (s : Int) : 0 ≤ cntF s ∧ cntF s ≤ 8 := by
  unfold cntF
  have := popF_le 8 s.toNat
  split <;> omega
theorem powC_shl (s : Int) : IntKind.i64.wrap (1 * 2 ^ min (cntF s).toNat IntKind.i64.bits) = powC s := by
  have h := cntF_rng s
  obtain ⟨n, hn⟩ : ∃ n : Nat, cntF s = n := ⟨(cntF s).toNat, by omega⟩
  unfold powC
  rw [hn]
  exact shl1 (by omega)
theorem powC_shlu (s : Int) : IntKind.i64.wrap (1 * 2 ^ min (IntKind.u64.wrap (cntF s)).toNat IntKind.i64.bits) = powC s := by
  have h := cntF_rng s
  rw [wrapu (by omega) (by omega)]
  exact powC_shl s
def stabF (m : Int) (b : List Int) (a : Int) : Int × Int := bif inC (concF m b) a then (stNum m b (elC (concF m b) a), powC (elC (concF m b) a).1) else (0, 0)
/- spec.l6Exists -/
def K_l6Exists : List AV → List Ob → Option (AV × List Ob)
  | [.lst (.pair (.int .i64) (.int .i64)) l, .int .i64 a], [] => gd (l.length ≤ 64) (.bool (inC l a), [])
  | _, _ => none
@[reducible] def E_l6Exists : Env := mkE (tb [(97, K_l1In)]) (fun f => false) (fun r => ([], []))
theorem ev_l6Exists (l : List (Int × Int)) (a : Int) (hp : l.length ≤ 64) : evF E_l6Exists (1) Tryd.f75 [.lst (.pair (.int .i64) (.int .i64)) l, .int .i64 a] [] = some (.bool (inC l a), []) := by
  conv => lhs; whnf
  conv => lhs; arg 1; whnf
  refine bnd_g (by exact True.intro) ?_
  conv => lhs; whnf
  refine okB ?_
  unfold inC
  rw [wrap64 (by omega) (by omega)]
theorem ok_l6Exists : FnOk Tryd.prog 75 K_l6Exists := by
  refine fn_ok (fn := Tryd.f75) (k := Tryd.f75.ntmps) (E := E_l6Exists) (facts_of (List.forall_mem_cons.2 ⟨ok_l1In, List.forall_mem_nil _⟩)) (by kernel_rfl) rfl (by decide +kernel) (by decide +kernel) ?_
  intro avs hin r h
  unfold K_l6Exists at h
  split at h
  · obtain ⟨hp, rfl⟩ := gd_o h
    exact ⟨_, ev_l6Exists _ _ hp, rfl⟩
  · cases h

/- spec.l1Bit -/
def K_l1Bit : List AV → List Ob → Option (AV × List Ob)
  | [.bool x], [] => gd (True) (.int .i64 (bif x then 1 else 0), [])
  | _, _ => none
@[reducible] def E_l1Bit : Env := mkE (tb []) (fun f => false) (fun r => ([], []))
theorem ev_l1Bit (x : Bool) (hp : True) : evF E_l1Bit (1) Tryd.f90 [.bool x] [] = some (.int .i64 (bif x then 1 else 0), []) := by
  conv => lhs; whnf
  refine br_c (fun h => ?_) (fun h => ?_)
  · conv => lhs; whnf
    rw [h]
    rfl
  · conv => lhs; whnf
    rw [h]
    rfl
theorem ok_l1Bit : FnOk Tryd.prog 90 K_l1Bit := by
  refine fn_ok (fn := Tryd.f90) (k := Tryd.f90.ntmps) (E := E_l1Bit) (facts_of (List.forall_mem_nil _)) (by kernel_rfl) rfl (by decide +kernel) (by decide +kernel) ?_
  intro avs hin r h
  unfold K_l1Bit at h
  split at h
  · obtain ⟨hp, rfl⟩ := gd_o h
    exact ⟨_, ev_l1Bit _ hp, rfl⟩
  · cases h

/- spec.StabilityOf -/
def K_specStability : List AV → List Ob → Option (AV × List Ob)
  | [.agg [.int .i64 m, .lst (.int .i64) b], .int .i64 a], [] => gd (b.length ≤ 1048576) (.tup [.int .i64 (stabF m b a).1, .int .i64 (stabF m b a).2], [])
  | _, _ => none
@[reducible] def E_specStability : Env := mkE (tb [(74, K_specConcepts), (75, K_l6Exists), (91, K_specIntent), (90, K_l1Bit), (87, K_specCountOf)]) (fun f => false) (fun r => bif r == 6 then ([1, 2, 6, 7, 8], [1, 6, 7]) else ([], []))
theorem lp_specStability (m : Int) (b : List Int) (a : Int) (hc : isCtx m b = true) (l : List (Int × Int)) (ha : 0 ≤ a ∧ a < (l.length : Int)) (hl : l.length ≤ 64) (hE : 0 ≤ (elC l a).1 ∧ (elC l a).1 ≤ 255) (k : AX → S → Option (AV × List Ob)) (d : Nat) : ∀ (n i : Nat) (x q : Int), ((elC l a).1.toNat + 1) - i = d → i ≤ (elC l a).1.toNat + 1 → x = i → d < n → 0 ≤ q → q ≤ i →
    lpAt E_specStability (lp E_specStability 0 n) 0 (loopAt Tryd.f36 0) (mkS [1, 2, 6, 7, 8] [.int .i64 a, .ptr 0 0, .own 1, .int .i64 q, .int .i64 x] [some (.box 35 [.int .i64 m, .lst (.int .i64) b]), some (.row 84 (.pair (.int .i64) (.int .i64)) l)]) k =
      k (.exit 0) (mkS [1, 6, 7] [.int .i64 a, .own 0, .int .i64 (sumB (stAt m b (elC l a)) d i q)] [some (.row 84 (.pair (.int .i64) (.int .i64)) l)]) := by
  have hlen := isCtx_len hc
  induction d with
  | zero =>
    intro n i x q hd hi hx hn hq hq'
    subst hx
    rw [lpAt_def]
    conv => lhs; whnf
    refine br_t (dt2 (by omega) (by omega)) ?_
    conv => lhs; whnf
    refine br_t (dt (by omega)) ?_
    conv => lhs; whnf
    refine br_f (by exact df (show ¬ (i : Int) ≤ (elC l a).1 by omega)) ?_
    conv => lhs; whnf
    rfl
  | succ d ih =>
    intro n i x q hd hi hx hn hq hq'
    obtain ⟨n, rfl⟩ : ∃ m, n = m + 1 := ⟨n - 1, by omega⟩
    subst hx
    have hb : ∀ z : Bool, 0 ≤ IntKind.i64.wrap (q + bif z then 1 else 0) ∧ IntKind.i64.wrap (q + bif z then 1 else 0) ≤ ((i + 1 : Nat) : Int) ∧ IntKind.i64.wrap (q + bif z then 1 else 0) = q + bif z then 1 else 0 := by
      intro z
      cases z
      · rw [cond_false, wrap64 (by omega) (by omega)]
        exact ⟨by omega, by omega, rfl⟩
      · rw [cond_true, wrap64 (by omega) (by omega)]
        exact ⟨by omega, by omega, rfl⟩
    rw [lpAt_def]
    conv => lhs; whnf
    refine br_t (dt2 (by omega) (by omega)) ?_
    conv => lhs; whnf
    refine br_t (dt (by omega)) ?_
    conv => lhs; whnf
    refine br_t (by exact dt (show (i : Int) ≤ (elC l a).1 by omega)) ?_
    conv => lhs; whnf
    refine br_t (dt2 (by omega) (by omega)) ?_
    conv => lhs; whnf
    refine br_t (dt (by omega)) ?_
    conv => lhs; whnf
    refine br_c (fun h => ?_) (fun h => ?_)
    · have h' : (band (i : Int) (elC l a).1 == (i : Int)) = true := h
      conv => lhs; whnf
      repeat ((first | with_reducible apply br_tt | with_reducible apply br_ff | with_reducible apply br_nf | with_reducible apply br_nt | with_reducible refine br_d ?_ (by kernel_rfl) | with_reducible apply br_t h | with_reducible apply br_f h | with_reducible refine br_t (dt2 (by omega) (by omega)) ?_ | with_reducible refine br_t (dt (by omega)) ?_); conv => lhs; whnf)
      conv => lhs; arg 1; whnf
      refine bnd_g (by exact ⟨hlen.1, by rw [isSet8]; exact dt ⟨by omega, by omega⟩⟩) ?_
      conv => lhs; whnf
      repeat ((first | with_reducible apply br_tt | with_reducible apply br_ff | with_reducible apply br_nf | with_reducible apply br_nt | with_reducible refine br_d ?_ (by kernel_rfl) | with_reducible apply br_t h | with_reducible apply br_f h | with_reducible refine br_t (dt2 (by omega) (by omega)) ?_ | with_reducible refine br_t (dt (by omega)) ?_); conv => lhs; whnf)
      conv => lhs; arg 1; whnf
      refine bnd_g (by exact True.intro) ?_
      conv => lhs; whnf
      repeat ((first | with_reducible apply br_tt | with_reducible apply br_ff | with_reducible apply br_nf | with_reducible apply br_nt | with_reducible refine br_d ?_ (by kernel_rfl)); conv => lhs; whnf)
      refine Eq.trans (ih n (i + 1) _ _ (by omega) (by omega) (by rw [wrap64 (n := (i : Int) + 1) (by omega) (by omega)]; simp) (by omega) (by exact (hb _).1) (by exact (hb _).2.1)) ?_
      rw [sumB, (hb _).2.2]
      have e : stAt m b (elC l a) i = (intentF m b (i : Int) == (elC l a).2) := by
        unfold stAt
        rw [h', Bool.true_and]
      rw [e]
      rfl
    · have h' : (band (i : Int) (elC l a).1 == (i : Int)) = false := h
      conv => lhs; whnf
      repeat ((first | with_reducible apply br_tt | with_reducible apply br_ff | with_reducible apply br_nf | with_reducible apply br_nt | with_reducible refine br_d ?_ (by kernel_rfl) | with_reducible apply br_t h | with_reducible apply br_f h | with_reducible refine br_t (dt2 (by omega) (by omega)) ?_ | with_reducible refine br_t (dt (by omega)) ?_); conv => lhs; whnf)
      conv => lhs; arg 1; whnf
      refine bnd_g (by exact True.intro) ?_
      conv => lhs; whnf
      repeat ((first | with_reducible apply br_tt | with_reducible apply br_ff | with_reducible apply br_nf | with_reducible apply br_nt | with_reducible refine br_d ?_ (by kernel_rfl)); conv => lhs; whnf)
      refine Eq.trans (ih n (i + 1) _ _ (by omega) (by omega) (by rw [wrap64 (n := (i : Int) + 1) (by omega) (by omega)]; simp) (by omega) (by exact (hb false).1) (by exact (hb false).2.1)) ?_
      have e : stAt m b (elC l a) i = false := by
        unfold stAt
        rw [h', Bool.false_and]
      rw [sumB, e, (hb _).2.2]
theorem ev_specStability (m : Int) (b : List Int) (a : Int) (hp : b.length ≤ 1048576) : evF E_specStability (300) Tryd.f36 [.agg [.int .i64 m, .lst (.int .i64) b], .int .i64 a] [] = some (.tup [.int .i64 (stabF m b a).1, .int .i64 (stabF m b a).2], []) := by
  have hl := concF_len m b
  conv => lhs; whnf
  conv => lhs; arg 1; whnf
  refine bnd_g (by exact hp) ?_
  conv => lhs; whnf
  conv => lhs; arg 1; whnf
  refine bnd_g (by exact hl) ?_
  conv => lhs; whnf
  refine br_c (fun h => ?_) (fun h => ?_)
  · unfold stabF
    rw [bnt h]
    conv => lhs; whnf
    rfl
  · have h2 := inC_iff.1 (bnf h)
    obtain ⟨h3, h4, h5, h6, h7⟩ := concF_at (bnf h)
    have h8 := isSet_le h5
    unfold stabF
    rw [bnf h]
    conv => lhs; whnf
    refine (lp_specStability m b a h3 (concF m b) h2 hl ⟨by omega, by omega⟩ _ ((elC (concF m b) a).1.toNat + 1) _ 0 0 0 rfl (by omega) rfl (by change _ < 299; omega) (by omega) (by omega)).trans ?_
    conv => lhs; whnf
    refine br_t (dt2 (by omega) (by omega)) ?_
    conv => lhs; whnf
    refine br_t (dt (by omega)) ?_
    conv => lhs; whnf
    conv => lhs; arg 1; whnf
    refine bnd_g (by exact True.intro) ?_
    conv => lhs; whnf
    have hcn := cntF_rng (elC (concF m b) a).1
    refine br_f (by (change decide (IntKind.u64.wrap (cntF (elC (concF m b) a).1) < 0) = false; rw [wrapu hcn.1 hcn.2]; exact df (by omega))) ?_
    conv => lhs; whnf
    refine congrArg (fun z => some (AV.tup [.int .i64 (stNum m b (elC (concF m b) a)), .int .i64 z], ([] : List Ob))) ?_
    exact powC_shlu _
theorem ok_specStability : FnOk Tryd.prog 36 K_specStability := by
  refine fn_ok (fn := Tryd.f36) (k := Tryd.f36.ntmps) (E := E_specStability) (facts_of (List.forall_mem_cons.2 ⟨ok_specConcepts, List.forall_mem_cons.2 ⟨ok_l6Exists, List.forall_mem_cons.2 ⟨ok_specIntent, List.forall_mem_cons.2 ⟨ok_l1Bit, List.forall_mem_cons.2 ⟨ok_specCountOf, List.forall_mem_nil _⟩⟩⟩⟩⟩)) (by kernel_rfl) rfl (by decide +kernel) (by decide +kernel) ?_
  intro avs hin r h
  unfold K_specStability at h
  split at h
  · obtain ⟨hp, rfl⟩ := gd_o h
    exact ⟨_, ev_specStability _ _ _ hp, rfl⟩
  · cases h

def stAt2 (m : Int) (b : List Int) (p : Int × Int) (s : Nat) : Bool := (bnot (s : Int) p.1 == 0) && (intentF m b (s : Int) == p.2)
theorem bnot_sub {s : Nat} {e : Int} (hs : s < 256) : (bnot (s : Int) e == 0) = (band (s : Int) e == (s : Int)) := by
  rw [Bool.eq_iff_iff, beq_iff_eq, beq_iff_eq]
  exact (sub_iff (by omega) (by omega)).symm
theorem stAt_eq {m : Int} {b : List Int} {p : Int × Int} {s : Nat} (hs : s < 256) : stAt2 m b p s = stAt m b p s := by
  unfold stAt2 stAt
  rw [bnot_sub hs]
theorem stAt_big {m : Int} {b : List Int} {p : Int × Int} (hp : 0 ≤ p.1 ∧ p.1 ≤ 255) {s : Nat} (hs : s < 256) (h : p.1.toNat + 1 ≤ s) : stAt m b p s = false := by
  unfold stAt
  have : (band (s : Int) p.1 == (s : Int)) = false := by
    rw [beq_eq_false_iff_ne]
    intro hb
    obtain ⟨n, hn⟩ : ∃ n : Nat, p.1 = n := ⟨p.1.toNat, by omega⟩
    rw [hn] at hb h hp
    rw [band_nat hs (by omega)] at hb
    have h1 : s &&& n ≤ n := Nat.and_le_right
    omega
  rw [this, Bool.false_and]
theorem sumB_grow {f : Nat → Bool} : ∀ (c d i : Nat) (q : Int), (∀ j, i + d ≤ j → j < i + d + c → f j = false) → sumB f (d + c) i q = sumB f d i q
  | 0, d, i, q, _ => rfl
  | c + 1, 0, i, q, h => by
    rw [Nat.zero_add, sumB, sumB, h i (by omega) (by omega), cond_false, Int.add_zero]
    have := sumB_grow (f := f) c 0 (i + 1) q fun j h1 h2 => h j (by omega) (by omega)
    rw [Nat.zero_add] at this
    exact this
  | c + 1, d + 1, i, q, h => by
    rw [show d + 1 + (c + 1) = (d + (c + 1)) + 1 by omega, sumB, sumB]
    exact sumB_grow (c + 1) d (i + 1) _ fun j h1 h2 => h j (by omega) (by omega)
theorem sumB_congr {f g : Nat → Bool} : ∀ (d i : Nat) (q : Int), (∀ j, i ≤ j → j < i + d → f j = g j) → sumB f d i q = sumB g d i q
  | 0, i, q, _ => rfl
  | d + 1, i, q, h => by
    rw [sumB, sumB, h i (Nat.le_refl _) (by omega)]
    exact sumB_congr d (i + 1) _ fun j h1 h2 => h j (by omega) (by omega)
theorem stNum_eq {m : Int} {b : List Int} {p : Int × Int} {n : Nat} (hn : n ≤ 8) (hp : 0 ≤ p.1 ∧ p.1.toNat < 2 ^ n) : sumB (stAt2 m b p) (2 ^ n) 0 0 = stNum m b p := by
  have h2 : 2 ^ n ≤ 2 ^ 8 := Nat.pow_le_pow_right (by omega) hn
  rw [sumB_congr (g := stAt m b p) _ _ _ fun j _ hj => stAt_eq (by omega)]
  obtain ⟨c, hc⟩ : ∃ c, 2 ^ n = p.1.toNat + 1 + c := ⟨2 ^ n - (p.1.toNat + 1), by omega⟩
  rw [hc]
  exact sumB_grow c _ 0 0 fun j h1 h3 => stAt_big ⟨hp.1, by omega⟩ (by omega) (by omega)
/- (impl.lattice).has -/
def K_latHas : List AV → List Ob → Option (AV × List Ob)
  | [.lst (.pair (.int .i64) (.int .i64)) l, .int .i64 a], [] => gd (l.length ≤ 64) (.bool (inC l a), [])
  | _, _ => none
@[reducible] def E_latHas : Env := mkE (tb [(99, K_within)]) (fun f => false) (fun r => ([], []))
theorem ev_latHas (l : List (Int × Int)) (a : Int) (hp : l.length ≤ 64) : evF E_latHas (1) Tryd.f129 [.lst (.pair (.int .i64) (.int .i64)) l, .int .i64 a] [] = some (.bool (inC l a), []) := by
  conv => lhs; whnf
  conv => lhs; arg 1; whnf
  refine bnd_g (by exact True.intro) ?_
  conv => lhs; whnf
  refine okB ?_
  unfold inC
  rw [wrap64 (by omega) (by omega)]
theorem ok_latHas : FnOk Tryd.prog 129 K_latHas := by
  refine fn_ok (fn := Tryd.f129) (k := Tryd.f129.ntmps) (E := E_latHas) (facts_of (List.forall_mem_cons.2 ⟨ok_within, List.forall_mem_nil _⟩)) (by kernel_rfl) rfl (by decide +kernel) (by decide +kernel) ?_
  intro avs hin r h
  unfold K_latHas at h
  split at h
  · obtain ⟨hp, rfl⟩ := gd_o h
    exact ⟨_, ev_latHas _ _ hp, rfl⟩
  · cases h

/- impl.conceptOf -/
def K_conceptOf : List AV → List Ob → Option (AV × List Ob)
  | [.agg [.int .i64 m, .lst (.int .i64) b], .int .i64 a], [] => gd (b.length ≤ 1048576) (.tup [.agg [.int .i64 (cofF m b a).1, .int .i64 (cofF m b a).2], .bool (inC (concF m b) a)], [])
  | _, _ => none
@[reducible] def E_conceptOf : Env := mkE (tb [(100, K_implConcepts), (129, K_latHas)]) (fun f => false) (fun r => ([], []))
theorem ev_conceptOf (m : Int) (b : List Int) (a : Int) (hp : b.length ≤ 1048576) : evF E_conceptOf (1) Tryd.f78 [.agg [.int .i64 m, .lst (.int .i64) b], .int .i64 a] [] = some (.tup [.agg [.int .i64 (cofF m b a).1, .int .i64 (cofF m b a).2], .bool (inC (concF m b) a)], []) := by
  have hl := concF_len m b
  conv => lhs; whnf
  conv => lhs; arg 1; whnf
  refine bnd_g (by exact hp) ?_
  conv => lhs; whnf
  conv => lhs; arg 1; whnf
  refine bnd_g (by exact hl) ?_
  conv => lhs; whnf
  refine br_c (fun h => ?_) (fun h => ?_)
  · unfold cofF
    rw [bnt h]
    conv => lhs; whnf
    rfl
  · have h2 := inC_iff.1 (bnf h)
    unfold cofF
    rw [bnf h]
    conv => lhs; whnf
    refine br_t (dt2 (by omega) (by omega)) ?_
    conv => lhs; whnf
    refine br_t (dt (by omega)) ?_
    conv => lhs; whnf
    rfl
theorem ok_conceptOf : FnOk Tryd.prog 78 K_conceptOf := by
  refine fn_ok (fn := Tryd.f78) (k := Tryd.f78.ntmps) (E := E_conceptOf) (facts_of (List.forall_mem_cons.2 ⟨ok_implConcepts, List.forall_mem_cons.2 ⟨ok_latHas, List.forall_mem_nil _⟩⟩)) (by kernel_rfl) rfl (by decide +kernel) (by decide +kernel) ?_
  intro avs hin r h
  unfold K_conceptOf at h
  split at h
  · obtain ⟨hp, rfl⟩ := gd_o h
    exact ⟨_, ev_conceptOf _ _ _ hp, rfl⟩
  · cases h

/- impl.StabilityOf -/
def K_implStability : List AV → List Ob → Option (AV × List Ob)
  | [.agg [.int .i64 m, .lst (.int .i64) b], .int .i64 a], [] => gd (b.length ≤ 1048576) (.tup [.int .i64 (stabF m b a).1, .int .i64 (stabF m b a).2], [])
  | _, _ => none
@[reducible] def E_implStability : Env := mkE (tb [(78, K_conceptOf), (92, K_inSet), (93, K_intentOf), (89, K_implCountOf)]) (fun f => false) (fun r => bif r == 6 then ([2, 6, 8, 21, 22], [6, 8]) else ([], []))
theorem lp_implStability (m : Int) (b : List Int) (hc : isCtx m b = true) (p : Int × Int) (N : Nat) (hN : N = 2 ^ b.length) (k : AX → S → Option (AV × List Ob)) (d : Nat) : ∀ (n i : Nat) (x q : Int), N - i = d → i ≤ N → x = i → d < n → 0 ≤ q → q ≤ i →
    lpAt E_implStability (lp E_implStability 0 n) 0 (loopAt Tryd.f37 0) (mkS [2, 6, 8, 21, 22] [.ptr 0 0, .ptr 1 0, .int .i64 q, .int .i64 (N : Int), .int .i64 x] [some (.box 35 [.int .i64 m, .lst (.int .i64) b]), some (.box 84 [.int .i64 p.1, .int .i64 p.2])]) k =
      k (.exit 0) (mkS [6, 8] [.ptr 0 0, .int .i64 (sumB (stAt2 m b p) d i q)] [some (.box 84 [.int .i64 p.1, .int .i64 p.2])]) := by
  have hlen := isCtx_len hc
  have hN8 : N ≤ 256 := by
    have : 2 ^ b.length ≤ 2 ^ 8 := Nat.pow_le_pow_right (by omega) hlen.1
    omega
  induction d with
  | zero =>
    intro n i x q hd hi hx hn hq hq'
    subst hx
    rw [lpAt_def]
    conv => lhs; whnf
    refine br_f (df (by omega)) ?_
    conv => lhs; whnf
    rfl
  | succ d ih =>
    intro n i x q hd hi hx hn hq hq'
    obtain ⟨n, rfl⟩ : ∃ m, n = m + 1 := ⟨n - 1, by omega⟩
    subst hx
    have hset : isSet b.length (i : Int) = true := by
      unfold isSet
      refine dt ⟨by omega, by omega, ?_⟩
      have e2 : ((2 ^ b.length : Nat) : Int) = (2 : Int) ^ b.length := by push_cast; rfl
      rw [Int.toNat_natCast, ← e2]
      omega
    have hb : ∀ z : Bool, 0 ≤ IntKind.i64.wrap (q + bif z then 1 else 0) ∧ IntKind.i64.wrap (q + bif z then 1 else 0) ≤ ((i + 1 : Nat) : Int) ∧ IntKind.i64.wrap (q + bif z then 1 else 0) = q + bif z then 1 else 0 := by
      intro z
      cases z
      · rw [cond_false, wrap64 (by omega) (by omega)]
        exact ⟨by omega, by omega, rfl⟩
      · rw [cond_true, wrap64 (by omega) (by omega)]
        exact ⟨by omega, by omega, rfl⟩
    have hI : (if isCtx m b && isSet b.length (i : Int) then intentF m b (i : Int) else 0) = intentF m b (i : Int) := by rw [hc, hset]; rfl
    rw [lpAt_def]
    conv => lhs; whnf
    refine br_t (dt (by omega)) ?_
    conv => lhs; whnf
    conv => lhs; arg 1; whnf
    refine bnd_g (by exact True.intro) ?_
    conv => lhs; whnf
    refine br_c (fun h => ?_) (fun h => ?_)
    · have h' : (bnot (i : Int) p.1 == 0) = true := h
      conv => lhs; whnf
      repeat ((first | with_reducible apply br_tt | with_reducible apply br_ff | with_reducible apply br_nf | with_reducible apply br_nt | with_reducible refine br_d ?_ (by kernel_rfl) | with_reducible apply br_t h | with_reducible apply br_f h | with_reducible refine br_t (dt2 (by omega) (by omega)) ?_ | with_reducible refine br_t (dt (by omega)) ?_); conv => lhs; whnf)
      conv => lhs; arg 1; whnf
      refine bnd_g (by (change b.length ≤ 1048576; omega)) ?_
      conv => lhs; whnf
      repeat ((first | with_reducible apply br_tt | with_reducible apply br_ff | with_reducible apply br_nf | with_reducible apply br_nt | with_reducible refine br_d ?_ (by kernel_rfl) | with_reducible apply br_t h | with_reducible apply br_f h | with_reducible refine br_t (dt2 (by omega) (by omega)) ?_ | with_reducible refine br_t (dt (by omega)) ?_); conv => lhs; whnf)
      have e : stAt2 m b p i = (intentF m b (i : Int) == p.2) := by
        unfold stAt2
        rw [h', Bool.true_and]
      rw [hI]
      refine br_c (fun h3 => ?_) (fun h3 => ?_)
      · conv => lhs; whnf
        have h3' : (intentF m b (i : Int) == p.2) = true := h3
        refine Eq.trans (ih n (i + 1) _ _ (by omega) (by omega) (by rw [wrap64 (n := (i : Int) + 1) (by omega) (by omega)]; simp) (by omega) (by exact (hb true).1) (by exact (hb true).2.1)) ?_
        rw [sumB, e, h3']
        exact congrArg (fun z => k (.exit 0) (mkS [6, 8] [.ptr 0 0, .int .i64 (sumB (stAt2 m b p) d (i + 1) z)] [some (.box 84 [.int .i64 p.1, .int .i64 p.2])])) (hb true).2.2
      · conv => lhs; whnf
        have h3' : (intentF m b (i : Int) == p.2) = false := h3
        refine Eq.trans (ih n (i + 1) _ _ (by omega) (by omega) (by rw [wrap64 (n := (i : Int) + 1) (by omega) (by omega)]; simp) (by omega) (by omega) (by omega)) ?_
        rw [sumB, e, h3', cond_false, Int.add_zero]
    · have h' : (bnot (i : Int) p.1 == 0) = false := h
      conv => lhs; whnf
      repeat ((first | with_reducible apply br_tt | with_reducible apply br_ff | with_reducible apply br_nf | with_reducible apply br_nt | with_reducible refine br_d ?_ (by kernel_rfl) | with_reducible apply br_t h | with_reducible apply br_f h | with_reducible refine br_t (dt2 (by omega) (by omega)) ?_ | with_reducible refine br_t (dt (by omega)) ?_); conv => lhs; whnf)
      have e : stAt2 m b p i = false := by
        unfold stAt2
        rw [h', Bool.false_and]
      refine Eq.trans (ih n (i + 1) _ _ (by omega) (by omega) (by rw [wrap64 (n := (i : Int) + 1) (by omega) (by omega)]; simp) (by omega) (by omega) (by omega)) ?_
      rw [sumB, e, cond_false, Int.add_zero]
theorem ev_implStability (m : Int) (b : List Int) (a : Int) (hp : b.length ≤ 1048576) : evF E_implStability (300) Tryd.f37 [.agg [.int .i64 m, .lst (.int .i64) b], .int .i64 a] [] = some (.tup [.int .i64 (stabF m b a).1, .int .i64 (stabF m b a).2], []) := by
  have hl := concF_len m b
  conv => lhs; whnf
  conv => lhs; arg 1; whnf
  refine bnd_g (by exact hp) ?_
  conv => lhs; whnf
  refine br_c (fun h => ?_) (fun h => ?_)
  · unfold stabF
    rw [bnt h]
    conv => lhs; whnf
    rfl
  · have h2 := inC_iff.1 (bnf h)
    obtain ⟨h3, h4, h5, h6, h7⟩ := concF_at (bnf h)
    have h8 := isSet_le h5
    have hlen := isCtx_len h3
    obtain ⟨e1, e2, e3⟩ := isSet_ex h5
    rw [Int.toNat_natCast] at e3
    have hpw : 2 ^ b.length ≤ 2 ^ 8 := Nat.pow_le_pow_right (by omega) hlen.1
    unfold stabF cofF
    rw [bnf h]
    conv => lhs; whnf
    refine br_f (df (by omega)) ?_
    conv => lhs; whnf
    rw [shl1 hlen.1]
    refine (lp_implStability m b h3 (elC (concF m b) a) (2 ^ b.length) rfl _ (2 ^ b.length) _ 0 0 0 rfl (Nat.zero_le _) rfl (by change _ < 299; omega) (by omega) (by omega)).trans ?_
    conv => lhs; whnf
    conv => lhs; arg 1; whnf
    refine bnd_g (by exact True.intro) ?_
    conv => lhs; whnf
    have hcn := cntF_rng (elC (concF m b) a).1
    refine br_f (by exact df (show ¬ cntF (elC (concF m b) a).1 < 0 by omega)) ?_
    conv => lhs; whnf
    repeat ((first | with_reducible apply br_tt | with_reducible apply br_ff | with_reducible apply br_nf | with_reducible apply br_nt | with_reducible refine br_d ?_ (by kernel_rfl)); conv => lhs; whnf)
    rw [stNum_eq hlen.1 ⟨by omega, by rw [e2, Int.toNat_natCast]; exact e3⟩]
    exact congrArg (fun z => some (AV.tup [.int .i64 (stNum m b (elC (concF m b) a)), .int .i64 z], ([] : List Ob))) (powC_shl _)
theorem ok_implStability : FnOk Tryd.prog 37 K_implStability := by
  refine fn_ok (fn := Tryd.f37) (k := Tryd.f37.ntmps) (E := E_implStability) (facts_of (List.forall_mem_cons.2 ⟨ok_conceptOf, List.forall_mem_cons.2 ⟨ok_inSet, List.forall_mem_cons.2 ⟨ok_intentOf, List.forall_mem_cons.2 ⟨ok_implCountOf, List.forall_mem_nil _⟩⟩⟩⟩)) (by kernel_rfl) rfl (by decide +kernel) (by decide +kernel) ?_
  intro avs hin r h
  unfold K_implStability at h
  split at h
  · obtain ⟨hp, rfl⟩ := gd_o h
    exact ⟨_, ev_implStability _ _ _ hp, rfl⟩
  · cases h

/- laws.FnExactStabilityOf -/
def K_lawStability : List AV → List Ob → Option (AV × List Ob)
  | [.agg [.int .i64 m, .lst (.int .i64) a], .int .i64 g], [] => gd (a.length ≤ maxLen) (.bool true, [])
  | _, _ => none
@[reducible] def E_lawStability : Env := mkE (tb [(23, K_szContext), (25, K_toContext), (36, K_specStability), (37, K_implStability), (28, K_eqContext)]) (fun f => false) (fun r => ([], []))
theorem ev_lawStability (m : Int) (a : List Int) (g : Int) (hp : a.length ≤ maxLen) : evF E_lawStability (1) Tryd.f7 [.agg [.int .i64 m, .lst (.int .i64) a], .int .i64 g] [] = some (.bool true, []) := by
  conv => lhs; whnf
  conv => lhs; arg 1; whnf
  refine bnd_g (by exact ⟨by omega, by omega, hp⟩) ?_
  conv => lhs; whnf
  refine br_c (fun h1 => ?_) (fun h1 => ?_)
  · conv => lhs; whnf
  · conv => lhs; whnf
    obtain ⟨e1, l1⟩ := szI_ok (ofn h1)
    conv => lhs; arg 1; whnf
    refine bnd_g (by omega) ?_
    conv => lhs; whnf
    conv => lhs; arg 1; whnf
    refine bnd_g (by omega) ?_
    conv => lhs; whnf
    conv => lhs; arg 1; whnf
    refine bnd_g (by omega) ?_
    conv => lhs; whnf
    conv => lhs; arg 1; whnf
    refine bnd_g (by omega) ?_
    conv => lhs; whnf
    repeat ((first | with_reducible apply br_tt | with_reducible apply br_ff | with_reducible apply br_nf | with_reducible apply br_nt | with_reducible refine br_d ?_ (by kernel_rfl) | with_reducible refine br_f (by simp; done) ?_); conv => lhs; whnf)
    conv => lhs; arg 1; whnf
    refine bnd_g (by omega) ?_
    conv => lhs; whnf
    conv => lhs; arg 1; whnf
    refine bnd_g (by exact ⟨by omega, by omega⟩) ?_
    conv => lhs; whnf
    repeat ((first | with_reducible apply br_tt | with_reducible apply br_ff | with_reducible apply br_nf | with_reducible apply br_nt | with_reducible refine br_d ?_ (by kernel_rfl) | with_reducible refine br_f (by simp; done) ?_); conv => lhs; whnf)
theorem ok_lawStability : FnOk Tryd.prog 7 K_lawStability := by
  refine fn_ok (fn := Tryd.f7) (k := Tryd.f7.ntmps) (E := E_lawStability) (facts_of (List.forall_mem_cons.2 ⟨ok_szContext, List.forall_mem_cons.2 ⟨ok_toContext, List.forall_mem_cons.2 ⟨ok_specStability, List.forall_mem_cons.2 ⟨ok_implStability, List.forall_mem_cons.2 ⟨ok_eqContext, List.forall_mem_nil _⟩⟩⟩⟩⟩)) (by kernel_rfl) rfl (by decide +kernel) (by decide +kernel) ?_
  intro avs hin r h
  unfold K_lawStability at h
  split at h
  · obtain ⟨hp, rfl⟩ := gd_o h
    exact ⟨_, ev_lawStability _ _ _ hp, rfl⟩
  · cases h

end Go.Sym
