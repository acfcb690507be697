/- Functions of the program, each told as a plain equation. -/
import Derived.Test.YtiihfodcocihjaaDoorSymFStabilityOf
namespace Go.Sym
open Go.Proofs
set_option linter.unusedVariables false
set_option linter.unusedSimpArgs false
set_option maxRecDepth 100000
set_option maxHeartbeats 4000000

def dupF (b : List Int) (e : Int) : Bool := !allB (fun j => !(colF b j == colF b e)) e.toNat 0
theorem any_take (l : List Int) (p : Int → Bool) : ∀ (e : Nat), e ≤ l.length → (l.take e).any p = !allB (fun j => !p (l.getD j 0)) e 0 := by
  intro e he
  rw [Bool.eq_iff_iff, List.any_eq_true, Bool.not_eq_true', ← Bool.not_eq_true, allB_iff]
  constructor
  · rintro ⟨x, hx, hp⟩ h
    obtain ⟨j, hj, rfl⟩ := List.mem_take_iff_getElem.1 hx
    have h1 := h j (by omega) (by omega)
    have h2 : l.getD j 0 = l[j] := by rw [List.getD_eq_getElem?_getD, List.getElem?_eq_getElem (by omega)]; rfl
    rw [h2, hp] at h1
    cases h1
  · intro h
    have h := Classical.not_forall.1 h
    obtain ⟨j, hj⟩ := h
    have hj := Classical.not_imp.1 hj
    have hj2 := Classical.not_imp.1 hj.2
    have h2 : l.getD j 0 = l[j]'(by omega) := by rw [List.getD_eq_getElem?_getD, List.getElem?_eq_getElem (by omega)]; rfl
    refine ⟨l[j]'(by omega), List.mem_take_iff_getElem.2 ⟨j, by omega, rfl⟩, ?_⟩
    rw [← h2]
    simpa using hj2.2
theorem rep_dup {m : Int} {b : List Int} {e : Int} (h : attrOk m b e = true) : hasE (repF (colsF m b)) e = dupF b e := by
  unfold attrOk at h
  have h2 := Bool.and_eq_true_iff.1 h
  have hl := isCtx_len h2.1
  have hd := ofd h2.2
  obtain ⟨n, rfl⟩ : ∃ n : Nat, e = n := ⟨e.toNat, by omega⟩
  have hlen : (colsF m b).length = m.toNat := colsL_length b _ _
  unfold repF
  rw [hasE_orF _ (by rw [hlen]; omega) (by rw [hlen]; omega)]
  unfold repAt dupF
  rw [Int.toNat_natCast, any_take _ _ _ (by rw [hlen]; omega)]
  congr 1
  refine allB_ext _ 0 (fun j h1 h2 => ?_)
  unfold colsF
  rw [colsL_get b _ 0 n (by omega), colsL_get b _ 0 j (by omega), Nat.zero_add, Nat.zero_add]
  congr 1
  rw [Bool.eq_iff_iff, beq_iff_eq, beq_iff_eq]
  exact ⟨fun h => h.symm, fun h => h.symm⟩
def vecF (m : Int) (b : List Int) (e : Int) : Int × Int × Bool := bif attrOk m b e then (bif dupF b e || reducF m b e then (0, 0, true) else (2 * e + 1 - m, 1, true)) else (0, 0, false)
abbrev w64 (x : Int) : Int := IntKind.i64.wrap x
def spL (m : Int) (b : List Int) : List Int → Int → Int → Int × Int
  | [], x, y => (x, y)
  | e :: l, x, y => spL m b l (w64 (x + (vecF m b e).1)) (w64 (y + (vecF m b e).2.1))
def spotF (m : Int) (b : List Int) (a : Int) : Int × Int := bif inC (concF m b) a then spL m b (elemsF (elC (concF m b) a).2) 0 0 else (0, 0)
theorem elemsL_off (s : Int) : ∀ (d i : Nat), (∀ j, i ≤ j → j < i + d → hasE s j = false) → elemsL s d i = []
  | 0, i, _ => rfl
  | d + 1, i, h => by
    rw [elemsL, h i (by omega) (by omega), cond_false]
    exact elemsL_off s d (i + 1) fun j h1 h2 => h j (by omega) (by omega)
theorem elemsL_add (s : Int) : ∀ (d c i : Nat), elemsL s (d + c) i = elemsL s d i ++ elemsL s c (i + d)
  | 0, c, i => by rw [Nat.zero_add]; rfl
  | d + 1, c, i => by
    rw [show d + 1 + c = (d + c) + 1 by omega, elemsL, elemsL, elemsL_add s d c (i + 1), show i + 1 + d = i + (d + 1) by omega]
    cases hasE s i <;> rfl
theorem isSet_8' {n s : Int} (h : isSet n s = true) : isSet 8 s = true := by
  have := isSet_le h
  rw [isSet8]
  exact dt ⟨by omega, by omega⟩
theorem elems_cut {m : Nat} {s : Int} (hm : m ≤ 8) (h : isSet m s = true) : elemsF s = elemsL s m 0 := by
  unfold elemsF
  obtain ⟨c, hc⟩ : ∃ c, 8 = m + c := ⟨8 - m, by omega⟩
  rw [hc, elemsL_add, elemsL_off s c, List.append_nil]
  intro j h1 h2
  rw [hasE_bit (isSet_8' h) (by omega) (by omega)]
  exact isSet_bit h (by omega)
/- spec.l3Column -/
def K_l3Column : List AV → List Ob → Option (AV × List Ob)
  | [.agg [.int .i64 m, .lst (.int .i64) b], .int .i64 e], [] => gd ((0 ≤ e ∧ e ≤ 8) ∧ b.length ≤ 8 ∧ ∀ x ∈ b, 0 ≤ x ∧ x ≤ 255) (.int .i64 (colF b e), [])
  | _, _ => none
@[reducible] def E_l3Column : Env := mkE (tb [(86, K_l2Has)]) (fun f => false) (fun r => bif r == 3 then ([1, 2, 5, 6], [5]) else ([], []))
theorem lp_l3Column (m : Int) (b : List Int) (e : Int) (hb : b.length ≤ 8) (hs : ∀ x ∈ b, 0 ≤ x ∧ x ≤ 255) (he : 0 ≤ e ∧ e ≤ 8) (k : AX → S → Option (AV × List Ob)) (d : Nat) : ∀ (n i : Nat) (x q : Int), b.length - i = d → i ≤ b.length → x = i → d < n →
    lpAt E_l3Column (lp E_l3Column 0 n) 0 (loopAt Tryd.f148 0) (mkS [1, 2, 5, 6] [.int .i64 e, .ptr 0 0, .int .i64 q, .int .i64 x] [some (.box 35 [.int .i64 m, .lst (.int .i64) b])]) k =
      k (.exit 0) (mkS [5] [.int .i64 (orF (bitAt b e) d i q)] []) := by
  induction d with
  | zero =>
    intro n i x q hd hi hx hn
    subst hx
    rw [lpAt_def]
    conv => lhs; whnf
    refine br_f (df (by omega)) ?_
    conv => lhs; whnf
    rfl
  | succ d ih =>
    intro n i x q hd hi hx hn
    obtain ⟨n, rfl⟩ : ∃ m, n = m + 1 := ⟨n - 1, by omega⟩
    subst hx
    rw [lpAt_def]
    conv => lhs; whnf
    refine br_t (dt (by omega)) ?_
    conv => lhs; whnf
    refine br_t (dt2 (by omega) (by omega)) ?_
    conv => lhs; whnf
    conv => lhs; arg 1; whnf
    refine bnd_g (by exact ⟨hs _ (mem_getD (by omega)), he⟩) ?_
    conv => lhs; whnf
    refine br_c (fun h => ?_) (fun h => ?_)
    · have h' : bitAt b e i = true := h
      conv => lhs; whnf
      refine br_f (by (rw [wrapu (n := (i : Int)) (by omega) (by omega)]; exact df (by omega))) ?_
      conv => lhs; whnf
      rw [shl1u (by omega)]
      rw [ih n (i + 1) _ _ (by omega) (by omega) (by rw [wrap64 (by omega) (by omega)]; simp) (by omega)]
      rw [orF, h', cond_true]
      rfl
    · have h' : bitAt b e i = false := h
      conv => lhs; whnf
      rw [ih n (i + 1) _ _ (by omega) (by omega) (by rw [wrap64 (by omega) (by omega)]; simp) (by omega)]
      rw [orF, h', cond_false]
theorem ev_l3Column (m : Int) (b : List Int) (e : Int) (hp : (0 ≤ e ∧ e ≤ 8) ∧ b.length ≤ 8 ∧ ∀ x ∈ b, 0 ≤ x ∧ x ≤ 255) : evF E_l3Column (20) Tryd.f148 [.agg [.int .i64 m, .lst (.int .i64) b], .int .i64 e] [] = some (.int .i64 (colF b e), []) := by
  conv => lhs; whnf
  refine (lp_l3Column m b e hp.2.1 hp.2.2 hp.1 _ b.length _ 0 0 _ rfl (by omega) rfl (by have := hp.2.1; change _ < 19; omega)).trans ?_
  conv => lhs; whnf
  rfl
theorem ok_l3Column : FnOk Tryd.prog 148 K_l3Column := by
  refine fn_ok (fn := Tryd.f148) (k := Tryd.f148.ntmps) (E := E_l3Column) (facts_of (List.forall_mem_cons.2 ⟨ok_l2Has, List.forall_mem_nil _⟩)) (by kernel_rfl) rfl (by decide +kernel) (by decide +kernel) ?_
  intro avs hin r h
  unfold K_l3Column at h
  split at h
  · obtain ⟨hp, rfl⟩ := gd_o h
    exact ⟨_, ev_l3Column _ _ _ hp, rfl⟩
  · cases h

/- spec.IsReducibleAttribute -/
def K_specIsReducible : List AV → List Ob → Option (AV × List Ob)
  | [.agg [.int .i64 m, .lst (.int .i64) b], .int .i64 e], [] => gd (b.length ≤ 1048576) (.bool (attrOk m b e && reducF m b e), [])
  | _, _ => none
@[reducible] def E_specIsReducible : Env := mkE (tb [(104, K_specIsContext), (97, K_l1In), (148, K_l3Column), (76, K_specFullSet)]) (fun f => false) (fun r => bif r == 6 then ([2, 5, 6, 7], [5, 6]) else ([], []))
theorem lp_specIsReducible (m : Int) (b : List Int) (hc : isCtx m b = true) (own : Int) (ho : 0 ≤ own ∧ own ≤ 255) (k : AX → S → Option (AV × List Ob)) (d : Nat) : ∀ (n i : Nat) (x q : Int), m.toNat - i = d → i ≤ m.toNat → x = i → d < n →
    lpAt E_specIsReducible (lp E_specIsReducible 0 n) 0 (loopAt Tryd.f149 0) (mkS [2, 5, 6, 7] [.ptr 0 0, .int .i64 own, .int .i64 q, .int .i64 x] [some (.box 35 [.int .i64 m, .lst (.int .i64) b])]) k =
      k (.exit 0) (mkS [5, 6] [.int .i64 own, .int .i64 (beyondF own (colsL b d i) q)] []) := by
  have hl := isCtx_len hc
  have hS : ∀ x ∈ b, 0 ≤ x ∧ x ≤ 255 := fun x hx => by have := isSet_le (hl.2.2.2 x hx); omega
  have hs : isSet 8 own = true := by rw [isSet8]; exact dt ho
  induction d with
  | zero =>
    intro n i x q hd hi hx hn
    subst hx
    rw [lpAt_def]
    conv => lhs; whnf
    refine br_f (df (by omega)) ?_
    conv => lhs; whnf
    rfl
  | succ d ih =>
    intro n i x q hd hi hx hn
    obtain ⟨n, rfl⟩ : ∃ m, n = m + 1 := ⟨n - 1, by omega⟩
    subst hx
    have e0 : (band (colF b i) own == own) = (bnot own (colF b i) == 0) := by rw [band_comm]; exact beq_bnot hs
    rw [lpAt_def]
    conv => lhs; whnf
    refine br_t (dt (by omega)) ?_
    conv => lhs; whnf
    conv => lhs; arg 1; whnf
    refine bnd_g (by exact ⟨by omega, hl.1, hS⟩) ?_
    conv => lhs; whnf
    refine br_c (fun h => ?_) (fun h => ?_)
    · have h' : (colF b i != own) = true := h
      conv => lhs; whnf
      repeat ((first | with_reducible apply br_tt | with_reducible apply br_ff | with_reducible apply br_nf | with_reducible apply br_nt | with_reducible refine br_d ?_ (by kernel_rfl) | with_reducible apply br_t h | with_reducible apply br_f h); conv => lhs; whnf)
      refine br_c (fun h2 => ?_) (fun h2 => ?_)
      · have h2' : (bnot own (colF b i) == 0) = true := e0 ▸ h2
        conv => lhs; whnf
        rw [ih n (i + 1) _ _ (by omega) (by omega) (by rw [wrap64 (by omega) (by omega)]; simp) (by omega)]
        rw [colsL, beyondF, h', h2']
        rfl
      · have h2' : (bnot own (colF b i) == 0) = false := e0 ▸ h2
        conv => lhs; whnf
        rw [ih n (i + 1) _ _ (by omega) (by omega) (by rw [wrap64 (by omega) (by omega)]; simp) (by omega)]
        rw [colsL, beyondF, h', h2']
        rfl
    · have h' : (colF b i != own) = false := h
      conv => lhs; whnf
      repeat ((first | with_reducible apply br_tt | with_reducible apply br_ff | with_reducible apply br_nf | with_reducible apply br_nt | with_reducible refine br_d ?_ (by kernel_rfl) | with_reducible apply br_t h | with_reducible apply br_f h); conv => lhs; whnf)
      rw [ih n (i + 1) _ _ (by omega) (by omega) (by rw [wrap64 (by omega) (by omega)]; simp) (by omega)]
      rw [colsL, beyondF, h']
      rfl
theorem ev_specIsReducible (m : Int) (b : List Int) (e : Int) (hp : b.length ≤ 1048576) : evF E_specIsReducible (20) Tryd.f149 [.agg [.int .i64 m, .lst (.int .i64) b], .int .i64 e] [] = some (.bool (attrOk m b e && reducF m b e), []) := by
  conv => lhs; whnf
  conv => lhs; arg 1; whnf
  refine bnd_g (by omega) ?_
  conv => lhs; whnf
  refine br_c (fun h => ?_) (fun h => ?_)
  · conv => lhs; whnf
    repeat ((first | with_reducible apply br_tt | with_reducible apply br_ff | with_reducible apply br_nf | with_reducible apply br_nt | with_reducible refine br_d ?_ (by kernel_rfl) | with_reducible apply br_t h | with_reducible apply br_f h); conv => lhs; whnf)
    refine okB ?_
    unfold attrOk
    rw [bnt h]
    rfl
  · have hl := isCtx_len (bnf h)
    have hw : IntKind.i64.wrap (m - 1) = m - 1 := wrap64 (by omega) (by omega)
    conv => lhs; whnf
    repeat ((first | with_reducible apply br_tt | with_reducible apply br_ff | with_reducible apply br_nf | with_reducible apply br_nt | with_reducible refine br_d ?_ (by kernel_rfl) | with_reducible apply br_t h | with_reducible apply br_f h); conv => lhs; whnf)
    conv => lhs; arg 1; whnf
    refine bnd_g (by exact True.intro) ?_
    conv => lhs; whnf
    repeat ((first | with_reducible apply br_tt | with_reducible apply br_ff | with_reducible apply br_nf | with_reducible apply br_nt | with_reducible refine br_d ?_ (by kernel_rfl) | with_reducible apply br_t h | with_reducible apply br_f h); conv => lhs; whnf)
    refine br_c (fun h2 => ?_) (fun h2 => ?_)
    · have h2' := ofnt h2
      rw [hw] at h2'
      conv => lhs; whnf
      refine okB ?_
      unfold attrOk
      rw [df h2', Bool.and_false]
      rfl
    · have h2' := ofnf h2
      rw [hw] at h2'
      have hs : ∀ x ∈ b, 0 ≤ x ∧ x ≤ 255 := fun x hx => by have := isSet_le (hl.2.2.2 x hx); omega
      have hcs := colF_set b e hl.1
      conv => lhs; whnf
      conv => lhs; arg 1; whnf
      refine bnd_g (by exact ⟨by omega, hl.1, hs⟩) ?_
      conv => lhs; whnf
      conv => lhs; arg 1; whnf
      refine bnd_g (by exact True.intro) ?_
      conv => lhs; whnf
      refine (lp_specIsReducible m b (bnf h) (colF b e) hcs _ m.toNat _ 0 0 _ rfl (by omega) rfl (by change _ < 19; omega)).trans ?_
      conv => lhs; whnf
      refine okB ?_
      unfold attrOk
      rw [bnf h, dt h2']
      rfl
theorem ok_specIsReducible : FnOk Tryd.prog 149 K_specIsReducible := by
  refine fn_ok (fn := Tryd.f149) (k := Tryd.f149.ntmps) (E := E_specIsReducible) (facts_of (List.forall_mem_cons.2 ⟨ok_specIsContext, List.forall_mem_cons.2 ⟨ok_l1In, List.forall_mem_cons.2 ⟨ok_l3Column, List.forall_mem_cons.2 ⟨ok_specFullSet, List.forall_mem_nil _⟩⟩⟩⟩)) (by kernel_rfl) rfl (by decide +kernel) (by decide +kernel) ?_
  intro avs hin r h
  unfold K_specIsReducible at h
  split at h
  · obtain ⟨hp, rfl⟩ := gd_o h
    exact ⟨_, ev_specIsReducible _ _ _ hp, rfl⟩
  · cases h

/- spec.AttributeVector -/
def K_specAttributeVector : List AV → List Ob → Option (AV × List Ob)
  | [.agg [.int .i64 m, .lst (.int .i64) b], .int .i64 e], [] => gd (b.length ≤ 1048576) (.tup [.agg [.int .i64 (vecF m b e).1, .int .i64 (vecF m b e).2.1], .bool (vecF m b e).2.2], [])
  | _, _ => none
@[reducible] def E_specAttributeVector : Env := mkE (tb [(104, K_specIsContext), (97, K_l1In), (148, K_l3Column), (149, K_specIsReducible)]) (fun f => false) (fun r => bif r == 4 then ([1, 2, 4, 6], [1, 2, 4, 5]) else ([], []))
theorem lp_specAttributeVector (m : Int) (b : List Int) (hc : isCtx m b = true) (e : Int) (he : 0 ≤ e ∧ e ≤ m - 1) (k : AX → S → Option (AV × List Ob)) (r : Option (AV × List Ob)) (hk : k .ret (mkS [1, 2, 4, 5] [.int .i64 e, .ptr 0 0, .ptr 1 0, .bool true] [some (.box 35 [.int .i64 m, .lst (.int .i64) b]), some (.box 57 [.int .i64 0, .int .i64 0])]) = r) (d : Nat) : ∀ (n i : Nat) (x : Int), e.toNat - i = d → i ≤ e.toNat → x = i → d < n →
    lpAt E_specAttributeVector (lp E_specAttributeVector 0 n) 0 (loopAt Tryd.f102 0) (mkS [1, 2, 4, 6] [.int .i64 e, .ptr 0 0, .ptr 1 0, .int .i64 x] [some (.box 35 [.int .i64 m, .lst (.int .i64) b]), some (.box 57 [.int .i64 0, .int .i64 0])]) k =
      if allB (fun j => !(colF b j == colF b e)) d i then k (.exit 0) (mkS [1, 2, 4, 5] [.int .i64 e, .ptr 0 0, .ptr 1 0, .any] [some (.box 35 [.int .i64 m, .lst (.int .i64) b]), some (.box 57 [.int .i64 0, .int .i64 0])]) else r := by
  have hl := isCtx_len hc
  have hS : ∀ x ∈ b, 0 ≤ x ∧ x ≤ 255 := fun x hx => by have := isSet_le (hl.2.2.2 x hx); omega
  induction d with
  | zero =>
    intro n i x hd hi hx hn
    subst hx
    rw [lpAt_def]
    conv => lhs; whnf
    refine br_f (df (by omega)) ?_
    conv => lhs; whnf
    rfl
  | succ d ih =>
    intro n i x hd hi hx hn
    obtain ⟨n, rfl⟩ : ∃ m, n = m + 1 := ⟨n - 1, by omega⟩
    subst hx
    rw [lpAt_def]
    conv => lhs; whnf
    refine br_t (dt (by omega)) ?_
    conv => lhs; whnf
    conv => lhs; arg 1; whnf
    refine bnd_g (by exact ⟨by omega, hl.1, hS⟩) ?_
    conv => lhs; whnf
    conv => lhs; arg 1; whnf
    refine bnd_g (by exact ⟨by omega, hl.1, hS⟩) ?_
    conv => lhs; whnf
    refine br_t (by kernel_rfl) ?_
    conv => lhs; whnf
    refine br_c (fun h => ?_) (fun h => ?_)
    · have h' : (colF b i == colF b e) = true := h
      conv => lhs; whnf
      rw [if_neg (by rw [allB, h']; exact Bool.false_ne_true)]
      exact hk
    · have h' : (colF b i == colF b e) = false := h
      conv => lhs; whnf
      rw [ih n (i + 1) _ (by omega) (by omega) (by rw [wrap64 (by omega) (by omega)]; simp) (by omega)]
      rw [allB, h', Bool.not_false, Bool.true_and]
theorem ev_specAttributeVector (m : Int) (b : List Int) (e : Int) (hp : b.length ≤ 1048576) : evF E_specAttributeVector (20) Tryd.f102 [.agg [.int .i64 m, .lst (.int .i64) b], .int .i64 e] [] = some (.tup [.agg [.int .i64 (vecF m b e).1, .int .i64 (vecF m b e).2.1], .bool (vecF m b e).2.2], []) := by
  conv => lhs; whnf
  conv => lhs; arg 1; whnf
  refine bnd_g (by omega) ?_
  conv => lhs; whnf
  refine br_c (fun h => ?_) (fun h => ?_)
  · have hf : vecF m b e = (0, 0, false) := by
      unfold vecF attrOk
      rw [bnt h]
      rfl
    rw [hf]
    conv => lhs; whnf
    repeat ((first | with_reducible apply br_tt | with_reducible apply br_ff | with_reducible apply br_nf | with_reducible apply br_nt | with_reducible refine br_d ?_ (by kernel_rfl) | with_reducible apply br_t h | with_reducible apply br_f h); conv => lhs; whnf)
  · have hl := isCtx_len (bnf h)
    have hw : IntKind.i64.wrap (m - 1) = m - 1 := wrap64 (by omega) (by omega)
    conv => lhs; whnf
    repeat ((first | with_reducible apply br_tt | with_reducible apply br_ff | with_reducible apply br_nf | with_reducible apply br_nt | with_reducible refine br_d ?_ (by kernel_rfl) | with_reducible apply br_t h | with_reducible apply br_f h); conv => lhs; whnf)
    conv => lhs; arg 1; whnf
    refine bnd_g (by exact True.intro) ?_
    conv => lhs; whnf
    repeat ((first | with_reducible apply br_tt | with_reducible apply br_ff | with_reducible apply br_nf | with_reducible apply br_nt | with_reducible refine br_d ?_ (by kernel_rfl) | with_reducible apply br_t h | with_reducible apply br_f h); conv => lhs; whnf)
    refine br_c (fun h2 => ?_) (fun h2 => ?_)
    · have h2' := ofnt h2
      rw [hw] at h2'
      have hf : vecF m b e = (0, 0, false) := by
        unfold vecF attrOk
        rw [df h2', Bool.and_false]
        rfl
      rw [hf]
      conv => lhs; whnf
    · have h2' := ofnf h2
      rw [hw] at h2'
      have hA : attrOk m b e = true := by
        unfold attrOk
        rw [bnf h, dt h2']
        rfl
      conv => lhs; whnf
      refine (lp_specAttributeVector m b (bnf h) e h2' _ _ rfl e.toNat _ 0 0 rfl (by omega) rfl (by change _ < 19; omega)).trans ?_
      split
      · rename_i h3
        conv => lhs; whnf
        conv => lhs; arg 1; whnf
        refine bnd_g (by exact hp) ?_
        conv => lhs; whnf
        refine br_c (fun h4 => ?_) (fun h4 => ?_)
        · rw [hA, Bool.true_and] at h4
          have hf : vecF m b e = (0, 0, true) := by
            unfold vecF
            rw [hA, h4, Bool.or_true]
            rfl
          rw [hf]
          conv => lhs; whnf
        · rw [hA, Bool.true_and] at h4
          have hf : vecF m b e = (2 * e + 1 - m, 1, true) := by
            unfold vecF dupF
            rw [hA, h4, h3]
            rfl
          rw [hf]
          conv => lhs; whnf
          rw [wrap64 (n := 2 * e) (by omega) (by omega), wrap64 (n := 2 * e + 1) (by omega) (by omega), wrap64 (n := 2 * e + 1 - m) (by omega) (by omega)]
      · rename_i h3
        have hf : vecF m b e = (0, 0, true) := by
          unfold vecF dupF
          rw [Bool.not_eq_true] at h3
          rw [hA, h3]
          rfl
        rw [hf]
        conv => lhs; whnf
theorem ok_specAttributeVector : FnOk Tryd.prog 102 K_specAttributeVector := by
  refine fn_ok (fn := Tryd.f102) (k := Tryd.f102.ntmps) (E := E_specAttributeVector) (facts_of (List.forall_mem_cons.2 ⟨ok_specIsContext, List.forall_mem_cons.2 ⟨ok_l1In, List.forall_mem_cons.2 ⟨ok_l3Column, List.forall_mem_cons.2 ⟨ok_specIsReducible, List.forall_mem_nil _⟩⟩⟩⟩)) (by kernel_rfl) rfl (by decide +kernel) (by decide +kernel) ?_
  intro avs hin r h
  unfold K_specAttributeVector at h
  split at h
  · obtain ⟨hp, rfl⟩ := gd_o h
    exact ⟨_, ev_specAttributeVector _ _ _ hp, rfl⟩
  · cases h

/- spec.SpotOf -/
def K_specSpotOf : List AV → List Ob → Option (AV × List Ob)
  | [.agg [.int .i64 m, .lst (.int .i64) b], .int .i64 a], [] => gd (b.length ≤ 1048576) (.tup [.agg [.int .i64 (spotF m b a).1, .int .i64 (spotF m b a).2], .bool (inC (concF m b) a)], [])
  | _, _ => none
@[reducible] def E_specSpotOf : Env := mkE (tb [(74, K_specConcepts), (75, K_l6Exists), (86, K_l2Has), (102, K_specAttributeVector)]) (fun f => false) (fun r => bif r == 6 then ([1, 2, 4, 6, 7, 8], [4, 7]) else ([], []))
theorem lp_specSpotOf (m : Int) (b : List Int) (a : Int) (hc : isCtx m b = true) (N : Nat) (hN : m = N) (l : List (Int × Int)) (ha : 0 ≤ a ∧ a < (l.length : Int)) (hl : l.length ≤ 64) (hE : isSet 8 (elC l a).2 = true) (k : AX → S → Option (AV × List Ob)) (d : Nat) : ∀ (n i : Nat) (z x y : Int), N - i = d → i ≤ N → z = i → d < n →
    lpAt E_specSpotOf (lp E_specSpotOf 0 n) 0 (loopAt Tryd.f47 0) (mkS [1, 2, 4, 6, 7, 8] [.int .i64 a, .ptr 0 0, .ptr 1 0, .own 2, .ptr 3 0, .int .i64 z] [some (.box 35 [.int .i64 m, .lst (.int .i64) b]), some (.box 57 [.int .i64 0, .int .i64 0]), some (.row 84 (.pair (.int .i64) (.int .i64)) l), some (.box 57 [.int .i64 x, .int .i64 y])]) k =
      k (.exit 0) (mkS [4, 7] [.ptr 0 0, .ptr 1 0] [some (.box 57 [.int .i64 0, .int .i64 0]), some (.box 57 [.int .i64 (spL m b (elemsL (elC l a).2 d i) x y).1, .int .i64 (spL m b (elemsL (elC l a).2 d i) x y).2])]) := by
  have hlen := isCtx_len hc
  have hr := isSet_le hE
  induction d with
  | zero =>
    intro n i z x y hd hi hx hn
    subst hx
    rw [lpAt_def]
    conv => lhs; whnf
    refine br_f (df (by omega)) ?_
    conv => lhs; whnf
    rfl
  | succ d ih =>
    intro n i z x y hd hi hx hn
    obtain ⟨n, rfl⟩ : ∃ m, n = m + 1 := ⟨n - 1, by omega⟩
    subst hx
    have hh : hasE (elC l a).2 (i : Int) = (elC l a).2.toNat.testBit (i : Int).toNat := by
      unfold hasE
      rw [hE, dt (show 0 ≤ (i : Int) ∧ (i : Int) ≤ 7 by omega)]
      rfl
    rw [lpAt_def]
    conv => lhs; whnf
    refine br_t (dt (by omega)) ?_
    conv => lhs; whnf
    refine br_t (dt2 (by omega) (by omega)) ?_
    conv => lhs; whnf
    refine br_t (dt (by omega)) ?_
    conv => lhs; whnf
    conv => lhs; arg 1; whnf
    refine bnd_g (by (change (0 ≤ (elC l a).2 ∧ (elC l a).2 ≤ 255) ∧ (0 ≤ (i : Int) ∧ (i : Int) ≤ 8); omega)) ?_
    conv => lhs; whnf
    refine br_c (fun h => ?_) (fun h => ?_)
    · have h' : (elC l a).2.toNat.testBit (i : Int).toNat = true := h
      conv => lhs; whnf
      conv => lhs; arg 1; whnf
      refine bnd_g (by omega) ?_
      conv => lhs; whnf
      refine Eq.trans (ih n (i + 1) _ _ _ (by omega) (by omega) (by rw [wrap64 (n := (i : Int) + 1) (by omega) (by omega)]; simp) (by omega)) ?_
      rw [elemsL, hh, h', cond_true, spL]
    · have h' : (elC l a).2.toNat.testBit (i : Int).toNat = false := h
      conv => lhs; whnf
      refine Eq.trans (ih n (i + 1) _ _ _ (by omega) (by omega) (by rw [wrap64 (n := (i : Int) + 1) (by omega) (by omega)]; simp) (by omega)) ?_
      rw [elemsL, hh, h', cond_false]
theorem ev_specSpotOf (m : Int) (b : List Int) (a : Int) (hp : b.length ≤ 1048576) : evF E_specSpotOf (20) Tryd.f47 [.agg [.int .i64 m, .lst (.int .i64) b], .int .i64 a] [] = some (.tup [.agg [.int .i64 (spotF m b a).1, .int .i64 (spotF m b a).2], .bool (inC (concF m b) a)], []) := by
  have hl := concF_len m b
  conv => lhs; whnf
  conv => lhs; arg 1; whnf
  refine bnd_g (by exact hp) ?_
  conv => lhs; whnf
  conv => lhs; arg 1; whnf
  refine bnd_g (by exact hl) ?_
  conv => lhs; whnf
  refine br_c (fun h => ?_) (fun h => ?_)
  · unfold spotF
    rw [bnt h]
    conv => lhs; whnf
    rfl
  · have h2 := inC_iff.1 (bnf h)
    obtain ⟨h3, h4, h5, h6, h7⟩ := concF_at (bnf h)
    have h8 := isSet_le h4
    have hlen := isCtx_len h3
    obtain ⟨N, rfl⟩ : ∃ N : Nat, m = N := ⟨m.toNat, by omega⟩
    unfold spotF
    rw [bnf h, cond_true, elems_cut (by omega) h4]
    conv => lhs; whnf
    refine (lp_specSpotOf N b a h3 N rfl (concF N b) h2 hl (isSet_8' h4) _ N _ 0 0 0 0 rfl (by omega) rfl (by change _ < 19; omega)).trans ?_
    conv => lhs; whnf
theorem ok_specSpotOf : FnOk Tryd.prog 47 K_specSpotOf := by
  refine fn_ok (fn := Tryd.f47) (k := Tryd.f47.ntmps) (E := E_specSpotOf) (facts_of (List.forall_mem_cons.2 ⟨ok_specConcepts, List.forall_mem_cons.2 ⟨ok_l6Exists, List.forall_mem_cons.2 ⟨ok_l2Has, List.forall_mem_cons.2 ⟨ok_specAttributeVector, List.forall_mem_nil _⟩⟩⟩⟩)) (by kernel_rfl) rfl (by decide +kernel) (by decide +kernel) ?_
  intro avs hin r h
  unfold K_specSpotOf at h
  split at h
  · obtain ⟨hp, rfl⟩ := gd_o h
    exact ⟨_, ev_specSpotOf _ _ _ hp, rfl⟩
  · cases h

/- impl.beyond -/
def K_beyond : List AV → List Ob → Option (AV × List Ob)
  | [.lst (.int .i64) l, .int .i64 s, .int .i64 q], [] => gd (l.length ≤ 1048576) (.int .i64 (beyondF s l q), [])
  | _, _ => none
@[reducible] def E_beyond : Env := mkE (tb [(92, K_inSet)]) (fun f => false) (fun r => bif r == 2 then ([1, 2, 9, 10, 11], [2]) else ([], []))
theorem lp_beyond (l : List Int) (s : Int) (hl : l.length ≤ 1048576) (k : AX → S → Option (AV × List Ob)) (d : Nat) : ∀ (n i : Nat) (x q : Int), l.length - i = d → i ≤ l.length → x = i → d < n →
    lpAt E_beyond (lp E_beyond 0 n) 0 (loopAt Tryd.f220 0) (mkS [1, 2, 9, 10, 11] [.int .i64 s, .int .i64 q, .lst (.int .i64) l, .int .i64 l.length, .int .i64 x] []) k =
      k (.exit 0) (mkS [2] [.int .i64 (beyondF s (l.drop i) q)] []) := by
  induction d with
  | zero =>
    intro n i x q hd hi hx hn
    subst hx
    rw [lpAt_def]
    conv => lhs; whnf
    refine br_f (df (by omega)) ?_
    conv => lhs; whnf
    rw [List.drop_of_length_le (by omega), beyondF]
  | succ d ih =>
    intro n i x q hd hi hx hn
    obtain ⟨n, rfl⟩ : ∃ m, n = m + 1 := ⟨n - 1, by omega⟩
    subst hx
    rw [lpAt_def]
    conv => lhs; whnf
    refine br_t (dt (by omega)) ?_
    conv => lhs; whnf
    refine br_t (dt2 (by omega) (by omega)) ?_
    conv => lhs; whnf
    rw [getD_drop (l := l) (i := i) (d := 0) (by omega)]
    refine br_c (fun h => ?_) (fun h => ?_)
    · have h' : (l.getD i 0 != s) = true := h
      conv => lhs; whnf
      repeat ((first | with_reducible apply br_tt | with_reducible apply br_ff | with_reducible apply br_nf | with_reducible apply br_nt | with_reducible refine br_d ?_ (by kernel_rfl) | with_reducible apply br_t h | with_reducible apply br_f h); conv => lhs; whnf)
      conv => lhs; arg 1; whnf
      refine bnd_g (by exact True.intro) ?_
      conv => lhs; whnf
      repeat ((first | with_reducible apply br_tt | with_reducible apply br_ff | with_reducible apply br_nf | with_reducible apply br_nt | with_reducible refine br_d ?_ (by kernel_rfl) | with_reducible apply br_t h | with_reducible apply br_f h); conv => lhs; whnf)
      refine br_c (fun h2 => ?_) (fun h2 => ?_)
      · have h2' : (bnot s (l.getD i 0) == 0) = true := h2
        conv => lhs; whnf
        rw [ih n (i + 1) _ _ (by omega) (by omega) (by rw [wrap64 (by omega) (by omega)]; simp) (by omega)]
        rw [beyondF, h', h2']
        rfl
      · have h2' : (bnot s (l.getD i 0) == 0) = false := h2
        conv => lhs; whnf
        rw [ih n (i + 1) _ _ (by omega) (by omega) (by rw [wrap64 (by omega) (by omega)]; simp) (by omega)]
        rw [beyondF, h', h2']
        rfl
    · have h' : (l.getD i 0 != s) = false := h
      conv => lhs; whnf
      repeat ((first | with_reducible apply br_tt | with_reducible apply br_ff | with_reducible apply br_nf | with_reducible apply br_nt | with_reducible refine br_d ?_ (by kernel_rfl) | with_reducible apply br_t h | with_reducible apply br_f h); conv => lhs; whnf)
      rw [ih n (i + 1) _ _ (by omega) (by omega) (by rw [wrap64 (by omega) (by omega)]; simp) (by omega)]
      rw [beyondF, h']
      rfl
theorem ev_beyond (l : List Int) (s q : Int) (hp : l.length ≤ 1048576) : evF E_beyond (l.length + 2) Tryd.f220 [.lst (.int .i64) l, .int .i64 s, .int .i64 q] [] = some (.int .i64 (beyondF s l q), []) := by
  conv => lhs; whnf
  refine (lp_beyond l s hp _ l.length _ 0 0 q rfl (by omega) rfl (by omega)).trans ?_
  conv => lhs; whnf
  rfl
theorem ok_beyond : FnOk Tryd.prog 220 K_beyond := by
  refine fn_ok (fn := Tryd.f220) (k := Tryd.f220.ntmps) (E := E_beyond) (facts_of (List.forall_mem_cons.2 ⟨ok_inSet, List.forall_mem_nil _⟩)) (by kernel_rfl) rfl (by decide +kernel) (by decide +kernel) ?_
  intro avs hin r h
  unfold K_beyond at h
  split at h
  · obtain ⟨hp, rfl⟩ := gd_o h
    exact ⟨_, ev_beyond _ _ _ hp, rfl⟩
  · cases h

/- impl.IsReducibleAttribute -/
def K_implIsReducible : List AV → List Ob → Option (AV × List Ob)
  | [.agg [.int .i64 m, .lst (.int .i64) b], .int .i64 e], [] => gd (b.length ≤ 1048576) (.bool (attrOk m b e && reducF m b e), [])
  | _, _ => none
@[reducible] def E_implIsReducible : Env := mkE (tb [(150, K_isAttribute), (153, K_columns), (189, K_columnOf), (140, K_implFullSet), (220, K_beyond)]) (fun f => false) (fun r => ([], []))
theorem ev_implIsReducible (m : Int) (b : List Int) (e : Int) (hp : b.length ≤ 1048576) : evF E_implIsReducible (1) Tryd.f187 [.agg [.int .i64 m, .lst (.int .i64) b], .int .i64 e] [] = some (.bool (attrOk m b e && reducF m b e), []) := by
  conv => lhs; whnf
  conv => lhs; arg 1; whnf
  refine bnd_g (by exact hp) ?_
  conv => lhs; whnf
  refine br_c (fun h => ?_) (fun h => ?_)
  · have h' := h
    unfold attrOk at h'
    have h2 := Bool.and_eq_true_iff.1 h'
    have hl := isCtx_len h2.1
    conv => lhs; whnf
    repeat ((first | with_reducible apply br_tt | with_reducible apply br_ff | with_reducible apply br_nf | with_reducible apply br_nt | with_reducible refine br_d ?_ (by kernel_rfl) | with_reducible apply br_t h | with_reducible apply br_f h); conv => lhs; whnf)
    conv => lhs; arg 1; whnf
    refine bnd_g (by exact h2.1) ?_
    conv => lhs; whnf
    repeat ((first | with_reducible apply br_tt | with_reducible apply br_ff | with_reducible apply br_nf | with_reducible apply br_nt | with_reducible refine br_d ?_ (by kernel_rfl) | with_reducible apply br_t h | with_reducible apply br_f h); conv => lhs; whnf)
    conv => lhs; arg 1; whnf
    refine bnd_g (by exact hp) ?_
    conv => lhs; whnf
    repeat ((first | with_reducible apply br_tt | with_reducible apply br_ff | with_reducible apply br_nf | with_reducible apply br_nt | with_reducible refine br_d ?_ (by kernel_rfl) | with_reducible apply br_t h | with_reducible apply br_f h); conv => lhs; whnf)
    conv => lhs; arg 1; whnf
    refine bnd_g (by exact True.intro) ?_
    conv => lhs; whnf
    repeat ((first | with_reducible apply br_tt | with_reducible apply br_ff | with_reducible apply br_nf | with_reducible apply br_nt | with_reducible refine br_d ?_ (by kernel_rfl) | with_reducible apply br_t h | with_reducible apply br_f h); conv => lhs; whnf)
    conv => lhs; arg 1; whnf
    refine bnd_g (by (show (colsL b m.toNat 0).length ≤ 1048576; rw [colsL_length]; omega)) ?_
    conv => lhs; whnf
    repeat ((first | with_reducible apply br_tt | with_reducible apply br_ff | with_reducible apply br_nf | with_reducible apply br_nt | with_reducible refine br_d ?_ (by kernel_rfl) | with_reducible apply br_t h | with_reducible apply br_f h); conv => lhs; whnf)
    conv => lhs; arg 1; whnf
    refine bnd_g (by exact hp) ?_
    conv => lhs; whnf
    repeat ((first | with_reducible apply br_tt | with_reducible apply br_ff | with_reducible apply br_nf | with_reducible apply br_nt | with_reducible refine br_d ?_ (by kernel_rfl) | with_reducible apply br_t h | with_reducible apply br_f h); conv => lhs; whnf)
    rw [h]
    rfl
  · conv => lhs; whnf
    repeat ((first | with_reducible apply br_tt | with_reducible apply br_ff | with_reducible apply br_nf | with_reducible apply br_nt | with_reducible refine br_d ?_ (by kernel_rfl) | with_reducible apply br_t h | with_reducible apply br_f h); conv => lhs; whnf)
    rw [h, Bool.false_and]
theorem ok_implIsReducible : FnOk Tryd.prog 187 K_implIsReducible := by
  refine fn_ok (fn := Tryd.f187) (k := Tryd.f187.ntmps) (E := E_implIsReducible) (facts_of (List.forall_mem_cons.2 ⟨ok_isAttribute, List.forall_mem_cons.2 ⟨ok_columns, List.forall_mem_cons.2 ⟨ok_columnOf, List.forall_mem_cons.2 ⟨ok_implFullSet, List.forall_mem_cons.2 ⟨ok_beyond, List.forall_mem_nil _⟩⟩⟩⟩⟩)) (by kernel_rfl) rfl (by decide +kernel) (by decide +kernel) ?_
  intro avs hin r h
  unfold K_implIsReducible at h
  split at h
  · obtain ⟨hp, rfl⟩ := gd_o h
    exact ⟨_, ev_implIsReducible _ _ _ hp, rfl⟩
  · cases h

/- impl.IsIrreducibleAttribute -/
def K_isIrreducible : List AV → List Ob → Option (AV × List Ob)
  | [.agg [.int .i64 m, .lst (.int .i64) b], .int .i64 e], [] => gd (b.length ≤ 1048576) (.bool (attrOk m b e && !reducF m b e), [])
  | _, _ => none
@[reducible] def E_isIrreducible : Env := mkE (tb [(150, K_isAttribute), (187, K_implIsReducible)]) (fun f => false) (fun r => ([], []))
theorem ev_isIrreducible (m : Int) (b : List Int) (e : Int) (hp : b.length ≤ 1048576) : evF E_isIrreducible (1) Tryd.f151 [.agg [.int .i64 m, .lst (.int .i64) b], .int .i64 e] [] = some (.bool (attrOk m b e && !reducF m b e), []) := by
  conv => lhs; whnf
  conv => lhs; arg 1; whnf
  refine bnd_g (by exact hp) ?_
  conv => lhs; whnf
  refine br_c (fun h => ?_) (fun h => ?_)
  · conv => lhs; whnf
    repeat ((first | with_reducible apply br_tt | with_reducible apply br_ff | with_reducible apply br_nf | with_reducible apply br_nt | with_reducible refine br_d ?_ (by kernel_rfl) | with_reducible apply br_t h | with_reducible apply br_f h); conv => lhs; whnf)
    conv => lhs; arg 1; whnf
    refine bnd_g (by exact hp) ?_
    conv => lhs; whnf
    repeat ((first | with_reducible apply br_tt | with_reducible apply br_ff | with_reducible apply br_nf | with_reducible apply br_nt | with_reducible refine br_d ?_ (by kernel_rfl) | with_reducible apply br_t h | with_reducible apply br_f h); conv => lhs; whnf)
    rw [h, Bool.true_and, Bool.true_and]
  · conv => lhs; whnf
    repeat ((first | with_reducible apply br_tt | with_reducible apply br_ff | with_reducible apply br_nf | with_reducible apply br_nt | with_reducible refine br_d ?_ (by kernel_rfl) | with_reducible apply br_t h | with_reducible apply br_f h); conv => lhs; whnf)
    rw [h, Bool.false_and]
theorem ok_isIrreducible : FnOk Tryd.prog 151 K_isIrreducible := by
  refine fn_ok (fn := Tryd.f151) (k := Tryd.f151.ntmps) (E := E_isIrreducible) (facts_of (List.forall_mem_cons.2 ⟨ok_isAttribute, List.forall_mem_cons.2 ⟨ok_implIsReducible, List.forall_mem_nil _⟩⟩)) (by kernel_rfl) rfl (by decide +kernel) (by decide +kernel) ?_
  intro avs hin r h
  unfold K_isIrreducible at h
  split at h
  · obtain ⟨hp, rfl⟩ := gd_o h
    exact ⟨_, ev_isIrreducible _ _ _ hp, rfl⟩
  · cases h

/- slices.Index[[]int,int] -/
def K_indexInt : List AV → List Ob → Option (AV × List Ob)
  | [.lst (.int .i64) a, .int .i64 v], [] => gd (a.length < 4611686018427387904) (.int .i64 (firstI (fun y => v == y) a 0), [])
  | _, _ => none
@[reducible] def E_indexInt : Env := mkE (tb []) (fun f => false) (fun r => bif r == 2 then ([0, 1, 7, 8], [4]) else ([], []))
theorem lp_indexInt (a : List Int) (v : Int) (ha : a.length < 4611686018427387904) (k : AX → S → Option (AV × List Ob)) (d : Nat) : ∀ (n i : Nat) (x : Int), a.length - i = d → i ≤ a.length → x = i → d < n →
    lpAt E_indexInt (lp E_indexInt 0 n) 0 (loopAt Tryd.f221 0) (mkS [0, 1, 7, 8] [.lst (.int .i64) a, .int .i64 v, .int .i64 a.length, .int .i64 x] []) k =
      if (a.drop i).any (fun y => v == y) then k .ret (mkS [4] [.int .i64 (firstI (fun y => v == y) (a.drop i) i)] []) else k (.exit 0) (mkS [4] [.any] []) := by
  induction d with
  | zero =>
    intro n i x hd hi hx hn
    subst hx
    rw [lpAt_def]
    conv => lhs; whnf
    refine br_f (df (by omega)) ?_
    conv => lhs; whnf
    rw [List.drop_of_length_le (by omega)]
    simp
  | succ d ih =>
    intro n i x hd hi hx hn
    obtain ⟨n, rfl⟩ : ∃ m, n = m + 1 := ⟨n - 1, by omega⟩
    subst hx
    rw [lpAt_def]
    conv => lhs; whnf
    refine br_t (dt (by omega)) ?_
    conv => lhs; whnf
    refine br_t (dt2 (by omega) (by omega)) ?_
    conv => lhs; whnf
    rw [getD_drop (l := a) (i := i) (d := 0) (by omega)]
    refine br_c (fun h => ?_) (fun h => ?_)
    · have h' : (v == a.getD i 0) = true := h
      conv => lhs; whnf
      rw [if_pos (by simp only [List.any_cons, h', Bool.true_or])]
      simp only [firstI, h', cond_true]
    · have h' : (v == a.getD i 0) = false := h
      conv => lhs; whnf
      rw [ih n (i + 1) _ (by omega) (by omega) (by rw [wrap64 (by omega) (by omega)]; simp) (by omega)]
      simp only [List.any_cons, h', Bool.false_or, firstI, cond_false]
      rfl
theorem ev_indexInt (a : List Int) (v : Int) (hp : a.length < 4611686018427387904) : evF E_indexInt (a.length + 2) Tryd.f221 [.lst (.int .i64) a, .int .i64 v] [] = some (.int .i64 (firstI (fun y => v == y) a 0), []) := by
  conv => lhs; whnf
  refine (lp_indexInt a v hp _ a.length _ 0 0 rfl (by omega) rfl (by omega)).trans ?_
  simp only [List.drop_zero]
  split
  · conv => lhs; whnf
    rfl
  · rename_i he
    conv => lhs; whnf
    have : firstI (fun y => v == y) a 0 = -1 := firstI_none _ a 0 (by rw [← Bool.not_eq_true]; exact he)
    rw [this]
theorem ok_indexInt : FnOk Tryd.prog 221 K_indexInt := by
  refine fn_ok (fn := Tryd.f221) (k := Tryd.f221.ntmps) (E := E_indexInt) (facts_of (List.forall_mem_nil _)) (by kernel_rfl) rfl (by decide +kernel) (by decide +kernel) ?_
  intro avs hin r h
  unfold K_indexInt at h
  split at h
  · obtain ⟨hp, rfl⟩ := gd_o h
    exact ⟨_, ev_indexInt _ _ hp, rfl⟩
  · cases h

/- slices.Contains[[]int,int] -/
def K_containsInt : List AV → List Ob → Option (AV × List Ob)
  | [.lst (.int .i64) a, .int .i64 v], [] => gd (a.length < 4611686018427387904) (.bool (a.any (fun y => v == y)), [])
  | _, _ => none
@[reducible] def E_containsInt : Env := mkE (tb [(221, K_indexInt)]) (fun f => false) (fun r => ([], []))
theorem ev_containsInt (a : List Int) (v : Int) (hp : a.length < 4611686018427387904) : evF E_containsInt (1) Tryd.f188 [.lst (.int .i64) a, .int .i64 v] [] = some (.bool (a.any (fun y => v == y)), []) := by
  conv => lhs; whnf
  conv => lhs; arg 1; whnf
  refine bnd_g (by exact hp) ?_
  conv => lhs; whnf
  refine okB ?_
  exact firstI_iff _ a 0 (by omega)
theorem ok_containsInt : FnOk Tryd.prog 188 K_containsInt := by
  refine fn_ok (fn := Tryd.f188) (k := Tryd.f188.ntmps) (E := E_containsInt) (facts_of (List.forall_mem_cons.2 ⟨ok_indexInt, List.forall_mem_nil _⟩)) (by kernel_rfl) rfl (by decide +kernel) (by decide +kernel) ?_
  intro avs hin r h
  unfold K_containsInt at h
  split at h
  · obtain ⟨hp, rfl⟩ := gd_o h
    exact ⟨_, ev_containsInt _ _ hp, rfl⟩
  · cases h

/- impl.repeated -/
def K_repeated : List AV → List Ob → Option (AV × List Ob)
  | [.lst (.int .i64) l], [] => gd (l.length ≤ 8) (.int .i64 (repF l), [])
  | _, _ => none
@[reducible] def E_repeated : Env := mkE (tb [(188, K_containsInt)]) (fun f => false) (fun r => bif r == 3 then ([0, 3, 6, 7, 8], [3]) else ([], []))
theorem lp_repeated (l : List Int) (hl : l.length ≤ 8) (k : AX → S → Option (AV × List Ob)) (d : Nat) : ∀ (n i : Nat) (x q : Int), l.length - i = d → i ≤ l.length → x = i → d < n →
    lpAt E_repeated (lp E_repeated 0 n) 0 (loopAt Tryd.f152 0) (mkS [0, 3, 6, 7, 8] [.lst (.int .i64) l, .int .i64 q, .lst (.int .i64) l, .int .i64 l.length, .int .i64 x] []) k =
      k (.exit 0) (mkS [3] [.int .i64 (orF (repAt l) d i q)] []) := by
  induction d with
  | zero =>
    intro n i x q hd hi hx hn
    subst hx
    rw [lpAt_def]
    conv => lhs; whnf
    refine br_f (df (by omega)) ?_
    conv => lhs; whnf
    rfl
  | succ d ih =>
    intro n i x q hd hi hx hn
    obtain ⟨n, rfl⟩ : ∃ m, n = m + 1 := ⟨n - 1, by omega⟩
    subst hx
    rw [lpAt_def]
    conv => lhs; whnf
    refine br_t (dt (by omega)) ?_
    conv => lhs; whnf
    refine br_t (dt2 (by omega) (by omega)) ?_
    conv => lhs; whnf
    refine br_t (dt2 (by omega) (by omega)) ?_
    conv => lhs; whnf
    conv => lhs; arg 1; whnf
    refine bnd_g (by simp; omega) ?_
    conv => lhs; whnf
    refine br_c (fun h => ?_) (fun h => ?_)
    · have h' : repAt l i = true := h
      conv => lhs; whnf
      refine br_f (df (by omega)) ?_
      conv => lhs; whnf
      rw [shl1 (by omega)]
      rw [ih n (i + 1) _ _ (by omega) (by omega) (by rw [wrap64 (by omega) (by omega)]; simp) (by omega)]
      rw [orF, h', cond_true]
      rfl
    · have h' : repAt l i = false := h
      conv => lhs; whnf
      rw [ih n (i + 1) _ _ (by omega) (by omega) (by rw [wrap64 (by omega) (by omega)]; simp) (by omega)]
      rw [orF, h', cond_false]
theorem ev_repeated (l : List Int) (hp : l.length ≤ 8) : evF E_repeated (20) Tryd.f152 [.lst (.int .i64) l] [] = some (.int .i64 (repF l), []) := by
  conv => lhs; whnf
  refine (lp_repeated l hp _ l.length _ 0 0 0 rfl (by omega) rfl (by change _ < 19; omega)).trans ?_
  conv => lhs; whnf
  rfl
theorem ok_repeated : FnOk Tryd.prog 152 K_repeated := by
  refine fn_ok (fn := Tryd.f152) (k := Tryd.f152.ntmps) (E := E_repeated) (facts_of (List.forall_mem_cons.2 ⟨ok_containsInt, List.forall_mem_nil _⟩)) (by kernel_rfl) rfl (by decide +kernel) (by decide +kernel) ?_
  intro avs hin r h
  unfold K_repeated at h
  split at h
  · obtain ⟨hp, rfl⟩ := gd_o h
    exact ⟨_, ev_repeated _ hp, rfl⟩
  · cases h

/- impl.AttributeVector -/
def K_implAttributeVector : List AV → List Ob → Option (AV × List Ob)
  | [.agg [.int .i64 m, .lst (.int .i64) b], .int .i64 e], [] => gd (b.length ≤ 1048576) (.tup [.agg [.int .i64 (vecF m b e).1, .int .i64 (vecF m b e).2.1], .bool (vecF m b e).2.2], [])
  | _, _ => none
@[reducible] def E_implAttributeVector : Env := mkE (tb [(150, K_isAttribute), (151, K_isIrreducible), (153, K_columns), (152, K_repeated), (88, K_hasElement)]) (fun f => false) (fun r => ([], []))
theorem ev_implAttributeVector (m : Int) (b : List Int) (e : Int) (hp : b.length ≤ 1048576) : evF E_implAttributeVector (1) Tryd.f103 [.agg [.int .i64 m, .lst (.int .i64) b], .int .i64 e] [] = some (.tup [.agg [.int .i64 (vecF m b e).1, .int .i64 (vecF m b e).2.1], .bool (vecF m b e).2.2], []) := by
  conv => lhs; whnf
  conv => lhs; arg 1; whnf
  refine bnd_g (by exact hp) ?_
  conv => lhs; whnf
  refine br_c (fun h => ?_) (fun h => ?_)
  · have hf : vecF m b e = (0, 0, false) := by
      unfold vecF
      rw [bnt h]
      rfl
    rw [hf]
    conv => lhs; whnf
  · have hA := bnf h
    have h' := hA
    unfold attrOk at h'
    have h2 := Bool.and_eq_true_iff.1 h'
    have hl := isCtx_len h2.1
    have hd := ofd h2.2
    have hlen : (colsF m b).length = m.toNat := colsL_length b _ _
    conv => lhs; whnf
    conv => lhs; arg 1; whnf
    refine bnd_g (by exact hp) ?_
    conv => lhs; whnf
    refine br_c (fun h3 => ?_) (fun h3 => ?_)
    · rw [hA, Bool.true_and, Bool.not_not] at h3
      have hf : vecF m b e = (0, 0, true) := by
        unfold vecF
        rw [hA, h3, Bool.or_true]
        rfl
      rw [hf]
      have h4 : (!(attrOk m b e && !reducF m b e)) = true := by rw [hA, h3]; rfl
      conv => lhs; whnf
      repeat ((first | with_reducible apply br_tt | with_reducible apply br_ff | with_reducible apply br_nf | with_reducible apply br_nt | with_reducible refine br_d ?_ (by kernel_rfl) | with_reducible apply br_t h4 | with_reducible apply br_f h4); conv => lhs; whnf)
    · have h4 := h3
      rw [hA, Bool.true_and, Bool.not_not] at h3
      conv => lhs; whnf
      repeat ((first | with_reducible apply br_tt | with_reducible apply br_ff | with_reducible apply br_nf | with_reducible apply br_nt | with_reducible refine br_d ?_ (by kernel_rfl) | with_reducible apply br_t h4 | with_reducible apply br_f h4); conv => lhs; whnf)
      conv => lhs; arg 1; whnf
      refine bnd_g (by exact h2.1) ?_
      conv => lhs; whnf
      repeat ((first | with_reducible apply br_tt | with_reducible apply br_ff | with_reducible apply br_nf | with_reducible apply br_nt | with_reducible refine br_d ?_ (by kernel_rfl) | with_reducible apply br_t h4 | with_reducible apply br_f h4); conv => lhs; whnf)
      conv => lhs; arg 1; whnf
      refine bnd_g (by (rw [hlen]; omega)) ?_
      conv => lhs; whnf
      repeat ((first | with_reducible apply br_tt | with_reducible apply br_ff | with_reducible apply br_nf | with_reducible apply br_nt | with_reducible refine br_d ?_ (by kernel_rfl) | with_reducible apply br_t h4 | with_reducible apply br_f h4); conv => lhs; whnf)
      conv => lhs; arg 1; whnf
      refine bnd_g (by exact True.intro) ?_
      conv => lhs; whnf
      repeat ((first | with_reducible apply br_tt | with_reducible apply br_ff | with_reducible apply br_nf | with_reducible apply br_nt | with_reducible refine br_d ?_ (by kernel_rfl) | with_reducible apply br_t h4 | with_reducible apply br_f h4); conv => lhs; whnf)
      refine br_c (fun h5 => ?_) (fun h5 => ?_)
      · rw [rep_dup hA] at h5
        have hf : vecF m b e = (0, 0, true) := by
          unfold vecF
          rw [hA, h5]
          rfl
        rw [hf]
        conv => lhs; whnf
      · rw [rep_dup hA] at h5
        have hf : vecF m b e = (2 * e + 1 - m, 1, true) := by
          unfold vecF
          rw [hA, h5, h3]
          rfl
        rw [hf]
        conv => lhs; whnf
        rw [wrap64 (n := 2 * e) (by omega) (by omega), wrap64 (n := 2 * e + 1) (by omega) (by omega), wrap64 (n := 2 * e + 1 - m) (by omega) (by omega)]
theorem ok_implAttributeVector : FnOk Tryd.prog 103 K_implAttributeVector := by
  refine fn_ok (fn := Tryd.f103) (k := Tryd.f103.ntmps) (E := E_implAttributeVector) (facts_of (List.forall_mem_cons.2 ⟨ok_isAttribute, List.forall_mem_cons.2 ⟨ok_isIrreducible, List.forall_mem_cons.2 ⟨ok_columns, List.forall_mem_cons.2 ⟨ok_repeated, List.forall_mem_cons.2 ⟨ok_hasElement, List.forall_mem_nil _⟩⟩⟩⟩⟩)) (by kernel_rfl) rfl (by decide +kernel) (by decide +kernel) ?_
  intro avs hin r h
  unfold K_implAttributeVector at h
  split at h
  · obtain ⟨hp, rfl⟩ := gd_o h
    exact ⟨_, ev_implAttributeVector _ _ _ hp, rfl⟩
  · cases h

/- impl.SpotOf -/
def K_implSpotOf : List AV → List Ob → Option (AV × List Ob)
  | [.agg [.int .i64 m, .lst (.int .i64) b], .int .i64 a], [] => gd (b.length ≤ 1048576) (.tup [.agg [.int .i64 (spotF m b a).1, .int .i64 (spotF m b a).2], .bool (inC (concF m b) a)], [])
  | _, _ => none
@[reducible] def E_implSpotOf : Env := mkE (tb [(78, K_conceptOf), (80, K_elementsOf), (103, K_implAttributeVector)]) (fun f => false) (fun r => bif r == 6 then ([2, 4, 8, 25, 26, 27], [4, 8]) else ([], []))
theorem lp_implSpotOf (m : Int) (b : List Int) (hlen : b.length ≤ 1048576) (l : List Int) (hl : l.length ≤ 8) (k : AX → S → Option (AV × List Ob)) (d : Nat) : ∀ (n i : Nat) (z x y : Int), l.length - i = d → i ≤ l.length → z = i → d < n →
    lpAt E_implSpotOf (lp E_implSpotOf 0 n) 0 (loopAt Tryd.f48 0) (mkS [2, 4, 8, 25, 26, 27] [.ptr 0 0, .ptr 1 0, .ptr 2 0, .own 3, .int .i64 (l.length : Int), .int .i64 z] [some (.box 35 [.int .i64 m, .lst (.int .i64) b]), some (.box 57 [.int .i64 0, .int .i64 0]), some (.box 57 [.int .i64 x, .int .i64 y]), some (.row 3 (.int .i64) l)]) k =
      k (.exit 0) (mkS [4, 8] [.ptr 0 0, .ptr 1 0] [some (.box 57 [.int .i64 0, .int .i64 0]), some (.box 57 [.int .i64 (spL m b (l.drop i) x y).1, .int .i64 (spL m b (l.drop i) x y).2])]) := by
  induction d with
  | zero =>
    intro n i z x y hd hi hx hn
    subst hx
    rw [lpAt_def]
    conv => lhs; whnf
    refine br_f (df (by omega)) ?_
    conv => lhs; whnf
    rw [List.drop_of_length_le (by omega)]
    rfl
  | succ d ih =>
    intro n i z x y hd hi hx hn
    obtain ⟨n, rfl⟩ : ∃ m, n = m + 1 := ⟨n - 1, by omega⟩
    subst hx
    rw [lpAt_def]
    conv => lhs; whnf
    refine br_t (dt (by omega)) ?_
    conv => lhs; whnf
    refine br_t (dt2 (by omega) (by omega)) ?_
    conv => lhs; whnf
    refine br_t (dt (by omega)) ?_
    conv => lhs; whnf
    conv => lhs; arg 1; whnf
    refine bnd_g (by exact hlen) ?_
    conv => lhs; whnf
    refine Eq.trans (ih n (i + 1) _ _ _ (by omega) (by omega) (by rw [wrap64 (n := (i : Int) + 1) (by omega) (by omega)]; simp) (by omega)) ?_
    rw [getD_drop (l := l) (i := i) (d := 0) (by omega), spL]
    rfl
theorem ev_implSpotOf (m : Int) (b : List Int) (a : Int) (hp : b.length ≤ 1048576) : evF E_implSpotOf (20) Tryd.f48 [.agg [.int .i64 m, .lst (.int .i64) b], .int .i64 a] [] = some (.tup [.agg [.int .i64 (spotF m b a).1, .int .i64 (spotF m b a).2], .bool (inC (concF m b) a)], []) := by
  have hl := concF_len m b
  conv => lhs; whnf
  conv => lhs; arg 1; whnf
  refine bnd_g (by exact hp) ?_
  conv => lhs; whnf
  refine br_c (fun h => ?_) (fun h => ?_)
  · unfold spotF
    rw [bnt h]
    conv => lhs; whnf
    rfl
  · unfold spotF cofF
    rw [bnf h]
    have he : (elemsF (elC (concF m b) a).2).length ≤ 8 := elemsL_length _ _ _
    conv => lhs; whnf
    conv => lhs; arg 1; whnf
    refine bnd_g (by exact True.intro) ?_
    conv => lhs; whnf
    refine (lp_implSpotOf m b hp (elemsF (elC (concF m b) a).2) he _ (elemsF (elC (concF m b) a).2).length _ 0 0 0 0 rfl (by omega) rfl (by change _ < 19; omega)).trans ?_
    conv => lhs; whnf
    rfl
theorem ok_implSpotOf : FnOk Tryd.prog 48 K_implSpotOf := by
  refine fn_ok (fn := Tryd.f48) (k := Tryd.f48.ntmps) (E := E_implSpotOf) (facts_of (List.forall_mem_cons.2 ⟨ok_conceptOf, List.forall_mem_cons.2 ⟨ok_elementsOf, List.forall_mem_cons.2 ⟨ok_implAttributeVector, List.forall_mem_nil _⟩⟩⟩)) (by kernel_rfl) rfl (by decide +kernel) (by decide +kernel) ?_
  intro avs hin r h
  unfold K_implSpotOf at h
  split at h
  · obtain ⟨hp, rfl⟩ := gd_o h
    exact ⟨_, ev_implSpotOf _ _ _ hp, rfl⟩
  · cases h

/- laws.eqSpot -/
def K_eqSpot : List AV → List Ob → Option (AV × List Ob)
  | [.agg [.int .i64 p, .int .i64 q], .agg [.int .i64 p', .int .i64 q']], [] => gd (True) (.bool (decide (p = p' ∧ q = q')), [])
  | _, _ => none
@[reducible] def E_eqSpot : Env := mkE (tb []) (fun f => false) (fun r => ([], []))
theorem ev_eqSpot (p q p' q' : Int) (hp : True) : evF E_eqSpot (1) Tryd.f49 [.agg [.int .i64 p, .int .i64 q], .agg [.int .i64 p', .int .i64 q']] [] = some (.bool (decide (p = p' ∧ q = q')), []) := by
  conv => lhs; whnf
  refine br_c (fun h => ?_) (fun h => ?_)
  · conv => lhs; whnf
    simp at h
    simp [h]
  · conv => lhs; whnf
    refine br_c (fun h' => ?_) (fun h' => ?_)
    · conv => lhs; whnf
      simp at h h'
      simp [h']
    · conv => lhs; whnf
      simp at h h'
      simp [h, h']
theorem ok_eqSpot : FnOk Tryd.prog 49 K_eqSpot := by
  refine fn_ok (fn := Tryd.f49) (k := Tryd.f49.ntmps) (E := E_eqSpot) (facts_of (List.forall_mem_nil _)) (by kernel_rfl) rfl (by decide +kernel) (by decide +kernel) ?_
  intro avs hin r h
  unfold K_eqSpot at h
  split at h
  · obtain ⟨hp, rfl⟩ := gd_o h
    exact ⟨_, ev_eqSpot _ _ _ _ hp, rfl⟩
  · cases h

/- laws.FnExactSpotOf -/
def K_lawSpotOf : List AV → List Ob → Option (AV × List Ob)
  | [.agg [.int .i64 m, .lst (.int .i64) a], .int .i64 g], [] => gd (a.length ≤ maxLen) (.bool true, [])
  | _, _ => none
@[reducible] def E_lawSpotOf : Env := mkE (tb [(23, K_szContext), (25, K_toContext), (47, K_specSpotOf), (48, K_implSpotOf), (49, K_eqSpot), (28, K_eqContext)]) (fun f => false) (fun r => ([], []))
theorem ev_lawSpotOf (m : Int) (a : List Int) (g : Int) (hp : a.length ≤ maxLen) : evF E_lawSpotOf (1) Tryd.f11 [.agg [.int .i64 m, .lst (.int .i64) a], .int .i64 g] [] = some (.bool true, []) := by
  conv => lhs; whnf
  conv => lhs; arg 1; whnf
  refine bnd_g (by exact ⟨by omega, by omega, hp⟩) ?_
  conv => lhs; whnf
  refine br_c (fun h1 => ?_) (fun h1 => ?_)
  · conv => lhs; whnf
  · conv => lhs; whnf
    obtain ⟨e1, l1⟩ := szI_ok (ofn h1)
    conv => lhs; arg 1; whnf
    refine bnd_g (by omega) ?_
    conv => lhs; whnf
    conv => lhs; arg 1; whnf
    refine bnd_g (by omega) ?_
    conv => lhs; whnf
    conv => lhs; arg 1; whnf
    refine bnd_g (by omega) ?_
    conv => lhs; whnf
    conv => lhs; arg 1; whnf
    refine bnd_g (by omega) ?_
    conv => lhs; whnf
    conv => lhs; arg 1; whnf
    refine bnd_g (by exact True.intro) ?_
    conv => lhs; whnf
    repeat ((first | with_reducible apply br_tt | with_reducible apply br_ff | with_reducible apply br_nf | with_reducible apply br_nt | with_reducible refine br_d ?_ (by kernel_rfl) | with_reducible refine br_f (by simp; done) ?_); conv => lhs; whnf)
    conv => lhs; arg 1; whnf
    refine bnd_g (by omega) ?_
    conv => lhs; whnf
    conv => lhs; arg 1; whnf
    refine bnd_g (by exact ⟨by omega, by omega⟩) ?_
    conv => lhs; whnf
    repeat ((first | with_reducible apply br_tt | with_reducible apply br_ff | with_reducible apply br_nf | with_reducible apply br_nt | with_reducible refine br_d ?_ (by kernel_rfl) | with_reducible refine br_f (by simp; done) ?_); conv => lhs; whnf)
theorem ok_lawSpotOf : FnOk Tryd.prog 11 K_lawSpotOf := by
  refine fn_ok (fn := Tryd.f11) (k := Tryd.f11.ntmps) (E := E_lawSpotOf) (facts_of (List.forall_mem_cons.2 ⟨ok_szContext, List.forall_mem_cons.2 ⟨ok_toContext, List.forall_mem_cons.2 ⟨ok_specSpotOf, List.forall_mem_cons.2 ⟨ok_implSpotOf, List.forall_mem_cons.2 ⟨ok_eqSpot, List.forall_mem_cons.2 ⟨ok_eqContext, List.forall_mem_nil _⟩⟩⟩⟩⟩⟩)) (by kernel_rfl) rfl (by decide +kernel) (by decide +kernel) ?_
  intro avs hin r h
  unfold K_lawSpotOf at h
  split at h
  · obtain ⟨hp, rfl⟩ := gd_o h
    exact ⟨_, ev_lawSpotOf _ _ _ hp, rfl⟩
  · cases h

end Go.Sym
