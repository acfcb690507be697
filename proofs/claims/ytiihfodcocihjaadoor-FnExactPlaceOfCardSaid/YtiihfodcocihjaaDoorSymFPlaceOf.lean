/- Functions of the program, each told as a plain equation. -/
import Derived.Test.YtiihfodcocihjaaDoorSymFNewIntents
namespace Go.Sym
open Go.Proofs
set_option linter.unusedVariables false
set_option linter.unusedSimpArgs false
set_option maxRecDepth 100000
set_option maxHeartbeats 4000000

theorem rowsL_get (b : List Int) : ∀ (d i k : Nat), k < d → (rowsL b d i).getD k 0 = orF (ordHas b ((i + k : Nat) : Int)) b.length 0 0
  | 0, i, k, h => by omega
  | d + 1, i, 0, h => by rw [rowsL, List.getD_cons_zero, Nat.add_zero]
  | d + 1, i, k + 1, h => by
    rw [rowsL, List.getD_cons_succ, rowsL_get b d (i + 1) k (by omega)]
    congr 2
    omega
theorem ord_le {b : List Int} (h : isOrd b = true) : b.length ≤ 6 ∧ (∀ k : Nat, k < b.length → isSet b.length (b.getD k 0) = true) ∧ (∀ k : Nat, k < b.length → (b.getD k 0).toNat.testBit k = true) ∧
    (∀ m k g : Nat, m < b.length → k < b.length → (b.getD m 0).toNat.testBit k = true → (b.getD k 0).toNat.testBit g = true → (b.getD m 0).toNat.testBit g = true) := by
  obtain ⟨h1, h2⟩ := isOrd_parts h
  have h3 : allB (ordRow b) b.length 0 = true := by
    unfold isOrd at h
    simp only [Bool.and_eq_true] at h
    exact h.2.2
  have hs : ∀ k : Nat, k < b.length → isSet b.length (b.getD k 0) = true := fun k hk => ordA_set h2 hk
  refine ⟨h1, hs, fun k hk => ?_, fun m k g hm hk hmk hkg => ?_⟩
  · have := (allB_iff _ _ _).1 h2 k (by omega) (by omega)
    unfold ordA at this
    have := (Bool.and_eq_true_iff.1 this).2
    unfold bitI at this
    rw [Int.toNat_natCast] at this
    exact this
  · have := (allB_iff _ _ _).1 h3 m (by omega) (by omega)
    unfold ordRow at this
    have := (allB_iff _ _ _).1 this k (by omega) (by omega)
    unfold ordBad at this
    have hb : bitI (b.getD m 0) (k : Int) = true := by unfold bitI; rw [Int.toNat_natCast]; exact hmk
    rw [hb, Bool.true_and, Bool.not_eq_true', Bool.or_eq_false_iff] at this
    have h4 : band (b.getD k 0) (b.getD m 0) = b.getD k 0 := by simpa using this.1
    have r1 := isSet_le (hs k hk)
    have r2 := isSet_le (hs m hm)
    have h5 := (band_set (x := b.getD k 0) (y := b.getD m 0) ⟨by omega, by omega⟩ ⟨by omega, by omega⟩).2.2
    rw [h4] at h5
    rw [h5, Nat.testBit_and] at hkg
    exact (Bool.and_eq_true_iff.1 hkg).2
theorem set_bit {n : Nat} {s : Int} (h : isSet n s = true) {e : Nat} (he : s.toNat.testBit e = true) : e < n := by
  rcases Nat.lt_or_ge e n with h5 | h5
  · exact h5
  · have := isSet_bit h (e := e) (by omega)
    unfold bitI at this
    rw [Int.toNat_natCast, he] at this
    cases this
theorem row_bit {b : List Int} (h : isOrd b = true) {k : Nat} (hk : k < b.length) (m : Nat) : ((rowsL b b.length 0).getD k 0).toNat.testBit m = true ↔ m < b.length ∧ (b.getD m 0).toNat.testBit k = true := by
  obtain ⟨h1, h2, _, _⟩ := ord_le h
  rw [rowsL_get b b.length 0 k hk, Nat.zero_add, orF_bit _ _ _ _ _ (by omega) (by omega) (by omega)]
  simp only [Int.toNat_zero, Nat.zero_testBit, Bool.false_or, Nat.zero_add, Nat.zero_le, true_and, Bool.and_eq_true, decide_eq_true_eq]
  refine and_congr_right fun hm => ?_
  unfold ordHas
  rw [Int.toNat_natCast, hasE_bit (isSet_8 (h2 m hm)) (by omega) (by omega)]
  unfold bitI
  rw [Int.toNat_natCast]
theorem place_iff {b : List Int} (h : isOrd b = true) {k : Nat} (hk : k < b.length) {p : Int × Int} (hp : p ∈ concF b.length (rowsL b b.length 0)) :
    p.2 = (rowsL b b.length 0).getD k 0 ↔ p.1 = b.getD k 0 := by
  obtain ⟨h1, h2, h3, h4⟩ := ord_le h
  obtain ⟨c1, c2, c3, c4, c5⟩ := concF_mem hp
  have hl := isCtx_len c1
  have hlen : (rowsL b b.length 0).length = b.length := rowsL_length b _ _
  have hsm := ctx_small c1
  constructor
  · intro e
    have hR := small_getD hsm k
    have hx := extF_spec hl.1 hsm (s := ((rowsL b b.length 0).getD k 0).toNat) (by omega)
    rw [Int.toNat_of_nonneg hR.1] at hx
    have hr := isSet_le (h2 k hk)
    rw [c4, e]
    have : (extF (rowsL b b.length 0) ((rowsL b b.length 0).getD k 0)).toNat = (b.getD k 0).toNat := by
      apply Nat.eq_of_testBit_eq
      intro g
      rw [Bool.eq_iff_iff, hx.2.2 g, hlen]
      constructor
      · rintro ⟨g1, g2⟩
        exact ((row_bit h g1 k).1 (g2 k ((row_bit h hk k).2 ⟨hk, h3 k hk⟩))).2
      · intro hg
        have hgn := set_bit (h2 k hk) hg
        refine ⟨hgn, fun m hm => ?_⟩
        obtain ⟨m1, m2⟩ := (row_bit h hk m).1 hm
        exact (row_bit h hgn m).2 ⟨m1, h4 m k g m1 hk m2 hg⟩
    omega
  · intro e
    have hr := isSet_le (h2 k hk)
    have hR := small_getD hsm k
    have hi := intentF_spec (m := (b.length : Int)) ⟨by omega, by omega⟩ hl.1 hsm (t := b.getD k 0) (isSet_8 (h2 k hk))
    rw [← c5, e]
    have : (intentF (b.length : Int) (rowsL b b.length 0) (b.getD k 0)).toNat = ((rowsL b b.length 0).getD k 0).toNat := by
      apply Nat.eq_of_testBit_eq
      intro x
      rw [Bool.eq_iff_iff, hi.2.2 x, row_bit h hk, hlen]
      constructor
      · rintro ⟨g1, g2⟩
        refine ⟨by omega, ?_⟩
        exact ((row_bit h hk x).1 (g2 k hk (h3 k hk))).2
      · rintro ⟨g1, g2⟩
        refine ⟨by omega, fun g hg hgk => ?_⟩
        exact (row_bit h hg x).2 ⟨g1, h4 x k g g1 hk g2 hgk⟩
    omega
theorem firstI_congr {α : Type} {p q : α → Bool} : ∀ (l : List α) (i : Int), (∀ x ∈ l, p x = q x) → firstI p l i = firstI q l i
  | [], _, _ => rfl
  | x :: l, i, h => by rw [firstI, firstI, h x (by simp), firstI_congr l (i + 1) fun y hy => h y (by simp [hy])]
def placeF (b : List Int) (k : Int) : Int := bif isOrd b && decide (0 ≤ k ∧ k ≤ (b.length : Int) - 1) then firstI (fun p => p.2 == (rowsL b b.length 0).getD k.toNat 0) (concF b.length (rowsL b b.length 0)) 0 else -1
theorem placeF_ext {b : List Int} (h : isOrd b = true) {k : Int} (hk : 0 ≤ k ∧ k ≤ (b.length : Int) - 1) : placeF b k = firstI (fun p => p.1 == b.getD k.toNat 0) (concF b.length (rowsL b b.length 0)) 0 := by
  unfold placeF
  rw [h, dt hk, Bool.and_self, cond_true]
  refine firstI_congr _ _ fun p hp => ?_
  rw [Bool.eq_iff_iff, beq_iff_eq, beq_iff_eq]
  exact place_iff h (by omega) hp
/- spec.l6At -/
def K_l6At : List AV → List Ob → Option (AV × List Ob)
  | [.lst (.pair (.int .i64) (.int .i64)) l, .int .i64 v], [] => gd (l.length ≤ 64) (.int .i64 (firstI (fun p => p.2 == v) l 0), [])
  | _, _ => none
@[reducible] def E_l6At : Env := mkE (tb []) (fun f => false) (fun r => bif r == 2 then ([0, 1, 5], [4]) else ([], []))
theorem lp_l6At (l : List (Int × Int)) (v : Int) (ha : l.length ≤ 64) (k : AX → S → Option (AV × List Ob)) (d : Nat) : ∀ (n i : Nat) (x : Int), l.length - i = d → i ≤ l.length → x = i → d < n →
    lpAt E_l6At (lp E_l6At 0 n) 0 (loopAt Tryd.f98 0) (mkS [0, 1, 5] [.lst (.pair (.int .i64) (.int .i64)) l, .int .i64 v, .int .i64 x] []) k =
      if (l.drop i).any (fun p => p.2 == v) then k .ret (mkS [4] [.int .i64 (firstI (fun p => p.2 == v) (l.drop i) i)] []) else k (.exit 0) (mkS [4] [.any] []) := by
  induction d with
  | zero =>
    intro n i x hd hi hx hn
    subst hx
    rw [lpAt_def]
    conv => lhs; whnf
    refine br_f (df (by omega)) ?_
    conv => lhs; whnf
    rw [List.drop_of_length_le (by omega)]
    simp
  | succ d ih =>
    intro n i x hd hi hx hn
    obtain ⟨n, rfl⟩ : ∃ m, n = m + 1 := ⟨n - 1, by omega⟩
    subst hx
    rw [lpAt_def]
    conv => lhs; whnf
    refine br_t (dt (by omega)) ?_
    conv => lhs; whnf
    refine br_t (dt2 (by omega) (by omega)) ?_
    conv => lhs; whnf
    rw [getD_drop (l := l) (i := i) (d := (0, 0)) (by omega)]
    refine br_c (fun h => ?_) (fun h => ?_)
    · have h' : ((l.getD i (0, 0)).2 == v) = true := h
      conv => lhs; whnf
      rw [if_pos (by simp only [List.any_cons, h', Bool.true_or]), firstI, h', cond_true]
    · have h' : ((l.getD i (0, 0)).2 == v) = false := h
      conv => lhs; whnf
      rw [ih n (i + 1) _ (by omega) (by omega) (by rw [wrap64 (by omega) (by omega)]; simp) (by omega)]
      simp only [List.any_cons, h', Bool.false_or]
      rw [firstI, h', cond_false]
      rfl
theorem ev_l6At (l : List (Int × Int)) (v : Int) (hp : l.length ≤ 64) : evF E_l6At (l.length + 2) Tryd.f98 [.lst (.pair (.int .i64) (.int .i64)) l, .int .i64 v] [] = some (.int .i64 (firstI (fun p => p.2 == v) l 0), []) := by
  conv => lhs; whnf
  refine (lp_l6At l v hp _ l.length _ 0 0 rfl (by omega) rfl (by omega)).trans ?_
  simp only [List.drop_zero]
  split
  · conv => lhs; whnf
    rfl
  · rename_i he
    conv => lhs; whnf
    have : firstI (fun p => p.2 == v) l 0 = -1 := firstI_none _ l 0 (by rw [Bool.not_eq_true] at he; exact he)
    rw [this]
theorem ok_l6At : FnOk Tryd.prog 98 K_l6At := by
  refine fn_ok (fn := Tryd.f98) (k := Tryd.f98.ntmps) (E := E_l6At) (facts_of (List.forall_mem_nil _)) (by kernel_rfl) rfl (by decide +kernel) (by decide +kernel) ?_
  intro avs hin r h
  unfold K_l6At at h
  split at h
  · obtain ⟨hp, rfl⟩ := gd_o h
    exact ⟨_, ev_l6At _ _ hp, rfl⟩
  · cases h

/- spec.PlaceOf -/
def K_specPlaceOf : List AV → List Ob → Option (AV × List Ob)
  | [.agg [.lst (.int .i64) b], .int .i64 k], [] => gd (b.length ≤ 1048576) (.int .i64 (placeF b k), [])
  | _, _ => none
@[reducible] def E_specPlaceOf : Env := mkE (tb [(94, K_specContextOfOrder), (97, K_l1In), (74, K_specConcepts), (98, K_l6At)]) (fun f => false) (fun r => ([], []))
theorem ev_specPlaceOf (b : List Int) (k : Int) (hp : b.length ≤ 1048576) : evF E_specPlaceOf (1) Tryd.f43 [.agg [.lst (.int .i64) b], .int .i64 k] [] = some (.int .i64 (placeF b k), []) := by
  have hl := ctxOrd_len b
  conv => lhs; whnf
  conv => lhs; arg 1; whnf
  refine bnd_g (by exact hp) ?_
  conv => lhs; whnf
  refine br_c (fun h => ?_) (fun h => ?_)
  · have h' : (ctxOrd b).2.2 = false := bnt h
    have h0 : isOrd b = false := by
      unfold ctxOrd at h'
      cases hb : isOrd b
      · rfl
      · rw [hb] at h'; cases h'
    conv => lhs; whnf
    repeat ((first | with_reducible apply br_tt | with_reducible apply br_ff | with_reducible apply br_nf | with_reducible apply br_nt | with_reducible refine br_d ?_ (by kernel_rfl) | with_reducible apply br_t h | with_reducible apply br_f h); conv => lhs; whnf)
    unfold placeF
    rw [h0]
    rfl
  · have h' : (ctxOrd b).2.2 = true := bnf h
    have h0 : isOrd b = true := by
      unfold ctxOrd at h'
      cases hb : isOrd b
      · rw [hb] at h'; cases h'
      · rfl
    have hc : ctxOrd b = ((b.length : Int), rowsL b b.length 0, true) := by
      unfold ctxOrd
      rw [h0]
      rfl
    have hlr : (rowsL b b.length 0).length = b.length := rowsL_length b _ _
    have hcl := concF_len (ctxOrd b).1 (ctxOrd b).2.1
    have hlen : (ctxOrd b).2.1.length = b.length := by rw [hc]; exact hlr
    conv => lhs; whnf
    repeat ((first | with_reducible apply br_tt | with_reducible apply br_ff | with_reducible apply br_nf | with_reducible apply br_nt | with_reducible refine br_d ?_ (by kernel_rfl) | with_reducible apply br_t h | with_reducible apply br_f h); conv => lhs; whnf)
    conv => lhs; arg 1; whnf
    refine bnd_g (by exact True.intro) ?_
    conv => lhs; whnf
    repeat ((first | with_reducible apply br_tt | with_reducible apply br_ff | with_reducible apply br_nf | with_reducible apply br_nt | with_reducible refine br_d ?_ (by kernel_rfl) | with_reducible apply br_t h | with_reducible apply br_f h); conv => lhs; whnf)
    have hw : IntKind.i64.wrap ((b.length : Int) - 1) = (b.length : Int) - 1 := wrap64 (by omega) (by omega)
    refine br_c (fun h2 => ?_) (fun h2 => ?_)
    · have h2' := ofnt h2
      rw [hw] at h2'
      conv => lhs; whnf
      unfold placeF
      rw [df h2', Bool.and_false]
      rfl
    · have h2' := ofnf h2
      rw [hw] at h2'
      conv => lhs; whnf
      conv => lhs; arg 1; whnf
      refine bnd_g (by omega) ?_
      conv => lhs; whnf
      refine br_t (by (exact dt2 h2'.1 (by omega))) ?_
      conv => lhs; whnf
      refine br_t (dt (by omega)) ?_
      conv => lhs; whnf
      repeat ((first | with_reducible apply br_tt | with_reducible apply br_ff | with_reducible apply br_nf | with_reducible apply br_nt | with_reducible refine br_d ?_ (by kernel_rfl)); conv => lhs; whnf)
      conv => lhs; arg 1; whnf
      refine bnd_g (by exact hcl) ?_
      conv => lhs; whnf
      repeat ((first | with_reducible apply br_tt | with_reducible apply br_ff | with_reducible apply br_nf | with_reducible apply br_nt | with_reducible refine br_d ?_ (by kernel_rfl)); conv => lhs; whnf)
      unfold placeF
      rw [h0, dt h2', hc]
      rfl
theorem ok_specPlaceOf : FnOk Tryd.prog 43 K_specPlaceOf := by
  refine fn_ok (fn := Tryd.f43) (k := Tryd.f43.ntmps) (E := E_specPlaceOf) (facts_of (List.forall_mem_cons.2 ⟨ok_specContextOfOrder, List.forall_mem_cons.2 ⟨ok_l1In, List.forall_mem_cons.2 ⟨ok_specConcepts, List.forall_mem_cons.2 ⟨ok_l6At, List.forall_mem_nil _⟩⟩⟩⟩)) (by kernel_rfl) rfl (by decide +kernel) (by decide +kernel) ?_
  intro avs hin r h
  unfold K_specPlaceOf at h
  split at h
  · obtain ⟨hp, rfl⟩ := gd_o h
    exact ⟨_, ev_specPlaceOf _ _ hp, rfl⟩
  · cases h

/- (impl.lattice).index$1 -/
def K_latIndex1 : List AV → List Ob → Option (AV × List Ob)
  | [.agg [.int .i64 p, .int .i64 q], .vptr [.int .i64 v] 0], [] => gd (True) (.bool (p == v), [])
  | _, _ => none
@[reducible] def E_latIndex1 : Env := mkE (tb []) (fun f => false) (fun r => ([], []))
theorem ev_latIndex1 (p q v : Int) (hp : True) : evF E_latIndex1 (1) Tryd.f147 [.agg [.int .i64 p, .int .i64 q], .vptr [.int .i64 v] 0] [] = some (.bool (p == v), []) := by
  conv => lhs; whnf
theorem ok_latIndex1 : FnOk Tryd.prog 147 K_latIndex1 := by
  refine fn_ok (fn := Tryd.f147) (k := Tryd.f147.ntmps) (E := E_latIndex1) (facts_of (List.forall_mem_nil _)) (by kernel_rfl) rfl (by decide +kernel) (by decide +kernel) ?_
  intro avs hin r h
  unfold K_latIndex1 at h
  split at h
  · obtain ⟨hp, rfl⟩ := gd_o h
    exact ⟨_, ev_latIndex1 _ _ _ hp, rfl⟩
  · cases h

/- slices.IndexFunc[impl.lattice,impl.Concept] -/
def K_idxLat : List AV → List Ob → Option (AV × List Ob)
  | [.lst (.pair (.int .i64) (.int .i64)) l, .clo 147 [.vptr [.int .i64 v] 0]], [] => gd (l.length ≤ 64) (.int .i64 (firstI (fun p => p.1 == v) l 0), [])
  | _, _ => none
@[reducible] def E_idxLat : Env := mkE (tb [(147, K_latIndex1)]) (fun f => false) (fun r => bif r == 2 then ([0, 1, 7, 8], [4]) else ([], []))
theorem lp_idxLat (l : List (Int × Int)) (v : Int) (ha : l.length ≤ 64) (k : AX → S → Option (AV × List Ob)) (d : Nat) : ∀ (n i : Nat) (x : Int), l.length - i = d → i ≤ l.length → x = i → d < n →
    lpAt E_idxLat (lp E_idxLat 0 n) 0 (loopAt Tryd.f146 0) (mkS [0, 1, 7, 8] [.lst (.pair (.int .i64) (.int .i64)) l, .clo 147 [.vptr [.int .i64 v] 0], .int .i64 l.length, .int .i64 x] []) k =
      if (l.drop i).any (fun p => p.1 == v) then k .ret (mkS [4] [.int .i64 (firstI (fun p => p.1 == v) (l.drop i) i)] []) else k (.exit 0) (mkS [4] [.any] []) := by
  induction d with
  | zero =>
    intro n i x hd hi hx hn
    subst hx
    rw [lpAt_def]
    conv => lhs; whnf
    refine br_f (df (by omega)) ?_
    conv => lhs; whnf
    rw [List.drop_of_length_le (by omega)]
    simp
  | succ d ih =>
    intro n i x hd hi hx hn
    obtain ⟨n, rfl⟩ : ∃ m, n = m + 1 := ⟨n - 1, by omega⟩
    subst hx
    rw [lpAt_def]
    conv => lhs; whnf
    refine br_t (dt (by omega)) ?_
    conv => lhs; whnf
    refine br_t (dt2 (by omega) (by omega)) ?_
    conv => lhs; whnf
    conv => lhs; arg 1; whnf
    refine bnd_g (by exact True.intro) ?_
    conv => lhs; whnf
    rw [getD_drop (l := l) (i := i) (d := (0, 0)) (by omega)]
    refine br_c (fun h => ?_) (fun h => ?_)
    · have h' : ((l.getD i (0, 0)).1 == v) = true := h
      conv => lhs; whnf
      rw [if_pos (by simp only [List.any_cons, h', Bool.true_or]), firstI, h', cond_true]
    · have h' : ((l.getD i (0, 0)).1 == v) = false := h
      conv => lhs; whnf
      rw [ih n (i + 1) _ (by omega) (by omega) (by rw [wrap64 (by omega) (by omega)]; simp) (by omega)]
      simp only [List.any_cons, h', Bool.false_or]
      rw [firstI, h', cond_false]
      rfl
theorem ev_idxLat (l : List (Int × Int)) (v : Int) (hp : l.length ≤ 64) : evF E_idxLat (l.length + 2) Tryd.f146 [.lst (.pair (.int .i64) (.int .i64)) l, .clo 147 [.vptr [.int .i64 v] 0]] [] = some (.int .i64 (firstI (fun p => p.1 == v) l 0), []) := by
  conv => lhs; whnf
  refine (lp_idxLat l v hp _ l.length _ 0 0 rfl (by omega) rfl (by omega)).trans ?_
  simp only [List.drop_zero]
  split
  · conv => lhs; whnf
    rfl
  · rename_i he
    conv => lhs; whnf
    have : firstI (fun p => p.1 == v) l 0 = -1 := firstI_none _ l 0 (by rw [Bool.not_eq_true] at he; exact he)
    rw [this]
theorem ok_idxLat : FnOk Tryd.prog 146 K_idxLat := by
  refine fn_ok (fn := Tryd.f146) (k := Tryd.f146.ntmps) (E := E_idxLat) (facts_of (List.forall_mem_cons.2 ⟨ok_latIndex1, List.forall_mem_nil _⟩)) (by kernel_rfl) rfl (by decide +kernel) (by decide +kernel) ?_
  intro avs hin r h
  unfold K_idxLat at h
  split at h
  · obtain ⟨hp, rfl⟩ := gd_o h
    exact ⟨_, ev_idxLat _ _ hp, rfl⟩
  · cases h

/- (impl.lattice).index -/
def K_latIndex : List AV → List Ob → Option (AV × List Ob)
  | [.lst (.pair (.int .i64) (.int .i64)) l, .int .i64 v], [] => gd (l.length ≤ 64) (.int .i64 (firstI (fun p => p.1 == v) l 0), [])
  | _, _ => none
@[reducible] def E_latIndex : Env := mkE (tb [(146, K_idxLat)]) (fun f => false) (fun r => ([], []))
theorem ev_latIndex (l : List (Int × Int)) (v : Int) (hp : l.length ≤ 64) : evF E_latIndex (1) Tryd.f101 [.lst (.pair (.int .i64) (.int .i64)) l, .int .i64 v] [] = some (.int .i64 (firstI (fun p => p.1 == v) l 0), []) := by
  conv => lhs; whnf
  conv => lhs; arg 1; whnf
  refine bnd_g (by exact hp) ?_
  conv => lhs; whnf
theorem ok_latIndex : FnOk Tryd.prog 101 K_latIndex := by
  refine fn_ok (fn := Tryd.f101) (k := Tryd.f101.ntmps) (E := E_latIndex) (facts_of (List.forall_mem_cons.2 ⟨ok_idxLat, List.forall_mem_nil _⟩)) (by kernel_rfl) rfl (by decide +kernel) (by decide +kernel) ?_
  intro avs hin r h
  unfold K_latIndex at h
  split at h
  · obtain ⟨hp, rfl⟩ := gd_o h
    exact ⟨_, ev_latIndex _ _ hp, rfl⟩
  · cases h

/- impl.PlaceOf -/
def K_implPlaceOf : List AV → List Ob → Option (AV × List Ob)
  | [.agg [.lst (.int .i64) b], .int .i64 k], [] => gd (b.length ≤ 1048576) (.int .i64 (placeF b k), [])
  | _, _ => none
@[reducible] def E_implPlaceOf : Env := mkE (tb [(95, K_implContextOfOrder), (99, K_within), (100, K_implConcepts), (101, K_latIndex)]) (fun f => false) (fun r => ([], []))
theorem ev_implPlaceOf (b : List Int) (k : Int) (hp : b.length ≤ 1048576) : evF E_implPlaceOf (1) Tryd.f44 [.agg [.lst (.int .i64) b], .int .i64 k] [] = some (.int .i64 (placeF b k), []) := by
  have hl := ctxOrd_len b
  conv => lhs; whnf
  conv => lhs; arg 1; whnf
  refine bnd_g (by omega) ?_
  conv => lhs; whnf
  refine br_c (fun h => ?_) (fun h => ?_)
  · have h' : (ctxOrd b).2.2 = false := bnt h
    have h0 : isOrd b = false := by
      unfold ctxOrd at h'
      cases hb : isOrd b
      · rfl
      · rw [hb] at h'; cases h'
    conv => lhs; whnf
    repeat ((first | with_reducible apply br_tt | with_reducible apply br_ff | with_reducible apply br_nf | with_reducible apply br_nt | with_reducible refine br_d ?_ (by kernel_rfl) | with_reducible apply br_t h | with_reducible apply br_f h); conv => lhs; whnf)
    unfold placeF
    rw [h0]
    rfl
  · have h' : (ctxOrd b).2.2 = true := bnf h
    have h0 : isOrd b = true := by
      unfold ctxOrd at h'
      cases hb : isOrd b
      · rw [hb] at h'; cases h'
      · rfl
    have hc : ctxOrd b = ((b.length : Int), rowsL b b.length 0, true) := by
      unfold ctxOrd
      rw [h0]
      rfl
    have hlr : (rowsL b b.length 0).length = b.length := rowsL_length b _ _
    have hcl := concF_len (ctxOrd b).1 (ctxOrd b).2.1
    conv => lhs; whnf
    repeat ((first | with_reducible apply br_tt | with_reducible apply br_ff | with_reducible apply br_nf | with_reducible apply br_nt | with_reducible refine br_d ?_ (by kernel_rfl) | with_reducible apply br_t h | with_reducible apply br_f h); conv => lhs; whnf)
    conv => lhs; arg 1; whnf
    refine bnd_g (by exact True.intro) ?_
    conv => lhs; whnf
    repeat ((first | with_reducible apply br_tt | with_reducible apply br_ff | with_reducible apply br_nf | with_reducible apply br_nt | with_reducible refine br_d ?_ (by kernel_rfl) | with_reducible apply br_t h | with_reducible apply br_f h); conv => lhs; whnf)
    have hw : IntKind.i64.wrap ((b.length : Int) - 1) = (b.length : Int) - 1 := wrap64 (by omega) (by omega)
    refine br_c (fun h2 => ?_) (fun h2 => ?_)
    · have h2' := ofnt h2
      rw [hw] at h2'
      conv => lhs; whnf
      unfold placeF
      rw [df h2', Bool.and_false]
      rfl
    · have h2' := ofnf h2
      rw [hw] at h2'
      conv => lhs; whnf
      conv => lhs; arg 1; whnf
      refine bnd_g (by omega) ?_
      conv => lhs; whnf
      refine br_t (by (exact dt2 h2'.1 (by omega))) ?_
      conv => lhs; whnf
      repeat ((first | with_reducible apply br_tt | with_reducible apply br_ff | with_reducible apply br_nf | with_reducible apply br_nt | with_reducible refine br_d ?_ (by kernel_rfl)); conv => lhs; whnf)
      conv => lhs; arg 1; whnf
      refine bnd_g (by exact hcl) ?_
      conv => lhs; whnf
      repeat ((first | with_reducible apply br_tt | with_reducible apply br_ff | with_reducible apply br_nf | with_reducible apply br_nt | with_reducible refine br_d ?_ (by kernel_rfl)); conv => lhs; whnf)
      rw [placeF_ext h0 h2', hc]
      rfl
theorem ok_implPlaceOf : FnOk Tryd.prog 44 K_implPlaceOf := by
  refine fn_ok (fn := Tryd.f44) (k := Tryd.f44.ntmps) (E := E_implPlaceOf) (facts_of (List.forall_mem_cons.2 ⟨ok_implContextOfOrder, List.forall_mem_cons.2 ⟨ok_within, List.forall_mem_cons.2 ⟨ok_implConcepts, List.forall_mem_cons.2 ⟨ok_latIndex, List.forall_mem_nil _⟩⟩⟩⟩)) (by kernel_rfl) rfl (by decide +kernel) (by decide +kernel) ?_
  intro avs hin r h
  unfold K_implPlaceOf at h
  split at h
  · obtain ⟨hp, rfl⟩ := gd_o h
    exact ⟨_, ev_implPlaceOf _ _ hp, rfl⟩
  · cases h

/- laws.FnExactPlaceOf -/
def K_lawPlaceOf : List AV → List Ob → Option (AV × List Ob)
  | [.agg [.lst (.int .i64) a], .int .i64 s], [] => gd (a.length ≤ maxLen) (.bool true, [])
  | _, _ => none
@[reducible] def E_lawPlaceOf : Env := mkE (tb [(38, K_szOrder), (40, K_toOrder), (43, K_specPlaceOf), (44, K_implPlaceOf), (42, K_eqOrder)]) (fun f => false) (fun r => ([], []))
theorem ev_lawPlaceOf (a : List Int) (s : Int) (hp : a.length ≤ maxLen) : evF E_lawPlaceOf (1) Tryd.f9 [.agg [.lst (.int .i64) a], .int .i64 s] [] = some (.bool true, []) := by
  conv => lhs; whnf
  conv => lhs; arg 1; whnf
  refine bnd_g (by exact ⟨by omega, by omega, hp⟩) ?_
  conv => lhs; whnf
  refine br_c (fun h1 => ?_) (fun h1 => ?_)
  · conv => lhs; whnf
  · conv => lhs; whnf
    obtain ⟨e1, l1⟩ := szI_ok (ofn h1)
    conv => lhs; arg 1; whnf
    refine bnd_g (by omega) ?_
    conv => lhs; whnf
    conv => lhs; arg 1; whnf
    refine bnd_g (by omega) ?_
    conv => lhs; whnf
    conv => lhs; arg 1; whnf
    refine bnd_g (by omega) ?_
    conv => lhs; whnf
    conv => lhs; arg 1; whnf
    refine bnd_g (by omega) ?_
    conv => lhs; whnf
    repeat ((first | with_reducible apply br_tt | with_reducible apply br_ff | with_reducible apply br_nf | with_reducible apply br_nt | with_reducible refine br_d ?_ (by kernel_rfl) | with_reducible refine br_f (by simp; done) ?_); conv => lhs; whnf)
    conv => lhs; arg 1; whnf
    refine bnd_g (by omega) ?_
    conv => lhs; whnf
    conv => lhs; arg 1; whnf
    refine bnd_g (by exact ⟨by omega, by omega⟩) ?_
    conv => lhs; whnf
    repeat ((first | with_reducible apply br_tt | with_reducible apply br_ff | with_reducible apply br_nf | with_reducible apply br_nt | with_reducible refine br_d ?_ (by kernel_rfl) | with_reducible refine br_f (by simp; done) ?_); conv => lhs; whnf)
theorem ok_lawPlaceOf : FnOk Tryd.prog 9 K_lawPlaceOf := by
  refine fn_ok (fn := Tryd.f9) (k := Tryd.f9.ntmps) (E := E_lawPlaceOf) (facts_of (List.forall_mem_cons.2 ⟨ok_szOrder, List.forall_mem_cons.2 ⟨ok_toOrder, List.forall_mem_cons.2 ⟨ok_specPlaceOf, List.forall_mem_cons.2 ⟨ok_implPlaceOf, List.forall_mem_cons.2 ⟨ok_eqOrder, List.forall_mem_nil _⟩⟩⟩⟩⟩)) (by kernel_rfl) rfl (by decide +kernel) (by decide +kernel) ?_
  intro avs hin r h
  unfold K_lawPlaceOf at h
  split at h
  · obtain ⟨hp, rfl⟩ := gd_o h
    exact ⟨_, ev_lawPlaceOf _ _ hp, rfl⟩
  · cases h

end Go.Sym
