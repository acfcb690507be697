/- Functions of the program, each told as a plain equation. -/
import Derived.Test.YtonbmmjagdbgaaaGreatDoorSymHCpt
namespace Go.Sym
open Go.Proofs
set_option linter.unusedVariables false
set_option linter.unusedSimpArgs false
set_option maxRecDepth 100000
set_option maxHeartbeats 4000000

def tabV (m : Int) (b : List Int) (meet : Bool) (p q : Int × Int) : Int := bif meet then intentF m b (band p.1 q.1) else band p.2 q.2
def tabC (m : Int) (b : List Int) (l : List (Int × Int)) (meet : Bool) (p q : Int × Int) : Int := firstI (fun z => z.2 == tabV m b meet p q) l 0
def tabR (m : Int) (b : List Int) (l : List (Int × Int)) (meet : Bool) (p : Int × Int) : List Int := l.map (tabC m b l meet p)
/- spec.l6At -/
def K_l6At : List AV → List Ob → Option (AV × List Ob)
  | [.lst (.pair (.int .i64) (.int .i64)) l, .int .i64 v], [] => gd (l.length ≤ 64) (.int .i64 (firstI (fun p => p.2 == v) l 0), [])
  | _, _ => none
@[reducible] def E_l6At : Env := mkE (tb []) (fun f => false) (fun r => bif r == 2 then ([0, 1, 5], [4]) else ([], []))
theorem lp_l6At (l : List (Int × Int)) (v : Int) (ha : l.length ≤ 64) (k : AX → S → Option (AV × List Ob)) (d : Nat) : ∀ (n i : Nat) (x : Int), l.length - i = d → i ≤ l.length → x = i → d < n →
    lpAt E_l6At (lp E_l6At 0 n) 0 (loopAt Tryz.f228 0) (mkS [0, 1, 5] [.lst (.pair (.int .i64) (.int .i64)) l, .int .i64 v, .int .i64 x] []) k =
      if (l.drop i).any (fun p => p.2 == v) then k .ret (mkS [4] [.int .i64 (firstI (fun p => p.2 == v) (l.drop i) i)] []) else k (.exit 0) (mkS [4] [.any] []) := by
  induction d with
  | zero =>
    intro n i x hd hi hx hn
    subst hx
    rw [lpAt_def]
    conv => lhs; whnf
    refine br_f (df (by omega)) ?_
    conv => lhs; whnf
    rw [List.drop_of_length_le (by omega)]
    simp
  | succ d ih =>
    intro n i x hd hi hx hn
    obtain ⟨n, rfl⟩ : ∃ m, n = m + 1 := ⟨n - 1, by omega⟩
    subst hx
    rw [lpAt_def]
    conv => lhs; whnf
    refine br_t (dt (by omega)) ?_
    conv => lhs; whnf
    refine br_t (dt2 (by omega) (by omega)) ?_
    conv => lhs; whnf
    rw [getD_drop (l := l) (i := i) (d := (0, 0)) (by omega)]
    refine br_c (fun h => ?_) (fun h => ?_)
    · have h' : ((l.getD i (0, 0)).2 == v) = true := h
      conv => lhs; whnf
      rw [if_pos (by simp only [List.any_cons, h', Bool.true_or]), firstI, h', cond_true]
    · have h' : ((l.getD i (0, 0)).2 == v) = false := h
      conv => lhs; whnf
      rw [ih n (i + 1) _ (by omega) (by omega) (by rw [wrap64 (by omega) (by omega)]; simp) (by omega)]
      simp only [List.any_cons, h', Bool.false_or]
      rw [firstI, h', cond_false]
      rfl
theorem ev_l6At (l : List (Int × Int)) (v : Int) (hp : l.length ≤ 64) : evF E_l6At (l.length + 2) Tryz.f228 [.lst (.pair (.int .i64) (.int .i64)) l, .int .i64 v] [] = some (.int .i64 (firstI (fun p => p.2 == v) l 0), []) := by
  conv => lhs; whnf
  refine (lp_l6At l v hp _ l.length _ 0 0 rfl (by omega) rfl (by omega)).trans ?_
  simp only [List.drop_zero]
  split
  · conv => lhs; whnf
    rfl
  · rename_i he
    conv => lhs; whnf
    have : firstI (fun p => p.2 == v) l 0 = -1 := firstI_none _ l 0 (by rw [Bool.not_eq_true] at he; exact he)
    rw [this]
theorem ok_l6At : FnOk Tryz.prog 228 K_l6At := by
  refine fn_ok (fn := Tryz.f228) (k := Tryz.f228.ntmps) (E := E_l6At) (facts_of (List.forall_mem_nil _)) (by kernel_rfl) rfl (by decide +kernel) (by decide +kernel) ?_
  intro avs hin r h
  unfold K_l6At at h
  split at h
  · obtain ⟨hp, rfl⟩ := gd_o h
    exact ⟨_, ev_l6At _ _ hp, rfl⟩
  · cases h

/- spec.l21Table -/
def K_specTable : List AV → List Ob → Option (AV × List Ob)
  | [.agg [.int .i64 m, .lst (.int .i64) b], .lst (.pair (.int .i64) (.int .i64)) l, .bool meet], [] => gd (b.length ≤ 8 ∧ l.length ≤ 64 ∧ ∀ p ∈ l, ∀ q ∈ l, isSet 8 (band p.1 q.1) = true) (.own 0, [.nest 24 3 (.int .i64) (l.map (tabR m b l meet)) none])
  | _, _ => none
@[reducible] def E_specTable : Env := mkE (tb [(152, K_specIntent), (228, K_l6At)]) (fun f => false) (fun r => bif r == 3 then ([1, 2, 3, 7, 8], [1, 2, 3, 7, 8, 9]) else bif r == 7 then ([1, 2, 3, 7, 8, 9, 10], [1, 2, 3, 7, 8, 9]) else ([], []))
theorem lpi_specTable (m : Int) (b : List Int) (hb : b.length ≤ 8) (l : List (Int × Int)) (hl : l.length ≤ 64) (meet : Bool) (p : Int × Int) (a : Nat) (ha : a < l.length) (hp : l.getD a (0, 0) = p) (hs : ∀ p ∈ l, ∀ q ∈ l, isSet 8 (band p.1 q.1) = true) (yss : List (List Int)) (k : AX → S → Option (AV × List Ob)) (d : Nat) : ∀ (n i : Nat) (x : Int) (ys : List Int), l.length - i = d → i ≤ l.length → x = i → d < n → ys.length ≤ i →
    lpAt E_specTable (lp E_specTable 0 n) 0 (loopAt Tryz.f194 1) (mkS [1, 2, 3, 7, 8, 9, 10] [.lst (.pair (.int .i64) (.int .i64)) l, .bool meet, .ptr 0 0, .own 1, .int .i64 (a : Int), .own 2, .int .i64 x] [some (.box 26 [.int .i64 m, .lst (.int .i64) b]), some (.nest 24 3 (.int .i64) yss none), some (.row 3 (.int .i64) ys)]) k =
      k (.exit 2) (mkS [1, 2, 3, 7, 8, 9] [.lst (.pair (.int .i64) (.int .i64)) l, .bool meet, .ptr 0 0, .own 1, .int .i64 (a : Int), .own 2] [some (.box 26 [.int .i64 m, .lst (.int .i64) b]), some (.nest 24 3 (.int .i64) yss none), some (.row 3 (.int .i64) (ys ++ (l.drop i).map (tabC m b l meet p)))]) := by
  induction d with
  | zero =>
    intro n i x ys hd hi hx hn hz
    subst hx
    rw [lpAt_def]
    conv => lhs; whnf
    refine br_f (df (by omega)) ?_
    conv => lhs; whnf
    rw [List.drop_of_length_le (by omega)]
    simp
  | succ d ih =>
    intro n i x ys hd hi hx hn hz
    obtain ⟨n, rfl⟩ : ∃ m, n = m + 1 := ⟨n - 1, by omega⟩
    subst hx
    rw [lpAt_def]
    conv => lhs; whnf
    refine br_t (dt (by omega)) ?_
    conv => lhs; whnf
    refine br_t (dt2 (by omega) (by omega)) ?_
    conv => lhs; whnf
    refine br_t (dt2 (by omega) (by omega)) ?_
    conv => lhs; whnf
    refine br_t (by kernel_rfl) ?_
    conv => lhs; whnf
    refine br_c (fun h => ?_) (fun h => ?_)
    · conv => lhs; whnf
      refine br_t (dt2 (by omega) (by omega)) ?_
      conv => lhs; whnf
      refine br_t (dt2 (by omega) (by omega)) ?_
      conv => lhs; whnf
      conv => lhs; arg 1; whnf
      refine bnd_g (by exact ⟨hb, hs _ (mem_getD (d := (0, 0)) (show a < l.length by omega)) _ (mem_getD (d := (0, 0)) (show i < l.length by omega))⟩) ?_
      conv => lhs; whnf
      refine br_t (by kernel_rfl) ?_
      conv => lhs; whnf
      conv => lhs; arg 1; whnf
      refine bnd_g (by omega) ?_
      conv => lhs; whnf
      refine br_t (dt (by simp [room]; omega)) ?_
      conv => lhs; whnf
      rw [ih n (i + 1) _ _ (by omega) (by omega) (by rw [wrap64 (n := (i : Int) + 1) (by omega) (by omega)]; simp) (by omega) (by simp; omega)]
      rw [getD_drop (l := l) (i := i) (d := (0, 0)) (by omega), List.map_cons]
      have e : tabC m b l meet p (l.getD i (0, 0)) = firstI (fun z => z.2 == intentF m b (band (l.getD a (0, 0)).1 (l.getD i (0, 0)).1)) l 0 := by
        have h' : meet = true := h
        rw [hp]; unfold tabC tabV; rw [h']; rfl
      rw [e, List.append_assoc]
      rfl
    · conv => lhs; whnf
      conv => lhs; arg 1; whnf
      refine bnd_g (by omega) ?_
      conv => lhs; whnf
      refine br_t (dt (by simp [room]; omega)) ?_
      conv => lhs; whnf
      rw [ih n (i + 1) _ _ (by omega) (by omega) (by rw [wrap64 (n := (i : Int) + 1) (by omega) (by omega)]; simp) (by omega) (by simp; omega)]
      rw [getD_drop (l := l) (i := i) (d := (0, 0)) (by omega), List.map_cons]
      have e : tabC m b l meet p (l.getD i (0, 0)) = firstI (fun z => z.2 == band (l.getD a (0, 0)).2 (l.getD i (0, 0)).2) l 0 := by
        have h' : meet = false := h
        rw [hp]; unfold tabC tabV; rw [h']; rfl
      rw [e, List.append_assoc]
      rfl
theorem lp_specTable (m : Int) (b : List Int) (hb : b.length ≤ 8) (l : List (Int × Int)) (hl : l.length ≤ 64) (meet : Bool) (hs : ∀ p ∈ l, ∀ q ∈ l, isSet 8 (band p.1 q.1) = true) (k : AX → S → Option (AV × List Ob)) (d : Nat) : ∀ (n i : Nat) (x : Int) (yss : List (List Int)), l.length - i = d → i ≤ l.length → x = i → d + 70 < n → yss.length ≤ i →
    lpAt E_specTable (lp E_specTable 0 n) 0 (loopAt Tryz.f194 0) (mkS [1, 2, 3, 7, 8] [.lst (.pair (.int .i64) (.int .i64)) l, .bool meet, .ptr 0 0, .own 1, .int .i64 x] [some (.box 26 [.int .i64 m, .lst (.int .i64) b]), some (.nest 24 3 (.int .i64) yss none)]) k =
      k (.exit 0) (mkS [1, 2, 3, 7, 8, 9] [.lst (.pair (.int .i64) (.int .i64)) l, .bool meet, .ptr 0 0, .own 1, .int .i64 l.length, .any] [some (.box 26 [.int .i64 m, .lst (.int .i64) b]), some (.nest 24 3 (.int .i64) (yss ++ (l.drop i).map (tabR m b l meet)) none)]) := by
  induction d with
  | zero =>
    intro n i x yss hd hi hx hn hz
    subst hx
    rw [lpAt_def]
    conv => lhs; whnf
    refine br_f (df (by omega)) ?_
    conv => lhs; whnf
    have e : i = l.length := by omega
    rw [List.drop_of_length_le (by omega), e]
    simp
  | succ d ih =>
    intro n i x yss hd hi hx hn hz
    obtain ⟨n, rfl⟩ : ∃ m, n = m + 1 := ⟨n - 1, by omega⟩
    subst hx
    rw [lpAt_def]
    conv => lhs; whnf
    refine br_t (dt (by omega)) ?_
    conv => lhs; whnf
    refine (lpi_specTable m b hb l hl meet _ i (by omega) rfl hs yss _ _ _ 0 0 [] rfl (by omega) rfl (by omega) (by simp)).trans ?_
    conv => lhs; whnf
    refine br_t (dt (by simp [room]; omega)) ?_
    conv => lhs; whnf
    rw [ih n (i + 1) _ _ (by omega) (by omega) (by rw [wrap64 (n := (i : Int) + 1) (by omega) (by omega)]; simp) (by omega) (by simp; omega)]
    rw [getD_drop (l := l) (i := i) (d := (0, 0)) (by omega), List.map_cons]
    rw [List.append_assoc]
    rfl
theorem ev_specTable (m : Int) (b : List Int) (l : List (Int × Int)) (meet : Bool) (hp : b.length ≤ 8 ∧ l.length ≤ 64 ∧ ∀ p ∈ l, ∀ q ∈ l, isSet 8 (band p.1 q.1) = true) : evF E_specTable (l.length + 100) Tryz.f194 [.agg [.int .i64 m, .lst (.int .i64) b], .lst (.pair (.int .i64) (.int .i64)) l, .bool meet] [] = some (.own 0, [.nest 24 3 (.int .i64) (l.map (tabR m b l meet)) none]) := by
  conv => lhs; whnf
  refine (lp_specTable m b hp.1 l hp.2.1 meet hp.2.2 _ l.length _ 0 0 [] rfl (by omega) rfl (by omega) (by simp)).trans ?_
  conv => lhs; whnf
  rfl
theorem ok_specTable : FnOk Tryz.prog 194 K_specTable := by
  refine fn_ok (fn := Tryz.f194) (k := Tryz.f194.ntmps) (E := E_specTable) (facts_of (List.forall_mem_cons.2 ⟨ok_specIntent, List.forall_mem_cons.2 ⟨ok_l6At, List.forall_mem_nil _⟩⟩)) (by kernel_rfl) rfl (by decide +kernel) (by decide +kernel) ?_
  intro avs hin r h
  unfold K_specTable at h
  split at h
  · obtain ⟨hp, rfl⟩ := gd_o h
    exact ⟨_, ev_specTable _ _ _ _ hp, rfl⟩
  · cases h

def sumB (f : Nat → Bool) : Nat → Nat → Int → Int
  | 0, _, q => q
  | d + 1, i, q => sumB f d (i + 1) (q + bif f i then 1 else 0)
theorem sumB_le (f : Nat → Bool) : ∀ (d i : Nat) (q : Int), q ≤ sumB f d i q ∧ sumB f d i q ≤ q + d
  | 0, i, q => by simp [sumB]
  | d + 1, i, q => by
    have h := sumB_le f d (i + 1) (q + bif f i then 1 else 0)
    rw [sumB]
    cases hf : f i <;> rw [hf] at h <;> simp only [cond_true, cond_false] at h ⊢ <;> omega
theorem sumB_none (f : Nat → Bool) : ∀ (d i : Nat) (q : Int), (∀ j, i ≤ j → f j = false) → sumB f d i q = q
  | 0, i, q, _ => rfl
  | d + 1, i, q, h => by
    rw [sumB, h i (Nat.le_refl _), cond_false, Int.add_zero]
    exact sumB_none f d (i + 1) q fun j hj => h j (by omega)
theorem sumB_cut (f g : Nat → Bool) (n : Nat) : ∀ (d c i : Nat) (q : Int), i + d = n → (∀ j, j < n → f j = g j) → (∀ j, n ≤ j → g j = false) → sumB g (d + c) i q = sumB f d i q
  | 0, c, i, q, h1, h2, h3 => by
    rw [Nat.zero_add]
    exact sumB_none g c i q fun j hj => h3 j (by omega)
  | d + 1, c, i, q, h1, h2, h3 => by
    rw [show d + 1 + c = (d + c) + 1 by omega, sumB, sumB, ← h2 i (by omega)]
    exact sumB_cut f g n d c (i + 1) _ (by omega) h2 h3
abbrev elC (l : List (Int × Int)) (a : Int) : Int × Int := l.getD a.toNat (0, 0)
def inC (l : List (Int × Int)) (a : Int) : Bool := decide (0 ≤ a ∧ a ≤ (l.length : Int) - 1)
theorem concF_len (m : Int) (b : List Int) : (concF m b).length ≤ 64 := by
  unfold concF
  cases h : isCtx m b with
  | false => simp
  | true =>
    have hl := isCtx_len h
    obtain ⟨h1, h2, h3, h4, h5⟩ := lec_all ⟨m.toNat, by omega⟩
    simp only at h2
    have hpw := pow64 (n := m.toNat) (by omega)
    have := List.length_filter_le (closedI m b) (lecI m.toNat)
    rw [cond_true, List.length_map]
    omega
theorem concF_mem {m : Int} {b : List Int} {p : Int × Int} (h : p ∈ concF m b) : isCtx m b = true ∧ isSet m p.2 = true ∧ isSet b.length p.1 = true ∧ p.1 = extF b p.2 ∧ intentF m b p.1 = p.2 := by
  unfold concF at h
  cases hc : isCtx m b with
  | false => rw [hc] at h; cases h
  | true =>
    rw [hc, cond_true] at h
    obtain ⟨x, hx, rfl⟩ := List.mem_map.1 h
    have hx := List.mem_filter.1 hx
    have hl := isCtx_len hc
    obtain ⟨hs, s, rfl, hlt⟩ := lecI_isSet ⟨by omega, by omega⟩ hx.1
    have hr := isSet_le hs
    refine ⟨rfl, hs, ext_isSet hl.1 (ctx_small hc) (by omega), rfl, ?_⟩
    have := hx.2
    unfold closedI at this
    exact eq_of_beq this
theorem inC_iff {l : List (Int × Int)} {a : Int} : inC l a = true ↔ 0 ≤ a ∧ a < (l.length : Int) := by
  unfold inC
  rw [decide_eq_true_eq]
  omega
theorem concF_at {m : Int} {b : List Int} {a : Int} (h : inC (concF m b) a = true) : isCtx m b = true ∧ isSet m (elC (concF m b) a).2 = true ∧ isSet b.length (elC (concF m b) a).1 = true ∧ (elC (concF m b) a).1 = extF b (elC (concF m b) a).2 ∧ intentF m b (elC (concF m b) a).1 = (elC (concF m b) a).2 := by
  have h := inC_iff.1 h
  exact concF_mem (mem_getD (by omega))
def underB (p q : Int × Int) : Bool := band p.1 q.1 == p.1
def apartB (p q : Int × Int) : Bool := bif !underB p q then !underB q p else false
def chainL (l : List (Int × Int)) : Nat → Nat → Bool
  | _, 0 => false
  | i, n + 1 => ((l.take i).any (apartB (l.getD i (0, 0)))) || chainL l (i + 1) n
theorem take_any {α : Type} (l : List α) (d0 : α) (f : α → Bool) {i a : Nat} (h : i < a) (ha : a ≤ l.length) : ((l.take a).drop i).any f = (f (l.getD i d0) || ((l.take a).drop (i + 1)).any f) := by
  have e : (l.take a).getD i d0 = l.getD i d0 := by simp [List.getD, List.getElem?_take, h]
  rw [← e, getD_drop (l := l.take a) (i := i) (d := d0) (by simp; omega), List.any_cons]
def anyN (f : Nat → Bool) : Nat → Nat → Bool
  | _, 0 => false
  | i, n + 1 => f i || anyN f (i + 1) n
theorem anyN_false {f : Nat → Bool} : ∀ (d i : Nat), (∀ j, i ≤ j → j < i + d → f j = false) → anyN f i d = false
  | 0, _, _ => rfl
  | d + 1, i, h => by rw [anyN, h i (by omega) (by omega), Bool.false_or]; exact anyN_false d (i + 1) fun j h1 h2 => h j (by omega) (by omega)
theorem anyN_congr {f g : Nat → Bool} : ∀ (d i : Nat), (∀ j, i ≤ j → j < i + d → f j = g j) → anyN f i d = anyN g i d
  | 0, _, _ => rfl
  | d + 1, i, h => by rw [anyN, anyN, h i (by omega) (by omega), anyN_congr d (i + 1) fun j h1 h2 => h j (by omega) (by omega)]
def tab2 (T : List (List Int)) (x y : Nat) : Int := (T.getD x []).getD y 0
def lawZ (M J : List (List Int)) (l : List (Int × Int)) (all : Bool) (x y z : Nat) : Bool :=
  (all || underB (l.getD z (0, 0)) (l.getD x (0, 0))) && ((M.getD x []).getD ((J.getD y []).getD z 0).toNat 0 != (J.getD ((M.getD x []).getD y 0).toNat []).getD ((M.getD x []).getD z 0).toNat 0)
def lawX (M J : List (List Int)) (l : List (Int × Int)) (all : Bool) : Bool :=
  anyN (fun x => anyN (fun y => anyN (lawZ M J l all x y) 0 l.length) 0 l.length) 0 l.length
def tabF (m : Int) (b : List Int) (meet : Bool) : List (List Int) := (concF m b).map (tabR m b (concF m b) meet)
def lawV (m : Int) (b : List Int) (all : Bool) : Bool := bif lawX (tabF m b true) (tabF m b false) (concF m b) all then false else isCtx m b
theorem isSet8_band {x y : Int} (hx : isSet 8 x = true) (hy : isSet 8 y = true) : isSet 8 (band x y) = true := by
  obtain ⟨s, rfl, hs⟩ := isSet_ex hx
  obtain ⟨t, rfl, ht⟩ := isSet_ex hy
  have hs : s < 256 := hs
  have ht : t < 256 := ht
  rw [band_nat hs ht, isSet8]
  have := Nat.and_le_left (n := s) (m := t)
  exact dt (by omega)
theorem conc_in {m : Int} {b : List Int} (h : isCtx m b = true) {v : Int} (hv : isSet m v = true) (hc : closedI m b v = true) : (extF b v, v) ∈ concF m b := by
  have hl := isCtx_len h
  unfold concF
  rw [h, cond_true]
  refine List.mem_map.2 ⟨v, List.mem_filter.2 ⟨?_, hc⟩, rfl⟩
  obtain ⟨s, rfl, hs⟩ := isSet_ex hv
  unfold lecI
  exact List.mem_map.2 ⟨s, (lecL_mem (by omega)).2 hs, rfl⟩
theorem int_cl {m : Int} {b : List Int} (h : isCtx m b = true) {s : Int} (hs : isSet 8 s = true) : isSet m (intentF m b s) = true ∧ closedI m b (intentF m b s) = true := by
  have hl := isCtx_len h
  have hsm := ctx_small h
  obtain ⟨i1, i2, i3⟩ := intentF_spec (m := m) ⟨hl.2.1, by omega⟩ hl.1 hsm hs
  obtain ⟨v, hv⟩ : ∃ v : Nat, intentF m b s = v := ⟨(intentF m b s).toNat, by omega⟩
  rw [hv] at i1 i2 i3 ⊢
  have hlt : v < 2 ^ m.toNat := by
    refine Nat.lt_pow_two_of_testBit _ fun i hi => ?_
    cases hb : v.testBit i
    · rfl
    · have := ((i3 i).1 (by rw [Int.toNat_natCast]; exact hb)).1
      omega
  refine ⟨?_, ?_⟩
  · unfold isSet
    refine dt ⟨by omega, by omega, ?_⟩
    have e2 : ((2 ^ m.toNat : Nat) : Int) = (2 : Int) ^ m.toNat := by push_cast; rfl
    omega
  · rw [closed_is h (by omega)]
    refine beq_iff_eq.2 (Nat.eq_of_testBit_eq fun e => ?_)
    rw [Bool.eq_iff_iff]
    constructor
    · intro he
      obtain ⟨q1, q2⟩ := (clN_bit h (by omega) e).1 he
      have := (i3 e).2 ⟨q1, fun k hk hb => q2 k hk fun j hj => ((i3 j).1 (by rw [Int.toNat_natCast]; exact hj)).2 k hk hb⟩
      rwa [Int.toNat_natCast] at this
    · exact (cl_clo h).ext v hlt e
theorem band_cl {m : Int} {b : List Int} (h : isCtx m b = true) {x y : Int} (hx : isSet m x = true) (hy : isSet m y = true) (cx : closedI m b x = true) (cy : closedI m b y = true) : isSet m (band x y) = true ∧ closedI m b (band x y) = true := by
  have hl := isCtx_len h
  obtain ⟨s, rfl, hs⟩ := isSet_ex hx
  obtain ⟨t, rfl, ht⟩ := isSet_ex hy
  have hpw := pow64 (n := m.toNat) (by omega)
  rw [closed_is h (by omega)] at cx cy
  have cx := eq_of_beq cx
  have cy := eq_of_beq cy
  have hle := Nat.and_le_left (n := s) (m := t)
  rw [band_nat (by omega) (by omega)]
  refine ⟨?_, ?_⟩
  · unfold isSet
    refine dt ⟨by omega, by omega, ?_⟩
    have e2 : ((2 ^ m.toNat : Nat) : Int) = (2 : Int) ^ m.toNat := by push_cast; rfl
    omega
  · rw [closed_is h (by omega)]
    have hc := cl_clo h
    refine beq_iff_eq.2 (Nat.eq_of_testBit_eq fun e => ?_)
    rw [Bool.eq_iff_iff]
    constructor
    · intro he
      rw [Nat.testBit_and, Bool.and_eq_true]
      have g1 := hc.mono (s &&& t) s (by omega) hs (fun i hi => by rw [Nat.testBit_and, Bool.and_eq_true] at hi; exact hi.1) e he
      have g2 := hc.mono (s &&& t) t (by omega) ht (fun i hi => by rw [Nat.testBit_and, Bool.and_eq_true] at hi; exact hi.2) e he
      rw [cx] at g1
      rw [cy] at g2
      exact ⟨g1, g2⟩
    · exact hc.ext (s &&& t) (by omega) e
theorem firstI_in {α : Type} (p : α → Bool) : ∀ (l : List α) (i : Int), l.any p = true → i ≤ firstI p l i ∧ firstI p l i < i + l.length
  | [], _, h => by cases h
  | x :: l, i, h => by
    rw [firstI]
    cases hx : p x
    · rw [List.any_cons, hx, Bool.false_or] at h
      have := firstI_in p l (i + 1) h
      rw [cond_false, List.length_cons]
      omega
    · rw [cond_true, List.length_cons]
      omega
theorem meet_in {m : Int} {b : List Int} {p q : Int × Int} (hp : p ∈ concF m b) (hq : q ∈ concF m b) (meet : Bool) : ∃ z ∈ concF m b, z.2 = tabV m b meet p q := by
  obtain ⟨h, p2, p3, p4, p5⟩ := concF_mem hp
  obtain ⟨_, q2, q3, q4, q5⟩ := concF_mem hq
  have hp8 := isSet_8 p3
  have hq8 := isSet_8 q3
  cases meet with
  | true =>
    obtain ⟨g1, g2⟩ := int_cl h (isSet8_band hp8 hq8)
    exact ⟨_, conc_in h g1 g2, rfl⟩
  | false =>
    have cp := (int_cl h hp8).2
    have cq := (int_cl h hq8).2
    rw [p5] at cp
    rw [q5] at cq
    obtain ⟨g1, g2⟩ := band_cl h p2 q2 cp cq
    exact ⟨_, conc_in h g1 g2, rfl⟩
theorem tabC_in {m : Int} {b : List Int} {p q : Int × Int} (hp : p ∈ concF m b) (hq : q ∈ concF m b) (meet : Bool) : 0 ≤ tabC m b (concF m b) meet p q ∧ tabC m b (concF m b) meet p q < (concF m b).length := by
  obtain ⟨z, hz, he⟩ := meet_in hp hq meet
  have := firstI_in (fun z => z.2 == tabV m b meet p q) (concF m b) 0 (List.any_eq_true.2 ⟨z, hz, beq_iff_eq.2 he⟩)
  unfold tabC
  omega
def TabOk (T : List (List Int)) (n : Nat) : Prop := T.length = n ∧ ∀ x, x < n → (T.getD x []).length = n ∧ ∀ y, y < n → 0 ≤ (T.getD x []).getD y 0 ∧ (T.getD x []).getD y 0 < n

theorem getD_map0 {α β : Type} {f : α → β} {l : List α} {i : Nat} (h : i < l.length) (z : β) (z0 : α) : (l.map f).getD i z = f (l.getD i z0) := by
  simp [List.getD, h]
theorem tab_ok (m : Int) (b : List Int) (meet : Bool) : TabOk (tabF m b meet) (concF m b).length := by
  unfold tabF
  refine ⟨by rw [List.length_map], fun x hx => ?_⟩
  rw [getD_map0 hx [] (0, 0)]
  unfold tabR
  refine ⟨by rw [List.length_map], fun y hy => ?_⟩
  rw [getD_map0 hy 0 (0, 0)]
  exact tabC_in (mem_getD hx) (mem_getD hy) meet
/- spec.l21Table -/
def K_specTableF : List AV → List Ob → Option (AV × List Ob)
  | [.agg [.int .i64 m, .lst (.int .i64) b], .lst (.pair (.int .i64) (.int .i64)) l, .bool meet], [] => gd (b.length ≤ 8 ∧ l.length ≤ 64 ∧ ∀ p ∈ l, ∀ q ∈ l, isSet 8 (band p.1 q.1) = true) (.lst (.lst (.int .i64)) (l.map (tabR m b l meet)), [])
  | _, _ => none
theorem ok_specTableF : FnOk Tryz.prog 194 K_specTableF := by
  refine FnOk.le (FnOk.frz ok_specTable) (fun avs hin p h => ?_)
  unfold K_specTableF at h
  split at h
  · obtain ⟨hp, rfl⟩ := gd_o h
    refine Eq.trans (frz_s (K := K_specTable) (p := ?p) ?hq) ?hr
    case hq => exact gd_s hp
    case hr => rfl
  · cases h

/- spec.l6Under -/
def K_l6Under : List AV → List Ob → Option (AV × List Ob)
  | [.agg [.int .i64 p, .int .i64 q], .agg [.int .i64 x, .int .i64 y]], [] => gd (True) (.bool (band p x == p), [])
  | _, _ => none
@[reducible] def E_l6Under : Env := mkE (tb []) (fun f => false) (fun r => ([], []))
theorem ev_l6Under (p q : Int) (x y : Int) (hp : True) : evF E_l6Under (1) Tryz.f53 [.agg [.int .i64 p, .int .i64 q], .agg [.int .i64 x, .int .i64 y]] [] = some (.bool (band p x == p), []) := by
  conv => lhs; whnf
  rfl
theorem ok_l6Under : FnOk Tryz.prog 53 K_l6Under := by
  refine fn_ok (fn := Tryz.f53) (k := Tryz.f53.ntmps) (E := E_l6Under) (facts_of (List.forall_mem_nil _)) (by kernel_rfl) rfl (by decide +kernel) (by decide +kernel) ?_
  intro avs hin r h
  unfold K_l6Under at h
  split at h
  · obtain ⟨hp, rfl⟩ := gd_o h
    exact ⟨_, ev_l6Under _ _ _ _ hp, rfl⟩
  · cases h

/- spec.Concepts -/
def K_specConF : List AV → List Ob → Option (AV × List Ob)
  | [.agg [.int .i64 m, .lst (.int .i64) a]], [] => gd (a.length ≤ 1048576) (.lst (.pair (.int .i64) (.int .i64)) (concF m a), [])
  | _, _ => none
theorem ok_specConF : FnOk Tryz.prog 44 K_specConF := by
  refine FnOk.le (FnOk.frz ok_specConcepts) (fun avs hin p h => ?_)
  unfold K_specConF at h
  split at h
  · obtain ⟨hp, rfl⟩ := gd_o h
    refine Eq.trans (frz_s (K := K_specConcepts) (p := ?p) ?hq) ?hr
    case hq => exact gd_s hp
    case hr => rfl
  · cases h

/- spec.l21Law -/
def K_specLaw : List AV → List Ob → Option (AV × List Ob)
  | [.agg [.int .i64 m, .lst (.int .i64) b], .bool all], [] => gd (b.length ≤ 8) (.bool (lawV m b all), [])
  | _, _ => none
@[reducible] def E_specLaw : Env := mkE (tb [(53, K_l6Under), (60, K_specIsContext), (44, K_specConF), (194, K_specTableF)]) (fun f => false) (fun r => bif r == 5 then ([1, 2, 5, 6, 7, 8], [1, 2, 4, 5, 6, 7, 8, 9]) else bif r == 8 then ([1, 2, 5, 6, 7, 8, 9], [1, 2, 4, 5, 6, 7, 8, 9]) else bif r == 11 then ([1, 2, 5, 6, 7, 8, 9, 10], [1, 2, 4, 5, 6, 7, 8, 9]) else ([], []))
theorem lz_specLaw (m : Int) (b : List Int) (M J : List (List Int)) (l : List (Int × Int)) (hl : l.length ≤ 64) (hM : TabOk M l.length) (hJ : TabOk J l.length) (all : Bool) (x y : Nat) (hx : x < l.length) (hy : y < l.length) (k : AX → S → Option (AV × List Ob)) (d : Nat) : ∀ (n i : Nat) (z : Int), l.length - i = d → i ≤ l.length → z = i → d < n →
    lpAt E_specLaw (lp E_specLaw 0 n) 0 (loopAt Tryz.f144 2) (mkS [1, 2, 5, 6, 7, 8, 9, 10] [.bool all, .ptr 0 0, .lst (.pair (.int .i64) (.int .i64)) l, .lst (.lst (.int .i64)) M, .lst (.lst (.int .i64)) J, .int .i64 (x : Int), .int .i64 (y : Int), .int .i64 z] [some (.box 26 [.int .i64 m, .lst (.int .i64) b])]) k =
      if anyN (lawZ M J l all x y) i d then k .ret (mkS [1, 2, 4, 5, 6, 7, 8, 9] [.bool all, .ptr 0 0, .bool false, .lst (.pair (.int .i64) (.int .i64)) l, .lst (.lst (.int .i64)) M, .lst (.lst (.int .i64)) J, .int .i64 (x : Int), .int .i64 (y : Int)] [some (.box 26 [.int .i64 m, .lst (.int .i64) b])])
      else k (.exit 4) (mkS [1, 2, 4, 5, 6, 7, 8, 9] [.bool all, .ptr 0 0, .any, .lst (.pair (.int .i64) (.int .i64)) l, .lst (.lst (.int .i64)) M, .lst (.lst (.int .i64)) J, .int .i64 (x : Int), .int .i64 (y : Int)] [some (.box 26 [.int .i64 m, .lst (.int .i64) b])]) := by
  induction d with
  | zero =>
    intro n i z hd hi hz hn
    subst hz
    rw [lpAt_def]
    conv => lhs; whnf
    refine br_f (df (by omega)) ?_
    conv => lhs; whnf
    simp [anyN]
  | succ d ih =>
    intro n i z hd hi hz hn
    obtain ⟨n, rfl⟩ : ∃ m, n = m + 1 := ⟨n - 1, by omega⟩
    subst hz
    have hil : i < l.length := by omega
    obtain ⟨m0, hM⟩ := hM
    obtain ⟨j0, hJ⟩ := hJ
    obtain ⟨mx, hMx⟩ := hM x hx
    obtain ⟨jy, hJy⟩ := hJ y hy
    have mxy := hMx y hy
    have mxz := hMx i hil
    have jyz := hJy i hil
    obtain ⟨jm, _⟩ := hJ ((M.getD x []).getD y 0).toNat (by omega)
    have f1 : (i : Int) < ((J.getD y []).length : Int) := by omega
    have f2 : 0 ≤ (J.getD y []).getD i 0 := jyz.1
    have f2' : (J.getD y []).getD i 0 < ((M.getD x []).length : Int) := by omega
    have f3 : (y : Int) < ((M.getD x []).length : Int) := by omega
    have f4 : 0 ≤ (M.getD x []).getD y 0 := mxy.1
    have f4' : (M.getD x []).getD y 0 < (J.length : Int) := by omega
    have f5 : (i : Int) < ((M.getD x []).length : Int) := by omega
    have f6 : 0 ≤ (M.getD x []).getD i 0 := mxz.1
    have f6' : (M.getD x []).getD i 0 < ((J.getD ((M.getD x []).getD y 0).toNat []).length : Int) := by omega
    cases all with
    | true =>
      rw [lpAt_def]
      conv => lhs; whnf
      refine br_t (dt (by omega)) ?_
      conv => lhs; whnf
      repeat ((first | with_reducible apply br_tt | with_reducible apply br_ff | with_reducible apply br_nf | with_reducible apply br_nt | with_reducible refine br_d ?_ (by kernel_rfl) | with_reducible refine br_t (dt2 (by omega) (by omega)) ?_); conv => lhs; whnf)
      refine br_t (by exact dt2 (Int.natCast_nonneg _) f1) ?_
      conv => lhs; whnf
      repeat ((first | with_reducible apply br_tt | with_reducible apply br_ff | with_reducible apply br_nf | with_reducible apply br_nt | with_reducible refine br_d ?_ (by kernel_rfl) | with_reducible refine br_t (dt2 (by omega) (by omega)) ?_); conv => lhs; whnf)
      refine br_t (by exact dt2 f2 f2') ?_
      conv => lhs; whnf
      repeat ((first | with_reducible apply br_tt | with_reducible apply br_ff | with_reducible apply br_nf | with_reducible apply br_nt | with_reducible refine br_d ?_ (by kernel_rfl) | with_reducible refine br_t (dt2 (by omega) (by omega)) ?_); conv => lhs; whnf)
      refine br_t (by exact dt2 (Int.natCast_nonneg _) f3) ?_
      conv => lhs; whnf
      repeat ((first | with_reducible apply br_tt | with_reducible apply br_ff | with_reducible apply br_nf | with_reducible apply br_nt | with_reducible refine br_d ?_ (by kernel_rfl) | with_reducible refine br_t (dt2 (by omega) (by omega)) ?_); conv => lhs; whnf)
      refine br_t (by exact dt2 f4 f4') ?_
      conv => lhs; whnf
      repeat ((first | with_reducible apply br_tt | with_reducible apply br_ff | with_reducible apply br_nf | with_reducible apply br_nt | with_reducible refine br_d ?_ (by kernel_rfl) | with_reducible refine br_t (dt2 (by omega) (by omega)) ?_); conv => lhs; whnf)
      refine br_t (by exact dt2 (Int.natCast_nonneg _) f5) ?_
      conv => lhs; whnf
      repeat ((first | with_reducible apply br_tt | with_reducible apply br_ff | with_reducible apply br_nf | with_reducible apply br_nt | with_reducible refine br_d ?_ (by kernel_rfl) | with_reducible refine br_t (dt2 (by omega) (by omega)) ?_); conv => lhs; whnf)
      refine br_t (by exact dt2 f6 f6') ?_
      conv => lhs; whnf
      repeat ((first | with_reducible apply br_tt | with_reducible apply br_ff | with_reducible apply br_nf | with_reducible apply br_nt | with_reducible refine br_d ?_ (by kernel_rfl) | with_reducible refine br_t (dt2 (by omega) (by omega)) ?_); conv => lhs; whnf)
      refine br_c (fun h => ?_) (fun h => ?_)
      · conv => lhs; whnf
        have h' : ((M.getD x []).getD ((J.getD y []).getD i 0).toNat 0 != (J.getD ((M.getD x []).getD y 0).toNat []).getD ((M.getD x []).getD i 0).toNat 0) = true := h
        rw [if_pos (by rw [anyN, lawZ, h']; rfl)]
      · conv => lhs; whnf
        have h' : ((M.getD x []).getD ((J.getD y []).getD i 0).toNat 0 != (J.getD ((M.getD x []).getD y 0).toNat []).getD ((M.getD x []).getD i 0).toNat 0) = false := h
        have e : anyN (lawZ M J l true x y) i (d + 1) = anyN (lawZ M J l true x y) (i + 1) d := by rw [anyN, lawZ, h']; rfl
        rw [e]
        exact ih n (i + 1) _ (by omega) (by omega) (by rw [wrap64 (by omega) (by omega)]; simp) (by omega)
    | false =>
      rw [lpAt_def]
      conv => lhs; whnf
      refine br_t (dt (by omega)) ?_
      conv => lhs; whnf
      repeat ((first | with_reducible apply br_tt | with_reducible apply br_ff | with_reducible apply br_nf | with_reducible apply br_nt | with_reducible refine br_d ?_ (by kernel_rfl) | with_reducible refine br_t (dt2 (by omega) (by omega)) ?_); conv => lhs; whnf)
      conv => lhs; arg 1; whnf
      refine bnd_g (by trivial) ?_
      conv => lhs; whnf
      repeat ((first | with_reducible apply br_tt | with_reducible apply br_ff | with_reducible apply br_nf | with_reducible apply br_nt | with_reducible refine br_d ?_ (by kernel_rfl) | with_reducible refine br_t (dt2 (by omega) (by omega)) ?_); conv => lhs; whnf)
      refine br_c (fun g => ?_) (fun g => ?_)
      · conv => lhs; whnf
        repeat ((first | with_reducible apply br_tt | with_reducible apply br_ff | with_reducible apply br_nf | with_reducible apply br_nt | with_reducible refine br_d ?_ (by kernel_rfl) | with_reducible apply br_t g | with_reducible apply br_f g | with_reducible refine br_t (dt2 (by omega) (by omega)) ?_); conv => lhs; whnf)
        refine br_t (by exact dt2 (Int.natCast_nonneg _) f1) ?_
        conv => lhs; whnf
        repeat ((first | with_reducible apply br_tt | with_reducible apply br_ff | with_reducible apply br_nf | with_reducible apply br_nt | with_reducible refine br_d ?_ (by kernel_rfl) | with_reducible apply br_t g | with_reducible apply br_f g | with_reducible refine br_t (dt2 (by omega) (by omega)) ?_); conv => lhs; whnf)
        refine br_t (by exact dt2 f2 f2') ?_
        conv => lhs; whnf
        repeat ((first | with_reducible apply br_tt | with_reducible apply br_ff | with_reducible apply br_nf | with_reducible apply br_nt | with_reducible refine br_d ?_ (by kernel_rfl) | with_reducible apply br_t g | with_reducible apply br_f g | with_reducible refine br_t (dt2 (by omega) (by omega)) ?_); conv => lhs; whnf)
        refine br_t (by exact dt2 (Int.natCast_nonneg _) f3) ?_
        conv => lhs; whnf
        repeat ((first | with_reducible apply br_tt | with_reducible apply br_ff | with_reducible apply br_nf | with_reducible apply br_nt | with_reducible refine br_d ?_ (by kernel_rfl) | with_reducible apply br_t g | with_reducible apply br_f g | with_reducible refine br_t (dt2 (by omega) (by omega)) ?_); conv => lhs; whnf)
        refine br_t (by exact dt2 f4 f4') ?_
        conv => lhs; whnf
        repeat ((first | with_reducible apply br_tt | with_reducible apply br_ff | with_reducible apply br_nf | with_reducible apply br_nt | with_reducible refine br_d ?_ (by kernel_rfl) | with_reducible apply br_t g | with_reducible apply br_f g | with_reducible refine br_t (dt2 (by omega) (by omega)) ?_); conv => lhs; whnf)
        refine br_t (by exact dt2 (Int.natCast_nonneg _) f5) ?_
        conv => lhs; whnf
        repeat ((first | with_reducible apply br_tt | with_reducible apply br_ff | with_reducible apply br_nf | with_reducible apply br_nt | with_reducible refine br_d ?_ (by kernel_rfl) | with_reducible apply br_t g | with_reducible apply br_f g | with_reducible refine br_t (dt2 (by omega) (by omega)) ?_); conv => lhs; whnf)
        refine br_t (by exact dt2 f6 f6') ?_
        conv => lhs; whnf
        repeat ((first | with_reducible apply br_tt | with_reducible apply br_ff | with_reducible apply br_nf | with_reducible apply br_nt | with_reducible refine br_d ?_ (by kernel_rfl) | with_reducible apply br_t g | with_reducible apply br_f g | with_reducible refine br_t (dt2 (by omega) (by omega)) ?_); conv => lhs; whnf)
        have hu : underB (l.getD i (0, 0)) (l.getD x (0, 0)) = true := g
        refine br_c (fun h => ?_) (fun h => ?_)
        · conv => lhs; whnf
          have h' : ((M.getD x []).getD ((J.getD y []).getD i 0).toNat 0 != (J.getD ((M.getD x []).getD y 0).toNat []).getD ((M.getD x []).getD i 0).toNat 0) = true := h
          rw [if_pos (by rw [anyN, lawZ, h', hu]; rfl)]
        · conv => lhs; whnf
          have h' : ((M.getD x []).getD ((J.getD y []).getD i 0).toNat 0 != (J.getD ((M.getD x []).getD y 0).toNat []).getD ((M.getD x []).getD i 0).toNat 0) = false := h
          have e : anyN (lawZ M J l false x y) i (d + 1) = anyN (lawZ M J l false x y) (i + 1) d := by rw [anyN, lawZ, h', Bool.and_false, Bool.false_or]
          rw [e]
          exact ih n (i + 1) _ (by omega) (by omega) (by rw [wrap64 (by omega) (by omega)]; simp) (by omega)
      · conv => lhs; whnf
        repeat ((first | with_reducible apply br_tt | with_reducible apply br_ff | with_reducible apply br_nf | with_reducible apply br_nt | with_reducible refine br_d ?_ (by kernel_rfl) | with_reducible apply br_t g | with_reducible apply br_f g | with_reducible refine br_t (dt2 (by omega) (by omega)) ?_); conv => lhs; whnf)
        have hu : underB (l.getD i (0, 0)) (l.getD x (0, 0)) = false := g
        have e : anyN (lawZ M J l false x y) i (d + 1) = anyN (lawZ M J l false x y) (i + 1) d := by rw [anyN, lawZ, hu, Bool.false_or, Bool.false_and, Bool.false_or]
        rw [e]
        exact ih n (i + 1) _ (by omega) (by omega) (by rw [wrap64 (by omega) (by omega)]; simp) (by omega)
theorem ly_specLaw (m : Int) (b : List Int) (M J : List (List Int)) (l : List (Int × Int)) (hl : l.length ≤ 64) (hM : TabOk M l.length) (hJ : TabOk J l.length) (all : Bool) (x : Nat) (hx : x < l.length) (k : AX → S → Option (AV × List Ob)) (r : Option (AV × List Ob)) (hk : ∀ q : Int, k .ret (mkS [1, 2, 4, 5, 6, 7, 8, 9] [.bool all, .ptr 0 0, .bool false, .lst (.pair (.int .i64) (.int .i64)) l, .lst (.lst (.int .i64)) M, .lst (.lst (.int .i64)) J, .int .i64 (x : Int), .int .i64 q] [some (.box 26 [.int .i64 m, .lst (.int .i64) b])]) = r) (d : Nat) : ∀ (n i : Nat) (z : Int), l.length - i = d → i ≤ l.length → z = i → d + 100 < n →
    lpAt E_specLaw (lp E_specLaw 0 n) 0 (loopAt Tryz.f144 1) (mkS [1, 2, 5, 6, 7, 8, 9] [.bool all, .ptr 0 0, .lst (.pair (.int .i64) (.int .i64)) l, .lst (.lst (.int .i64)) M, .lst (.lst (.int .i64)) J, .int .i64 (x : Int), .int .i64 z] [some (.box 26 [.int .i64 m, .lst (.int .i64) b])]) k =
      if anyN (fun y => anyN (lawZ M J l all x y) 0 l.length) i d then r
      else k (.exit 2) (mkS [1, 2, 4, 5, 6, 7, 8, 9] [.bool all, .ptr 0 0, .any, .lst (.pair (.int .i64) (.int .i64)) l, .lst (.lst (.int .i64)) M, .lst (.lst (.int .i64)) J, .int .i64 (x : Int), .int .i64 l.length] [some (.box 26 [.int .i64 m, .lst (.int .i64) b])]) := by
  induction d with
  | zero =>
    intro n i z hd hi hz hn
    subst hz
    rw [lpAt_def]
    conv => lhs; whnf
    refine br_f (df (by omega)) ?_
    conv => lhs; whnf
    have e : i = l.length := by omega
    rw [e]
    rfl
  | succ d ih =>
    intro n i z hd hi hz hn
    obtain ⟨n, rfl⟩ : ∃ m, n = m + 1 := ⟨n - 1, by omega⟩
    subst hz
    rw [lpAt_def]
    conv => lhs; whnf
    refine br_t (dt (by omega)) ?_
    conv => lhs; whnf
    refine (lz_specLaw m b M J l hl hM hJ all x i hx (by omega) _ l.length _ 0 0 rfl (by omega) rfl (by omega)).trans ?_
    refine Or.elim (Classical.em (anyN (lawZ M J l all x i) 0 l.length = true)) (fun h => ?_) (fun h => ?_)
    · have e : anyN (fun y => anyN (lawZ M J l all x y) 0 l.length) i (d + 1) = true := by rw [anyN, h, Bool.true_or]
      rw [if_pos h, if_pos e]
      conv => lhs; whnf
      exact hk _
    · have h' : anyN (lawZ M J l all x i) 0 l.length = false := by simpa using h
      have e : anyN (fun y => anyN (lawZ M J l all x y) 0 l.length) i (d + 1) = anyN (fun y => anyN (lawZ M J l all x y) 0 l.length) (i + 1) d := by rw [anyN, h', Bool.false_or]
      rw [if_neg h, e]
      conv => lhs; whnf
      exact ih n (i + 1) _ (by omega) (by omega) (by rw [wrap64 (by omega) (by omega)]; simp) (by omega)
theorem lx_specLaw (m : Int) (b : List Int) (M J : List (List Int)) (l : List (Int × Int)) (hl : l.length ≤ 64) (hM : TabOk M l.length) (hJ : TabOk J l.length) (all : Bool) (k : AX → S → Option (AV × List Ob)) (r : Option (AV × List Ob)) (hk : ∀ q q' : Int, k .ret (mkS [1, 2, 4, 5, 6, 7, 8, 9] [.bool all, .ptr 0 0, .bool false, .lst (.pair (.int .i64) (.int .i64)) l, .lst (.lst (.int .i64)) M, .lst (.lst (.int .i64)) J, .int .i64 q, .int .i64 q'] [some (.box 26 [.int .i64 m, .lst (.int .i64) b])]) = r) (d : Nat) : ∀ (n i : Nat) (z : Int), l.length - i = d → i ≤ l.length → z = i → d + 200 < n →
    lpAt E_specLaw (lp E_specLaw 0 n) 0 (loopAt Tryz.f144 0) (mkS [1, 2, 5, 6, 7, 8] [.bool all, .ptr 0 0, .lst (.pair (.int .i64) (.int .i64)) l, .lst (.lst (.int .i64)) M, .lst (.lst (.int .i64)) J, .int .i64 z] [some (.box 26 [.int .i64 m, .lst (.int .i64) b])]) k =
      if anyN (fun x => anyN (fun y => anyN (lawZ M J l all x y) 0 l.length) 0 l.length) i d then r
      else k (.exit 0) (mkS [1, 2, 4, 5, 6, 7, 8, 9] [.bool all, .ptr 0 0, .any, .lst (.pair (.int .i64) (.int .i64)) l, .lst (.lst (.int .i64)) M, .lst (.lst (.int .i64)) J, .int .i64 l.length, .any] [some (.box 26 [.int .i64 m, .lst (.int .i64) b])]) := by
  induction d with
  | zero =>
    intro n i z hd hi hz hn
    subst hz
    rw [lpAt_def]
    conv => lhs; whnf
    refine br_f (df (by omega)) ?_
    conv => lhs; whnf
    have e : i = l.length := by omega
    rw [e]
    rfl
  | succ d ih =>
    intro n i z hd hi hz hn
    obtain ⟨n, rfl⟩ : ∃ m, n = m + 1 := ⟨n - 1, by omega⟩
    subst hz
    rw [lpAt_def]
    conv => lhs; whnf
    refine br_t (dt (by omega)) ?_
    conv => lhs; whnf
    refine (ly_specLaw m b M J l hl hM hJ all i (by omega) _ r ?_ l.length _ 0 0 rfl (by omega) rfl (by omega)).trans ?_
    · intro q
      conv => lhs; whnf
      exact hk _ _
    refine Or.elim (Classical.em (anyN (fun y => anyN (lawZ M J l all i y) 0 l.length) 0 l.length = true)) (fun h => ?_) (fun h => ?_)
    · have e : anyN (fun x => anyN (fun y => anyN (lawZ M J l all x y) 0 l.length) 0 l.length) i (d + 1) = true := by rw [anyN, h, Bool.true_or]
      rw [if_pos h, if_pos e]
    · have h' : anyN (fun y => anyN (lawZ M J l all i y) 0 l.length) 0 l.length = false := by simpa using h
      have e : anyN (fun x => anyN (fun y => anyN (lawZ M J l all x y) 0 l.length) 0 l.length) i (d + 1) = anyN (fun x => anyN (fun y => anyN (lawZ M J l all x y) 0 l.length) 0 l.length) (i + 1) d := by rw [anyN, h', Bool.false_or]
      rw [if_neg h, e]
      conv => lhs; whnf
      exact ih n (i + 1) _ (by omega) (by omega) (by rw [wrap64 (by omega) (by omega)]; simp) (by omega)
theorem ev_specLaw (m : Int) (b : List Int) (all : Bool) (hp : b.length ≤ 8) : evF E_specLaw ((concF m b).length + 400) Tryz.f144 [.agg [.int .i64 m, .lst (.int .i64) b], .bool all] [] = some (.bool (lawV m b all), []) := by
  have hl := concF_len m b
  have hs : ∀ p ∈ concF m b, ∀ q ∈ concF m b, isSet 8 (band p.1 q.1) = true := fun p h q g => isSet8_band (isSet_8 (concF_mem h).2.2.1) (isSet_8 (concF_mem g).2.2.1)
  have hM : TabOk (tabF m b true) (concF m b).length := tab_ok m b true
  have hJ : TabOk (tabF m b false) (concF m b).length := tab_ok m b false
  conv => lhs; whnf
  conv => lhs; arg 1; whnf
  refine bnd_g (by omega) ?_
  conv => lhs; whnf
  conv => lhs; arg 1; whnf
  refine bnd_g (by exact ⟨hp, hl, hs⟩) ?_
  conv => lhs; whnf
  conv => lhs; arg 1; whnf
  refine bnd_g (by exact ⟨hp, hl, hs⟩) ?_
  conv => lhs; whnf
  refine (lx_specLaw m b (tabF m b true) (tabF m b false) (concF m b) hl hM hJ all _ (some (.bool false, [])) ?_ (concF m b).length _ 0 0 rfl (by omega) rfl (by omega)).trans ?_
  · intro q q'
    conv => lhs; whnf
  unfold lawV
  refine Or.elim (Classical.em (lawX (tabF m b true) (tabF m b false) (concF m b) all = true)) (fun h => ?_) (fun h => ?_)
  · rw [h]
    exact if_pos h
  · have h' : lawX (tabF m b true) (tabF m b false) (concF m b) all = false := by simpa using h
    rw [h']
    refine (if_neg h).trans ?_
    conv => lhs; whnf
    conv => lhs; arg 1; whnf
    refine bnd_g (by omega) ?_
    conv => lhs; whnf
    rfl
theorem ok_specLaw : FnOk Tryz.prog 144 K_specLaw := by
  refine fn_ok (fn := Tryz.f144) (k := Tryz.f144.ntmps) (E := E_specLaw) (facts_of (List.forall_mem_cons.2 ⟨ok_l6Under, List.forall_mem_cons.2 ⟨ok_specIsContext, List.forall_mem_cons.2 ⟨ok_specConF, List.forall_mem_cons.2 ⟨ok_specTableF, List.forall_mem_nil _⟩⟩⟩⟩)) (by kernel_rfl) rfl (by decide +kernel) (by decide +kernel) ?_
  intro avs hin r h
  unfold K_specLaw at h
  split at h
  · obtain ⟨hp, rfl⟩ := gd_o h
    exact ⟨_, ev_specLaw _ _ _ hp, rfl⟩
  · cases h

/- (impl.lattice).join$1 -/
def K_latJoin1 : List AV → List Ob → Option (AV × List Ob)
  | [.agg [.int .i64 p, .int .i64 q], .vptr [.int .i64 v] 0], [] => gd (True) (.bool (q == v), [])
  | _, _ => none
@[reducible] def E_latJoin1 : Env := mkE (tb []) (fun f => false) (fun r => ([], []))
theorem ev_latJoin1 (p q v : Int) (hp : True) : evF E_latJoin1 (1) Tryz.f252 [.agg [.int .i64 p, .int .i64 q], .vptr [.int .i64 v] 0] [] = some (.bool (q == v), []) := by
  conv => lhs; whnf
theorem ok_latJoin1 : FnOk Tryz.prog 252 K_latJoin1 := by
  refine fn_ok (fn := Tryz.f252) (k := Tryz.f252.ntmps) (E := E_latJoin1) (facts_of (List.forall_mem_nil _)) (by kernel_rfl) rfl (by decide +kernel) (by decide +kernel) ?_
  intro avs hin r h
  unfold K_latJoin1 at h
  split at h
  · obtain ⟨hp, rfl⟩ := gd_o h
    exact ⟨_, ev_latJoin1 _ _ _ hp, rfl⟩
  · cases h

/- slices.IndexFunc[impl.lattice,impl.Concept] -/
def K_idxLatJ : List AV → List Ob → Option (AV × List Ob)
  | [.lst (.pair (.int .i64) (.int .i64)) l, .clo 252 [.vptr [.int .i64 v] 0]], [] => gd (l.length ≤ 64) (.int .i64 (firstI (fun p => p.2 == v) l 0), [])
  | _, _ => none
@[reducible] def E_idxLatJ : Env := mkE (tb [(252, K_latJoin1)]) (fun f => false) (fun r => bif r == 2 then ([0, 1, 7, 8], [4]) else ([], []))
theorem lp_idxLatJ (l : List (Int × Int)) (v : Int) (ha : l.length ≤ 64) (k : AX → S → Option (AV × List Ob)) (d : Nat) : ∀ (n i : Nat) (x : Int), l.length - i = d → i ≤ l.length → x = i → d < n →
    lpAt E_idxLatJ (lp E_idxLatJ 0 n) 0 (loopAt Tryz.f250 0) (mkS [0, 1, 7, 8] [.lst (.pair (.int .i64) (.int .i64)) l, .clo 252 [.vptr [.int .i64 v] 0], .int .i64 l.length, .int .i64 x] []) k =
      if (l.drop i).any (fun p => p.2 == v) then k .ret (mkS [4] [.int .i64 (firstI (fun p => p.2 == v) (l.drop i) i)] []) else k (.exit 0) (mkS [4] [.any] []) := by
  induction d with
  | zero =>
    intro n i x hd hi hx hn
    subst hx
    rw [lpAt_def]
    conv => lhs; whnf
    refine br_f (df (by omega)) ?_
    conv => lhs; whnf
    rw [List.drop_of_length_le (by omega)]
    simp
  | succ d ih =>
    intro n i x hd hi hx hn
    obtain ⟨n, rfl⟩ : ∃ m, n = m + 1 := ⟨n - 1, by omega⟩
    subst hx
    rw [lpAt_def]
    conv => lhs; whnf
    refine br_t (dt (by omega)) ?_
    conv => lhs; whnf
    refine br_t (dt2 (by omega) (by omega)) ?_
    conv => lhs; whnf
    conv => lhs; arg 1; whnf
    refine bnd_g (by exact True.intro) ?_
    conv => lhs; whnf
    rw [getD_drop (l := l) (i := i) (d := (0, 0)) (by omega)]
    refine br_c (fun h => ?_) (fun h => ?_)
    · have h' : ((l.getD i (0, 0)).2 == v) = true := h
      conv => lhs; whnf
      rw [if_pos (by simp only [List.any_cons, h', Bool.true_or]), firstI, h', cond_true]
    · have h' : ((l.getD i (0, 0)).2 == v) = false := h
      conv => lhs; whnf
      rw [ih n (i + 1) _ (by omega) (by omega) (by rw [wrap64 (by omega) (by omega)]; simp) (by omega)]
      simp only [List.any_cons, h', Bool.false_or]
      rw [firstI, h', cond_false]
      rfl
theorem ev_idxLatJ (l : List (Int × Int)) (v : Int) (hp : l.length ≤ 64) : evF E_idxLatJ (l.length + 2) Tryz.f250 [.lst (.pair (.int .i64) (.int .i64)) l, .clo 252 [.vptr [.int .i64 v] 0]] [] = some (.int .i64 (firstI (fun p => p.2 == v) l 0), []) := by
  conv => lhs; whnf
  refine (lp_idxLatJ l v hp _ l.length _ 0 0 rfl (by omega) rfl (by omega)).trans ?_
  simp only [List.drop_zero]
  split
  · conv => lhs; whnf
    rfl
  · rename_i he
    conv => lhs; whnf
    have : firstI (fun p => p.2 == v) l 0 = -1 := firstI_none _ l 0 (by rw [Bool.not_eq_true] at he; exact he)
    rw [this]
theorem ok_idxLatJ : FnOk Tryz.prog 250 K_idxLatJ := by
  refine fn_ok (fn := Tryz.f250) (k := Tryz.f250.ntmps) (E := E_idxLatJ) (facts_of (List.forall_mem_cons.2 ⟨ok_latJoin1, List.forall_mem_nil _⟩)) (by kernel_rfl) rfl (by decide +kernel) (by decide +kernel) ?_
  intro avs hin r h
  unfold K_idxLatJ at h
  split at h
  · obtain ⟨hp, rfl⟩ := gd_o h
    exact ⟨_, ev_idxLatJ _ _ hp, rfl⟩
  · cases h

/- (impl.lattice).index$1 -/
def K_latIndex1 : List AV → List Ob → Option (AV × List Ob)
  | [.agg [.int .i64 p, .int .i64 q], .vptr [.int .i64 v] 0], [] => gd (True) (.bool (p == v), [])
  | _, _ => none
@[reducible] def E_latIndex1 : Env := mkE (tb []) (fun f => false) (fun r => ([], []))
theorem ev_latIndex1 (p q v : Int) (hp : True) : evF E_latIndex1 (1) Tryz.f251 [.agg [.int .i64 p, .int .i64 q], .vptr [.int .i64 v] 0] [] = some (.bool (p == v), []) := by
  conv => lhs; whnf
theorem ok_latIndex1 : FnOk Tryz.prog 251 K_latIndex1 := by
  refine fn_ok (fn := Tryz.f251) (k := Tryz.f251.ntmps) (E := E_latIndex1) (facts_of (List.forall_mem_nil _)) (by kernel_rfl) rfl (by decide +kernel) (by decide +kernel) ?_
  intro avs hin r h
  unfold K_latIndex1 at h
  split at h
  · obtain ⟨hp, rfl⟩ := gd_o h
    exact ⟨_, ev_latIndex1 _ _ _ hp, rfl⟩
  · cases h

/- slices.IndexFunc[impl.lattice,impl.Concept] -/
def K_idxLat : List AV → List Ob → Option (AV × List Ob)
  | [.lst (.pair (.int .i64) (.int .i64)) l, .clo 251 [.vptr [.int .i64 v] 0]], [] => gd (l.length ≤ 64) (.int .i64 (firstI (fun p => p.1 == v) l 0), [])
  | _, _ => none
@[reducible] def E_idxLat : Env := mkE (tb [(251, K_latIndex1)]) (fun f => false) (fun r => bif r == 2 then ([0, 1, 7, 8], [4]) else ([], []))
theorem lp_idxLat (l : List (Int × Int)) (v : Int) (ha : l.length ≤ 64) (k : AX → S → Option (AV × List Ob)) (d : Nat) : ∀ (n i : Nat) (x : Int), l.length - i = d → i ≤ l.length → x = i → d < n →
    lpAt E_idxLat (lp E_idxLat 0 n) 0 (loopAt Tryz.f250 0) (mkS [0, 1, 7, 8] [.lst (.pair (.int .i64) (.int .i64)) l, .clo 251 [.vptr [.int .i64 v] 0], .int .i64 l.length, .int .i64 x] []) k =
      if (l.drop i).any (fun p => p.1 == v) then k .ret (mkS [4] [.int .i64 (firstI (fun p => p.1 == v) (l.drop i) i)] []) else k (.exit 0) (mkS [4] [.any] []) := by
  induction d with
  | zero =>
    intro n i x hd hi hx hn
    subst hx
    rw [lpAt_def]
    conv => lhs; whnf
    refine br_f (df (by omega)) ?_
    conv => lhs; whnf
    rw [List.drop_of_length_le (by omega)]
    simp
  | succ d ih =>
    intro n i x hd hi hx hn
    obtain ⟨n, rfl⟩ : ∃ m, n = m + 1 := ⟨n - 1, by omega⟩
    subst hx
    rw [lpAt_def]
    conv => lhs; whnf
    refine br_t (dt (by omega)) ?_
    conv => lhs; whnf
    refine br_t (dt2 (by omega) (by omega)) ?_
    conv => lhs; whnf
    conv => lhs; arg 1; whnf
    refine bnd_g (by exact True.intro) ?_
    conv => lhs; whnf
    rw [getD_drop (l := l) (i := i) (d := (0, 0)) (by omega)]
    refine br_c (fun h => ?_) (fun h => ?_)
    · have h' : ((l.getD i (0, 0)).1 == v) = true := h
      conv => lhs; whnf
      rw [if_pos (by simp only [List.any_cons, h', Bool.true_or]), firstI, h', cond_true]
    · have h' : ((l.getD i (0, 0)).1 == v) = false := h
      conv => lhs; whnf
      rw [ih n (i + 1) _ (by omega) (by omega) (by rw [wrap64 (by omega) (by omega)]; simp) (by omega)]
      simp only [List.any_cons, h', Bool.false_or]
      rw [firstI, h', cond_false]
      rfl
theorem ev_idxLat (l : List (Int × Int)) (v : Int) (hp : l.length ≤ 64) : evF E_idxLat (l.length + 2) Tryz.f250 [.lst (.pair (.int .i64) (.int .i64)) l, .clo 251 [.vptr [.int .i64 v] 0]] [] = some (.int .i64 (firstI (fun p => p.1 == v) l 0), []) := by
  conv => lhs; whnf
  refine (lp_idxLat l v hp _ l.length _ 0 0 rfl (by omega) rfl (by omega)).trans ?_
  simp only [List.drop_zero]
  split
  · conv => lhs; whnf
    rfl
  · rename_i he
    conv => lhs; whnf
    have : firstI (fun p => p.1 == v) l 0 = -1 := firstI_none _ l 0 (by rw [Bool.not_eq_true] at he; exact he)
    rw [this]
theorem ok_idxLat : FnOk Tryz.prog 250 K_idxLat := by
  refine fn_ok (fn := Tryz.f250) (k := Tryz.f250.ntmps) (E := E_idxLat) (facts_of (List.forall_mem_cons.2 ⟨ok_latIndex1, List.forall_mem_nil _⟩)) (by kernel_rfl) rfl (by decide +kernel) (by decide +kernel) ?_
  intro avs hin r h
  unfold K_idxLat at h
  split at h
  · obtain ⟨hp, rfl⟩ := gd_o h
    exact ⟨_, ev_idxLat _ _ hp, rfl⟩
  · cases h

/- (impl.lattice).index -/
def K_latIndex : List AV → List Ob → Option (AV × List Ob)
  | [.lst (.pair (.int .i64) (.int .i64)) l, .int .i64 v], [] => gd (l.length ≤ 64) (.int .i64 (firstI (fun p => p.1 == v) l 0), [])
  | _, _ => none
@[reducible] def E_latIndex : Env := mkE (tb [(250, K_idxLat)]) (fun f => false) (fun r => ([], []))
theorem ev_latIndex (l : List (Int × Int)) (v : Int) (hp : l.length ≤ 64) : evF E_latIndex (1) Tryz.f224 [.lst (.pair (.int .i64) (.int .i64)) l, .int .i64 v] [] = some (.int .i64 (firstI (fun p => p.1 == v) l 0), []) := by
  conv => lhs; whnf
  conv => lhs; arg 1; whnf
  refine bnd_g (by exact hp) ?_
  conv => lhs; whnf
theorem ok_latIndex : FnOk Tryz.prog 224 K_latIndex := by
  refine fn_ok (fn := Tryz.f224) (k := Tryz.f224.ntmps) (E := E_latIndex) (facts_of (List.forall_mem_cons.2 ⟨ok_idxLat, List.forall_mem_nil _⟩)) (by kernel_rfl) rfl (by decide +kernel) (by decide +kernel) ?_
  intro avs hin r h
  unfold K_latIndex at h
  split at h
  · obtain ⟨hp, rfl⟩ := gd_o h
    exact ⟨_, ev_latIndex _ _ hp, rfl⟩
  · cases h

/- (impl.lattice).meet -/
def K_latMeet : List AV → List Ob → Option (AV × List Ob)
  | [.lst (.pair (.int .i64) (.int .i64)) l, .int .i64 x, .int .i64 y], [] => gd ((l.length ≤ 64 ∧ (0 ≤ x ∧ x < l.length)) ∧ (0 ≤ y ∧ y < l.length)) (.int .i64 (firstI (fun z => z.1 == band (l.getD x.toNat (0, 0)).1 (l.getD y.toNat (0, 0)).1) l 0), [])
  | _, _ => none
@[reducible] def E_latMeet : Env := mkE (tb [(224, K_latIndex)]) (fun f => false) (fun r => ([], []))
theorem ev_latMeet (l : List (Int × Int)) (x y : Int) (hp : (l.length ≤ 64 ∧ (0 ≤ x ∧ x < l.length)) ∧ (0 ≤ y ∧ y < l.length)) : evF E_latMeet (1) Tryz.f226 [.lst (.pair (.int .i64) (.int .i64)) l, .int .i64 x, .int .i64 y] [] = some (.int .i64 (firstI (fun z => z.1 == band (l.getD x.toNat (0, 0)).1 (l.getD y.toNat (0, 0)).1) l 0), []) := by
  conv => lhs; whnf
  refine br_t (by exact dt2 hp.1.2.1 hp.1.2.2) ?_
  conv => lhs; whnf
  refine br_t (by exact dt2 hp.2.1 hp.2.2) ?_
  conv => lhs; whnf
  conv => lhs; arg 1; whnf
  refine bnd_g (by exact hp.1.1) ?_
  conv => lhs; whnf
  repeat ((first | with_reducible apply br_tt | with_reducible apply br_ff | with_reducible apply br_nf | with_reducible apply br_nt | with_reducible refine br_d ?_ (by kernel_rfl)); conv => lhs; whnf)
  rfl
theorem ok_latMeet : FnOk Tryz.prog 226 K_latMeet := by
  refine fn_ok (fn := Tryz.f226) (k := Tryz.f226.ntmps) (E := E_latMeet) (facts_of (List.forall_mem_cons.2 ⟨ok_latIndex, List.forall_mem_nil _⟩)) (by kernel_rfl) rfl (by decide +kernel) (by decide +kernel) ?_
  intro avs hin r h
  unfold K_latMeet at h
  split at h
  · obtain ⟨hp, rfl⟩ := gd_o h
    exact ⟨_, ev_latMeet _ _ _ hp, rfl⟩
  · cases h

/- (impl.lattice).join -/
def K_latJoin : List AV → List Ob → Option (AV × List Ob)
  | [.lst (.pair (.int .i64) (.int .i64)) l, .int .i64 x, .int .i64 y], [] => gd ((l.length ≤ 64 ∧ (0 ≤ x ∧ x < l.length)) ∧ (0 ≤ y ∧ y < l.length)) (.int .i64 (firstI (fun z => z.2 == band (l.getD x.toNat (0, 0)).2 (l.getD y.toNat (0, 0)).2) l 0), [])
  | _, _ => none
@[reducible] def E_latJoin : Env := mkE (tb [(250, K_idxLatJ)]) (fun f => false) (fun r => ([], []))
theorem ev_latJoin (l : List (Int × Int)) (x y : Int) (hp : (l.length ≤ 64 ∧ (0 ≤ x ∧ x < l.length)) ∧ (0 ≤ y ∧ y < l.length)) : evF E_latJoin (1) Tryz.f227 [.lst (.pair (.int .i64) (.int .i64)) l, .int .i64 x, .int .i64 y] [] = some (.int .i64 (firstI (fun z => z.2 == band (l.getD x.toNat (0, 0)).2 (l.getD y.toNat (0, 0)).2) l 0), []) := by
  conv => lhs; whnf
  refine br_t (by exact dt2 hp.1.2.1 hp.1.2.2) ?_
  conv => lhs; whnf
  refine br_t (by exact dt2 hp.2.1 hp.2.2) ?_
  conv => lhs; whnf
  repeat ((first | with_reducible apply br_tt | with_reducible apply br_ff | with_reducible apply br_nf | with_reducible apply br_nt | with_reducible refine br_d ?_ (by kernel_rfl)); conv => lhs; whnf)
  conv => lhs; arg 1; whnf
  refine bnd_g (by exact hp.1.1) ?_
  conv => lhs; whnf
  repeat ((first | with_reducible apply br_tt | with_reducible apply br_ff | with_reducible apply br_nf | with_reducible apply br_nt | with_reducible refine br_d ?_ (by kernel_rfl)); conv => lhs; whnf)
  rfl
theorem ok_latJoin : FnOk Tryz.prog 227 K_latJoin := by
  refine fn_ok (fn := Tryz.f227) (k := Tryz.f227.ntmps) (E := E_latJoin) (facts_of (List.forall_mem_cons.2 ⟨ok_idxLatJ, List.forall_mem_nil _⟩)) (by kernel_rfl) rfl (by decide +kernel) (by decide +kernel) ?_
  intro avs hin r h
  unfold K_latJoin at h
  split at h
  · obtain ⟨hp, rfl⟩ := gd_o h
    exact ⟨_, ev_latJoin _ _ _ hp, rfl⟩
  · cases h

def mtC (l : List (Int × Int)) (p q : Int × Int) : Int := firstI (fun z => z.1 == band p.1 q.1) l 0
def jnC (l : List (Int × Int)) (p q : Int × Int) : Int := firstI (fun z => z.2 == band p.2 q.2) l 0
theorem set_getD {α : Type} {l : List α} {i : Nat} {x d : α} (h : i < l.length) : (l.set i x).getD i d = x := by
  simp [List.getD, h]
theorem set_getD_ne {α : Type} {l : List α} {i j : Nat} {x d : α} (h : i ≠ j) : (l.set i x).getD j d = l.getD j d := by
  simp [List.getD, h]
theorem set_same {α : Type} {l : List α} {i : Nat} {d : α} (h : i < l.length) : l.set i (l.getD i d) = l := by
  apply List.ext_getElem
  · simp
  · intro j h1 h2
    rw [List.getElem_set]
    split
    · rename_i e; subst e; simp [List.getD, h]
    · rfl
theorem take_set_map {α : Type} {l m : List α} {i : Nat} {x : α} (h : i < l.length) : (l.set i x).take (i + 1) ++ m = l.take i ++ x :: m := by
  rw [List.take_add_one, List.take_set_of_le (Nat.le_refl i)]
  simp [h]
/- impl.tables -/
def K_tables : List AV → List Ob → Option (AV × List Ob)
  | [.lst (.pair (.int .i64) (.int .i64)) l], [] => gd (l.length ≤ 64) (.tup [.own 0, .own 1], [.nest 24 3 (.int .i64) (l.map fun p => l.map (mtC l p)) none, .nest 24 3 (.int .i64) (l.map fun p => l.map (jnC l p)) none])
  | _, _ => none
@[reducible] def E_tables : Env := mkE (tb [(226, K_latMeet), (227, K_latJoin)]) (fun f => false) (fun r => bif r == 3 then ([0, 4, 5, 15, 16], [0, 4, 5, 15, 16]) else bif r == 6 then ([0, 4, 5, 6, 15, 16, 20, 21], [0, 4, 5, 15, 16]) else ([], []))
theorem lpi_tables (l : List (Int × Int)) (hl : l.length ≤ 64) (hr : 600 ≤ room) (a : Nat) (ha : a < l.length) (k : AX → S → Option (AV × List Ob)) (d : Nat) : ∀ (n i : Nat) (x : Int) (yss zss : List (List Int)), l.length - i = d → i ≤ l.length → x = i → d < n → yss.length = l.length → zss.length = l.length → (yss.getD a []).length ≤ i → (zss.getD a []).length ≤ i →
    lpAt E_tables (lp E_tables 0 n) 0 (loopAt Tryz.f192 1) (mkS [0, 4, 5, 6, 15, 16, 20, 21] [.lst (.pair (.int .i64) (.int .i64)) l, .own 0, .own 1, .int .i64 (a : Int), .int .i64 l.length, .int .i64 (a : Int), .int .i64 l.length, .int .i64 x] [some (.nest 24 3 (.int .i64) yss none), some (.nest 24 3 (.int .i64) zss none)]) k =
      k (.exit 2) (mkS [0, 4, 5, 15, 16] [.lst (.pair (.int .i64) (.int .i64)) l, .own 0, .own 1, .int .i64 l.length, .int .i64 (a : Int)] [some (.nest 24 3 (.int .i64) (yss.set a (yss.getD a [] ++ (l.drop i).map (mtC l (l.getD a (0, 0))))) none), some (.nest 24 3 (.int .i64) (zss.set a (zss.getD a [] ++ (l.drop i).map (jnC l (l.getD a (0, 0))))) none)]) := by
  induction d with
  | zero =>
    intro n i x yss zss hd hi hx hn hy hz hya hza
    subst hx
    rw [lpAt_def]
    conv => lhs; whnf
    refine br_f (df (by omega)) ?_
    conv => lhs; whnf
    have e1 : yss.set a (yss.getD a [] ++ (l.drop i).map (mtC l (l.getD a (0, 0)))) = yss := by rw [List.drop_of_length_le (by omega), List.map_nil, List.append_nil, set_same (by omega)]
    have e2 : zss.set a (zss.getD a [] ++ (l.drop i).map (jnC l (l.getD a (0, 0)))) = zss := by rw [List.drop_of_length_le (by omega), List.map_nil, List.append_nil, set_same (by omega)]
    rw [e1, e2]
  | succ d ih =>
    intro n i x yss zss hd hi hx hn hy hz hya hza
    obtain ⟨n, rfl⟩ : ∃ m, n = m + 1 := ⟨n - 1, by omega⟩
    subst hx
    rw [lpAt_def]
    conv => lhs; whnf
    refine br_t (dt (by omega)) ?_
    conv => lhs; whnf
    repeat ((first | with_reducible apply br_tt | with_reducible apply br_ff | with_reducible apply br_nf | with_reducible apply br_nt | with_reducible refine br_d ?_ (by kernel_rfl) | with_reducible refine br_t (dt2 (by omega) (by omega)) ?_); conv => lhs; whnf)
    refine br_t (by exact dt (by omega)) ?_
    conv => lhs; whnf
    repeat ((first | with_reducible apply br_tt | with_reducible apply br_ff | with_reducible apply br_nf | with_reducible apply br_nt | with_reducible refine br_d ?_ (by kernel_rfl) | with_reducible refine br_t (dt2 (by omega) (by omega)) ?_); conv => lhs; whnf)
    conv => lhs; arg 1; whnf
    refine bnd_g (by exact ⟨⟨hl, by omega, by omega⟩, by omega, by omega⟩) ?_
    conv => lhs; whnf
    repeat ((first | with_reducible apply br_tt | with_reducible apply br_ff | with_reducible apply br_nf | with_reducible apply br_nt | with_reducible refine br_d ?_ (by kernel_rfl) | with_reducible refine br_t (dt2 (by omega) (by omega)) ?_); conv => lhs; whnf)
    refine br_t (by exact dt (show ((yss.getD a []).length + 1) * 8 ≤ room by omega)) ?_
    conv => lhs; whnf
    repeat ((first | with_reducible apply br_tt | with_reducible apply br_ff | with_reducible apply br_nf | with_reducible apply br_nt | with_reducible refine br_d ?_ (by kernel_rfl) | with_reducible refine br_t (dt2 (by omega) (by omega)) ?_); conv => lhs; whnf)
    refine br_t (by exact dt rfl) ?_
    conv => lhs; whnf
    repeat ((first | with_reducible apply br_tt | with_reducible apply br_ff | with_reducible apply br_nf | with_reducible apply br_nt | with_reducible refine br_d ?_ (by kernel_rfl) | with_reducible refine br_t (dt2 (by omega) (by omega)) ?_); conv => lhs; whnf)
    conv => lhs; whnf
    repeat ((first | with_reducible apply br_tt | with_reducible apply br_ff | with_reducible apply br_nf | with_reducible apply br_nt | with_reducible refine br_d ?_ (by kernel_rfl) | with_reducible refine br_t (dt2 (by omega) (by omega)) ?_); conv => lhs; whnf)
    refine br_t (by exact dt (by omega)) ?_
    conv => lhs; whnf
    repeat ((first | with_reducible apply br_tt | with_reducible apply br_ff | with_reducible apply br_nf | with_reducible apply br_nt | with_reducible refine br_d ?_ (by kernel_rfl) | with_reducible refine br_t (dt2 (by omega) (by omega)) ?_); conv => lhs; whnf)
    conv => lhs; arg 1; whnf
    refine bnd_g (by exact ⟨⟨hl, by omega, by omega⟩, by omega, by omega⟩) ?_
    conv => lhs; whnf
    repeat ((first | with_reducible apply br_tt | with_reducible apply br_ff | with_reducible apply br_nf | with_reducible apply br_nt | with_reducible refine br_d ?_ (by kernel_rfl) | with_reducible refine br_t (dt2 (by omega) (by omega)) ?_); conv => lhs; whnf)
    refine br_t (by exact dt (show ((zss.getD a []).length + 1) * 8 ≤ room by omega)) ?_
    conv => lhs; whnf
    repeat ((first | with_reducible apply br_tt | with_reducible apply br_ff | with_reducible apply br_nf | with_reducible apply br_nt | with_reducible refine br_d ?_ (by kernel_rfl) | with_reducible refine br_t (dt2 (by omega) (by omega)) ?_); conv => lhs; whnf)
    refine br_t (by exact dt rfl) ?_
    conv => lhs; whnf
    repeat ((first | with_reducible apply br_tt | with_reducible apply br_ff | with_reducible apply br_nf | with_reducible apply br_nt | with_reducible refine br_d ?_ (by kernel_rfl) | with_reducible refine br_t (dt2 (by omega) (by omega)) ?_); conv => lhs; whnf)
    have ea : ∀ (w : List (List Int)) (v : Int) (g : Int × Int → Int), w.length = l.length → g (l.getD i (0, 0)) = v → (w.set a (w.getD a [] ++ [v])).set a ((w.set a (w.getD a [] ++ [v])).getD a [] ++ (l.drop (i + 1)).map g) = w.set a (w.getD a [] ++ (l.drop i).map g) := by
      intro w v g hw hg
      rw [set_getD (by omega), List.set_set, getD_drop (l := l) (i := i) (d := (0, 0)) (by omega), List.map_cons, hg, List.append_assoc]
      rfl
    rw [← ea yss (mtC l (l.getD a (0, 0)) (l.getD i (0, 0))) _ hy rfl, ← ea zss (jnC l (l.getD a (0, 0)) (l.getD i (0, 0))) _ hz rfl]
    exact ih n (i + 1) _ (yss.set a (yss.getD a [] ++ [mtC l (l.getD a (0, 0)) (l.getD i (0, 0))])) (zss.set a (zss.getD a [] ++ [jnC l (l.getD a (0, 0)) (l.getD i (0, 0))])) (by omega) (by omega) (by rw [wrap64 (n := (i : Int) + 1) (by omega) (by omega)]; simp) (by omega) (by rw [List.length_set]; omega) (by rw [List.length_set]; omega) (by rw [set_getD (by omega), List.length_append]; show (yss.getD a []).length + 1 ≤ i + 1; omega) (by rw [set_getD (by omega), List.length_append]; show (zss.getD a []).length + 1 ≤ i + 1; omega)
theorem lp_tables (l : List (Int × Int)) (hl : l.length ≤ 64) (hr : 600 ≤ room) (k : AX → S → Option (AV × List Ob)) (d : Nat) : ∀ (n i : Nat) (x : Int) (q : AV) (yss zss : List (List Int)), l.length - i = d → i ≤ l.length → x = i → d + 100 < n → yss.length = l.length → zss.length = l.length → (∀ j, i ≤ j → yss.getD j [] = []) → (∀ j, i ≤ j → zss.getD j [] = []) →
    lpAt E_tables (lp E_tables 0 n) 0 (loopAt Tryz.f192 0) (mkS [0, 4, 5, 15, 16] [.lst (.pair (.int .i64) (.int .i64)) l, .own 0, .own 1, .int .i64 l.length, .int .i64 x] [some (.nest 24 3 (.int .i64) yss none), some (.nest 24 3 (.int .i64) zss none)]) k =
      k (.exit 0) (mkS [0, 4, 5, 15, 16] [.lst (.pair (.int .i64) (.int .i64)) l, .own 0, .own 1, .int .i64 l.length, .int .i64 l.length] [some (.nest 24 3 (.int .i64) (yss.take i ++ (l.drop i).map fun p => l.map (mtC l p)) none), some (.nest 24 3 (.int .i64) (zss.take i ++ (l.drop i).map fun p => l.map (jnC l p)) none)]) := by
  induction d with
  | zero =>
    intro n i x q yss zss hd hi hx hn hy hz hya hza
    subst hx
    rw [lpAt_def]
    conv => lhs; whnf
    refine br_f (df (by omega)) ?_
    conv => lhs; whnf
    have e1 : yss.take i ++ (l.drop i).map (fun p => l.map (mtC l p)) = yss := by rw [List.drop_of_length_le (by omega), List.map_nil, List.append_nil, List.take_of_length_le (by omega)]
    have e2 : zss.take i ++ (l.drop i).map (fun p => l.map (jnC l p)) = zss := by rw [List.drop_of_length_le (by omega), List.map_nil, List.append_nil, List.take_of_length_le (by omega)]
    have e3 : i = l.length := by omega
    rw [e1, e2, e3]
  | succ d ih =>
    intro n i x q yss zss hd hi hx hn hy hz hya hza
    obtain ⟨n, rfl⟩ : ∃ m, n = m + 1 := ⟨n - 1, by omega⟩
    subst hx
    rw [lpAt_def]
    conv => lhs; whnf
    refine br_t (dt (by omega)) ?_
    conv => lhs; whnf
    refine (lpi_tables l hl hr i (by omega) _ l.length _ 0 0 yss zss rfl (by omega) rfl (by omega) hy hz (by rw [hya i (Nat.le_refl i)]; exact Nat.zero_le _) (by rw [hza i (Nat.le_refl i)]; exact Nat.zero_le _)).trans ?_
    conv => lhs; whnf
    have ea : ∀ (w : List (List Int)) (g : List (Int × Int) → Int × Int → Int × Int → Int), w.length = l.length → (∀ j, i ≤ j → w.getD j [] = []) → (w.set i (w.getD i [] ++ (l.drop 0).map (g l (l.getD i (0, 0))))).take (i + 1) ++ (l.drop (i + 1)).map (fun p => l.map (g l p)) = w.take i ++ (l.drop i).map (fun p => l.map (g l p)) := by
      intro w g hw hg
      rw [take_set_map (by omega), getD_drop (l := l) (i := i) (d := (0, 0)) (by omega), List.map_cons, hg i (Nat.le_refl i), List.drop_zero]
      rfl
    have eb : ∀ (w : List (List Int)) (g : List (Int × Int) → Int × Int → Int × Int → Int), (∀ j, i ≤ j → w.getD j [] = []) → ∀ j, i + 1 ≤ j → (w.set i (w.getD i [] ++ (l.drop 0).map (g l (l.getD i (0, 0))))).getD j [] = [] := by
      intro w g hw j hj
      rw [set_getD_ne (by omega)]
      exact hw j (by omega)
    rw [← ea yss mtC hy hya, ← ea zss jnC hz hza]
    exact ih n (i + 1) _ .any (yss.set i (yss.getD i [] ++ (l.drop 0).map (mtC l (l.getD i (0, 0))))) (zss.set i (zss.getD i [] ++ (l.drop 0).map (jnC l (l.getD i (0, 0))))) (by omega) (by omega) (by rw [wrap64 (n := (i : Int) + 1) (by omega) (by omega)]; simp) (by omega) (by rw [List.length_set]; omega) (by rw [List.length_set]; omega) (eb yss _ hya) (eb zss _ hza)
theorem ev_tables (l : List (Int × Int)) (hp : l.length ≤ 64) : evF E_tables (l.length + 200) Tryz.f192 [.lst (.pair (.int .i64) (.int .i64)) l] [] = some (.tup [.own 0, .own 1], [.nest 24 3 (.int .i64) (l.map fun p => l.map (mtC l p)) none, .nest 24 3 (.int .i64) (l.map fun p => l.map (jnC l p)) none]) := by
  have hr : 600 ≤ room := by simp [room]
  have hrp : ∀ j, (List.replicate l.length ([] : List Int)).getD j [] = [] := by
    intro j
    simp only [List.getD, List.getElem?_replicate]
    split <;> rfl
  conv => lhs; whnf
  refine br_t (by exact mk_ok (by show l.length * 24 ≤ _; omega)) ?_
  conv => lhs; whnf
  repeat ((first | with_reducible apply br_tt | with_reducible apply br_ff | with_reducible apply br_nf | with_reducible apply br_nt | with_reducible refine br_d ?_ (by kernel_rfl) | with_reducible refine br_t (dt2 (by omega) (by omega)) ?_); conv => lhs; whnf)
  refine br_t (by exact mk_ok (by show l.length * 24 ≤ _; omega)) ?_
  conv => lhs; whnf
  repeat ((first | with_reducible apply br_tt | with_reducible apply br_ff | with_reducible apply br_nf | with_reducible apply br_nt | with_reducible refine br_d ?_ (by kernel_rfl) | with_reducible refine br_t (dt2 (by omega) (by omega)) ?_); conv => lhs; whnf)
  refine (lp_tables l hp hr _ l.length _ 0 0 .any (List.replicate l.length []) (List.replicate l.length []) rfl (Nat.zero_le _) rfl (by omega) (List.length_replicate ..) (List.length_replicate ..) (fun j _ => hrp j) (fun j _ => hrp j)).trans ?_
  conv => lhs; whnf
  rfl
theorem ok_tables : FnOk Tryz.prog 192 K_tables := by
  refine fn_ok (fn := Tryz.f192) (k := Tryz.f192.ntmps) (E := E_tables) (facts_of (List.forall_mem_cons.2 ⟨ok_latMeet, List.forall_mem_cons.2 ⟨ok_latJoin, List.forall_mem_nil _⟩⟩)) (by kernel_rfl) rfl (by decide +kernel) (by decide +kernel) ?_
  intro avs hin r h
  unfold K_tables at h
  split at h
  · obtain ⟨hp, rfl⟩ := gd_o h
    exact ⟨_, ev_tables _ hp, rfl⟩
  · cases h

theorem firstI_same {α : Type} {p q : α → Bool} : ∀ (l : List α) (i : Int), (∀ x ∈ l, p x = q x) → firstI p l i = firstI q l i
  | [], _, _ => rfl
  | x :: l, i, h => by rw [firstI, firstI, h x (by simp), firstI_same l (i + 1) fun y hy => h y (by simp [hy])]
theorem clo_ext {m : Int} {b : List Int} (h : isCtx m b = true) {p q z : Int × Int} (hp : p ∈ concF m b) (hq : q ∈ concF m b) (hz : z ∈ concF m b) : (z.1 == band p.1 q.1) = (z.2 == intentF m b (band p.1 q.1)) := by
  obtain ⟨_, p2, p3, p4, p5⟩ := concF_mem hp
  obtain ⟨_, q2, q3, q4, q5⟩ := concF_mem hq
  obtain ⟨_, z2, z3, z4, z5⟩ := concF_mem hz
  have hl := isCtx_len h
  have hsm := ctx_small h
  have hpw := pow64 (n := m.toNat) (by omega)
  rw [Bool.eq_iff_iff, beq_iff_eq, beq_iff_eq]
  constructor
  · intro e
    rw [← z5, e]
  · intro e
    have p8 := isSet_8 p3
    have q8 := isSet_8 q3
    have e8 := isSet8_band p8 q8
    obtain ⟨i1, i2, i3⟩ := intentF_spec (m := m) ⟨hl.2.1, by omega⟩ hl.1 hsm e8
    obtain ⟨u, hu, hu'⟩ := isSet_ex p8
    obtain ⟨w, hw, hw'⟩ := isSet_ex q8
    have hu' : u < 256 := hu'
    have hw' : w < 256 := hw'
    have eb : band p.1 q.1 = ((u &&& w : Nat) : Int) := by rw [hu, hw, band_nat hu' hw']
    obtain ⟨v, hv, hv'⟩ := isSet_ex z2
    obtain ⟨s, hs, hs'⟩ := isSet_ex p2
    obtain ⟨t, ht, ht'⟩ := isSet_ex q2
    obtain ⟨x1, x2, x3⟩ := extF_spec hl.1 hsm (s := v) (by omega)
    obtain ⟨y1, y2, y3⟩ := extF_spec hl.1 hsm (s := s) (by omega)
    obtain ⟨w1, w2, w3⟩ := extF_spec hl.1 hsm (s := t) (by omega)
    obtain ⟨c1, c2, c3⟩ := intentF_spec (m := m) ⟨hl.2.1, by omega⟩ hl.1 hsm p8
    obtain ⟨d1, d2, d3⟩ := intentF_spec (m := m) ⟨hl.2.1, by omega⟩ hl.1 hsm q8
    rw [p5, hs, Int.toNat_natCast] at c3
    rw [q5, ht, Int.toNat_natCast] at d3
    rw [← e, hv, eb, Int.toNat_natCast, Int.toNat_natCast] at i3
    rw [← hs, ← p4, hu, Int.toNat_natCast] at y3
    rw [← ht, ← q4, hw, Int.toNat_natCast] at w3
    rw [hu, Int.toNat_natCast] at c3
    rw [hw, Int.toNat_natCast] at d3
    have hx : (extF b (v : Int)).toNat = u &&& w := by
      apply Nat.eq_of_testBit_eq
      intro k
      rw [Bool.eq_iff_iff, x3 k, Nat.testBit_and, Bool.and_eq_true]
      constructor
      · rintro ⟨g1, g2⟩
        refine ⟨(y3 k).2 ⟨g1, fun j hj => g2 j ?_⟩, (w3 k).2 ⟨g1, fun j hj => g2 j ?_⟩⟩
        · obtain ⟨r1, r2⟩ := (c3 j).1 hj
          exact (i3 j).2 ⟨r1, fun k' hk' hb => r2 k' hk' (by rw [Nat.testBit_and, Bool.and_eq_true] at hb; exact hb.1)⟩
        · obtain ⟨r1, r2⟩ := (d3 j).1 hj
          exact (i3 j).2 ⟨r1, fun k' hk' hb => r2 k' hk' (by rw [Nat.testBit_and, Bool.and_eq_true] at hb; exact hb.2)⟩
      · rintro ⟨g1, g2⟩
        have gk := ((y3 k).1 g1).1
        exact ⟨gk, fun j hj => ((i3 j).1 hj).2 k gk (by rw [Nat.testBit_and, g1, g2]; rfl)⟩
    rw [z4, hv, eb]
    omega
theorem mt_eq {m : Int} {b : List Int} {p q : Int × Int} (hp : p ∈ concF m b) (hq : q ∈ concF m b) : mtC (concF m b) p q = tabC m b (concF m b) true p q := by
  obtain ⟨h, _⟩ := concF_mem hp
  unfold mtC tabC
  exact firstI_same _ _ fun z hz => clo_ext h hp hq hz
theorem tab_mt (m : Int) (b : List Int) : (concF m b).map (fun p => (concF m b).map (mtC (concF m b) p)) = tabF m b true := by
  unfold tabF tabR
  exact List.map_congr_left fun p hp => List.map_congr_left fun q hq => mt_eq hp hq
/- impl.tables -/
def K_tablesF : List AV → List Ob → Option (AV × List Ob)
  | [.lst (.pair (.int .i64) (.int .i64)) l], [] => gd (l.length ≤ 64) (.tup [.lst (.lst (.int .i64)) (l.map fun p => l.map (mtC l p)), .lst (.lst (.int .i64)) (l.map fun p => l.map (jnC l p))], [])
  | _, _ => none
theorem ok_tablesF : FnOk Tryz.prog 192 K_tablesF := by
  refine FnOk.le (FnOk.frz ok_tables) (fun avs hin p h => ?_)
  unfold K_tablesF at h
  split at h
  · obtain ⟨hp, rfl⟩ := gd_o h
    refine Eq.trans (frz_s (K := K_tables) (p := ?p) ?hq) ?hr
    case hq => exact gd_s hp
    case hr => rfl
  · cases h

def posI (ys : List Int) (x : Int) : Nat → Nat
  | 0 => 0
  | p + 1 => bif decide (ys.getD p 0 > x) then posI ys x p else p + 1
def insI (ys : List Int) (x : Int) : List Int := ys.take (posI ys x ys.length) ++ x :: ys.drop (posI ys x ys.length)
def sortS : List Int → List Int → List Int
  | [], acc => acc
  | x :: r, acc => sortS r (insI acc x)
theorem posI_le (ys : List Int) (x : Int) : ∀ p, posI ys x p ≤ p
  | 0 => Nat.le_refl 0
  | p + 1 => by
    have := posI_le ys x p
    rw [posI]
    cases decide (ys.getD p 0 > x)
    · exact Nat.le_refl _
    · rw [cond_true]; omega
theorem posI_gt (ys : List Int) (x : Int) : ∀ p j, posI ys x p ≤ j → j < p → ys.getD j 0 > x
  | 0, j, _, h => by omega
  | p + 1, j, h1, h2 => by
    rw [posI] at h1
    cases hd : decide (ys.getD p 0 > x)
    · rw [hd, cond_false] at h1; omega
    · rw [hd, cond_true] at h1
      rcases Nat.lt_or_ge j p with h3 | h3
      · exact posI_gt ys x p j h1 h3
      · have : j = p := by omega
        subst this
        exact of_decide_eq_true hd
theorem posI_last (ys : List Int) (x : Int) : ∀ p, 0 < posI ys x p → ys.getD (posI ys x p - 1) 0 ≤ x
  | 0, h => by simp [posI] at h
  | p + 1, h => by
    rw [posI] at h ⊢
    cases hd : decide (ys.getD p 0 > x)
    · rw [cond_false, Nat.add_sub_cancel]
      have := of_decide_eq_false hd
      omega
    · rw [hd, cond_true] at h
      rw [cond_true]
      exact posI_last ys x p h
theorem insI_perm (ys : List Int) (x : Int) : (insI ys x).Perm (x :: ys) := by
  unfold insI
  refine List.perm_middle.trans ?_
  rw [List.take_append_drop]
theorem insI_sorted {ys : List Int} (h : ys.Pairwise (· ≤ ·)) (x : Int) : (insI ys x).Pairwise (· ≤ ·) := by
  have hp := posI_le ys x ys.length
  have hg := posI_gt ys x ys.length
  have hl := posI_last ys x ys.length
  unfold insI
  generalize posI ys x ys.length = p at hp hg hl
  rw [List.pairwise_append]
  have hle : ∀ a ∈ ys.take p, a ≤ x := by
    intro a ha
    obtain ⟨i, hi, rfl⟩ := List.mem_iff_getElem.1 ha
    rw [List.length_take] at hi
    have h0 := hl (by omega)
    rw [List.getElem_take]
    have e : ys.getD (p - 1) 0 = ys[p - 1] := by simp [List.getD, show p - 1 < ys.length by omega]
    rw [e] at h0
    rcases Nat.lt_or_ge i (p - 1) with h3 | h3
    · exact Int.le_trans (List.pairwise_iff_getElem.1 h i (p - 1) (by omega) (by omega) h3) h0
    · have : i = p - 1 := by omega
      subst this; exact h0
  have hge : ∀ b ∈ ys.drop p, x ≤ b := by
    intro b hb
    obtain ⟨i, hi, rfl⟩ := List.mem_iff_getElem.1 hb
    rw [List.length_drop] at hi
    have := hg (p + i) (by omega) (by omega)
    rw [List.getElem_drop]
    have e : ys.getD (p + i) 0 = ys[p + i] := by simp [List.getD, show p + i < ys.length by omega]
    omega
  refine ⟨h.sublist (List.take_sublist _ _), ?_, ?_⟩
  · rw [List.pairwise_cons]
    exact ⟨hge, h.sublist (List.drop_sublist _ _)⟩
  · intro a ha b hb
    rcases List.mem_cons.1 hb with rfl | hb
    · exact hle a ha
    · exact Int.le_trans (hle a ha) (hge b hb)
theorem sortS_sorted : ∀ (ys acc : List Int), acc.Pairwise (· ≤ ·) → (sortS ys acc).Pairwise (· ≤ ·) ∧ (sortS ys acc).Perm (ys ++ acc)
  | [], acc, h => ⟨h, List.Perm.refl _⟩
  | x :: r, acc, h => by
    obtain ⟨h1, h2⟩ := sortS_sorted r (insI acc x) (insI_sorted h x)
    refine ⟨h1, h2.trans ?_⟩
    refine ((insI_perm acc x).append_left r).trans ?_
    rw [List.cons_append]
    exact List.perm_middle
theorem sortS_eq (ys : List Int) : sortS ys [] = sortI ys := by
  obtain ⟨h1, h2⟩ := sortS_sorted ys [] List.Pairwise.nil
  rw [List.append_nil] at h2
  have h3 : (sortI ys).Pairwise (fun a b => decide (a ≤ b) = true) := List.pairwise_mergeSort (fun a b c h g => by simp at *; omega) (fun a b => by simp; omega) ys
  have h3 : (sortI ys).Pairwise (· ≤ ·) := h3.imp fun h => of_decide_eq_true h
  exact List.Perm.eq_of_pairwise (le := (· ≤ ·)) (fun a b _ _ h g => Int.le_antisymm h g) h1 h3 (h2.trans (List.mergeSort_perm ys _).symm)
theorem sortS_len (ys acc : List Int) (h : acc.Pairwise (· ≤ ·)) : (sortS ys acc).length = ys.length + acc.length := by
  rw [(sortS_sorted ys acc h).2.length_eq, List.length_append]
theorem insI_len (ys : List Int) (x : Int) : (insI ys x).length = ys.length + 1 := by
  rw [(insI_perm ys x).length_eq, List.length_cons]
def cofF (m : Int) (b : List Int) (a : Int) : Int × Int := bif inC (concF m b) a then elC (concF m b) a else (0, 0)
def stAt (m : Int) (b : List Int) (p : Int × Int) (s : Nat) : Bool := (band (s : Int) p.1 == (s : Int)) && (intentF m b (s : Int) == p.2)
def stNum (m : Int) (b : List Int) (p : Int × Int) : Int := sumB (stAt m b p) (p.1.toNat + 1) 0 0
def powC (s : Int) : Int := ((2 ^ (cntF s).toNat : Nat) : Int)
theorem cntF_rng (s : Int) : 0 ≤ cntF s ∧ cntF s ≤ 8 := by
  unfold cntF
  have := popF_le 8 s.toNat
  split <;> omega
theorem powC_shl (s : Int) : IntKind.i64.wrap (1 * 2 ^ min (cntF s).toNat IntKind.i64.bits) = powC s := by
  have h := cntF_rng s
  obtain ⟨n, hn⟩ : ∃ n : Nat, cntF s = n := ⟨(cntF s).toNat, by omega⟩
  unfold powC
  rw [hn]
  exact shl1 (by omega)
theorem powC_shlu (s : Int) : IntKind.i64.wrap (1 * 2 ^ min (IntKind.u64.wrap (cntF s)).toNat IntKind.i64.bits) = powC s := by
  have h := cntF_rng s
  rw [wrapu (by omega) (by omega)]
  exact powC_shl s
def stabF (m : Int) (b : List Int) (a : Int) : Int × Int := bif inC (concF m b) a then (stNum m b (elC (concF m b) a), powC (elC (concF m b) a).1) else (0, 0)
def stAt2 (m : Int) (b : List Int) (p : Int × Int) (s : Nat) : Bool := (bnot (s : Int) p.1 == 0) && (intentF m b (s : Int) == p.2)
theorem bnot_sub {s : Nat} {e : Int} (hs : s < 256) : (bnot (s : Int) e == 0) = (band (s : Int) e == (s : Int)) := by
  rw [Bool.eq_iff_iff, beq_iff_eq, beq_iff_eq]
  exact (sub_iff (by omega) (by omega)).symm
theorem stAt_eq {m : Int} {b : List Int} {p : Int × Int} {s : Nat} (hs : s < 256) : stAt2 m b p s = stAt m b p s := by
  unfold stAt2 stAt
  rw [bnot_sub hs]
theorem stAt_big {m : Int} {b : List Int} {p : Int × Int} (hp : 0 ≤ p.1 ∧ p.1 ≤ 255) {s : Nat} (hs : s < 256) (h : p.1.toNat + 1 ≤ s) : stAt m b p s = false := by
  unfold stAt
  have : (band (s : Int) p.1 == (s : Int)) = false := by
    rw [beq_eq_false_iff_ne]
    intro hb
    obtain ⟨n, hn⟩ : ∃ n : Nat, p.1 = n := ⟨p.1.toNat, by omega⟩
    rw [hn] at hb h hp
    rw [band_nat hs (by omega)] at hb
    have h1 : s &&& n ≤ n := Nat.and_le_right
    omega
  rw [this, Bool.false_and]
theorem sumB_grow {f : Nat → Bool} : ∀ (c d i : Nat) (q : Int), (∀ j, i + d ≤ j → j < i + d + c → f j = false) → sumB f (d + c) i q = sumB f d i q
  | 0, d, i, q, _ => rfl
  | c + 1, 0, i, q, h => by
    rw [Nat.zero_add, sumB, sumB, h i (by omega) (by omega), cond_false, Int.add_zero]
    have := sumB_grow (f := f) c 0 (i + 1) q fun j h1 h2 => h j (by omega) (by omega)
    rw [Nat.zero_add] at this
    exact this
  | c + 1, d + 1, i, q, h => by
    rw [show d + 1 + (c + 1) = (d + (c + 1)) + 1 by omega, sumB, sumB]
    exact sumB_grow (c + 1) d (i + 1) _ fun j h1 h2 => h j (by omega) (by omega)
theorem sumB_congr {f g : Nat → Bool} : ∀ (d i : Nat) (q : Int), (∀ j, i ≤ j → j < i + d → f j = g j) → sumB f d i q = sumB g d i q
  | 0, i, q, _ => rfl
  | d + 1, i, q, h => by
    rw [sumB, sumB, h i (Nat.le_refl _) (by omega)]
    exact sumB_congr d (i + 1) _ fun j h1 h2 => h j (by omega) (by omega)
theorem stNum_eq {m : Int} {b : List Int} {p : Int × Int} {n : Nat} (hn : n ≤ 8) (hp : 0 ≤ p.1 ∧ p.1.toNat < 2 ^ n) : sumB (stAt2 m b p) (2 ^ n) 0 0 = stNum m b p := by
  have h2 : 2 ^ n ≤ 2 ^ 8 := Nat.pow_le_pow_right (by omega) hn
  rw [sumB_congr (g := stAt m b p) _ _ _ fun j _ hj => stAt_eq (by omega)]
  obtain ⟨c, hc⟩ : ∃ c, 2 ^ n = p.1.toNat + 1 + c := ⟨2 ^ n - (p.1.toNat + 1), by omega⟩
  rw [hc]
  exact sumB_grow c _ 0 0 fun j h1 h3 => stAt_big ⟨hp.1, by omega⟩ (by omega) (by omega)
def undB (l : List (Int × Int)) (x a : Nat) : Bool := band (l.getD x (0, 0)).1 (l.getD a (0, 0)).1 == (l.getD x (0, 0)).1
def blwB (l : List (Int × Int)) (x a : Nat) : Bool := bnot (l.getD x (0, 0)).1 (l.getD a (0, 0)).1 == 0
def markR (f g : Nat → Bool) : Nat → Nat → Int → Int
  | 0, _, q => q
  | d + 1, i, q => markR f g d (i + 1) (q + 100 * (bif f i then 1 else 0) + (bif g i then 1 else 0))
theorem sumB_add (f : Nat → Bool) : ∀ (d i : Nat) (q : Int), sumB f d i q = q + sumB f d i 0
  | 0, i, q => by simp [sumB]
  | d + 1, i, q => by
    rw [sumB, sumB, sumB_add f d (i + 1) (q + bif f i then 1 else 0), sumB_add f d (i + 1) (0 + bif f i then 1 else 0)]
    omega
theorem markR_eq (f g : Nat → Bool) : ∀ (d i : Nat) (q : Int), markR f g d i q = q + 100 * sumB f d i 0 + sumB g d i 0
  | 0, i, q => by simp [markR, sumB]
  | d + 1, i, q => by
    rw [markR, markR_eq f g d (i + 1), sumB, sumB, sumB_add f d (i + 1) (0 + bif f i then 1 else 0), sumB_add g d (i + 1) (0 + bif g i then 1 else 0)]
    omega
def markAt (l : List (Int × Int)) (a : Nat) : Int := 100 * sumB (fun x => undB l x a) l.length 0 0 + sumB (fun x => undB l a x) l.length 0 0
def marksL (l : List (Int × Int)) : Nat → Nat → List Int
  | 0, _ => []
  | d + 1, a => markAt l a :: marksL l d (a + 1)
theorem marksL_len (l : List (Int × Int)) : ∀ (d a : Nat), (marksL l d a).length = d
  | 0, _ => rfl
  | d + 1, a => by rw [marksL, List.length_cons, marksL_len l d]
def chsF (f : Nat → Bool) : Nat → Nat → List Int
  | 0, _ => []
  | d + 1, i => bif f i then (i : Int) :: chsF f d (i + 1) else chsF f d (i + 1)
theorem chsF_len (f : Nat → Bool) : ∀ (d i : Nat), ((chsF f d i).length : Int) = sumB f d i 0
  | 0, i => rfl
  | d + 1, i => by
    have := chsF_len f d (i + 1)
    rw [chsF, sumB, sumB_add f d (i + 1)]
    cases f i
    · rw [cond_false, cond_false, this]; omega
    · rw [cond_true, cond_true, List.length_cons]; push_cast; omega
theorem chsF_le (f : Nat → Bool) : ∀ (d i : Nat), (chsF f d i).length ≤ d
  | 0, i => Nat.le_refl 0
  | d + 1, i => by
    have := chsF_le f d (i + 1)
    rw [chsF]
    cases f i
    · rw [cond_false]; omega
    · rw [cond_true, List.length_cons]; omega
def extsB (l : List (Int × Int)) : Bool := l.all (fun p => isSet 8 p.1)
theorem blw_und {l : List (Int × Int)} (h : extsB l = true) {x : Nat} (hx : x < l.length) (a : Nat) : blwB l x a = undB l x a := by
  unfold blwB undB
  have hs : isSet 8 (l.getD x (0, 0)).1 = true := List.all_eq_true.1 h _ (mem_getD hx)
  have hl := isSet_le hs
  have hn : (l.getD x (0, 0)).1 = (((l.getD x (0, 0)).1.toNat : Nat) : Int) := by omega
  rw [hn]
  exact bnot_sub (by omega)
def profF (m : Int) (b : List Int) : List Int := bif decide ((concF m b).length > 24) then [] else sortI (marksL (concF m b) (concF m b).length 0)
theorem profF_len (m : Int) (b : List Int) : (profF m b).length ≤ 64 := by
  have h := concF_len m b
  unfold profF
  cases decide ((concF m b).length > 24)
  · rw [cond_false, sortI_len, marksL_len]; exact h
  · exact Nat.zero_le _
theorem conc_exts (m : Int) (b : List Int) : extsB (concF m b) = true := by
  unfold extsB
  rw [List.all_eq_true]
  intro p hp
  obtain ⟨h1, h2, h3, h4, h5⟩ := concF_mem hp
  have := isSet_le h3
  rw [isSet8]
  exact dt ⟨by omega, by omega⟩
/- impl.inSet -/
def K_inSet : List AV → List Ob → Option (AV × List Ob)
  | [.int .i64 a, .int .i64 b], [] => gd (True) (.bool (bnot a b == 0), [])
  | _, _ => none
@[reducible] def E_inSet : Env := mkE (tb []) (fun f => false) (fun r => ([], []))
theorem ev_inSet (a b : Int) (hp : True) : evF E_inSet (1) Tryz.f151 [.int .i64 a, .int .i64 b] [] = some (.bool (bnot a b == 0), []) := by
  conv => lhs; whnf
  rfl
theorem ok_inSet : FnOk Tryz.prog 151 K_inSet := by
  refine fn_ok (fn := Tryz.f151) (k := Tryz.f151.ntmps) (E := E_inSet) (facts_of (List.forall_mem_nil _)) (by kernel_rfl) rfl (by decide +kernel) (by decide +kernel) ?_
  intro avs hin r h
  unfold K_inSet at h
  split at h
  · obtain ⟨hp, rfl⟩ := gd_o h
    exact ⟨_, ev_inSet _ _ hp, rfl⟩
  · cases h

/- (impl.lattice).below -/
def K_latBelow : List AV → List Ob → Option (AV × List Ob)
  | [.lst (.pair (.int .i64) (.int .i64)) l, .int .i64 x, .int .i64 y], [] => gd ((0 ≤ x ∧ x < l.length) ∧ (0 ≤ y ∧ y < l.length)) (.bool (blwB l x.toNat y.toNat), [])
  | _, _ => none
@[reducible] def E_latBelow : Env := mkE (tb [(151, K_inSet)]) (fun f => false) (fun r => ([], []))
theorem ev_latBelow (l : List (Int × Int)) (x y : Int) (hp : (0 ≤ x ∧ x < l.length) ∧ (0 ≤ y ∧ y < l.length)) : evF E_latBelow (1) Tryz.f99 [.lst (.pair (.int .i64) (.int .i64)) l, .int .i64 x, .int .i64 y] [] = some (.bool (blwB l x.toNat y.toNat), []) := by
  conv => lhs; whnf
  refine br_t (by exact dt2 hp.1.1 hp.1.2) ?_
  conv => lhs; whnf
  refine br_t (by exact dt2 hp.2.1 hp.2.2) ?_
  conv => lhs; whnf
  conv => lhs; arg 1; whnf
  refine bnd_g (by exact True.intro) ?_
  conv => lhs; whnf
  repeat ((first | with_reducible apply br_tt | with_reducible apply br_ff | with_reducible apply br_nf | with_reducible apply br_nt | with_reducible refine br_d ?_ (by kernel_rfl)); conv => lhs; whnf)
  rfl
theorem ok_latBelow : FnOk Tryz.prog 99 K_latBelow := by
  refine fn_ok (fn := Tryz.f99) (k := Tryz.f99.ntmps) (E := E_latBelow) (facts_of (List.forall_mem_cons.2 ⟨ok_inSet, List.forall_mem_nil _⟩)) (by kernel_rfl) rfl (by decide +kernel) (by decide +kernel) ?_
  intro avs hin r h
  unfold K_latBelow at h
  split at h
  · obtain ⟨hp, rfl⟩ := gd_o h
    exact ⟨_, ev_latBelow _ _ _ hp, rfl⟩
  · cases h

/- impl.Concepts -/
def K_implConF : List AV → List Ob → Option (AV × List Ob)
  | [.agg [.int .i64 m, .lst (.int .i64) a]], [] => gd (a.length ≤ 1048576) (.lst (.pair (.int .i64) (.int .i64)) (concF m a), [])
  | _, _ => none
theorem ok_implConF : FnOk Tryz.prog 37 K_implConF := by
  refine FnOk.le (FnOk.frz ok_implConcepts) (fun avs hin p h => ?_)
  unfold K_implConF at h
  split at h
  · obtain ⟨hp, rfl⟩ := gd_o h
    refine Eq.trans (frz_s (K := K_implConcepts) (p := ?p) ?hq) ?hr
    case hq => exact gd_s hp
    case hr => rfl
  · cases h

/- impl.distributes -/
def K_distributes : List AV → List Ob → Option (AV × List Ob)
  | [.agg [.int .i64 m, .lst (.int .i64) b], .bool below], [] => gd (b.length ≤ 8) (.bool (lawV m b (!below)), [])
  | _, _ => none
@[reducible] def E_distributes : Env := mkE (tb [(99, K_latBelow), (38, K_implIsContext), (37, K_implConF), (192, K_tablesF)]) (fun f => false) (fun r => bif r == 4 then ([1, 2, 5, 6, 7, 19, 20], [1, 2, 4, 5, 6, 7, 8, 9, 19, 20, 24, 25, 29, 30]) else bif r == 7 then ([1, 2, 5, 6, 7, 8, 19, 20, 24, 25], [1, 2, 4, 5, 6, 7, 8, 9, 19, 20, 24, 25, 29, 30]) else bif r == 10 then ([1, 2, 5, 6, 7, 8, 9, 19, 20, 24, 25, 29, 30], [1, 2, 4, 5, 6, 7, 8, 9, 19, 20, 24, 25, 29, 30]) else ([], []))
theorem bu_distributes {l : List (Int × Int)} (hs : ∀ p ∈ l, isSet 8 p.1 = true) {x a : Nat} (hx : x < l.length) : blwB l x a = underB (l.getD x (0, 0)) (l.getD a (0, 0)) :=
  (beq_bnot (hs _ (mem_getD (d := (0, 0)) hx))).symm
theorem lzt_distributes (m : Int) (b : List Int) (M J : List (List Int)) (l : List (Int × Int)) (hl : l.length ≤ 64) (hs : ∀ p ∈ l, isSet 8 p.1 = true) (hM : TabOk M l.length) (hJ : TabOk J l.length) (x y : Nat) (hx : x < l.length) (hy : y < l.length) (k : AX → S → Option (AV × List Ob)) (r : Option (AV × List Ob)) (hk : ∀ q : Int, k .ret (mkS [1, 2, 4, 5, 6, 7, 8, 9, 19, 20, 24, 25, 29, 30] [.bool true, .ptr 0 0, .bool false, .lst (.pair (.int .i64) (.int .i64)) l, .lst (.lst (.int .i64)) M, .lst (.lst (.int .i64)) J, .int .i64 (x : Int), .int .i64 (y : Int), .int .i64 l.length, .int .i64 (x : Int), .int .i64 l.length, .int .i64 (y : Int), .int .i64 l.length, .int .i64 q] [some (.box 26 [.int .i64 m, .lst (.int .i64) b])]) = r) (d : Nat) : ∀ (n i : Nat) (z : Int), l.length - i = d → i ≤ l.length → z = i → d < n →
    lpAt E_distributes (lp E_distributes 0 n) 0 (loopAt Tryz.f142 2) (mkS [1, 2, 5, 6, 7, 8, 9, 19, 20, 24, 25, 29, 30] [.bool true, .ptr 0 0, .lst (.pair (.int .i64) (.int .i64)) l, .lst (.lst (.int .i64)) M, .lst (.lst (.int .i64)) J, .int .i64 (x : Int), .int .i64 (y : Int), .int .i64 l.length, .int .i64 (x : Int), .int .i64 l.length, .int .i64 (y : Int), .int .i64 l.length, .int .i64 z] [some (.box 26 [.int .i64 m, .lst (.int .i64) b])]) k =
      if anyN (lawZ M J l false x y) i d then r
      else k (.exit 4) (mkS [1, 2, 4, 5, 6, 7, 8, 9, 19, 20, 24, 25, 29, 30] [.bool true, .ptr 0 0, .any, .lst (.pair (.int .i64) (.int .i64)) l, .lst (.lst (.int .i64)) M, .lst (.lst (.int .i64)) J, .int .i64 (x : Int), .int .i64 (y : Int), .int .i64 l.length, .int .i64 (x : Int), .int .i64 l.length, .int .i64 (y : Int), .int .i64 l.length, .int .i64 l.length] [some (.box 26 [.int .i64 m, .lst (.int .i64) b])]) := by
  induction d with
  | zero =>
    intro n i z hd hi hz hn
    subst hz
    rw [lpAt_def]
    conv => lhs; whnf
    refine br_f (df (by omega)) ?_
    conv => lhs; whnf
    have e : i = l.length := by omega
    rw [e]
    rfl
  | succ d ih =>
    intro n i z hd hi hz hn
    obtain ⟨n, rfl⟩ : ∃ m, n = m + 1 := ⟨n - 1, by omega⟩
    subst hz
    have hil : i < l.length := by omega
    obtain ⟨m0, hM⟩ := hM
    obtain ⟨j0, hJ⟩ := hJ
    obtain ⟨mx, hMx⟩ := hM x hx
    obtain ⟨jy, hJy⟩ := hJ y hy
    have mxy := hMx y hy
    have mxz := hMx i hil
    have jyz := hJy i hil
    obtain ⟨jm, _⟩ := hJ ((M.getD x []).getD y 0).toNat (by omega)
    have f1 : (i : Int) < ((J.getD y []).length : Int) := by omega
    have f2 : 0 ≤ (J.getD y []).getD i 0 := jyz.1
    have f2' : (J.getD y []).getD i 0 < ((M.getD x []).length : Int) := by omega
    have f3 : (y : Int) < ((M.getD x []).length : Int) := by omega
    have f4 : 0 ≤ (M.getD x []).getD y 0 := mxy.1
    have f4' : (M.getD x []).getD y 0 < (J.length : Int) := by omega
    have f5 : (i : Int) < ((M.getD x []).length : Int) := by omega
    have f6 : 0 ≤ (M.getD x []).getD i 0 := mxz.1
    have f6' : (M.getD x []).getD i 0 < ((J.getD ((M.getD x []).getD y 0).toNat []).length : Int) := by omega
    rw [lpAt_def]
    conv => lhs; whnf
    refine br_t (dt (by omega)) ?_
    conv => lhs; whnf
    repeat ((first | with_reducible apply br_tt | with_reducible apply br_ff | with_reducible apply br_nf | with_reducible apply br_nt | with_reducible refine br_d ?_ (by kernel_rfl) | with_reducible refine br_t (dt2 (by omega) (by omega)) ?_); conv => lhs; whnf)
    conv => lhs; arg 1; whnf
    refine bnd_g (by omega) ?_
    conv => lhs; whnf
    repeat ((first | with_reducible apply br_tt | with_reducible apply br_ff | with_reducible apply br_nf | with_reducible apply br_nt | with_reducible refine br_d ?_ (by kernel_rfl) | with_reducible refine br_t (dt2 (by omega) (by omega)) ?_); conv => lhs; whnf)
    refine br_c (fun g => ?_) (fun g => ?_)
    · conv => lhs; whnf
      repeat ((first | with_reducible apply br_tt | with_reducible apply br_ff | with_reducible apply br_nf | with_reducible apply br_nt | with_reducible refine br_d ?_ (by kernel_rfl) | with_reducible apply br_t g | with_reducible apply br_f g | with_reducible refine br_t (dt2 (by omega) (by omega)) ?_); conv => lhs; whnf)
      have hu : underB (l.getD i (0, 0)) (l.getD x (0, 0)) = false := (bu_distributes hs (x := i) (a := x) hil).symm.trans (bnt g)
      have e : anyN (lawZ M J l false x y) i (d + 1) = anyN (lawZ M J l false x y) (i + 1) d := by rw [anyN, lawZ, hu, Bool.false_or, Bool.false_and, Bool.false_or]
      rw [e]
      exact ih n (i + 1) _ (by omega) (by omega) (by rw [wrap64 (by omega) (by omega)]; simp) (by omega)
    · conv => lhs; whnf
      · repeat ((first | with_reducible apply br_tt | with_reducible apply br_ff | with_reducible apply br_nf | with_reducible apply br_nt | with_reducible refine br_d ?_ (by kernel_rfl) | with_reducible apply br_t g | with_reducible apply br_f g | with_reducible refine br_t (dt2 (by omega) (by omega)) ?_); conv => lhs; whnf)
        refine br_t (by exact dt2 (Int.natCast_nonneg _) f1) ?_
        conv => lhs; whnf
        repeat ((first | with_reducible apply br_tt | with_reducible apply br_ff | with_reducible apply br_nf | with_reducible apply br_nt | with_reducible refine br_d ?_ (by kernel_rfl) | with_reducible apply br_t g | with_reducible apply br_f g | with_reducible refine br_t (dt2 (by omega) (by omega)) ?_); conv => lhs; whnf)
        refine br_t (by exact dt2 f2 f2') ?_
        conv => lhs; whnf
        repeat ((first | with_reducible apply br_tt | with_reducible apply br_ff | with_reducible apply br_nf | with_reducible apply br_nt | with_reducible refine br_d ?_ (by kernel_rfl) | with_reducible apply br_t g | with_reducible apply br_f g | with_reducible refine br_t (dt2 (by omega) (by omega)) ?_); conv => lhs; whnf)
        refine br_t (by exact dt2 (Int.natCast_nonneg _) f3) ?_
        conv => lhs; whnf
        repeat ((first | with_reducible apply br_tt | with_reducible apply br_ff | with_reducible apply br_nf | with_reducible apply br_nt | with_reducible refine br_d ?_ (by kernel_rfl) | with_reducible apply br_t g | with_reducible apply br_f g | with_reducible refine br_t (dt2 (by omega) (by omega)) ?_); conv => lhs; whnf)
        refine br_t (by exact dt2 f4 f4') ?_
        conv => lhs; whnf
        repeat ((first | with_reducible apply br_tt | with_reducible apply br_ff | with_reducible apply br_nf | with_reducible apply br_nt | with_reducible refine br_d ?_ (by kernel_rfl) | with_reducible apply br_t g | with_reducible apply br_f g | with_reducible refine br_t (dt2 (by omega) (by omega)) ?_); conv => lhs; whnf)
        refine br_t (by exact dt2 (Int.natCast_nonneg _) f5) ?_
        conv => lhs; whnf
        repeat ((first | with_reducible apply br_tt | with_reducible apply br_ff | with_reducible apply br_nf | with_reducible apply br_nt | with_reducible refine br_d ?_ (by kernel_rfl) | with_reducible apply br_t g | with_reducible apply br_f g | with_reducible refine br_t (dt2 (by omega) (by omega)) ?_); conv => lhs; whnf)
        refine br_t (by exact dt2 f6 f6') ?_
        conv => lhs; whnf
        repeat ((first | with_reducible apply br_tt | with_reducible apply br_ff | with_reducible apply br_nf | with_reducible apply br_nt | with_reducible refine br_d ?_ (by kernel_rfl) | with_reducible apply br_t g | with_reducible apply br_f g | with_reducible refine br_t (dt2 (by omega) (by omega)) ?_); conv => lhs; whnf)
        have hu : underB (l.getD i (0, 0)) (l.getD x (0, 0)) = true := (bu_distributes hs (x := i) (a := x) hil).symm.trans (bnf g)
        refine br_c (fun h => ?_) (fun h => ?_)
        · conv => lhs; whnf
          have h' : ((M.getD x []).getD ((J.getD y []).getD i 0).toNat 0 != (J.getD ((M.getD x []).getD y 0).toNat []).getD ((M.getD x []).getD i 0).toNat 0) = true := h
          rw [if_pos (by rw [anyN, lawZ, h', hu]; rfl)]
          exact hk _
        · conv => lhs; whnf
          have h' : ((M.getD x []).getD ((J.getD y []).getD i 0).toNat 0 != (J.getD ((M.getD x []).getD y 0).toNat []).getD ((M.getD x []).getD i 0).toNat 0) = false := h
          have e : anyN (lawZ M J l false x y) i (d + 1) = anyN (lawZ M J l false x y) (i + 1) d := by rw [anyN, lawZ, h', Bool.and_false, Bool.false_or]
          rw [e]
          exact ih n (i + 1) _ (by omega) (by omega) (by rw [wrap64 (by omega) (by omega)]; simp) (by omega)
theorem lzf_distributes (m : Int) (b : List Int) (M J : List (List Int)) (l : List (Int × Int)) (hl : l.length ≤ 64) (hs : ∀ p ∈ l, isSet 8 p.1 = true) (hM : TabOk M l.length) (hJ : TabOk J l.length) (x y : Nat) (hx : x < l.length) (hy : y < l.length) (k : AX → S → Option (AV × List Ob)) (r : Option (AV × List Ob)) (hk : ∀ q : Int, k .ret (mkS [1, 2, 4, 5, 6, 7, 8, 9, 19, 20, 24, 25, 29, 30] [.bool false, .ptr 0 0, .bool false, .lst (.pair (.int .i64) (.int .i64)) l, .lst (.lst (.int .i64)) M, .lst (.lst (.int .i64)) J, .int .i64 (x : Int), .int .i64 (y : Int), .int .i64 l.length, .int .i64 (x : Int), .int .i64 l.length, .int .i64 (y : Int), .int .i64 l.length, .int .i64 q] [some (.box 26 [.int .i64 m, .lst (.int .i64) b])]) = r) (d : Nat) : ∀ (n i : Nat) (z : Int), l.length - i = d → i ≤ l.length → z = i → d < n →
    lpAt E_distributes (lp E_distributes 0 n) 0 (loopAt Tryz.f142 2) (mkS [1, 2, 5, 6, 7, 8, 9, 19, 20, 24, 25, 29, 30] [.bool false, .ptr 0 0, .lst (.pair (.int .i64) (.int .i64)) l, .lst (.lst (.int .i64)) M, .lst (.lst (.int .i64)) J, .int .i64 (x : Int), .int .i64 (y : Int), .int .i64 l.length, .int .i64 (x : Int), .int .i64 l.length, .int .i64 (y : Int), .int .i64 l.length, .int .i64 z] [some (.box 26 [.int .i64 m, .lst (.int .i64) b])]) k =
      if anyN (lawZ M J l true x y) i d then r
      else k (.exit 4) (mkS [1, 2, 4, 5, 6, 7, 8, 9, 19, 20, 24, 25, 29, 30] [.bool false, .ptr 0 0, .any, .lst (.pair (.int .i64) (.int .i64)) l, .lst (.lst (.int .i64)) M, .lst (.lst (.int .i64)) J, .int .i64 (x : Int), .int .i64 (y : Int), .int .i64 l.length, .int .i64 (x : Int), .int .i64 l.length, .int .i64 (y : Int), .int .i64 l.length, .int .i64 l.length] [some (.box 26 [.int .i64 m, .lst (.int .i64) b])]) := by
  induction d with
  | zero =>
    intro n i z hd hi hz hn
    subst hz
    rw [lpAt_def]
    conv => lhs; whnf
    refine br_f (df (by omega)) ?_
    conv => lhs; whnf
    have e : i = l.length := by omega
    rw [e]
    rfl
  | succ d ih =>
    intro n i z hd hi hz hn
    obtain ⟨n, rfl⟩ : ∃ m, n = m + 1 := ⟨n - 1, by omega⟩
    subst hz
    have hil : i < l.length := by omega
    obtain ⟨m0, hM⟩ := hM
    obtain ⟨j0, hJ⟩ := hJ
    obtain ⟨mx, hMx⟩ := hM x hx
    obtain ⟨jy, hJy⟩ := hJ y hy
    have mxy := hMx y hy
    have mxz := hMx i hil
    have jyz := hJy i hil
    obtain ⟨jm, _⟩ := hJ ((M.getD x []).getD y 0).toNat (by omega)
    have f1 : (i : Int) < ((J.getD y []).length : Int) := by omega
    have f2 : 0 ≤ (J.getD y []).getD i 0 := jyz.1
    have f2' : (J.getD y []).getD i 0 < ((M.getD x []).length : Int) := by omega
    have f3 : (y : Int) < ((M.getD x []).length : Int) := by omega
    have f4 : 0 ≤ (M.getD x []).getD y 0 := mxy.1
    have f4' : (M.getD x []).getD y 0 < (J.length : Int) := by omega
    have f5 : (i : Int) < ((M.getD x []).length : Int) := by omega
    have f6 : 0 ≤ (M.getD x []).getD i 0 := mxz.1
    have f6' : (M.getD x []).getD i 0 < ((J.getD ((M.getD x []).getD y 0).toNat []).length : Int) := by omega
    rw [lpAt_def]
    conv => lhs; whnf
    refine br_t (dt (by omega)) ?_
    conv => lhs; whnf
    · have g : True := True.intro
      · repeat ((first | with_reducible apply br_tt | with_reducible apply br_ff | with_reducible apply br_nf | with_reducible apply br_nt | with_reducible refine br_d ?_ (by kernel_rfl) | with_reducible refine br_t (dt2 (by omega) (by omega)) ?_); conv => lhs; whnf)
        refine br_t (by exact dt2 (Int.natCast_nonneg _) f1) ?_
        conv => lhs; whnf
        repeat ((first | with_reducible apply br_tt | with_reducible apply br_ff | with_reducible apply br_nf | with_reducible apply br_nt | with_reducible refine br_d ?_ (by kernel_rfl) | with_reducible refine br_t (dt2 (by omega) (by omega)) ?_); conv => lhs; whnf)
        refine br_t (by exact dt2 f2 f2') ?_
        conv => lhs; whnf
        repeat ((first | with_reducible apply br_tt | with_reducible apply br_ff | with_reducible apply br_nf | with_reducible apply br_nt | with_reducible refine br_d ?_ (by kernel_rfl) | with_reducible refine br_t (dt2 (by omega) (by omega)) ?_); conv => lhs; whnf)
        refine br_t (by exact dt2 (Int.natCast_nonneg _) f3) ?_
        conv => lhs; whnf
        repeat ((first | with_reducible apply br_tt | with_reducible apply br_ff | with_reducible apply br_nf | with_reducible apply br_nt | with_reducible refine br_d ?_ (by kernel_rfl) | with_reducible refine br_t (dt2 (by omega) (by omega)) ?_); conv => lhs; whnf)
        refine br_t (by exact dt2 f4 f4') ?_
        conv => lhs; whnf
        repeat ((first | with_reducible apply br_tt | with_reducible apply br_ff | with_reducible apply br_nf | with_reducible apply br_nt | with_reducible refine br_d ?_ (by kernel_rfl) | with_reducible refine br_t (dt2 (by omega) (by omega)) ?_); conv => lhs; whnf)
        refine br_t (by exact dt2 (Int.natCast_nonneg _) f5) ?_
        conv => lhs; whnf
        repeat ((first | with_reducible apply br_tt | with_reducible apply br_ff | with_reducible apply br_nf | with_reducible apply br_nt | with_reducible refine br_d ?_ (by kernel_rfl) | with_reducible refine br_t (dt2 (by omega) (by omega)) ?_); conv => lhs; whnf)
        refine br_t (by exact dt2 f6 f6') ?_
        conv => lhs; whnf
        repeat ((first | with_reducible apply br_tt | with_reducible apply br_ff | with_reducible apply br_nf | with_reducible apply br_nt | with_reducible refine br_d ?_ (by kernel_rfl) | with_reducible refine br_t (dt2 (by omega) (by omega)) ?_); conv => lhs; whnf)
        refine br_c (fun h => ?_) (fun h => ?_)
        · conv => lhs; whnf
          have h' : ((M.getD x []).getD ((J.getD y []).getD i 0).toNat 0 != (J.getD ((M.getD x []).getD y 0).toNat []).getD ((M.getD x []).getD i 0).toNat 0) = true := h
          rw [if_pos (by rw [anyN, lawZ, h']; rfl)]
          exact hk _
        · conv => lhs; whnf
          have h' : ((M.getD x []).getD ((J.getD y []).getD i 0).toNat 0 != (J.getD ((M.getD x []).getD y 0).toNat []).getD ((M.getD x []).getD i 0).toNat 0) = false := h
          have e : anyN (lawZ M J l true x y) i (d + 1) = anyN (lawZ M J l true x y) (i + 1) d := by rw [anyN, lawZ, h', Bool.and_false, Bool.false_or]
          rw [e]
          exact ih n (i + 1) _ (by omega) (by omega) (by rw [wrap64 (by omega) (by omega)]; simp) (by omega)
theorem lz_distributes (m : Int) (b : List Int) (M J : List (List Int)) (l : List (Int × Int)) (hl : l.length ≤ 64) (hs : ∀ p ∈ l, isSet 8 p.1 = true) (hM : TabOk M l.length) (hJ : TabOk J l.length) (below : Bool) (x y : Nat) (hx : x < l.length) (hy : y < l.length) (k : AX → S → Option (AV × List Ob)) (r : Option (AV × List Ob)) (hk : ∀ q : Int, k .ret (mkS [1, 2, 4, 5, 6, 7, 8, 9, 19, 20, 24, 25, 29, 30] [.bool below, .ptr 0 0, .bool false, .lst (.pair (.int .i64) (.int .i64)) l, .lst (.lst (.int .i64)) M, .lst (.lst (.int .i64)) J, .int .i64 (x : Int), .int .i64 (y : Int), .int .i64 l.length, .int .i64 (x : Int), .int .i64 l.length, .int .i64 (y : Int), .int .i64 l.length, .int .i64 q] [some (.box 26 [.int .i64 m, .lst (.int .i64) b])]) = r) (d : Nat) : ∀ (n i : Nat) (z : Int), l.length - i = d → i ≤ l.length → z = i → d < n →
    lpAt E_distributes (lp E_distributes 0 n) 0 (loopAt Tryz.f142 2) (mkS [1, 2, 5, 6, 7, 8, 9, 19, 20, 24, 25, 29, 30] [.bool below, .ptr 0 0, .lst (.pair (.int .i64) (.int .i64)) l, .lst (.lst (.int .i64)) M, .lst (.lst (.int .i64)) J, .int .i64 (x : Int), .int .i64 (y : Int), .int .i64 l.length, .int .i64 (x : Int), .int .i64 l.length, .int .i64 (y : Int), .int .i64 l.length, .int .i64 z] [some (.box 26 [.int .i64 m, .lst (.int .i64) b])]) k =
      if anyN (lawZ M J l (!below) x y) i d then r
      else k (.exit 4) (mkS [1, 2, 4, 5, 6, 7, 8, 9, 19, 20, 24, 25, 29, 30] [.bool below, .ptr 0 0, .any, .lst (.pair (.int .i64) (.int .i64)) l, .lst (.lst (.int .i64)) M, .lst (.lst (.int .i64)) J, .int .i64 (x : Int), .int .i64 (y : Int), .int .i64 l.length, .int .i64 (x : Int), .int .i64 l.length, .int .i64 (y : Int), .int .i64 l.length, .int .i64 l.length] [some (.box 26 [.int .i64 m, .lst (.int .i64) b])]) := by
  cases below with
  | true => exact lzt_distributes m b M J l hl hs hM hJ x y hx hy k r hk d
  | false => exact lzf_distributes m b M J l hl hs hM hJ x y hx hy k r hk d
theorem ly_distributes (m : Int) (b : List Int) (M J : List (List Int)) (l : List (Int × Int)) (hl : l.length ≤ 64) (hs : ∀ p ∈ l, isSet 8 p.1 = true) (hM : TabOk M l.length) (hJ : TabOk J l.length) (below : Bool) (x : Nat) (hx : x < l.length) (k : AX → S → Option (AV × List Ob)) (r : Option (AV × List Ob)) (hk : ∀ q p p' s t : Int, k .ret (mkS [1, 2, 4, 5, 6, 7, 8, 9, 19, 20, 24, 25, 29, 30] [.bool below, .ptr 0 0, .bool false, .lst (.pair (.int .i64) (.int .i64)) l, .lst (.lst (.int .i64)) M, .lst (.lst (.int .i64)) J, .int .i64 (x : Int), .int .i64 q, .int .i64 l.length, .int .i64 (x : Int), .int .i64 l.length, .int .i64 p, .int .i64 l.length, .int .i64 s] [some (.box 26 [.int .i64 m, .lst (.int .i64) b])]) = r) (d : Nat) : ∀ (n i : Nat) (z : Int), l.length - i = d → i ≤ l.length → z = i → d + 100 < n →
    lpAt E_distributes (lp E_distributes 0 n) 0 (loopAt Tryz.f142 1) (mkS [1, 2, 5, 6, 7, 8, 19, 20, 24, 25] [.bool below, .ptr 0 0, .lst (.pair (.int .i64) (.int .i64)) l, .lst (.lst (.int .i64)) M, .lst (.lst (.int .i64)) J, .int .i64 (x : Int), .int .i64 l.length, .int .i64 (x : Int), .int .i64 l.length, .int .i64 z] [some (.box 26 [.int .i64 m, .lst (.int .i64) b])]) k =
      if anyN (fun y => anyN (lawZ M J l (!below) x y) 0 l.length) i d then r
      else k (.exit 2) (mkS [1, 2, 4, 5, 6, 7, 8, 9, 19, 20, 24, 25, 29, 30] [.bool below, .ptr 0 0, .any, .lst (.pair (.int .i64) (.int .i64)) l, .lst (.lst (.int .i64)) M, .lst (.lst (.int .i64)) J, .int .i64 (x : Int), .any, .int .i64 l.length, .int .i64 (x : Int), .int .i64 l.length, .int .i64 l.length, .any, .any] [some (.box 26 [.int .i64 m, .lst (.int .i64) b])]) := by
  induction d with
  | zero =>
    intro n i z hd hi hz hn
    subst hz
    rw [lpAt_def]
    conv => lhs; whnf
    refine br_f (df (by omega)) ?_
    conv => lhs; whnf
    have e : i = l.length := by omega
    rw [e]
    rfl
  | succ d ih =>
    intro n i z hd hi hz hn
    obtain ⟨n, rfl⟩ : ∃ m, n = m + 1 := ⟨n - 1, by omega⟩
    subst hz
    rw [lpAt_def]
    conv => lhs; whnf
    refine br_t (dt (by omega)) ?_
    conv => lhs; whnf
    refine (lz_distributes m b M J l hl hs hM hJ below x i hx (by omega) _ r ?_ l.length _ 0 0 rfl (by omega) rfl (by omega)).trans ?_
    · intro q
      conv => lhs; whnf
      exact hk (i : Int) (i : Int) 0 q 0
    refine Or.elim (Classical.em (anyN (lawZ M J l (!below) x i) 0 l.length = true)) (fun h => ?_) (fun h => ?_)
    · have e : anyN (fun y => anyN (lawZ M J l (!below) x y) 0 l.length) i (d + 1) = true := by rw [anyN, h, Bool.true_or]
      rw [if_pos h, if_pos e]
    · have h' : anyN (lawZ M J l (!below) x i) 0 l.length = false := by simpa using h
      have e : anyN (fun y => anyN (lawZ M J l (!below) x y) 0 l.length) i (d + 1) = anyN (fun y => anyN (lawZ M J l (!below) x y) 0 l.length) (i + 1) d := by rw [anyN, h', Bool.false_or]
      rw [if_neg h, e]
      conv => lhs; whnf
      exact ih n (i + 1) _ (by omega) (by omega) (by rw [wrap64 (by omega) (by omega)]; simp) (by omega)
theorem lx_distributes (m : Int) (b : List Int) (M J : List (List Int)) (l : List (Int × Int)) (hl : l.length ≤ 64) (hs : ∀ p ∈ l, isSet 8 p.1 = true) (hM : TabOk M l.length) (hJ : TabOk J l.length) (below : Bool) (k : AX → S → Option (AV × List Ob)) (r : Option (AV × List Ob)) (hk : ∀ q p s t u : Int, k .ret (mkS [1, 2, 4, 5, 6, 7, 8, 9, 19, 20, 24, 25, 29, 30] [.bool below, .ptr 0 0, .bool false, .lst (.pair (.int .i64) (.int .i64)) l, .lst (.lst (.int .i64)) M, .lst (.lst (.int .i64)) J, .int .i64 q, .int .i64 p, .int .i64 l.length, .int .i64 s, .int .i64 l.length, .int .i64 t, .int .i64 l.length, .int .i64 u] [some (.box 26 [.int .i64 m, .lst (.int .i64) b])]) = r) (d : Nat) : ∀ (n i : Nat) (z : Int), l.length - i = d → i ≤ l.length → z = i → d + 200 < n →
    lpAt E_distributes (lp E_distributes 0 n) 0 (loopAt Tryz.f142 0) (mkS [1, 2, 5, 6, 7, 19, 20] [.bool below, .ptr 0 0, .lst (.pair (.int .i64) (.int .i64)) l, .lst (.lst (.int .i64)) M, .lst (.lst (.int .i64)) J, .int .i64 l.length, .int .i64 z] [some (.box 26 [.int .i64 m, .lst (.int .i64) b])]) k =
      if anyN (fun x => anyN (fun y => anyN (lawZ M J l (!below) x y) 0 l.length) 0 l.length) i d then r
      else k (.exit 0) (mkS [1, 2, 4, 5, 6, 7, 8, 9, 19, 20, 24, 25, 29, 30] [.bool below, .ptr 0 0, .any, .lst (.pair (.int .i64) (.int .i64)) l, .lst (.lst (.int .i64)) M, .lst (.lst (.int .i64)) J, .any, .any, .int .i64 l.length, .int .i64 l.length, .any, .any, .any, .any] [some (.box 26 [.int .i64 m, .lst (.int .i64) b])]) := by
  induction d with
  | zero =>
    intro n i z hd hi hz hn
    subst hz
    rw [lpAt_def]
    conv => lhs; whnf
    refine br_f (df (by omega)) ?_
    conv => lhs; whnf
    have e : i = l.length := by omega
    rw [e]
    rfl
  | succ d ih =>
    intro n i z hd hi hz hn
    obtain ⟨n, rfl⟩ : ∃ m, n = m + 1 := ⟨n - 1, by omega⟩
    subst hz
    rw [lpAt_def]
    conv => lhs; whnf
    refine br_t (dt (by omega)) ?_
    conv => lhs; whnf
    refine (ly_distributes m b M J l hl hs hM hJ below i (by omega) _ r ?_ l.length _ 0 0 rfl (by omega) rfl (by omega)).trans ?_
    · intro q p p' s t
      conv => lhs; whnf
      exact hk (i : Int) q (i : Int) p s
    refine Or.elim (Classical.em (anyN (fun y => anyN (lawZ M J l (!below) i y) 0 l.length) 0 l.length = true)) (fun h => ?_) (fun h => ?_)
    · have e : anyN (fun x => anyN (fun y => anyN (lawZ M J l (!below) x y) 0 l.length) 0 l.length) i (d + 1) = true := by rw [anyN, h, Bool.true_or]
      rw [if_pos h, if_pos e]
    · have h' : anyN (fun y => anyN (lawZ M J l (!below) i y) 0 l.length) 0 l.length = false := by simpa using h
      have e : anyN (fun x => anyN (fun y => anyN (lawZ M J l (!below) x y) 0 l.length) 0 l.length) i (d + 1) = anyN (fun x => anyN (fun y => anyN (lawZ M J l (!below) x y) 0 l.length) 0 l.length) (i + 1) d := by rw [anyN, h', Bool.false_or]
      rw [if_neg h, e]
      conv => lhs; whnf
      exact ih n (i + 1) _ (by omega) (by omega) (by rw [wrap64 (by omega) (by omega)]; simp) (by omega)
theorem ev_distributes (m : Int) (b : List Int) (below : Bool) (hp : b.length ≤ 8) : evF E_distributes ((concF m b).length + 400) Tryz.f142 [.agg [.int .i64 m, .lst (.int .i64) b], .bool below] [] = some (.bool (lawV m b (!below)), []) := by
  have hl := concF_len m b
  have hs : ∀ p ∈ concF m b, isSet 8 p.1 = true := fun p h => isSet_8 (concF_mem h).2.2.1
  have hM : TabOk (tabF m b true) (concF m b).length := tab_ok m b true
  have hJ : TabOk (tabF m b false) (concF m b).length := tab_ok m b false
  have eM : (concF m b).map (fun p => (concF m b).map (mtC (concF m b) p)) = tabF m b true := tab_mt m b
  have eJ : (concF m b).map (fun p => (concF m b).map (jnC (concF m b) p)) = tabF m b false := rfl
  conv => lhs; whnf
  conv => lhs; arg 1; whnf
  refine bnd_g (by omega) ?_
  conv => lhs; whnf
  conv => lhs; arg 1; whnf
  refine bnd_g (by exact hl) ?_
  conv => lhs; whnf
  rw [eM, eJ]
  refine (lx_distributes m b (tabF m b true) (tabF m b false) (concF m b) hl hs hM hJ below _ (some (.bool false, [])) ?_ (concF m b).length _ 0 0 rfl (by omega) rfl (by omega)).trans ?_
  · intro q p s t u
    conv => lhs; whnf
  unfold lawV
  refine Or.elim (Classical.em (lawX (tabF m b true) (tabF m b false) (concF m b) (!below) = true)) (fun h => ?_) (fun h => ?_)
  · rw [h]
    exact if_pos h
  · have h' : lawX (tabF m b true) (tabF m b false) (concF m b) (!below) = false := by simpa using h
    rw [h']
    refine (if_neg h).trans ?_
    conv => lhs; whnf
    conv => lhs; arg 1; whnf
    refine bnd_g (by omega) ?_
    conv => lhs; whnf
    rfl
theorem ok_distributes : FnOk Tryz.prog 142 K_distributes := by
  refine fn_ok (fn := Tryz.f142) (k := Tryz.f142.ntmps) (E := E_distributes) (facts_of (List.forall_mem_cons.2 ⟨ok_latBelow, List.forall_mem_cons.2 ⟨ok_implIsContext, List.forall_mem_cons.2 ⟨ok_implConF, List.forall_mem_cons.2 ⟨ok_tablesF, List.forall_mem_nil _⟩⟩⟩⟩)) (by kernel_rfl) rfl (by decide +kernel) (by decide +kernel) ?_
  intro avs hin r h
  unfold K_distributes at h
  split at h
  · obtain ⟨hp, rfl⟩ := gd_o h
    exact ⟨_, ev_distributes _ _ _ hp, rfl⟩
  · cases h

end Go.Sym
