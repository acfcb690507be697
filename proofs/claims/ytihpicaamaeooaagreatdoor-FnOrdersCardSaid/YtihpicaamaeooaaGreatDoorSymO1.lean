/- Functions of the program, each told as a plain equation. -/
import Derived.Test.YtihpicaamaeooaaGreatDoorSymCptE
namespace Go.Sym
open Go.Proofs
set_option linter.unusedVariables false
set_option linter.unusedSimpArgs false
set_option maxRecDepth 100000
set_option maxHeartbeats 4000000

def tabV (m : Int) (b : List Int) (meet : Bool) (p q : Int × Int) : Int := bif meet then intentF m b (band p.1 q.1) else band p.2 q.2
def tabC (m : Int) (b : List Int) (l : List (Int × Int)) (meet : Bool) (p q : Int × Int) : Int := firstI (fun z => z.2 == tabV m b meet p q) l 0
def tabR (m : Int) (b : List Int) (l : List (Int × Int)) (meet : Bool) (p : Int × Int) : List Int := l.map (tabC m b l meet p)
/- spec.l6At -/
def K_l6At : List AV → List Ob → Option (AV × List Ob)
  | [.lst (.pair (.int .i64) (.int .i64)) l, .int .i64 v], [] => gd (l.length ≤ 64) (.int .i64 (firstI (fun p => p.2 == v) l 0), [])
  | _, _ => none
@[reducible] def E_l6At : Env := mkE (tb []) (fun f => false) (fun r => bif r == 2 then ([0, 1, 5], [4]) else ([], []))
theorem lp_l6At (l : List (Int × Int)) (v : Int) (ha : l.length ≤ 64) (k : AX → S → Option (AV × List Ob)) (d : Nat) : ∀ (n i : Nat) (x : Int), l.length - i = d → i ≤ l.length → x = i → d < n →
    lpAt E_l6At (lp E_l6At 0 n) 0 (loopAt Tryz.f60 0) (mkS [0, 1, 5] [.lst (.pair (.int .i64) (.int .i64)) l, .int .i64 v, .int .i64 x] []) k =
      if (l.drop i).any (fun p => p.2 == v) then k .ret (mkS [4] [.int .i64 (firstI (fun p => p.2 == v) (l.drop i) i)] []) else k (.exit 0) (mkS [4] [.any] []) := by
  induction d with
  | zero =>
    intro n i x hd hi hx hn
    subst hx
    rw [lpAt_def]
    conv => lhs; whnf
    refine br_f (df (by omega)) ?_
    conv => lhs; whnf
    rw [List.drop_of_length_le (by omega)]
    simp
  | succ d ih =>
    intro n i x hd hi hx hn
    obtain ⟨n, rfl⟩ : ∃ m, n = m + 1 := ⟨n - 1, by omega⟩
    subst hx
    rw [lpAt_def]
    conv => lhs; whnf
    refine br_t (dt (by omega)) ?_
    conv => lhs; whnf
    refine br_t (dt2 (by omega) (by omega)) ?_
    conv => lhs; whnf
    rw [getD_drop (l := l) (i := i) (d := (0, 0)) (by omega)]
    refine br_c (fun h => ?_) (fun h => ?_)
    · have h' : ((l.getD i (0, 0)).2 == v) = true := h
      conv => lhs; whnf
      rw [if_pos (by simp only [List.any_cons, h', Bool.true_or]), firstI, h', cond_true]
    · have h' : ((l.getD i (0, 0)).2 == v) = false := h
      conv => lhs; whnf
      rw [ih n (i + 1) _ (by omega) (by omega) (by rw [wrap64 (by omega) (by omega)]; simp) (by omega)]
      simp only [List.any_cons, h', Bool.false_or]
      rw [firstI, h', cond_false]
      rfl
theorem ev_l6At (l : List (Int × Int)) (v : Int) (hp : l.length ≤ 64) : evF E_l6At (l.length + 2) Tryz.f60 [.lst (.pair (.int .i64) (.int .i64)) l, .int .i64 v] [] = some (.int .i64 (firstI (fun p => p.2 == v) l 0), []) := by
  conv => lhs; whnf
  refine (lp_l6At l v hp _ l.length _ 0 0 rfl (by omega) rfl (by omega)).trans ?_
  simp only [List.drop_zero]
  split
  · conv => lhs; whnf
    rfl
  · rename_i he
    conv => lhs; whnf
    have : firstI (fun p => p.2 == v) l 0 = -1 := firstI_none _ l 0 (by rw [Bool.not_eq_true] at he; exact he)
    rw [this]
theorem ok_l6At : FnOk Tryz.prog 60 K_l6At := by
  refine fn_ok (fn := Tryz.f60) (k := Tryz.f60.ntmps) (E := E_l6At) (facts_of (List.forall_mem_nil _)) (by kernel_rfl) rfl (by decide +kernel) (by decide +kernel) ?_
  intro avs hin r h
  unfold K_l6At at h
  split at h
  · obtain ⟨hp, rfl⟩ := gd_o h
    exact ⟨_, ev_l6At _ _ hp, rfl⟩
  · cases h

/- spec.l21Table -/
def K_specTable : List AV → List Ob → Option (AV × List Ob)
  | [.agg [.int .i64 m, .lst (.int .i64) b], .lst (.pair (.int .i64) (.int .i64)) l, .bool meet], [] => gd (b.length ≤ 8 ∧ l.length ≤ 64 ∧ ∀ p ∈ l, ∀ q ∈ l, isSet 8 (band p.1 q.1) = true) (.own 0, [.nest 24 3 (.int .i64) (l.map (tabR m b l meet)) none])
  | _, _ => none
@[reducible] def E_specTable : Env := mkE (tb [(105, K_specIntent), (60, K_l6At)]) (fun f => false) (fun r => bif r == 3 then ([1, 2, 3, 7, 8], [1, 2, 3, 7, 8, 9]) else bif r == 7 then ([1, 2, 3, 7, 8, 9, 10], [1, 2, 3, 7, 8, 9]) else ([], []))
theorem lpi_specTable (m : Int) (b : List Int) (hb : b.length ≤ 8) (l : List (Int × Int)) (hl : l.length ≤ 64) (meet : Bool) (p : Int × Int) (a : Nat) (ha : a < l.length) (hp : l.getD a (0, 0) = p) (hs : ∀ p ∈ l, ∀ q ∈ l, isSet 8 (band p.1 q.1) = true) (yss : List (List Int)) (k : AX → S → Option (AV × List Ob)) (d : Nat) : ∀ (n i : Nat) (x : Int) (ys : List Int), l.length - i = d → i ≤ l.length → x = i → d < n → ys.length ≤ i →
    lpAt E_specTable (lp E_specTable 0 n) 0 (loopAt Tryz.f107 1) (mkS [1, 2, 3, 7, 8, 9, 10] [.lst (.pair (.int .i64) (.int .i64)) l, .bool meet, .ptr 0 0, .own 1, .int .i64 (a : Int), .own 2, .int .i64 x] [some (.box 29 [.int .i64 m, .lst (.int .i64) b]), some (.nest 24 3 (.int .i64) yss none), some (.row 3 (.int .i64) ys)]) k =
      k (.exit 2) (mkS [1, 2, 3, 7, 8, 9] [.lst (.pair (.int .i64) (.int .i64)) l, .bool meet, .ptr 0 0, .own 1, .int .i64 (a : Int), .own 2] [some (.box 29 [.int .i64 m, .lst (.int .i64) b]), some (.nest 24 3 (.int .i64) yss none), some (.row 3 (.int .i64) (ys ++ (l.drop i).map (tabC m b l meet p)))]) := by
  induction d with
  | zero =>
    intro n i x ys hd hi hx hn hz
    subst hx
    rw [lpAt_def]
    conv => lhs; whnf
    refine br_f (df (by omega)) ?_
    conv => lhs; whnf
    rw [List.drop_of_length_le (by omega)]
    simp
  | succ d ih =>
    intro n i x ys hd hi hx hn hz
    obtain ⟨n, rfl⟩ : ∃ m, n = m + 1 := ⟨n - 1, by omega⟩
    subst hx
    rw [lpAt_def]
    conv => lhs; whnf
    refine br_t (dt (by omega)) ?_
    conv => lhs; whnf
    refine br_t (dt2 (by omega) (by omega)) ?_
    conv => lhs; whnf
    refine br_t (dt2 (by omega) (by omega)) ?_
    conv => lhs; whnf
    refine br_t (by kernel_rfl) ?_
    conv => lhs; whnf
    refine br_c (fun h => ?_) (fun h => ?_)
    · conv => lhs; whnf
      refine br_t (dt2 (by omega) (by omega)) ?_
      conv => lhs; whnf
      refine br_t (dt2 (by omega) (by omega)) ?_
      conv => lhs; whnf
      conv => lhs; arg 1; whnf
      refine bnd_g (by exact ⟨hb, hs _ (mem_getD (d := (0, 0)) (show a < l.length by omega)) _ (mem_getD (d := (0, 0)) (show i < l.length by omega))⟩) ?_
      conv => lhs; whnf
      refine br_t (by kernel_rfl) ?_
      conv => lhs; whnf
      conv => lhs; arg 1; whnf
      refine bnd_g (by omega) ?_
      conv => lhs; whnf
      refine br_t (dt (by simp [room]; omega)) ?_
      conv => lhs; whnf
      rw [ih n (i + 1) _ _ (by omega) (by omega) (by rw [wrap64 (n := (i : Int) + 1) (by omega) (by omega)]; simp) (by omega) (by simp; omega)]
      rw [getD_drop (l := l) (i := i) (d := (0, 0)) (by omega), List.map_cons]
      have e : tabC m b l meet p (l.getD i (0, 0)) = firstI (fun z => z.2 == intentF m b (band (l.getD a (0, 0)).1 (l.getD i (0, 0)).1)) l 0 := by
        have h' : meet = true := h
        rw [hp]; unfold tabC tabV; rw [h']; rfl
      rw [e, List.append_assoc]
      rfl
    · conv => lhs; whnf
      conv => lhs; arg 1; whnf
      refine bnd_g (by omega) ?_
      conv => lhs; whnf
      refine br_t (dt (by simp [room]; omega)) ?_
      conv => lhs; whnf
      rw [ih n (i + 1) _ _ (by omega) (by omega) (by rw [wrap64 (n := (i : Int) + 1) (by omega) (by omega)]; simp) (by omega) (by simp; omega)]
      rw [getD_drop (l := l) (i := i) (d := (0, 0)) (by omega), List.map_cons]
      have e : tabC m b l meet p (l.getD i (0, 0)) = firstI (fun z => z.2 == band (l.getD a (0, 0)).2 (l.getD i (0, 0)).2) l 0 := by
        have h' : meet = false := h
        rw [hp]; unfold tabC tabV; rw [h']; rfl
      rw [e, List.append_assoc]
      rfl
theorem lp_specTable (m : Int) (b : List Int) (hb : b.length ≤ 8) (l : List (Int × Int)) (hl : l.length ≤ 64) (meet : Bool) (hs : ∀ p ∈ l, ∀ q ∈ l, isSet 8 (band p.1 q.1) = true) (k : AX → S → Option (AV × List Ob)) (d : Nat) : ∀ (n i : Nat) (x : Int) (yss : List (List Int)), l.length - i = d → i ≤ l.length → x = i → d + 70 < n → yss.length ≤ i →
    lpAt E_specTable (lp E_specTable 0 n) 0 (loopAt Tryz.f107 0) (mkS [1, 2, 3, 7, 8] [.lst (.pair (.int .i64) (.int .i64)) l, .bool meet, .ptr 0 0, .own 1, .int .i64 x] [some (.box 29 [.int .i64 m, .lst (.int .i64) b]), some (.nest 24 3 (.int .i64) yss none)]) k =
      k (.exit 0) (mkS [1, 2, 3, 7, 8, 9] [.lst (.pair (.int .i64) (.int .i64)) l, .bool meet, .ptr 0 0, .own 1, .int .i64 l.length, .any] [some (.box 29 [.int .i64 m, .lst (.int .i64) b]), some (.nest 24 3 (.int .i64) (yss ++ (l.drop i).map (tabR m b l meet)) none)]) := by
  induction d with
  | zero =>
    intro n i x yss hd hi hx hn hz
    subst hx
    rw [lpAt_def]
    conv => lhs; whnf
    refine br_f (df (by omega)) ?_
    conv => lhs; whnf
    have e : i = l.length := by omega
    rw [List.drop_of_length_le (by omega), e]
    simp
  | succ d ih =>
    intro n i x yss hd hi hx hn hz
    obtain ⟨n, rfl⟩ : ∃ m, n = m + 1 := ⟨n - 1, by omega⟩
    subst hx
    rw [lpAt_def]
    conv => lhs; whnf
    refine br_t (dt (by omega)) ?_
    conv => lhs; whnf
    refine (lpi_specTable m b hb l hl meet _ i (by omega) rfl hs yss _ _ _ 0 0 [] rfl (by omega) rfl (by omega) (by simp)).trans ?_
    conv => lhs; whnf
    refine br_t (dt (by simp [room]; omega)) ?_
    conv => lhs; whnf
    rw [ih n (i + 1) _ _ (by omega) (by omega) (by rw [wrap64 (n := (i : Int) + 1) (by omega) (by omega)]; simp) (by omega) (by simp; omega)]
    rw [getD_drop (l := l) (i := i) (d := (0, 0)) (by omega), List.map_cons]
    rw [List.append_assoc]
    rfl
theorem ev_specTable (m : Int) (b : List Int) (l : List (Int × Int)) (meet : Bool) (hp : b.length ≤ 8 ∧ l.length ≤ 64 ∧ ∀ p ∈ l, ∀ q ∈ l, isSet 8 (band p.1 q.1) = true) : evF E_specTable (l.length + 100) Tryz.f107 [.agg [.int .i64 m, .lst (.int .i64) b], .lst (.pair (.int .i64) (.int .i64)) l, .bool meet] [] = some (.own 0, [.nest 24 3 (.int .i64) (l.map (tabR m b l meet)) none]) := by
  conv => lhs; whnf
  refine (lp_specTable m b hp.1 l hp.2.1 meet hp.2.2 _ l.length _ 0 0 [] rfl (by omega) rfl (by omega) (by simp)).trans ?_
  conv => lhs; whnf
  rfl
theorem ok_specTable : FnOk Tryz.prog 107 K_specTable := by
  refine fn_ok (fn := Tryz.f107) (k := Tryz.f107.ntmps) (E := E_specTable) (facts_of (List.forall_mem_cons.2 ⟨ok_specIntent, List.forall_mem_cons.2 ⟨ok_l6At, List.forall_mem_nil _⟩⟩)) (by kernel_rfl) rfl (by decide +kernel) (by decide +kernel) ?_
  intro avs hin r h
  unfold K_specTable at h
  split at h
  · obtain ⟨hp, rfl⟩ := gd_o h
    exact ⟨_, ev_specTable _ _ _ _ hp, rfl⟩
  · cases h

def sumB (f : Nat → Bool) : Nat → Nat → Int → Int
  | 0, _, q => q
  | d + 1, i, q => sumB f d (i + 1) (q + bif f i then 1 else 0)
theorem sumB_le (f : Nat → Bool) : ∀ (d i : Nat) (q : Int), q ≤ sumB f d i q ∧ sumB f d i q ≤ q + d
  | 0, i, q => by simp [sumB]
  | d + 1, i, q => by
    have h := sumB_le f d (i + 1) (q + bif f i then 1 else 0)
    rw [sumB]
    cases hf : f i <;> rw [hf] at h <;> simp only [cond_true, cond_false] at h ⊢ <;> omega
theorem sumB_none (f : Nat → Bool) : ∀ (d i : Nat) (q : Int), (∀ j, i ≤ j → f j = false) → sumB f d i q = q
  | 0, i, q, _ => rfl
  | d + 1, i, q, h => by
    rw [sumB, h i (Nat.le_refl _), cond_false, Int.add_zero]
    exact sumB_none f d (i + 1) q fun j hj => h j (by omega)
theorem sumB_cut (f g : Nat → Bool) (n : Nat) : ∀ (d c i : Nat) (q : Int), i + d = n → (∀ j, j < n → f j = g j) → (∀ j, n ≤ j → g j = false) → sumB g (d + c) i q = sumB f d i q
  | 0, c, i, q, h1, h2, h3 => by
    rw [Nat.zero_add]
    exact sumB_none g c i q fun j hj => h3 j (by omega)
  | d + 1, c, i, q, h1, h2, h3 => by
    rw [show d + 1 + c = (d + c) + 1 by omega, sumB, sumB, ← h2 i (by omega)]
    exact sumB_cut f g n d c (i + 1) _ (by omega) h2 h3
abbrev elC (l : List (Int × Int)) (a : Int) : Int × Int := l.getD a.toNat (0, 0)
def inC (l : List (Int × Int)) (a : Int) : Bool := decide (0 ≤ a ∧ a ≤ (l.length : Int) - 1)
theorem concF_len (m : Int) (b : List Int) : (concF m b).length ≤ 64 := by
  unfold concF
  cases h : isCtx m b with
  | false => simp
  | true =>
    have hl := isCtx_len h
    obtain ⟨h1, h2, h3, h4, h5⟩ := lec_all ⟨m.toNat, by omega⟩
    simp only at h2
    have hpw := pow64 (n := m.toNat) (by omega)
    have := List.length_filter_le (closedI m b) (lecI m.toNat)
    rw [cond_true, List.length_map]
    omega
theorem concF_mem {m : Int} {b : List Int} {p : Int × Int} (h : p ∈ concF m b) : isCtx m b = true ∧ isSet m p.2 = true ∧ isSet b.length p.1 = true ∧ p.1 = extF b p.2 ∧ intentF m b p.1 = p.2 := by
  unfold concF at h
  cases hc : isCtx m b with
  | false => rw [hc] at h; cases h
  | true =>
    rw [hc, cond_true] at h
    obtain ⟨x, hx, rfl⟩ := List.mem_map.1 h
    have hx := List.mem_filter.1 hx
    have hl := isCtx_len hc
    obtain ⟨hs, s, rfl, hlt⟩ := lecI_isSet ⟨by omega, by omega⟩ hx.1
    have hr := isSet_le hs
    refine ⟨rfl, hs, ext_isSet hl.1 (ctx_small hc) (by omega), rfl, ?_⟩
    have := hx.2
    unfold closedI at this
    exact eq_of_beq this
theorem inC_iff {l : List (Int × Int)} {a : Int} : inC l a = true ↔ 0 ≤ a ∧ a < (l.length : Int) := by
  unfold inC
  rw [decide_eq_true_eq]
  omega
theorem concF_at {m : Int} {b : List Int} {a : Int} (h : inC (concF m b) a = true) : isCtx m b = true ∧ isSet m (elC (concF m b) a).2 = true ∧ isSet b.length (elC (concF m b) a).1 = true ∧ (elC (concF m b) a).1 = extF b (elC (concF m b) a).2 ∧ intentF m b (elC (concF m b) a).1 = (elC (concF m b) a).2 := by
  have h := inC_iff.1 h
  exact concF_mem (mem_getD (by omega))
def underB (p q : Int × Int) : Bool := band p.1 q.1 == p.1
def apartB (p q : Int × Int) : Bool := bif !underB p q then !underB q p else false
def chainL (l : List (Int × Int)) : Nat → Nat → Bool
  | _, 0 => false
  | i, n + 1 => ((l.take i).any (apartB (l.getD i (0, 0)))) || chainL l (i + 1) n
theorem take_any {α : Type} (l : List α) (d0 : α) (f : α → Bool) {i a : Nat} (h : i < a) (ha : a ≤ l.length) : ((l.take a).drop i).any f = (f (l.getD i d0) || ((l.take a).drop (i + 1)).any f) := by
  have e : (l.take a).getD i d0 = l.getD i d0 := by simp [List.getD, List.getElem?_take, h]
  rw [← e, getD_drop (l := l.take a) (i := i) (d := d0) (by simp; omega), List.any_cons]
def anyN (f : Nat → Bool) : Nat → Nat → Bool
  | _, 0 => false
  | i, n + 1 => f i || anyN f (i + 1) n
theorem anyN_false {f : Nat → Bool} : ∀ (d i : Nat), (∀ j, i ≤ j → j < i + d → f j = false) → anyN f i d = false
  | 0, _, _ => rfl
  | d + 1, i, h => by rw [anyN, h i (by omega) (by omega), Bool.false_or]; exact anyN_false d (i + 1) fun j h1 h2 => h j (by omega) (by omega)
theorem anyN_congr {f g : Nat → Bool} : ∀ (d i : Nat), (∀ j, i ≤ j → j < i + d → f j = g j) → anyN f i d = anyN g i d
  | 0, _, _ => rfl
  | d + 1, i, h => by rw [anyN, anyN, h i (by omega) (by omega), anyN_congr d (i + 1) fun j h1 h2 => h j (by omega) (by omega)]
def tab2 (T : List (List Int)) (x y : Nat) : Int := (T.getD x []).getD y 0
def lawZ (M J : List (List Int)) (l : List (Int × Int)) (all : Bool) (x y z : Nat) : Bool :=
  (all || underB (l.getD z (0, 0)) (l.getD x (0, 0))) && ((M.getD x []).getD ((J.getD y []).getD z 0).toNat 0 != (J.getD ((M.getD x []).getD y 0).toNat []).getD ((M.getD x []).getD z 0).toNat 0)
def lawX (M J : List (List Int)) (l : List (Int × Int)) (all : Bool) : Bool :=
  anyN (fun x => anyN (fun y => anyN (lawZ M J l all x y) 0 l.length) 0 l.length) 0 l.length
def tabF (m : Int) (b : List Int) (meet : Bool) : List (List Int) := (concF m b).map (tabR m b (concF m b) meet)
def lawV (m : Int) (b : List Int) (all : Bool) : Bool := bif lawX (tabF m b true) (tabF m b false) (concF m b) all then false else isCtx m b
theorem isSet8_band {x y : Int} (hx : isSet 8 x = true) (hy : isSet 8 y = true) : isSet 8 (band x y) = true := by
  obtain ⟨s, rfl, hs⟩ := isSet_ex hx
  obtain ⟨t, rfl, ht⟩ := isSet_ex hy
  have hs : s < 256 := hs
  have ht : t < 256 := ht
  rw [band_nat hs ht, isSet8]
  have := Nat.and_le_left (n := s) (m := t)
  exact dt (by omega)
theorem conc_in {m : Int} {b : List Int} (h : isCtx m b = true) {v : Int} (hv : isSet m v = true) (hc : closedI m b v = true) : (extF b v, v) ∈ concF m b := by
  have hl := isCtx_len h
  unfold concF
  rw [h, cond_true]
  refine List.mem_map.2 ⟨v, List.mem_filter.2 ⟨?_, hc⟩, rfl⟩
  obtain ⟨s, rfl, hs⟩ := isSet_ex hv
  unfold lecI
  exact List.mem_map.2 ⟨s, (lecL_mem (by omega)).2 hs, rfl⟩
theorem int_cl {m : Int} {b : List Int} (h : isCtx m b = true) {s : Int} (hs : isSet 8 s = true) : isSet m (intentF m b s) = true ∧ closedI m b (intentF m b s) = true := by
  have hl := isCtx_len h
  have hsm := ctx_small h
  obtain ⟨i1, i2, i3⟩ := intentF_spec (m := m) ⟨hl.2.1, by omega⟩ hl.1 hsm hs
  obtain ⟨v, hv⟩ : ∃ v : Nat, intentF m b s = v := ⟨(intentF m b s).toNat, by omega⟩
  rw [hv] at i1 i2 i3 ⊢
  have hlt : v < 2 ^ m.toNat := by
    refine Nat.lt_pow_two_of_testBit _ fun i hi => ?_
    cases hb : v.testBit i
    · rfl
    · have := ((i3 i).1 (by rw [Int.toNat_natCast]; exact hb)).1
      omega
  refine ⟨?_, ?_⟩
  · unfold isSet
    refine dt ⟨by omega, by omega, ?_⟩
    have e2 : ((2 ^ m.toNat : Nat) : Int) = (2 : Int) ^ m.toNat := by push_cast; rfl
    omega
  · rw [closed_is h (by omega)]
    refine beq_iff_eq.2 (Nat.eq_of_testBit_eq fun e => ?_)
    rw [Bool.eq_iff_iff]
    constructor
    · intro he
      obtain ⟨q1, q2⟩ := (clN_bit h (by omega) e).1 he
      have := (i3 e).2 ⟨q1, fun k hk hb => q2 k hk fun j hj => ((i3 j).1 (by rw [Int.toNat_natCast]; exact hj)).2 k hk hb⟩
      rwa [Int.toNat_natCast] at this
    · exact (cl_clo h).ext v hlt e
theorem band_cl {m : Int} {b : List Int} (h : isCtx m b = true) {x y : Int} (hx : isSet m x = true) (hy : isSet m y = true) (cx : closedI m b x = true) (cy : closedI m b y = true) : isSet m (band x y) = true ∧ closedI m b (band x y) = true := by
  have hl := isCtx_len h
  obtain ⟨s, rfl, hs⟩ := isSet_ex hx
  obtain ⟨t, rfl, ht⟩ := isSet_ex hy
  have hpw := pow64 (n := m.toNat) (by omega)
  rw [closed_is h (by omega)] at cx cy
  have cx := eq_of_beq cx
  have cy := eq_of_beq cy
  have hle := Nat.and_le_left (n := s) (m := t)
  rw [band_nat (by omega) (by omega)]
  refine ⟨?_, ?_⟩
  · unfold isSet
    refine dt ⟨by omega, by omega, ?_⟩
    have e2 : ((2 ^ m.toNat : Nat) : Int) = (2 : Int) ^ m.toNat := by push_cast; rfl
    omega
  · rw [closed_is h (by omega)]
    have hc := cl_clo h
    refine beq_iff_eq.2 (Nat.eq_of_testBit_eq fun e => ?_)
    rw [Bool.eq_iff_iff]
    constructor
    · intro he
      rw [Nat.testBit_and, Bool.and_eq_true]
      have g1 := hc.mono (s &&& t) s (by omega) hs (fun i hi => by rw [Nat.testBit_and, Bool.and_eq_true] at hi; exact hi.1) e he
      have g2 := hc.mono (s &&& t) t (by omega) ht (fun i hi => by rw [Nat.testBit_and, Bool.and_eq_true] at hi; exact hi.2) e he
      rw [cx] at g1
      rw [cy] at g2
      exact ⟨g1, g2⟩
    · exact hc.ext (s &&& t) (by omega) e
theorem firstI_in {α : Type} (p : α → Bool) : ∀ (l : List α) (i : Int), l.any p = true → i ≤ firstI p l i ∧ firstI p l i < i + l.length
  | [], _, h => by cases h
  | x :: l, i, h => by
    rw [firstI]
    cases hx : p x
    · rw [List.any_cons, hx, Bool.false_or] at h
      have := firstI_in p l (i + 1) h
      rw [cond_false, List.length_cons]
      omega
    · rw [cond_true, List.length_cons]
      omega
theorem meet_in {m : Int} {b : List Int} {p q : Int × Int} (hp : p ∈ concF m b) (hq : q ∈ concF m b) (meet : Bool) : ∃ z ∈ concF m b, z.2 = tabV m b meet p q := by
  obtain ⟨h, p2, p3, p4, p5⟩ := concF_mem hp
  obtain ⟨_, q2, q3, q4, q5⟩ := concF_mem hq
  have hp8 := isSet_8 p3
  have hq8 := isSet_8 q3
  cases meet with
  | true =>
    obtain ⟨g1, g2⟩ := int_cl h (isSet8_band hp8 hq8)
    exact ⟨_, conc_in h g1 g2, rfl⟩
  | false =>
    have cp := (int_cl h hp8).2
    have cq := (int_cl h hq8).2
    rw [p5] at cp
    rw [q5] at cq
    obtain ⟨g1, g2⟩ := band_cl h p2 q2 cp cq
    exact ⟨_, conc_in h g1 g2, rfl⟩
theorem tabC_in {m : Int} {b : List Int} {p q : Int × Int} (hp : p ∈ concF m b) (hq : q ∈ concF m b) (meet : Bool) : 0 ≤ tabC m b (concF m b) meet p q ∧ tabC m b (concF m b) meet p q < (concF m b).length := by
  obtain ⟨z, hz, he⟩ := meet_in hp hq meet
  have := firstI_in (fun z => z.2 == tabV m b meet p q) (concF m b) 0 (List.any_eq_true.2 ⟨z, hz, beq_iff_eq.2 he⟩)
  unfold tabC
  omega
def TabOk (T : List (List Int)) (n : Nat) : Prop := T.length = n ∧ ∀ x, x < n → (T.getD x []).length = n ∧ ∀ y, y < n → 0 ≤ (T.getD x []).getD y 0 ∧ (T.getD x []).getD y 0 < n

theorem getD_map0 {α β : Type} {f : α → β} {l : List α} {i : Nat} (h : i < l.length) (z : β) (z0 : α) : (l.map f).getD i z = f (l.getD i z0) := by
  simp [List.getD, h]
theorem tab_ok (m : Int) (b : List Int) (meet : Bool) : TabOk (tabF m b meet) (concF m b).length := by
  unfold tabF
  refine ⟨by rw [List.length_map], fun x hx => ?_⟩
  rw [getD_map0 hx [] (0, 0)]
  unfold tabR
  refine ⟨by rw [List.length_map], fun y hy => ?_⟩
  rw [getD_map0 hy 0 (0, 0)]
  exact tabC_in (mem_getD hx) (mem_getD hy) meet
/- spec.l21Table -/
def K_specTableF : List AV → List Ob → Option (AV × List Ob)
  | [.agg [.int .i64 m, .lst (.int .i64) b], .lst (.pair (.int .i64) (.int .i64)) l, .bool meet], [] => gd (b.length ≤ 8 ∧ l.length ≤ 64 ∧ ∀ p ∈ l, ∀ q ∈ l, isSet 8 (band p.1 q.1) = true) (.lst (.lst (.int .i64)) (l.map (tabR m b l meet)), [])
  | _, _ => none
theorem ok_specTableF : FnOk Tryz.prog 107 K_specTableF := by
  refine FnOk.le (FnOk.frz ok_specTable) (fun avs hin p h => ?_)
  unfold K_specTableF at h
  split at h
  · obtain ⟨hp, rfl⟩ := gd_o h
    refine Eq.trans (frz_s (K := K_specTable) (p := ?p) ?hq) ?hr
    case hq => exact gd_s hp
    case hr => rfl
  · cases h

/- spec.l6Under -/
def K_l6Under : List AV → List Ob → Option (AV × List Ob)
  | [.agg [.int .i64 p, .int .i64 q], .agg [.int .i64 x, .int .i64 y]], [] => gd (True) (.bool (band p x == p), [])
  | _, _ => none
@[reducible] def E_l6Under : Env := mkE (tb []) (fun f => false) (fun r => ([], []))
theorem ev_l6Under (p q : Int) (x y : Int) (hp : True) : evF E_l6Under (1) Tryz.f67 [.agg [.int .i64 p, .int .i64 q], .agg [.int .i64 x, .int .i64 y]] [] = some (.bool (band p x == p), []) := by
  conv => lhs; whnf
  rfl
theorem ok_l6Under : FnOk Tryz.prog 67 K_l6Under := by
  refine fn_ok (fn := Tryz.f67) (k := Tryz.f67.ntmps) (E := E_l6Under) (facts_of (List.forall_mem_nil _)) (by kernel_rfl) rfl (by decide +kernel) (by decide +kernel) ?_
  intro avs hin r h
  unfold K_l6Under at h
  split at h
  · obtain ⟨hp, rfl⟩ := gd_o h
    exact ⟨_, ev_l6Under _ _ _ _ hp, rfl⟩
  · cases h

/- spec.Concepts -/
def K_specConF : List AV → List Ob → Option (AV × List Ob)
  | [.agg [.int .i64 m, .lst (.int .i64) a]], [] => gd (a.length ≤ 1048576) (.lst (.pair (.int .i64) (.int .i64)) (concF m a), [])
  | _, _ => none
theorem ok_specConF : FnOk Tryz.prog 26 K_specConF := by
  refine FnOk.le (FnOk.frz ok_specConcepts) (fun avs hin p h => ?_)
  unfold K_specConF at h
  split at h
  · obtain ⟨hp, rfl⟩ := gd_o h
    refine Eq.trans (frz_s (K := K_specConcepts) (p := ?p) ?hq) ?hr
    case hq => exact gd_s hp
    case hr => rfl
  · cases h

/- spec.l21Law -/
def K_specLaw : List AV → List Ob → Option (AV × List Ob)
  | [.agg [.int .i64 m, .lst (.int .i64) b], .bool all], [] => gd (b.length ≤ 8) (.bool (lawV m b all), [])
  | _, _ => none
@[reducible] def E_specLaw : Env := mkE (tb [(67, K_l6Under), (68, K_specIsContext), (26, K_specConF), (107, K_specTableF)]) (fun f => false) (fun r => bif r == 5 then ([1, 2, 5, 6, 7, 8], [1, 2, 4, 5, 6, 7, 8, 9]) else bif r == 8 then ([1, 2, 5, 6, 7, 8, 9], [1, 2, 4, 5, 6, 7, 8, 9]) else bif r == 11 then ([1, 2, 5, 6, 7, 8, 9, 10], [1, 2, 4, 5, 6, 7, 8, 9]) else ([], []))
theorem lz_specLaw (m : Int) (b : List Int) (M J : List (List Int)) (l : List (Int × Int)) (hl : l.length ≤ 64) (hM : TabOk M l.length) (hJ : TabOk J l.length) (all : Bool) (x y : Nat) (hx : x < l.length) (hy : y < l.length) (k : AX → S → Option (AV × List Ob)) (d : Nat) : ∀ (n i : Nat) (z : Int), l.length - i = d → i ≤ l.length → z = i → d < n →
    lpAt E_specLaw (lp E_specLaw 0 n) 0 (loopAt Tryz.f72 2) (mkS [1, 2, 5, 6, 7, 8, 9, 10] [.bool all, .ptr 0 0, .lst (.pair (.int .i64) (.int .i64)) l, .lst (.lst (.int .i64)) M, .lst (.lst (.int .i64)) J, .int .i64 (x : Int), .int .i64 (y : Int), .int .i64 z] [some (.box 29 [.int .i64 m, .lst (.int .i64) b])]) k =
      if anyN (lawZ M J l all x y) i d then k .ret (mkS [1, 2, 4, 5, 6, 7, 8, 9] [.bool all, .ptr 0 0, .bool false, .lst (.pair (.int .i64) (.int .i64)) l, .lst (.lst (.int .i64)) M, .lst (.lst (.int .i64)) J, .int .i64 (x : Int), .int .i64 (y : Int)] [some (.box 29 [.int .i64 m, .lst (.int .i64) b])])
      else k (.exit 4) (mkS [1, 2, 4, 5, 6, 7, 8, 9] [.bool all, .ptr 0 0, .any, .lst (.pair (.int .i64) (.int .i64)) l, .lst (.lst (.int .i64)) M, .lst (.lst (.int .i64)) J, .int .i64 (x : Int), .int .i64 (y : Int)] [some (.box 29 [.int .i64 m, .lst (.int .i64) b])]) := by
  induction d with
  | zero =>
    intro n i z hd hi hz hn
    subst hz
    rw [lpAt_def]
    conv => lhs; whnf
    refine br_f (df (by omega)) ?_
    conv => lhs; whnf
    simp [anyN]
  | succ d ih =>
    intro n i z hd hi hz hn
    obtain ⟨n, rfl⟩ : ∃ m, n = m + 1 := ⟨n - 1, by omega⟩
    subst hz
    have hil : i < l.length := by omega
    obtain ⟨m0, hM⟩ := hM
    obtain ⟨j0, hJ⟩ := hJ
    obtain ⟨mx, hMx⟩ := hM x hx
    obtain ⟨jy, hJy⟩ := hJ y hy
    have mxy := hMx y hy
    have mxz := hMx i hil
    have jyz := hJy i hil
    obtain ⟨jm, _⟩ := hJ ((M.getD x []).getD y 0).toNat (by omega)
    have f1 : (i : Int) < ((J.getD y []).length : Int) := by omega
    have f2 : 0 ≤ (J.getD y []).getD i 0 := jyz.1
    have f2' : (J.getD y []).getD i 0 < ((M.getD x []).length : Int) := by omega
    have f3 : (y : Int) < ((M.getD x []).length : Int) := by omega
    have f4 : 0 ≤ (M.getD x []).getD y 0 := mxy.1
    have f4' : (M.getD x []).getD y 0 < (J.length : Int) := by omega
    have f5 : (i : Int) < ((M.getD x []).length : Int) := by omega
    have f6 : 0 ≤ (M.getD x []).getD i 0 := mxz.1
    have f6' : (M.getD x []).getD i 0 < ((J.getD ((M.getD x []).getD y 0).toNat []).length : Int) := by omega
    cases all with
    | true =>
      rw [lpAt_def]
      conv => lhs; whnf
      refine br_t (dt (by omega)) ?_
      conv => lhs; whnf
      repeat ((first | with_reducible apply br_tt | with_reducible apply br_ff | with_reducible apply br_nf | with_reducible apply br_nt | with_reducible refine br_d ?_ (by kernel_rfl) | with_reducible refine br_t (dt2 (by omega) (by omega)) ?_); conv => lhs; whnf)
      refine br_t (by exact dt2 (Int.natCast_nonneg _) f1) ?_
      conv => lhs; whnf
      repeat ((first | with_reducible apply br_tt | with_reducible apply br_ff | with_reducible apply br_nf | with_reducible apply br_nt | with_reducible refine br_d ?_ (by kernel_rfl) | with_reducible refine br_t (dt2 (by omega) (by omega)) ?_); conv => lhs; whnf)
      refine br_t (by exact dt2 f2 f2') ?_
      conv => lhs; whnf
      repeat ((first | with_reducible apply br_tt | with_reducible apply br_ff | with_reducible apply br_nf | with_reducible apply br_nt | with_reducible refine br_d ?_ (by kernel_rfl) | with_reducible refine br_t (dt2 (by omega) (by omega)) ?_); conv => lhs; whnf)
      refine br_t (by exact dt2 (Int.natCast_nonneg _) f3) ?_
      conv => lhs; whnf
      repeat ((first | with_reducible apply br_tt | with_reducible apply br_ff | with_reducible apply br_nf | with_reducible apply br_nt | with_reducible refine br_d ?_ (by kernel_rfl) | with_reducible refine br_t (dt2 (by omega) (by omega)) ?_); conv => lhs; whnf)
      refine br_t (by exact dt2 f4 f4') ?_
      conv => lhs; whnf
      repeat ((first | with_reducible apply br_tt | with_reducible apply br_ff | with_reducible apply br_nf | with_reducible apply br_nt | with_reducible refine br_d ?_ (by kernel_rfl) | with_reducible refine br_t (dt2 (by omega) (by omega)) ?_); conv => lhs; whnf)
      refine br_t (by exact dt2 (Int.natCast_nonneg _) f5) ?_
      conv => lhs; whnf
      repeat ((first | with_reducible apply br_tt | with_reducible apply br_ff | with_reducible apply br_nf | with_reducible apply br_nt | with_reducible refine br_d ?_ (by kernel_rfl) | with_reducible refine br_t (dt2 (by omega) (by omega)) ?_); conv => lhs; whnf)
      refine br_t (by exact dt2 f6 f6') ?_
      conv => lhs; whnf
      repeat ((first | with_reducible apply br_tt | with_reducible apply br_ff | with_reducible apply br_nf | with_reducible apply br_nt | with_reducible refine br_d ?_ (by kernel_rfl) | with_reducible refine br_t (dt2 (by omega) (by omega)) ?_); conv => lhs; whnf)
      refine br_c (fun h => ?_) (fun h => ?_)
      · conv => lhs; whnf
        have h' : ((M.getD x []).getD ((J.getD y []).getD i 0).toNat 0 != (J.getD ((M.getD x []).getD y 0).toNat []).getD ((M.getD x []).getD i 0).toNat 0) = true := h
        rw [if_pos (by rw [anyN, lawZ, h']; rfl)]
      · conv => lhs; whnf
        have h' : ((M.getD x []).getD ((J.getD y []).getD i 0).toNat 0 != (J.getD ((M.getD x []).getD y 0).toNat []).getD ((M.getD x []).getD i 0).toNat 0) = false := h
        have e : anyN (lawZ M J l true x y) i (d + 1) = anyN (lawZ M J l true x y) (i + 1) d := by rw [anyN, lawZ, h']; rfl
        rw [e]
        exact ih n (i + 1) _ (by omega) (by omega) (by rw [wrap64 (by omega) (by omega)]; simp) (by omega)
    | false =>
      rw [lpAt_def]
      conv => lhs; whnf
      refine br_t (dt (by omega)) ?_
      conv => lhs; whnf
      repeat ((first | with_reducible apply br_tt | with_reducible apply br_ff | with_reducible apply br_nf | with_reducible apply br_nt | with_reducible refine br_d ?_ (by kernel_rfl) | with_reducible refine br_t (dt2 (by omega) (by omega)) ?_); conv => lhs; whnf)
      conv => lhs; arg 1; whnf
      refine bnd_g (by trivial) ?_
      conv => lhs; whnf
      repeat ((first | with_reducible apply br_tt | with_reducible apply br_ff | with_reducible apply br_nf | with_reducible apply br_nt | with_reducible refine br_d ?_ (by kernel_rfl) | with_reducible refine br_t (dt2 (by omega) (by omega)) ?_); conv => lhs; whnf)
      refine br_c (fun g => ?_) (fun g => ?_)
      · conv => lhs; whnf
        repeat ((first | with_reducible apply br_tt | with_reducible apply br_ff | with_reducible apply br_nf | with_reducible apply br_nt | with_reducible refine br_d ?_ (by kernel_rfl) | with_reducible apply br_t g | with_reducible apply br_f g | with_reducible refine br_t (dt2 (by omega) (by omega)) ?_); conv => lhs; whnf)
        refine br_t (by exact dt2 (Int.natCast_nonneg _) f1) ?_
        conv => lhs; whnf
        repeat ((first | with_reducible apply br_tt | with_reducible apply br_ff | with_reducible apply br_nf | with_reducible apply br_nt | with_reducible refine br_d ?_ (by kernel_rfl) | with_reducible apply br_t g | with_reducible apply br_f g | with_reducible refine br_t (dt2 (by omega) (by omega)) ?_); conv => lhs; whnf)
        refine br_t (by exact dt2 f2 f2') ?_
        conv => lhs; whnf
        repeat ((first | with_reducible apply br_tt | with_reducible apply br_ff | with_reducible apply br_nf | with_reducible apply br_nt | with_reducible refine br_d ?_ (by kernel_rfl) | with_reducible apply br_t g | with_reducible apply br_f g | with_reducible refine br_t (dt2 (by omega) (by omega)) ?_); conv => lhs; whnf)
        refine br_t (by exact dt2 (Int.natCast_nonneg _) f3) ?_
        conv => lhs; whnf
        repeat ((first | with_reducible apply br_tt | with_reducible apply br_ff | with_reducible apply br_nf | with_reducible apply br_nt | with_reducible refine br_d ?_ (by kernel_rfl) | with_reducible apply br_t g | with_reducible apply br_f g | with_reducible refine br_t (dt2 (by omega) (by omega)) ?_); conv => lhs; whnf)
        refine br_t (by exact dt2 f4 f4') ?_
        conv => lhs; whnf
        repeat ((first | with_reducible apply br_tt | with_reducible apply br_ff | with_reducible apply br_nf | with_reducible apply br_nt | with_reducible refine br_d ?_ (by kernel_rfl) | with_reducible apply br_t g | with_reducible apply br_f g | with_reducible refine br_t (dt2 (by omega) (by omega)) ?_); conv => lhs; whnf)
        refine br_t (by exact dt2 (Int.natCast_nonneg _) f5) ?_
        conv => lhs; whnf
        repeat ((first | with_reducible apply br_tt | with_reducible apply br_ff | with_reducible apply br_nf | with_reducible apply br_nt | with_reducible refine br_d ?_ (by kernel_rfl) | with_reducible apply br_t g | with_reducible apply br_f g | with_reducible refine br_t (dt2 (by omega) (by omega)) ?_); conv => lhs; whnf)
        refine br_t (by exact dt2 f6 f6') ?_
        conv => lhs; whnf
        repeat ((first | with_reducible apply br_tt | with_reducible apply br_ff | with_reducible apply br_nf | with_reducible apply br_nt | with_reducible refine br_d ?_ (by kernel_rfl) | with_reducible apply br_t g | with_reducible apply br_f g | with_reducible refine br_t (dt2 (by omega) (by omega)) ?_); conv => lhs; whnf)
        have hu : underB (l.getD i (0, 0)) (l.getD x (0, 0)) = true := g
        refine br_c (fun h => ?_) (fun h => ?_)
        · conv => lhs; whnf
          have h' : ((M.getD x []).getD ((J.getD y []).getD i 0).toNat 0 != (J.getD ((M.getD x []).getD y 0).toNat []).getD ((M.getD x []).getD i 0).toNat 0) = true := h
          rw [if_pos (by rw [anyN, lawZ, h', hu]; rfl)]
        · conv => lhs; whnf
          have h' : ((M.getD x []).getD ((J.getD y []).getD i 0).toNat 0 != (J.getD ((M.getD x []).getD y 0).toNat []).getD ((M.getD x []).getD i 0).toNat 0) = false := h
          have e : anyN (lawZ M J l false x y) i (d + 1) = anyN (lawZ M J l false x y) (i + 1) d := by rw [anyN, lawZ, h', Bool.and_false, Bool.false_or]
          rw [e]
          exact ih n (i + 1) _ (by omega) (by omega) (by rw [wrap64 (by omega) (by omega)]; simp) (by omega)
      · conv => lhs; whnf
        repeat ((first | with_reducible apply br_tt | with_reducible apply br_ff | with_reducible apply br_nf | with_reducible apply br_nt | with_reducible refine br_d ?_ (by kernel_rfl) | with_reducible apply br_t g | with_reducible apply br_f g | with_reducible refine br_t (dt2 (by omega) (by omega)) ?_); conv => lhs; whnf)
        have hu : underB (l.getD i (0, 0)) (l.getD x (0, 0)) = false := g
        have e : anyN (lawZ M J l false x y) i (d + 1) = anyN (lawZ M J l false x y) (i + 1) d := by rw [anyN, lawZ, hu, Bool.false_or, Bool.false_and, Bool.false_or]
        rw [e]
        exact ih n (i + 1) _ (by omega) (by omega) (by rw [wrap64 (by omega) (by omega)]; simp) (by omega)
theorem ly_specLaw (m : Int) (b : List Int) (M J : List (List Int)) (l : List (Int × Int)) (hl : l.length ≤ 64) (hM : TabOk M l.length) (hJ : TabOk J l.length) (all : Bool) (x : Nat) (hx : x < l.length) (k : AX → S → Option (AV × List Ob)) (r : Option (AV × List Ob)) (hk : ∀ q : Int, k .ret (mkS [1, 2, 4, 5, 6, 7, 8, 9] [.bool all, .ptr 0 0, .bool false, .lst (.pair (.int .i64) (.int .i64)) l, .lst (.lst (.int .i64)) M, .lst (.lst (.int .i64)) J, .int .i64 (x : Int), .int .i64 q] [some (.box 29 [.int .i64 m, .lst (.int .i64) b])]) = r) (d : Nat) : ∀ (n i : Nat) (z : Int), l.length - i = d → i ≤ l.length → z = i → d + 100 < n →
    lpAt E_specLaw (lp E_specLaw 0 n) 0 (loopAt Tryz.f72 1) (mkS [1, 2, 5, 6, 7, 8, 9] [.bool all, .ptr 0 0, .lst (.pair (.int .i64) (.int .i64)) l, .lst (.lst (.int .i64)) M, .lst (.lst (.int .i64)) J, .int .i64 (x : Int), .int .i64 z] [some (.box 29 [.int .i64 m, .lst (.int .i64) b])]) k =
      if anyN (fun y => anyN (lawZ M J l all x y) 0 l.length) i d then r
      else k (.exit 2) (mkS [1, 2, 4, 5, 6, 7, 8, 9] [.bool all, .ptr 0 0, .any, .lst (.pair (.int .i64) (.int .i64)) l, .lst (.lst (.int .i64)) M, .lst (.lst (.int .i64)) J, .int .i64 (x : Int), .int .i64 l.length] [some (.box 29 [.int .i64 m, .lst (.int .i64) b])]) := by
  induction d with
  | zero =>
    intro n i z hd hi hz hn
    subst hz
    rw [lpAt_def]
    conv => lhs; whnf
    refine br_f (df (by omega)) ?_
    conv => lhs; whnf
    have e : i = l.length := by omega
    rw [e]
    rfl
  | succ d ih =>
    intro n i z hd hi hz hn
    obtain ⟨n, rfl⟩ : ∃ m, n = m + 1 := ⟨n - 1, by omega⟩
    subst hz
    rw [lpAt_def]
    conv => lhs; whnf
    refine br_t (dt (by omega)) ?_
    conv => lhs; whnf
    refine (lz_specLaw m b M J l hl hM hJ all x i hx (by omega) _ l.length _ 0 0 rfl (by omega) rfl (by omega)).trans ?_
    refine Or.elim (Classical.em (anyN (lawZ M J l all x i) 0 l.length = true)) (fun h => ?_) (fun h => ?_)
    · have e : anyN (fun y => anyN (lawZ M J l all x y) 0 l.length) i (d + 1) = true := by rw [anyN, h, Bool.true_or]
      rw [if_pos h, if_pos e]
      conv => lhs; whnf
      exact hk _
    · have h' : anyN (lawZ M J l all x i) 0 l.length = false := by simpa using h
      have e : anyN (fun y => anyN (lawZ M J l all x y) 0 l.length) i (d + 1) = anyN (fun y => anyN (lawZ M J l all x y) 0 l.length) (i + 1) d := by rw [anyN, h', Bool.false_or]
      rw [if_neg h, e]
      conv => lhs; whnf
      exact ih n (i + 1) _ (by omega) (by omega) (by rw [wrap64 (by omega) (by omega)]; simp) (by omega)
theorem lx_specLaw (m : Int) (b : List Int) (M J : List (List Int)) (l : List (Int × Int)) (hl : l.length ≤ 64) (hM : TabOk M l.length) (hJ : TabOk J l.length) (all : Bool) (k : AX → S → Option (AV × List Ob)) (r : Option (AV × List Ob)) (hk : ∀ q q' : Int, k .ret (mkS [1, 2, 4, 5, 6, 7, 8, 9] [.bool all, .ptr 0 0, .bool false, .lst (.pair (.int .i64) (.int .i64)) l, .lst (.lst (.int .i64)) M, .lst (.lst (.int .i64)) J, .int .i64 q, .int .i64 q'] [some (.box 29 [.int .i64 m, .lst (.int .i64) b])]) = r) (d : Nat) : ∀ (n i : Nat) (z : Int), l.length - i = d → i ≤ l.length → z = i → d + 200 < n →
    lpAt E_specLaw (lp E_specLaw 0 n) 0 (loopAt Tryz.f72 0) (mkS [1, 2, 5, 6, 7, 8] [.bool all, .ptr 0 0, .lst (.pair (.int .i64) (.int .i64)) l, .lst (.lst (.int .i64)) M, .lst (.lst (.int .i64)) J, .int .i64 z] [some (.box 29 [.int .i64 m, .lst (.int .i64) b])]) k =
      if anyN (fun x => anyN (fun y => anyN (lawZ M J l all x y) 0 l.length) 0 l.length) i d then r
      else k (.exit 0) (mkS [1, 2, 4, 5, 6, 7, 8, 9] [.bool all, .ptr 0 0, .any, .lst (.pair (.int .i64) (.int .i64)) l, .lst (.lst (.int .i64)) M, .lst (.lst (.int .i64)) J, .int .i64 l.length, .any] [some (.box 29 [.int .i64 m, .lst (.int .i64) b])]) := by
  induction d with
  | zero =>
    intro n i z hd hi hz hn
    subst hz
    rw [lpAt_def]
    conv => lhs; whnf
    refine br_f (df (by omega)) ?_
    conv => lhs; whnf
    have e : i = l.length := by omega
    rw [e]
    rfl
  | succ d ih =>
    intro n i z hd hi hz hn
    obtain ⟨n, rfl⟩ : ∃ m, n = m + 1 := ⟨n - 1, by omega⟩
    subst hz
    rw [lpAt_def]
    conv => lhs; whnf
    refine br_t (dt (by omega)) ?_
    conv => lhs; whnf
    refine (ly_specLaw m b M J l hl hM hJ all i (by omega) _ r ?_ l.length _ 0 0 rfl (by omega) rfl (by omega)).trans ?_
    · intro q
      conv => lhs; whnf
      exact hk _ _
    refine Or.elim (Classical.em (anyN (fun y => anyN (lawZ M J l all i y) 0 l.length) 0 l.length = true)) (fun h => ?_) (fun h => ?_)
    · have e : anyN (fun x => anyN (fun y => anyN (lawZ M J l all x y) 0 l.length) 0 l.length) i (d + 1) = true := by rw [anyN, h, Bool.true_or]
      rw [if_pos h, if_pos e]
    · have h' : anyN (fun y => anyN (lawZ M J l all i y) 0 l.length) 0 l.length = false := by simpa using h
      have e : anyN (fun x => anyN (fun y => anyN (lawZ M J l all x y) 0 l.length) 0 l.length) i (d + 1) = anyN (fun x => anyN (fun y => anyN (lawZ M J l all x y) 0 l.length) 0 l.length) (i + 1) d := by rw [anyN, h', Bool.false_or]
      rw [if_neg h, e]
      conv => lhs; whnf
      exact ih n (i + 1) _ (by omega) (by omega) (by rw [wrap64 (by omega) (by omega)]; simp) (by omega)
theorem ev_specLaw (m : Int) (b : List Int) (all : Bool) (hp : b.length ≤ 8) : evF E_specLaw ((concF m b).length + 400) Tryz.f72 [.agg [.int .i64 m, .lst (.int .i64) b], .bool all] [] = some (.bool (lawV m b all), []) := by
  have hl := concF_len m b
  have hs : ∀ p ∈ concF m b, ∀ q ∈ concF m b, isSet 8 (band p.1 q.1) = true := fun p h q g => isSet8_band (isSet_8 (concF_mem h).2.2.1) (isSet_8 (concF_mem g).2.2.1)
  have hM : TabOk (tabF m b true) (concF m b).length := tab_ok m b true
  have hJ : TabOk (tabF m b false) (concF m b).length := tab_ok m b false
  conv => lhs; whnf
  conv => lhs; arg 1; whnf
  refine bnd_g (by omega) ?_
  conv => lhs; whnf
  conv => lhs; arg 1; whnf
  refine bnd_g (by exact ⟨hp, hl, hs⟩) ?_
  conv => lhs; whnf
  conv => lhs; arg 1; whnf
  refine bnd_g (by exact ⟨hp, hl, hs⟩) ?_
  conv => lhs; whnf
  refine (lx_specLaw m b (tabF m b true) (tabF m b false) (concF m b) hl hM hJ all _ (some (.bool false, [])) ?_ (concF m b).length _ 0 0 rfl (by omega) rfl (by omega)).trans ?_
  · intro q q'
    conv => lhs; whnf
  unfold lawV
  refine Or.elim (Classical.em (lawX (tabF m b true) (tabF m b false) (concF m b) all = true)) (fun h => ?_) (fun h => ?_)
  · rw [h]
    exact if_pos h
  · have h' : lawX (tabF m b true) (tabF m b false) (concF m b) all = false := by simpa using h
    rw [h']
    refine (if_neg h).trans ?_
    conv => lhs; whnf
    conv => lhs; arg 1; whnf
    refine bnd_g (by omega) ?_
    conv => lhs; whnf
    rfl
theorem ok_specLaw : FnOk Tryz.prog 72 K_specLaw := by
  refine fn_ok (fn := Tryz.f72) (k := Tryz.f72.ntmps) (E := E_specLaw) (facts_of (List.forall_mem_cons.2 ⟨ok_l6Under, List.forall_mem_cons.2 ⟨ok_specIsContext, List.forall_mem_cons.2 ⟨ok_specConF, List.forall_mem_cons.2 ⟨ok_specTableF, List.forall_mem_nil _⟩⟩⟩⟩)) (by kernel_rfl) rfl (by decide +kernel) (by decide +kernel) ?_
  intro avs hin r h
  unfold K_specLaw at h
  split at h
  · obtain ⟨hp, rfl⟩ := gd_o h
    exact ⟨_, ev_specLaw _ _ _ hp, rfl⟩
  · cases h

end Go.Sym
