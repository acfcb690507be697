/- Functions of the program, each told as a plain equation. -/
import Derived.Test.YtihpicaamaeooaaGreatDoorSymCptG
namespace Go.Sym
open Go.Proofs
set_option linter.unusedVariables false
set_option linter.unusedSimpArgs false
set_option maxRecDepth 100000
set_option maxHeartbeats 4000000

def sumB (f : Nat → Bool) : Nat → Nat → Int → Int
  | 0, _, q => q
  | d + 1, i, q => sumB f d (i + 1) (q + bif f i then 1 else 0)
theorem sumB_le (f : Nat → Bool) : ∀ (d i : Nat) (q : Int), q ≤ sumB f d i q ∧ sumB f d i q ≤ q + d
  | 0, i, q => by simp [sumB]
  | d + 1, i, q => by
    have h := sumB_le f d (i + 1) (q + bif f i then 1 else 0)
    rw [sumB]
    cases hf : f i <;> rw [hf] at h <;> simp only [cond_true, cond_false] at h ⊢ <;> omega
theorem sumB_none (f : Nat → Bool) : ∀ (d i : Nat) (q : Int), (∀ j, i ≤ j → f j = false) → sumB f d i q = q
  | 0, i, q, _ => rfl
  | d + 1, i, q, h => by
    rw [sumB, h i (Nat.le_refl _), cond_false, Int.add_zero]
    exact sumB_none f d (i + 1) q fun j hj => h j (by omega)
theorem sumB_cut (f g : Nat → Bool) (n : Nat) : ∀ (d c i : Nat) (q : Int), i + d = n → (∀ j, j < n → f j = g j) → (∀ j, n ≤ j → g j = false) → sumB g (d + c) i q = sumB f d i q
  | 0, c, i, q, h1, h2, h3 => by
    rw [Nat.zero_add]
    exact sumB_none g c i q fun j hj => h3 j (by omega)
  | d + 1, c, i, q, h1, h2, h3 => by
    rw [show d + 1 + c = (d + c) + 1 by omega, sumB, sumB, ← h2 i (by omega)]
    exact sumB_cut f g n d c (i + 1) _ (by omega) h2 h3
abbrev elC (l : List (Int × Int)) (a : Int) : Int × Int := l.getD a.toNat (0, 0)
def inC (l : List (Int × Int)) (a : Int) : Bool := decide (0 ≤ a ∧ a ≤ (l.length : Int) - 1)
theorem concF_len (m : Int) (b : List Int) : (concF m b).length ≤ 64 := by
  unfold concF
  cases h : isCtx m b with
  | false => simp
  | true =>
    have hl := isCtx_len h
    obtain ⟨h1, h2, h3, h4, h5⟩ := lec_all ⟨m.toNat, by omega⟩
    simp only at h2
    have hpw := pow64 (n := m.toNat) (by omega)
    have := List.length_filter_le (closedI m b) (lecI m.toNat)
    rw [cond_true, List.length_map]
    omega
theorem concF_mem {m : Int} {b : List Int} {p : Int × Int} (h : p ∈ concF m b) : isCtx m b = true ∧ isSet m p.2 = true ∧ isSet b.length p.1 = true ∧ p.1 = extF b p.2 ∧ intentF m b p.1 = p.2 := by
  unfold concF at h
  cases hc : isCtx m b with
  | false => rw [hc] at h; cases h
  | true =>
    rw [hc, cond_true] at h
    obtain ⟨x, hx, rfl⟩ := List.mem_map.1 h
    have hx := List.mem_filter.1 hx
    have hl := isCtx_len hc
    obtain ⟨hs, s, rfl, hlt⟩ := lecI_isSet ⟨by omega, by omega⟩ hx.1
    have hr := isSet_le hs
    refine ⟨rfl, hs, ext_isSet hl.1 (ctx_small hc) (by omega), rfl, ?_⟩
    have := hx.2
    unfold closedI at this
    exact eq_of_beq this
theorem inC_iff {l : List (Int × Int)} {a : Int} : inC l a = true ↔ 0 ≤ a ∧ a < (l.length : Int) := by
  unfold inC
  rw [decide_eq_true_eq]
  omega
theorem concF_at {m : Int} {b : List Int} {a : Int} (h : inC (concF m b) a = true) : isCtx m b = true ∧ isSet m (elC (concF m b) a).2 = true ∧ isSet b.length (elC (concF m b) a).1 = true ∧ (elC (concF m b) a).1 = extF b (elC (concF m b) a).2 ∧ intentF m b (elC (concF m b) a).1 = (elC (concF m b) a).2 := by
  have h := inC_iff.1 h
  exact concF_mem (mem_getD (by omega))
def cofF (m : Int) (b : List Int) (a : Int) : Int × Int := bif inC (concF m b) a then elC (concF m b) a else (0, 0)
def dupF (b : List Int) (e : Int) : Bool := !allB (fun j => !(colF b j == colF b e)) e.toNat 0
theorem any_take (l : List Int) (p : Int → Bool) : ∀ (e : Nat), e ≤ l.length → (l.take e).any p = !allB (fun j => !p (l.getD j 0)) e 0 := by
  intro e he
  rw [Bool.eq_iff_iff, List.any_eq_true, Bool.not_eq_true', ← Bool.not_eq_true, allB_iff]
  constructor
  · rintro ⟨x, hx, hp⟩ h
    obtain ⟨j, hj, rfl⟩ := List.mem_take_iff_getElem.1 hx
    have h1 := h j (by omega) (by omega)
    have h2 : l.getD j 0 = l[j] := by rw [List.getD_eq_getElem?_getD, List.getElem?_eq_getElem (by omega)]; rfl
    rw [h2, hp] at h1
    cases h1
  · intro h
    have h := Classical.not_forall.1 h
    obtain ⟨j, hj⟩ := h
    have hj := Classical.not_imp.1 hj
    have hj2 := Classical.not_imp.1 hj.2
    have h2 : l.getD j 0 = l[j]'(by omega) := by rw [List.getD_eq_getElem?_getD, List.getElem?_eq_getElem (by omega)]; rfl
    refine ⟨l[j]'(by omega), List.mem_take_iff_getElem.2 ⟨j, by omega, rfl⟩, ?_⟩
    rw [← h2]
    simpa using hj2.2
theorem rep_dup {m : Int} {b : List Int} {e : Int} (h : attrOk m b e = true) : hasE (repF (colsF m b)) e = dupF b e := by
  unfold attrOk at h
  have h2 := Bool.and_eq_true_iff.1 h
  have hl := isCtx_len h2.1
  have hd := ofd h2.2
  obtain ⟨n, rfl⟩ : ∃ n : Nat, e = n := ⟨e.toNat, by omega⟩
  have hlen : (colsF m b).length = m.toNat := colsL_length b _ _
  unfold repF
  rw [hasE_orF _ (by rw [hlen]; omega) (by rw [hlen]; omega)]
  unfold repAt dupF
  rw [Int.toNat_natCast, any_take _ _ _ (by rw [hlen]; omega)]
  congr 1
  refine allB_ext _ 0 (fun j h1 h2 => ?_)
  unfold colsF
  rw [colsL_get b _ 0 n (by omega), colsL_get b _ 0 j (by omega), Nat.zero_add, Nat.zero_add]
  congr 1
  rw [Bool.eq_iff_iff, beq_iff_eq, beq_iff_eq]
  exact ⟨fun h => h.symm, fun h => h.symm⟩
def vecF (m : Int) (b : List Int) (e : Int) : Int × Int × Bool := bif attrOk m b e then (bif dupF b e || reducF m b e then (0, 0, true) else (2 * e + 1 - m, 1, true)) else (0, 0, false)
abbrev w64 (x : Int) : Int := IntKind.i64.wrap x
def spL (m : Int) (b : List Int) : List Int → Int → Int → Int × Int
  | [], x, y => (x, y)
  | e :: l, x, y => spL m b l (w64 (x + (vecF m b e).1)) (w64 (y + (vecF m b e).2.1))
def spotF (m : Int) (b : List Int) (a : Int) : Int × Int := bif inC (concF m b) a then spL m b (elemsF (elC (concF m b) a).2) 0 0 else (0, 0)
theorem elemsL_off (s : Int) : ∀ (d i : Nat), (∀ j, i ≤ j → j < i + d → hasE s j = false) → elemsL s d i = []
  | 0, i, _ => rfl
  | d + 1, i, h => by
    rw [elemsL, h i (by omega) (by omega), cond_false]
    exact elemsL_off s d (i + 1) fun j h1 h2 => h j (by omega) (by omega)
theorem elemsL_add (s : Int) : ∀ (d c i : Nat), elemsL s (d + c) i = elemsL s d i ++ elemsL s c (i + d)
  | 0, c, i => by rw [Nat.zero_add]; rfl
  | d + 1, c, i => by
    rw [show d + 1 + c = (d + c) + 1 by omega, elemsL, elemsL, elemsL_add s d c (i + 1), show i + 1 + d = i + (d + 1) by omega]
    cases hasE s i <;> rfl
theorem isSet_8' {n s : Int} (h : isSet n s = true) : isSet 8 s = true := by
  have := isSet_le h
  rw [isSet8]
  exact dt ⟨by omega, by omega⟩
theorem elems_cut {m : Nat} {s : Int} (hm : m ≤ 8) (h : isSet m s = true) : elemsF s = elemsL s m 0 := by
  unfold elemsF
  obtain ⟨c, hc⟩ : ∃ c, 8 = m + c := ⟨8 - m, by omega⟩
  rw [hc, elemsL_add, elemsL_off s c, List.append_nil]
  intro j h1 h2
  rw [hasE_bit (isSet_8' h) (by omega) (by omega)]
  exact isSet_bit h (by omega)
theorem lecL_nd : ∀ n : Fin 7, (lecL n.val).Nodup := by decide +kernel
theorem conc_nodup (m : Int) (b : List Int) : ((concF m b).map (·.1)).Nodup := by
  unfold concF
  cases h : isCtx m b
  · exact List.nodup_nil
  · have hl := isCtx_len h
    rw [cond_true]
    have h0 : (lecI m.toNat).Nodup := by
      unfold lecI
      refine List.Pairwise.map _ (fun a b hab e => hab ?_) (lecL_nd ⟨m.toNat, by omega⟩)
      exact Int.ofNat.inj e
    have h1 : ((lecI m.toNat).filter (closedI m b)).Nodup := h0.sublist List.filter_sublist
    rw [List.map_map]
    refine List.Pairwise.map _ (fun x y hxy e => ?_) (List.Pairwise.and_mem.1 h1)
    obtain ⟨hx, hy, hne⟩ := hxy
    have cx := eq_of_beq (List.mem_filter.1 hx).2
    have cy := eq_of_beq (List.mem_filter.1 hy).2
    have e : extF b x = extF b y := e
    rw [e] at cx
    exact hne (cx.symm.trans cy)
theorem subLen : ∀ (l1 l2 : List Int), l1.Nodup → (∀ x ∈ l1, x ∈ l2) → l1.length ≤ l2.length
  | [], _, _, _ => Nat.zero_le _
  | x :: r, l2, hn, h => by
    have hn' := List.nodup_cons.1 hn
    have hx := h x (by simp)
    have := subLen r (l2.erase x) hn'.2 fun y hy => (List.mem_erase_of_ne (fun e => hn'.1 (by rw [← e]; exact hy))).2 (h y (by simp [hy]))
    rw [List.length_erase_of_mem hx] at this
    have : 0 < l2.length := List.length_pos_of_mem hx
    rw [List.length_cons]
    omega
def belowB (l : List (Int × Int)) (x y : Int) : Bool := bif inC l x then (bif inC l y then band (l.getD x.toNat (0, 0)).1 (l.getD y.toNat (0, 0)).1 == (l.getD x.toNat (0, 0)).1 else false) else false
def stAt (m : Int) (b : List Int) (p : Int × Int) (s : Nat) : Bool := (band (s : Int) p.1 == (s : Int)) && (intentF m b (s : Int) == p.2)
def stNum (m : Int) (b : List Int) (p : Int × Int) : Int := sumB (stAt m b p) (p.1.toNat + 1) 0 0
def powC (s : Int) : Int := ((2 ^ (cntF s).toNat : Nat) : Int)
theorem cntF_rng (s : Int) : 0 ≤ cntF s ∧ cntF s ≤ 8 := by
  unfold cntF
  have := popF_le 8 s.toNat
  split <;> omega
theorem powC_shl (s : Int) : IntKind.i64.wrap (1 * 2 ^ min (cntF s).toNat IntKind.i64.bits) = powC s := by
  have h := cntF_rng s
  obtain ⟨n, hn⟩ : ∃ n : Nat, cntF s = n := ⟨(cntF s).toNat, by omega⟩
  unfold powC
  rw [hn]
  exact shl1 (by omega)
theorem powC_shlu (s : Int) : IntKind.i64.wrap (1 * 2 ^ min (IntKind.u64.wrap (cntF s)).toNat IntKind.i64.bits) = powC s := by
  have h := cntF_rng s
  rw [wrapu (by omega) (by omega)]
  exact powC_shl s
def stabF (m : Int) (b : List Int) (a : Int) : Int × Int := bif inC (concF m b) a then (stNum m b (elC (concF m b) a), powC (elC (concF m b) a).1) else (0, 0)
def stAt2 (m : Int) (b : List Int) (p : Int × Int) (s : Nat) : Bool := (bnot (s : Int) p.1 == 0) && (intentF m b (s : Int) == p.2)
theorem bnot_sub {s : Nat} {e : Int} (hs : s < 256) : (bnot (s : Int) e == 0) = (band (s : Int) e == (s : Int)) := by
  rw [Bool.eq_iff_iff, beq_iff_eq, beq_iff_eq]
  exact (sub_iff (by omega) (by omega)).symm
theorem stAt_eq {m : Int} {b : List Int} {p : Int × Int} {s : Nat} (hs : s < 256) : stAt2 m b p s = stAt m b p s := by
  unfold stAt2 stAt
  rw [bnot_sub hs]
theorem stAt_big {m : Int} {b : List Int} {p : Int × Int} (hp : 0 ≤ p.1 ∧ p.1 ≤ 255) {s : Nat} (hs : s < 256) (h : p.1.toNat + 1 ≤ s) : stAt m b p s = false := by
  unfold stAt
  have : (band (s : Int) p.1 == (s : Int)) = false := by
    rw [beq_eq_false_iff_ne]
    intro hb
    obtain ⟨n, hn⟩ : ∃ n : Nat, p.1 = n := ⟨p.1.toNat, by omega⟩
    rw [hn] at hb h hp
    rw [band_nat hs (by omega)] at hb
    have h1 : s &&& n ≤ n := Nat.and_le_right
    omega
  rw [this, Bool.false_and]
theorem sumB_grow {f : Nat → Bool} : ∀ (c d i : Nat) (q : Int), (∀ j, i + d ≤ j → j < i + d + c → f j = false) → sumB f (d + c) i q = sumB f d i q
  | 0, d, i, q, _ => rfl
  | c + 1, 0, i, q, h => by
    rw [Nat.zero_add, sumB, sumB, h i (by omega) (by omega), cond_false, Int.add_zero]
    have := sumB_grow (f := f) c 0 (i + 1) q fun j h1 h2 => h j (by omega) (by omega)
    rw [Nat.zero_add] at this
    exact this
  | c + 1, d + 1, i, q, h => by
    rw [show d + 1 + (c + 1) = (d + (c + 1)) + 1 by omega, sumB, sumB]
    exact sumB_grow (c + 1) d (i + 1) _ fun j h1 h2 => h j (by omega) (by omega)
theorem sumB_congr {f g : Nat → Bool} : ∀ (d i : Nat) (q : Int), (∀ j, i ≤ j → j < i + d → f j = g j) → sumB f d i q = sumB g d i q
  | 0, i, q, _ => rfl
  | d + 1, i, q, h => by
    rw [sumB, sumB, h i (Nat.le_refl _) (by omega)]
    exact sumB_congr d (i + 1) _ fun j h1 h2 => h j (by omega) (by omega)
theorem stNum_eq {m : Int} {b : List Int} {p : Int × Int} {n : Nat} (hn : n ≤ 8) (hp : 0 ≤ p.1 ∧ p.1.toNat < 2 ^ n) : sumB (stAt2 m b p) (2 ^ n) 0 0 = stNum m b p := by
  have h2 : 2 ^ n ≤ 2 ^ 8 := Nat.pow_le_pow_right (by omega) hn
  rw [sumB_congr (g := stAt m b p) _ _ _ fun j _ hj => stAt_eq (by omega)]
  obtain ⟨c, hc⟩ : ∃ c, 2 ^ n = p.1.toNat + 1 + c := ⟨2 ^ n - (p.1.toNat + 1), by omega⟩
  rw [hc]
  exact sumB_grow c _ 0 0 fun j h1 h3 => stAt_big ⟨hp.1, by omega⟩ (by omega) (by omega)
theorem and_sub {y s : Nat} : (y &&& s == y) = true ↔ SubN y s := by
  rw [beq_iff_eq]
  constructor
  · intro h i hi
    rw [← h, Nat.testBit_and] at hi
    exact (Bool.and_eq_true_iff.1 hi).2
  · intro h
    apply Nat.eq_of_testBit_eq
    intro i
    rw [Nat.testBit_and]
    cases hb : y.testBit i
    · rfl
    · rw [h i hb]; rfl
theorem bnotSub {p s : Int} (hp : 0 ≤ p ∧ p ≤ 255) (hs : 0 ≤ s ∧ s ≤ 255) : (bnot p s == 0) = true ↔ SubN p.toNat s.toNat := by
  obtain ⟨p, rfl⟩ : ∃ n : Nat, p = n := ⟨p.toNat, by omega⟩
  obtain ⟨s, rfl⟩ : ∃ n : Nat, s = n := ⟨s.toNat, by omega⟩
  rw [bnot_sub (by omega), beq_iff_eq, band_nat (by omega) (by omega), Int.toNat_natCast, Int.toNat_natCast, ← and_sub, beq_iff_eq]
  omega
theorem bandSub {p s : Int} (hp : 0 ≤ p ∧ p ≤ 255) (hs : 0 ≤ s ∧ s ≤ 255) : (band p s == p) = true ↔ SubN p.toNat s.toNat := by
  rw [← bnotSub hp hs]
  obtain ⟨p, rfl⟩ : ∃ n : Nat, p = n := ⟨p.toNat, by omega⟩
  rw [bnot_sub (by omega)]
theorem beyond_bit {s : Int} (g : Nat) : ∀ (l : List Int) (acc : Int), (∀ t ∈ l, 0 ≤ t ∧ t ≤ 255) → (0 ≤ acc ∧ acc ≤ 255) → acc.toNat.testBit g = true → (∀ t ∈ l, t ≠ s → (bnot s t == 0) = true → t.toNat.testBit g = true) → (beyondF s l acc).toNat.testBit g = true
  | [], acc, _, _, h, _ => h
  | t :: r, acc, hl, ha, h, hh => by
    have ht := hl t (by simp)
    rw [beyondF]
    cases hc : (t != s) && (bnot s t == 0)
    · rw [cond_false]
      exact beyond_bit g r acc (fun t ht => hl t (by simp [ht])) ha h (fun t ht => hh t (by simp [ht]))
    · rw [cond_true]
      have hb := band_set ha ht
      have h2 := Bool.and_eq_true_iff.1 hc
      refine beyond_bit g r _ (fun t ht => hl t (by simp [ht])) ⟨hb.1, hb.2.1⟩ ?_ (fun t ht => hh t (by simp [ht]))
      rw [hb.2.2, Nat.testBit_and, h, hh t (by simp) (by simpa using h2.1) h2.2]
      rfl
def goodB (m : Int) (b : List Int) (e : Int) : Bool := attrOk m b e && !(dupF b e || reducF m b e)
theorem vec_y (m : Int) (b : List Int) (e : Int) : (vecF m b e).2.1 = bif goodB m b e then 1 else 0 := by
  unfold vecF goodB
  cases attrOk m b e
  · rfl
  · cases dupF b e || reducF m b e <;> rfl
theorem spL_y (m : Int) (b : List Int) : ∀ (l : List Int) (x y : Int), 0 ≤ y → y + l.length ≤ 100 → (spL m b l x y).2 = y + ((l.filter (goodB m b)).length : Int)
  | [], x, y, _, _ => by simp [spL]
  | e :: l, x, y, h0, h1 => by
    rw [List.length_cons] at h1
    rw [spL, vec_y, List.filter_cons]
    cases goodB m b e
    · rw [cond_false, show w64 (y + 0) = y from (wrap64 (by omega) (by omega)).trans (by omega), spL_y m b l _ y h0 (by omega), if_neg Bool.false_ne_true]
    · rw [cond_true, show w64 (y + 1) = y + 1 from wrap64 (by omega) (by omega), spL_y m b l _ (y + 1) (by omega) (by omega), if_pos rfl, List.length_cons]
      omega
theorem elemsL_iff (s : Int) (x : Int) : ∀ (d i : Nat), x ∈ elemsL s d i ↔ ∃ n : Nat, x = n ∧ i ≤ n ∧ n < i + d ∧ hasE s (n : Int) = true
  | 0, i => by
    rw [elemsL]
    constructor
    · intro h; cases h
    · rintro ⟨s, _, _, _, _⟩; omega
  | d + 1, i => by
    rw [elemsL]
    have ih := elemsL_iff s x d (i + 1)
    cases hi : hasE s i
    · rw [cond_false, ih]
      constructor
      · rintro ⟨n, rfl, h1, h2, h3⟩; exact ⟨n, rfl, by omega, by omega, h3⟩
      · rintro ⟨n, rfl, h1, h2, h3⟩
        have : n ≠ i := by rintro rfl; rw [hi] at h3; cases h3
        exact ⟨n, rfl, by omega, by omega, h3⟩
    · rw [cond_true, List.mem_cons, ih]
      constructor
      · rintro (rfl | ⟨n, rfl, h1, h2, h3⟩)
        · exact ⟨i, rfl, by omega, by omega, hi⟩
        · exact ⟨n, rfl, by omega, by omega, h3⟩
      · rintro ⟨n, rfl, h1, h2, h3⟩
        by_cases e : n = i
        · subst e; exact .inl rfl
        · exact .inr ⟨n, rfl, by omega, by omega, h3⟩
theorem elemsL_ndp (s : Int) : ∀ (d i : Nat), (elemsL s d i).Nodup
  | 0, _ => List.nodup_nil
  | d + 1, i => by
    rw [elemsL]
    cases hasE s i
    · rw [cond_false]; exact elemsL_ndp s d (i + 1)
    · rw [cond_true]
      refine List.nodup_cons.2 ⟨fun h => ?_, elemsL_ndp s d (i + 1)⟩
      obtain ⟨n, e, h1, _⟩ := (elemsL_iff s _ d (i + 1)).1 h
      omega
theorem ex_max {f : Nat → Int} : ∀ (l : List Nat), l ≠ [] → ∃ x ∈ l, ∀ y ∈ l, f y ≤ f x
  | [], h => absurd rfl h
  | [a], _ => ⟨a, by simp, fun y hy => by rw [List.mem_singleton.1 hy]; omega⟩
  | a :: c :: l, _ => by
    obtain ⟨x, hx, h⟩ := ex_max (f := f) (c :: l) (by simp)
    by_cases hle : f a ≤ f x
    · exact ⟨x, List.mem_cons_of_mem _ hx, fun y hy => by
        rcases List.mem_cons.1 hy with rfl | hy
        · exact hle
        · exact h y hy⟩
    · refine ⟨a, by simp, fun y hy => ?_⟩
      rcases List.mem_cons.1 hy with rfl | hy
      · omega
      · have := h y hy; omega
/-- Among the attributes of one concept that another above it lacks, one bears a vector. -/
theorem diag_ex {m : Int} {b : List Int} {p q : Int × Int} (hp : p ∈ concF m b) (hq : q ∈ concF m b) (hsub : SubN p.1.toNat q.1.toNat) (hne : p.1 ≠ q.1) :
    SubN q.2.toNat p.2.toNat ∧ ∃ e : Nat, e < 8 ∧ p.2.toNat.testBit e = true ∧ q.2.toNat.testBit e = false ∧ goodB m b (e : Int) = true := by
  obtain ⟨hc, p2, p3, p4, p5⟩ := concF_mem hp
  obtain ⟨_, q2, q3, q4, q5⟩ := concF_mem hq
  have hl := isCtx_len hc
  have hsm := ctx_small hc
  have rp1 := isSet_le p2
  have rp := isSet_le p3
  have rq1 := isSet_le q2
  have rq := isSet_le q3
  obtain ⟨_, _, xp⟩ := extF_spec hl.1 hsm (s := p.2.toNat) (by omega)
  obtain ⟨_, _, xq⟩ := extF_spec hl.1 hsm (s := q.2.toNat) (by omega)
  rw [Int.toNat_of_nonneg (by omega), ← p4] at xp
  rw [Int.toNat_of_nonneg (by omega), ← q4] at xq
  obtain ⟨_, _, ip⟩ := intentF_spec (m := m) ⟨hl.2.1, by omega⟩ hl.1 hsm (isSet_8 p3)
  obtain ⟨_, _, iq⟩ := intentF_spec (m := m) ⟨hl.2.1, by omega⟩ hl.1 hsm (isSet_8 q3)
  rw [p5] at ip
  rw [q5] at iq
  have hBA : SubN q.2.toNat p.2.toNat := fun e he => (ip e).2 ⟨((iq e).1 he).1, fun k hk hkp => ((iq e).1 he).2 k hk (hsub k hkp)⟩
  refine ⟨hBA, ?_⟩
  have h8 : ∀ e : Nat, p.2.toNat.testBit e = true → e < 8 := fun e he => by have := ((ip e).1 he).1; omega
  let D : Nat → Bool := fun e => p.2.toNat.testBit e && !q.2.toNat.testBit e
  have hne0 : (List.range 8).filter D ≠ [] := by
    intro h0
    apply hne
    have : p.1.toNat = q.1.toNat := by
      apply Nat.eq_of_testBit_eq
      intro k
      rw [Bool.eq_iff_iff]
      refine ⟨hsub k, fun hk => (xp k).2 ⟨((xq k).1 hk).1, fun e he => ?_⟩⟩
      cases hq2 : q.2.toNat.testBit e
      · have : e ∈ (List.range 8).filter D := List.mem_filter.2 ⟨List.mem_range.2 (h8 e he), by change (p.2.toNat.testBit e && !q.2.toNat.testBit e) = true; rw [he, hq2]; rfl⟩
        rw [h0] at this
        cases this
      · exact ((xq k).1 hk).2 e hq2
    omega
  obtain ⟨e, he, hmax⟩ := ex_max (f := fun e => colF b (e : Int) * 16 + (15 - (e : Int))) _ hne0
  obtain ⟨he8, heD⟩ := List.mem_filter.1 he
  have he8 := List.mem_range.1 he8
  have heD : (p.2.toNat.testBit e && !q.2.toNat.testBit e) = true := heD
  rw [Bool.and_eq_true, Bool.not_eq_true'] at heD
  obtain ⟨eA, eB⟩ := heD
  have hem := ((ip e).1 eA).1
  have hmx : ∀ j : Nat, p.2.toNat.testBit j = true → q.2.toNat.testBit j = false → colF b (j : Int) * 16 + (15 - (j : Int)) ≤ colF b (e : Int) * 16 + (15 - (e : Int)) := fun j h1 h2 => by
    refine hmax j (List.mem_filter.2 ⟨List.mem_range.2 (h8 j h1), ?_⟩)
    change (p.2.toNat.testBit j && !q.2.toNat.testBit j) = true
    rw [h1, h2]
    rfl
  refine ⟨e, he8, eA, eB, ?_⟩
  have hA : attrOk m b (e : Int) = true := by
    unfold attrOk
    rw [hc, dt (by omega)]
    rfl
  have hd : dupF b (e : Int) = false := by
    unfold dupF
    rw [Bool.not_eq_false', allB_iff]
    intro j _ hj
    rw [Int.toNat_natCast] at hj
    cases hcj : colF b (j : Int) == colF b (e : Int)
    · rfl
    · exfalso
      have hcj := eq_of_beq hcj
      have hb : ∀ k, k < b.length → ((b.getD k 0).toNat.testBit j = true ↔ (b.getD k 0).toNat.testBit e = true) := fun k hk => by
        have h1 := colF_bit hl.1 j k
        have h2 := colF_bit hl.1 e k
        rw [hcj] at h1
        constructor
        · intro h; exact (h2.1 (h1.2 ⟨hk, h⟩)).2
        · intro h; exact (h1.1 (h2.2 ⟨hk, h⟩)).2
      have jA : p.2.toNat.testBit j = true := (ip j).2 ⟨by omega, fun k hk hkp => (hb k hk).2 (((ip e).1 eA).2 k hk hkp)⟩
      have jB : q.2.toNat.testBit j = false := by
        cases hq2 : q.2.toNat.testBit j
        · rfl
        · have : q.2.toNat.testBit e = true := (iq e).2 ⟨hem, fun k hk hkq => (hb k hk).1 (((iq j).1 hq2).2 k hk hkq)⟩
          rw [eB] at this
          cases this
      have := hmx j jA jB
      rw [hcj] at this
      omega
  have hr : reducF m b (e : Int) = false := by
    cases hr : reducF m b (e : Int)
    · rfl
    · exfalso
      unfold reducF at hr
      have hr := eq_of_beq hr
      have : q.2.toNat.testBit e = true := by
        refine (iq e).2 ⟨hem, fun k hk hkq => ?_⟩
        refine ((colF_bit hl.1 e k).1 ?_).2
        rw [← hr]
        refine beyond_bit k _ _ ?_ (fullSet_rng _) ?_ ?_
        · intro t ht
          obtain ⟨j, hj, rfl⟩ := List.getElem_of_mem ht
          have hlen : (colsF m b).length = m.toNat := colsL_length b _ _
          have hg : (colsF m b)[j] = colF b (j : Int) := by
            have := colsL_get b m.toNat 0 j (by omega)
            rw [Nat.zero_add] at this
            rw [← this]
            simp [List.getD, colsF] at hj ⊢
            rw [List.getElem?_eq_getElem hj]
            rfl
          rw [hg]
          exact colF_set b _ hl.1
        · rw [fullSet_bit (by omega) (by omega)]
          exact dt (by omega)
        · intro t ht hts hbn
          obtain ⟨j, hj, rfl⟩ := List.getElem_of_mem ht
          have hlen : (colsF m b).length = m.toNat := colsL_length b _ _
          have hg : (colsF m b)[j] = colF b (j : Int) := by
            have := colsL_get b m.toNat 0 j (by omega)
            rw [Nat.zero_add] at this
            rw [← this]
            simp [List.getD, colsF] at hj ⊢
            rw [List.getElem?_eq_getElem hj]
            rfl
          rw [hg] at hts hbn ⊢
          have ce := colF_set b (e : Int) hl.1
          have cj := colF_set b (j : Int) hl.1
          have hsb := (bnotSub ce cj).1 hbn
          have jA : p.2.toNat.testBit j = true := (ip j).2 ⟨by omega, fun k' hk' hkp => ((colF_bit hl.1 j k').1 (hsb k' ((colF_bit hl.1 e k').2 ⟨hk', ((ip e).1 eA).2 k' hk' hkp⟩))).2⟩
          have hlt : colF b (e : Int) < colF b (j : Int) := by
            have h1 : (colF b (e : Int)).toNat &&& (colF b (j : Int)).toNat = (colF b (e : Int)).toNat := by
              apply Nat.eq_of_testBit_eq
              intro i
              rw [Nat.testBit_and]
              cases hi : (colF b (e : Int)).toNat.testBit i
              · rfl
              · rw [hsb i hi]; rfl
            have h2 := Nat.and_le_right (n := (colF b (e : Int)).toNat) (m := (colF b (j : Int)).toNat)
            rw [h1] at h2
            omega
          have jB : q.2.toNat.testBit j = true := by
            cases hq2 : q.2.toNat.testBit j
            · have := hmx j jA hq2
              have := h8 j jA
              omega
            · rfl
          exact (colF_bit hl.1 j k).2 ⟨hk, ((iq j).1 jB).2 k hk hkq⟩
      rw [eB] at this
      cases this
  unfold goodB
  rw [hA, hd, hr]
  rfl
theorem spot_y {m : Int} {b : List Int} {x : Nat} (hx : x < (concF m b).length) : (spotF m b (x : Int)).2 = (((elemsF ((concF m b).getD x (0, 0)).2).filter (goodB m b)).length : Int) := by
  unfold spotF
  rw [inC_iff.2 (by omega), cond_true]
  unfold elC
  rw [Int.toNat_natCast]
  have := elemsL_length ((concF m b).getD x (0, 0)).2 8 0
  rw [spL_y _ _ _ _ _ (by omega) (by unfold elemsF; omega), Int.zero_add]
theorem diag_lt {m : Int} {b : List Int} {x y : Nat} (hx : x < (concF m b).length) (hy : y < (concF m b).length) (hne : x ≠ y) (hb : belowB (concF m b) x y = true) : (spotF m b (y : Int)).2 < (spotF m b (x : Int)).2 := by
  rw [spot_y hx, spot_y hy]
  have mp := mem_getD (d := ((0, 0) : Int × Int)) hx
  have mq := mem_getD (d := ((0, 0) : Int × Int)) hy
  unfold belowB at hb
  rw [inC_iff.2 (by omega), inC_iff.2 (by omega), cond_true, cond_true, Int.toNat_natCast, Int.toNat_natCast] at hb
  obtain ⟨_, p2, p3, _, _⟩ := concF_mem mp
  obtain ⟨_, q2, q3, _, _⟩ := concF_mem mq
  have rp := isSet_le p3
  have rq := isSet_le q3
  have hsub := (bandSub ⟨rp.2.2.1, rp.2.2.2⟩ ⟨rq.2.2.1, rq.2.2.2⟩).1 hb
  have hne1 : ((concF m b).getD x (0, 0)).1 ≠ ((concF m b).getD y (0, 0)).1 := by
    intro e
    apply hne
    have hnd := conc_nodup m b
    have hg : ∀ i, i < (concF m b).length → ((concF m b).map (·.1))[i]? = some ((concF m b).getD i (0, 0)).1 := fun i hi => by
      simp [List.getD, hi]
    exact (List.getElem?_inj (by rw [List.length_map]; exact hx) hnd).1 ((hg x hx).trans ((congrArg some e).trans (hg y hy).symm))
  obtain ⟨hBA, e, e8, eA, eB, eg⟩ := diag_ex mp mq hsub hne1
  have hmem : ∀ {s : Int}, isSet m s = true → isCtx m b = true → ∀ n : Nat, (n : Int) ∈ elemsF s ↔ n < 8 ∧ s.toNat.testBit n = true := fun {s} hs hc n => by
    have h8 := isSet_8' hs
    unfold elemsF
    rw [elemsL_iff]
    constructor
    · rintro ⟨n', e, h1, h2, h3⟩
      have e : n = n' := by omega
      subst e
      rw [hasE_bit h8 (by omega) (by omega)] at h3
      unfold bitI at h3
      rw [Int.toNat_natCast] at h3
      exact ⟨by omega, h3⟩
    · rintro ⟨h1, h2⟩
      refine ⟨n, rfl, by omega, by omega, ?_⟩
      rw [hasE_bit h8 (by omega) (by omega)]
      unfold bitI
      rw [Int.toNat_natCast]
      exact h2
  have hc := (concF_mem mp).1
  have := subLen ((e : Int) :: (elemsF ((concF m b).getD y (0, 0)).2).filter (goodB m b)) ((elemsF ((concF m b).getD x (0, 0)).2).filter (goodB m b)) ?_ ?_
  · rw [List.length_cons] at this
    omega
  · refine List.nodup_cons.2 ⟨fun h => ?_, (elemsL_ndp _ 8 0).sublist List.filter_sublist⟩
    have := ((hmem q2 hc e).1 (List.mem_filter.1 h).1).2
    rw [eB] at this
    cases this
  · intro z hz
    rcases List.mem_cons.1 hz with rfl | hz
    · exact List.mem_filter.2 ⟨(hmem p2 hc e).2 ⟨e8, eA⟩, eg⟩
    · obtain ⟨h1, h2⟩ := List.mem_filter.1 hz
      have h1' := h1
      unfold elemsF at h1'
      obtain ⟨n, rfl, _⟩ := (elemsL_iff _ _ _ _).1 h1'
      obtain ⟨g1, g2⟩ := (hmem q2 hc n).1 h1
      exact List.mem_filter.2 ⟨(hmem p2 hc n).2 ⟨g1, hBA n g2⟩, h2⟩
abbrev Cu := Int × Int
def curH (h : Int) : Int := IntKind.i64.wrap (IntKind.i64.wrap (h * 6364136223846793005) + 1442695040888963407)
def curX (h : Int) : Int := IntKind.i64.wrap ↑(BitVec.ofInt IntKind.i64.bits (IntKind.i64.wrap ↑(BitVec.ofInt IntKind.i64.bits ((curH h).fdiv (2 ^ min (Int.toNat 33) IntKind.i64.bits)) ^^^ BitVec.ofInt IntKind.i64.bits ((curH h).fdiv (2 ^ min (Int.toNat 45) IntKind.i64.bits))).toNat) &&& BitVec.ofInt IntKind.i64.bits 255).toNat
def curV (b : List Int) (c : Cu) : Int := if c.1 < b.length then band (IntKind.i64.wrap (curX c.2 + IntKind.i64.wrap (b.getD c.1.toNat 0))) 255 else curX c.2
def nx (b : List Int) (c : Cu) : Cu := (if c.1 < b.length then c.1 + 1 else c.1, curH c.2)
abbrev CuOk (b : List Int) (i : Int) : Prop := 0 ≤ i ∧ i ≤ b.length ∧ b.length ≤ 1048576
theorem nx_ok {b : List Int} {c : Cu} (h : CuOk b c.1) : CuOk b (nx b c).1 := by
  unfold nx
  dsimp only
  split
  · exact ⟨by omega, by omega, h.2.2⟩
  · exact h
theorem band_byte (x : Int) : 0 ≤ band x 255 ∧ band x 255 ≤ 255 := by
  unfold band
  have h : (BitVec.ofInt IntKind.i64.bits x &&& BitVec.ofInt IntKind.i64.bits 255).toNat ≤ 255 := by
    rw [BitVec.toNat_and]
    exact Nat.and_le_right
  rw [wrap64 (by omega) (by omega)]
  omega
theorem curV_rng (b : List Int) (c : Cu) : 0 ≤ curV b c ∧ curV b c ≤ 255 := by
  unfold curV
  split
  · exact band_byte _
  · exact band_byte _
def be (b : List Int) (c : Cu) (n : Int) : Int := (curV b c).tmod n
theorem be_rng (b : List Int) (c : Cu) {n : Int} (h : 0 < n) : 0 ≤ be b c n ∧ be b c n < n := by
  have := curV_rng b c
  unfold be
  exact ⟨Int.tmod_nonneg _ this.1, Int.tmod_lt_of_pos _ h⟩
def shlI (n : Int) : Int := IntKind.i64.wrap (1 * 2 ^ min n.toNat IntKind.i64.bits)
theorem shlI_nat {n : Nat} (h : n ≤ 8) : shlI (n : Int) = ((2 ^ n : Nat) : Int) := shl1 (by omega)
theorem shlI_rng {n : Int} (h0 : 0 ≤ n) (h8 : n ≤ 8) : 1 ≤ shlI n ∧ shlI n ≤ 256 := by
  obtain ⟨k, rfl⟩ : ∃ k : Nat, n = k := ⟨n.toNat, by omega⟩
  have h8 : 2 ^ k ≤ 2 ^ 8 := Nat.pow_le_pow_right (by omega) (by omega)
  have hp := Nat.two_pow_pos k
  rw [shlI_nat (by omega)]
  omega
def pick4 (x y z w : Int) (b : List Int) (c : Cu) : Int := [x, y, z, w].getD (be b c 4).toNat 0
/-- A set, mostly, and the cursor behind it. -/
def bent2 (b : List Int) (c : Cu) : Int := bif be b c 8 == 0 then pick4 (-1) 256 1000 (-9223372036854775808) b (nx b c) else be b (nx b c) 256
def mkRows (b : List Int) (m : Int) : Nat → Cu → List Int × Cu
  | 0, c => ([], c)
  | d + 1, c => bif be b c 2 == 0 then
      (be b (nx b c) (shlI m) :: (mkRows b m d (nx b (nx b c))).1, (mkRows b m d (nx b (nx b c))).2)
    else (bor (be b (nx b c) (shlI m)) (be b (nx b (nx b c)) (shlI m)) :: (mkRows b m d (nx b (nx b (nx b c)))).1, (mkRows b m d (nx b (nx b (nx b c)))).2)
theorem mkRows_ok {b : List Int} {m : Int} : ∀ (d : Nat) (c : Cu), CuOk b c.1 → (mkRows b m d c).1.length = d ∧ CuOk b (mkRows b m d c).2.1
  | 0, c, h => ⟨rfl, h⟩
  | d + 1, c, h => by
    have h1 := mkRows_ok (m := m) d (nx b (nx b c)) (nx_ok (nx_ok h))
    have h2 := mkRows_ok (m := m) d (nx b (nx b (nx b c))) (nx_ok (nx_ok (nx_ok h)))
    unfold mkRows
    cases be b c 2 == 0
    · exact ⟨by rw [cond_false, List.length_cons, h2.1], h2.2⟩
    · exact ⟨by rw [cond_true, List.length_cons, h1.1], h1.2⟩
def make3 (b : List Int) (m o : Int) (c : Cu) : List Int × Cu := mkRows b m (be b c (o + 1)).toNat (nx b c)
theorem make3_ok {b : List Int} {m o : Int} {c : Cu} (h : CuOk b c.1) (ho : 0 ≤ o) : ((make3 b m o c).1.length : Int) ≤ o ∧ CuOk b (make3 b m o c).2.1 := by
  have h1 := mkRows_ok (m := m) (be b c (o + 1)).toNat (nx b c) (nx_ok h)
  have h2 := be_rng b c (n := o + 1) (by omega)
  unfold make3
  exact ⟨by omega, h1.2⟩
def draw3m (b : List Int) (c : Cu) : Int := ([0, 1, 2, 3, 3, 4, 4, 5, 5] : List Int).getD (be b c 9).toNat 0
theorem draw3m_rng (b : List Int) (c : Cu) : 0 ≤ draw3m b c ∧ draw3m b c ≤ 5 := by
  have h := be_rng b c (n := 9) (by omega)
  unfold draw3m
  obtain ⟨k, hk⟩ : ∃ k : Nat, be b c 9 = k := ⟨(be b c 9).toNat, by omega⟩
  rw [hk] at h ⊢
  have : ∀ k : Fin 9, 0 ≤ ([0, 1, 2, 3, 3, 4, 4, 5, 5] : List Int).getD ((k.val : Int)).toNat 0 ∧ ([0, 1, 2, 3, 3, 4, 4, 5, 5] : List Int).getD ((k.val : Int)).toNat 0 ≤ 5 := by decide
  exact this ⟨k, by omega⟩
/-- A context: attributes, rows, and the cursor behind it. -/
def draw3 (b : List Int) (c : Cu) : Int × List Int × Cu := (draw3m b c, make3 b (draw3m b c) 6 (nx b c))
theorem draw3_ok {b : List Int} {c : Cu} (h : CuOk b c.1) : (0 ≤ (draw3 b c).1 ∧ (draw3 b c).1 ≤ 5) ∧ (draw3 b c).2.1.length ≤ 6 ∧ CuOk b (draw3 b c).2.2.1 := by
  have h1 := make3_ok (b := b) (m := draw3m b c) (o := 6) (nx_ok h) (by omega)
  exact ⟨draw3m_rng b c, by have := h1.1; unfold draw3; dsimp only; omega, h1.2⟩
def pad9 (a : List Int) : List Int := a ++ List.replicate (9 - a.length) 0
def bent3' (b : List Int) (x : Int × List Int × Cu) : Int × List Int × Cu :=
  bif be b x.2.2 14 == 0 then (pick4 (-1) 0 2 7 b (nx b x.2.2), x.2.1, nx b (nx b x.2.2))
  else bif be b x.2.2 14 == 1 then (x.1, x.2.1 ++ [bent2 b (nx b x.2.2)], nx b (nx b (nx b x.2.2)))
  else bif be b x.2.2 14 == 2 then (x.1, pad9 x.2.1, nx b x.2.2) else (x.1, x.2.1, nx b x.2.2)
def bent3 (b : List Int) (c : Cu) : Int × List Int × Cu := bent3' b (draw3 b c)
theorem bent3_ok {b : List Int} {c : Cu} (h : CuOk b c.1) : (bent3 b c).2.1.length ≤ 9 ∧ CuOk b (bent3 b c).2.2.1 := by
  obtain ⟨h1, h2, h3⟩ := draw3_ok h
  unfold bent3
  generalize draw3 b c = x at h1 h2 h3
  unfold bent3'
  have n1 := nx_ok h3
  have n2 := nx_ok n1
  have n3 := nx_ok n2
  cases be b x.2.2 14 == 0
  · cases be b x.2.2 14 == 1
    · cases be b x.2.2 14 == 2
      · exact ⟨by simp only [cond_false]; omega, n1⟩
      · refine ⟨?_, n1⟩
        simp only [cond_false, cond_true, pad9, List.length_append, List.length_replicate]
        omega
    · refine ⟨?_, n3⟩
      simp only [cond_false, cond_true, List.length_append, List.length_singleton]
      omega
  · exact ⟨by simp only [cond_true]; omega, n2⟩
def newL (b : List Int) : Nat → Nat → Int → Int
  | 0, _, h => h
  | d + 1, i, h => newL b d (i + 1) (band (IntKind.i64.wrap (IntKind.i64.wrap (IntKind.i64.wrap (h * 131) + IntKind.i64.wrap (b.getD i 0)) + 7)) 1073741823)
def newC (b : List Int) : Cu := (0, newL b (min b.length 4000) 0 (IntKind.i64.wrap (26583 + b.length)))
theorem newC_ok {b : List Int} (h : b.length ≤ 1048576) : CuOk b (newC b).1 := ⟨Int.le_refl 0, Int.natCast_nonneg _, h⟩
/-- A context with a set of its attributes, mostly. -/
def att4 (b : List Int) (c : Cu) : Int × List Int × Int :=
  bif be b (nx b (draw3 b c).2.2) 16 == 0 then ((bent3 b (nx b (nx b (draw3 b c).2.2))).1, (bent3 b (nx b (nx b (draw3 b c).2.2))).2.1, be b (draw3 b c).2.2 (shlI (draw3 b c).1))
  else bif be b (nx b (draw3 b c).2.2) 16 == 1 then ((draw3 b c).1, (draw3 b c).2.1, bent2 b (nx b (nx b (draw3 b c).2.2)))
  else ((draw3 b c).1, (draw3 b c).2.1, be b (draw3 b c).2.2 (shlI (draw3 b c).1))
theorem att4_len {b : List Int} {c : Cu} (h : CuOk b c.1) : (att4 b c).2.1.length ≤ 9 := by
  obtain ⟨h1, h2, h3⟩ := draw3_ok h
  have h4 := bent3_ok (b := b) (c := nx b (nx b (draw3 b c).2.2)) (nx_ok (nx_ok h3))
  unfold att4
  cases be b (nx b (draw3 b c).2.2) 16 == 0
  · cases be b (nx b (draw3 b c).2.2) 16 == 1
    · simp only [cond_false]; omega
    · simp only [cond_false, cond_true]; omega
  · simp only [cond_true]; exact h4.1
def two6a (b : List Int) (c : Cu) : Int := be b (bent3 b c).2.2 ((concF (bent3 b c).1 (bent3 b c).2.1).length + 2) - 1
def two6b (b : List Int) (c : Cu) : Int := be b (nx b (bent3 b c).2.2) ((concF (bent3 b c).1 (bent3 b c).2.1).length + 2) - 1
/- spec.l1New -/
def K_l1New : List AV → List Ob → Option (AV × List Ob)
  | [.lst (.int .u8) b], [] => gd (b.length ≤ 1048576) (.ptr 0 0, [.box 99 [.lst (.int .u8) b, .int .i64 (newC b).1, .int .i64 (newC b).2]])
  | _, _ => none
@[reducible] def E_l1New : Env := mkE (tb []) (fun f => false) (fun r => bif r == 3 then ([0, 3, 4], [0, 3]) else ([], []))
theorem lp_l1New (b : List Int) (hb : b.length ≤ 1048576) (k : AX → S → Option (AV × List Ob)) (d : Nat) : ∀ (n i : Nat) (x h : Int), min b.length 4000 - i = d → i ≤ min b.length 4000 → x = i → d < n →
    lpAt E_l1New (lp E_l1New 0 n) 0 (loopAt Tryz.f42 0) (mkS [0, 3, 4] [.lst (.int .u8) b, .int .i64 h, .int .i64 x] []) k =
      k (.exit 0) (mkS [0, 3] [.lst (.int .u8) b, .int .i64 (newL b d i h)] []) := by
  induction d with
  | zero =>
    intro n i x h hd hi hx hn
    subst hx
    rw [lpAt_def]
    conv => lhs; whnf
    refine br_c (fun g => ?_) (fun g => ?_)
    · have g' := ofd g
      conv => lhs; whnf
      repeat ((first | with_reducible apply br_tt | with_reducible apply br_ff | with_reducible apply br_nf | with_reducible apply br_nt | with_reducible refine br_d ?_ (by kernel_rfl) | with_reducible apply br_t g | with_reducible apply br_f g); conv => lhs; whnf)
      refine br_f (df (by omega)) ?_
      conv => lhs; whnf
      all_goals rfl
    · conv => lhs; whnf
      repeat ((first | with_reducible apply br_tt | with_reducible apply br_ff | with_reducible apply br_nf | with_reducible apply br_nt | with_reducible refine br_d ?_ (by kernel_rfl) | with_reducible apply br_t g | with_reducible apply br_f g); conv => lhs; whnf)
      all_goals rfl
  | succ d ih =>
    intro n i x h hd hi hx hn
    obtain ⟨n, rfl⟩ : ∃ m, n = m + 1 := ⟨n - 1, by omega⟩
    subst hx
    rw [lpAt_def]
    have g : decide ((i : Int) < (b.length : Int)) = true := dt (by omega)
    conv => lhs; whnf
    repeat ((first | with_reducible apply br_tt | with_reducible apply br_ff | with_reducible apply br_nf | with_reducible apply br_nt | with_reducible refine br_d ?_ (by kernel_rfl) | with_reducible apply br_t g | with_reducible apply br_f g); conv => lhs; whnf)
    refine br_t (dt (by omega)) ?_
    conv => lhs; whnf
    refine br_t (dt2 (by omega) (by omega)) ?_
    conv => lhs; whnf
    refine Eq.trans (b := lpAt E_l1New (lp E_l1New 0 n) 0 (loopAt Tryz.f42 0) (mkS [0, 3, 4] [.lst (.int .u8) b, .int .i64 (band (IntKind.i64.wrap (IntKind.i64.wrap (IntKind.i64.wrap (h * 131) + IntKind.i64.wrap (b.getD i 0)) + 7)) 1073741823), .int .i64 (IntKind.i64.wrap ((i : Int) + 1))] []) k) rfl ?_
    exact ih n (i + 1) (IntKind.i64.wrap ((i : Int) + 1)) _ (by omega) (by omega) (by rw [wrap64 (n := (i : Int) + 1) (by omega) (by omega)]; simp) (by omega)
theorem ev_l1New (b : List Int) (hp : b.length ≤ 1048576) : evF E_l1New (4010) Tryz.f42 [.lst (.int .u8) b] [] = some (.ptr 0 0, [.box 99 [.lst (.int .u8) b, .int .i64 (newC b).1, .int .i64 (newC b).2]]) := by
  conv => lhs; whnf
  refine (lp_l1New b hp _ (min b.length 4000) _ 0 0 _ rfl (Nat.zero_le _) rfl (by change _ < 4009; omega)).trans ?_
  conv => lhs; whnf
  rfl
theorem ok_l1New : FnOk Tryz.prog 42 K_l1New := by
  refine fn_ok (fn := Tryz.f42) (k := Tryz.f42.ntmps) (E := E_l1New) (facts_of (List.forall_mem_nil _)) (by kernel_rfl) rfl (by decide +kernel) (by decide +kernel) ?_
  intro avs hin r h
  unfold K_l1New at h
  split at h
  · obtain ⟨hp, rfl⟩ := gd_o h
    exact ⟨_, ev_l1New _ hp, rfl⟩
  · cases h

/- spec.l1Byte -/
def K_l1Byte : List AV → List Ob → Option (AV × List Ob)
  | [.ptr 0 0], [.box 99 [.lst (.int .u8) b, .int .i64 i, .int .i64 h]] => gd (CuOk b i) (.int .i64 (curV b (i, h)), [.box 99 [.lst (.int .u8) b, .int .i64 (nx b (i, h)).1, .int .i64 (nx b (i, h)).2]])
  | _, _ => none
@[reducible] def E_l1Byte : Env := mkE (tb []) (fun f => false) (fun r => ([], []))
theorem ev_l1Byte (b : List Int) (i h : Int) (hp : CuOk b i) : evF E_l1Byte (1) Tryz.f95 [.ptr 0 0] [.box 99 [.lst (.int .u8) b, .int .i64 i, .int .i64 h]] = some (.int .i64 (curV b (i, h)), [.box 99 [.lst (.int .u8) b, .int .i64 (nx b (i, h)).1, .int .i64 (nx b (i, h)).2]]) := by
  have h1 := hp.1
  have h2 := hp.2.1
  have h3 := hp.2.2
  conv => lhs; whnf
  refine br_f (df (by omega)) ?_
  conv => lhs; whnf
  refine br_f (df (by omega)) ?_
  conv => lhs; whnf
  refine br_t (by kernel_rfl) ?_
  conv => lhs; whnf
  refine br_t (by kernel_rfl) ?_
  conv => lhs; whnf
  refine br_c (fun hc => ?_) (fun hc => ?_)
  · have h' := ofd hc
    conv => lhs; whnf
    refine br_t (dt2 (by omega) (by omega)) ?_
    conv => lhs; whnf
    refine br_t (by kernel_rfl) ?_
    conv => lhs; whnf
    have e1 : nx b (i, h) = (i + 1, curH h) := by unfold nx; rw [if_pos h']
    have e2 : curV b (i, h) = band (IntKind.i64.wrap (curX h + IntKind.i64.wrap (b.getD i.toNat 0))) 255 := if_pos h'
    rw [e1, e2, wrap64 (n := i + 1) (by omega) (by omega)]
    rfl
  · have h' := ofn hc
    conv => lhs; whnf
    have e1 : nx b (i, h) = (i, curH h) := by unfold nx; rw [if_neg h']
    have e2 : curV b (i, h) = curX h := if_neg h'
    rw [e1, e2]
    rfl
theorem ok_l1Byte : FnOk Tryz.prog 95 K_l1Byte := by
  refine fn_ok (fn := Tryz.f95) (k := Tryz.f95.ntmps) (E := E_l1Byte) (facts_of (List.forall_mem_nil _)) (by kernel_rfl) rfl (by decide +kernel) (by decide +kernel) ?_
  intro avs hin r h
  unfold K_l1Byte at h
  split at h
  · obtain ⟨hp, rfl⟩ := gd_o h
    exact ⟨_, ev_l1Byte _ _ _ hp, rfl⟩
  · cases h

/- spec.l1Below -/
def K_l1Below : List AV → List Ob → Option (AV × List Ob)
  | [.ptr 0 0, .int .i64 n], [.box 99 [.lst (.int .u8) b, .int .i64 i, .int .i64 h]] => gd (CuOk b i ∧ 1 ≤ n ∧ n ≤ 256) (.int .i64 (be b (i, h) n), [.box 99 [.lst (.int .u8) b, .int .i64 (nx b (i, h)).1, .int .i64 (nx b (i, h)).2]])
  | _, _ => none
@[reducible] def E_l1Below : Env := mkE (tb [(95, K_l1Byte)]) (fun f => [95].contains f) (fun r => ([], []))
theorem ev_l1Below (b : List Int) (i h : Int) (n : Int) (hp : CuOk b i ∧ 1 ≤ n ∧ n ≤ 256) : evF E_l1Below (1) Tryz.f52 [.ptr 0 0, .int .i64 n] [.box 99 [.lst (.int .u8) b, .int .i64 i, .int .i64 h]] = some (.int .i64 (be b (i, h) n), [.box 99 [.lst (.int .u8) b, .int .i64 (nx b (i, h)).1, .int .i64 (nx b (i, h)).2]]) := by
  have h1 := hp.2.1
  have h2 := hp.2.2
  have hr := be_rng b (i, h) (n := n) (by omega)
  conv => lhs; whnf
  refine br_f (df (by omega)) ?_
  conv => lhs; whnf
  refine br_t (dt (by omega)) ?_
  conv => lhs; whnf
  conv => lhs; arg 1; whnf
  refine bnd_g (by exact hp.1) ?_
  conv => lhs; whnf
  refine br_f (df (by omega)) ?_
  conv => lhs; whnf
  rfl
theorem ok_l1Below : FnOk Tryz.prog 52 K_l1Below := by
  refine fn_ok (fn := Tryz.f52) (k := Tryz.f52.ntmps) (E := E_l1Below) (facts_of (List.forall_mem_cons.2 ⟨ok_l1Byte, List.forall_mem_nil _⟩)) (by kernel_rfl) rfl (by decide +kernel) (by decide +kernel) ?_
  intro avs hin r h
  unfold K_l1Below at h
  split at h
  · obtain ⟨hp, rfl⟩ := gd_o h
    exact ⟨_, ev_l1Below _ _ _ _ hp, rfl⟩
  · cases h

/- spec.l1PickInt -/
def K_l1PickInt : List AV → List Ob → Option (AV × List Ob)
  | [.ptr 0 0, .own 1], [.box 99 [.lst (.int .u8) b, .int .i64 i, .int .i64 h], .row 3 (.int .i64) l] => gd (CuOk b i ∧ 1 ≤ l.length ∧ l.length ≤ 256) (.int .i64 (l.getD (be b (i, h) (l.length : Int)).toNat 0), [.box 99 [.lst (.int .u8) b, .int .i64 (nx b (i, h)).1, .int .i64 (nx b (i, h)).2], .row 3 (.int .i64) l])
  | _, _ => none
@[reducible] def E_l1PickInt : Env := mkE (tb [(52, K_l1Below)]) (fun f => [52].contains f) (fun r => ([], []))
theorem ev_l1PickInt (b : List Int) (i h : Int) (l : List Int) (hp : CuOk b i ∧ 1 ≤ l.length ∧ l.length ≤ 256) : evF E_l1PickInt (1) Tryz.f113 [.ptr 0 0, .own 1] [.box 99 [.lst (.int .u8) b, .int .i64 i, .int .i64 h], .row 3 (.int .i64) l] = some (.int .i64 (l.getD (be b (i, h) (l.length : Int)).toNat 0), [.box 99 [.lst (.int .u8) b, .int .i64 (nx b (i, h)).1, .int .i64 (nx b (i, h)).2], .row 3 (.int .i64) l]) := by
  have hr := be_rng b (i, h) (n := (l.length : Int)) (by omega)
  conv => lhs; whnf
  conv => lhs; arg 1; whnf
  refine bnd_g (by exact ⟨hp.1, by omega, by omega⟩) ?_
  conv => lhs; whnf
  refine br_t (dt2 (by omega) (by omega)) ?_
  conv => lhs; whnf
  refine br_t (dt (by omega)) ?_
  conv => lhs; whnf
  rfl
theorem ok_l1PickInt : FnOk Tryz.prog 113 K_l1PickInt := by
  refine fn_ok (fn := Tryz.f113) (k := Tryz.f113.ntmps) (E := E_l1PickInt) (facts_of (List.forall_mem_cons.2 ⟨ok_l1Below, List.forall_mem_nil _⟩)) (by kernel_rfl) rfl (by decide +kernel) (by decide +kernel) ?_
  intro avs hin r h
  unfold K_l1PickInt at h
  split at h
  · obtain ⟨hp, rfl⟩ := gd_o h
    exact ⟨_, ev_l1PickInt _ _ _ _ hp, rfl⟩
  · cases h

/- spec.l1Once -/
def K_l1Once : List AV → List Ob → Option (AV × List Ob)
  | [.ptr 0 0, .int .i64 n], [.box 99 [.lst (.int .u8) b, .int .i64 i, .int .i64 h]] => gd (CuOk b i ∧ 1 ≤ n ∧ n ≤ 256) (.bool (be b (i, h) n == 0), [.box 99 [.lst (.int .u8) b, .int .i64 (nx b (i, h)).1, .int .i64 (nx b (i, h)).2]])
  | _, _ => none
@[reducible] def E_l1Once : Env := mkE (tb [(52, K_l1Below)]) (fun f => [52].contains f) (fun r => ([], []))
theorem ev_l1Once (b : List Int) (i h : Int) (n : Int) (hp : CuOk b i ∧ 1 ≤ n ∧ n ≤ 256) : evF E_l1Once (1) Tryz.f89 [.ptr 0 0, .int .i64 n] [.box 99 [.lst (.int .u8) b, .int .i64 i, .int .i64 h]] = some (.bool (be b (i, h) n == 0), [.box 99 [.lst (.int .u8) b, .int .i64 (nx b (i, h)).1, .int .i64 (nx b (i, h)).2]]) := by
  conv => lhs; whnf
  conv => lhs; arg 1; whnf
  refine bnd_g (by exact hp) ?_
  conv => lhs; whnf
theorem ok_l1Once : FnOk Tryz.prog 89 K_l1Once := by
  refine fn_ok (fn := Tryz.f89) (k := Tryz.f89.ntmps) (E := E_l1Once) (facts_of (List.forall_mem_cons.2 ⟨ok_l1Below, List.forall_mem_nil _⟩)) (by kernel_rfl) rfl (by decide +kernel) (by decide +kernel) ?_
  intro avs hin r h
  unfold K_l1Once at h
  split at h
  · obtain ⟨hp, rfl⟩ := gd_o h
    exact ⟨_, ev_l1Once _ _ _ _ hp, rfl⟩
  · cases h

/- spec.l3Make -/
def K_l3Make : List AV → List Ob → Option (AV × List Ob)
  | [.ptr 0 0, .int .i64 m, .int .i64 o], [.box 99 [.lst (.int .u8) b, .int .i64 i, .int .i64 h]] => gd (CuOk b i ∧ (0 ≤ m ∧ m ≤ 8) ∧ 0 ≤ o ∧ o ≤ 90) (.agg [.int .i64 m, .own 1], [.box 99 [.lst (.int .u8) b, .int .i64 (make3 b m o (i, h)).2.1, .int .i64 (make3 b m o (i, h)).2.2], .row 3 (.int .i64) (make3 b m o (i, h)).1])
  | _, _ => none
@[reducible] def E_l3Make : Env := mkE (tb [(89, K_l1Once), (52, K_l1Below)]) (fun f => [89, 52].contains f) (fun r => bif r == 4 then ([0, 1, 6, 7, 8, 9], [6, 7]) else ([], []))
theorem lp_l3Make (b : List Int) (m : Int) (hm : 0 ≤ m ∧ m ≤ 8) (N : Int) (hN : 0 ≤ N ∧ N ≤ 100) (k : AX → S → Option (AV × List Ob)) (d : Nat) : ∀ (n i : Nat) (x i0 h0 : Int) (zs : List Int), N.toNat - i = d → i ≤ N.toNat → x = i → d < n → CuOk b i0 → zs.length ≤ i →
    lpAt E_l3Make (lp E_l3Make 1 n) 1 (loopAt Tryz.f127 0) (mkS [0, 1, 6, 7, 8, 9] [.ptr 0 0, .int .i64 m, .ptr 1 0, .ptr 3 0, .int .i64 N, .int .i64 x] [some (.box 99 [.lst (.int .u8) b, .int .i64 i0, .int .i64 h0]), some (.box 29 [.int .i64 0, .own 2]), some (.row 3 (.int .i64) []), some (.box 29 [.int .i64 m, .own 4]), some (.row 3 (.int .i64) zs)]) k =
      k (.exit 0) (mkS [6, 7] [.ptr 1 0, .ptr 3 0] [some (.box 99 [.lst (.int .u8) b, .int .i64 (mkRows b m d (i0, h0)).2.1, .int .i64 (mkRows b m d (i0, h0)).2.2]), some (.box 29 [.int .i64 0, .own 2]), some (.row 3 (.int .i64) []), some (.box 29 [.int .i64 m, .own 4]), some (.row 3 (.int .i64) (zs ++ (mkRows b m d (i0, h0)).1))]) := by
  have hs := shlI_rng hm.1 hm.2
  have hu := wrapu hm.1 hm.2
  induction d with
  | zero =>
    intro n i x i0 h0 zs hd hi hx hn hc hz
    subst hx
    rw [lpAt_def]
    conv => lhs; whnf
    refine br_f (df (by omega)) ?_
    conv => lhs; whnf
    rw [mkRows, List.append_nil]
  | succ d ih =>
    intro n i x i0 h0 zs hd hi hx hn hc hz
    obtain ⟨n, rfl⟩ : ∃ m, n = m + 1 := ⟨n - 1, by omega⟩
    subst hx
    have n1 := nx_ok (c := (i0, h0)) hc
    have n2 := nx_ok n1
    have n3 := nx_ok n2
    rw [lpAt_def]
    conv => lhs; whnf
    refine br_t (dt (by omega)) ?_
    conv => lhs; whnf
    conv => lhs; arg 1; whnf
    refine bnd_g (by exact ⟨hc, by omega, by omega⟩) ?_
    conv => lhs; whnf
    refine br_c (fun g => ?_) (fun g => ?_)
    · conv => lhs; whnf
      rw [hu]
      refine br_f (df (by omega)) ?_
      conv => lhs; whnf
      conv => lhs; arg 1; whnf
      refine bnd_g (by exact ⟨n1, hs⟩) ?_
      conv => lhs; whnf
      refine br_t (dt (by simp [room]; omega)) ?_
      conv => lhs; whnf
      refine br_t (by kernel_rfl) ?_
      conv => lhs; whnf
      refine (ih n (i + 1) (IntKind.i64.wrap ((i : Int) + 1)) _ _ _ (by omega) (by omega) (by rw [wrap64 (n := (i : Int) + 1) (by omega) (by omega)]; simp) (by omega) n2 (by simp; omega)).trans ?_
      have e : mkRows b m (d + 1) (i0, h0) = (be b (nx b (i0, h0)) (shlI m) :: (mkRows b m d (nx b (nx b (i0, h0)))).1, (mkRows b m d (nx b (nx b (i0, h0)))).2) := by rw [mkRows, g]; rfl
      rw [e, List.append_assoc]
      rfl
    · conv => lhs; whnf
      rw [hu]
      refine br_f (df (by omega)) ?_
      conv => lhs; whnf
      conv => lhs; arg 1; whnf
      refine bnd_g (by exact ⟨n1, hs⟩) ?_
      conv => lhs; whnf
      rw [hu]
      refine br_f (df (by omega)) ?_
      conv => lhs; whnf
      conv => lhs; arg 1; whnf
      refine bnd_g (by exact ⟨n2, hs⟩) ?_
      conv => lhs; whnf
      refine br_t (dt (by simp [room]; omega)) ?_
      conv => lhs; whnf
      refine br_t (by kernel_rfl) ?_
      conv => lhs; whnf
      refine (ih n (i + 1) (IntKind.i64.wrap ((i : Int) + 1)) _ _ _ (by omega) (by omega) (by rw [wrap64 (n := (i : Int) + 1) (by omega) (by omega)]; simp) (by omega) n3 (by simp; omega)).trans ?_
      have e : mkRows b m (d + 1) (i0, h0) = (bor (be b (nx b (i0, h0)) (shlI m)) (be b (nx b (nx b (i0, h0))) (shlI m)) :: (mkRows b m d (nx b (nx b (nx b (i0, h0))))).1, (mkRows b m d (nx b (nx b (nx b (i0, h0))))).2) := by rw [mkRows, g]; rfl
      rw [e, List.append_assoc]
      rfl
theorem ev_l3Make (b : List Int) (i h m o : Int) (hp : CuOk b i ∧ (0 ≤ m ∧ m ≤ 8) ∧ 0 ≤ o ∧ o ≤ 90) : evF E_l3Make (100) Tryz.f127 [.ptr 0 0, .int .i64 m, .int .i64 o] [.box 99 [.lst (.int .u8) b, .int .i64 i, .int .i64 h]] = some (.agg [.int .i64 m, .own 1], [.box 99 [.lst (.int .u8) b, .int .i64 (make3 b m o (i, h)).2.1, .int .i64 (make3 b m o (i, h)).2.2], .row 3 (.int .i64) (make3 b m o (i, h)).1]) := by
  have hr := be_rng b (i, h) (n := o + 1) (by omega)
  have n1 := nx_ok (c := (i, h)) hp.1
  have hw : IntKind.i64.wrap (o + 1) = o + 1 := wrap64 (by omega) (by omega)
  conv => lhs; whnf
  rw [hw]
  conv => lhs; arg 1; whnf
  refine bnd_g (by exact ⟨hp.1, by omega, by omega⟩) ?_
  conv => lhs; whnf
  refine (lp_l3Make b m hp.2.1 (be b (i, h) (o + 1)) (by omega) _ (be b (i, h) (o + 1)).toNat _ 0 0 (nx b (i, h)).1 (nx b (i, h)).2 [] rfl (by omega) rfl (by change _ < 99; omega) n1 (by simp)).trans ?_
  conv => lhs; whnf
  rfl
theorem ok_l3Make : FnOk Tryz.prog 127 K_l3Make := by
  refine fn_ok (fn := Tryz.f127) (k := Tryz.f127.ntmps) (E := E_l3Make) (facts_of (List.forall_mem_cons.2 ⟨ok_l1Once, List.forall_mem_cons.2 ⟨ok_l1Below, List.forall_mem_nil _⟩⟩)) (by kernel_rfl) rfl (by decide +kernel) (by decide +kernel) ?_
  intro avs hin r h
  unfold K_l3Make at h
  split at h
  · obtain ⟨hp, rfl⟩ := gd_o h
    exact ⟨_, ev_l3Make _ _ _ _ _ hp, rfl⟩
  · cases h

/- spec.l3Draw -/
def K_l3Draw : List AV → List Ob → Option (AV × List Ob)
  | [.ptr 0 0], [.box 99 [.lst (.int .u8) b, .int .i64 i, .int .i64 h]] => gd (CuOk b i) (.agg [.int .i64 (draw3 b (i, h)).1, .own 1], [.box 99 [.lst (.int .u8) b, .int .i64 (draw3 b (i, h)).2.2.1, .int .i64 (draw3 b (i, h)).2.2.2], .row 3 (.int .i64) (draw3 b (i, h)).2.1])
  | _, _ => none
@[reducible] def E_l3Draw : Env := mkE (tb [(113, K_l1PickInt), (127, K_l3Make)]) (fun f => [113, 127].contains f) (fun r => ([], []))
theorem ev_l3Draw (b : List Int) (i h : Int) (hp : CuOk b i) : evF E_l3Draw (1) Tryz.f112 [.ptr 0 0] [.box 99 [.lst (.int .u8) b, .int .i64 i, .int .i64 h]] = some (.agg [.int .i64 (draw3 b (i, h)).1, .own 1], [.box 99 [.lst (.int .u8) b, .int .i64 (draw3 b (i, h)).2.2.1, .int .i64 (draw3 b (i, h)).2.2.2], .row 3 (.int .i64) (draw3 b (i, h)).2.1]) := by
  have n1 := nx_ok (c := (i, h)) hp
  have hm := draw3m_rng b (i, h)
  conv => lhs; whnf
  conv => lhs; arg 1; whnf
  refine bnd_g (by exact ⟨hp, by simp, by simp⟩) ?_
  conv => lhs; whnf
  conv => lhs; arg 1; whnf
  refine bnd_g (by exact ⟨n1, ⟨hm.1, by have := hm.2; exact Int.le_trans hm.2 (by omega)⟩, by omega, by omega⟩) ?_
  conv => lhs; whnf
  all_goals rfl
theorem ok_l3Draw : FnOk Tryz.prog 112 K_l3Draw := by
  refine fn_ok (fn := Tryz.f112) (k := Tryz.f112.ntmps) (E := E_l3Draw) (facts_of (List.forall_mem_cons.2 ⟨ok_l1PickInt, List.forall_mem_cons.2 ⟨ok_l3Make, List.forall_mem_nil _⟩⟩)) (by kernel_rfl) rfl (by decide +kernel) (by decide +kernel) ?_
  intro avs hin r h
  unfold K_l3Draw at h
  split at h
  · obtain ⟨hp, rfl⟩ := gd_o h
    exact ⟨_, ev_l3Draw _ _ _ hp, rfl⟩
  · cases h

/- spec.l2Bent -/
def K_l2Bent : List AV → List Ob → Option (AV × List Ob)
  | [.ptr 0 0], [.box 99 [.lst (.int .u8) b, .int .i64 i, .int .i64 h]] => gd (CuOk b i) (.int .i64 (bent2 b (i, h)), [.box 99 [.lst (.int .u8) b, .int .i64 (nx b (nx b (i, h))).1, .int .i64 (nx b (nx b (i, h))).2]])
  | _, _ => none
@[reducible] def E_l2Bent : Env := mkE (tb [(89, K_l1Once), (113, K_l1PickInt), (52, K_l1Below)]) (fun f => [89, 113, 52].contains f) (fun r => ([], []))
theorem ev_l2Bent (b : List Int) (i h : Int) (hp : CuOk b i) : evF E_l2Bent (1) Tryz.f90 [.ptr 0 0] [.box 99 [.lst (.int .u8) b, .int .i64 i, .int .i64 h]] = some (.int .i64 (bent2 b (i, h)), [.box 99 [.lst (.int .u8) b, .int .i64 (nx b (nx b (i, h))).1, .int .i64 (nx b (nx b (i, h))).2]]) := by
  have hn := nx_ok (c := (i, h)) hp
  conv => lhs; whnf
  conv => lhs; arg 1; whnf
  refine bnd_g (by exact ⟨hp, by omega, by omega⟩) ?_
  conv => lhs; whnf
  refine br_c (fun hc => ?_) (fun hc => ?_)
  · have e : bent2 b (i, h) = pick4 (-1) 256 1000 (-9223372036854775808) b (nx b (i, h)) := by unfold bent2; rw [hc]; rfl
    rw [e]
    conv => lhs; whnf
    conv => lhs; arg 1; whnf
    refine bnd_g (by exact ⟨hn, by simp, by simp⟩) ?_
    conv => lhs; whnf
    rfl
  · have e : bent2 b (i, h) = be b (nx b (i, h)) 256 := by unfold bent2; rw [hc]; rfl
    rw [e]
    conv => lhs; whnf
    conv => lhs; arg 1; whnf
    refine bnd_g (by exact ⟨hn, by omega, by omega⟩) ?_
    conv => lhs; whnf
theorem ok_l2Bent : FnOk Tryz.prog 90 K_l2Bent := by
  refine fn_ok (fn := Tryz.f90) (k := Tryz.f90.ntmps) (E := E_l2Bent) (facts_of (List.forall_mem_cons.2 ⟨ok_l1Once, List.forall_mem_cons.2 ⟨ok_l1PickInt, List.forall_mem_cons.2 ⟨ok_l1Below, List.forall_mem_nil _⟩⟩⟩)) (by kernel_rfl) rfl (by decide +kernel) (by decide +kernel) ?_
  intro avs hin r h
  unfold K_l2Bent at h
  split at h
  · obtain ⟨hp, rfl⟩ := gd_o h
    exact ⟨_, ev_l2Bent _ _ _ hp, rfl⟩
  · cases h

/- spec.l3Bent -/
def K_l3Bent : List AV → List Ob → Option (AV × List Ob)
  | [.ptr 0 0], [.box 99 [.lst (.int .u8) b, .int .i64 i, .int .i64 h]] => gd (CuOk b i) (.agg [.int .i64 (bent3 b (i, h)).1, .own 1], [.box 99 [.lst (.int .u8) b, .int .i64 (bent3 b (i, h)).2.2.1, .int .i64 (bent3 b (i, h)).2.2.2], .row 3 (.int .i64) (bent3 b (i, h)).2.1])
  | _, _ => none
@[reducible] def E_l3Bent : Env := mkE (tb [(112, K_l3Draw), (52, K_l1Below), (113, K_l1PickInt), (90, K_l2Bent)]) (fun f => [112, 52, 113, 90].contains f) (fun r => bif r == 8 then ([2, 3], [2, 3]) else ([], []))
theorem lp_l3Bent (b : List Int) (i0 h0 m : Int) (k : AX → S → Option (AV × List Ob)) (d : Nat) : ∀ (n : Nat) (zs : List Int), 9 - zs.length = d → zs.length ≤ 9 → d < n →
    lpAt E_l3Bent (lp E_l3Bent 1 n) 1 (loopAt Tryz.f82 0) (mkS [2, 3] [.ptr 1 0, .ptr 3 0] [some (.box 99 [.lst (.int .u8) b, .int .i64 i0, .int .i64 h0]), some (.box 29 [.int .i64 0, .own 2]), some (.row 3 (.int .i64) []), some (.box 29 [.int .i64 m, .own 4]), some (.row 3 (.int .i64) zs)]) k =
      k (.exit 1) (mkS [2, 3] [.ptr 1 0, .ptr 3 0] [some (.box 99 [.lst (.int .u8) b, .int .i64 i0, .int .i64 h0]), some (.box 29 [.int .i64 0, .own 2]), some (.row 3 (.int .i64) []), some (.box 29 [.int .i64 m, .own 4]), some (.row 3 (.int .i64) (pad9 zs))]) := by
  induction d with
  | zero =>
    intro n zs hd hi hn
    rw [lpAt_def]
    conv => lhs; whnf
    refine br_f (df (by omega)) ?_
    conv => lhs; whnf
    have e : pad9 zs = zs := by
      unfold pad9
      rw [show 9 - zs.length = 0 by omega]
      simp
    rw [e]
  | succ d ih =>
    intro n zs hd hi hn
    obtain ⟨n, rfl⟩ : ∃ m, n = m + 1 := ⟨n - 1, by omega⟩
    rw [lpAt_def]
    conv => lhs; whnf
    refine br_t (dt (by omega)) ?_
    conv => lhs; whnf
    refine br_t (dt (by simp [room]; omega)) ?_
    conv => lhs; whnf
    refine (ih n _ (by simp; omega) (by simp; omega) (by omega)).trans ?_
    have e : pad9 zs = pad9 (zs ++ [0]) := by
      unfold pad9
      obtain ⟨q, hq⟩ : ∃ q, 9 - zs.length = q + 1 := ⟨8 - zs.length, by omega⟩
      rw [List.length_append, List.length_singleton, hq, show 9 - (zs.length + 1) = q by omega, List.replicate_succ, List.append_assoc]
      rfl
    rw [e]
theorem ev_l3Bent (b : List Int) (i h : Int) (hp : CuOk b i) : evF E_l3Bent (20) Tryz.f82 [.ptr 0 0] [.box 99 [.lst (.int .u8) b, .int .i64 i, .int .i64 h]] = some (.agg [.int .i64 (bent3 b (i, h)).1, .own 1], [.box 99 [.lst (.int .u8) b, .int .i64 (bent3 b (i, h)).2.2.1, .int .i64 (bent3 b (i, h)).2.2.2], .row 3 (.int .i64) (bent3 b (i, h)).2.1]) := by
  have h3 := draw3_ok (c := (i, h)) hp
  have n0 := h3.2.2
  have hl := h3.2.1
  have n1 := nx_ok n0
  have n2 := nx_ok n1
  conv => lhs; whnf
  conv => lhs; arg 1; whnf
  refine bnd_g (by exact hp) ?_
  conv => lhs; whnf
  conv => lhs; arg 1; whnf
  refine bnd_g (by exact ⟨n0, by omega, by omega⟩) ?_
  conv => lhs; whnf
  refine br_c (fun g => ?_) (fun g => ?_)
  · have e : bent3 b (i, h) = (pick4 (-1) 0 2 7 b (nx b (draw3 b (i, h)).2.2), (draw3 b (i, h)).2.1, nx b (nx b (draw3 b (i, h)).2.2)) := by unfold bent3 bent3'; rw [g]; rfl
    rw [e]
    conv => lhs; whnf
    conv => lhs; arg 1; whnf
    refine bnd_g (by exact ⟨n1, by simp, by simp⟩) ?_
    conv => lhs; whnf
    all_goals rfl
  · conv => lhs; whnf
    refine br_c (fun g2 => ?_) (fun g2 => ?_)
    · have e : bent3 b (i, h) = ((draw3 b (i, h)).1, (draw3 b (i, h)).2.1 ++ [bent2 b (nx b (draw3 b (i, h)).2.2)], nx b (nx b (nx b (draw3 b (i, h)).2.2))) := by unfold bent3 bent3'; rw [g, g2]; rfl
      rw [e]
      conv => lhs; whnf
      conv => lhs; arg 1; whnf
      refine bnd_g (by exact n1) ?_
      conv => lhs; whnf
      refine br_t (dt (by simp [room]; omega)) ?_
      conv => lhs; whnf
      refine br_t (by kernel_rfl) ?_
      conv => lhs; whnf
      all_goals rfl
    · conv => lhs; whnf
      refine br_c (fun g3 => ?_) (fun g3 => ?_)
      · have e : bent3 b (i, h) = ((draw3 b (i, h)).1, pad9 (draw3 b (i, h)).2.1, nx b (draw3 b (i, h)).2.2) := by unfold bent3 bent3'; rw [g, g2, g3]; rfl
        rw [e]
        conv => lhs; whnf
        refine (lp_l3Bent b _ _ _ _ (9 - (draw3 b (i, h)).2.1.length) _ (draw3 b (i, h)).2.1 rfl (by omega) (by change _ < 19; omega)).trans ?_
        conv => lhs; whnf
        all_goals rfl
      · have e : bent3 b (i, h) = ((draw3 b (i, h)).1, (draw3 b (i, h)).2.1, nx b (draw3 b (i, h)).2.2) := by unfold bent3 bent3'; rw [g, g2, g3]; rfl
        rw [e]
        conv => lhs; whnf
theorem ok_l3Bent : FnOk Tryz.prog 82 K_l3Bent := by
  refine fn_ok (fn := Tryz.f82) (k := Tryz.f82.ntmps) (E := E_l3Bent) (facts_of (List.forall_mem_cons.2 ⟨ok_l3Draw, List.forall_mem_cons.2 ⟨ok_l1Below, List.forall_mem_cons.2 ⟨ok_l1PickInt, List.forall_mem_cons.2 ⟨ok_l2Bent, List.forall_mem_nil _⟩⟩⟩⟩)) (by kernel_rfl) rfl (by decide +kernel) (by decide +kernel) ?_
  intro avs hin r h
  unfold K_l3Bent at h
  split at h
  · obtain ⟨hp, rfl⟩ := gd_o h
    exact ⟨_, ev_l3Bent _ _ _ hp, rfl⟩
  · cases h

/- spec.l6Two -/
def K_l6Two : List AV → List Ob → Option (AV × List Ob)
  | [.lst (.int .u8) b], [] => gd (b.length ≤ 1048576) (.tup [.agg [.int .i64 (bent3 b (newC b)).1, .own 0], .int .i64 (two6a b (newC b)), .int .i64 (two6b b (newC b))], [.row 3 (.int .i64) (bent3 b (newC b)).2.1])
  | _, _ => none
@[reducible] def E_l6Two : Env := mkE (tb [(42, K_l1New), (26, K_specConcepts), (82, K_l3Bent), (52, K_l1Below)]) (fun f => [82, 52].contains f) (fun r => ([], []))
theorem ev_l6Two (b : List Int) (hp : b.length ≤ 1048576) : evF E_l6Two (1) Tryz.f73 [.lst (.int .u8) b] [] = some (.tup [.agg [.int .i64 (bent3 b (newC b)).1, .own 0], .int .i64 (two6a b (newC b)), .int .i64 (two6b b (newC b))], [.row 3 (.int .i64) (bent3 b (newC b)).2.1]) := by
  have n0 := newC_ok hp
  have hd := bent3_ok n0
  have hl := hd.1
  have hc := concF_len (bent3 b (newC b)).1 (bent3 b (newC b)).2.1
  have n2 := nx_ok hd.2
  have r1 := be_rng b (bent3 b (newC b)).2.2 (n := ((concF (bent3 b (newC b)).1 (bent3 b (newC b)).2.1).length : Int) + 2) (by omega)
  have r2 := be_rng b (nx b (bent3 b (newC b)).2.2) (n := ((concF (bent3 b (newC b)).1 (bent3 b (newC b)).2.1).length : Int) + 2) (by omega)
  have w1 : IntKind.i64.wrap (((concF (bent3 b (newC b)).1 (bent3 b (newC b)).2.1).length : Int) + 1) = ((concF (bent3 b (newC b)).1 (bent3 b (newC b)).2.1).length : Int) + 1 := wrap64 (by omega) (by omega)
  have w2 : IntKind.i64.wrap (IntKind.i64.wrap (((concF (bent3 b (newC b)).1 (bent3 b (newC b)).2.1).length : Int) + 1) + 1) = ((concF (bent3 b (newC b)).1 (bent3 b (newC b)).2.1).length : Int) + 2 := by rw [w1, wrap64 (by omega) (by omega)]; omega
  have w3 : IntKind.i64.wrap (be b (bent3 b (newC b)).2.2 (((concF (bent3 b (newC b)).1 (bent3 b (newC b)).2.1).length : Int) + 2) - 1) = two6a b (newC b) := wrap64 (by omega) (by omega)
  have w4 : IntKind.i64.wrap (be b (nx b (bent3 b (newC b)).2.2) (((concF (bent3 b (newC b)).1 (bent3 b (newC b)).2.1).length : Int) + 2) - 1) = two6b b (newC b) := wrap64 (by omega) (by omega)
  have w5 : 1 ≤ IntKind.i64.wrap (IntKind.i64.wrap (((concF (bent3 b (newC b)).1 (bent3 b (newC b)).2.1).length : Int) + 1) + 1) ∧ IntKind.i64.wrap (IntKind.i64.wrap (((concF (bent3 b (newC b)).1 (bent3 b (newC b)).2.1).length : Int) + 1) + 1) ≤ 256 := by rw [w2]; omega
  have z1 : IntKind.i64.wrap (be b (bent3 b (newC b)).2.2 (IntKind.i64.wrap (IntKind.i64.wrap (((concF (bent3 b (newC b)).1 (bent3 b (newC b)).2.1).length : Int) + 1) + 1)) - 1) = two6a b (newC b) := by rw [w2]; exact w3
  have z2 : IntKind.i64.wrap (be b (nx b (bent3 b (newC b)).2.2) (IntKind.i64.wrap (IntKind.i64.wrap (((concF (bent3 b (newC b)).1 (bent3 b (newC b)).2.1).length : Int) + 1) + 1)) - 1) = two6b b (newC b) := by rw [w2]; exact w4
  conv => lhs; whnf
  conv => lhs; arg 1; whnf
  refine bnd_g (by exact hp) ?_
  conv => lhs; whnf
  conv => lhs; arg 1; whnf
  refine bnd_g (by exact n0) ?_
  conv => lhs; whnf
  conv => lhs; arg 1; whnf
  refine bnd_g (by (change (bent3 b (newC b)).2.1.length ≤ 1048576; omega)) ?_
  conv => lhs; whnf
  conv => lhs; arg 1; whnf
  refine bnd_g (by exact ⟨hd.2, w5.1, w5.2⟩) ?_
  conv => lhs; whnf
  conv => lhs; arg 1; whnf
  refine bnd_g (by exact ⟨n2, w5.1, w5.2⟩) ?_
  conv => lhs; whnf
  refine br_t (by kernel_rfl) ?_
  conv => lhs; whnf
  conv => rhs; rw [← z1, ← z2]
  all_goals rfl
theorem ok_l6Two : FnOk Tryz.prog 73 K_l6Two := by
  refine fn_ok (fn := Tryz.f73) (k := Tryz.f73.ntmps) (E := E_l6Two) (facts_of (List.forall_mem_cons.2 ⟨ok_l1New, List.forall_mem_cons.2 ⟨ok_specConcepts, List.forall_mem_cons.2 ⟨ok_l3Bent, List.forall_mem_cons.2 ⟨ok_l1Below, List.forall_mem_nil _⟩⟩⟩⟩)) (by kernel_rfl) rfl (by decide +kernel) (by decide +kernel) ?_
  intro avs hin r h
  unfold K_l6Two at h
  split at h
  · obtain ⟨hp, rfl⟩ := gd_o h
    exact ⟨_, ev_l6Two _ hp, rfl⟩
  · cases h

/- spec.DrawSpotOf -/
def K_drawSpotOf : List AV → List Ob → Option (AV × List Ob)
  | [.lst (.int .u8) b], [] => gd (b.length ≤ 1048576) (.tup [.agg [.int .i64 (bent3 b (newC b)).1, .own 0], .int .i64 (two6a b (newC b))], [.row 3 (.int .i64) (bent3 b (newC b)).2.1])
  | _, _ => none
@[reducible] def E_drawSpotOf : Env := mkE (tb [(73, K_l6Two)]) (fun f => false) (fun r => ([], []))
theorem ev_drawSpotOf (b : List Int) (hp : b.length ≤ 1048576) : evF E_drawSpotOf (1) Tryz.f29 [.lst (.int .u8) b] [] = some (.tup [.agg [.int .i64 (bent3 b (newC b)).1, .own 0], .int .i64 (two6a b (newC b))], [.row 3 (.int .i64) (bent3 b (newC b)).2.1]) := by
  conv => lhs; whnf
  conv => lhs; arg 1; whnf
  refine bnd_g (by exact hp) ?_
  conv => lhs; whnf
theorem ok_drawSpotOf : FnOk Tryz.prog 29 K_drawSpotOf := by
  refine fn_ok (fn := Tryz.f29) (k := Tryz.f29.ntmps) (E := E_drawSpotOf) (facts_of (List.forall_mem_cons.2 ⟨ok_l6Two, List.forall_mem_nil _⟩)) (by kernel_rfl) rfl (by decide +kernel) (by decide +kernel) ?_
  intro avs hin r h
  unfold K_drawSpotOf at h
  split at h
  · obtain ⟨hp, rfl⟩ := gd_o h
    exact ⟨_, ev_drawSpotOf _ hp, rfl⟩
  · cases h

/- spec.DrawColumnOf -/
def K_drawColumnOf : List AV → List Ob → Option (AV × List Ob)
  | [.lst (.int .u8) b], [] => gd (b.length ≤ 1048576) (.tup [.agg [.int .i64 (bent3 b (newC b)).1, .own 0], .int .i64 (be b (bent3 b (newC b)).2.2 8 - 1)], [.row 3 (.int .i64) (bent3 b (newC b)).2.1])
  | _, _ => none
@[reducible] def E_drawColumnOf : Env := mkE (tb [(42, K_l1New), (82, K_l3Bent), (52, K_l1Below)]) (fun f => [82, 52].contains f) (fun r => ([], []))
theorem ev_drawColumnOf (b : List Int) (hp : b.length ≤ 1048576) : evF E_drawColumnOf (1) Tryz.f75 [.lst (.int .u8) b] [] = some (.tup [.agg [.int .i64 (bent3 b (newC b)).1, .own 0], .int .i64 (be b (bent3 b (newC b)).2.2 8 - 1)], [.row 3 (.int .i64) (bent3 b (newC b)).2.1]) := by
  have n0 := newC_ok hp
  have hd := bent3_ok n0
  have hr := be_rng b (bent3 b (newC b)).2.2 (n := 8) (by omega)
  have hw : IntKind.i64.wrap (be b (bent3 b (newC b)).2.2 8 - 1) = be b (bent3 b (newC b)).2.2 8 - 1 := wrap64 (by omega) (by omega)
  conv => lhs; whnf
  conv => lhs; arg 1; whnf
  refine bnd_g (by exact hp) ?_
  conv => lhs; whnf
  conv => lhs; arg 1; whnf
  refine bnd_g (by exact n0) ?_
  conv => lhs; whnf
  conv => lhs; arg 1; whnf
  refine bnd_g (by exact ⟨hd.2, by omega, by omega⟩) ?_
  conv => lhs; whnf
  refine br_t (by kernel_rfl) ?_
  conv => lhs; whnf
  conv => rhs; rw [← hw]
  all_goals rfl
theorem ok_drawColumnOf : FnOk Tryz.prog 75 K_drawColumnOf := by
  refine fn_ok (fn := Tryz.f75) (k := Tryz.f75.ntmps) (E := E_drawColumnOf) (facts_of (List.forall_mem_cons.2 ⟨ok_l1New, List.forall_mem_cons.2 ⟨ok_l3Bent, List.forall_mem_cons.2 ⟨ok_l1Below, List.forall_mem_nil _⟩⟩⟩)) (by kernel_rfl) rfl (by decide +kernel) (by decide +kernel) ?_
  intro avs hin r h
  unfold K_drawColumnOf at h
  split at h
  · obtain ⟨hp, rfl⟩ := gd_o h
    exact ⟨_, ev_drawColumnOf _ hp, rfl⟩
  · cases h

/- spec.DrawAttributeVector -/
def K_drawAttributeVector : List AV → List Ob → Option (AV × List Ob)
  | [.lst (.int .u8) b], [] => gd (b.length ≤ 1048576) (.tup [.agg [.int .i64 (bent3 b (newC b)).1, .own 0], .int .i64 (be b (bent3 b (newC b)).2.2 8 - 1)], [.row 3 (.int .i64) (bent3 b (newC b)).2.1])
  | _, _ => none
@[reducible] def E_drawAttributeVector : Env := mkE (tb [(75, K_drawColumnOf)]) (fun f => false) (fun r => ([], []))
theorem ev_drawAttributeVector (b : List Int) (hp : b.length ≤ 1048576) : evF E_drawAttributeVector (1) Tryz.f32 [.lst (.int .u8) b] [] = some (.tup [.agg [.int .i64 (bent3 b (newC b)).1, .own 0], .int .i64 (be b (bent3 b (newC b)).2.2 8 - 1)], [.row 3 (.int .i64) (bent3 b (newC b)).2.1]) := by
  conv => lhs; whnf
  conv => lhs; arg 1; whnf
  refine bnd_g (by exact hp) ?_
  conv => lhs; whnf
theorem ok_drawAttributeVector : FnOk Tryz.prog 32 K_drawAttributeVector := by
  refine fn_ok (fn := Tryz.f32) (k := Tryz.f32.ntmps) (E := E_drawAttributeVector) (facts_of (List.forall_mem_cons.2 ⟨ok_drawColumnOf, List.forall_mem_nil _⟩)) (by kernel_rfl) rfl (by decide +kernel) (by decide +kernel) ?_
  intro avs hin r h
  unfold K_drawAttributeVector at h
  split at h
  · obtain ⟨hp, rfl⟩ := gd_o h
    exact ⟨_, ev_drawAttributeVector _ hp, rfl⟩
  · cases h

/- spec.DrawDiagramLines -/
def K_drawDiagramLines : List AV → List Ob → Option (AV × List Ob)
  | [.lst (.int .u8) b], [] => gd (b.length ≤ 1048576) (.agg [.int .i64 (bent3 b (newC b)).1, .own 0], [.row 3 (.int .i64) (bent3 b (newC b)).2.1])
  | _, _ => none
@[reducible] def E_drawDiagramLines : Env := mkE (tb [(42, K_l1New), (82, K_l3Bent)]) (fun f => [82].contains f) (fun r => ([], []))
theorem ev_drawDiagramLines (b : List Int) (hp : b.length ≤ 1048576) : evF E_drawDiagramLines (1) Tryz.f35 [.lst (.int .u8) b] [] = some (.agg [.int .i64 (bent3 b (newC b)).1, .own 0], [.row 3 (.int .i64) (bent3 b (newC b)).2.1]) := by
  have n0 := newC_ok hp
  conv => lhs; whnf
  conv => lhs; arg 1; whnf
  refine bnd_g (by exact hp) ?_
  conv => lhs; whnf
  conv => lhs; arg 1; whnf
  refine bnd_g (by exact n0) ?_
  conv => lhs; whnf
theorem ok_drawDiagramLines : FnOk Tryz.prog 35 K_drawDiagramLines := by
  refine fn_ok (fn := Tryz.f35) (k := Tryz.f35.ntmps) (E := E_drawDiagramLines) (facts_of (List.forall_mem_cons.2 ⟨ok_l1New, List.forall_mem_cons.2 ⟨ok_l3Bent, List.forall_mem_nil _⟩⟩)) (by kernel_rfl) rfl (by decide +kernel) (by decide +kernel) ?_
  intro avs hin r h
  unfold K_drawDiagramLines at h
  split at h
  · obtain ⟨hp, rfl⟩ := gd_o h
    exact ⟨_, ev_drawDiagramLines _ hp, rfl⟩
  · cases h

/- (impl.lattice).has -/
def K_latHas : List AV → List Ob → Option (AV × List Ob)
  | [.lst (.pair (.int .i64) (.int .i64)) l, .int .i64 a], [] => gd (l.length ≤ 64) (.bool (inC l a), [])
  | _, _ => none
@[reducible] def E_latHas : Env := mkE (tb [(56, K_within)]) (fun f => false) (fun r => ([], []))
theorem ev_latHas (l : List (Int × Int)) (a : Int) (hp : l.length ≤ 64) : evF E_latHas (1) Tryz.f108 [.lst (.pair (.int .i64) (.int .i64)) l, .int .i64 a] [] = some (.bool (inC l a), []) := by
  conv => lhs; whnf
  conv => lhs; arg 1; whnf
  refine bnd_g (by exact True.intro) ?_
  conv => lhs; whnf
  refine okB ?_
  unfold inC
  rw [wrap64 (by omega) (by omega)]
theorem ok_latHas : FnOk Tryz.prog 108 K_latHas := by
  refine fn_ok (fn := Tryz.f108) (k := Tryz.f108.ntmps) (E := E_latHas) (facts_of (List.forall_mem_cons.2 ⟨ok_within, List.forall_mem_nil _⟩)) (by kernel_rfl) rfl (by decide +kernel) (by decide +kernel) ?_
  intro avs hin r h
  unfold K_latHas at h
  split at h
  · obtain ⟨hp, rfl⟩ := gd_o h
    exact ⟨_, ev_latHas _ _ hp, rfl⟩
  · cases h

/- impl.conceptOf -/
def K_conceptOf : List AV → List Ob → Option (AV × List Ob)
  | [.agg [.int .i64 m, .lst (.int .i64) b], .int .i64 a], [] => gd (b.length ≤ 1048576) (.tup [.agg [.int .i64 (cofF m b a).1, .int .i64 (cofF m b a).2], .bool (inC (concF m b) a)], [])
  | _, _ => none
@[reducible] def E_conceptOf : Env := mkE (tb [(57, K_implConcepts), (108, K_latHas)]) (fun f => false) (fun r => ([], []))
theorem ev_conceptOf (m : Int) (b : List Int) (a : Int) (hp : b.length ≤ 1048576) : evF E_conceptOf (1) Tryz.f74 [.agg [.int .i64 m, .lst (.int .i64) b], .int .i64 a] [] = some (.tup [.agg [.int .i64 (cofF m b a).1, .int .i64 (cofF m b a).2], .bool (inC (concF m b) a)], []) := by
  have hl := concF_len m b
  conv => lhs; whnf
  conv => lhs; arg 1; whnf
  refine bnd_g (by exact hp) ?_
  conv => lhs; whnf
  conv => lhs; arg 1; whnf
  refine bnd_g (by exact hl) ?_
  conv => lhs; whnf
  refine br_c (fun h => ?_) (fun h => ?_)
  · unfold cofF
    rw [bnt h]
    conv => lhs; whnf
    rfl
  · have h2 := inC_iff.1 (bnf h)
    unfold cofF
    rw [bnf h]
    conv => lhs; whnf
    refine br_t (dt2 (by omega) (by omega)) ?_
    conv => lhs; whnf
    refine br_t (dt (by omega)) ?_
    conv => lhs; whnf
    rfl
theorem ok_conceptOf : FnOk Tryz.prog 74 K_conceptOf := by
  refine fn_ok (fn := Tryz.f74) (k := Tryz.f74.ntmps) (E := E_conceptOf) (facts_of (List.forall_mem_cons.2 ⟨ok_implConcepts, List.forall_mem_cons.2 ⟨ok_latHas, List.forall_mem_nil _⟩⟩)) (by kernel_rfl) rfl (by decide +kernel) (by decide +kernel) ?_
  intro avs hin r h
  unfold K_conceptOf at h
  split at h
  · obtain ⟨hp, rfl⟩ := gd_o h
    exact ⟨_, ev_conceptOf _ _ _ hp, rfl⟩
  · cases h

/- impl.inSet -/
def K_inSet : List AV → List Ob → Option (AV × List Ob)
  | [.int .i64 a, .int .i64 b], [] => gd (True) (.bool (bnot a b == 0), [])
  | _, _ => none
@[reducible] def E_inSet : Env := mkE (tb []) (fun f => false) (fun r => ([], []))
theorem ev_inSet (a b : Int) (hp : True) : evF E_inSet (1) Tryz.f51 [.int .i64 a, .int .i64 b] [] = some (.bool (bnot a b == 0), []) := by
  conv => lhs; whnf
  rfl
theorem ok_inSet : FnOk Tryz.prog 51 K_inSet := by
  refine fn_ok (fn := Tryz.f51) (k := Tryz.f51.ntmps) (E := E_inSet) (facts_of (List.forall_mem_nil _)) (by kernel_rfl) rfl (by decide +kernel) (by decide +kernel) ?_
  intro avs hin r h
  unfold K_inSet at h
  split at h
  · obtain ⟨hp, rfl⟩ := gd_o h
    exact ⟨_, ev_inSet _ _ hp, rfl⟩
  · cases h

/- impl.beyond -/
def K_beyond : List AV → List Ob → Option (AV × List Ob)
  | [.lst (.int .i64) l, .int .i64 s, .int .i64 q], [] => gd (l.length ≤ 1048576) (.int .i64 (beyondF s l q), [])
  | _, _ => none
@[reducible] def E_beyond : Env := mkE (tb [(51, K_inSet)]) (fun f => false) (fun r => bif r == 2 then ([1, 2, 9, 10, 11], [2]) else ([], []))
theorem lp_beyond (l : List Int) (s : Int) (hl : l.length ≤ 1048576) (k : AX → S → Option (AV × List Ob)) (d : Nat) : ∀ (n i : Nat) (x q : Int), l.length - i = d → i ≤ l.length → x = i → d < n →
    lpAt E_beyond (lp E_beyond 0 n) 0 (loopAt Tryz.f125 0) (mkS [1, 2, 9, 10, 11] [.int .i64 s, .int .i64 q, .lst (.int .i64) l, .int .i64 l.length, .int .i64 x] []) k =
      k (.exit 0) (mkS [2] [.int .i64 (beyondF s (l.drop i) q)] []) := by
  induction d with
  | zero =>
    intro n i x q hd hi hx hn
    subst hx
    rw [lpAt_def]
    conv => lhs; whnf
    refine br_f (df (by omega)) ?_
    conv => lhs; whnf
    rw [List.drop_of_length_le (by omega), beyondF]
  | succ d ih =>
    intro n i x q hd hi hx hn
    obtain ⟨n, rfl⟩ : ∃ m, n = m + 1 := ⟨n - 1, by omega⟩
    subst hx
    rw [lpAt_def]
    conv => lhs; whnf
    refine br_t (dt (by omega)) ?_
    conv => lhs; whnf
    refine br_t (dt2 (by omega) (by omega)) ?_
    conv => lhs; whnf
    rw [getD_drop (l := l) (i := i) (d := 0) (by omega)]
    refine br_c (fun h => ?_) (fun h => ?_)
    · have h' : (l.getD i 0 != s) = true := h
      conv => lhs; whnf
      repeat ((first | with_reducible apply br_tt | with_reducible apply br_ff | with_reducible apply br_nf | with_reducible apply br_nt | with_reducible refine br_d ?_ (by kernel_rfl) | with_reducible apply br_t h | with_reducible apply br_f h); conv => lhs; whnf)
      conv => lhs; arg 1; whnf
      refine bnd_g (by exact True.intro) ?_
      conv => lhs; whnf
      repeat ((first | with_reducible apply br_tt | with_reducible apply br_ff | with_reducible apply br_nf | with_reducible apply br_nt | with_reducible refine br_d ?_ (by kernel_rfl) | with_reducible apply br_t h | with_reducible apply br_f h); conv => lhs; whnf)
      refine br_c (fun h2 => ?_) (fun h2 => ?_)
      · have h2' : (bnot s (l.getD i 0) == 0) = true := h2
        conv => lhs; whnf
        rw [ih n (i + 1) _ _ (by omega) (by omega) (by rw [wrap64 (by omega) (by omega)]; simp) (by omega)]
        rw [beyondF, h', h2']
        rfl
      · have h2' : (bnot s (l.getD i 0) == 0) = false := h2
        conv => lhs; whnf
        rw [ih n (i + 1) _ _ (by omega) (by omega) (by rw [wrap64 (by omega) (by omega)]; simp) (by omega)]
        rw [beyondF, h', h2']
        rfl
    · have h' : (l.getD i 0 != s) = false := h
      conv => lhs; whnf
      repeat ((first | with_reducible apply br_tt | with_reducible apply br_ff | with_reducible apply br_nf | with_reducible apply br_nt | with_reducible refine br_d ?_ (by kernel_rfl) | with_reducible apply br_t h | with_reducible apply br_f h); conv => lhs; whnf)
      rw [ih n (i + 1) _ _ (by omega) (by omega) (by rw [wrap64 (by omega) (by omega)]; simp) (by omega)]
      rw [beyondF, h']
      rfl
theorem ev_beyond (l : List Int) (s q : Int) (hp : l.length ≤ 1048576) : evF E_beyond (l.length + 2) Tryz.f125 [.lst (.int .i64) l, .int .i64 s, .int .i64 q] [] = some (.int .i64 (beyondF s l q), []) := by
  conv => lhs; whnf
  refine (lp_beyond l s hp _ l.length _ 0 0 q rfl (by omega) rfl (by omega)).trans ?_
  conv => lhs; whnf
  rfl
theorem ok_beyond : FnOk Tryz.prog 125 K_beyond := by
  refine fn_ok (fn := Tryz.f125) (k := Tryz.f125.ntmps) (E := E_beyond) (facts_of (List.forall_mem_cons.2 ⟨ok_inSet, List.forall_mem_nil _⟩)) (by kernel_rfl) rfl (by decide +kernel) (by decide +kernel) ?_
  intro avs hin r h
  unfold K_beyond at h
  split at h
  · obtain ⟨hp, rfl⟩ := gd_o h
    exact ⟨_, ev_beyond _ _ _ hp, rfl⟩
  · cases h

/- impl.IsReducibleAttribute -/
def K_implIsReducible : List AV → List Ob → Option (AV × List Ob)
  | [.agg [.int .i64 m, .lst (.int .i64) b], .int .i64 e], [] => gd (b.length ≤ 1048576) (.bool (attrOk m b e && reducF m b e), [])
  | _, _ => none
@[reducible] def E_implIsReducible : Env := mkE (tb [(76, K_isAttribute), (79, K_columns), (111, K_columnOf), (123, K_implFullSet), (125, K_beyond)]) (fun f => false) (fun r => ([], []))
theorem ev_implIsReducible (m : Int) (b : List Int) (e : Int) (hp : b.length ≤ 1048576) : evF E_implIsReducible (1) Tryz.f109 [.agg [.int .i64 m, .lst (.int .i64) b], .int .i64 e] [] = some (.bool (attrOk m b e && reducF m b e), []) := by
  conv => lhs; whnf
  conv => lhs; arg 1; whnf
  refine bnd_g (by exact hp) ?_
  conv => lhs; whnf
  refine br_c (fun h => ?_) (fun h => ?_)
  · have h' := h
    unfold attrOk at h'
    have h2 := Bool.and_eq_true_iff.1 h'
    have hl := isCtx_len h2.1
    conv => lhs; whnf
    repeat ((first | with_reducible apply br_tt | with_reducible apply br_ff | with_reducible apply br_nf | with_reducible apply br_nt | with_reducible refine br_d ?_ (by kernel_rfl) | with_reducible apply br_t h | with_reducible apply br_f h); conv => lhs; whnf)
    conv => lhs; arg 1; whnf
    refine bnd_g (by exact h2.1) ?_
    conv => lhs; whnf
    repeat ((first | with_reducible apply br_tt | with_reducible apply br_ff | with_reducible apply br_nf | with_reducible apply br_nt | with_reducible refine br_d ?_ (by kernel_rfl) | with_reducible apply br_t h | with_reducible apply br_f h); conv => lhs; whnf)
    conv => lhs; arg 1; whnf
    refine bnd_g (by exact hp) ?_
    conv => lhs; whnf
    repeat ((first | with_reducible apply br_tt | with_reducible apply br_ff | with_reducible apply br_nf | with_reducible apply br_nt | with_reducible refine br_d ?_ (by kernel_rfl) | with_reducible apply br_t h | with_reducible apply br_f h); conv => lhs; whnf)
    conv => lhs; arg 1; whnf
    refine bnd_g (by exact True.intro) ?_
    conv => lhs; whnf
    repeat ((first | with_reducible apply br_tt | with_reducible apply br_ff | with_reducible apply br_nf | with_reducible apply br_nt | with_reducible refine br_d ?_ (by kernel_rfl) | with_reducible apply br_t h | with_reducible apply br_f h); conv => lhs; whnf)
    conv => lhs; arg 1; whnf
    refine bnd_g (by (show (colsL b m.toNat 0).length ≤ 1048576; rw [colsL_length]; omega)) ?_
    conv => lhs; whnf
    repeat ((first | with_reducible apply br_tt | with_reducible apply br_ff | with_reducible apply br_nf | with_reducible apply br_nt | with_reducible refine br_d ?_ (by kernel_rfl) | with_reducible apply br_t h | with_reducible apply br_f h); conv => lhs; whnf)
    conv => lhs; arg 1; whnf
    refine bnd_g (by exact hp) ?_
    conv => lhs; whnf
    repeat ((first | with_reducible apply br_tt | with_reducible apply br_ff | with_reducible apply br_nf | with_reducible apply br_nt | with_reducible refine br_d ?_ (by kernel_rfl) | with_reducible apply br_t h | with_reducible apply br_f h); conv => lhs; whnf)
    rw [h]
    rfl
  · conv => lhs; whnf
    repeat ((first | with_reducible apply br_tt | with_reducible apply br_ff | with_reducible apply br_nf | with_reducible apply br_nt | with_reducible refine br_d ?_ (by kernel_rfl) | with_reducible apply br_t h | with_reducible apply br_f h); conv => lhs; whnf)
    rw [h, Bool.false_and]
theorem ok_implIsReducible : FnOk Tryz.prog 109 K_implIsReducible := by
  refine fn_ok (fn := Tryz.f109) (k := Tryz.f109.ntmps) (E := E_implIsReducible) (facts_of (List.forall_mem_cons.2 ⟨ok_isAttribute, List.forall_mem_cons.2 ⟨ok_columns, List.forall_mem_cons.2 ⟨ok_columnOf, List.forall_mem_cons.2 ⟨ok_implFullSet, List.forall_mem_cons.2 ⟨ok_beyond, List.forall_mem_nil _⟩⟩⟩⟩⟩)) (by kernel_rfl) rfl (by decide +kernel) (by decide +kernel) ?_
  intro avs hin r h
  unfold K_implIsReducible at h
  split at h
  · obtain ⟨hp, rfl⟩ := gd_o h
    exact ⟨_, ev_implIsReducible _ _ _ hp, rfl⟩
  · cases h

/- impl.IsIrreducibleAttribute -/
def K_isIrreducible : List AV → List Ob → Option (AV × List Ob)
  | [.agg [.int .i64 m, .lst (.int .i64) b], .int .i64 e], [] => gd (b.length ≤ 1048576) (.bool (attrOk m b e && !reducF m b e), [])
  | _, _ => none
@[reducible] def E_isIrreducible : Env := mkE (tb [(76, K_isAttribute), (109, K_implIsReducible)]) (fun f => false) (fun r => ([], []))
theorem ev_isIrreducible (m : Int) (b : List Int) (e : Int) (hp : b.length ≤ 1048576) : evF E_isIrreducible (1) Tryz.f77 [.agg [.int .i64 m, .lst (.int .i64) b], .int .i64 e] [] = some (.bool (attrOk m b e && !reducF m b e), []) := by
  conv => lhs; whnf
  conv => lhs; arg 1; whnf
  refine bnd_g (by exact hp) ?_
  conv => lhs; whnf
  refine br_c (fun h => ?_) (fun h => ?_)
  · conv => lhs; whnf
    repeat ((first | with_reducible apply br_tt | with_reducible apply br_ff | with_reducible apply br_nf | with_reducible apply br_nt | with_reducible refine br_d ?_ (by kernel_rfl) | with_reducible apply br_t h | with_reducible apply br_f h); conv => lhs; whnf)
    conv => lhs; arg 1; whnf
    refine bnd_g (by exact hp) ?_
    conv => lhs; whnf
    repeat ((first | with_reducible apply br_tt | with_reducible apply br_ff | with_reducible apply br_nf | with_reducible apply br_nt | with_reducible refine br_d ?_ (by kernel_rfl) | with_reducible apply br_t h | with_reducible apply br_f h); conv => lhs; whnf)
    rw [h, Bool.true_and, Bool.true_and]
  · conv => lhs; whnf
    repeat ((first | with_reducible apply br_tt | with_reducible apply br_ff | with_reducible apply br_nf | with_reducible apply br_nt | with_reducible refine br_d ?_ (by kernel_rfl) | with_reducible apply br_t h | with_reducible apply br_f h); conv => lhs; whnf)
    rw [h, Bool.false_and]
theorem ok_isIrreducible : FnOk Tryz.prog 77 K_isIrreducible := by
  refine fn_ok (fn := Tryz.f77) (k := Tryz.f77.ntmps) (E := E_isIrreducible) (facts_of (List.forall_mem_cons.2 ⟨ok_isAttribute, List.forall_mem_cons.2 ⟨ok_implIsReducible, List.forall_mem_nil _⟩⟩)) (by kernel_rfl) rfl (by decide +kernel) (by decide +kernel) ?_
  intro avs hin r h
  unfold K_isIrreducible at h
  split at h
  · obtain ⟨hp, rfl⟩ := gd_o h
    exact ⟨_, ev_isIrreducible _ _ _ hp, rfl⟩
  · cases h

/- slices.Index[[]int,int] -/
def K_indexInt : List AV → List Ob → Option (AV × List Ob)
  | [.lst (.int .i64) a, .int .i64 v], [] => gd (a.length < 4611686018427387904) (.int .i64 (firstI (fun y => v == y) a 0), [])
  | _, _ => none
@[reducible] def E_indexInt : Env := mkE (tb []) (fun f => false) (fun r => bif r == 2 then ([0, 1, 7, 8], [4]) else ([], []))
theorem lp_indexInt (a : List Int) (v : Int) (ha : a.length < 4611686018427387904) (k : AX → S → Option (AV × List Ob)) (d : Nat) : ∀ (n i : Nat) (x : Int), a.length - i = d → i ≤ a.length → x = i → d < n →
    lpAt E_indexInt (lp E_indexInt 0 n) 0 (loopAt Tryz.f126 0) (mkS [0, 1, 7, 8] [.lst (.int .i64) a, .int .i64 v, .int .i64 a.length, .int .i64 x] []) k =
      if (a.drop i).any (fun y => v == y) then k .ret (mkS [4] [.int .i64 (firstI (fun y => v == y) (a.drop i) i)] []) else k (.exit 0) (mkS [4] [.any] []) := by
  induction d with
  | zero =>
    intro n i x hd hi hx hn
    subst hx
    rw [lpAt_def]
    conv => lhs; whnf
    refine br_f (df (by omega)) ?_
    conv => lhs; whnf
    rw [List.drop_of_length_le (by omega)]
    simp
  | succ d ih =>
    intro n i x hd hi hx hn
    obtain ⟨n, rfl⟩ : ∃ m, n = m + 1 := ⟨n - 1, by omega⟩
    subst hx
    rw [lpAt_def]
    conv => lhs; whnf
    refine br_t (dt (by omega)) ?_
    conv => lhs; whnf
    refine br_t (dt2 (by omega) (by omega)) ?_
    conv => lhs; whnf
    rw [getD_drop (l := a) (i := i) (d := 0) (by omega)]
    refine br_c (fun h => ?_) (fun h => ?_)
    · have h' : (v == a.getD i 0) = true := h
      conv => lhs; whnf
      rw [if_pos (by simp only [List.any_cons, h', Bool.true_or])]
      simp only [firstI, h', cond_true]
    · have h' : (v == a.getD i 0) = false := h
      conv => lhs; whnf
      rw [ih n (i + 1) _ (by omega) (by omega) (by rw [wrap64 (by omega) (by omega)]; simp) (by omega)]
      simp only [List.any_cons, h', Bool.false_or, firstI, cond_false]
      rfl
theorem ev_indexInt (a : List Int) (v : Int) (hp : a.length < 4611686018427387904) : evF E_indexInt (a.length + 2) Tryz.f126 [.lst (.int .i64) a, .int .i64 v] [] = some (.int .i64 (firstI (fun y => v == y) a 0), []) := by
  conv => lhs; whnf
  refine (lp_indexInt a v hp _ a.length _ 0 0 rfl (by omega) rfl (by omega)).trans ?_
  simp only [List.drop_zero]
  split
  · conv => lhs; whnf
    rfl
  · rename_i he
    conv => lhs; whnf
    have : firstI (fun y => v == y) a 0 = -1 := firstI_none _ a 0 (by rw [← Bool.not_eq_true]; exact he)
    rw [this]
theorem ok_indexInt : FnOk Tryz.prog 126 K_indexInt := by
  refine fn_ok (fn := Tryz.f126) (k := Tryz.f126.ntmps) (E := E_indexInt) (facts_of (List.forall_mem_nil _)) (by kernel_rfl) rfl (by decide +kernel) (by decide +kernel) ?_
  intro avs hin r h
  unfold K_indexInt at h
  split at h
  · obtain ⟨hp, rfl⟩ := gd_o h
    exact ⟨_, ev_indexInt _ _ hp, rfl⟩
  · cases h

/- slices.Contains[[]int,int] -/
def K_containsInt : List AV → List Ob → Option (AV × List Ob)
  | [.lst (.int .i64) a, .int .i64 v], [] => gd (a.length < 4611686018427387904) (.bool (a.any (fun y => v == y)), [])
  | _, _ => none
@[reducible] def E_containsInt : Env := mkE (tb [(126, K_indexInt)]) (fun f => false) (fun r => ([], []))
theorem ev_containsInt (a : List Int) (v : Int) (hp : a.length < 4611686018427387904) : evF E_containsInt (1) Tryz.f110 [.lst (.int .i64) a, .int .i64 v] [] = some (.bool (a.any (fun y => v == y)), []) := by
  conv => lhs; whnf
  conv => lhs; arg 1; whnf
  refine bnd_g (by exact hp) ?_
  conv => lhs; whnf
  refine okB ?_
  exact firstI_iff _ a 0 (by omega)
theorem ok_containsInt : FnOk Tryz.prog 110 K_containsInt := by
  refine fn_ok (fn := Tryz.f110) (k := Tryz.f110.ntmps) (E := E_containsInt) (facts_of (List.forall_mem_cons.2 ⟨ok_indexInt, List.forall_mem_nil _⟩)) (by kernel_rfl) rfl (by decide +kernel) (by decide +kernel) ?_
  intro avs hin r h
  unfold K_containsInt at h
  split at h
  · obtain ⟨hp, rfl⟩ := gd_o h
    exact ⟨_, ev_containsInt _ _ hp, rfl⟩
  · cases h

/- impl.repeated -/
def K_repeated : List AV → List Ob → Option (AV × List Ob)
  | [.lst (.int .i64) l], [] => gd (l.length ≤ 8) (.int .i64 (repF l), [])
  | _, _ => none
@[reducible] def E_repeated : Env := mkE (tb [(110, K_containsInt)]) (fun f => false) (fun r => bif r == 3 then ([0, 3, 6, 7, 8], [3]) else ([], []))
theorem lp_repeated (l : List Int) (hl : l.length ≤ 8) (k : AX → S → Option (AV × List Ob)) (d : Nat) : ∀ (n i : Nat) (x q : Int), l.length - i = d → i ≤ l.length → x = i → d < n →
    lpAt E_repeated (lp E_repeated 0 n) 0 (loopAt Tryz.f78 0) (mkS [0, 3, 6, 7, 8] [.lst (.int .i64) l, .int .i64 q, .lst (.int .i64) l, .int .i64 l.length, .int .i64 x] []) k =
      k (.exit 0) (mkS [3] [.int .i64 (orF (repAt l) d i q)] []) := by
  induction d with
  | zero =>
    intro n i x q hd hi hx hn
    subst hx
    rw [lpAt_def]
    conv => lhs; whnf
    refine br_f (df (by omega)) ?_
    conv => lhs; whnf
    rfl
  | succ d ih =>
    intro n i x q hd hi hx hn
    obtain ⟨n, rfl⟩ : ∃ m, n = m + 1 := ⟨n - 1, by omega⟩
    subst hx
    rw [lpAt_def]
    conv => lhs; whnf
    refine br_t (dt (by omega)) ?_
    conv => lhs; whnf
    refine br_t (dt2 (by omega) (by omega)) ?_
    conv => lhs; whnf
    refine br_t (dt2 (by omega) (by omega)) ?_
    conv => lhs; whnf
    conv => lhs; arg 1; whnf
    refine bnd_g (by simp; omega) ?_
    conv => lhs; whnf
    refine br_c (fun h => ?_) (fun h => ?_)
    · have h' : repAt l i = true := h
      conv => lhs; whnf
      refine br_f (df (by omega)) ?_
      conv => lhs; whnf
      rw [shl1 (by omega)]
      rw [ih n (i + 1) _ _ (by omega) (by omega) (by rw [wrap64 (by omega) (by omega)]; simp) (by omega)]
      rw [orF, h', cond_true]
      rfl
    · have h' : repAt l i = false := h
      conv => lhs; whnf
      rw [ih n (i + 1) _ _ (by omega) (by omega) (by rw [wrap64 (by omega) (by omega)]; simp) (by omega)]
      rw [orF, h', cond_false]
theorem ev_repeated (l : List Int) (hp : l.length ≤ 8) : evF E_repeated (20) Tryz.f78 [.lst (.int .i64) l] [] = some (.int .i64 (repF l), []) := by
  conv => lhs; whnf
  refine (lp_repeated l hp _ l.length _ 0 0 0 rfl (by omega) rfl (by change _ < 19; omega)).trans ?_
  conv => lhs; whnf
  rfl
theorem ok_repeated : FnOk Tryz.prog 78 K_repeated := by
  refine fn_ok (fn := Tryz.f78) (k := Tryz.f78.ntmps) (E := E_repeated) (facts_of (List.forall_mem_cons.2 ⟨ok_containsInt, List.forall_mem_nil _⟩)) (by kernel_rfl) rfl (by decide +kernel) (by decide +kernel) ?_
  intro avs hin r h
  unfold K_repeated at h
  split at h
  · obtain ⟨hp, rfl⟩ := gd_o h
    exact ⟨_, ev_repeated _ hp, rfl⟩
  · cases h

/- impl.AttributeVector -/
def K_implAttributeVector : List AV → List Ob → Option (AV × List Ob)
  | [.agg [.int .i64 m, .lst (.int .i64) b], .int .i64 e], [] => gd (b.length ≤ 1048576) (.tup [.agg [.int .i64 (vecF m b e).1, .int .i64 (vecF m b e).2.1], .bool (vecF m b e).2.2], [])
  | _, _ => none
@[reducible] def E_implAttributeVector : Env := mkE (tb [(76, K_isAttribute), (77, K_isIrreducible), (79, K_columns), (78, K_repeated), (45, K_hasElement)]) (fun f => false) (fun r => ([], []))
theorem ev_implAttributeVector (m : Int) (b : List Int) (e : Int) (hp : b.length ≤ 1048576) : evF E_implAttributeVector (1) Tryz.f33 [.agg [.int .i64 m, .lst (.int .i64) b], .int .i64 e] [] = some (.tup [.agg [.int .i64 (vecF m b e).1, .int .i64 (vecF m b e).2.1], .bool (vecF m b e).2.2], []) := by
  conv => lhs; whnf
  conv => lhs; arg 1; whnf
  refine bnd_g (by exact hp) ?_
  conv => lhs; whnf
  refine br_c (fun h => ?_) (fun h => ?_)
  · have hf : vecF m b e = (0, 0, false) := by
      unfold vecF
      rw [bnt h]
      rfl
    rw [hf]
    conv => lhs; whnf
  · have hA := bnf h
    have h' := hA
    unfold attrOk at h'
    have h2 := Bool.and_eq_true_iff.1 h'
    have hl := isCtx_len h2.1
    have hd := ofd h2.2
    have hlen : (colsF m b).length = m.toNat := colsL_length b _ _
    conv => lhs; whnf
    conv => lhs; arg 1; whnf
    refine bnd_g (by exact hp) ?_
    conv => lhs; whnf
    refine br_c (fun h3 => ?_) (fun h3 => ?_)
    · rw [hA, Bool.true_and, Bool.not_not] at h3
      have hf : vecF m b e = (0, 0, true) := by
        unfold vecF
        rw [hA, h3, Bool.or_true]
        rfl
      rw [hf]
      have h4 : (!(attrOk m b e && !reducF m b e)) = true := by rw [hA, h3]; rfl
      conv => lhs; whnf
      repeat ((first | with_reducible apply br_tt | with_reducible apply br_ff | with_reducible apply br_nf | with_reducible apply br_nt | with_reducible refine br_d ?_ (by kernel_rfl) | with_reducible apply br_t h4 | with_reducible apply br_f h4); conv => lhs; whnf)
    · have h4 := h3
      rw [hA, Bool.true_and, Bool.not_not] at h3
      conv => lhs; whnf
      repeat ((first | with_reducible apply br_tt | with_reducible apply br_ff | with_reducible apply br_nf | with_reducible apply br_nt | with_reducible refine br_d ?_ (by kernel_rfl) | with_reducible apply br_t h4 | with_reducible apply br_f h4); conv => lhs; whnf)
      conv => lhs; arg 1; whnf
      refine bnd_g (by exact h2.1) ?_
      conv => lhs; whnf
      repeat ((first | with_reducible apply br_tt | with_reducible apply br_ff | with_reducible apply br_nf | with_reducible apply br_nt | with_reducible refine br_d ?_ (by kernel_rfl) | with_reducible apply br_t h4 | with_reducible apply br_f h4); conv => lhs; whnf)
      conv => lhs; arg 1; whnf
      refine bnd_g (by (rw [hlen]; omega)) ?_
      conv => lhs; whnf
      repeat ((first | with_reducible apply br_tt | with_reducible apply br_ff | with_reducible apply br_nf | with_reducible apply br_nt | with_reducible refine br_d ?_ (by kernel_rfl) | with_reducible apply br_t h4 | with_reducible apply br_f h4); conv => lhs; whnf)
      conv => lhs; arg 1; whnf
      refine bnd_g (by exact True.intro) ?_
      conv => lhs; whnf
      repeat ((first | with_reducible apply br_tt | with_reducible apply br_ff | with_reducible apply br_nf | with_reducible apply br_nt | with_reducible refine br_d ?_ (by kernel_rfl) | with_reducible apply br_t h4 | with_reducible apply br_f h4); conv => lhs; whnf)
      refine br_c (fun h5 => ?_) (fun h5 => ?_)
      · rw [rep_dup hA] at h5
        have hf : vecF m b e = (0, 0, true) := by
          unfold vecF
          rw [hA, h5]
          rfl
        rw [hf]
        conv => lhs; whnf
      · rw [rep_dup hA] at h5
        have hf : vecF m b e = (2 * e + 1 - m, 1, true) := by
          unfold vecF
          rw [hA, h5, h3]
          rfl
        rw [hf]
        conv => lhs; whnf
        rw [wrap64 (n := 2 * e) (by omega) (by omega), wrap64 (n := 2 * e + 1) (by omega) (by omega), wrap64 (n := 2 * e + 1 - m) (by omega) (by omega)]
theorem ok_implAttributeVector : FnOk Tryz.prog 33 K_implAttributeVector := by
  refine fn_ok (fn := Tryz.f33) (k := Tryz.f33.ntmps) (E := E_implAttributeVector) (facts_of (List.forall_mem_cons.2 ⟨ok_isAttribute, List.forall_mem_cons.2 ⟨ok_isIrreducible, List.forall_mem_cons.2 ⟨ok_columns, List.forall_mem_cons.2 ⟨ok_repeated, List.forall_mem_cons.2 ⟨ok_hasElement, List.forall_mem_nil _⟩⟩⟩⟩⟩)) (by kernel_rfl) rfl (by decide +kernel) (by decide +kernel) ?_
  intro avs hin r h
  unfold K_implAttributeVector at h
  split at h
  · obtain ⟨hp, rfl⟩ := gd_o h
    exact ⟨_, ev_implAttributeVector _ _ _ hp, rfl⟩
  · cases h

/- impl.SpotOf -/
def K_implSpotOf : List AV → List Ob → Option (AV × List Ob)
  | [.agg [.int .i64 m, .lst (.int .i64) b], .int .i64 a], [] => gd (b.length ≤ 1048576) (.tup [.agg [.int .i64 (spotF m b a).1, .int .i64 (spotF m b a).2], .bool (inC (concF m b) a)], [])
  | _, _ => none
@[reducible] def E_implSpotOf : Env := mkE (tb [(74, K_conceptOf), (49, K_elementsOf), (33, K_implAttributeVector)]) (fun f => false) (fun r => bif r == 6 then ([2, 4, 8, 25, 26, 27], [4, 8]) else ([], []))
theorem lp_implSpotOf (m : Int) (b : List Int) (hlen : b.length ≤ 1048576) (l : List Int) (hl : l.length ≤ 8) (k : AX → S → Option (AV × List Ob)) (d : Nat) : ∀ (n i : Nat) (z x y : Int), l.length - i = d → i ≤ l.length → z = i → d < n →
    lpAt E_implSpotOf (lp E_implSpotOf 0 n) 0 (loopAt Tryz.f30 0) (mkS [2, 4, 8, 25, 26, 27] [.ptr 0 0, .ptr 1 0, .ptr 2 0, .own 3, .int .i64 (l.length : Int), .int .i64 z] [some (.box 29 [.int .i64 m, .lst (.int .i64) b]), some (.box 52 [.int .i64 0, .int .i64 0]), some (.box 52 [.int .i64 x, .int .i64 y]), some (.row 3 (.int .i64) l)]) k =
      k (.exit 0) (mkS [4, 8] [.ptr 0 0, .ptr 1 0] [some (.box 52 [.int .i64 0, .int .i64 0]), some (.box 52 [.int .i64 (spL m b (l.drop i) x y).1, .int .i64 (spL m b (l.drop i) x y).2])]) := by
  induction d with
  | zero =>
    intro n i z x y hd hi hx hn
    subst hx
    rw [lpAt_def]
    conv => lhs; whnf
    refine br_f (df (by omega)) ?_
    conv => lhs; whnf
    rw [List.drop_of_length_le (by omega)]
    rfl
  | succ d ih =>
    intro n i z x y hd hi hx hn
    obtain ⟨n, rfl⟩ : ∃ m, n = m + 1 := ⟨n - 1, by omega⟩
    subst hx
    rw [lpAt_def]
    conv => lhs; whnf
    refine br_t (dt (by omega)) ?_
    conv => lhs; whnf
    refine br_t (dt2 (by omega) (by omega)) ?_
    conv => lhs; whnf
    refine br_t (dt (by omega)) ?_
    conv => lhs; whnf
    conv => lhs; arg 1; whnf
    refine bnd_g (by exact hlen) ?_
    conv => lhs; whnf
    refine Eq.trans (ih n (i + 1) _ _ _ (by omega) (by omega) (by rw [wrap64 (n := (i : Int) + 1) (by omega) (by omega)]; simp) (by omega)) ?_
    rw [getD_drop (l := l) (i := i) (d := 0) (by omega), spL]
    rfl
theorem ev_implSpotOf (m : Int) (b : List Int) (a : Int) (hp : b.length ≤ 1048576) : evF E_implSpotOf (20) Tryz.f30 [.agg [.int .i64 m, .lst (.int .i64) b], .int .i64 a] [] = some (.tup [.agg [.int .i64 (spotF m b a).1, .int .i64 (spotF m b a).2], .bool (inC (concF m b) a)], []) := by
  have hl := concF_len m b
  conv => lhs; whnf
  conv => lhs; arg 1; whnf
  refine bnd_g (by exact hp) ?_
  conv => lhs; whnf
  refine br_c (fun h => ?_) (fun h => ?_)
  · unfold spotF
    rw [bnt h]
    conv => lhs; whnf
    rfl
  · unfold spotF cofF
    rw [bnf h]
    have he : (elemsF (elC (concF m b) a).2).length ≤ 8 := elemsL_length _ _ _
    conv => lhs; whnf
    conv => lhs; arg 1; whnf
    refine bnd_g (by exact True.intro) ?_
    conv => lhs; whnf
    refine (lp_implSpotOf m b hp (elemsF (elC (concF m b) a).2) he _ (elemsF (elC (concF m b) a).2).length _ 0 0 0 0 rfl (by omega) rfl (by change _ < 19; omega)).trans ?_
    conv => lhs; whnf
    rfl
theorem ok_implSpotOf : FnOk Tryz.prog 30 K_implSpotOf := by
  refine fn_ok (fn := Tryz.f30) (k := Tryz.f30.ntmps) (E := E_implSpotOf) (facts_of (List.forall_mem_cons.2 ⟨ok_conceptOf, List.forall_mem_cons.2 ⟨ok_elementsOf, List.forall_mem_cons.2 ⟨ok_implAttributeVector, List.forall_mem_nil _⟩⟩⟩)) (by kernel_rfl) rfl (by decide +kernel) (by decide +kernel) ?_
  intro avs hin r h
  unfold K_implSpotOf at h
  split at h
  · obtain ⟨hp, rfl⟩ := gd_o h
    exact ⟨_, ev_implSpotOf _ _ _ hp, rfl⟩
  · cases h

/- spec.l6Exists -/
def K_l6Exists : List AV → List Ob → Option (AV × List Ob)
  | [.lst (.pair (.int .i64) (.int .i64)) l, .int .i64 a], [] => gd (l.length ≤ 64) (.bool (inC l a), [])
  | _, _ => none
@[reducible] def E_l6Exists : Env := mkE (tb [(59, K_l1In)]) (fun f => false) (fun r => ([], []))
theorem ev_l6Exists (l : List (Int × Int)) (a : Int) (hp : l.length ≤ 64) : evF E_l6Exists (1) Tryz.f66 [.lst (.pair (.int .i64) (.int .i64)) l, .int .i64 a] [] = some (.bool (inC l a), []) := by
  conv => lhs; whnf
  conv => lhs; arg 1; whnf
  refine bnd_g (by exact True.intro) ?_
  conv => lhs; whnf
  refine okB ?_
  unfold inC
  rw [wrap64 (by omega) (by omega)]
theorem ok_l6Exists : FnOk Tryz.prog 66 K_l6Exists := by
  refine fn_ok (fn := Tryz.f66) (k := Tryz.f66.ntmps) (E := E_l6Exists) (facts_of (List.forall_mem_cons.2 ⟨ok_l1In, List.forall_mem_nil _⟩)) (by kernel_rfl) rfl (by decide +kernel) (by decide +kernel) ?_
  intro avs hin r h
  unfold K_l6Exists at h
  split at h
  · obtain ⟨hp, rfl⟩ := gd_o h
    exact ⟨_, ev_l6Exists _ _ hp, rfl⟩
  · cases h

/- spec.l3Column -/
def K_l3Column : List AV → List Ob → Option (AV × List Ob)
  | [.agg [.int .i64 m, .lst (.int .i64) b], .int .i64 e], [] => gd ((0 ≤ e ∧ e ≤ 8) ∧ b.length ≤ 8 ∧ ∀ x ∈ b, 0 ≤ x ∧ x ≤ 255) (.int .i64 (colF b e), [])
  | _, _ => none
@[reducible] def E_l3Column : Env := mkE (tb [(55, K_l2Has)]) (fun f => false) (fun r => bif r == 3 then ([1, 2, 5, 6], [5]) else ([], []))
theorem lp_l3Column (m : Int) (b : List Int) (e : Int) (hb : b.length ≤ 8) (hs : ∀ x ∈ b, 0 ≤ x ∧ x ≤ 255) (he : 0 ≤ e ∧ e ≤ 8) (k : AX → S → Option (AV × List Ob)) (d : Nat) : ∀ (n i : Nat) (x q : Int), b.length - i = d → i ≤ b.length → x = i → d < n →
    lpAt E_l3Column (lp E_l3Column 0 n) 0 (loopAt Tryz.f80 0) (mkS [1, 2, 5, 6] [.int .i64 e, .ptr 0 0, .int .i64 q, .int .i64 x] [some (.box 29 [.int .i64 m, .lst (.int .i64) b])]) k =
      k (.exit 0) (mkS [5] [.int .i64 (orF (bitAt b e) d i q)] []) := by
  induction d with
  | zero =>
    intro n i x q hd hi hx hn
    subst hx
    rw [lpAt_def]
    conv => lhs; whnf
    refine br_f (df (by omega)) ?_
    conv => lhs; whnf
    rfl
  | succ d ih =>
    intro n i x q hd hi hx hn
    obtain ⟨n, rfl⟩ : ∃ m, n = m + 1 := ⟨n - 1, by omega⟩
    subst hx
    rw [lpAt_def]
    conv => lhs; whnf
    refine br_t (dt (by omega)) ?_
    conv => lhs; whnf
    refine br_t (dt2 (by omega) (by omega)) ?_
    conv => lhs; whnf
    conv => lhs; arg 1; whnf
    refine bnd_g (by exact ⟨hs _ (mem_getD (by omega)), he⟩) ?_
    conv => lhs; whnf
    refine br_c (fun h => ?_) (fun h => ?_)
    · have h' : bitAt b e i = true := h
      conv => lhs; whnf
      refine br_f (by (rw [wrapu (n := (i : Int)) (by omega) (by omega)]; exact df (by omega))) ?_
      conv => lhs; whnf
      rw [shl1u (by omega)]
      rw [ih n (i + 1) _ _ (by omega) (by omega) (by rw [wrap64 (by omega) (by omega)]; simp) (by omega)]
      rw [orF, h', cond_true]
      rfl
    · have h' : bitAt b e i = false := h
      conv => lhs; whnf
      rw [ih n (i + 1) _ _ (by omega) (by omega) (by rw [wrap64 (by omega) (by omega)]; simp) (by omega)]
      rw [orF, h', cond_false]
theorem ev_l3Column (m : Int) (b : List Int) (e : Int) (hp : (0 ≤ e ∧ e ≤ 8) ∧ b.length ≤ 8 ∧ ∀ x ∈ b, 0 ≤ x ∧ x ≤ 255) : evF E_l3Column (20) Tryz.f80 [.agg [.int .i64 m, .lst (.int .i64) b], .int .i64 e] [] = some (.int .i64 (colF b e), []) := by
  conv => lhs; whnf
  refine (lp_l3Column m b e hp.2.1 hp.2.2 hp.1 _ b.length _ 0 0 _ rfl (by omega) rfl (by have := hp.2.1; change _ < 19; omega)).trans ?_
  conv => lhs; whnf
  rfl
theorem ok_l3Column : FnOk Tryz.prog 80 K_l3Column := by
  refine fn_ok (fn := Tryz.f80) (k := Tryz.f80.ntmps) (E := E_l3Column) (facts_of (List.forall_mem_cons.2 ⟨ok_l2Has, List.forall_mem_nil _⟩)) (by kernel_rfl) rfl (by decide +kernel) (by decide +kernel) ?_
  intro avs hin r h
  unfold K_l3Column at h
  split at h
  · obtain ⟨hp, rfl⟩ := gd_o h
    exact ⟨_, ev_l3Column _ _ _ hp, rfl⟩
  · cases h

/- spec.IsReducibleAttribute -/
def K_specIsReducible : List AV → List Ob → Option (AV × List Ob)
  | [.agg [.int .i64 m, .lst (.int .i64) b], .int .i64 e], [] => gd (b.length ≤ 1048576) (.bool (attrOk m b e && reducF m b e), [])
  | _, _ => none
@[reducible] def E_specIsReducible : Env := mkE (tb [(68, K_specIsContext), (59, K_l1In), (80, K_l3Column), (54, K_specFullSet)]) (fun f => false) (fun r => bif r == 6 then ([2, 5, 6, 7], [5, 6]) else ([], []))
theorem lp_specIsReducible (m : Int) (b : List Int) (hc : isCtx m b = true) (own : Int) (ho : 0 ≤ own ∧ own ≤ 255) (k : AX → S → Option (AV × List Ob)) (d : Nat) : ∀ (n i : Nat) (x q : Int), m.toNat - i = d → i ≤ m.toNat → x = i → d < n →
    lpAt E_specIsReducible (lp E_specIsReducible 0 n) 0 (loopAt Tryz.f81 0) (mkS [2, 5, 6, 7] [.ptr 0 0, .int .i64 own, .int .i64 q, .int .i64 x] [some (.box 29 [.int .i64 m, .lst (.int .i64) b])]) k =
      k (.exit 0) (mkS [5, 6] [.int .i64 own, .int .i64 (beyondF own (colsL b d i) q)] []) := by
  have hl := isCtx_len hc
  have hS : ∀ x ∈ b, 0 ≤ x ∧ x ≤ 255 := fun x hx => by have := isSet_le (hl.2.2.2 x hx); omega
  have hs : isSet 8 own = true := by rw [isSet8]; exact dt ho
  induction d with
  | zero =>
    intro n i x q hd hi hx hn
    subst hx
    rw [lpAt_def]
    conv => lhs; whnf
    refine br_f (df (by omega)) ?_
    conv => lhs; whnf
    rfl
  | succ d ih =>
    intro n i x q hd hi hx hn
    obtain ⟨n, rfl⟩ : ∃ m, n = m + 1 := ⟨n - 1, by omega⟩
    subst hx
    have e0 : (band (colF b i) own == own) = (bnot own (colF b i) == 0) := by rw [band_comm]; exact beq_bnot hs
    rw [lpAt_def]
    conv => lhs; whnf
    refine br_t (dt (by omega)) ?_
    conv => lhs; whnf
    conv => lhs; arg 1; whnf
    refine bnd_g (by exact ⟨by omega, hl.1, hS⟩) ?_
    conv => lhs; whnf
    refine br_c (fun h => ?_) (fun h => ?_)
    · have h' : (colF b i != own) = true := h
      conv => lhs; whnf
      repeat ((first | with_reducible apply br_tt | with_reducible apply br_ff | with_reducible apply br_nf | with_reducible apply br_nt | with_reducible refine br_d ?_ (by kernel_rfl) | with_reducible apply br_t h | with_reducible apply br_f h); conv => lhs; whnf)
      refine br_c (fun h2 => ?_) (fun h2 => ?_)
      · have h2' : (bnot own (colF b i) == 0) = true := e0 ▸ h2
        conv => lhs; whnf
        rw [ih n (i + 1) _ _ (by omega) (by omega) (by rw [wrap64 (by omega) (by omega)]; simp) (by omega)]
        rw [colsL, beyondF, h', h2']
        rfl
      · have h2' : (bnot own (colF b i) == 0) = false := e0 ▸ h2
        conv => lhs; whnf
        rw [ih n (i + 1) _ _ (by omega) (by omega) (by rw [wrap64 (by omega) (by omega)]; simp) (by omega)]
        rw [colsL, beyondF, h', h2']
        rfl
    · have h' : (colF b i != own) = false := h
      conv => lhs; whnf
      repeat ((first | with_reducible apply br_tt | with_reducible apply br_ff | with_reducible apply br_nf | with_reducible apply br_nt | with_reducible refine br_d ?_ (by kernel_rfl) | with_reducible apply br_t h | with_reducible apply br_f h); conv => lhs; whnf)
      rw [ih n (i + 1) _ _ (by omega) (by omega) (by rw [wrap64 (by omega) (by omega)]; simp) (by omega)]
      rw [colsL, beyondF, h']
      rfl
theorem ev_specIsReducible (m : Int) (b : List Int) (e : Int) (hp : b.length ≤ 1048576) : evF E_specIsReducible (20) Tryz.f81 [.agg [.int .i64 m, .lst (.int .i64) b], .int .i64 e] [] = some (.bool (attrOk m b e && reducF m b e), []) := by
  conv => lhs; whnf
  conv => lhs; arg 1; whnf
  refine bnd_g (by omega) ?_
  conv => lhs; whnf
  refine br_c (fun h => ?_) (fun h => ?_)
  · conv => lhs; whnf
    repeat ((first | with_reducible apply br_tt | with_reducible apply br_ff | with_reducible apply br_nf | with_reducible apply br_nt | with_reducible refine br_d ?_ (by kernel_rfl) | with_reducible apply br_t h | with_reducible apply br_f h); conv => lhs; whnf)
    refine okB ?_
    unfold attrOk
    rw [bnt h]
    rfl
  · have hl := isCtx_len (bnf h)
    have hw : IntKind.i64.wrap (m - 1) = m - 1 := wrap64 (by omega) (by omega)
    conv => lhs; whnf
    repeat ((first | with_reducible apply br_tt | with_reducible apply br_ff | with_reducible apply br_nf | with_reducible apply br_nt | with_reducible refine br_d ?_ (by kernel_rfl) | with_reducible apply br_t h | with_reducible apply br_f h); conv => lhs; whnf)
    conv => lhs; arg 1; whnf
    refine bnd_g (by exact True.intro) ?_
    conv => lhs; whnf
    repeat ((first | with_reducible apply br_tt | with_reducible apply br_ff | with_reducible apply br_nf | with_reducible apply br_nt | with_reducible refine br_d ?_ (by kernel_rfl) | with_reducible apply br_t h | with_reducible apply br_f h); conv => lhs; whnf)
    refine br_c (fun h2 => ?_) (fun h2 => ?_)
    · have h2' := ofnt h2
      rw [hw] at h2'
      conv => lhs; whnf
      refine okB ?_
      unfold attrOk
      rw [df h2', Bool.and_false]
      rfl
    · have h2' := ofnf h2
      rw [hw] at h2'
      have hs : ∀ x ∈ b, 0 ≤ x ∧ x ≤ 255 := fun x hx => by have := isSet_le (hl.2.2.2 x hx); omega
      have hcs := colF_set b e hl.1
      conv => lhs; whnf
      conv => lhs; arg 1; whnf
      refine bnd_g (by exact ⟨by omega, hl.1, hs⟩) ?_
      conv => lhs; whnf
      conv => lhs; arg 1; whnf
      refine bnd_g (by exact True.intro) ?_
      conv => lhs; whnf
      refine (lp_specIsReducible m b (bnf h) (colF b e) hcs _ m.toNat _ 0 0 _ rfl (by omega) rfl (by change _ < 19; omega)).trans ?_
      conv => lhs; whnf
      refine okB ?_
      unfold attrOk
      rw [bnf h, dt h2']
      rfl
theorem ok_specIsReducible : FnOk Tryz.prog 81 K_specIsReducible := by
  refine fn_ok (fn := Tryz.f81) (k := Tryz.f81.ntmps) (E := E_specIsReducible) (facts_of (List.forall_mem_cons.2 ⟨ok_specIsContext, List.forall_mem_cons.2 ⟨ok_l1In, List.forall_mem_cons.2 ⟨ok_l3Column, List.forall_mem_cons.2 ⟨ok_specFullSet, List.forall_mem_nil _⟩⟩⟩⟩)) (by kernel_rfl) rfl (by decide +kernel) (by decide +kernel) ?_
  intro avs hin r h
  unfold K_specIsReducible at h
  split at h
  · obtain ⟨hp, rfl⟩ := gd_o h
    exact ⟨_, ev_specIsReducible _ _ _ hp, rfl⟩
  · cases h

/- spec.AttributeVector -/
def K_specAttributeVector : List AV → List Ob → Option (AV × List Ob)
  | [.agg [.int .i64 m, .lst (.int .i64) b], .int .i64 e], [] => gd (b.length ≤ 1048576) (.tup [.agg [.int .i64 (vecF m b e).1, .int .i64 (vecF m b e).2.1], .bool (vecF m b e).2.2], [])
  | _, _ => none
@[reducible] def E_specAttributeVector : Env := mkE (tb [(68, K_specIsContext), (59, K_l1In), (80, K_l3Column), (81, K_specIsReducible)]) (fun f => false) (fun r => bif r == 4 then ([1, 2, 4, 6], [1, 2, 4, 5]) else ([], []))
theorem lp_specAttributeVector (m : Int) (b : List Int) (hc : isCtx m b = true) (e : Int) (he : 0 ≤ e ∧ e ≤ m - 1) (k : AX → S → Option (AV × List Ob)) (r : Option (AV × List Ob)) (hk : k .ret (mkS [1, 2, 4, 5] [.int .i64 e, .ptr 0 0, .ptr 1 0, .bool true] [some (.box 29 [.int .i64 m, .lst (.int .i64) b]), some (.box 52 [.int .i64 0, .int .i64 0])]) = r) (d : Nat) : ∀ (n i : Nat) (x : Int), e.toNat - i = d → i ≤ e.toNat → x = i → d < n →
    lpAt E_specAttributeVector (lp E_specAttributeVector 0 n) 0 (loopAt Tryz.f34 0) (mkS [1, 2, 4, 6] [.int .i64 e, .ptr 0 0, .ptr 1 0, .int .i64 x] [some (.box 29 [.int .i64 m, .lst (.int .i64) b]), some (.box 52 [.int .i64 0, .int .i64 0])]) k =
      if allB (fun j => !(colF b j == colF b e)) d i then k (.exit 0) (mkS [1, 2, 4, 5] [.int .i64 e, .ptr 0 0, .ptr 1 0, .any] [some (.box 29 [.int .i64 m, .lst (.int .i64) b]), some (.box 52 [.int .i64 0, .int .i64 0])]) else r := by
  have hl := isCtx_len hc
  have hS : ∀ x ∈ b, 0 ≤ x ∧ x ≤ 255 := fun x hx => by have := isSet_le (hl.2.2.2 x hx); omega
  induction d with
  | zero =>
    intro n i x hd hi hx hn
    subst hx
    rw [lpAt_def]
    conv => lhs; whnf
    refine br_f (df (by omega)) ?_
    conv => lhs; whnf
    rfl
  | succ d ih =>
    intro n i x hd hi hx hn
    obtain ⟨n, rfl⟩ : ∃ m, n = m + 1 := ⟨n - 1, by omega⟩
    subst hx
    rw [lpAt_def]
    conv => lhs; whnf
    refine br_t (dt (by omega)) ?_
    conv => lhs; whnf
    conv => lhs; arg 1; whnf
    refine bnd_g (by exact ⟨by omega, hl.1, hS⟩) ?_
    conv => lhs; whnf
    conv => lhs; arg 1; whnf
    refine bnd_g (by exact ⟨by omega, hl.1, hS⟩) ?_
    conv => lhs; whnf
    refine br_t (by kernel_rfl) ?_
    conv => lhs; whnf
    refine br_c (fun h => ?_) (fun h => ?_)
    · have h' : (colF b i == colF b e) = true := h
      conv => lhs; whnf
      rw [if_neg (by rw [allB, h']; exact Bool.false_ne_true)]
      exact hk
    · have h' : (colF b i == colF b e) = false := h
      conv => lhs; whnf
      rw [ih n (i + 1) _ (by omega) (by omega) (by rw [wrap64 (by omega) (by omega)]; simp) (by omega)]
      rw [allB, h', Bool.not_false, Bool.true_and]
theorem ev_specAttributeVector (m : Int) (b : List Int) (e : Int) (hp : b.length ≤ 1048576) : evF E_specAttributeVector (20) Tryz.f34 [.agg [.int .i64 m, .lst (.int .i64) b], .int .i64 e] [] = some (.tup [.agg [.int .i64 (vecF m b e).1, .int .i64 (vecF m b e).2.1], .bool (vecF m b e).2.2], []) := by
  conv => lhs; whnf
  conv => lhs; arg 1; whnf
  refine bnd_g (by omega) ?_
  conv => lhs; whnf
  refine br_c (fun h => ?_) (fun h => ?_)
  · have hf : vecF m b e = (0, 0, false) := by
      unfold vecF attrOk
      rw [bnt h]
      rfl
    rw [hf]
    conv => lhs; whnf
    repeat ((first | with_reducible apply br_tt | with_reducible apply br_ff | with_reducible apply br_nf | with_reducible apply br_nt | with_reducible refine br_d ?_ (by kernel_rfl) | with_reducible apply br_t h | with_reducible apply br_f h); conv => lhs; whnf)
  · have hl := isCtx_len (bnf h)
    have hw : IntKind.i64.wrap (m - 1) = m - 1 := wrap64 (by omega) (by omega)
    conv => lhs; whnf
    repeat ((first | with_reducible apply br_tt | with_reducible apply br_ff | with_reducible apply br_nf | with_reducible apply br_nt | with_reducible refine br_d ?_ (by kernel_rfl) | with_reducible apply br_t h | with_reducible apply br_f h); conv => lhs; whnf)
    conv => lhs; arg 1; whnf
    refine bnd_g (by exact True.intro) ?_
    conv => lhs; whnf
    repeat ((first | with_reducible apply br_tt | with_reducible apply br_ff | with_reducible apply br_nf | with_reducible apply br_nt | with_reducible refine br_d ?_ (by kernel_rfl) | with_reducible apply br_t h | with_reducible apply br_f h); conv => lhs; whnf)
    refine br_c (fun h2 => ?_) (fun h2 => ?_)
    · have h2' := ofnt h2
      rw [hw] at h2'
      have hf : vecF m b e = (0, 0, false) := by
        unfold vecF attrOk
        rw [df h2', Bool.and_false]
        rfl
      rw [hf]
      conv => lhs; whnf
    · have h2' := ofnf h2
      rw [hw] at h2'
      have hA : attrOk m b e = true := by
        unfold attrOk
        rw [bnf h, dt h2']
        rfl
      conv => lhs; whnf
      refine (lp_specAttributeVector m b (bnf h) e h2' _ _ rfl e.toNat _ 0 0 rfl (by omega) rfl (by change _ < 19; omega)).trans ?_
      split
      · rename_i h3
        conv => lhs; whnf
        conv => lhs; arg 1; whnf
        refine bnd_g (by exact hp) ?_
        conv => lhs; whnf
        refine br_c (fun h4 => ?_) (fun h4 => ?_)
        · rw [hA, Bool.true_and] at h4
          have hf : vecF m b e = (0, 0, true) := by
            unfold vecF
            rw [hA, h4, Bool.or_true]
            rfl
          rw [hf]
          conv => lhs; whnf
        · rw [hA, Bool.true_and] at h4
          have hf : vecF m b e = (2 * e + 1 - m, 1, true) := by
            unfold vecF dupF
            rw [hA, h4, h3]
            rfl
          rw [hf]
          conv => lhs; whnf
          rw [wrap64 (n := 2 * e) (by omega) (by omega), wrap64 (n := 2 * e + 1) (by omega) (by omega), wrap64 (n := 2 * e + 1 - m) (by omega) (by omega)]
      · rename_i h3
        have hf : vecF m b e = (0, 0, true) := by
          unfold vecF dupF
          rw [Bool.not_eq_true] at h3
          rw [hA, h3]
          rfl
        rw [hf]
        conv => lhs; whnf
theorem ok_specAttributeVector : FnOk Tryz.prog 34 K_specAttributeVector := by
  refine fn_ok (fn := Tryz.f34) (k := Tryz.f34.ntmps) (E := E_specAttributeVector) (facts_of (List.forall_mem_cons.2 ⟨ok_specIsContext, List.forall_mem_cons.2 ⟨ok_l1In, List.forall_mem_cons.2 ⟨ok_l3Column, List.forall_mem_cons.2 ⟨ok_specIsReducible, List.forall_mem_nil _⟩⟩⟩⟩)) (by kernel_rfl) rfl (by decide +kernel) (by decide +kernel) ?_
  intro avs hin r h
  unfold K_specAttributeVector at h
  split at h
  · obtain ⟨hp, rfl⟩ := gd_o h
    exact ⟨_, ev_specAttributeVector _ _ _ hp, rfl⟩
  · cases h

/- spec.SpotOf -/
def K_specSpotOf : List AV → List Ob → Option (AV × List Ob)
  | [.agg [.int .i64 m, .lst (.int .i64) b], .int .i64 a], [] => gd (b.length ≤ 1048576) (.tup [.agg [.int .i64 (spotF m b a).1, .int .i64 (spotF m b a).2], .bool (inC (concF m b) a)], [])
  | _, _ => none
@[reducible] def E_specSpotOf : Env := mkE (tb [(26, K_specConcepts), (66, K_l6Exists), (55, K_l2Has), (34, K_specAttributeVector)]) (fun f => false) (fun r => bif r == 6 then ([1, 2, 4, 6, 7, 8], [4, 7]) else ([], []))
theorem lp_specSpotOf (m : Int) (b : List Int) (a : Int) (hc : isCtx m b = true) (N : Nat) (hN : m = N) (l : List (Int × Int)) (ha : 0 ≤ a ∧ a < (l.length : Int)) (hl : l.length ≤ 64) (hE : isSet 8 (elC l a).2 = true) (k : AX → S → Option (AV × List Ob)) (d : Nat) : ∀ (n i : Nat) (z x y : Int), N - i = d → i ≤ N → z = i → d < n →
    lpAt E_specSpotOf (lp E_specSpotOf 0 n) 0 (loopAt Tryz.f31 0) (mkS [1, 2, 4, 6, 7, 8] [.int .i64 a, .ptr 0 0, .ptr 1 0, .own 2, .ptr 3 0, .int .i64 z] [some (.box 29 [.int .i64 m, .lst (.int .i64) b]), some (.box 52 [.int .i64 0, .int .i64 0]), some (.row 47 (.pair (.int .i64) (.int .i64)) l), some (.box 52 [.int .i64 x, .int .i64 y])]) k =
      k (.exit 0) (mkS [4, 7] [.ptr 0 0, .ptr 1 0] [some (.box 52 [.int .i64 0, .int .i64 0]), some (.box 52 [.int .i64 (spL m b (elemsL (elC l a).2 d i) x y).1, .int .i64 (spL m b (elemsL (elC l a).2 d i) x y).2])]) := by
  have hlen := isCtx_len hc
  have hr := isSet_le hE
  induction d with
  | zero =>
    intro n i z x y hd hi hx hn
    subst hx
    rw [lpAt_def]
    conv => lhs; whnf
    refine br_f (df (by omega)) ?_
    conv => lhs; whnf
    rfl
  | succ d ih =>
    intro n i z x y hd hi hx hn
    obtain ⟨n, rfl⟩ : ∃ m, n = m + 1 := ⟨n - 1, by omega⟩
    subst hx
    have hh : hasE (elC l a).2 (i : Int) = (elC l a).2.toNat.testBit (i : Int).toNat := by
      unfold hasE
      rw [hE, dt (show 0 ≤ (i : Int) ∧ (i : Int) ≤ 7 by omega)]
      rfl
    rw [lpAt_def]
    conv => lhs; whnf
    refine br_t (dt (by omega)) ?_
    conv => lhs; whnf
    refine br_t (dt2 (by omega) (by omega)) ?_
    conv => lhs; whnf
    refine br_t (dt (by omega)) ?_
    conv => lhs; whnf
    conv => lhs; arg 1; whnf
    refine bnd_g (by (change (0 ≤ (elC l a).2 ∧ (elC l a).2 ≤ 255) ∧ (0 ≤ (i : Int) ∧ (i : Int) ≤ 8); omega)) ?_
    conv => lhs; whnf
    refine br_c (fun h => ?_) (fun h => ?_)
    · have h' : (elC l a).2.toNat.testBit (i : Int).toNat = true := h
      conv => lhs; whnf
      conv => lhs; arg 1; whnf
      refine bnd_g (by omega) ?_
      conv => lhs; whnf
      refine Eq.trans (ih n (i + 1) _ _ _ (by omega) (by omega) (by rw [wrap64 (n := (i : Int) + 1) (by omega) (by omega)]; simp) (by omega)) ?_
      rw [elemsL, hh, h', cond_true, spL]
    · have h' : (elC l a).2.toNat.testBit (i : Int).toNat = false := h
      conv => lhs; whnf
      refine Eq.trans (ih n (i + 1) _ _ _ (by omega) (by omega) (by rw [wrap64 (n := (i : Int) + 1) (by omega) (by omega)]; simp) (by omega)) ?_
      rw [elemsL, hh, h', cond_false]
theorem ev_specSpotOf (m : Int) (b : List Int) (a : Int) (hp : b.length ≤ 1048576) : evF E_specSpotOf (20) Tryz.f31 [.agg [.int .i64 m, .lst (.int .i64) b], .int .i64 a] [] = some (.tup [.agg [.int .i64 (spotF m b a).1, .int .i64 (spotF m b a).2], .bool (inC (concF m b) a)], []) := by
  have hl := concF_len m b
  conv => lhs; whnf
  conv => lhs; arg 1; whnf
  refine bnd_g (by exact hp) ?_
  conv => lhs; whnf
  conv => lhs; arg 1; whnf
  refine bnd_g (by exact hl) ?_
  conv => lhs; whnf
  refine br_c (fun h => ?_) (fun h => ?_)
  · unfold spotF
    rw [bnt h]
    conv => lhs; whnf
    rfl
  · have h2 := inC_iff.1 (bnf h)
    obtain ⟨h3, h4, h5, h6, h7⟩ := concF_at (bnf h)
    have h8 := isSet_le h4
    have hlen := isCtx_len h3
    obtain ⟨N, rfl⟩ : ∃ N : Nat, m = N := ⟨m.toNat, by omega⟩
    unfold spotF
    rw [bnf h, cond_true, elems_cut (by omega) h4]
    conv => lhs; whnf
    refine (lp_specSpotOf N b a h3 N rfl (concF N b) h2 hl (isSet_8' h4) _ N _ 0 0 0 0 rfl (by omega) rfl (by change _ < 19; omega)).trans ?_
    conv => lhs; whnf
theorem ok_specSpotOf : FnOk Tryz.prog 31 K_specSpotOf := by
  refine fn_ok (fn := Tryz.f31) (k := Tryz.f31.ntmps) (E := E_specSpotOf) (facts_of (List.forall_mem_cons.2 ⟨ok_specConcepts, List.forall_mem_cons.2 ⟨ok_l6Exists, List.forall_mem_cons.2 ⟨ok_l2Has, List.forall_mem_cons.2 ⟨ok_specAttributeVector, List.forall_mem_nil _⟩⟩⟩⟩)) (by kernel_rfl) rfl (by decide +kernel) (by decide +kernel) ?_
  intro avs hin r h
  unfold K_specSpotOf at h
  split at h
  · obtain ⟨hp, rfl⟩ := gd_o h
    exact ⟨_, ev_specSpotOf _ _ _ hp, rfl⟩
  · cases h

def hitB (s : Int × Int) (seen : List (Int × Int)) : Bool := seen.any (fun q => q.1 == s.1 && q.2 == s.2)
def crowdF (m : Int) (b : List Int) : Nat → Nat → List (Int × Int) → Bool
  | 0, _, _ => false
  | d + 1, i, seen => bif hitB (spotF m b i) seen then true else crowdF m b d (i + 1) (seen ++ [spotF m b i])
abbrev seenM (l : List (Int × Int)) : List ((Int × Int) × Bool) := l.map fun q => (q, true)
theorem eq_pb (a b : Int × Int) : MK.eq .pb a b = (b.1 == a.1 && b.2 == a.2) := by
  have h : ∀ x y : Int, (x == y) = (y == x) := fun x y => by rw [Bool.eq_iff_iff, beq_iff_eq, beq_iff_eq]; exact eq_comm
  have : MK.eq .pb a b = (a.1 == b.1 && a.2 == b.2) := rfl
  rw [this, h a.1, h a.2]
theorem mget_seen (s : Int × Int) : ∀ (l : List (Int × Int)), (mget .pb s (seenM l)).getD MK.pb.z = hitB s l
  | [] => rfl
  | q :: l => by
    unfold hitB
    rw [List.any_cons, seenM, List.map_cons, mget]
    rw [eq_pb]
    cases h : q.1 == s.1 && q.2 == s.2
    · rw [if_neg Bool.false_ne_true, Bool.false_or]
      exact mget_seen s l
    · rw [if_pos rfl]
      rfl
theorem mput_seen (s : Int × Int) : ∀ (l : List (Int × Int)), hitB s l = false → mput .pb s true (seenM l) = seenM (l ++ [s])
  | [], _ => rfl
  | q :: l, h => by
    unfold hitB at h
    rw [List.any_cons, Bool.or_eq_false_iff] at h
    have ih := mput_seen s l h.2
    rw [seenM, List.map_cons, mput, eq_pb]
    rw [h.1, if_neg Bool.false_ne_true]
    exact congrArg _ ih
/- impl.HasCrowd -/
def K_implHasCrowd : List AV → List Ob → Option (AV × List Ob)
  | [.agg [.int .i64 m, .lst (.int .i64) b]], [] => gd (b.length ≤ 1048576) (.bool (crowdF m b (concF m b).length 0 []), [])
  | _, _ => none
@[reducible] def E_implHasCrowd : Env := mkE (tb [(57, K_implConcepts), (30, K_implSpotOf)]) (fun f => false) (fun r => bif r == 3 then ([1, 3, 10, 11], [2]) else ([], []))
theorem lp_implHasCrowd (m : Int) (b : List Int) (hb : b.length ≤ 1048576) (N : Nat) (hN : N ≤ 64) (k : AX → S → Option (AV × List Ob)) (d : Nat) : ∀ (n i : Nat) (x : Int) (L : List (Int × Int)) (ps : List ((Int × Int) × Bool)), N - i = d → i ≤ N → x = i → d < n → ps = seenM L →
    lpAt E_implHasCrowd (lp E_implHasCrowd 0 n) 0 (loopAt Tryz.f39 0) (mkS [1, 3, 10, 11] [.ptr 0 0, .mp 1, .int .i64 (N : Int), .int .i64 x] [some (.box 29 [.int .i64 m, .lst (.int .i64) b]), some (.map .pb ps)]) k =
      if crowdF m b d i L then k .ret (mkS [2] [.bool true] []) else k (.exit 0) (mkS [2] [.any] []) := by
  induction d with
  | zero =>
    intro n i x L ps hd hi hx hn hps
    subst hx
    rw [lpAt_def]
    conv => lhs; whnf
    refine br_f (df (by omega)) ?_
    conv => lhs; whnf
    rfl
  | succ d ih =>
    intro n i x L ps hd hi hx hn hps
    obtain ⟨n, rfl⟩ : ∃ m, n = m + 1 := ⟨n - 1, by omega⟩
    subst hx
    have hg : (mget .pb ((spotF m b (i : Int)).1, (spotF m b (i : Int)).2) ps).getD MK.pb.z = hitB (spotF m b (i : Int)) L := by rw [hps]; exact mget_seen (spotF m b (i : Int)) L
    rw [lpAt_def]
    conv => lhs; whnf
    refine br_t (dt (by omega)) ?_
    conv => lhs; whnf
    conv => lhs; arg 1; whnf
    refine bnd_g (by omega) ?_
    conv => lhs; whnf
    refine br_c (fun h => ?_) (fun h => ?_)
    · have h' : hitB (spotF m b (i : Int)) L = true := hg.symm.trans h
      conv => lhs; whnf
      rw [if_pos (by rw [crowdF, h']; rfl)]
    · have h' : hitB (spotF m b (i : Int)) L = false := hg.symm.trans h
      have hp2 : mput .pb ((spotF m b (i : Int)).1, (spotF m b (i : Int)).2) true ps = seenM (L ++ [spotF m b (i : Int)]) := by rw [hps]; exact mput_seen (spotF m b (i : Int)) L h'
      have e : crowdF m b (d + 1) i L = crowdF m b d (i + 1) (L ++ [spotF m b (i : Int)]) := by rw [crowdF, h']; rfl
      conv => lhs; whnf
      refine (ih n (i + 1) (IntKind.i64.wrap ((i : Int) + 1)) (L ++ [spotF m b (i : Int)]) _ (by omega) (by omega) (by rw [wrap64 (by omega) (by omega)]; simp) (by omega) hp2).trans ?_
      rw [e]
theorem ev_implHasCrowd (m : Int) (b : List Int) (hp : b.length ≤ 1048576) : evF E_implHasCrowd (100) Tryz.f39 [.agg [.int .i64 m, .lst (.int .i64) b]] [] = some (.bool (crowdF m b (concF m b).length 0 []), []) := by
  have hl := concF_len m b
  conv => lhs; whnf
  conv => lhs; arg 1; whnf
  refine bnd_g (by exact hp) ?_
  conv => lhs; whnf
  refine (lp_implHasCrowd m b hp (concF m b).length hl _ (concF m b).length _ 0 0 [] [] rfl (by omega) rfl (by change _ < 99; omega) rfl).trans ?_
  split
  · rename_i he
    conv => lhs; whnf
    rw [he]
  · rename_i he
    conv => lhs; whnf
    rw [Bool.not_eq_true] at he
    rw [he]
theorem ok_implHasCrowd : FnOk Tryz.prog 39 K_implHasCrowd := by
  refine fn_ok (fn := Tryz.f39) (k := Tryz.f39.ntmps) (E := E_implHasCrowd) (facts_of (List.forall_mem_cons.2 ⟨ok_implConcepts, List.forall_mem_cons.2 ⟨ok_implSpotOf, List.forall_mem_nil _⟩⟩)) (by kernel_rfl) rfl (by decide +kernel) (by decide +kernel) ?_
  intro avs hin r h
  unfold K_implHasCrowd at h
  split at h
  · obtain ⟨hp, rfl⟩ := gd_o h
    exact ⟨_, ev_implHasCrowd _ _ hp, rfl⟩
  · cases h

/- spec.HasCrowd -/
def K_specHasCrowd : List AV → List Ob → Option (AV × List Ob)
  | [.agg [.int .i64 m, .lst (.int .i64) b]], [] => gd (b.length ≤ 1048576) (.bool (crowdF m b (concF m b).length 0 []), [])
  | _, _ => none
@[reducible] def E_specHasCrowd : Env := mkE (tb [(26, K_specConcepts), (31, K_specSpotOf)]) (fun f => false) (fun r => bif r == 4 then ([1, 3, 4, 5], [1, 2, 3, 4, 5, 6]) else bif r == 8 then ([1, 3, 4, 5, 6, 8], [1, 2, 3, 4, 5, 6]) else ([], []))
theorem lq_specHasCrowd (m : Int) (b : List Int) (N : Int) (j : Int) (s : Int × Int) (L : List (Int × Int)) (hL : L.length ≤ 64) (k : AX → S → Option (AV × List Ob)) (d : Nat) : ∀ (n i : Nat) (x : Int), L.length - i = d → i ≤ L.length → x = i → d < n →
    lpAt E_specHasCrowd (lp E_specHasCrowd 0 n) 0 (loopAt Tryz.f40 1) (mkS [1, 3, 4, 5, 6, 8] [.ptr 0 0, .int .i64 N, .own 1, .int .i64 j, .ptr 2 0, .int .i64 x] [some (.box 29 [.int .i64 m, .lst (.int .i64) b]), some (.row 52 (.pair (.int .i64) (.int .i64)) L), some (.box 52 [.int .i64 s.1, .int .i64 s.2])]) k =
      if (L.drop i).any (fun q => q.1 == s.1 && q.2 == s.2) then k .ret (mkS [1, 2, 3, 4, 5, 6] [.ptr 0 0, .bool true, .int .i64 N, .own 1, .int .i64 j, .ptr 2 0] [some (.box 29 [.int .i64 m, .lst (.int .i64) b]), some (.row 52 (.pair (.int .i64) (.int .i64)) L), some (.box 52 [.int .i64 s.1, .int .i64 s.2])])
      else k (.exit 2) (mkS [1, 2, 3, 4, 5, 6] [.ptr 0 0, .any, .int .i64 N, .own 1, .int .i64 j, .ptr 2 0] [some (.box 29 [.int .i64 m, .lst (.int .i64) b]), some (.row 52 (.pair (.int .i64) (.int .i64)) L), some (.box 52 [.int .i64 s.1, .int .i64 s.2])]) := by
  induction d with
  | zero =>
    intro n i x hd hi hx hn
    subst hx
    rw [lpAt_def]
    conv => lhs; whnf
    refine br_f (df (by omega)) ?_
    conv => lhs; whnf
    rw [List.drop_of_length_le (by omega)]
    rfl
  | succ d ih =>
    intro n i x hd hi hx hn
    obtain ⟨n, rfl⟩ : ∃ m, n = m + 1 := ⟨n - 1, by omega⟩
    subst hx
    rw [lpAt_def]
    conv => lhs; whnf
    refine br_t (dt (by omega)) ?_
    conv => lhs; whnf
    refine br_t (dt2 (by omega) (by omega)) ?_
    conv => lhs; whnf
    refine br_t (dt (by omega)) ?_
    conv => lhs; whnf
    refine br_t (by kernel_rfl) ?_
    conv => lhs; whnf
    rw [getD_drop (l := L) (i := i) (d := (0, 0)) (by omega)]
    refine br_c (fun h => ?_) (fun h => ?_)
    · have h' : ((L.getD i (0, 0)).1 == s.1 && (L.getD i (0, 0)).2 == s.2) = true := h
      conv => lhs; whnf
      rw [if_pos (by simp only [List.any_cons, h', Bool.true_or])]
    · have h' : ((L.getD i (0, 0)).1 == s.1 && (L.getD i (0, 0)).2 == s.2) = false := h
      conv => lhs; whnf
      refine (ih n (i + 1) (IntKind.i64.wrap ((i : Int) + 1)) (by omega) (by omega) (by rw [wrap64 (by omega) (by omega)]; simp) (by omega)).trans ?_
      simp only [List.any_cons, h', Bool.false_or]
theorem lp_specHasCrowd (m : Int) (b : List Int) (hb : b.length ≤ 1048576) (N : Nat) (hN : N ≤ 64) (k : AX → S → Option (AV × List Ob)) (r1 r2 : Option (AV × List Ob)) (hk1 : ∀ (q : Int) (L : List (Int × Int)) (s : Int × Int), k .ret (mkS [1, 2, 3, 4, 5, 6] [.ptr 0 0, .bool true, .int .i64 (N : Int), .own 1, .int .i64 q, .ptr 2 0] [some (.box 29 [.int .i64 m, .lst (.int .i64) b]), some (.row 52 (.pair (.int .i64) (.int .i64)) L), some (.box 52 [.int .i64 s.1, .int .i64 s.2])]) = r1)
    (hk2 : ∀ (q : Int) (L : List (Int × Int)), k (.exit 0) (mkS [1, 2, 3, 4, 5, 6] [.ptr 0 0, .any, .int .i64 (N : Int), .own 1, .int .i64 q, .any] [some (.box 29 [.int .i64 m, .lst (.int .i64) b]), some (.row 52 (.pair (.int .i64) (.int .i64)) L)]) = r2) (d : Nat) : ∀ (n i : Nat) (x : Int) (L : List (Int × Int)), N - i = d → i ≤ N → x = i → d + 100 < n → L.length = i →
    lpAt E_specHasCrowd (lp E_specHasCrowd 0 n) 0 (loopAt Tryz.f40 0) (mkS [1, 3, 4, 5] [.ptr 0 0, .int .i64 (N : Int), .own 1, .int .i64 x] [some (.box 29 [.int .i64 m, .lst (.int .i64) b]), some (.row 52 (.pair (.int .i64) (.int .i64)) L)]) k =
      if crowdF m b d i L then r1 else r2 := by
  induction d with
  | zero =>
    intro n i x L hd hi hx hn hL
    subst hx
    rw [lpAt_def]
    conv => lhs; whnf
    refine br_f (df (by omega)) ?_
    conv => lhs; whnf
    exact (hk2 _ _).trans (if_neg Bool.false_ne_true).symm
  | succ d ih =>
    intro n i x L hd hi hx hn hL
    obtain ⟨n, rfl⟩ : ∃ m, n = m + 1 := ⟨n - 1, by omega⟩
    subst hx
    rw [lpAt_def]
    conv => lhs; whnf
    refine br_t (dt (by omega)) ?_
    conv => lhs; whnf
    conv => lhs; arg 1; whnf
    refine bnd_g (by omega) ?_
    conv => lhs; whnf
    refine (lq_specHasCrowd m b (N : Int) (i : Int) (spotF m b (i : Int)) L (by omega) _ L.length _ 0 0 rfl (by omega) rfl (by omega)).trans ?_
    rw [List.drop_zero]
    have e0 : L.any (fun q => q.1 == (spotF m b (i : Int)).1 && q.2 == (spotF m b (i : Int)).2) = hitB (spotF m b (i : Int)) L := rfl
    split
    · rename_i h
      rw [e0] at h
      conv => lhs; whnf
      rw [if_pos (by rw [crowdF, h]; rfl)]
      exact hk1 _ _ _
    · rename_i h
      rw [e0, Bool.not_eq_true] at h
      have e : crowdF m b (d + 1) i L = crowdF m b d (i + 1) (L ++ [spotF m b (i : Int)]) := by rw [crowdF, h]; rfl
      conv => lhs; whnf
      refine br_t (dt (by simp [room]; omega)) ?_
      conv => lhs; whnf
      refine (ih n (i + 1) (IntKind.i64.wrap ((i : Int) + 1)) (L ++ [spotF m b (i : Int)]) (by omega) (by omega) (by rw [wrap64 (by omega) (by omega)]; simp) (by omega) (by simp; omega)).trans ?_
      rw [e]
theorem ev_specHasCrowd (m : Int) (b : List Int) (hp : b.length ≤ 1048576) : evF E_specHasCrowd (200) Tryz.f40 [.agg [.int .i64 m, .lst (.int .i64) b]] [] = some (.bool (crowdF m b (concF m b).length 0 []), []) := by
  have hl := concF_len m b
  conv => lhs; whnf
  conv => lhs; arg 1; whnf
  refine bnd_g (by exact hp) ?_
  conv => lhs; whnf
  refine (lp_specHasCrowd m b hp (concF m b).length hl _ (some (.bool true, [])) (some (.bool false, [])) (fun q L s => ?_) (fun q L => ?_) (concF m b).length _ 0 0 [] rfl (by omega) rfl (by change _ < 199; omega) rfl).trans ?_
  · conv => lhs; whnf
  · conv => lhs; whnf
  · cases crowdF m b (concF m b).length 0 [] <;> rfl
theorem ok_specHasCrowd : FnOk Tryz.prog 40 K_specHasCrowd := by
  refine fn_ok (fn := Tryz.f40) (k := Tryz.f40.ntmps) (E := E_specHasCrowd) (facts_of (List.forall_mem_cons.2 ⟨ok_specConcepts, List.forall_mem_cons.2 ⟨ok_specSpotOf, List.forall_mem_nil _⟩⟩)) (by kernel_rfl) rfl (by decide +kernel) (by decide +kernel) ?_
  intro avs hin r h
  unfold K_specHasCrowd at h
  split at h
  · obtain ⟨hp, rfl⟩ := gd_o h
    exact ⟨_, ev_specHasCrowd _ _ hp, rfl⟩
  · cases h

/- spec.l6Under -/
def K_l6Under : List AV → List Ob → Option (AV × List Ob)
  | [.agg [.int .i64 p, .int .i64 q], .agg [.int .i64 x, .int .i64 y]], [] => gd (True) (.bool (band p x == p), [])
  | _, _ => none
@[reducible] def E_l6Under : Env := mkE (tb []) (fun f => false) (fun r => ([], []))
theorem ev_l6Under (p q : Int) (x y : Int) (hp : True) : evF E_l6Under (1) Tryz.f67 [.agg [.int .i64 p, .int .i64 q], .agg [.int .i64 x, .int .i64 y]] [] = some (.bool (band p x == p), []) := by
  conv => lhs; whnf
  rfl
theorem ok_l6Under : FnOk Tryz.prog 67 K_l6Under := by
  refine fn_ok (fn := Tryz.f67) (k := Tryz.f67.ntmps) (E := E_l6Under) (facts_of (List.forall_mem_nil _)) (by kernel_rfl) rfl (by decide +kernel) (by decide +kernel) ?_
  intro avs hin r h
  unfold K_l6Under at h
  split at h
  · obtain ⟨hp, rfl⟩ := gd_o h
    exact ⟨_, ev_l6Under _ _ _ _ hp, rfl⟩
  · cases h

/- spec.IsBelow -/
def K_specIsBelow : List AV → List Ob → Option (AV × List Ob)
  | [.agg [.int .i64 m, .lst (.int .i64) b], .int .i64 x, .int .i64 y], [] => gd (b.length ≤ 1048576) (.bool (belowB (concF m b) x y), [])
  | _, _ => none
@[reducible] def E_specIsBelow : Env := mkE (tb [(26, K_specConcepts), (66, K_l6Exists), (67, K_l6Under)]) (fun f => false) (fun r => ([], []))
theorem ev_specIsBelow (m : Int) (b : List Int) (x y : Int) (hp : b.length ≤ 1048576) : evF E_specIsBelow (1) Tryz.f25 [.agg [.int .i64 m, .lst (.int .i64) b], .int .i64 x, .int .i64 y] [] = some (.bool (belowB (concF m b) x y), []) := by
  have hl := concF_len m b
  conv => lhs; whnf
  conv => lhs; arg 1; whnf
  refine bnd_g (by exact hp) ?_
  conv => lhs; whnf
  conv => lhs; arg 1; whnf
  refine bnd_g (by exact hl) ?_
  conv => lhs; whnf
  refine br_c (fun h => ?_) (fun h => ?_)
  · have h1 := inC_iff.1 h
    conv => lhs; whnf
    repeat ((first | with_reducible apply br_tt | with_reducible apply br_ff | with_reducible apply br_nf | with_reducible apply br_nt | with_reducible refine br_d ?_ (by kernel_rfl) | with_reducible apply br_t h | with_reducible apply br_f h); conv => lhs; whnf)
    conv => lhs; arg 1; whnf
    refine bnd_g (by exact hl) ?_
    conv => lhs; whnf
    repeat ((first | with_reducible apply br_tt | with_reducible apply br_ff | with_reducible apply br_nf | with_reducible apply br_nt | with_reducible refine br_d ?_ (by kernel_rfl) | with_reducible apply br_t h | with_reducible apply br_f h); conv => lhs; whnf)
    refine br_c (fun h2 => ?_) (fun h2 => ?_)
    · have h3 := inC_iff.1 h2
      conv => lhs; whnf
      repeat ((first | with_reducible apply br_tt | with_reducible apply br_ff | with_reducible apply br_nf | with_reducible apply br_nt | with_reducible refine br_d ?_ (by kernel_rfl) | with_reducible apply br_t h | with_reducible apply br_f h | with_reducible apply br_t h2 | with_reducible apply br_f h2 | with_reducible refine br_t (dt2 (by omega) (by omega)) ?_ | with_reducible refine br_t (dt (by omega)) ?_); conv => lhs; whnf)
      conv => lhs; arg 1; whnf
      refine bnd_g (by exact True.intro) ?_
      conv => lhs; whnf
      repeat ((first | with_reducible apply br_tt | with_reducible apply br_ff | with_reducible apply br_nf | with_reducible apply br_nt | with_reducible refine br_d ?_ (by kernel_rfl) | with_reducible apply br_t h | with_reducible apply br_f h | with_reducible apply br_t h2 | with_reducible apply br_f h2 | with_reducible refine br_t (dt2 (by omega) (by omega)) ?_ | with_reducible refine br_t (dt (by omega)) ?_); conv => lhs; whnf)
      refine okB ?_
      unfold belowB
      rw [h, h2]
      rfl
    · conv => lhs; whnf
      repeat ((first | with_reducible apply br_tt | with_reducible apply br_ff | with_reducible apply br_nf | with_reducible apply br_nt | with_reducible refine br_d ?_ (by kernel_rfl) | with_reducible apply br_t h | with_reducible apply br_f h | with_reducible apply br_t h2 | with_reducible apply br_f h2); conv => lhs; whnf)
      refine okB ?_
      unfold belowB
      rw [h, h2]
      rfl
  · conv => lhs; whnf
    repeat ((first | with_reducible apply br_tt | with_reducible apply br_ff | with_reducible apply br_nf | with_reducible apply br_nt | with_reducible refine br_d ?_ (by kernel_rfl) | with_reducible apply br_t h | with_reducible apply br_f h); conv => lhs; whnf)
    refine okB ?_
    unfold belowB
    rw [h]
    rfl
theorem ok_specIsBelow : FnOk Tryz.prog 25 K_specIsBelow := by
  refine fn_ok (fn := Tryz.f25) (k := Tryz.f25.ntmps) (E := E_specIsBelow) (facts_of (List.forall_mem_cons.2 ⟨ok_specConcepts, List.forall_mem_cons.2 ⟨ok_l6Exists, List.forall_mem_cons.2 ⟨ok_l6Under, List.forall_mem_nil _⟩⟩⟩)) (by kernel_rfl) rfl (by decide +kernel) (by decide +kernel) ?_
  intro avs hin r h
  unfold K_specIsBelow at h
  split at h
  · obtain ⟨hp, rfl⟩ := gd_o h
    exact ⟨_, ev_specIsBelow _ _ _ _ hp, rfl⟩
  · cases h

/- laws.big -/
def K_bigL : List AV → List Ob → Option (AV × List Ob)
  | [.lst (.int .u8) b], [] => gd (True) (.bool (decide ((b.length : Int) > 1048576)), [])
  | _, _ => none
@[reducible] def E_bigL : Env := mkE (tb []) (fun f => false) (fun r => ([], []))
theorem ev_bigL (b : List Int) (hp : True) : evF E_bigL (1) Tryz.f5 [.lst (.int .u8) b] [] = some (.bool (decide ((b.length : Int) > 1048576)), []) := by
  conv => lhs; whnf
theorem ok_bigL : FnOk Tryz.prog 5 K_bigL := by
  refine fn_ok (fn := Tryz.f5) (k := Tryz.f5.ntmps) (E := E_bigL) (facts_of (List.forall_mem_nil _)) (by kernel_rfl) rfl (by decide +kernel) (by decide +kernel) ?_
  intro avs hin r h
  unfold K_bigL at h
  split at h
  · obtain ⟨hp, rfl⟩ := gd_o h
    exact ⟨_, ev_bigL _ hp, rfl⟩
  · cases h

end Go.Sym
