/- Functions of the program, each told as a plain equation. -/
import Derived.Test.YtiihfodcocihjaaGreatDoorSymCptD
namespace Go.Sym
open Go.Proofs
set_option linter.unusedVariables false
set_option linter.unusedSimpArgs false
set_option maxRecDepth 100000
set_option maxHeartbeats 4000000

/-- From here on the count of draws is not told. -/
instance softDm : Dm := ⟨False⟩
def sumB (f : Nat → Bool) : Nat → Nat → Int → Int
  | 0, _, q => q
  | d + 1, i, q => sumB f d (i + 1) (q + bif f i then 1 else 0)
theorem sumB_le (f : Nat → Bool) : ∀ (d i : Nat) (q : Int), q ≤ sumB f d i q ∧ sumB f d i q ≤ q + d
  | 0, i, q => by simp [sumB]
  | d + 1, i, q => by
    have h := sumB_le f d (i + 1) (q + bif f i then 1 else 0)
    rw [sumB]
    cases hf : f i <;> rw [hf] at h <;> simp only [cond_true, cond_false] at h ⊢ <;> omega
theorem sumB_none (f : Nat → Bool) : ∀ (d i : Nat) (q : Int), (∀ j, i ≤ j → f j = false) → sumB f d i q = q
  | 0, i, q, _ => rfl
  | d + 1, i, q, h => by
    rw [sumB, h i (Nat.le_refl _), cond_false, Int.add_zero]
    exact sumB_none f d (i + 1) q fun j hj => h j (by omega)
theorem sumB_cut (f g : Nat → Bool) (n : Nat) : ∀ (d c i : Nat) (q : Int), i + d = n → (∀ j, j < n → f j = g j) → (∀ j, n ≤ j → g j = false) → sumB g (d + c) i q = sumB f d i q
  | 0, c, i, q, h1, h2, h3 => by
    rw [Nat.zero_add]
    exact sumB_none g c i q fun j hj => h3 j (by omega)
  | d + 1, c, i, q, h1, h2, h3 => by
    rw [show d + 1 + c = (d + c) + 1 by omega, sumB, sumB, ← h2 i (by omega)]
    exact sumB_cut f g n d c (i + 1) _ (by omega) h2 h3
abbrev elC (l : List (Int × Int)) (a : Int) : Int × Int := l.getD a.toNat (0, 0)
def inC (l : List (Int × Int)) (a : Int) : Bool := decide (0 ≤ a ∧ a ≤ (l.length : Int) - 1)
theorem concF_len (m : Int) (b : List Int) : (concF m b).length ≤ 64 := by
  unfold concF
  cases h : isCtx m b with
  | false => simp
  | true =>
    have hl := isCtx_len h
    obtain ⟨h1, h2, h3, h4, h5⟩ := lec_all ⟨m.toNat, by omega⟩
    simp only at h2
    have hpw := pow64 (n := m.toNat) (by omega)
    have := List.length_filter_le (closedI m b) (lecI m.toNat)
    rw [cond_true, List.length_map]
    omega
theorem concF_mem {m : Int} {b : List Int} {p : Int × Int} (h : p ∈ concF m b) : isCtx m b = true ∧ isSet m p.2 = true ∧ isSet b.length p.1 = true ∧ p.1 = extF b p.2 ∧ intentF m b p.1 = p.2 := by
  unfold concF at h
  cases hc : isCtx m b with
  | false => rw [hc] at h; cases h
  | true =>
    rw [hc, cond_true] at h
    obtain ⟨x, hx, rfl⟩ := List.mem_map.1 h
    have hx := List.mem_filter.1 hx
    have hl := isCtx_len hc
    obtain ⟨hs, s, rfl, hlt⟩ := lecI_isSet ⟨by omega, by omega⟩ hx.1
    have hr := isSet_le hs
    refine ⟨rfl, hs, ext_isSet hl.1 (ctx_small hc) (by omega), rfl, ?_⟩
    have := hx.2
    unfold closedI at this
    exact eq_of_beq this
theorem inC_iff {l : List (Int × Int)} {a : Int} : inC l a = true ↔ 0 ≤ a ∧ a < (l.length : Int) := by
  unfold inC
  rw [decide_eq_true_eq]
  omega
theorem concF_at {m : Int} {b : List Int} {a : Int} (h : inC (concF m b) a = true) : isCtx m b = true ∧ isSet m (elC (concF m b) a).2 = true ∧ isSet b.length (elC (concF m b) a).1 = true ∧ (elC (concF m b) a).1 = extF b (elC (concF m b) a).2 ∧ intentF m b (elC (concF m b) a).1 = (elC (concF m b) a).2 := by
  have h := inC_iff.1 h
  exact concF_mem (mem_getD (by omega))
def posI (ys : List Int) (x : Int) : Nat → Nat
  | 0 => 0
  | p + 1 => bif decide (ys.getD p 0 > x) then posI ys x p else p + 1
def insI (ys : List Int) (x : Int) : List Int := ys.take (posI ys x ys.length) ++ x :: ys.drop (posI ys x ys.length)
def sortS : List Int → List Int → List Int
  | [], acc => acc
  | x :: r, acc => sortS r (insI acc x)
theorem posI_le (ys : List Int) (x : Int) : ∀ p, posI ys x p ≤ p
  | 0 => Nat.le_refl 0
  | p + 1 => by
    have := posI_le ys x p
    rw [posI]
    cases decide (ys.getD p 0 > x)
    · exact Nat.le_refl _
    · rw [cond_true]; omega
theorem posI_gt (ys : List Int) (x : Int) : ∀ p j, posI ys x p ≤ j → j < p → ys.getD j 0 > x
  | 0, j, _, h => by omega
  | p + 1, j, h1, h2 => by
    rw [posI] at h1
    cases hd : decide (ys.getD p 0 > x)
    · rw [hd, cond_false] at h1; omega
    · rw [hd, cond_true] at h1
      rcases Nat.lt_or_ge j p with h3 | h3
      · exact posI_gt ys x p j h1 h3
      · have : j = p := by omega
        subst this
        exact of_decide_eq_true hd
theorem posI_last (ys : List Int) (x : Int) : ∀ p, 0 < posI ys x p → ys.getD (posI ys x p - 1) 0 ≤ x
  | 0, h => by simp [posI] at h
  | p + 1, h => by
    rw [posI] at h ⊢
    cases hd : decide (ys.getD p 0 > x)
    · rw [cond_false, Nat.add_sub_cancel]
      have := of_decide_eq_false hd
      omega
    · rw [hd, cond_true] at h
      rw [cond_true]
      exact posI_last ys x p h
theorem insI_perm (ys : List Int) (x : Int) : (insI ys x).Perm (x :: ys) := by
  unfold insI
  refine List.perm_middle.trans ?_
  rw [List.take_append_drop]
theorem insI_sorted {ys : List Int} (h : ys.Pairwise (· ≤ ·)) (x : Int) : (insI ys x).Pairwise (· ≤ ·) := by
  have hp := posI_le ys x ys.length
  have hg := posI_gt ys x ys.length
  have hl := posI_last ys x ys.length
  unfold insI
  generalize posI ys x ys.length = p at hp hg hl
  rw [List.pairwise_append]
  have hle : ∀ a ∈ ys.take p, a ≤ x := by
    intro a ha
    obtain ⟨i, hi, rfl⟩ := List.mem_iff_getElem.1 ha
    rw [List.length_take] at hi
    have h0 := hl (by omega)
    rw [List.getElem_take]
    have e : ys.getD (p - 1) 0 = ys[p - 1] := by simp [List.getD, show p - 1 < ys.length by omega]
    rw [e] at h0
    rcases Nat.lt_or_ge i (p - 1) with h3 | h3
    · exact Int.le_trans (List.pairwise_iff_getElem.1 h i (p - 1) (by omega) (by omega) h3) h0
    · have : i = p - 1 := by omega
      subst this; exact h0
  have hge : ∀ b ∈ ys.drop p, x ≤ b := by
    intro b hb
    obtain ⟨i, hi, rfl⟩ := List.mem_iff_getElem.1 hb
    rw [List.length_drop] at hi
    have := hg (p + i) (by omega) (by omega)
    rw [List.getElem_drop]
    have e : ys.getD (p + i) 0 = ys[p + i] := by simp [List.getD, show p + i < ys.length by omega]
    omega
  refine ⟨h.sublist (List.take_sublist _ _), ?_, ?_⟩
  · rw [List.pairwise_cons]
    exact ⟨hge, h.sublist (List.drop_sublist _ _)⟩
  · intro a ha b hb
    rcases List.mem_cons.1 hb with rfl | hb
    · exact hle a ha
    · exact Int.le_trans (hle a ha) (hge b hb)
theorem sortS_sorted : ∀ (ys acc : List Int), acc.Pairwise (· ≤ ·) → (sortS ys acc).Pairwise (· ≤ ·) ∧ (sortS ys acc).Perm (ys ++ acc)
  | [], acc, h => ⟨h, List.Perm.refl _⟩
  | x :: r, acc, h => by
    obtain ⟨h1, h2⟩ := sortS_sorted r (insI acc x) (insI_sorted h x)
    refine ⟨h1, h2.trans ?_⟩
    refine ((insI_perm acc x).append_left r).trans ?_
    rw [List.cons_append]
    exact List.perm_middle
theorem sortS_eq (ys : List Int) : sortS ys [] = sortI ys := by
  obtain ⟨h1, h2⟩ := sortS_sorted ys [] List.Pairwise.nil
  rw [List.append_nil] at h2
  have h3 : (sortI ys).Pairwise (fun a b => decide (a ≤ b) = true) := List.pairwise_mergeSort (fun a b c h g => by simp at *; omega) (fun a b => by simp; omega) ys
  have h3 : (sortI ys).Pairwise (· ≤ ·) := h3.imp fun h => of_decide_eq_true h
  exact List.Perm.eq_of_pairwise (le := (· ≤ ·)) (fun a b _ _ h g => Int.le_antisymm h g) h1 h3 (h2.trans (List.mergeSort_perm ys _).symm)
theorem sortS_len (ys acc : List Int) (h : acc.Pairwise (· ≤ ·)) : (sortS ys acc).length = ys.length + acc.length := by
  rw [(sortS_sorted ys acc h).2.length_eq, List.length_append]
theorem insI_len (ys : List Int) (x : Int) : (insI ys x).length = ys.length + 1 := by
  rw [(insI_perm ys x).length_eq, List.length_cons]
def cofF (m : Int) (b : List Int) (a : Int) : Int × Int := bif inC (concF m b) a then elC (concF m b) a else (0, 0)
def stAt (m : Int) (b : List Int) (p : Int × Int) (s : Nat) : Bool := (band (s : Int) p.1 == (s : Int)) && (intentF m b (s : Int) == p.2)
def stNum (m : Int) (b : List Int) (p : Int × Int) : Int := sumB (stAt m b p) (p.1.toNat + 1) 0 0
def powC (s : Int) : Int := ((2 ^ (cntF s).toNat : Nat) : Int)
theorem cntF_rng (s : Int) : 0 ≤ cntF s ∧ cntF s ≤ 8 := by
  unfold cntF
  have := popF_le 8 s.toNat
  split <;> omega
theorem powC_shl (s : Int) : IntKind.i64.wrap (1 * 2 ^ min (cntF s).toNat IntKind.i64.bits) = powC s := by
  have h := cntF_rng s
  obtain ⟨n, hn⟩ : ∃ n : Nat, cntF s = n := ⟨(cntF s).toNat, by omega⟩
  unfold powC
  rw [hn]
  exact shl1 (by omega)
theorem powC_shlu (s : Int) : IntKind.i64.wrap (1 * 2 ^ min (IntKind.u64.wrap (cntF s)).toNat IntKind.i64.bits) = powC s := by
  have h := cntF_rng s
  rw [wrapu (by omega) (by omega)]
  exact powC_shl s
def stabF (m : Int) (b : List Int) (a : Int) : Int × Int := bif inC (concF m b) a then (stNum m b (elC (concF m b) a), powC (elC (concF m b) a).1) else (0, 0)
def stAt2 (m : Int) (b : List Int) (p : Int × Int) (s : Nat) : Bool := (bnot (s : Int) p.1 == 0) && (intentF m b (s : Int) == p.2)
theorem bnot_sub {s : Nat} {e : Int} (hs : s < 256) : (bnot (s : Int) e == 0) = (band (s : Int) e == (s : Int)) := by
  rw [Bool.eq_iff_iff, beq_iff_eq, beq_iff_eq]
  exact (sub_iff (by omega) (by omega)).symm
theorem stAt_eq {m : Int} {b : List Int} {p : Int × Int} {s : Nat} (hs : s < 256) : stAt2 m b p s = stAt m b p s := by
  unfold stAt2 stAt
  rw [bnot_sub hs]
theorem stAt_big {m : Int} {b : List Int} {p : Int × Int} (hp : 0 ≤ p.1 ∧ p.1 ≤ 255) {s : Nat} (hs : s < 256) (h : p.1.toNat + 1 ≤ s) : stAt m b p s = false := by
  unfold stAt
  have : (band (s : Int) p.1 == (s : Int)) = false := by
    rw [beq_eq_false_iff_ne]
    intro hb
    obtain ⟨n, hn⟩ : ∃ n : Nat, p.1 = n := ⟨p.1.toNat, by omega⟩
    rw [hn] at hb h hp
    rw [band_nat hs (by omega)] at hb
    have h1 : s &&& n ≤ n := Nat.and_le_right
    omega
  rw [this, Bool.false_and]
theorem sumB_grow {f : Nat → Bool} : ∀ (c d i : Nat) (q : Int), (∀ j, i + d ≤ j → j < i + d + c → f j = false) → sumB f (d + c) i q = sumB f d i q
  | 0, d, i, q, _ => rfl
  | c + 1, 0, i, q, h => by
    rw [Nat.zero_add, sumB, sumB, h i (by omega) (by omega), cond_false, Int.add_zero]
    have := sumB_grow (f := f) c 0 (i + 1) q fun j h1 h2 => h j (by omega) (by omega)
    rw [Nat.zero_add] at this
    exact this
  | c + 1, d + 1, i, q, h => by
    rw [show d + 1 + (c + 1) = (d + (c + 1)) + 1 by omega, sumB, sumB]
    exact sumB_grow (c + 1) d (i + 1) _ fun j h1 h2 => h j (by omega) (by omega)
theorem sumB_congr {f g : Nat → Bool} : ∀ (d i : Nat) (q : Int), (∀ j, i ≤ j → j < i + d → f j = g j) → sumB f d i q = sumB g d i q
  | 0, i, q, _ => rfl
  | d + 1, i, q, h => by
    rw [sumB, sumB, h i (Nat.le_refl _) (by omega)]
    exact sumB_congr d (i + 1) _ fun j h1 h2 => h j (by omega) (by omega)
theorem stNum_eq {m : Int} {b : List Int} {p : Int × Int} {n : Nat} (hn : n ≤ 8) (hp : 0 ≤ p.1 ∧ p.1.toNat < 2 ^ n) : sumB (stAt2 m b p) (2 ^ n) 0 0 = stNum m b p := by
  have h2 : 2 ^ n ≤ 2 ^ 8 := Nat.pow_le_pow_right (by omega) hn
  rw [sumB_congr (g := stAt m b p) _ _ _ fun j _ hj => stAt_eq (by omega)]
  obtain ⟨c, hc⟩ : ∃ c, 2 ^ n = p.1.toNat + 1 + c := ⟨2 ^ n - (p.1.toNat + 1), by omega⟩
  rw [hc]
  exact sumB_grow c _ 0 0 fun j h1 h3 => stAt_big ⟨hp.1, by omega⟩ (by omega) (by omega)
def undB (l : List (Int × Int)) (x a : Nat) : Bool := band (l.getD x (0, 0)).1 (l.getD a (0, 0)).1 == (l.getD x (0, 0)).1
def blwB (l : List (Int × Int)) (x a : Nat) : Bool := bnot (l.getD x (0, 0)).1 (l.getD a (0, 0)).1 == 0
def markR (f g : Nat → Bool) : Nat → Nat → Int → Int
  | 0, _, q => q
  | d + 1, i, q => markR f g d (i + 1) (q + 100 * (bif f i then 1 else 0) + (bif g i then 1 else 0))
theorem sumB_add (f : Nat → Bool) : ∀ (d i : Nat) (q : Int), sumB f d i q = q + sumB f d i 0
  | 0, i, q => by simp [sumB]
  | d + 1, i, q => by
    rw [sumB, sumB, sumB_add f d (i + 1) (q + bif f i then 1 else 0), sumB_add f d (i + 1) (0 + bif f i then 1 else 0)]
    omega
theorem markR_eq (f g : Nat → Bool) : ∀ (d i : Nat) (q : Int), markR f g d i q = q + 100 * sumB f d i 0 + sumB g d i 0
  | 0, i, q => by simp [markR, sumB]
  | d + 1, i, q => by
    rw [markR, markR_eq f g d (i + 1), sumB, sumB, sumB_add f d (i + 1) (0 + bif f i then 1 else 0), sumB_add g d (i + 1) (0 + bif g i then 1 else 0)]
    omega
def markAt (l : List (Int × Int)) (a : Nat) : Int := 100 * sumB (fun x => undB l x a) l.length 0 0 + sumB (fun x => undB l a x) l.length 0 0
def marksL (l : List (Int × Int)) : Nat → Nat → List Int
  | 0, _ => []
  | d + 1, a => markAt l a :: marksL l d (a + 1)
theorem marksL_len (l : List (Int × Int)) : ∀ (d a : Nat), (marksL l d a).length = d
  | 0, _ => rfl
  | d + 1, a => by rw [marksL, List.length_cons, marksL_len l d]
def chsF (f : Nat → Bool) : Nat → Nat → List Int
  | 0, _ => []
  | d + 1, i => bif f i then (i : Int) :: chsF f d (i + 1) else chsF f d (i + 1)
theorem chsF_len (f : Nat → Bool) : ∀ (d i : Nat), ((chsF f d i).length : Int) = sumB f d i 0
  | 0, i => rfl
  | d + 1, i => by
    have := chsF_len f d (i + 1)
    rw [chsF, sumB, sumB_add f d (i + 1)]
    cases f i
    · rw [cond_false, cond_false, this]; omega
    · rw [cond_true, cond_true, List.length_cons]; push_cast; omega
theorem chsF_le (f : Nat → Bool) : ∀ (d i : Nat), (chsF f d i).length ≤ d
  | 0, i => Nat.le_refl 0
  | d + 1, i => by
    have := chsF_le f d (i + 1)
    rw [chsF]
    cases f i
    · rw [cond_false]; omega
    · rw [cond_true, List.length_cons]; omega
def extsB (l : List (Int × Int)) : Bool := l.all (fun p => isSet 8 p.1)
theorem blw_und {l : List (Int × Int)} (h : extsB l = true) {x : Nat} (hx : x < l.length) (a : Nat) : blwB l x a = undB l x a := by
  unfold blwB undB
  have hs : isSet 8 (l.getD x (0, 0)).1 = true := List.all_eq_true.1 h _ (mem_getD hx)
  have hl := isSet_le hs
  have hn : (l.getD x (0, 0)).1 = (((l.getD x (0, 0)).1.toNat : Nat) : Int) := by omega
  rw [hn]
  exact bnot_sub (by omega)
def profF (m : Int) (b : List Int) : List Int := bif decide ((concF m b).length > 24) then [] else sortI (marksL (concF m b) (concF m b).length 0)
theorem profF_len (m : Int) (b : List Int) : (profF m b).length ≤ 64 := by
  have h := concF_len m b
  unfold profF
  cases decide ((concF m b).length > 24)
  · rw [cond_false, sortI_len, marksL_len]; exact h
  · exact Nat.zero_le _
theorem conc_exts (m : Int) (b : List Int) : extsB (concF m b) = true := by
  unfold extsB
  rw [List.all_eq_true]
  intro p hp
  obtain ⟨h1, h2, h3, h4, h5⟩ := concF_mem hp
  have := isSet_le h3
  rw [isSet8]
  exact dt ⟨by omega, by omega⟩
def allN (g : Nat → Bool) : Nat → Nat → Bool
  | 0, _ => true
  | d + 1, i => g i && allN g d (i + 1)
theorem allN_congr {f g : Nat → Bool} : ∀ (d i : Nat), (∀ j, i ≤ j → j < i + d → f j = g j) → allN f d i = allN g d i
  | 0, _, _ => rfl
  | d + 1, i, h => by
    rw [allN, allN, h i (by omega) (by omega), allN_congr d (i + 1) fun j h1 h2 => h j (by omega) (by omega)]
theorem allN_all (g : Nat → Bool) : ∀ (d i : Nat), allN g d i = (List.range' i d).all g
  | 0, _ => rfl
  | d + 1, i => by rw [allN, List.range'_succ, List.all_cons, allN_all g d (i + 1)]
def udN (l : List (Int × Int)) (x y : Nat) : Bool := ((x : Int) != (y : Int)) && blwB l x y
def covI (l : List (Int × Int)) (a b : Nat) : Bool := udN l a b && allN (fun x => !(udN l a x && udN l x b)) l.length 0
def covS (l : List (Int × Int)) (a b : Nat) : Bool := !(((b : Int) == (a : Int)) || !undB l a b) && allN (fun k => (((k : Int) == (a : Int)) || ((k : Int) == (b : Int))) || !undB l a k || !undB l k b) l.length 0
theorem cov_eq {l : List (Int × Int)} (he : extsB l = true) {a b : Nat} (ha : a < l.length) : covI l a b = covS l a b := by
  unfold covI covS udN
  rw [blw_und he ha b, Bool.beq_comm (a := (b : Int))]
  congr 1
  · cases h1 : (a : Int) == (b : Int) <;> cases undB l a b <;> simp [bne, h1]
  · apply allN_congr
    intro j h1 h2
    rw [blw_und he ha j, blw_und he (show j < l.length by omega) b, Bool.beq_comm (a := (j : Int)) (b := (a : Int))]
    cases h1 : (a : Int) == (j : Int) <;> cases h2 : (j : Int) == (b : Int) <;> cases undB l a j <;> cases undB l j b <;> simp [bne, h1, h2]
theorem chsF_congr {f g : Nat → Bool} : ∀ (d i : Nat), (∀ j, i ≤ j → j < i + d → f j = g j) → chsF f d i = chsF g d i
  | 0, _, _ => rfl
  | d + 1, i, h => by
    rw [chsF, chsF, h i (by omega) (by omega), chsF_congr d (i + 1) fun j h1 h2 => h j (by omega) (by omega)]
theorem chsF_mem (f : Nat → Bool) : ∀ (d i : Nat), ∀ x ∈ chsF f d i, (i : Int) ≤ x ∧ x < ((i + d : Nat) : Int)
  | 0, i, x, h => by cases h
  | d + 1, i, x, h => by
    rw [chsF] at h
    cases hf : f i with
    | true =>
      rw [hf, cond_true] at h
      rcases List.mem_cons.1 h with rfl | h
      · omega
      · have := chsF_mem f d (i + 1) x h; omega
    | false =>
      rw [hf, cond_false] at h
      have := chsF_mem f d (i + 1) x h; omega
def upL (l : List (Int × Int)) (a : Nat) : List Int := chsF (fun x => covI l a x) l.length 0
theorem upL_len (l : List (Int × Int)) (a : Nat) : (upL l a).length ≤ l.length := chsF_le _ _ _
theorem upL_spec {l : List (Int × Int)} (he : extsB l = true) {a : Nat} (ha : a < l.length) : upL l a = chsF (fun x => covS l a x) l.length 0 := chsF_congr _ _ fun j _ _ => cov_eq he ha
def dupF (b : List Int) (e : Int) : Bool := !allB (fun j => !(colF b j == colF b e)) e.toNat 0
theorem any_take (l : List Int) (p : Int → Bool) : ∀ (e : Nat), e ≤ l.length → (l.take e).any p = !allB (fun j => !p (l.getD j 0)) e 0 := by
  intro e he
  rw [Bool.eq_iff_iff, List.any_eq_true, Bool.not_eq_true', ← Bool.not_eq_true, allB_iff]
  constructor
  · rintro ⟨x, hx, hp⟩ h
    obtain ⟨j, hj, rfl⟩ := List.mem_take_iff_getElem.1 hx
    have h1 := h j (by omega) (by omega)
    have h2 : l.getD j 0 = l[j] := by rw [List.getD_eq_getElem?_getD, List.getElem?_eq_getElem (by omega)]; rfl
    rw [h2, hp] at h1
    cases h1
  · intro h
    have h := Classical.not_forall.1 h
    obtain ⟨j, hj⟩ := h
    have hj := Classical.not_imp.1 hj
    have hj2 := Classical.not_imp.1 hj.2
    have h2 : l.getD j 0 = l[j]'(by omega) := by rw [List.getD_eq_getElem?_getD, List.getElem?_eq_getElem (by omega)]; rfl
    refine ⟨l[j]'(by omega), List.mem_take_iff_getElem.2 ⟨j, by omega, rfl⟩, ?_⟩
    rw [← h2]
    simpa using hj2.2
theorem rep_dup {m : Int} {b : List Int} {e : Int} (h : attrOk m b e = true) : hasE (repF (colsF m b)) e = dupF b e := by
  unfold attrOk at h
  have h2 := Bool.and_eq_true_iff.1 h
  have hl := isCtx_len h2.1
  have hd := ofd h2.2
  obtain ⟨n, rfl⟩ : ∃ n : Nat, e = n := ⟨e.toNat, by omega⟩
  have hlen : (colsF m b).length = m.toNat := colsL_length b _ _
  unfold repF
  rw [hasE_orF _ (by rw [hlen]; omega) (by rw [hlen]; omega)]
  unfold repAt dupF
  rw [Int.toNat_natCast, any_take _ _ _ (by rw [hlen]; omega)]
  congr 1
  refine allB_ext _ 0 (fun j h1 h2 => ?_)
  unfold colsF
  rw [colsL_get b _ 0 n (by omega), colsL_get b _ 0 j (by omega), Nat.zero_add, Nat.zero_add]
  congr 1
  rw [Bool.eq_iff_iff, beq_iff_eq, beq_iff_eq]
  exact ⟨fun h => h.symm, fun h => h.symm⟩
def vecF (m : Int) (b : List Int) (e : Int) : Int × Int × Bool := bif attrOk m b e then (bif dupF b e || reducF m b e then (0, 0, true) else (2 * e + 1 - m, 1, true)) else (0, 0, false)
abbrev w64 (x : Int) : Int := IntKind.i64.wrap x
def spL (m : Int) (b : List Int) : List Int → Int → Int → Int × Int
  | [], x, y => (x, y)
  | e :: l, x, y => spL m b l (w64 (x + (vecF m b e).1)) (w64 (y + (vecF m b e).2.1))
def spotF (m : Int) (b : List Int) (a : Int) : Int × Int := bif inC (concF m b) a then spL m b (elemsF (elC (concF m b) a).2) 0 0 else (0, 0)
theorem elemsL_off (s : Int) : ∀ (d i : Nat), (∀ j, i ≤ j → j < i + d → hasE s j = false) → elemsL s d i = []
  | 0, i, _ => rfl
  | d + 1, i, h => by
    rw [elemsL, h i (by omega) (by omega), cond_false]
    exact elemsL_off s d (i + 1) fun j h1 h2 => h j (by omega) (by omega)
theorem elemsL_add (s : Int) : ∀ (d c i : Nat), elemsL s (d + c) i = elemsL s d i ++ elemsL s c (i + d)
  | 0, c, i => by rw [Nat.zero_add]; rfl
  | d + 1, c, i => by
    rw [show d + 1 + c = (d + c) + 1 by omega, elemsL, elemsL, elemsL_add s d c (i + 1), show i + 1 + d = i + (d + 1) by omega]
    cases hasE s i <;> rfl
theorem isSet_8' {n s : Int} (h : isSet n s = true) : isSet 8 s = true := by
  have := isSet_le h
  rw [isSet8]
  exact dt ⟨by omega, by omega⟩
theorem elems_cut {m : Nat} {s : Int} (hm : m ≤ 8) (h : isSet m s = true) : elemsF s = elemsL s m 0 := by
  unfold elemsF
  obtain ⟨c, hc⟩ : ∃ c, 8 = m + c := ⟨8 - m, by omega⟩
  rw [hc, elemsL_add, elemsL_off s c, List.append_nil]
  intro j h1 h2
  rw [hasE_bit (isSet_8' h) (by omega) (by omega)]
  exact isSet_bit h (by omega)
def bstr (l : List UInt8) : ByteArray := ⟨l.toArray⟩
theorem bstr_app (l r : List UInt8) : bstr l ++ bstr r = bstr (l ++ r) := by
  apply ByteArray.ext
  rw [ByteArray.data_append]
  simp [bstr]
theorem bstr_size (l : List UInt8) : (bstr l).size = l.length := rfl
def digs (u : Nat) : List UInt8 := if u = 0 then [] else Lib.decDigits u
theorem digs_step {u : Nat} (h : u ≠ 0) : digs u = digs (u / 10) ++ [UInt8.ofNat (48 + u % 10)] := by
  unfold digs
  rw [if_neg h, Lib.decDigits]
  split
  · rename_i h1
    rw [if_pos (by omega), Nat.mod_eq_of_lt h1]
    rfl
  · rename_i h1
    rw [if_neg (by omega)]
theorem digs_len : ∀ (d u : Nat), u < 10 ^ d → (digs u).length ≤ d
  | 0, u, h => by
    have : u = 0 := by simpa using h
    subst this
    simp [digs]
  | d + 1, u, h => by
    by_cases h0 : u = 0
    · subst h0; simp [digs]
    · rw [digs_step h0, List.length_append]
      have := digs_len d (u / 10) (by rw [Nat.pow_succ] at h; omega)
      simp only [List.length_singleton]
      omega
theorem tdiv_abs (n : Int) : (n.tdiv 10).natAbs = n.natAbs / 10 := by
  rw [Int.natAbs_tdiv]; rfl
theorem tmod_abs (n : Int) : (n.tmod 10).natAbs = n.natAbs % 10 := by
  rw [Int.natAbs_tmod]; rfl
theorem byte_of {x : Nat} (h : x < 10) : intsStr [IntKind.u8.wrap (48 + (x : Int))] = bstr [UInt8.ofNat (48 + x)] := by
  have : ∀ x : Fin 10, [UInt8.ofNat (IntKind.u8.wrap (48 + (x.val : Int))).toNat] = [UInt8.ofNat (48 + x.val)] := by decide +kernel
  unfold intsStr bstr
  rw [List.map_cons, List.map_nil, this ⟨x, h⟩]
theorem itoa_digs {n : Int} (h : n ≠ 0) : itoaB n = bif decide (n < 0) then bstr [45] ++ bstr (digs n.natAbs) else bstr (digs n.natAbs) := by
  have h0 : n.natAbs ≠ 0 := by omega
  unfold itoaB Lib.itoa digs
  rw [if_neg h0]
  by_cases hn : n < 0
  · rw [if_pos hn, decide_eq_true hn, cond_true, bstr_app]
    rfl
  · rw [if_neg hn, decide_eq_false hn, cond_false]
    have : n.toNat = n.natAbs := by omega
    rw [this]
    rfl
theorem itoa_zero : itoaB 0 = bstr [48] := by
  unfold itoaB Lib.itoa
  rw [if_neg (by decide), Lib.decDigits]
  rfl
theorem itoa_len {n : Int} (h0 : -9223372036854775808 ≤ n) (h1 : n ≤ 9223372036854775807) : (itoaB n).size ≤ 20 := by
  by_cases h : n = 0
  · subst h; rw [itoa_zero]; decide
  · rw [itoa_digs h]
    have hd := digs_len 19 n.natAbs (by omega)
    cases decide (n < 0)
    · rw [cond_false, bstr_size]; omega
    · rw [cond_true, bstr_app, bstr_size, List.length_append, List.length_singleton]; omega
theorem bstr_nil (s : ByteArray) : bstr [] ++ s = s := by
  apply ByteArray.ext
  rw [ByteArray.data_append]
  simp [bstr]
theorem digs_zero : digs 0 = [] := rfl
theorem digit_pos {x : Int} (h : 0 ≤ x.tmod 10) : intsStr [IntKind.u8.wrap (IntKind.i64.wrap (48 + x.tmod 10))] = bstr [UInt8.ofNat (48 + x.natAbs % 10)] := by
  have e := tmod_abs x
  have e2 : x.tmod 10 = ((x.natAbs % 10 : Nat) : Int) := by omega
  rw [e2, wrap64 (by omega) (by omega)]
  exact byte_of (Nat.mod_lt _ (by omega))
theorem digit_neg {x : Int} (h : ¬ 0 ≤ x.tmod 10) : intsStr [IntKind.u8.wrap (IntKind.i64.wrap (48 + IntKind.i64.wrap (0 - x.tmod 10)))] = bstr [UInt8.ofNat (48 + x.natAbs % 10)] := by
  have e := tmod_abs x
  have e2 : 0 - x.tmod 10 = ((x.natAbs % 10 : Nat) : Int) := by omega
  rw [e2, wrap64 (n := ((x.natAbs % 10 : Nat) : Int)) (by omega) (by omega), wrap64 (by omega) (by omega)]
  exact byte_of (Nat.mod_lt _ (by omega))
def rngB (a : List Int) : Bool := a.all (fun n => decide (-9223372036854775808 ≤ n ∧ n ≤ 9223372036854775807))
theorem rngB_at {a : List Int} (h : rngB a = true) {i : Nat} (hi : i < a.length) : -9223372036854775808 ≤ a.getD i 0 ∧ a.getD i 0 ≤ 9223372036854775807 := of_decide_eq_true (List.all_eq_true.1 h _ (mem_getD hi))
theorem rngB_of {a : List Int} (h : ∀ y ∈ a, (Lit.int .i64 y).wf = true) : rngB a = true := by
  unfold rngB
  rw [List.all_eq_true]
  intro y hy
  have := h y hy
  unfold Lit.wf at this
  simp only [Bool.and_eq_true, decide_eq_true_eq] at this
  exact dt this
def okTxt (ys : List ByteArray) : Bool := ys.all (fun y => decide (y.size ≤ 1048576))
theorem okTxt_iff {ys : List ByteArray} : okTxt ys = true ↔ ∀ y ∈ ys, y.size ≤ 1048576 := by
  unfold okTxt
  simp only [List.all_eq_true, decide_eq_true_eq]
theorem strInts_len (s : ByteArray) : (strInts s).length = s.size := by
  unfold strInts
  rw [List.length_map, Array.length_toList]
  rfl
theorem w64_rng (x : Int) : -9223372036854775808 ≤ w64 x ∧ w64 x ≤ 9223372036854775807 := by
  unfold w64
  simp [IntKind.wrap, IntKind.bits, IntKind.signed]
  omega
theorem spL_rng (m : Int) (b : List Int) : ∀ (l : List Int) (x y : Int), (-9223372036854775808 ≤ x ∧ x ≤ 9223372036854775807) → (-9223372036854775808 ≤ y ∧ y ≤ 9223372036854775807) → (-9223372036854775808 ≤ (spL m b l x y).1 ∧ (spL m b l x y).1 ≤ 9223372036854775807) ∧ (-9223372036854775808 ≤ (spL m b l x y).2 ∧ (spL m b l x y).2 ≤ 9223372036854775807)
  | [], x, y, hx, hy => ⟨hx, hy⟩
  | e :: l, x, y, hx, hy => spL_rng m b l _ _ (w64_rng _) (w64_rng _)
theorem spot_rng (m : Int) (b : List Int) (a : Int) : (-9223372036854775808 ≤ (spotF m b a).1 ∧ (spotF m b a).1 ≤ 9223372036854775807) ∧ (-9223372036854775808 ≤ (spotF m b a).2 ∧ (spotF m b a).2 ≤ 9223372036854775807) := by
  unfold spotF
  cases inC (concF m b) a
  · rw [cond_false]; exact ⟨⟨by decide, by decide⟩, by decide, by decide⟩
  · exact spL_rng m b _ 0 0 ⟨by decide, by decide⟩ ⟨by decide, by decide⟩
theorem w64_rng' (x : Int) : -9223372036854775808 ≤ w64 x ∧ w64 x ≤ 9223372036854775807 := w64_rng x
def wordsL (l : List Int) : List ByteArray := bif l.isEmpty then [⟨#[45]⟩] else l.map itoaB
def dgT (m : Int) (b : List Int) (a : Nat) : ByteArray := ((((((itoaB (a : Int)) ++ ⟨#[32]⟩) ++ itoaB (spotF m b a).1) ++ ⟨#[44]⟩) ++ itoaB (spotF m b a).2) ++ ⟨#[32]⟩) ++ joinF (wordsL (upL (concF m b) a)) ⟨#[44]⟩
def dgL (m : Int) (b : List Int) : Nat → Nat → List ByteArray
  | 0, _ => []
  | d + 1, i => dgT m b i :: dgL m b d (i + 1)
theorem dgL_len (m : Int) (b : List Int) : ∀ (d i : Nat), (dgL m b d i).length = d
  | 0, _ => rfl
  | d + 1, i => by rw [dgL, List.length_cons, dgL_len m b d]
def dgF (m : Int) (b : List Int) : List ByteArray := dgL m b (concF m b).length 0
theorem dgF_len (m : Int) (b : List Int) : (dgF m b).length ≤ 64 := by
  unfold dgF
  rw [dgL_len]
  exact concF_len m b
theorem words_len (l : List Int) : (wordsL l).length ≤ l.length + 1 := by
  unfold wordsL
  cases l <;> simp
theorem words_ok {l : List Int} (h : ∀ x ∈ l, 0 ≤ x ∧ x ≤ 1000000) : okTxt (wordsL l) = true := by
  rw [okTxt_iff]
  intro y hy
  unfold wordsL at hy
  cases he : l.isEmpty with
  | true =>
    rw [he, cond_true] at hy
    have : y = ⟨#[45]⟩ := by simpa using hy
    subst this
    decide
  | false =>
    rw [he, cond_false] at hy
    obtain ⟨x, hx, rfl⟩ := List.mem_map.1 hy
    have h1 := h x hx
    have := itoa_len (n := x) (by omega) (by omega)
    omega
theorem join_le (ys : List ByteArray) (sep : ByteArray) : (joinF ys sep).size ≤ 1048576 := by
  unfold joinF
  split
  · assumption
  · exact Nat.zero_le _
theorem upL_rng {l : List (Int × Int)} (hl : l.length ≤ 64) (a : Nat) : ∀ x ∈ upL l a, 0 ≤ x ∧ x ≤ 1000000 := fun x hx => by
  have := chsF_mem _ _ _ x hx
  omega
theorem len0 {α : Type} {l : List α} (h : ((l.length : Int) == 0) = true) : l = [] := by
  have : (l.length : Int) = 0 := by simpa using h
  exact List.length_eq_zero_iff.1 (by omega)
theorem isz {i : Nat} (h : i ≤ 64) : (itoaB (i : Int)).size ≤ 20 := itoa_len (by omega) (by omega)
theorem map_dropN (l : List Int) (i : Nat) (h : i < l.length) : (l.drop i).map itoaB = itoaB (l.getD i 0) :: (l.drop (i + 1)).map itoaB := by
  rw [getD_drop (l := l) (i := i) (d := 0) h, List.map_cons]
def mTx (x : Int) : ByteArray := ⟨#[109]⟩ ++ bstr (digs x.natAbs)
theorem mTx_size {x : Int} (h0 : 0 ≤ x) (h1 : x ≤ 9223372036854775807) : (mTx x).size ≤ 20 := by
  have := digs_len 19 x.natAbs (by omega)
  unfold mTx
  rw [ByteArray.size_append, bstr_size]
  have : (⟨#[109]⟩ : ByteArray).size = 1 := rfl
  omega
theorem tne {x y : ByteArray} (h : x = y) : (x.toList != y.toList) = false := by rw [h]; simp
def iotaT : Int → Nat → List ByteArray
  | _, 0 => []
  | q, n + 1 => mTx q :: iotaT (q + 1) n
theorem iotaT_len : ∀ (n : Nat) (q : Int), (iotaT q n).length = n
  | 0, _ => rfl
  | n + 1, q => by rw [iotaT, List.length_cons, iotaT_len n]
theorem tset_succ {α : Type} {ys : List α} {i : Nat} {v : α} (h : i < ys.length) : (ys.set i v).take (i + 1) = ys.take i ++ [v] := by
  rw [List.take_succ_eq_append_getElem (by simpa using h), List.take_set_of_le (by omega)]
  simp
/- spec.l6Exists -/
def K_l6Exists : List AV → List Ob → Option (AV × List Ob)
  | [.lst (.pair (.int .i64) (.int .i64)) l, .int .i64 a], [] => gd (l.length ≤ 64) (.bool (inC l a), [])
  | _, _ => none
@[reducible] def E_l6Exists : Env := mkE (tb [(96, K_l1In)]) (fun f => false) (fun r => ([], []))
theorem ev_l6Exists (l : List (Int × Int)) (a : Int) (hp : l.length ≤ 64) : evF E_l6Exists (1) Tryz.f136 [.lst (.pair (.int .i64) (.int .i64)) l, .int .i64 a] [] = some (.bool (inC l a), []) := by
  conv => lhs; whnf
  conv => lhs; arg 1; whnf
  refine bnd_g (by exact True.intro) ?_
  conv => lhs; whnf
  refine okB ?_
  unfold inC
  rw [wrap64 (by omega) (by omega)]
theorem ok_l6Exists : FnOk Tryz.prog 136 K_l6Exists := by
  refine fn_ok (fn := Tryz.f136) (k := Tryz.f136.ntmps) (E := E_l6Exists) (facts_of (List.forall_mem_cons.2 ⟨(FnOk.soft (fun h => False.elim h) ok_l1In), List.forall_mem_nil _⟩)) (by kernel_rfl) rfl (by decide +kernel) (by decide +kernel) ?_
  intro avs hin r h
  unfold K_l6Exists at h
  split at h
  · obtain ⟨hp, rfl⟩ := gd_o h
    exact ⟨_, ev_l6Exists _ _ hp, rfl⟩
  · cases h

/- spec.l3Column -/
def K_l3Column : List AV → List Ob → Option (AV × List Ob)
  | [.agg [.int .i64 m, .lst (.int .i64) b], .int .i64 e], [] => gd ((0 ≤ e ∧ e ≤ 8) ∧ b.length ≤ 8 ∧ ∀ x ∈ b, 0 ≤ x ∧ x ≤ 255) (.int .i64 (colF b e), [])
  | _, _ => none
@[reducible] def E_l3Column : Env := mkE (tb [(137, K_l2Has)]) (fun f => false) (fun r => bif r == 3 then ([1, 2, 5, 6], [5]) else ([], []))
theorem lp_l3Column (m : Int) (b : List Int) (e : Int) (hb : b.length ≤ 8) (hs : ∀ x ∈ b, 0 ≤ x ∧ x ≤ 255) (he : 0 ≤ e ∧ e ≤ 8) (k : AX → S → Option (AV × List Ob)) (d : Nat) : ∀ (n i : Nat) (x q : Int), b.length - i = d → i ≤ b.length → x = i → d < n →
    lpAt E_l3Column (lp E_l3Column 0 n) 0 (loopAt Tryz.f107 0) (mkS [1, 2, 5, 6] [.int .i64 e, .ptr 0 0, .int .i64 q, .int .i64 x] [some (.box 27 [.int .i64 m, .lst (.int .i64) b])]) k =
      k (.exit 0) (mkS [5] [.int .i64 (orF (bitAt b e) d i q)] []) := by
  induction d with
  | zero =>
    intro n i x q hd hi hx hn
    subst hx
    rw [lpAt_def]
    conv => lhs; whnf
    refine br_f (df (by omega)) ?_
    conv => lhs; whnf
    rfl
  | succ d ih =>
    intro n i x q hd hi hx hn
    obtain ⟨n, rfl⟩ : ∃ m, n = m + 1 := ⟨n - 1, by omega⟩
    subst hx
    rw [lpAt_def]
    conv => lhs; whnf
    refine br_t (dt (by omega)) ?_
    conv => lhs; whnf
    refine br_t (dt2 (by omega) (by omega)) ?_
    conv => lhs; whnf
    conv => lhs; arg 1; whnf
    refine bnd_g (by exact ⟨hs _ (mem_getD (by omega)), he⟩) ?_
    conv => lhs; whnf
    refine br_c (fun h => ?_) (fun h => ?_)
    · have h' : bitAt b e i = true := h
      conv => lhs; whnf
      refine br_f (by (rw [wrapu (n := (i : Int)) (by omega) (by omega)]; exact df (by omega))) ?_
      conv => lhs; whnf
      rw [shl1u (by omega)]
      rw [ih n (i + 1) _ _ (by omega) (by omega) (by rw [wrap64 (by omega) (by omega)]; simp) (by omega)]
      rw [orF, h', cond_true]
      rfl
    · have h' : bitAt b e i = false := h
      conv => lhs; whnf
      rw [ih n (i + 1) _ _ (by omega) (by omega) (by rw [wrap64 (by omega) (by omega)]; simp) (by omega)]
      rw [orF, h', cond_false]
theorem ev_l3Column (m : Int) (b : List Int) (e : Int) (hp : (0 ≤ e ∧ e ≤ 8) ∧ b.length ≤ 8 ∧ ∀ x ∈ b, 0 ≤ x ∧ x ≤ 255) : evF E_l3Column (20) Tryz.f107 [.agg [.int .i64 m, .lst (.int .i64) b], .int .i64 e] [] = some (.int .i64 (colF b e), []) := by
  conv => lhs; whnf
  refine (lp_l3Column m b e hp.2.1 hp.2.2 hp.1 _ b.length _ 0 0 _ rfl (by omega) rfl (by have := hp.2.1; change _ < 19; omega)).trans ?_
  conv => lhs; whnf
  rfl
theorem ok_l3Column : FnOk Tryz.prog 107 K_l3Column := by
  refine fn_ok (fn := Tryz.f107) (k := Tryz.f107.ntmps) (E := E_l3Column) (facts_of (List.forall_mem_cons.2 ⟨(FnOk.soft (fun h => False.elim h) ok_l2Has), List.forall_mem_nil _⟩)) (by kernel_rfl) rfl (by decide +kernel) (by decide +kernel) ?_
  intro avs hin r h
  unfold K_l3Column at h
  split at h
  · obtain ⟨hp, rfl⟩ := gd_o h
    exact ⟨_, ev_l3Column _ _ _ hp, rfl⟩
  · cases h

/- spec.IsReducibleAttribute -/
def K_specIsReducible : List AV → List Ob → Option (AV × List Ob)
  | [.agg [.int .i64 m, .lst (.int .i64) b], .int .i64 e], [] => gd (b.length ≤ 1048576) (.bool (attrOk m b e && reducF m b e), [])
  | _, _ => none
@[reducible] def E_specIsReducible : Env := mkE (tb [(38, K_specIsContext), (96, K_l1In), (107, K_l3Column), (109, K_specFullSet)]) (fun f => false) (fun r => bif r == 6 then ([2, 5, 6, 7], [5, 6]) else ([], []))
theorem lp_specIsReducible (m : Int) (b : List Int) (hc : isCtx m b = true) (own : Int) (ho : 0 ≤ own ∧ own ≤ 255) (k : AX → S → Option (AV × List Ob)) (d : Nat) : ∀ (n i : Nat) (x q : Int), m.toNat - i = d → i ≤ m.toNat → x = i → d < n →
    lpAt E_specIsReducible (lp E_specIsReducible 0 n) 0 (loopAt Tryz.f184 0) (mkS [2, 5, 6, 7] [.ptr 0 0, .int .i64 own, .int .i64 q, .int .i64 x] [some (.box 27 [.int .i64 m, .lst (.int .i64) b])]) k =
      k (.exit 0) (mkS [5, 6] [.int .i64 own, .int .i64 (beyondF own (colsL b d i) q)] []) := by
  have hl := isCtx_len hc
  have hS : ∀ x ∈ b, 0 ≤ x ∧ x ≤ 255 := fun x hx => by have := isSet_le (hl.2.2.2 x hx); omega
  have hs : isSet 8 own = true := by rw [isSet8]; exact dt ho
  induction d with
  | zero =>
    intro n i x q hd hi hx hn
    subst hx
    rw [lpAt_def]
    conv => lhs; whnf
    refine br_f (df (by omega)) ?_
    conv => lhs; whnf
    rfl
  | succ d ih =>
    intro n i x q hd hi hx hn
    obtain ⟨n, rfl⟩ : ∃ m, n = m + 1 := ⟨n - 1, by omega⟩
    subst hx
    have e0 : (band (colF b i) own == own) = (bnot own (colF b i) == 0) := by rw [band_comm]; exact beq_bnot hs
    rw [lpAt_def]
    conv => lhs; whnf
    refine br_t (dt (by omega)) ?_
    conv => lhs; whnf
    conv => lhs; arg 1; whnf
    refine bnd_g (by exact ⟨by omega, hl.1, hS⟩) ?_
    conv => lhs; whnf
    refine br_c (fun h => ?_) (fun h => ?_)
    · have h' : (colF b i != own) = true := h
      conv => lhs; whnf
      repeat ((first | with_reducible apply br_tt | with_reducible apply br_ff | with_reducible apply br_nf | with_reducible apply br_nt | with_reducible refine br_d ?_ (by kernel_rfl) | with_reducible apply br_t h | with_reducible apply br_f h); conv => lhs; whnf)
      refine br_c (fun h2 => ?_) (fun h2 => ?_)
      · have h2' : (bnot own (colF b i) == 0) = true := e0 ▸ h2
        conv => lhs; whnf
        rw [ih n (i + 1) _ _ (by omega) (by omega) (by rw [wrap64 (by omega) (by omega)]; simp) (by omega)]
        rw [colsL, beyondF, h', h2']
        rfl
      · have h2' : (bnot own (colF b i) == 0) = false := e0 ▸ h2
        conv => lhs; whnf
        rw [ih n (i + 1) _ _ (by omega) (by omega) (by rw [wrap64 (by omega) (by omega)]; simp) (by omega)]
        rw [colsL, beyondF, h', h2']
        rfl
    · have h' : (colF b i != own) = false := h
      conv => lhs; whnf
      repeat ((first | with_reducible apply br_tt | with_reducible apply br_ff | with_reducible apply br_nf | with_reducible apply br_nt | with_reducible refine br_d ?_ (by kernel_rfl) | with_reducible apply br_t h | with_reducible apply br_f h); conv => lhs; whnf)
      rw [ih n (i + 1) _ _ (by omega) (by omega) (by rw [wrap64 (by omega) (by omega)]; simp) (by omega)]
      rw [colsL, beyondF, h']
      rfl
theorem ev_specIsReducible (m : Int) (b : List Int) (e : Int) (hp : b.length ≤ 1048576) : evF E_specIsReducible (20) Tryz.f184 [.agg [.int .i64 m, .lst (.int .i64) b], .int .i64 e] [] = some (.bool (attrOk m b e && reducF m b e), []) := by
  conv => lhs; whnf
  conv => lhs; arg 1; whnf
  refine bnd_g (by omega) ?_
  conv => lhs; whnf
  refine br_c (fun h => ?_) (fun h => ?_)
  · conv => lhs; whnf
    repeat ((first | with_reducible apply br_tt | with_reducible apply br_ff | with_reducible apply br_nf | with_reducible apply br_nt | with_reducible refine br_d ?_ (by kernel_rfl) | with_reducible apply br_t h | with_reducible apply br_f h); conv => lhs; whnf)
    refine okB ?_
    unfold attrOk
    rw [bnt h]
    rfl
  · have hl := isCtx_len (bnf h)
    have hw : IntKind.i64.wrap (m - 1) = m - 1 := wrap64 (by omega) (by omega)
    conv => lhs; whnf
    repeat ((first | with_reducible apply br_tt | with_reducible apply br_ff | with_reducible apply br_nf | with_reducible apply br_nt | with_reducible refine br_d ?_ (by kernel_rfl) | with_reducible apply br_t h | with_reducible apply br_f h); conv => lhs; whnf)
    conv => lhs; arg 1; whnf
    refine bnd_g (by exact True.intro) ?_
    conv => lhs; whnf
    repeat ((first | with_reducible apply br_tt | with_reducible apply br_ff | with_reducible apply br_nf | with_reducible apply br_nt | with_reducible refine br_d ?_ (by kernel_rfl) | with_reducible apply br_t h | with_reducible apply br_f h); conv => lhs; whnf)
    refine br_c (fun h2 => ?_) (fun h2 => ?_)
    · have h2' := ofnt h2
      rw [hw] at h2'
      conv => lhs; whnf
      refine okB ?_
      unfold attrOk
      rw [df h2', Bool.and_false]
      rfl
    · have h2' := ofnf h2
      rw [hw] at h2'
      have hs : ∀ x ∈ b, 0 ≤ x ∧ x ≤ 255 := fun x hx => by have := isSet_le (hl.2.2.2 x hx); omega
      have hcs := colF_set b e hl.1
      conv => lhs; whnf
      conv => lhs; arg 1; whnf
      refine bnd_g (by exact ⟨by omega, hl.1, hs⟩) ?_
      conv => lhs; whnf
      conv => lhs; arg 1; whnf
      refine bnd_g (by exact True.intro) ?_
      conv => lhs; whnf
      refine (lp_specIsReducible m b (bnf h) (colF b e) hcs _ m.toNat _ 0 0 _ rfl (by omega) rfl (by change _ < 19; omega)).trans ?_
      conv => lhs; whnf
      refine okB ?_
      unfold attrOk
      rw [bnf h, dt h2']
      rfl
theorem ok_specIsReducible : FnOk Tryz.prog 184 K_specIsReducible := by
  refine fn_ok (fn := Tryz.f184) (k := Tryz.f184.ntmps) (E := E_specIsReducible) (facts_of (List.forall_mem_cons.2 ⟨(FnOk.soft (fun h => False.elim h) ok_specIsContext), List.forall_mem_cons.2 ⟨(FnOk.soft (fun h => False.elim h) ok_l1In), List.forall_mem_cons.2 ⟨ok_l3Column, List.forall_mem_cons.2 ⟨(FnOk.soft (fun h => False.elim h) ok_specFullSet), List.forall_mem_nil _⟩⟩⟩⟩)) (by kernel_rfl) rfl (by decide +kernel) (by decide +kernel) ?_
  intro avs hin r h
  unfold K_specIsReducible at h
  split at h
  · obtain ⟨hp, rfl⟩ := gd_o h
    exact ⟨_, ev_specIsReducible _ _ _ hp, rfl⟩
  · cases h

/- spec.AttributeVector -/
def K_specAttributeVector : List AV → List Ob → Option (AV × List Ob)
  | [.agg [.int .i64 m, .lst (.int .i64) b], .int .i64 e], [] => gd (b.length ≤ 1048576) (.tup [.agg [.int .i64 (vecF m b e).1, .int .i64 (vecF m b e).2.1], .bool (vecF m b e).2.2], [])
  | _, _ => none
@[reducible] def E_specAttributeVector : Env := mkE (tb [(38, K_specIsContext), (96, K_l1In), (107, K_l3Column), (184, K_specIsReducible)]) (fun f => false) (fun r => bif r == 4 then ([1, 2, 4, 6], [1, 2, 4, 5]) else ([], []))
theorem lp_specAttributeVector (m : Int) (b : List Int) (hc : isCtx m b = true) (e : Int) (he : 0 ≤ e ∧ e ≤ m - 1) (k : AX → S → Option (AV × List Ob)) (r : Option (AV × List Ob)) (hk : k .ret (mkS [1, 2, 4, 5] [.int .i64 e, .ptr 0 0, .ptr 1 0, .bool true] [some (.box 27 [.int .i64 m, .lst (.int .i64) b]), some (.box 70 [.int .i64 0, .int .i64 0])]) = r) (d : Nat) : ∀ (n i : Nat) (x : Int), e.toNat - i = d → i ≤ e.toNat → x = i → d < n →
    lpAt E_specAttributeVector (lp E_specAttributeVector 0 n) 0 (loopAt Tryz.f138 0) (mkS [1, 2, 4, 6] [.int .i64 e, .ptr 0 0, .ptr 1 0, .int .i64 x] [some (.box 27 [.int .i64 m, .lst (.int .i64) b]), some (.box 70 [.int .i64 0, .int .i64 0])]) k =
      if allB (fun j => !(colF b j == colF b e)) d i then k (.exit 0) (mkS [1, 2, 4, 5] [.int .i64 e, .ptr 0 0, .ptr 1 0, .any] [some (.box 27 [.int .i64 m, .lst (.int .i64) b]), some (.box 70 [.int .i64 0, .int .i64 0])]) else r := by
  have hl := isCtx_len hc
  have hS : ∀ x ∈ b, 0 ≤ x ∧ x ≤ 255 := fun x hx => by have := isSet_le (hl.2.2.2 x hx); omega
  induction d with
  | zero =>
    intro n i x hd hi hx hn
    subst hx
    rw [lpAt_def]
    conv => lhs; whnf
    refine br_f (df (by omega)) ?_
    conv => lhs; whnf
    rfl
  | succ d ih =>
    intro n i x hd hi hx hn
    obtain ⟨n, rfl⟩ : ∃ m, n = m + 1 := ⟨n - 1, by omega⟩
    subst hx
    rw [lpAt_def]
    conv => lhs; whnf
    refine br_t (dt (by omega)) ?_
    conv => lhs; whnf
    conv => lhs; arg 1; whnf
    refine bnd_g (by exact ⟨by omega, hl.1, hS⟩) ?_
    conv => lhs; whnf
    conv => lhs; arg 1; whnf
    refine bnd_g (by exact ⟨by omega, hl.1, hS⟩) ?_
    conv => lhs; whnf
    refine br_t (by kernel_rfl) ?_
    conv => lhs; whnf
    refine br_c (fun h => ?_) (fun h => ?_)
    · have h' : (colF b i == colF b e) = true := h
      conv => lhs; whnf
      rw [if_neg (by rw [allB, h']; exact Bool.false_ne_true)]
      exact hk
    · have h' : (colF b i == colF b e) = false := h
      conv => lhs; whnf
      rw [ih n (i + 1) _ (by omega) (by omega) (by rw [wrap64 (by omega) (by omega)]; simp) (by omega)]
      rw [allB, h', Bool.not_false, Bool.true_and]
theorem ev_specAttributeVector (m : Int) (b : List Int) (e : Int) (hp : b.length ≤ 1048576) : evF E_specAttributeVector (20) Tryz.f138 [.agg [.int .i64 m, .lst (.int .i64) b], .int .i64 e] [] = some (.tup [.agg [.int .i64 (vecF m b e).1, .int .i64 (vecF m b e).2.1], .bool (vecF m b e).2.2], []) := by
  conv => lhs; whnf
  conv => lhs; arg 1; whnf
  refine bnd_g (by omega) ?_
  conv => lhs; whnf
  refine br_c (fun h => ?_) (fun h => ?_)
  · have hf : vecF m b e = (0, 0, false) := by
      unfold vecF attrOk
      rw [bnt h]
      rfl
    rw [hf]
    conv => lhs; whnf
    repeat ((first | with_reducible apply br_tt | with_reducible apply br_ff | with_reducible apply br_nf | with_reducible apply br_nt | with_reducible refine br_d ?_ (by kernel_rfl) | with_reducible apply br_t h | with_reducible apply br_f h); conv => lhs; whnf)
  · have hl := isCtx_len (bnf h)
    have hw : IntKind.i64.wrap (m - 1) = m - 1 := wrap64 (by omega) (by omega)
    conv => lhs; whnf
    repeat ((first | with_reducible apply br_tt | with_reducible apply br_ff | with_reducible apply br_nf | with_reducible apply br_nt | with_reducible refine br_d ?_ (by kernel_rfl) | with_reducible apply br_t h | with_reducible apply br_f h); conv => lhs; whnf)
    conv => lhs; arg 1; whnf
    refine bnd_g (by exact True.intro) ?_
    conv => lhs; whnf
    repeat ((first | with_reducible apply br_tt | with_reducible apply br_ff | with_reducible apply br_nf | with_reducible apply br_nt | with_reducible refine br_d ?_ (by kernel_rfl) | with_reducible apply br_t h | with_reducible apply br_f h); conv => lhs; whnf)
    refine br_c (fun h2 => ?_) (fun h2 => ?_)
    · have h2' := ofnt h2
      rw [hw] at h2'
      have hf : vecF m b e = (0, 0, false) := by
        unfold vecF attrOk
        rw [df h2', Bool.and_false]
        rfl
      rw [hf]
      conv => lhs; whnf
    · have h2' := ofnf h2
      rw [hw] at h2'
      have hA : attrOk m b e = true := by
        unfold attrOk
        rw [bnf h, dt h2']
        rfl
      conv => lhs; whnf
      refine (lp_specAttributeVector m b (bnf h) e h2' _ _ rfl e.toNat _ 0 0 rfl (by omega) rfl (by change _ < 19; omega)).trans ?_
      split
      · rename_i h3
        conv => lhs; whnf
        conv => lhs; arg 1; whnf
        refine bnd_g (by exact hp) ?_
        conv => lhs; whnf
        refine br_c (fun h4 => ?_) (fun h4 => ?_)
        · rw [hA, Bool.true_and] at h4
          have hf : vecF m b e = (0, 0, true) := by
            unfold vecF
            rw [hA, h4, Bool.or_true]
            rfl
          rw [hf]
          conv => lhs; whnf
        · rw [hA, Bool.true_and] at h4
          have hf : vecF m b e = (2 * e + 1 - m, 1, true) := by
            unfold vecF dupF
            rw [hA, h4, h3]
            rfl
          rw [hf]
          conv => lhs; whnf
          rw [wrap64 (n := 2 * e) (by omega) (by omega), wrap64 (n := 2 * e + 1) (by omega) (by omega), wrap64 (n := 2 * e + 1 - m) (by omega) (by omega)]
      · rename_i h3
        have hf : vecF m b e = (0, 0, true) := by
          unfold vecF dupF
          rw [Bool.not_eq_true] at h3
          rw [hA, h3]
          rfl
        rw [hf]
        conv => lhs; whnf
theorem ok_specAttributeVector : FnOk Tryz.prog 138 K_specAttributeVector := by
  refine fn_ok (fn := Tryz.f138) (k := Tryz.f138.ntmps) (E := E_specAttributeVector) (facts_of (List.forall_mem_cons.2 ⟨(FnOk.soft (fun h => False.elim h) ok_specIsContext), List.forall_mem_cons.2 ⟨(FnOk.soft (fun h => False.elim h) ok_l1In), List.forall_mem_cons.2 ⟨ok_l3Column, List.forall_mem_cons.2 ⟨ok_specIsReducible, List.forall_mem_nil _⟩⟩⟩⟩)) (by kernel_rfl) rfl (by decide +kernel) (by decide +kernel) ?_
  intro avs hin r h
  unfold K_specAttributeVector at h
  split at h
  · obtain ⟨hp, rfl⟩ := gd_o h
    exact ⟨_, ev_specAttributeVector _ _ _ hp, rfl⟩
  · cases h

/- spec.SpotOf -/
def K_specSpotOf : List AV → List Ob → Option (AV × List Ob)
  | [.agg [.int .i64 m, .lst (.int .i64) b], .int .i64 a], [] => gd (b.length ≤ 1048576) (.tup [.agg [.int .i64 (spotF m b a).1, .int .i64 (spotF m b a).2], .bool (inC (concF m b) a)], [])
  | _, _ => none
@[reducible] def E_specSpotOf : Env := mkE (tb [(60, K_specConcepts), (136, K_l6Exists), (137, K_l2Has), (138, K_specAttributeVector)]) (fun f => false) (fun r => bif r == 6 then ([1, 2, 4, 6, 7, 8], [4, 7]) else ([], []))
theorem lp_specSpotOf (m : Int) (b : List Int) (a : Int) (hc : isCtx m b = true) (N : Nat) (hN : m = N) (l : List (Int × Int)) (ha : 0 ≤ a ∧ a < (l.length : Int)) (hl : l.length ≤ 64) (hE : isSet 8 (elC l a).2 = true) (k : AX → S → Option (AV × List Ob)) (d : Nat) : ∀ (n i : Nat) (z x y : Int), N - i = d → i ≤ N → z = i → d < n →
    lpAt E_specSpotOf (lp E_specSpotOf 0 n) 0 (loopAt Tryz.f72 0) (mkS [1, 2, 4, 6, 7, 8] [.int .i64 a, .ptr 0 0, .ptr 1 0, .own 2, .ptr 3 0, .int .i64 z] [some (.box 27 [.int .i64 m, .lst (.int .i64) b]), some (.box 70 [.int .i64 0, .int .i64 0]), some (.row 84 (.pair (.int .i64) (.int .i64)) l), some (.box 70 [.int .i64 x, .int .i64 y])]) k =
      k (.exit 0) (mkS [4, 7] [.ptr 0 0, .ptr 1 0] [some (.box 70 [.int .i64 0, .int .i64 0]), some (.box 70 [.int .i64 (spL m b (elemsL (elC l a).2 d i) x y).1, .int .i64 (spL m b (elemsL (elC l a).2 d i) x y).2])]) := by
  have hlen := isCtx_len hc
  have hr := isSet_le hE
  induction d with
  | zero =>
    intro n i z x y hd hi hx hn
    subst hx
    rw [lpAt_def]
    conv => lhs; whnf
    refine br_f (df (by omega)) ?_
    conv => lhs; whnf
    rfl
  | succ d ih =>
    intro n i z x y hd hi hx hn
    obtain ⟨n, rfl⟩ : ∃ m, n = m + 1 := ⟨n - 1, by omega⟩
    subst hx
    have hh : hasE (elC l a).2 (i : Int) = (elC l a).2.toNat.testBit (i : Int).toNat := by
      unfold hasE
      rw [hE, dt (show 0 ≤ (i : Int) ∧ (i : Int) ≤ 7 by omega)]
      rfl
    rw [lpAt_def]
    conv => lhs; whnf
    refine br_t (dt (by omega)) ?_
    conv => lhs; whnf
    refine br_t (dt2 (by omega) (by omega)) ?_
    conv => lhs; whnf
    refine br_t (dt (by omega)) ?_
    conv => lhs; whnf
    conv => lhs; arg 1; whnf
    refine bnd_g (by (change (0 ≤ (elC l a).2 ∧ (elC l a).2 ≤ 255) ∧ (0 ≤ (i : Int) ∧ (i : Int) ≤ 8); omega)) ?_
    conv => lhs; whnf
    refine br_c (fun h => ?_) (fun h => ?_)
    · have h' : (elC l a).2.toNat.testBit (i : Int).toNat = true := h
      conv => lhs; whnf
      conv => lhs; arg 1; whnf
      refine bnd_g (by omega) ?_
      conv => lhs; whnf
      refine Eq.trans (ih n (i + 1) _ _ _ (by omega) (by omega) (by rw [wrap64 (n := (i : Int) + 1) (by omega) (by omega)]; simp) (by omega)) ?_
      rw [elemsL, hh, h', cond_true, spL]
    · have h' : (elC l a).2.toNat.testBit (i : Int).toNat = false := h
      conv => lhs; whnf
      refine Eq.trans (ih n (i + 1) _ _ _ (by omega) (by omega) (by rw [wrap64 (n := (i : Int) + 1) (by omega) (by omega)]; simp) (by omega)) ?_
      rw [elemsL, hh, h', cond_false]
theorem ev_specSpotOf (m : Int) (b : List Int) (a : Int) (hp : b.length ≤ 1048576) : evF E_specSpotOf (20) Tryz.f72 [.agg [.int .i64 m, .lst (.int .i64) b], .int .i64 a] [] = some (.tup [.agg [.int .i64 (spotF m b a).1, .int .i64 (spotF m b a).2], .bool (inC (concF m b) a)], []) := by
  have hl := concF_len m b
  conv => lhs; whnf
  conv => lhs; arg 1; whnf
  refine bnd_g (by exact hp) ?_
  conv => lhs; whnf
  conv => lhs; arg 1; whnf
  refine bnd_g (by exact hl) ?_
  conv => lhs; whnf
  refine br_c (fun h => ?_) (fun h => ?_)
  · unfold spotF
    rw [bnt h]
    conv => lhs; whnf
    rfl
  · have h2 := inC_iff.1 (bnf h)
    obtain ⟨h3, h4, h5, h6, h7⟩ := concF_at (bnf h)
    have h8 := isSet_le h4
    have hlen := isCtx_len h3
    obtain ⟨N, rfl⟩ : ∃ N : Nat, m = N := ⟨m.toNat, by omega⟩
    unfold spotF
    rw [bnf h, cond_true, elems_cut (by omega) h4]
    conv => lhs; whnf
    refine (lp_specSpotOf N b a h3 N rfl (concF N b) h2 hl (isSet_8' h4) _ N _ 0 0 0 0 rfl (by omega) rfl (by change _ < 19; omega)).trans ?_
    conv => lhs; whnf
theorem ok_specSpotOf : FnOk Tryz.prog 72 K_specSpotOf := by
  refine fn_ok (fn := Tryz.f72) (k := Tryz.f72.ntmps) (E := E_specSpotOf) (facts_of (List.forall_mem_cons.2 ⟨(FnOk.soft (fun h => False.elim h) ok_specConcepts), List.forall_mem_cons.2 ⟨ok_l6Exists, List.forall_mem_cons.2 ⟨(FnOk.soft (fun h => False.elim h) ok_l2Has), List.forall_mem_cons.2 ⟨ok_specAttributeVector, List.forall_mem_nil _⟩⟩⟩⟩)) (by kernel_rfl) rfl (by decide +kernel) (by decide +kernel) ?_
  intro avs hin r h
  unfold K_specSpotOf at h
  split at h
  · obtain ⟨hp, rfl⟩ := gd_o h
    exact ⟨_, ev_specSpotOf _ _ _ hp, rfl⟩
  · cases h

/- spec.l6Under -/
def K_l6Under : List AV → List Ob → Option (AV × List Ob)
  | [.agg [.int .i64 p, .int .i64 q], .agg [.int .i64 x, .int .i64 y]], [] => gd (True) (.bool (band p x == p), [])
  | _, _ => none
@[reducible] def E_l6Under : Env := mkE (tb []) (fun f => false) (fun r => ([], []))
theorem ev_l6Under (p q : Int) (x y : Int) (hp : True) : evF E_l6Under (1) Tryz.f98 [.agg [.int .i64 p, .int .i64 q], .agg [.int .i64 x, .int .i64 y]] [] = some (.bool (band p x == p), []) := by
  conv => lhs; whnf
  rfl
theorem ok_l6Under : FnOk Tryz.prog 98 K_l6Under := by
  refine fn_ok (fn := Tryz.f98) (k := Tryz.f98.ntmps) (E := E_l6Under) (facts_of (List.forall_mem_nil _)) (by kernel_rfl) rfl (by decide +kernel) (by decide +kernel) ?_
  intro avs hin r h
  unfold K_l6Under at h
  split at h
  · obtain ⟨hp, rfl⟩ := gd_o h
    exact ⟨_, ev_l6Under _ _ _ _ hp, rfl⟩
  · cases h

/- spec.l6Sorted -/
def K_l6Sorted : List AV → List Ob → Option (AV × List Ob)
  | [.lst (.pair (.int .i64) (.int .i64)) l, .int .i64 x, .int .i64 y, .bool true], [] => gd ((0 ≤ x ∧ x < l.length) ∧ (0 ≤ y ∧ y < l.length)) (.bool (undB l x.toNat y.toNat), [])
  | _, _ => none
@[reducible] def E_l6Sorted : Env := mkE (tb [(98, K_l6Under)]) (fun f => false) (fun r => ([], []))
theorem ev_l6Sorted (l : List (Int × Int)) (x y : Int) (hp : (0 ≤ x ∧ x < l.length) ∧ (0 ≤ y ∧ y < l.length)) : evF E_l6Sorted (1) Tryz.f139 [.lst (.pair (.int .i64) (.int .i64)) l, .int .i64 x, .int .i64 y, .bool true] [] = some (.bool (undB l x.toNat y.toNat), []) := by
  conv => lhs; whnf
  repeat ((first | with_reducible apply br_tt | with_reducible apply br_ff | with_reducible apply br_nf | with_reducible apply br_nt | with_reducible refine br_d ?_ (by kernel_rfl)); conv => lhs; whnf)
  refine br_t (by exact dt2 hp.1.1 hp.1.2) ?_
  conv => lhs; whnf
  repeat ((first | with_reducible apply br_tt | with_reducible apply br_ff | with_reducible apply br_nf | with_reducible apply br_nt | with_reducible refine br_d ?_ (by kernel_rfl)); conv => lhs; whnf)
  refine br_t (by exact dt2 hp.2.1 hp.2.2) ?_
  conv => lhs; whnf
  repeat ((first | with_reducible apply br_tt | with_reducible apply br_ff | with_reducible apply br_nf | with_reducible apply br_nt | with_reducible refine br_d ?_ (by kernel_rfl)); conv => lhs; whnf)
  conv => lhs; arg 1; whnf
  refine bnd_g (by exact True.intro) ?_
  conv => lhs; whnf
  repeat ((first | with_reducible apply br_tt | with_reducible apply br_ff | with_reducible apply br_nf | with_reducible apply br_nt | with_reducible refine br_d ?_ (by kernel_rfl)); conv => lhs; whnf)
  rfl
theorem ok_l6Sorted : FnOk Tryz.prog 139 K_l6Sorted := by
  refine fn_ok (fn := Tryz.f139) (k := Tryz.f139.ntmps) (E := E_l6Sorted) (facts_of (List.forall_mem_cons.2 ⟨ok_l6Under, List.forall_mem_nil _⟩)) (by kernel_rfl) rfl (by decide +kernel) (by decide +kernel) ?_
  intro avs hin r h
  unfold K_l6Sorted at h
  split at h
  · obtain ⟨hp, rfl⟩ := gd_o h
    exact ⟨_, ev_l6Sorted _ _ _ hp, rfl⟩
  · cases h

/- spec.l6Covers -/
def K_l6Covers : List AV → List Ob → Option (AV × List Ob)
  | [.lst (.pair (.int .i64) (.int .i64)) l, .int .i64 a, .bool true], [] => gd (l.length ≤ 64 ∧ (0 ≤ a ∧ a < l.length) ∧ extsB l = true) (.own 0, [.row 3 (.int .i64) (upL l a.toNat)])
  | _, _ => none
@[reducible] def E_l6Covers : Env := mkE (tb [(136, K_l6Exists), (139, K_l6Sorted)]) (fun f => false) (fun r => bif r == 3 then ([0, 1, 2, 7, 8], [0, 1, 2, 7, 8, 9]) else bif r == 8 then ([0, 1, 2, 7, 8, 9, 10], [0, 1, 2, 7, 8, 9]) else ([], []))
theorem lq_l6Covers (l : List (Int × Int)) (hl : l.length ≤ 64) (a b : Nat) (ha : a < l.length) (hb : b < l.length) (zs : List Int) (k : AX → S → Option (AV × List Ob)) (d : Nat) : ∀ (n i : Nat) (x : Int) (f : Bool), l.length - i = d → i ≤ l.length → x = i → d < n →
    lpAt E_l6Covers (lp E_l6Covers 0 n) 0 (loopAt Tryz.f73 1) (mkS [0, 1, 2, 7, 8, 9, 10] [.lst (.pair (.int .i64) (.int .i64)) l, .int .i64 (a : Int), .bool true, .own 0, .int .i64 (b : Int), .bool f, .int .i64 x] [some (.row 3 (.int .i64) zs)]) k =
      k (.exit 2) (mkS [0, 1, 2, 7, 8, 9] [.lst (.pair (.int .i64) (.int .i64)) l, .int .i64 (a : Int), .bool true, .own 0, .int .i64 (b : Int), .bool (f && allN (fun k => (((k : Int) == (a : Int)) || ((k : Int) == (b : Int))) || !undB l a k || !undB l k b) d i)] [some (.row 3 (.int .i64) zs)]) := by
  induction d with
  | zero =>
    intro n i x f hd hi hx hn
    subst hx
    rw [lpAt_def]
    conv => lhs; whnf
    refine br_f (df (by omega)) ?_
    conv => lhs; whnf
    rw [allN, Bool.and_true]
  | succ d ih =>
    intro n i x f hd hi hx hn
    obtain ⟨n, rfl⟩ : ∃ m, n = m + 1 := ⟨n - 1, by omega⟩
    subst hx
    have hih := fun f => ih n (i + 1) (IntKind.i64.wrap ((i : Int) + 1)) f (by omega) (by omega) (by rw [wrap64 (n := (i : Int) + 1) (by omega) (by omega)]; simp) (by omega)
    rw [lpAt_def, allN]
    conv => lhs; whnf
    refine br_t (dt (by omega)) ?_
    conv => lhs; whnf
    cases f with
    | false =>
      conv => lhs; whnf
      repeat ((first | with_reducible apply br_tt | with_reducible apply br_ff | with_reducible apply br_nf | with_reducible apply br_nt | with_reducible refine br_d ?_ (by kernel_rfl) | with_reducible refine br_f (by simp; done) ?_); conv => lhs; whnf)
      exact (hih false).trans (by simp only [Bool.false_and])
    | true =>
      conv => lhs; whnf
      repeat ((first | with_reducible apply br_tt | with_reducible apply br_ff | with_reducible apply br_nf | with_reducible apply br_nt | with_reducible refine br_d ?_ (by kernel_rfl)); conv => lhs; whnf)
      refine br_c (fun h => ?_) (fun h => ?_)
      · have h' : ((i : Int) == (a : Int)) = true := h
        conv => lhs; whnf
        repeat ((first | with_reducible apply br_tt | with_reducible apply br_ff | with_reducible apply br_nf | with_reducible apply br_nt | with_reducible refine br_d ?_ (by kernel_rfl) | with_reducible apply br_t h | with_reducible apply br_f h); conv => lhs; whnf)
        refine (hih true).trans ?_
        simp only [h', Bool.true_and, Bool.true_or]
      · have h' : ((i : Int) == (a : Int)) = false := h
        conv => lhs; whnf
        repeat ((first | with_reducible apply br_tt | with_reducible apply br_ff | with_reducible apply br_nf | with_reducible apply br_nt | with_reducible refine br_d ?_ (by kernel_rfl) | with_reducible apply br_t h | with_reducible apply br_f h); conv => lhs; whnf)
        refine br_c (fun h2 => ?_) (fun h2 => ?_)
        · have h2' : ((i : Int) == (b : Int)) = true := h2
          conv => lhs; whnf
          repeat ((first | with_reducible apply br_tt | with_reducible apply br_ff | with_reducible apply br_nf | with_reducible apply br_nt | with_reducible refine br_d ?_ (by kernel_rfl) | with_reducible apply br_t h | with_reducible apply br_f h | with_reducible apply br_t h2 | with_reducible apply br_f h2); conv => lhs; whnf)
          refine (hih true).trans ?_
          simp only [h2', Bool.true_and, Bool.true_or, Bool.or_true]
        · have h2' : ((i : Int) == (b : Int)) = false := h2
          conv => lhs; whnf
          repeat ((first | with_reducible apply br_tt | with_reducible apply br_ff | with_reducible apply br_nf | with_reducible apply br_nt | with_reducible refine br_d ?_ (by kernel_rfl) | with_reducible apply br_t h | with_reducible apply br_f h | with_reducible apply br_t h2 | with_reducible apply br_f h2); conv => lhs; whnf)
          conv => lhs; arg 1; whnf
          refine bnd_g (by exact ⟨⟨by omega, by omega⟩, by omega, by omega⟩) ?_
          conv => lhs; whnf
          repeat ((first | with_reducible apply br_tt | with_reducible apply br_ff | with_reducible apply br_nf | with_reducible apply br_nt | with_reducible refine br_d ?_ (by kernel_rfl) | with_reducible apply br_t h | with_reducible apply br_f h | with_reducible apply br_t h2 | with_reducible apply br_f h2); conv => lhs; whnf)
          refine br_c (fun h3 => ?_) (fun h3 => ?_)
          · have h3' : undB l a i = false := bnt h3
            conv => lhs; whnf
            repeat ((first | with_reducible apply br_tt | with_reducible apply br_ff | with_reducible apply br_nf | with_reducible apply br_nt | with_reducible refine br_d ?_ (by kernel_rfl) | with_reducible apply br_t h | with_reducible apply br_f h | with_reducible apply br_t h2 | with_reducible apply br_f h2 | with_reducible apply br_t h3 | with_reducible apply br_f h3); conv => lhs; whnf)
            refine (hih true).trans ?_
            simp only [h', h2', h3', Bool.true_and, Bool.not_false, Bool.or_true, Bool.true_or]
          · have h3' : undB l a i = true := bnf h3
            conv => lhs; whnf
            repeat ((first | with_reducible apply br_tt | with_reducible apply br_ff | with_reducible apply br_nf | with_reducible apply br_nt | with_reducible refine br_d ?_ (by kernel_rfl) | with_reducible apply br_t h | with_reducible apply br_f h | with_reducible apply br_t h2 | with_reducible apply br_f h2 | with_reducible apply br_t h3 | with_reducible apply br_f h3); conv => lhs; whnf)
            conv => lhs; arg 1; whnf
            refine bnd_g (by exact ⟨⟨by omega, by omega⟩, by omega, by omega⟩) ?_
            conv => lhs; whnf
            repeat ((first | with_reducible apply br_tt | with_reducible apply br_ff | with_reducible apply br_nf | with_reducible apply br_nt | with_reducible refine br_d ?_ (by kernel_rfl) | with_reducible apply br_t h | with_reducible apply br_f h | with_reducible apply br_t h2 | with_reducible apply br_f h2 | with_reducible apply br_t h3 | with_reducible apply br_f h3); conv => lhs; whnf)
            refine (hih (!undB l i b)).trans ?_
            simp only [h', h2', h3', Bool.true_and, Bool.not_true, Bool.false_or]
theorem lp_l6Covers (l : List (Int × Int)) (hl : l.length ≤ 64) (a : Nat) (ha : a < l.length) (k : AX → S → Option (AV × List Ob)) (d : Nat) : ∀ (n i : Nat) (x : Int) (zs : List Int), l.length - i = d → i ≤ l.length → x = i → d + 80 < n → zs.length ≤ i →
    lpAt E_l6Covers (lp E_l6Covers 0 n) 0 (loopAt Tryz.f73 0) (mkS [0, 1, 2, 7, 8] [.lst (.pair (.int .i64) (.int .i64)) l, .int .i64 (a : Int), .bool true, .own 0, .int .i64 x] [some (.row 3 (.int .i64) zs)]) k =
      k (.exit 0) (mkS [0, 1, 2, 7, 8, 9] [.lst (.pair (.int .i64) (.int .i64)) l, .int .i64 (a : Int), .bool true, .own 0, .int .i64 l.length, .any] [some (.row 3 (.int .i64) (zs ++ chsF (fun x => covS l a x) d i))]) := by
  have hin : inC l (a : Int) = true := inC_iff.2 ⟨by omega, by omega⟩
  induction d with
  | zero =>
    intro n i x zs hd hi hx hn hz
    have : i = l.length := by omega
    subst hx this
    have hq : decide ((l.length : Int) < (l.length : Int)) = false := df (by omega)
    rw [lpAt_def]
    conv => lhs; whnf
    repeat ((first | with_reducible apply br_tt | with_reducible apply br_ff | with_reducible apply br_nf | with_reducible apply br_nt | with_reducible refine br_d ?_ (by kernel_rfl) | with_reducible apply br_t hq | with_reducible apply br_f hq); conv => lhs; whnf)
    rw [chsF, List.append_nil]
  | succ d ih =>
    intro n i x zs hd hi hx hn hz
    obtain ⟨n, rfl⟩ : ∃ m, n = m + 1 := ⟨n - 1, by omega⟩
    subst hx
    have hq : decide ((i : Int) < (l.length : Int)) = true := dt (by omega)
    have hih := fun zs => ih n (i + 1) (IntKind.i64.wrap ((i : Int) + 1)) zs (by omega) (by omega) (by rw [wrap64 (n := (i : Int) + 1) (by omega) (by omega)]; simp) (by omega)
    rw [lpAt_def]
    conv => lhs; whnf
    repeat ((first | with_reducible apply br_tt | with_reducible apply br_ff | with_reducible apply br_nf | with_reducible apply br_nt | with_reducible refine br_d ?_ (by kernel_rfl) | with_reducible apply br_t hq | with_reducible apply br_f hq); conv => lhs; whnf)
    conv => lhs; arg 1; whnf
    refine bnd_g (by exact hl) ?_
    conv => lhs; whnf
    repeat ((first | with_reducible apply br_tt | with_reducible apply br_ff | with_reducible apply br_nf | with_reducible apply br_nt | with_reducible refine br_d ?_ (by kernel_rfl) | with_reducible apply br_t hq | with_reducible apply br_f hq | with_reducible apply br_t hin | with_reducible apply br_f hin); conv => lhs; whnf)
    refine br_c (fun h => ?_) (fun h => ?_)
    · have h' : ((i : Int) == (a : Int)) = true := h
      have e : covS l a i = false := by unfold covS; rw [h']; rfl
      conv => lhs; whnf
      repeat ((first | with_reducible apply br_tt | with_reducible apply br_ff | with_reducible apply br_nf | with_reducible apply br_nt | with_reducible refine br_d ?_ (by kernel_rfl) | with_reducible apply br_t h | with_reducible apply br_f h); conv => lhs; whnf)
      refine (hih zs (by omega)).trans ?_
      rw [chsF, e, cond_false]
    · have h' : ((i : Int) == (a : Int)) = false := h
      conv => lhs; whnf
      repeat ((first | with_reducible apply br_tt | with_reducible apply br_ff | with_reducible apply br_nf | with_reducible apply br_nt | with_reducible refine br_d ?_ (by kernel_rfl) | with_reducible apply br_t h | with_reducible apply br_f h); conv => lhs; whnf)
      conv => lhs; arg 1; whnf
      refine bnd_g (by exact ⟨⟨by omega, by omega⟩, by omega, by omega⟩) ?_
      conv => lhs; whnf
      repeat ((first | with_reducible apply br_tt | with_reducible apply br_ff | with_reducible apply br_nf | with_reducible apply br_nt | with_reducible refine br_d ?_ (by kernel_rfl) | with_reducible apply br_t h | with_reducible apply br_f h); conv => lhs; whnf)
      refine br_c (fun h2 => ?_) (fun h2 => ?_)
      · have h2' : undB l a i = false := bnt h2
        have e : covS l a i = false := by unfold covS; rw [h', h2']; rfl
        conv => lhs; whnf
        repeat ((first | with_reducible apply br_tt | with_reducible apply br_ff | with_reducible apply br_nf | with_reducible apply br_nt | with_reducible refine br_d ?_ (by kernel_rfl) | with_reducible apply br_t h | with_reducible apply br_f h); conv => lhs; whnf)
        refine (hih zs (by omega)).trans ?_
        rw [chsF, e, cond_false]
      · have h2' : undB l a i = true := bnf h2
        conv => lhs; whnf
        repeat ((first | with_reducible apply br_tt | with_reducible apply br_ff | with_reducible apply br_nf | with_reducible apply br_nt | with_reducible refine br_d ?_ (by kernel_rfl) | with_reducible apply br_t h | with_reducible apply br_f h); conv => lhs; whnf)
        refine (lq_l6Covers l hl a i ha (by omega) zs _ l.length _ 0 0 true rfl (Nat.zero_le _) rfl (by omega)).trans ?_
        have e : covS l a i = (true && allN (fun k => (((k : Int) == (a : Int)) || ((k : Int) == (i : Int))) || !undB l a k || !undB l k i) l.length 0) := by unfold covS; rw [h', h2']; rfl
        rw [← e]
        conv => lhs; whnf
        refine br_c (fun h3 => ?_) (fun h3 => ?_)
        · have h3' : covS l a i = true := h3
          conv => lhs; whnf
          refine br_t (dt (by simp [room]; omega)) ?_
          conv => lhs; whnf
          refine (hih _ (by simp; omega)).trans ?_
          rw [chsF, h3', cond_true]
          simp only [List.append_assoc]
          rfl
        · have h3' : covS l a i = false := h3
          conv => lhs; whnf
          refine (hih zs (by omega)).trans ?_
          rw [chsF, h3', cond_false]
theorem ev_l6Covers (l : List (Int × Int)) (a : Int) (hp : l.length ≤ 64 ∧ (0 ≤ a ∧ a < l.length) ∧ extsB l = true) : evF E_l6Covers (200) Tryz.f73 [.lst (.pair (.int .i64) (.int .i64)) l, .int .i64 a, .bool true] [] = some (.own 0, [.row 3 (.int .i64) (upL l a.toNat)]) := by
  obtain ⟨hl, ha, he⟩ := hp
  obtain ⟨j, rfl⟩ : ∃ j : Nat, a = j := ⟨a.toNat, by omega⟩
  rw [Int.toNat_natCast, upL_spec he (by omega)]
  conv => lhs; whnf
  refine (lp_l6Covers l hl j (by omega) _ l.length _ 0 0 [] rfl (Nat.zero_le _) rfl (by change _ < 199; omega) (Nat.le_refl _)).trans ?_
  conv => lhs; whnf
  rfl
theorem ok_l6Covers : FnOk Tryz.prog 73 K_l6Covers := by
  refine fn_ok (fn := Tryz.f73) (k := Tryz.f73.ntmps) (E := E_l6Covers) (facts_of (List.forall_mem_cons.2 ⟨ok_l6Exists, List.forall_mem_cons.2 ⟨ok_l6Sorted, List.forall_mem_nil _⟩⟩)) (by kernel_rfl) rfl (by decide +kernel) (by decide +kernel) ?_
  intro avs hin r h
  unfold K_l6Covers at h
  split at h
  · obtain ⟨hp, rfl⟩ := gd_o h
    exact ⟨_, ev_l6Covers _ _ hp, rfl⟩
  · cases h

/- spec.FormatInt -/
def K_specFormatInt : List AV → List Ob → Option (AV × List Ob)
  | [.int .i64 n], [] => gd (-9223372036854775808 ≤ n ∧ n ≤ 9223372036854775807) (.str (itoaB n), [])
  | _, _ => none
@[reducible] def E_specFormatInt : Env := mkE (tb []) (fun f => false) (fun r => bif r == 5 then ([0, 3, 4], [3, 4]) else ([], []))
theorem lp_specFormatInt (f : Bool) (k : AX → S → Option (AV × List Ob)) (d : Nat) : ∀ (n : Nat) (x : Int) (out : ByteArray), x.natAbs < 10 ^ d → d < n → out.size + d ≤ 100 → -9223372036854775808 ≤ x → x ≤ 9223372036854775807 →
    lpAt E_specFormatInt (lp E_specFormatInt 0 n) 0 (loopAt Tryz.f74 0) (mkS [0, 3, 4] [.int .i64 x, .bool f, .str out] []) k =
      k (.exit 0) (mkS [3, 4] [.bool f, .str (bstr (digs x.natAbs) ++ out)] []) := by
  induction d with
  | zero =>
    intro n x out hx hn hz h0 h1
    have : x = 0 := by
      have : x.natAbs < 1 := hx
      omega
    subst this
    obtain ⟨n, rfl⟩ : ∃ m, n = m + 1 := ⟨n - 1, by omega⟩
    rw [lpAt_def]
    conv => lhs; whnf
    refine br_f (by rfl) ?_
    conv => lhs; whnf
    rw [show (0 : Int).natAbs = 0 from rfl, digs_zero, bstr_nil]
  | succ d ih =>
    intro n x out hx hn hz h0 h1
    obtain ⟨n, rfl⟩ : ∃ m, n = m + 1 := ⟨n - 1, by omega⟩
    have hq := tdiv_abs x
    have hqd : (x.tdiv 10).natAbs < 10 ^ d := by
      rw [hq]
      rw [Nat.pow_succ] at hx
      omega
    have hwq : IntKind.i64.wrap (x.tdiv 10) = x.tdiv 10 := wrap64 (by omega) (by omega)
    rw [lpAt_def]
    conv => lhs; whnf
    refine br_c (fun h => ?_) (fun h => ?_)
    · have h' : (x != 0) = true := h
      have hne : x.natAbs ≠ 0 := by
        have : x ≠ 0 := by simpa using h'
        omega
      have hsz : ∀ v : ByteArray, v = bstr [UInt8.ofNat (48 + x.natAbs % 10)] → (v ++ out).size = 1 + out.size := fun v hv => by rw [hv, ByteArray.size_append]; rfl
      conv => lhs; whnf
      refine br_f (df (by omega)) ?_
      conv => lhs; whnf
      refine br_c (fun h2 => ?_) (fun h2 => ?_)
      · have h2' : ¬ 0 ≤ x.tmod 10 := by
          have := ofd h2
          have : x.tmod 10 < 0 := this
          omega
        have e := digit_neg h2'
        conv => lhs; whnf
        refine br_t (by (refine dt ?_; change (intsStr [IntKind.u8.wrap (IntKind.i64.wrap (48 + IntKind.i64.wrap (0 - x.tmod 10)))]).size + out.size ≤ 9223372036854775807; rw [e]; show 1 + out.size ≤ _; omega)) ?_
        conv => lhs; whnf
        refine br_f (df (by omega)) ?_
        conv => lhs; whnf
        refine Eq.trans (ih n _ _ (by rw [hwq]; exact hqd) (by omega) (by rw [hsz _ e]; omega) (by rw [hwq]; omega) (by rw [hwq]; omega)) ?_
        rw [hwq, hq]
        have e3 : bstr (digs (x.natAbs / 10)) ++ (intsStr [IntKind.u8.wrap (IntKind.i64.wrap (48 + IntKind.i64.wrap (0 - x.tmod 10)))] ++ out) = bstr (digs x.natAbs) ++ out := by rw [e, ← ByteArray.append_assoc, bstr_app, ← digs_step hne]
        rw [← e3]
      · have h2' : 0 ≤ x.tmod 10 := by
          have := ofn h2
          have : ¬ x.tmod 10 < 0 := this
          omega
        have e := digit_pos h2'
        conv => lhs; whnf
        refine br_t (by (refine dt ?_; change (intsStr [IntKind.u8.wrap (IntKind.i64.wrap (48 + x.tmod 10))]).size + out.size ≤ 9223372036854775807; rw [e]; show 1 + out.size ≤ _; omega)) ?_
        conv => lhs; whnf
        refine br_f (df (by omega)) ?_
        conv => lhs; whnf
        refine Eq.trans (ih n _ _ (by rw [hwq]; exact hqd) (by omega) (by rw [hsz _ e]; omega) (by rw [hwq]; omega) (by rw [hwq]; omega)) ?_
        rw [hwq, hq]
        have e3 : bstr (digs (x.natAbs / 10)) ++ (intsStr [IntKind.u8.wrap (IntKind.i64.wrap (48 + x.tmod 10))] ++ out) = bstr (digs x.natAbs) ++ out := by rw [e, ← ByteArray.append_assoc, bstr_app, ← digs_step hne]
        rw [← e3]
    · have h' : (x != 0) = false := h
      have : x = 0 := by simpa using h'
      subst this
      conv => lhs; whnf
      rw [show (0 : Int).natAbs = 0 from rfl, digs_zero, bstr_nil]
theorem ev_specFormatInt (n : Int) (hp : -9223372036854775808 ≤ n ∧ n ≤ 9223372036854775807) : evF E_specFormatInt (40) Tryz.f74 [.int .i64 n] [] = some (.str (itoaB n), []) := by
  conv => lhs; whnf
  refine br_c (fun h => ?_) (fun h => ?_)
  · have h' : (n == 0) = true := h
    have : n = 0 := by simpa using h'
    subst this
    conv => lhs; whnf
    rw [itoa_zero]
    rfl
  · have h' : (n == 0) = false := h
    have hne : n ≠ 0 := by simpa using h'
    have hd := digs_len 19 n.natAbs (by omega)
    conv => lhs; whnf
    refine (lp_specFormatInt _ _ 19 _ n ⟨#[]⟩ (by omega) (by change 19 < 39; omega) (by decide) hp.1 hp.2).trans ?_
    have e : bstr (digs n.natAbs) ++ (⟨#[]⟩ : ByteArray) = bstr (digs n.natAbs) := by
      have := bstr_app (digs n.natAbs) []
      rw [List.append_nil] at this
      exact this
    rw [e, itoa_digs hne]
    conv => lhs; whnf
    refine br_c (fun h2 => ?_) (fun h2 => ?_)
    · have h2' : decide (n < 0) = true := h2
      rw [h2', cond_true]
      conv => lhs; whnf
      refine br_t (by (refine dt ?_; change (1 : Nat) + (bstr (digs n.natAbs)).size ≤ 9223372036854775807; rw [bstr_size]; omega)) ?_
      conv => lhs; whnf
      rfl
    · have h2' : decide (n < 0) = false := h2
      rw [h2', cond_false]
      conv => lhs; whnf
theorem ok_specFormatInt : FnOk Tryz.prog 74 K_specFormatInt := by
  refine fn_ok (fn := Tryz.f74) (k := Tryz.f74.ntmps) (E := E_specFormatInt) (facts_of (List.forall_mem_nil _)) (by kernel_rfl) rfl (by decide +kernel) (by decide +kernel) ?_
  intro avs hin r h
  unfold K_specFormatInt at h
  split at h
  · obtain ⟨hp, rfl⟩ := gd_o h
    exact ⟨_, ev_specFormatInt _ hp, rfl⟩
  · cases h

/- spec.Join -/
def K_specJoin : List AV → List Ob → Option (AV × List Ob)
  | [.lst .str ys, .str sep], [] => gd (ys.length ≤ 1048576 ∧ okTxt ys = true ∧ sep.size ≤ 16) (.str (joinF ys sep), [])
  | _, _ => none
@[reducible] def E_specJoin : Env := mkE (tb []) (fun f => false) (fun r => bif r == 3 then ([0, 1, 5, 6], [4, 5]) else ([], []))
theorem lp_specJoin (ys : List ByteArray) (sep : ByteArray) (hl : ys.length ≤ 1048576) (hy : ∀ y ∈ ys, y.size ≤ 1048576) (hs : sep.size ≤ 16) (k : AX → S → Option (AV × List Ob)) (r : Option (AV × List Ob)) (hk : ∀ zs, k .ret (mkS [4, 5] [.str ⟨#[]⟩, .own 0] [some (.row 5 (.int .u8) zs)]) = r) (d : Nat) : ∀ (n i : Nat) (x : Int) (zs : List Int), ys.length - i = d → i ≤ ys.length → x = i → d < n → zs.length ≤ 1048576 →
    lpAt E_specJoin (lp E_specJoin 0 n) 0 (loopAt Tryz.f75 0) (mkS [0, 1, 5, 6] [.lst .str ys, .str sep, .own 0, .int .i64 x] [some (.row 5 (.int .u8) zs)]) k =
      if (zs ++ restI sep i (ys.drop i)).length ≤ 1048576 then k (.exit 0) (mkS [4, 5] [.any, .own 0] [some (.row 5 (.int .u8) (zs ++ restI sep i (ys.drop i)))]) else r := by
  induction d with
  | zero =>
    intro n i x zs hd hi hx hn hz
    subst hx
    rw [lpAt_def]
    conv => lhs; whnf
    refine br_f (df (by omega)) ?_
    conv => lhs; whnf
    rw [List.drop_of_length_le (by omega), restI, List.append_nil, if_pos hz]
  | succ d ih =>
    intro n i x zs hd hi hx hn hz
    obtain ⟨n, rfl⟩ : ∃ m, n = m + 1 := ⟨n - 1, by omega⟩
    subst hx
    have hyi := hy _ (mem_getD (l := ys) (i := i) (d := ByteArray.empty) (by omega))
    have l1 := strInts_len (ys.getD i ByteArray.empty)
    have l2 := strInts_len sep
    rw [getD_drop (l := ys) (i := i) (d := ByteArray.empty) (by omega), restI, lpAt_def]
    conv => lhs; whnf
    refine br_t (dt (by omega)) ?_
    conv => lhs; whnf
    refine br_c (fun h => ?_) (fun h => ?_)
    · have h' := ofd h
      have h' : 0 < i := by omega
      conv => lhs; whnf
      refine br_t (dt (by change (zs.length + (strInts sep).length) * 1 ≤ 140737488355328; omega)) ?_
      conv => lhs; whnf
      refine br_t (dt2 (by omega) (by omega)) ?_
      conv => lhs; whnf
      refine br_t (dt (by change ((zs ++ strInts sep).length + (strInts (ys.getD i ByteArray.empty)).length) * 1 ≤ 140737488355328; rw [List.length_append]; omega)) ?_
      conv => lhs; whnf
      rw [if_pos h']
      refine br_c (fun h2 => ?_) (fun h2 => ?_)
      · have h2' := ofd h2
        have h2' : (((zs ++ strInts sep) ++ strInts (ys.getD i ByteArray.empty)).length : Int) > 1048576 := h2'
        conv => lhs; whnf
        rw [if_neg (by simp only [List.length_append] at h2' ⊢; omega)]
        exact hk _
      · have h2' := ofn h2
        have h2' : ¬ (((zs ++ strInts sep) ++ strInts (ys.getD i ByteArray.empty)).length : Int) > 1048576 := h2'
        conv => lhs; whnf
        refine Eq.trans (ih n (i + 1) _ _ (by omega) (by omega) (by rw [wrap64 (n := (i : Int) + 1) (by omega) (by omega)]; simp) (by omega) (by omega)) ?_
        simp only [List.append_assoc]
        rfl
    · have h' := ofn h
      have h' : ¬ 0 < i := by omega
      conv => lhs; whnf
      refine br_t (dt2 (by omega) (by omega)) ?_
      conv => lhs; whnf
      refine br_t (dt (by change (zs.length + (strInts (ys.getD i ByteArray.empty)).length) * 1 ≤ 140737488355328; omega)) ?_
      conv => lhs; whnf
      rw [if_neg h', List.nil_append]
      refine br_c (fun h2 => ?_) (fun h2 => ?_)
      · have h2' := ofd h2
        have h2' : ((zs ++ strInts (ys.getD i ByteArray.empty)).length : Int) > 1048576 := h2'
        conv => lhs; whnf
        rw [if_neg (by simp only [List.length_append] at h2' ⊢; omega)]
        exact hk _
      · have h2' := ofn h2
        have h2' : ¬ ((zs ++ strInts (ys.getD i ByteArray.empty)).length : Int) > 1048576 := h2'
        conv => lhs; whnf
        refine Eq.trans (ih n (i + 1) _ _ (by omega) (by omega) (by rw [wrap64 (n := (i : Int) + 1) (by omega) (by omega)]; simp) (by omega) (by omega)) ?_
        simp only [List.append_assoc]
        rfl
theorem ev_specJoin (ys : List ByteArray) (sep : ByteArray) (hp : ys.length ≤ 1048576 ∧ okTxt ys = true ∧ sep.size ≤ 16) : evF E_specJoin (ys.length + 2) Tryz.f75 [.lst .str ys, .str sep] [] = some (.str (joinF ys sep), []) := by
  obtain ⟨h1, h2, h3⟩ := hp
  have hy := okTxt_iff.1 h2
  conv => lhs; whnf
  refine (lp_specJoin ys sep h1 hy h3 _ _ (fun zs => rfl) ys.length _ 0 0 [] rfl (Nat.zero_le _) rfl (by omega) (by simp)).trans ?_
  rw [List.nil_append, List.drop_zero, restI_len]
  unfold joinF
  split
  · conv => lhs; whnf
    rw [intsStr_join]
  · rfl
theorem ok_specJoin : FnOk Tryz.prog 75 K_specJoin := by
  refine fn_ok (fn := Tryz.f75) (k := Tryz.f75.ntmps) (E := E_specJoin) (facts_of (List.forall_mem_nil _)) (by kernel_rfl) rfl (by decide +kernel) (by decide +kernel) ?_
  intro avs hin r h
  unfold K_specJoin at h
  split at h
  · obtain ⟨hp, rfl⟩ := gd_o h
    exact ⟨_, ev_specJoin _ _ hp, rfl⟩
  · cases h

/- spec.DiagramLines -/
def K_specDiagramLines : List AV → List Ob → Option (AV × List Ob)
  | [.agg [.int .i64 m, .lst (.int .i64) b]], [] => gd (b.length ≤ 1048576) (.own 0, [.row 9 .str (dgF m b)])
  | _, _ => none
@[reducible] def E_specDiagramLines : Env := mkE (tb [(60, K_specConcepts), (72, K_specSpotOf), (73, K_l6Covers), (74, K_specFormatInt), (75, K_specJoin)]) (fun f => false) (fun r => bif r == 4 then ([1, 3, 4, 5], [1, 3, 4, 5, 6, 9]) else bif r == 10 then ([1, 3, 4, 5, 6, 8, 9, 10], [1, 3, 4, 5, 6, 9]) else ([], []))
theorem lq_specDiagramLines (m : Int) (b : List Int) (i : Nat) (p : Int × Int) (zs : List ByteArray) (l : List (Int × Int)) (us : List Int) (hu : us.length ≤ 64) (hr : ∀ x ∈ us, 0 ≤ x ∧ x ≤ 1000000) (k : AX → S → Option (AV × List Ob)) (d : Nat) : ∀ (n j : Nat) (x : Int) (ws : List ByteArray), us.length - j = d → j ≤ us.length → x = j → d < n → ws.length ≤ j →
    lpAt E_specDiagramLines (lp E_specDiagramLines 0 n) 0 (loopAt Tryz.f28 1) (mkS [1, 3, 4, 5, 6, 8, 9, 10] [.ptr 0 0, .own 1, .own 2, .int .i64 (i : Int), .ptr 3 0, .own 4, .own 5, .int .i64 x] [some (.box 27 [.int .i64 m, .lst (.int .i64) b]), some (.row 9 .str zs), some (.row 84 (.pair (.int .i64) (.int .i64)) l), some (.box 70 [.int .i64 p.1, .int .i64 p.2]), some (.row 3 (.int .i64) us), some (.row 9 .str ws)]) k =
      k (.exit 2) (mkS [1, 3, 4, 5, 6, 9] [.ptr 0 0, .own 1, .own 2, .int .i64 (i : Int), .ptr 3 0, .own 4] [some (.box 27 [.int .i64 m, .lst (.int .i64) b]), some (.row 9 .str zs), some (.row 84 (.pair (.int .i64) (.int .i64)) l), some (.box 70 [.int .i64 p.1, .int .i64 p.2]), some (.row 9 .str (ws ++ (us.drop j).map itoaB))]) := by
  induction d with
  | zero =>
    intro n j x ws hd hj hx hn hz
    subst hx
    rw [lpAt_def]
    conv => lhs; whnf
    refine br_f (df (by omega)) ?_
    conv => lhs; whnf
    rw [List.drop_of_length_le (by omega), List.map_nil, List.append_nil]
  | succ d ih =>
    intro n j x ws hd hj hx hn hz
    obtain ⟨n, rfl⟩ : ∃ m, n = m + 1 := ⟨n - 1, by omega⟩
    subst hx
    have h1 := hr _ (mem_getD (l := us) (i := j) (d := 0) (by omega))
    rw [lpAt_def]
    conv => lhs; whnf
    refine br_t (dt (by omega)) ?_
    conv => lhs; whnf
    refine br_t (dt2 (by omega) (by omega)) ?_
    conv => lhs; whnf
    refine br_t (dt (by omega)) ?_
    conv => lhs; whnf
    conv => lhs; arg 1; whnf
    refine bnd_g (by exact ⟨by change _ ≤ us.getD j 0; omega, by change us.getD j 0 ≤ _; omega⟩) ?_
    conv => lhs; whnf
    refine br_t (dt (by simp [room]; omega)) ?_
    conv => lhs; whnf
    refine (ih n (j + 1) _ _ (by omega) (by omega) (by rw [wrap64 (n := (j : Int) + 1) (by omega) (by omega)]; simp) (by omega) (by simp; omega)).trans ?_
    rw [map_dropN us j (by omega)]
    simp only [List.append_assoc]
    rfl
theorem lp_specDiagramLines (m : Int) (b : List Int) (hb : b.length ≤ 1048576) (k : AX → S → Option (AV × List Ob)) (d : Nat) : ∀ (n i : Nat) (x : Int) (zs : List ByteArray), (concF m b).length - i = d → i ≤ (concF m b).length → x = i → d + 80 < n → zs.length ≤ i →
    lpAt E_specDiagramLines (lp E_specDiagramLines 0 n) 0 (loopAt Tryz.f28 0) (mkS [1, 3, 4, 5] [.ptr 0 0, .own 1, .own 2, .int .i64 x] [some (.box 27 [.int .i64 m, .lst (.int .i64) b]), some (.row 9 .str zs), some (.row 84 (.pair (.int .i64) (.int .i64)) (concF m b))]) k =
      k (.exit 0) (mkS [1, 3, 4, 5, 6, 9] [.ptr 0 0, .own 1, .own 2, .int .i64 (concF m b).length, .any, .any] [some (.box 27 [.int .i64 m, .lst (.int .i64) b]), some (.row 9 .str (zs ++ dgL m b d i)), some (.row 84 (.pair (.int .i64) (.int .i64)) (concF m b))]) := by
  have hl := concF_len m b
  have hext := conc_exts m b
  induction d with
  | zero =>
    intro n i x zs hd hi hx hn hz
    have : i = (concF m b).length := by omega
    subst hx this
    rw [lpAt_def]
    conv => lhs; whnf
    refine br_f (df (by omega)) ?_
    conv => lhs; whnf
    rw [dgL, List.append_nil]
  | succ d ih =>
    intro n i x zs hd hi hx hn hz
    obtain ⟨n, rfl⟩ : ∃ m, n = m + 1 := ⟨n - 1, by omega⟩
    subst hx
    have hr := spot_rng m b (i : Int)
    have hu := upL_len (concF m b) i
    have hur := upL_rng hl i
    rw [lpAt_def]
    conv => lhs; whnf
    refine br_t (dt (by omega)) ?_
    conv => lhs; whnf
    conv => lhs; arg 1; whnf
    refine bnd_g (by exact hb) ?_
    conv => lhs; whnf
    conv => lhs; arg 1; whnf
    refine bnd_g (by exact ⟨hl, ⟨by omega, by omega⟩, hext⟩) ?_
    conv => lhs; whnf
    refine (lq_specDiagramLines m b i (spotF m b i) zs (concF m b) (upL (concF m b) i) (by omega) hur _ (upL (concF m b) i).length _ 0 0 [] rfl (Nat.zero_le _) rfl (by omega) (Nat.le_refl _)).trans ?_
    rw [List.nil_append, List.drop_zero]
    have s1 := isz (i := i) (by omega)
    have s2 := itoa_len hr.1.1 hr.1.2
    have s3 := itoa_len hr.2.1 hr.2.2
    have s4 : (⟨#[32]⟩ : ByteArray).size = 1 := rfl
    have s5 : (⟨#[44]⟩ : ByteArray).size = 1 := rfl
    have s6 := fun ys => join_le ys ⟨#[44]⟩
    conv => lhs; whnf
    refine br_c (fun h => ?_) (fun h => ?_)
    · have h' : ((((upL (concF m b) i).map itoaB).length : Int) == 0) = true := h
      have hm0 : (upL (concF m b) i).map itoaB = [] := len0 h'
      have hw : wordsL (upL (concF m b) i) = (upL (concF m b) i).map itoaB ++ [⟨#[45]⟩] := by
        rw [hm0]
        rw [List.map_eq_nil_iff] at hm0
        rw [hm0]; rfl
      have hok : okTxt ((upL (concF m b) i).map itoaB ++ [⟨#[45]⟩]) = true := hw ▸ words_ok hur
      have s7 := s6 ((upL (concF m b) i).map itoaB ++ [⟨#[45]⟩])
      have hln : ((upL (concF m b) i).map itoaB).length ≤ 64 := by rw [List.length_map]; omega
      conv => lhs; whnf
      refine br_t (dt (by simp [room]; omega)) ?_
      conv => lhs; whnf
      conv => lhs; arg 1; whnf
      refine bnd_g (by omega) ?_
      conv => lhs; whnf
      refine br_t (by (refine dt ?_; change (itoaB (i : Int)).size + ((⟨#[32]⟩ : ByteArray)).size ≤ 9223372036854775807; (try simp only [ByteArray.size_append]); omega)) ?_
      conv => lhs; whnf
      conv => lhs; arg 1; whnf
      refine bnd_g (by exact hr.1) ?_
      conv => lhs; whnf
      refine br_t (by (refine dt ?_; change ((itoaB (i : Int) ++ (⟨#[32]⟩ : ByteArray))).size + (itoaB (spotF m b (i : Int)).1).size ≤ 9223372036854775807; (try simp only [ByteArray.size_append]); omega)) ?_
      conv => lhs; whnf
      refine br_t (by (refine dt ?_; change (((itoaB (i : Int) ++ (⟨#[32]⟩ : ByteArray)) ++ itoaB (spotF m b (i : Int)).1)).size + ((⟨#[44]⟩ : ByteArray)).size ≤ 9223372036854775807; (try simp only [ByteArray.size_append]); omega)) ?_
      conv => lhs; whnf
      conv => lhs; arg 1; whnf
      refine bnd_g (by exact hr.2) ?_
      conv => lhs; whnf
      refine br_t (by (refine dt ?_; change ((((itoaB (i : Int) ++ (⟨#[32]⟩ : ByteArray)) ++ itoaB (spotF m b (i : Int)).1) ++ (⟨#[44]⟩ : ByteArray))).size + (itoaB (spotF m b (i : Int)).2).size ≤ 9223372036854775807; (try simp only [ByteArray.size_append]); omega)) ?_
      conv => lhs; whnf
      refine br_t (by (refine dt ?_; change (((((itoaB (i : Int) ++ (⟨#[32]⟩ : ByteArray)) ++ itoaB (spotF m b (i : Int)).1) ++ (⟨#[44]⟩ : ByteArray)) ++ itoaB (spotF m b (i : Int)).2)).size + ((⟨#[32]⟩ : ByteArray)).size ≤ 9223372036854775807; (try simp only [ByteArray.size_append]); omega)) ?_
      conv => lhs; whnf
      conv => lhs; arg 1; whnf
      refine bnd_g (by exact ⟨by rw [List.length_append]; simp only [List.length_singleton]; omega, by exact hok, by decide⟩) ?_
      conv => lhs; whnf
      refine br_t (by (refine dt ?_; change ((((((itoaB (i : Int) ++ (⟨#[32]⟩ : ByteArray)) ++ itoaB (spotF m b (i : Int)).1) ++ (⟨#[44]⟩ : ByteArray)) ++ itoaB (spotF m b (i : Int)).2) ++ (⟨#[32]⟩ : ByteArray))).size + (joinF ((upL (concF m b) i).map itoaB ++ [(⟨#[45]⟩ : ByteArray)]) ⟨#[44]⟩).size ≤ 9223372036854775807; (try simp only [ByteArray.size_append]); omega)) ?_
      conv => lhs; whnf
      refine br_t (dt (by simp [room]; omega)) ?_
      conv => lhs; whnf
      repeat ((first | with_reducible apply br_tt | with_reducible apply br_ff | with_reducible apply br_nf | with_reducible apply br_nt | with_reducible refine br_d ?_ (by kernel_rfl)); conv => lhs; whnf)
      have e : dgT m b i = ((((((itoaB (i : Int)) ++ ⟨#[32]⟩) ++ itoaB (spotF m b i).1) ++ ⟨#[44]⟩) ++ itoaB (spotF m b i).2) ++ ⟨#[32]⟩) ++ joinF (wordsL (upL (concF m b) i)) ⟨#[44]⟩ := rfl
      rw [hw] at e
      refine (ih n (i + 1) _ _ (by omega) (by omega) (by rw [wrap64 (n := (i : Int) + 1) (by omega) (by omega)]; simp) (by omega) (by simp; omega)).trans ?_
      rw [dgL, e]
      simp only [List.append_assoc]
      rfl
    · have h' : ((((upL (concF m b) i).map itoaB).length : Int) == 0) = false := h
      have hw : wordsL (upL (concF m b) i) = (upL (concF m b) i).map itoaB := by
        unfold wordsL
        cases hq : upL (concF m b) i with
        | nil => rw [hq] at h'; cases h'
        | cons x r => rfl
      have s7 := s6 ((upL (concF m b) i).map itoaB)
      have hok := words_ok hur
      rw [hw] at hok
      conv => lhs; whnf
      conv => lhs; arg 1; whnf
      refine bnd_g (by omega) ?_
      conv => lhs; whnf
      refine br_t (by (refine dt ?_; change (itoaB (i : Int)).size + ((⟨#[32]⟩ : ByteArray)).size ≤ 9223372036854775807; (try simp only [ByteArray.size_append]); omega)) ?_
      conv => lhs; whnf
      conv => lhs; arg 1; whnf
      refine bnd_g (by exact hr.1) ?_
      conv => lhs; whnf
      refine br_t (by (refine dt ?_; change ((itoaB (i : Int) ++ (⟨#[32]⟩ : ByteArray))).size + (itoaB (spotF m b (i : Int)).1).size ≤ 9223372036854775807; (try simp only [ByteArray.size_append]); omega)) ?_
      conv => lhs; whnf
      refine br_t (by (refine dt ?_; change (((itoaB (i : Int) ++ (⟨#[32]⟩ : ByteArray)) ++ itoaB (spotF m b (i : Int)).1)).size + ((⟨#[44]⟩ : ByteArray)).size ≤ 9223372036854775807; (try simp only [ByteArray.size_append]); omega)) ?_
      conv => lhs; whnf
      conv => lhs; arg 1; whnf
      refine bnd_g (by exact hr.2) ?_
      conv => lhs; whnf
      refine br_t (by (refine dt ?_; change ((((itoaB (i : Int) ++ (⟨#[32]⟩ : ByteArray)) ++ itoaB (spotF m b (i : Int)).1) ++ (⟨#[44]⟩ : ByteArray))).size + (itoaB (spotF m b (i : Int)).2).size ≤ 9223372036854775807; (try simp only [ByteArray.size_append]); omega)) ?_
      conv => lhs; whnf
      refine br_t (by (refine dt ?_; change (((((itoaB (i : Int) ++ (⟨#[32]⟩ : ByteArray)) ++ itoaB (spotF m b (i : Int)).1) ++ (⟨#[44]⟩ : ByteArray)) ++ itoaB (spotF m b (i : Int)).2)).size + ((⟨#[32]⟩ : ByteArray)).size ≤ 9223372036854775807; (try simp only [ByteArray.size_append]); omega)) ?_
      conv => lhs; whnf
      conv => lhs; arg 1; whnf
      refine bnd_g (by exact ⟨by rw [List.length_map]; omega, by exact hok, by decide⟩) ?_
      conv => lhs; whnf
      refine br_t (by (refine dt ?_; change ((((((itoaB (i : Int) ++ (⟨#[32]⟩ : ByteArray)) ++ itoaB (spotF m b (i : Int)).1) ++ (⟨#[44]⟩ : ByteArray)) ++ itoaB (spotF m b (i : Int)).2) ++ (⟨#[32]⟩ : ByteArray))).size + (joinF ((upL (concF m b) i).map itoaB) ⟨#[44]⟩).size ≤ 9223372036854775807; (try simp only [ByteArray.size_append]); omega)) ?_
      conv => lhs; whnf
      refine br_t (dt (by simp [room]; omega)) ?_
      conv => lhs; whnf
      repeat ((first | with_reducible apply br_tt | with_reducible apply br_ff | with_reducible apply br_nf | with_reducible apply br_nt | with_reducible refine br_d ?_ (by kernel_rfl)); conv => lhs; whnf)
      have e : dgT m b i = ((((((itoaB (i : Int)) ++ ⟨#[32]⟩) ++ itoaB (spotF m b i).1) ++ ⟨#[44]⟩) ++ itoaB (spotF m b i).2) ++ ⟨#[32]⟩) ++ joinF (wordsL (upL (concF m b) i)) ⟨#[44]⟩ := rfl
      rw [hw] at e
      refine (ih n (i + 1) _ _ (by omega) (by omega) (by rw [wrap64 (n := (i : Int) + 1) (by omega) (by omega)]; simp) (by omega) (by simp; omega)).trans ?_
      rw [dgL, e]
      simp only [List.append_assoc]
      rfl
theorem ev_specDiagramLines (m : Int) (b : List Int) (hp : b.length ≤ 1048576) : evF E_specDiagramLines (200) Tryz.f28 [.agg [.int .i64 m, .lst (.int .i64) b]] [] = some (.own 0, [.row 9 .str (dgF m b)]) := by
  have hl := concF_len m b
  conv => lhs; whnf
  conv => lhs; arg 1; whnf
  refine bnd_g (by exact hp) ?_
  conv => lhs; whnf
  refine (lp_specDiagramLines m b hp _ (concF m b).length _ 0 0 [] rfl (Nat.zero_le _) rfl (by change _ < 199; omega) (Nat.le_refl _)).trans ?_
  conv => lhs; whnf
  rfl
theorem ok_specDiagramLines : FnOk Tryz.prog 28 K_specDiagramLines := by
  refine fn_ok (fn := Tryz.f28) (k := Tryz.f28.ntmps) (E := E_specDiagramLines) (facts_of (List.forall_mem_cons.2 ⟨(FnOk.soft (fun h => False.elim h) ok_specConcepts), List.forall_mem_cons.2 ⟨ok_specSpotOf, List.forall_mem_cons.2 ⟨ok_l6Covers, List.forall_mem_cons.2 ⟨ok_specFormatInt, List.forall_mem_cons.2 ⟨ok_specJoin, List.forall_mem_nil _⟩⟩⟩⟩⟩)) (by kernel_rfl) rfl (by decide +kernel) (by decide +kernel) ?_
  intro avs hin r h
  unfold K_specDiagramLines at h
  split at h
  · obtain ⟨hp, rfl⟩ := gd_o h
    exact ⟨_, ev_specDiagramLines _ _ hp, rfl⟩
  · cases h

/- (impl.lattice).has -/
def K_latHas : List AV → List Ob → Option (AV × List Ob)
  | [.lst (.pair (.int .i64) (.int .i64)) l, .int .i64 a], [] => gd (l.length ≤ 64) (.bool (inC l a), [])
  | _, _ => none
@[reducible] def E_latHas : Env := mkE (tb [(100, K_within)]) (fun f => false) (fun r => ([], []))
theorem ev_latHas (l : List (Int × Int)) (a : Int) (hp : l.length ≤ 64) : evF E_latHas (1) Tryz.f143 [.lst (.pair (.int .i64) (.int .i64)) l, .int .i64 a] [] = some (.bool (inC l a), []) := by
  conv => lhs; whnf
  conv => lhs; arg 1; whnf
  refine bnd_g (by exact True.intro) ?_
  conv => lhs; whnf
  refine okB ?_
  unfold inC
  rw [wrap64 (by omega) (by omega)]
theorem ok_latHas : FnOk Tryz.prog 143 K_latHas := by
  refine fn_ok (fn := Tryz.f143) (k := Tryz.f143.ntmps) (E := E_latHas) (facts_of (List.forall_mem_cons.2 ⟨(FnOk.soft (fun h => False.elim h) ok_within), List.forall_mem_nil _⟩)) (by kernel_rfl) rfl (by decide +kernel) (by decide +kernel) ?_
  intro avs hin r h
  unfold K_latHas at h
  split at h
  · obtain ⟨hp, rfl⟩ := gd_o h
    exact ⟨_, ev_latHas _ _ hp, rfl⟩
  · cases h

/- impl.conceptOf -/
def K_conceptOf : List AV → List Ob → Option (AV × List Ob)
  | [.agg [.int .i64 m, .lst (.int .i64) b], .int .i64 a], [] => gd (b.length ≤ 1048576) (.tup [.agg [.int .i64 (cofF m b a).1, .int .i64 (cofF m b a).2], .bool (inC (concF m b) a)], [])
  | _, _ => none
@[reducible] def E_conceptOf : Env := mkE (tb [(65, K_implConcepts), (143, K_latHas)]) (fun f => false) (fun r => ([], []))
theorem ev_conceptOf (m : Int) (b : List Int) (a : Int) (hp : b.length ≤ 1048576) : evF E_conceptOf (1) Tryz.f140 [.agg [.int .i64 m, .lst (.int .i64) b], .int .i64 a] [] = some (.tup [.agg [.int .i64 (cofF m b a).1, .int .i64 (cofF m b a).2], .bool (inC (concF m b) a)], []) := by
  have hl := concF_len m b
  conv => lhs; whnf
  conv => lhs; arg 1; whnf
  refine bnd_g (by exact hp) ?_
  conv => lhs; whnf
  conv => lhs; arg 1; whnf
  refine bnd_g (by exact hl) ?_
  conv => lhs; whnf
  refine br_c (fun h => ?_) (fun h => ?_)
  · unfold cofF
    rw [bnt h]
    conv => lhs; whnf
    rfl
  · have h2 := inC_iff.1 (bnf h)
    unfold cofF
    rw [bnf h]
    conv => lhs; whnf
    refine br_t (dt2 (by omega) (by omega)) ?_
    conv => lhs; whnf
    refine br_t (dt (by omega)) ?_
    conv => lhs; whnf
    rfl
theorem ok_conceptOf : FnOk Tryz.prog 140 K_conceptOf := by
  refine fn_ok (fn := Tryz.f140) (k := Tryz.f140.ntmps) (E := E_conceptOf) (facts_of (List.forall_mem_cons.2 ⟨(FnOk.soft (fun h => False.elim h) ok_implConcepts), List.forall_mem_cons.2 ⟨ok_latHas, List.forall_mem_nil _⟩⟩)) (by kernel_rfl) rfl (by decide +kernel) (by decide +kernel) ?_
  intro avs hin r h
  unfold K_conceptOf at h
  split at h
  · obtain ⟨hp, rfl⟩ := gd_o h
    exact ⟨_, ev_conceptOf _ _ _ hp, rfl⟩
  · cases h

/- impl.inSet -/
def K_inSet : List AV → List Ob → Option (AV × List Ob)
  | [.int .i64 a, .int .i64 b], [] => gd (True) (.bool (bnot a b == 0), [])
  | _, _ => none
@[reducible] def E_inSet : Env := mkE (tb []) (fun f => false) (fun r => ([], []))
theorem ev_inSet (a b : Int) (hp : True) : evF E_inSet (1) Tryz.f122 [.int .i64 a, .int .i64 b] [] = some (.bool (bnot a b == 0), []) := by
  conv => lhs; whnf
  rfl
theorem ok_inSet : FnOk Tryz.prog 122 K_inSet := by
  refine fn_ok (fn := Tryz.f122) (k := Tryz.f122.ntmps) (E := E_inSet) (facts_of (List.forall_mem_nil _)) (by kernel_rfl) rfl (by decide +kernel) (by decide +kernel) ?_
  intro avs hin r h
  unfold K_inSet at h
  split at h
  · obtain ⟨hp, rfl⟩ := gd_o h
    exact ⟨_, ev_inSet _ _ hp, rfl⟩
  · cases h

/- impl.beyond -/
def K_beyond : List AV → List Ob → Option (AV × List Ob)
  | [.lst (.int .i64) l, .int .i64 s, .int .i64 q], [] => gd (l.length ≤ 1048576) (.int .i64 (beyondF s l q), [])
  | _, _ => none
@[reducible] def E_beyond : Env := mkE (tb [(122, K_inSet)]) (fun f => false) (fun r => bif r == 2 then ([1, 2, 9, 10, 11], [2]) else ([], []))
theorem lp_beyond (l : List Int) (s : Int) (hl : l.length ≤ 1048576) (k : AX → S → Option (AV × List Ob)) (d : Nat) : ∀ (n i : Nat) (x q : Int), l.length - i = d → i ≤ l.length → x = i → d < n →
    lpAt E_beyond (lp E_beyond 0 n) 0 (loopAt Tryz.f260 0) (mkS [1, 2, 9, 10, 11] [.int .i64 s, .int .i64 q, .lst (.int .i64) l, .int .i64 l.length, .int .i64 x] []) k =
      k (.exit 0) (mkS [2] [.int .i64 (beyondF s (l.drop i) q)] []) := by
  induction d with
  | zero =>
    intro n i x q hd hi hx hn
    subst hx
    rw [lpAt_def]
    conv => lhs; whnf
    refine br_f (df (by omega)) ?_
    conv => lhs; whnf
    rw [List.drop_of_length_le (by omega), beyondF]
  | succ d ih =>
    intro n i x q hd hi hx hn
    obtain ⟨n, rfl⟩ : ∃ m, n = m + 1 := ⟨n - 1, by omega⟩
    subst hx
    rw [lpAt_def]
    conv => lhs; whnf
    refine br_t (dt (by omega)) ?_
    conv => lhs; whnf
    refine br_t (dt2 (by omega) (by omega)) ?_
    conv => lhs; whnf
    rw [getD_drop (l := l) (i := i) (d := 0) (by omega)]
    refine br_c (fun h => ?_) (fun h => ?_)
    · have h' : (l.getD i 0 != s) = true := h
      conv => lhs; whnf
      repeat ((first | with_reducible apply br_tt | with_reducible apply br_ff | with_reducible apply br_nf | with_reducible apply br_nt | with_reducible refine br_d ?_ (by kernel_rfl) | with_reducible apply br_t h | with_reducible apply br_f h); conv => lhs; whnf)
      conv => lhs; arg 1; whnf
      refine bnd_g (by exact True.intro) ?_
      conv => lhs; whnf
      repeat ((first | with_reducible apply br_tt | with_reducible apply br_ff | with_reducible apply br_nf | with_reducible apply br_nt | with_reducible refine br_d ?_ (by kernel_rfl) | with_reducible apply br_t h | with_reducible apply br_f h); conv => lhs; whnf)
      refine br_c (fun h2 => ?_) (fun h2 => ?_)
      · have h2' : (bnot s (l.getD i 0) == 0) = true := h2
        conv => lhs; whnf
        rw [ih n (i + 1) _ _ (by omega) (by omega) (by rw [wrap64 (by omega) (by omega)]; simp) (by omega)]
        rw [beyondF, h', h2']
        rfl
      · have h2' : (bnot s (l.getD i 0) == 0) = false := h2
        conv => lhs; whnf
        rw [ih n (i + 1) _ _ (by omega) (by omega) (by rw [wrap64 (by omega) (by omega)]; simp) (by omega)]
        rw [beyondF, h', h2']
        rfl
    · have h' : (l.getD i 0 != s) = false := h
      conv => lhs; whnf
      repeat ((first | with_reducible apply br_tt | with_reducible apply br_ff | with_reducible apply br_nf | with_reducible apply br_nt | with_reducible refine br_d ?_ (by kernel_rfl) | with_reducible apply br_t h | with_reducible apply br_f h); conv => lhs; whnf)
      rw [ih n (i + 1) _ _ (by omega) (by omega) (by rw [wrap64 (by omega) (by omega)]; simp) (by omega)]
      rw [beyondF, h']
      rfl
theorem ev_beyond (l : List Int) (s q : Int) (hp : l.length ≤ 1048576) : evF E_beyond (l.length + 2) Tryz.f260 [.lst (.int .i64) l, .int .i64 s, .int .i64 q] [] = some (.int .i64 (beyondF s l q), []) := by
  conv => lhs; whnf
  refine (lp_beyond l s hp _ l.length _ 0 0 q rfl (by omega) rfl (by omega)).trans ?_
  conv => lhs; whnf
  rfl
theorem ok_beyond : FnOk Tryz.prog 260 K_beyond := by
  refine fn_ok (fn := Tryz.f260) (k := Tryz.f260.ntmps) (E := E_beyond) (facts_of (List.forall_mem_cons.2 ⟨ok_inSet, List.forall_mem_nil _⟩)) (by kernel_rfl) rfl (by decide +kernel) (by decide +kernel) ?_
  intro avs hin r h
  unfold K_beyond at h
  split at h
  · obtain ⟨hp, rfl⟩ := gd_o h
    exact ⟨_, ev_beyond _ _ _ hp, rfl⟩
  · cases h

/- impl.IsReducibleAttribute -/
def K_implIsReducible : List AV → List Ob → Option (AV × List Ob)
  | [.agg [.int .i64 m, .lst (.int .i64) b], .int .i64 e], [] => gd (b.length ≤ 1048576) (.bool (attrOk m b e && reducF m b e), [])
  | _, _ => none
@[reducible] def E_implIsReducible : Env := mkE (tb [(186, K_isAttribute), (113, K_columns), (174, K_columnOf), (116, K_implFullSet), (260, K_beyond)]) (fun f => false) (fun r => ([], []))
theorem ev_implIsReducible (m : Int) (b : List Int) (e : Int) (hp : b.length ≤ 1048576) : evF E_implIsReducible (1) Tryz.f233 [.agg [.int .i64 m, .lst (.int .i64) b], .int .i64 e] [] = some (.bool (attrOk m b e && reducF m b e), []) := by
  conv => lhs; whnf
  conv => lhs; arg 1; whnf
  refine bnd_g (by exact hp) ?_
  conv => lhs; whnf
  refine br_c (fun h => ?_) (fun h => ?_)
  · have h' := h
    unfold attrOk at h'
    have h2 := Bool.and_eq_true_iff.1 h'
    have hl := isCtx_len h2.1
    conv => lhs; whnf
    repeat ((first | with_reducible apply br_tt | with_reducible apply br_ff | with_reducible apply br_nf | with_reducible apply br_nt | with_reducible refine br_d ?_ (by kernel_rfl) | with_reducible apply br_t h | with_reducible apply br_f h); conv => lhs; whnf)
    conv => lhs; arg 1; whnf
    refine bnd_g (by exact h2.1) ?_
    conv => lhs; whnf
    repeat ((first | with_reducible apply br_tt | with_reducible apply br_ff | with_reducible apply br_nf | with_reducible apply br_nt | with_reducible refine br_d ?_ (by kernel_rfl) | with_reducible apply br_t h | with_reducible apply br_f h); conv => lhs; whnf)
    conv => lhs; arg 1; whnf
    refine bnd_g (by exact hp) ?_
    conv => lhs; whnf
    repeat ((first | with_reducible apply br_tt | with_reducible apply br_ff | with_reducible apply br_nf | with_reducible apply br_nt | with_reducible refine br_d ?_ (by kernel_rfl) | with_reducible apply br_t h | with_reducible apply br_f h); conv => lhs; whnf)
    conv => lhs; arg 1; whnf
    refine bnd_g (by exact True.intro) ?_
    conv => lhs; whnf
    repeat ((first | with_reducible apply br_tt | with_reducible apply br_ff | with_reducible apply br_nf | with_reducible apply br_nt | with_reducible refine br_d ?_ (by kernel_rfl) | with_reducible apply br_t h | with_reducible apply br_f h); conv => lhs; whnf)
    conv => lhs; arg 1; whnf
    refine bnd_g (by (show (colsL b m.toNat 0).length ≤ 1048576; rw [colsL_length]; omega)) ?_
    conv => lhs; whnf
    repeat ((first | with_reducible apply br_tt | with_reducible apply br_ff | with_reducible apply br_nf | with_reducible apply br_nt | with_reducible refine br_d ?_ (by kernel_rfl) | with_reducible apply br_t h | with_reducible apply br_f h); conv => lhs; whnf)
    conv => lhs; arg 1; whnf
    refine bnd_g (by exact hp) ?_
    conv => lhs; whnf
    repeat ((first | with_reducible apply br_tt | with_reducible apply br_ff | with_reducible apply br_nf | with_reducible apply br_nt | with_reducible refine br_d ?_ (by kernel_rfl) | with_reducible apply br_t h | with_reducible apply br_f h); conv => lhs; whnf)
    rw [h]
    rfl
  · conv => lhs; whnf
    repeat ((first | with_reducible apply br_tt | with_reducible apply br_ff | with_reducible apply br_nf | with_reducible apply br_nt | with_reducible refine br_d ?_ (by kernel_rfl) | with_reducible apply br_t h | with_reducible apply br_f h); conv => lhs; whnf)
    rw [h, Bool.false_and]
theorem ok_implIsReducible : FnOk Tryz.prog 233 K_implIsReducible := by
  refine fn_ok (fn := Tryz.f233) (k := Tryz.f233.ntmps) (E := E_implIsReducible) (facts_of (List.forall_mem_cons.2 ⟨(FnOk.soft (fun h => False.elim h) ok_isAttribute), List.forall_mem_cons.2 ⟨(FnOk.soft (fun h => False.elim h) ok_columns), List.forall_mem_cons.2 ⟨(FnOk.soft (fun h => False.elim h) ok_columnOf), List.forall_mem_cons.2 ⟨(FnOk.soft (fun h => False.elim h) ok_implFullSet), List.forall_mem_cons.2 ⟨ok_beyond, List.forall_mem_nil _⟩⟩⟩⟩⟩)) (by kernel_rfl) rfl (by decide +kernel) (by decide +kernel) ?_
  intro avs hin r h
  unfold K_implIsReducible at h
  split at h
  · obtain ⟨hp, rfl⟩ := gd_o h
    exact ⟨_, ev_implIsReducible _ _ _ hp, rfl⟩
  · cases h

/- impl.IsIrreducibleAttribute -/
def K_isIrreducible : List AV → List Ob → Option (AV × List Ob)
  | [.agg [.int .i64 m, .lst (.int .i64) b], .int .i64 e], [] => gd (b.length ≤ 1048576) (.bool (attrOk m b e && !reducF m b e), [])
  | _, _ => none
@[reducible] def E_isIrreducible : Env := mkE (tb [(186, K_isAttribute), (233, K_implIsReducible)]) (fun f => false) (fun r => ([], []))
theorem ev_isIrreducible (m : Int) (b : List Int) (e : Int) (hp : b.length ≤ 1048576) : evF E_isIrreducible (1) Tryz.f187 [.agg [.int .i64 m, .lst (.int .i64) b], .int .i64 e] [] = some (.bool (attrOk m b e && !reducF m b e), []) := by
  conv => lhs; whnf
  conv => lhs; arg 1; whnf
  refine bnd_g (by exact hp) ?_
  conv => lhs; whnf
  refine br_c (fun h => ?_) (fun h => ?_)
  · conv => lhs; whnf
    repeat ((first | with_reducible apply br_tt | with_reducible apply br_ff | with_reducible apply br_nf | with_reducible apply br_nt | with_reducible refine br_d ?_ (by kernel_rfl) | with_reducible apply br_t h | with_reducible apply br_f h); conv => lhs; whnf)
    conv => lhs; arg 1; whnf
    refine bnd_g (by exact hp) ?_
    conv => lhs; whnf
    repeat ((first | with_reducible apply br_tt | with_reducible apply br_ff | with_reducible apply br_nf | with_reducible apply br_nt | with_reducible refine br_d ?_ (by kernel_rfl) | with_reducible apply br_t h | with_reducible apply br_f h); conv => lhs; whnf)
    rw [h, Bool.true_and, Bool.true_and]
  · conv => lhs; whnf
    repeat ((first | with_reducible apply br_tt | with_reducible apply br_ff | with_reducible apply br_nf | with_reducible apply br_nt | with_reducible refine br_d ?_ (by kernel_rfl) | with_reducible apply br_t h | with_reducible apply br_f h); conv => lhs; whnf)
    rw [h, Bool.false_and]
theorem ok_isIrreducible : FnOk Tryz.prog 187 K_isIrreducible := by
  refine fn_ok (fn := Tryz.f187) (k := Tryz.f187.ntmps) (E := E_isIrreducible) (facts_of (List.forall_mem_cons.2 ⟨(FnOk.soft (fun h => False.elim h) ok_isAttribute), List.forall_mem_cons.2 ⟨ok_implIsReducible, List.forall_mem_nil _⟩⟩)) (by kernel_rfl) rfl (by decide +kernel) (by decide +kernel) ?_
  intro avs hin r h
  unfold K_isIrreducible at h
  split at h
  · obtain ⟨hp, rfl⟩ := gd_o h
    exact ⟨_, ev_isIrreducible _ _ _ hp, rfl⟩
  · cases h

/- slices.Index[[]int,int] -/
def K_indexInt : List AV → List Ob → Option (AV × List Ob)
  | [.lst (.int .i64) a, .int .i64 v], [] => gd (a.length < 4611686018427387904) (.int .i64 (firstI (fun y => v == y) a 0), [])
  | _, _ => none
@[reducible] def E_indexInt : Env := mkE (tb []) (fun f => false) (fun r => bif r == 2 then ([0, 1, 7, 8], [4]) else ([], []))
theorem lp_indexInt (a : List Int) (v : Int) (ha : a.length < 4611686018427387904) (k : AX → S → Option (AV × List Ob)) (d : Nat) : ∀ (n i : Nat) (x : Int), a.length - i = d → i ≤ a.length → x = i → d < n →
    lpAt E_indexInt (lp E_indexInt 0 n) 0 (loopAt Tryz.f175 0) (mkS [0, 1, 7, 8] [.lst (.int .i64) a, .int .i64 v, .int .i64 a.length, .int .i64 x] []) k =
      if (a.drop i).any (fun y => v == y) then k .ret (mkS [4] [.int .i64 (firstI (fun y => v == y) (a.drop i) i)] []) else k (.exit 0) (mkS [4] [.any] []) := by
  induction d with
  | zero =>
    intro n i x hd hi hx hn
    subst hx
    rw [lpAt_def]
    conv => lhs; whnf
    refine br_f (df (by omega)) ?_
    conv => lhs; whnf
    rw [List.drop_of_length_le (by omega)]
    simp
  | succ d ih =>
    intro n i x hd hi hx hn
    obtain ⟨n, rfl⟩ : ∃ m, n = m + 1 := ⟨n - 1, by omega⟩
    subst hx
    rw [lpAt_def]
    conv => lhs; whnf
    refine br_t (dt (by omega)) ?_
    conv => lhs; whnf
    refine br_t (dt2 (by omega) (by omega)) ?_
    conv => lhs; whnf
    rw [getD_drop (l := a) (i := i) (d := 0) (by omega)]
    refine br_c (fun h => ?_) (fun h => ?_)
    · have h' : (v == a.getD i 0) = true := h
      conv => lhs; whnf
      rw [if_pos (by simp only [List.any_cons, h', Bool.true_or])]
      simp only [firstI, h', cond_true]
    · have h' : (v == a.getD i 0) = false := h
      conv => lhs; whnf
      rw [ih n (i + 1) _ (by omega) (by omega) (by rw [wrap64 (by omega) (by omega)]; simp) (by omega)]
      simp only [List.any_cons, h', Bool.false_or, firstI, cond_false]
      rfl
theorem ev_indexInt (a : List Int) (v : Int) (hp : a.length < 4611686018427387904) : evF E_indexInt (a.length + 2) Tryz.f175 [.lst (.int .i64) a, .int .i64 v] [] = some (.int .i64 (firstI (fun y => v == y) a 0), []) := by
  conv => lhs; whnf
  refine (lp_indexInt a v hp _ a.length _ 0 0 rfl (by omega) rfl (by omega)).trans ?_
  simp only [List.drop_zero]
  split
  · conv => lhs; whnf
    rfl
  · rename_i he
    conv => lhs; whnf
    have : firstI (fun y => v == y) a 0 = -1 := firstI_none _ a 0 (by rw [← Bool.not_eq_true]; exact he)
    rw [this]
theorem ok_indexInt : FnOk Tryz.prog 175 K_indexInt := by
  refine fn_ok (fn := Tryz.f175) (k := Tryz.f175.ntmps) (E := E_indexInt) (facts_of (List.forall_mem_nil _)) (by kernel_rfl) rfl (by decide +kernel) (by decide +kernel) ?_
  intro avs hin r h
  unfold K_indexInt at h
  split at h
  · obtain ⟨hp, rfl⟩ := gd_o h
    exact ⟨_, ev_indexInt _ _ hp, rfl⟩
  · cases h

/- slices.Contains[[]int,int] -/
def K_containsInt : List AV → List Ob → Option (AV × List Ob)
  | [.lst (.int .i64) a, .int .i64 v], [] => gd (a.length < 4611686018427387904) (.bool (a.any (fun y => v == y)), [])
  | _, _ => none
@[reducible] def E_containsInt : Env := mkE (tb [(175, K_indexInt)]) (fun f => false) (fun r => ([], []))
theorem ev_containsInt (a : List Int) (v : Int) (hp : a.length < 4611686018427387904) : evF E_containsInt (1) Tryz.f115 [.lst (.int .i64) a, .int .i64 v] [] = some (.bool (a.any (fun y => v == y)), []) := by
  conv => lhs; whnf
  conv => lhs; arg 1; whnf
  refine bnd_g (by exact hp) ?_
  conv => lhs; whnf
  refine okB ?_
  exact firstI_iff _ a 0 (by omega)
theorem ok_containsInt : FnOk Tryz.prog 115 K_containsInt := by
  refine fn_ok (fn := Tryz.f115) (k := Tryz.f115.ntmps) (E := E_containsInt) (facts_of (List.forall_mem_cons.2 ⟨ok_indexInt, List.forall_mem_nil _⟩)) (by kernel_rfl) rfl (by decide +kernel) (by decide +kernel) ?_
  intro avs hin r h
  unfold K_containsInt at h
  split at h
  · obtain ⟨hp, rfl⟩ := gd_o h
    exact ⟨_, ev_containsInt _ _ hp, rfl⟩
  · cases h

/- impl.repeated -/
def K_repeated : List AV → List Ob → Option (AV × List Ob)
  | [.lst (.int .i64) l], [] => gd (l.length ≤ 8) (.int .i64 (repF l), [])
  | _, _ => none
@[reducible] def E_repeated : Env := mkE (tb [(115, K_containsInt)]) (fun f => false) (fun r => bif r == 3 then ([0, 3, 6, 7, 8], [3]) else ([], []))
theorem lp_repeated (l : List Int) (hl : l.length ≤ 8) (k : AX → S → Option (AV × List Ob)) (d : Nat) : ∀ (n i : Nat) (x q : Int), l.length - i = d → i ≤ l.length → x = i → d < n →
    lpAt E_repeated (lp E_repeated 0 n) 0 (loopAt Tryz.f188 0) (mkS [0, 3, 6, 7, 8] [.lst (.int .i64) l, .int .i64 q, .lst (.int .i64) l, .int .i64 l.length, .int .i64 x] []) k =
      k (.exit 0) (mkS [3] [.int .i64 (orF (repAt l) d i q)] []) := by
  induction d with
  | zero =>
    intro n i x q hd hi hx hn
    subst hx
    rw [lpAt_def]
    conv => lhs; whnf
    refine br_f (df (by omega)) ?_
    conv => lhs; whnf
    rfl
  | succ d ih =>
    intro n i x q hd hi hx hn
    obtain ⟨n, rfl⟩ : ∃ m, n = m + 1 := ⟨n - 1, by omega⟩
    subst hx
    rw [lpAt_def]
    conv => lhs; whnf
    refine br_t (dt (by omega)) ?_
    conv => lhs; whnf
    refine br_t (dt2 (by omega) (by omega)) ?_
    conv => lhs; whnf
    refine br_t (dt2 (by omega) (by omega)) ?_
    conv => lhs; whnf
    conv => lhs; arg 1; whnf
    refine bnd_g (by simp; omega) ?_
    conv => lhs; whnf
    refine br_c (fun h => ?_) (fun h => ?_)
    · have h' : repAt l i = true := h
      conv => lhs; whnf
      refine br_f (df (by omega)) ?_
      conv => lhs; whnf
      rw [shl1 (by omega)]
      rw [ih n (i + 1) _ _ (by omega) (by omega) (by rw [wrap64 (by omega) (by omega)]; simp) (by omega)]
      rw [orF, h', cond_true]
      rfl
    · have h' : repAt l i = false := h
      conv => lhs; whnf
      rw [ih n (i + 1) _ _ (by omega) (by omega) (by rw [wrap64 (by omega) (by omega)]; simp) (by omega)]
      rw [orF, h', cond_false]
theorem ev_repeated (l : List Int) (hp : l.length ≤ 8) : evF E_repeated (20) Tryz.f188 [.lst (.int .i64) l] [] = some (.int .i64 (repF l), []) := by
  conv => lhs; whnf
  refine (lp_repeated l hp _ l.length _ 0 0 0 rfl (by omega) rfl (by change _ < 19; omega)).trans ?_
  conv => lhs; whnf
  rfl
theorem ok_repeated : FnOk Tryz.prog 188 K_repeated := by
  refine fn_ok (fn := Tryz.f188) (k := Tryz.f188.ntmps) (E := E_repeated) (facts_of (List.forall_mem_cons.2 ⟨ok_containsInt, List.forall_mem_nil _⟩)) (by kernel_rfl) rfl (by decide +kernel) (by decide +kernel) ?_
  intro avs hin r h
  unfold K_repeated at h
  split at h
  · obtain ⟨hp, rfl⟩ := gd_o h
    exact ⟨_, ev_repeated _ hp, rfl⟩
  · cases h

/- impl.AttributeVector -/
def K_implAttributeVector : List AV → List Ob → Option (AV × List Ob)
  | [.agg [.int .i64 m, .lst (.int .i64) b], .int .i64 e], [] => gd (b.length ≤ 1048576) (.tup [.agg [.int .i64 (vecF m b e).1, .int .i64 (vecF m b e).2.1], .bool (vecF m b e).2.2], [])
  | _, _ => none
@[reducible] def E_implAttributeVector : Env := mkE (tb [(186, K_isAttribute), (187, K_isIrreducible), (113, K_columns), (188, K_repeated), (185, K_hasElement)]) (fun f => false) (fun r => ([], []))
theorem ev_implAttributeVector (m : Int) (b : List Int) (e : Int) (hp : b.length ≤ 1048576) : evF E_implAttributeVector (1) Tryz.f142 [.agg [.int .i64 m, .lst (.int .i64) b], .int .i64 e] [] = some (.tup [.agg [.int .i64 (vecF m b e).1, .int .i64 (vecF m b e).2.1], .bool (vecF m b e).2.2], []) := by
  conv => lhs; whnf
  conv => lhs; arg 1; whnf
  refine bnd_g (by exact hp) ?_
  conv => lhs; whnf
  refine br_c (fun h => ?_) (fun h => ?_)
  · have hf : vecF m b e = (0, 0, false) := by
      unfold vecF
      rw [bnt h]
      rfl
    rw [hf]
    conv => lhs; whnf
  · have hA := bnf h
    have h' := hA
    unfold attrOk at h'
    have h2 := Bool.and_eq_true_iff.1 h'
    have hl := isCtx_len h2.1
    have hd := ofd h2.2
    have hlen : (colsF m b).length = m.toNat := colsL_length b _ _
    conv => lhs; whnf
    conv => lhs; arg 1; whnf
    refine bnd_g (by exact hp) ?_
    conv => lhs; whnf
    refine br_c (fun h3 => ?_) (fun h3 => ?_)
    · rw [hA, Bool.true_and, Bool.not_not] at h3
      have hf : vecF m b e = (0, 0, true) := by
        unfold vecF
        rw [hA, h3, Bool.or_true]
        rfl
      rw [hf]
      have h4 : (!(attrOk m b e && !reducF m b e)) = true := by rw [hA, h3]; rfl
      conv => lhs; whnf
      repeat ((first | with_reducible apply br_tt | with_reducible apply br_ff | with_reducible apply br_nf | with_reducible apply br_nt | with_reducible refine br_d ?_ (by kernel_rfl) | with_reducible apply br_t h4 | with_reducible apply br_f h4); conv => lhs; whnf)
    · have h4 := h3
      rw [hA, Bool.true_and, Bool.not_not] at h3
      conv => lhs; whnf
      repeat ((first | with_reducible apply br_tt | with_reducible apply br_ff | with_reducible apply br_nf | with_reducible apply br_nt | with_reducible refine br_d ?_ (by kernel_rfl) | with_reducible apply br_t h4 | with_reducible apply br_f h4); conv => lhs; whnf)
      conv => lhs; arg 1; whnf
      refine bnd_g (by exact h2.1) ?_
      conv => lhs; whnf
      repeat ((first | with_reducible apply br_tt | with_reducible apply br_ff | with_reducible apply br_nf | with_reducible apply br_nt | with_reducible refine br_d ?_ (by kernel_rfl) | with_reducible apply br_t h4 | with_reducible apply br_f h4); conv => lhs; whnf)
      conv => lhs; arg 1; whnf
      refine bnd_g (by (rw [hlen]; omega)) ?_
      conv => lhs; whnf
      repeat ((first | with_reducible apply br_tt | with_reducible apply br_ff | with_reducible apply br_nf | with_reducible apply br_nt | with_reducible refine br_d ?_ (by kernel_rfl) | with_reducible apply br_t h4 | with_reducible apply br_f h4); conv => lhs; whnf)
      conv => lhs; arg 1; whnf
      refine bnd_g (by exact True.intro) ?_
      conv => lhs; whnf
      repeat ((first | with_reducible apply br_tt | with_reducible apply br_ff | with_reducible apply br_nf | with_reducible apply br_nt | with_reducible refine br_d ?_ (by kernel_rfl) | with_reducible apply br_t h4 | with_reducible apply br_f h4); conv => lhs; whnf)
      refine br_c (fun h5 => ?_) (fun h5 => ?_)
      · rw [rep_dup hA] at h5
        have hf : vecF m b e = (0, 0, true) := by
          unfold vecF
          rw [hA, h5]
          rfl
        rw [hf]
        conv => lhs; whnf
      · rw [rep_dup hA] at h5
        have hf : vecF m b e = (2 * e + 1 - m, 1, true) := by
          unfold vecF
          rw [hA, h5, h3]
          rfl
        rw [hf]
        conv => lhs; whnf
        rw [wrap64 (n := 2 * e) (by omega) (by omega), wrap64 (n := 2 * e + 1) (by omega) (by omega), wrap64 (n := 2 * e + 1 - m) (by omega) (by omega)]
theorem ok_implAttributeVector : FnOk Tryz.prog 142 K_implAttributeVector := by
  refine fn_ok (fn := Tryz.f142) (k := Tryz.f142.ntmps) (E := E_implAttributeVector) (facts_of (List.forall_mem_cons.2 ⟨(FnOk.soft (fun h => False.elim h) ok_isAttribute), List.forall_mem_cons.2 ⟨ok_isIrreducible, List.forall_mem_cons.2 ⟨(FnOk.soft (fun h => False.elim h) ok_columns), List.forall_mem_cons.2 ⟨ok_repeated, List.forall_mem_cons.2 ⟨(FnOk.soft (fun h => False.elim h) ok_hasElement), List.forall_mem_nil _⟩⟩⟩⟩⟩)) (by kernel_rfl) rfl (by decide +kernel) (by decide +kernel) ?_
  intro avs hin r h
  unfold K_implAttributeVector at h
  split at h
  · obtain ⟨hp, rfl⟩ := gd_o h
    exact ⟨_, ev_implAttributeVector _ _ _ hp, rfl⟩
  · cases h

/- impl.SpotOf -/
def K_implSpotOf : List AV → List Ob → Option (AV × List Ob)
  | [.agg [.int .i64 m, .lst (.int .i64) b], .int .i64 a], [] => gd (b.length ≤ 1048576) (.tup [.agg [.int .i64 (spotF m b a).1, .int .i64 (spotF m b a).2], .bool (inC (concF m b) a)], [])
  | _, _ => none
@[reducible] def E_implSpotOf : Env := mkE (tb [(140, K_conceptOf), (141, K_elementsOf), (142, K_implAttributeVector)]) (fun f => false) (fun r => bif r == 6 then ([2, 4, 8, 25, 26, 27], [4, 8]) else ([], []))
theorem lp_implSpotOf (m : Int) (b : List Int) (hlen : b.length ≤ 1048576) (l : List Int) (hl : l.length ≤ 8) (k : AX → S → Option (AV × List Ob)) (d : Nat) : ∀ (n i : Nat) (z x y : Int), l.length - i = d → i ≤ l.length → z = i → d < n →
    lpAt E_implSpotOf (lp E_implSpotOf 0 n) 0 (loopAt Tryz.f76 0) (mkS [2, 4, 8, 25, 26, 27] [.ptr 0 0, .ptr 1 0, .ptr 2 0, .own 3, .int .i64 (l.length : Int), .int .i64 z] [some (.box 27 [.int .i64 m, .lst (.int .i64) b]), some (.box 70 [.int .i64 0, .int .i64 0]), some (.box 70 [.int .i64 x, .int .i64 y]), some (.row 3 (.int .i64) l)]) k =
      k (.exit 0) (mkS [4, 8] [.ptr 0 0, .ptr 1 0] [some (.box 70 [.int .i64 0, .int .i64 0]), some (.box 70 [.int .i64 (spL m b (l.drop i) x y).1, .int .i64 (spL m b (l.drop i) x y).2])]) := by
  induction d with
  | zero =>
    intro n i z x y hd hi hx hn
    subst hx
    rw [lpAt_def]
    conv => lhs; whnf
    refine br_f (df (by omega)) ?_
    conv => lhs; whnf
    rw [List.drop_of_length_le (by omega)]
    rfl
  | succ d ih =>
    intro n i z x y hd hi hx hn
    obtain ⟨n, rfl⟩ : ∃ m, n = m + 1 := ⟨n - 1, by omega⟩
    subst hx
    rw [lpAt_def]
    conv => lhs; whnf
    refine br_t (dt (by omega)) ?_
    conv => lhs; whnf
    refine br_t (dt2 (by omega) (by omega)) ?_
    conv => lhs; whnf
    refine br_t (dt (by omega)) ?_
    conv => lhs; whnf
    conv => lhs; arg 1; whnf
    refine bnd_g (by exact hlen) ?_
    conv => lhs; whnf
    refine Eq.trans (ih n (i + 1) _ _ _ (by omega) (by omega) (by rw [wrap64 (n := (i : Int) + 1) (by omega) (by omega)]; simp) (by omega)) ?_
    rw [getD_drop (l := l) (i := i) (d := 0) (by omega), spL]
    rfl
theorem ev_implSpotOf (m : Int) (b : List Int) (a : Int) (hp : b.length ≤ 1048576) : evF E_implSpotOf (20) Tryz.f76 [.agg [.int .i64 m, .lst (.int .i64) b], .int .i64 a] [] = some (.tup [.agg [.int .i64 (spotF m b a).1, .int .i64 (spotF m b a).2], .bool (inC (concF m b) a)], []) := by
  have hl := concF_len m b
  conv => lhs; whnf
  conv => lhs; arg 1; whnf
  refine bnd_g (by exact hp) ?_
  conv => lhs; whnf
  refine br_c (fun h => ?_) (fun h => ?_)
  · unfold spotF
    rw [bnt h]
    conv => lhs; whnf
    rfl
  · unfold spotF cofF
    rw [bnf h]
    have he : (elemsF (elC (concF m b) a).2).length ≤ 8 := elemsL_length _ _ _
    conv => lhs; whnf
    conv => lhs; arg 1; whnf
    refine bnd_g (by exact True.intro) ?_
    conv => lhs; whnf
    refine (lp_implSpotOf m b hp (elemsF (elC (concF m b) a).2) he _ (elemsF (elC (concF m b) a).2).length _ 0 0 0 0 rfl (by omega) rfl (by change _ < 19; omega)).trans ?_
    conv => lhs; whnf
    rfl
theorem ok_implSpotOf : FnOk Tryz.prog 76 K_implSpotOf := by
  refine fn_ok (fn := Tryz.f76) (k := Tryz.f76.ntmps) (E := E_implSpotOf) (facts_of (List.forall_mem_cons.2 ⟨ok_conceptOf, List.forall_mem_cons.2 ⟨(FnOk.soft (fun h => False.elim h) ok_elementsOf), List.forall_mem_cons.2 ⟨ok_implAttributeVector, List.forall_mem_nil _⟩⟩⟩)) (by kernel_rfl) rfl (by decide +kernel) (by decide +kernel) ?_
  intro avs hin r h
  unfold K_implSpotOf at h
  split at h
  · obtain ⟨hp, rfl⟩ := gd_o h
    exact ⟨_, ev_implSpotOf _ _ _ hp, rfl⟩
  · cases h

/- (impl.lattice).below -/
def K_latBelow : List AV → List Ob → Option (AV × List Ob)
  | [.lst (.pair (.int .i64) (.int .i64)) l, .int .i64 x, .int .i64 y], [] => gd ((0 ≤ x ∧ x < l.length) ∧ (0 ≤ y ∧ y < l.length)) (.bool (blwB l x.toNat y.toNat), [])
  | _, _ => none
@[reducible] def E_latBelow : Env := mkE (tb [(122, K_inSet)]) (fun f => false) (fun r => ([], []))
theorem ev_latBelow (l : List (Int × Int)) (x y : Int) (hp : (0 ≤ x ∧ x < l.length) ∧ (0 ≤ y ∧ y < l.length)) : evF E_latBelow (1) Tryz.f105 [.lst (.pair (.int .i64) (.int .i64)) l, .int .i64 x, .int .i64 y] [] = some (.bool (blwB l x.toNat y.toNat), []) := by
  conv => lhs; whnf
  refine br_t (by exact dt2 hp.1.1 hp.1.2) ?_
  conv => lhs; whnf
  refine br_t (by exact dt2 hp.2.1 hp.2.2) ?_
  conv => lhs; whnf
  conv => lhs; arg 1; whnf
  refine bnd_g (by exact True.intro) ?_
  conv => lhs; whnf
  repeat ((first | with_reducible apply br_tt | with_reducible apply br_ff | with_reducible apply br_nf | with_reducible apply br_nt | with_reducible refine br_d ?_ (by kernel_rfl)); conv => lhs; whnf)
  rfl
theorem ok_latBelow : FnOk Tryz.prog 105 K_latBelow := by
  refine fn_ok (fn := Tryz.f105) (k := Tryz.f105.ntmps) (E := E_latBelow) (facts_of (List.forall_mem_cons.2 ⟨ok_inSet, List.forall_mem_nil _⟩)) (by kernel_rfl) rfl (by decide +kernel) (by decide +kernel) ?_
  intro avs hin r h
  unfold K_latBelow at h
  split at h
  · obtain ⟨hp, rfl⟩ := gd_o h
    exact ⟨_, ev_latBelow _ _ _ hp, rfl⟩
  · cases h

/- (impl.lattice).under -/
def K_latUnder : List AV → List Ob → Option (AV × List Ob)
  | [.lst (.pair (.int .i64) (.int .i64)) l, .int .i64 x, .int .i64 y], [] => gd ((0 ≤ x ∧ x < l.length) ∧ (0 ≤ y ∧ y < l.length)) (.bool (udN l x.toNat y.toNat), [])
  | _, _ => none
@[reducible] def E_latUnder : Env := mkE (tb [(105, K_latBelow)]) (fun f => false) (fun r => ([], []))
theorem ev_latUnder (l : List (Int × Int)) (x y : Int) (hp : (0 ≤ x ∧ x < l.length) ∧ (0 ≤ y ∧ y < l.length)) : evF E_latUnder (1) Tryz.f234 [.lst (.pair (.int .i64) (.int .i64)) l, .int .i64 x, .int .i64 y] [] = some (.bool (udN l x.toNat y.toNat), []) := by
  obtain ⟨i, rfl⟩ : ∃ i : Nat, x = i := ⟨x.toNat, by omega⟩
  obtain ⟨j, rfl⟩ : ∃ j : Nat, y = j := ⟨y.toNat, by omega⟩
  unfold udN
  conv => lhs; whnf
  refine br_c (fun h => ?_) (fun h => ?_)
  · have h' : ((i : Int) != (j : Int)) = true := h
    conv => lhs; whnf
    repeat ((first | with_reducible apply br_tt | with_reducible apply br_ff | with_reducible apply br_nf | with_reducible apply br_nt | with_reducible refine br_d ?_ (by kernel_rfl) | with_reducible apply br_t h | with_reducible apply br_f h); conv => lhs; whnf)
    conv => lhs; arg 1; whnf
    refine bnd_g (by exact hp) ?_
    conv => lhs; whnf
    repeat ((first | with_reducible apply br_tt | with_reducible apply br_ff | with_reducible apply br_nf | with_reducible apply br_nt | with_reducible refine br_d ?_ (by kernel_rfl) | with_reducible apply br_t h | with_reducible apply br_f h); conv => lhs; whnf)
    rw [Int.toNat_natCast, Int.toNat_natCast, h']
    rfl
  · have h' : ((i : Int) != (j : Int)) = false := h
    conv => lhs; whnf
    repeat ((first | with_reducible apply br_tt | with_reducible apply br_ff | with_reducible apply br_nf | with_reducible apply br_nt | with_reducible refine br_d ?_ (by kernel_rfl) | with_reducible apply br_t h | with_reducible apply br_f h); conv => lhs; whnf)
    rw [Int.toNat_natCast, Int.toNat_natCast, h']
    rfl
theorem ok_latUnder : FnOk Tryz.prog 234 K_latUnder := by
  refine fn_ok (fn := Tryz.f234) (k := Tryz.f234.ntmps) (E := E_latUnder) (facts_of (List.forall_mem_cons.2 ⟨ok_latBelow, List.forall_mem_nil _⟩)) (by kernel_rfl) rfl (by decide +kernel) (by decide +kernel) ?_
  intro avs hin r h
  unfold K_latUnder at h
  split at h
  · obtain ⟨hp, rfl⟩ := gd_o h
    exact ⟨_, ev_latUnder _ _ _ hp, rfl⟩
  · cases h

/- (impl.lattice).covers -/
def K_latCovers : List AV → List Ob → Option (AV × List Ob)
  | [.lst (.pair (.int .i64) (.int .i64)) l, .int .i64 x, .int .i64 y], [] => gd (l.length ≤ 64 ∧ (0 ≤ x ∧ x < l.length) ∧ (0 ≤ y ∧ y < l.length)) (.bool (covI l x.toNat y.toNat), [])
  | _, _ => none
@[reducible] def E_latCovers : Env := mkE (tb [(234, K_latUnder)]) (fun f => false) (fun r => bif r == 4 then ([0, 1, 2, 14, 15], [6]) else ([], []))
theorem lp_latCovers (l : List (Int × Int)) (hl : l.length ≤ 64) (a b : Nat) (ha : a < l.length) (hb : b < l.length) (k : AX → S → Option (AV × List Ob)) (d : Nat) : ∀ (n i : Nat) (x : Int), l.length - i = d → i ≤ l.length → x = i → d < n →
    lpAt E_latCovers (lp E_latCovers 0 n) 0 (loopAt Tryz.f190 0) (mkS [0, 1, 2, 14, 15] [.lst (.pair (.int .i64) (.int .i64)) l, .int .i64 (a : Int), .int .i64 (b : Int), .int .i64 l.length, .int .i64 x] []) k =
      bif allN (fun x => !(udN l a x && udN l x b)) d i then k (.exit 0) (mkS [6] [.any] []) else k .ret (mkS [6] [.bool false] []) := by
  induction d with
  | zero =>
    intro n i x hd hi hx hn
    subst hx
    rw [lpAt_def]
    conv => lhs; whnf
    refine br_f (df (by omega)) ?_
    conv => lhs; whnf
    rfl
  | succ d ih =>
    intro n i x hd hi hx hn
    obtain ⟨n, rfl⟩ : ∃ m, n = m + 1 := ⟨n - 1, by omega⟩
    subst hx
    rw [lpAt_def]
    conv => lhs; whnf
    refine br_t (dt (by omega)) ?_
    conv => lhs; whnf
    conv => lhs; arg 1; whnf
    refine bnd_g (by exact ⟨⟨by omega, by omega⟩, by omega, by omega⟩) ?_
    conv => lhs; whnf
    rw [allN]
    refine br_c (fun h => ?_) (fun h => ?_)
    · have h' : udN l a i = true := h
      rw [h']
      conv => lhs; whnf
      repeat ((first | with_reducible apply br_tt | with_reducible apply br_ff | with_reducible apply br_nf | with_reducible apply br_nt | with_reducible refine br_d ?_ (by kernel_rfl) | with_reducible apply br_t h | with_reducible apply br_f h); conv => lhs; whnf)
      conv => lhs; arg 1; whnf
      refine bnd_g (by exact ⟨⟨by omega, by omega⟩, by omega, by omega⟩) ?_
      conv => lhs; whnf
      repeat ((first | with_reducible apply br_tt | with_reducible apply br_ff | with_reducible apply br_nf | with_reducible apply br_nt | with_reducible refine br_d ?_ (by kernel_rfl) | with_reducible apply br_t h | with_reducible apply br_f h); conv => lhs; whnf)
      refine br_c (fun h2 => ?_) (fun h2 => ?_)
      · have h2' : udN l i b = true := h2
        rw [h2']
        conv => lhs; whnf
        repeat ((first | with_reducible apply br_tt | with_reducible apply br_ff | with_reducible apply br_nf | with_reducible apply br_nt | with_reducible refine br_d ?_ (by kernel_rfl) | with_reducible apply br_t h | with_reducible apply br_f h | with_reducible apply br_t h2 | with_reducible apply br_f h2); conv => lhs; whnf)
        rfl
      · have h2' : udN l i b = false := h2
        rw [h2']
        conv => lhs; whnf
        repeat ((first | with_reducible apply br_tt | with_reducible apply br_ff | with_reducible apply br_nf | with_reducible apply br_nt | with_reducible refine br_d ?_ (by kernel_rfl) | with_reducible apply br_t h | with_reducible apply br_f h | with_reducible apply br_t h2 | with_reducible apply br_f h2); conv => lhs; whnf)
        exact ih n (i + 1) _ (by omega) (by omega) (by rw [wrap64 (n := (i : Int) + 1) (by omega) (by omega)]; simp) (by omega)
    · have h' : udN l a i = false := h
      rw [h']
      conv => lhs; whnf
      repeat ((first | with_reducible apply br_tt | with_reducible apply br_ff | with_reducible apply br_nf | with_reducible apply br_nt | with_reducible refine br_d ?_ (by kernel_rfl) | with_reducible apply br_t h | with_reducible apply br_f h); conv => lhs; whnf)
      exact ih n (i + 1) _ (by omega) (by omega) (by rw [wrap64 (n := (i : Int) + 1) (by omega) (by omega)]; simp) (by omega)
theorem ev_latCovers (l : List (Int × Int)) (x y : Int) (hp : l.length ≤ 64 ∧ (0 ≤ x ∧ x < l.length) ∧ (0 ≤ y ∧ y < l.length)) : evF E_latCovers (100) Tryz.f190 [.lst (.pair (.int .i64) (.int .i64)) l, .int .i64 x, .int .i64 y] [] = some (.bool (covI l x.toNat y.toNat), []) := by
  obtain ⟨hl, h1, h2⟩ := hp
  obtain ⟨i, rfl⟩ : ∃ i : Nat, x = i := ⟨x.toNat, by omega⟩
  obtain ⟨j, rfl⟩ : ∃ j : Nat, y = j := ⟨y.toNat, by omega⟩
  unfold covI
  rw [Int.toNat_natCast, Int.toNat_natCast]
  conv => lhs; whnf
  conv => lhs; arg 1; whnf
  refine bnd_g (by exact ⟨h1, h2⟩) ?_
  conv => lhs; whnf
  refine br_c (fun h => ?_) (fun h => ?_)
  · have h' : udN l i j = false := bnt h
    rw [h']
    conv => lhs; whnf
    rfl
  · have h' : udN l i j = true := bnf h
    rw [h']
    conv => lhs; whnf
    refine (lp_latCovers l hl i j (by omega) (by omega) _ l.length _ 0 0 rfl (Nat.zero_le _) rfl (by change _ < 99; omega)).trans ?_
    cases hq : allN (fun x => !(udN l i x && udN l x j)) l.length 0
    · rw [cond_false]
      conv => lhs; whnf
      rfl
    · rw [cond_true]
      conv => lhs; whnf
      rfl
theorem ok_latCovers : FnOk Tryz.prog 190 K_latCovers := by
  refine fn_ok (fn := Tryz.f190) (k := Tryz.f190.ntmps) (E := E_latCovers) (facts_of (List.forall_mem_cons.2 ⟨ok_latUnder, List.forall_mem_nil _⟩)) (by kernel_rfl) rfl (by decide +kernel) (by decide +kernel) ?_
  intro avs hin r h
  unfold K_latCovers at h
  split at h
  · obtain ⟨hp, rfl⟩ := gd_o h
    exact ⟨_, ev_latCovers _ _ _ hp, rfl⟩
  · cases h

/- (impl.lattice).upper$1 -/
def K_upper1 : List AV → List Ob → Option (AV × List Ob)
  | [.int .i64 x, .vptr [.lst (.pair (.int .i64) (.int .i64)) l] 0, .vptr [.int .i64 a] 0], [] => gd (l.length ≤ 64 ∧ (0 ≤ x ∧ x < l.length) ∧ (0 ≤ a ∧ a < l.length)) (.bool (covI l a.toNat x.toNat), [])
  | _, _ => none
@[reducible] def E_upper1 : Env := mkE (tb [(190, K_latCovers)]) (fun f => false) (fun r => ([], []))
theorem ev_upper1 (x a : Int) (l : List (Int × Int)) (hp : l.length ≤ 64 ∧ (0 ≤ x ∧ x < l.length) ∧ (0 ≤ a ∧ a < l.length)) : evF E_upper1 (1) Tryz.f189 [.int .i64 x, .vptr [.lst (.pair (.int .i64) (.int .i64)) l] 0, .vptr [.int .i64 a] 0] [] = some (.bool (covI l a.toNat x.toNat), []) := by
  conv => lhs; whnf
  conv => lhs; arg 1; whnf
  refine bnd_g (by exact ⟨hp.1, hp.2.2, hp.2.1⟩) ?_
  conv => lhs; whnf
theorem ok_upper1 : FnOk Tryz.prog 189 K_upper1 := by
  refine fn_ok (fn := Tryz.f189) (k := Tryz.f189.ntmps) (E := E_upper1) (facts_of (List.forall_mem_cons.2 ⟨ok_latCovers, List.forall_mem_nil _⟩)) (by kernel_rfl) rfl (by decide +kernel) (by decide +kernel) ?_
  intro avs hin r h
  unfold K_upper1 at h
  split at h
  · obtain ⟨hp, rfl⟩ := gd_o h
    exact ⟨_, ev_upper1 _ _ _ hp, rfl⟩
  · cases h

/- (impl.lattice).chosen -/
def K_chs_up : List AV → List Ob → Option (AV × List Ob)
  | [.lst (.pair (.int .i64) (.int .i64)) l, .clo 189 [.vptr [.lst (.pair (.int .i64) (.int .i64)) l'] 0, .vptr [.int .i64 a] 0]], [] => gd ((l' = l ∧ l.length ≤ 64) ∧ (0 ≤ a ∧ a < l.length)) (.own 0, [.row 3 (.int .i64) (upL l a.toNat)])
  | _, _ => none
@[reducible] def E_chs_up : Env := mkE (tb [(189, K_upper1)]) (fun f => false) (fun r => bif r == 3 then ([1, 5, 9, 10], [5]) else ([], []))
theorem lp_chs_up (l : List (Int × Int)) (hl : l.length ≤ 64) (a : Nat) (ha : a < l.length) (k : AX → S → Option (AV × List Ob)) (d : Nat) : ∀ (n i : Nat) (x : Int) (zs : List Int), l.length - i = d → i ≤ l.length → x = i → d < n → zs.length ≤ i →
    lpAt E_chs_up (lp E_chs_up 0 n) 0 (loopAt Tryz.f133 0) (mkS [1, 5, 9, 10] [.clo 189 [.vptr [.lst (.pair (.int .i64) (.int .i64)) l] 0, .vptr [.int .i64 (a : Int)] 0], .own 0, .int .i64 l.length, .int .i64 x] [some (.row 3 (.int .i64) zs)]) k =
      k (.exit 0) (mkS [5] [.own 0] [some (.row 3 (.int .i64) (zs ++ chsF (fun x => covI l a x) d i))]) := by
  induction d with
  | zero =>
    intro n i x zs hd hi hx hn hz
    subst hx
    rw [lpAt_def]
    conv => lhs; whnf
    refine br_f (df (by omega)) ?_
    conv => lhs; whnf
    rw [chsF, List.append_nil]
  | succ d ih =>
    intro n i x zs hd hi hx hn hz
    obtain ⟨n, rfl⟩ : ∃ m, n = m + 1 := ⟨n - 1, by omega⟩
    subst hx
    rw [lpAt_def]
    conv => lhs; whnf
    refine br_t (dt (by omega)) ?_
    conv => lhs; whnf
    conv => lhs; arg 1; whnf
    refine bnd_g (by exact ⟨hl, ⟨by omega, by omega⟩, by omega, by omega⟩) ?_
    conv => lhs; whnf
    refine br_c (fun h => ?_) (fun h => ?_)
    · have h' : covI l a i = true := h
      conv => lhs; whnf
      refine br_t (dt (by simp [room]; omega)) ?_
      conv => lhs; whnf
      refine Eq.trans (ih n (i + 1) _ _ (by omega) (by omega) (by rw [wrap64 (n := (i : Int) + 1) (by omega) (by omega)]; simp) (by omega) (by simp; omega)) ?_
      rw [chsF, h', cond_true]
      simp only [List.append_assoc]
      rfl
    · have h' : covI l a i = false := h
      conv => lhs; whnf
      refine Eq.trans (ih n (i + 1) _ _ (by omega) (by omega) (by rw [wrap64 (n := (i : Int) + 1) (by omega) (by omega)]; simp) (by omega) (by omega)) ?_
      rw [chsF, h', cond_false]
theorem ev_chs_up (l : List (Int × Int)) (a : Int) (l' : List (Int × Int)) (hp : (l' = l ∧ l.length ≤ 64) ∧ (0 ≤ a ∧ a < l.length)) : evF E_chs_up (100) Tryz.f133 [.lst (.pair (.int .i64) (.int .i64)) l, .clo 189 [.vptr [.lst (.pair (.int .i64) (.int .i64)) l'] 0, .vptr [.int .i64 a] 0]] [] = some (.own 0, [.row 3 (.int .i64) (upL l a.toNat)]) := by
  obtain ⟨⟨rfl, hl⟩, ha⟩ := hp
  obtain ⟨j, rfl⟩ : ∃ j : Nat, a = j := ⟨a.toNat, by omega⟩

  conv => lhs; whnf
  refine (lp_chs_up l' hl j (by omega) _ l'.length _ 0 0 [] rfl (Nat.zero_le _) rfl (by change _ < 99; omega) (Nat.le_refl _)).trans ?_
  conv => lhs; whnf
  rfl
theorem ok_chs_up : FnOk Tryz.prog 133 K_chs_up := by
  refine fn_ok (fn := Tryz.f133) (k := Tryz.f133.ntmps) (E := E_chs_up) (facts_of (List.forall_mem_cons.2 ⟨ok_upper1, List.forall_mem_nil _⟩)) (by kernel_rfl) rfl (by decide +kernel) (by decide +kernel) ?_
  intro avs hin r h
  unfold K_chs_up at h
  split at h
  · obtain ⟨hp, rfl⟩ := gd_o h
    exact ⟨_, ev_chs_up _ _ _ hp, rfl⟩
  · cases h

/- (impl.lattice).upper -/
def K_latUpper : List AV → List Ob → Option (AV × List Ob)
  | [.lst (.pair (.int .i64) (.int .i64)) l, .int .i64 a], [] => gd (l.length ≤ 64 ∧ (0 ≤ a ∧ a < l.length)) (.own 0, [.row 3 (.int .i64) (upL l a.toNat)])
  | _, _ => none
@[reducible] def E_latUpper : Env := mkE (tb [(133, K_chs_up)]) (fun f => false) (fun r => ([], []))
theorem ev_latUpper (l : List (Int × Int)) (a : Int) (hp : l.length ≤ 64 ∧ (0 ≤ a ∧ a < l.length)) : evF E_latUpper (1) Tryz.f144 [.lst (.pair (.int .i64) (.int .i64)) l, .int .i64 a] [] = some (.own 0, [.row 3 (.int .i64) (upL l a.toNat)]) := by
  conv => lhs; whnf
  conv => lhs; arg 1; whnf
  refine bnd_g (by exact ⟨⟨rfl, hp.1⟩, hp.2⟩) ?_
  conv => lhs; whnf
theorem ok_latUpper : FnOk Tryz.prog 144 K_latUpper := by
  refine fn_ok (fn := Tryz.f144) (k := Tryz.f144.ntmps) (E := E_latUpper) (facts_of (List.forall_mem_cons.2 ⟨ok_chs_up, List.forall_mem_nil _⟩)) (by kernel_rfl) rfl (by decide +kernel) (by decide +kernel) ?_
  intro avs hin r h
  unfold K_latUpper at h
  split at h
  · obtain ⟨hp, rfl⟩ := gd_o h
    exact ⟨_, ev_latUpper _ _ hp, rfl⟩
  · cases h

/- impl.UpperCovers -/
def K_implUpperCovers : List AV → List Ob → Option (AV × List Ob)
  | [.agg [.int .i64 m, .lst (.int .i64) b], .int .i64 a], [] => gd (b.length ≤ 1048576 ∧ (0 ≤ a ∧ a < (concF m b).length)) (.own 0, [.row 3 (.int .i64) (upL (concF m b) a.toNat)])
  | _, _ => none
@[reducible] def E_implUpperCovers : Env := mkE (tb [(65, K_implConcepts), (143, K_latHas), (144, K_latUpper)]) (fun f => false) (fun r => ([], []))
theorem ev_implUpperCovers (m : Int) (b : List Int) (a : Int) (hp : b.length ≤ 1048576 ∧ (0 ≤ a ∧ a < (concF m b).length)) : evF E_implUpperCovers (1) Tryz.f77 [.agg [.int .i64 m, .lst (.int .i64) b], .int .i64 a] [] = some (.own 0, [.row 3 (.int .i64) (upL (concF m b) a.toNat)]) := by
  have hl := concF_len m b
  have hin : inC (concF m b) a = true := inC_iff.2 hp.2
  conv => lhs; whnf
  conv => lhs; arg 1; whnf
  refine bnd_g (by exact hp.1) ?_
  conv => lhs; whnf
  conv => lhs; arg 1; whnf
  refine bnd_g (by exact hl) ?_
  conv => lhs; whnf
  refine br_f (by (rw [hin]; rfl)) ?_
  conv => lhs; whnf
  conv => lhs; arg 1; whnf
  refine bnd_g (by exact ⟨hl, hp.2⟩) ?_
  conv => lhs; whnf
theorem ok_implUpperCovers : FnOk Tryz.prog 77 K_implUpperCovers := by
  refine fn_ok (fn := Tryz.f77) (k := Tryz.f77.ntmps) (E := E_implUpperCovers) (facts_of (List.forall_mem_cons.2 ⟨(FnOk.soft (fun h => False.elim h) ok_implConcepts), List.forall_mem_cons.2 ⟨ok_latHas, List.forall_mem_cons.2 ⟨ok_latUpper, List.forall_mem_nil _⟩⟩⟩)) (by kernel_rfl) rfl (by decide +kernel) (by decide +kernel) ?_
  intro avs hin r h
  unfold K_implUpperCovers at h
  split at h
  · obtain ⟨hp, rfl⟩ := gd_o h
    exact ⟨_, ev_implUpperCovers _ _ _ hp, rfl⟩
  · cases h

def K_itoaX : List AV → List Ob → Option (AV × List Ob)
  | [.int .i64 n], [] => gd (-9223372036854775808 ≤ n ∧ n ≤ 9223372036854775807) (.str (itoaB n), [])
  | _, _ => none
theorem ok_itoaX : FnOk Tryz.prog 145 K_itoaX := by
  refine ⟨⟨Tryz.f145, by kernel_rfl, by kernel_rfl, by kernel_rfl⟩, fun avs hin r hout hk C L vs hH hm hA => ?_⟩
  unfold K_itoaX at hk
  split at hk
  · obtain ⟨h1, he⟩ := gd_o hk
    cases he
    exact itoa_calls Tryz.layItoa (by first | exact List.Mem.head _ | exact List.Mem.tail _ (List.Mem.head _)) (by kernel_rfl) h1.1 h1.2 hH hA
  · cases hk

/- impl.FormatInt -/
def K_implFormatInt : List AV → List Ob → Option (AV × List Ob)
  | [.int .i64 n], [] => gd (-9223372036854775808 ≤ n ∧ n ≤ 9223372036854775807) (.str (itoaB n), [])
  | _, _ => none
@[reducible] def E_implFormatInt : Env := mkE (tb [(145, K_itoaX)]) (fun f => false) (fun r => ([], []))
theorem ev_implFormatInt (n : Int) (hp : -9223372036854775808 ≤ n ∧ n ≤ 9223372036854775807) : evF E_implFormatInt (1) Tryz.f78 [.int .i64 n] [] = some (.str (itoaB n), []) := by
  conv => lhs; whnf
  conv => lhs; arg 1; whnf
  refine bnd_g (by exact hp) ?_
  conv => lhs; whnf
theorem ok_implFormatInt : FnOk Tryz.prog 78 K_implFormatInt := by
  refine fn_ok (fn := Tryz.f78) (k := Tryz.f78.ntmps) (E := E_implFormatInt) (facts_of (List.forall_mem_cons.2 ⟨ok_itoaX, List.forall_mem_nil _⟩)) (by kernel_rfl) rfl (by decide +kernel) (by decide +kernel) ?_
  intro avs hin r h
  unfold K_implFormatInt at h
  split at h
  · obtain ⟨hp, rfl⟩ := gd_o h
    exact ⟨_, ev_implFormatInt _ hp, rfl⟩
  · cases h

def K_joinS : List AV → List Ob → Option (AV × List Ob)
  | [.lst .str ys, .str sep], [] => gd (ys.length ≤ 140737488355328 ∧ (joinB ys sep).size ≤ 140737488355328) (.str (joinB ys sep), [])
  | _, _ => none
theorem ok_joinS : FnOk Tryz.prog 146 K_joinS := by
  refine ⟨⟨Tryz.f146, by kernel_rfl, by kernel_rfl, by kernel_rfl⟩, fun avs hin r hout hk C L vs hH hm hA => ?_⟩
  unfold K_joinS at hk
  split at hk
  · obtain ⟨⟨h1, h2⟩, he⟩ := gd_o hk
    cases he
    exact join_calls (fun h => h) Tryz.layJoin Tryz.extraJoin hH hA h1 h2
  · cases hk

/- impl.Join -/
def K_implJoin : List AV → List Ob → Option (AV × List Ob)
  | [.lst .str ys, .str sep], [] => gd (ys.length ≤ 1048576 ∧ okTxt ys = true ∧ sep.size ≤ 16) (.str (joinF ys sep), [])
  | _, _ => none
@[reducible] def E_implJoin : Env := mkE (tb [(146, K_joinS)]) (fun f => false) (fun r => bif r == 3 then ([0, 1, 5, 15, 16, 17], [0, 1, 5]) else ([], []))
theorem lp_implJoin (ys : List ByteArray) (sep : ByteArray) (hl : ys.length ≤ 1048576) (hy : ∀ y ∈ ys, y.size ≤ 1048576) (k : AX → S → Option (AV × List Ob)) (d : Nat) : ∀ (n i : Nat) (x q : Int), ys.length - i = d → i ≤ ys.length → x = i → d < n → 0 ≤ q → q ≤ 16777216 + i * 1048576 →
    lpAt E_implJoin (lp E_implJoin 0 n) 0 (loopAt Tryz.f79 0) (mkS [0, 1, 5, 15, 16, 17] [.lst .str ys, .str sep, .int .i64 q, .lst .str ys, .int .i64 ys.length, .int .i64 x] []) k =
      k (.exit 0) (mkS [0, 1, 5] [.lst .str ys, .str sep, .int .i64 (lenS (ys.drop i) q)] []) := by
  induction d with
  | zero =>
    intro n i x q hd hi hx hn hq hq'
    subst hx
    rw [lpAt_def]
    conv => lhs; whnf
    refine br_f (df (by omega)) ?_
    conv => lhs; whnf
    rw [List.drop_of_length_le (by omega), lenS]
  | succ d ih =>
    intro n i x q hd hi hx hn hq hq'
    obtain ⟨n, rfl⟩ : ∃ m, n = m + 1 := ⟨n - 1, by omega⟩
    subst hx
    have hyi := hy _ (mem_getD (l := ys) (i := i) (d := ByteArray.empty) (by omega))
    have hw : IntKind.i64.wrap (q + ((ys.getD i ByteArray.empty).size : Int)) = q + ((ys.getD i ByteArray.empty).size : Int) := wrap64 (by omega) (by omega)
    rw [lpAt_def]
    conv => lhs; whnf
    refine br_t (dt (by omega)) ?_
    conv => lhs; whnf
    refine br_t (dt2 (by omega) (by omega)) ?_
    conv => lhs; whnf
    refine Eq.trans (ih n (i + 1) _ _ (by omega) (by omega) (by rw [wrap64 (n := (i : Int) + 1) (by omega) (by omega)]; simp) (by omega) (by change 0 ≤ IntKind.i64.wrap (q + ((ys.getD i ByteArray.empty).size : Int)); rw [hw]; omega) (by change IntKind.i64.wrap (q + ((ys.getD i ByteArray.empty).size : Int)) ≤ _; rw [hw]; push_cast; omega)) ?_
    have e : lenS (ys.drop i) q = lenS (ys.drop (i + 1)) (IntKind.i64.wrap (q + ((ys.getD i ByteArray.empty).size : Int))) := by rw [hw, getD_drop (l := ys) (i := i) (d := ByteArray.empty) (by omega), lenS]
    rw [e]
    rfl
theorem ev_implJoin (ys : List ByteArray) (sep : ByteArray) (hp : ys.length ≤ 1048576 ∧ okTxt ys = true ∧ sep.size ≤ 16) : evF E_implJoin (ys.length + 2) Tryz.f79 [.lst .str ys, .str sep] [] = some (.str (joinF ys sep), []) := by
  obtain ⟨h1, h2, h3⟩ := hp
  have hy := okTxt_iff.1 h2
  have hs := join_size ys sep
  have hm : 0 ≤ max ((ys.length : Int) - 1) 0 * (sep.size : Int) ∧ max ((ys.length : Int) - 1) 0 * (sep.size : Int) ≤ 16777216 := by
    have e : max ((ys.length : Int) - 1) 0 ≤ 1048576 := by omega
    have e0 : 0 ≤ max ((ys.length : Int) - 1) 0 := by omega
    refine ⟨Int.mul_nonneg e0 (by omega), ?_⟩
    have := Int.mul_le_mul e (show (sep.size : Int) ≤ 16 by omega) (by omega) (by omega)
    omega
  have hle := lenS_le 1048576 ys (max ((ys.length : Int) - 1) 0 * (sep.size : Int)) hy
  have hw : IntKind.i64.wrap (max (IntKind.i64.wrap ((ys.length : Int) - 1)) 0 * (sep.size : Int)) = max ((ys.length : Int) - 1) 0 * (sep.size : Int) := by
    rw [wrap64 (n := (ys.length : Int) - 1) (by omega) (by omega)]
    exact wrap64 (by omega) (by omega)
  conv => lhs; whnf
  refine (lp_implJoin ys sep h1 hy _ ys.length _ 0 0 _ rfl (Nat.zero_le _) rfl (by omega) (by change 0 ≤ IntKind.i64.wrap (max (IntKind.i64.wrap ((ys.length : Int) - 1)) 0 * (sep.size : Int)); rw [hw]; exact hm.1) (by change IntKind.i64.wrap (max (IntKind.i64.wrap ((ys.length : Int) - 1)) 0 * (sep.size : Int)) ≤ _; rw [hw]; omega)).trans ?_
  have e1 : lenS (ys.drop 0) (IntKind.i64.wrap (max (IntKind.i64.wrap ((ys.length : Int) - 1)) 0 * (sep.size : Int))) = ((joinB ys sep).size : Int) := by rw [hw, List.drop_zero, hs]
  conv => lhs; whnf
  unfold joinF
  refine br_c (fun h => ?_) (fun h => ?_)
  · have h' := ofd h
    have h' : lenS (ys.drop 0) (IntKind.i64.wrap (max (IntKind.i64.wrap ((ys.length : Int) - 1)) 0 * (sep.size : Int))) > 1048576 := h'
    conv => lhs; whnf
    rw [if_neg (by omega)]
  · have h' := ofn h
    have h' : ¬ lenS (ys.drop 0) (IntKind.i64.wrap (max (IntKind.i64.wrap ((ys.length : Int) - 1)) 0 * (sep.size : Int))) > 1048576 := h'
    conv => lhs; whnf
    conv => lhs; arg 1; whnf
    refine bnd_g (by exact ⟨by omega, by omega⟩) ?_
    conv => lhs; whnf
    rw [if_pos (by omega)]
theorem ok_implJoin : FnOk Tryz.prog 79 K_implJoin := by
  refine fn_ok (fn := Tryz.f79) (k := Tryz.f79.ntmps) (E := E_implJoin) (facts_of (List.forall_mem_cons.2 ⟨ok_joinS, List.forall_mem_nil _⟩)) (by kernel_rfl) rfl (by decide +kernel) (by decide +kernel) ?_
  intro avs hin r h
  unfold K_implJoin at h
  split at h
  · obtain ⟨hp, rfl⟩ := gd_o h
    exact ⟨_, ev_implJoin _ _ hp, rfl⟩
  · cases h

/- impl.DiagramLines -/
def K_implDiagramLines : List AV → List Ob → Option (AV × List Ob)
  | [.agg [.int .i64 m, .lst (.int .i64) b]], [] => gd (b.length ≤ 1048576) (.own 0, [.row 9 .str (dgF m b)])
  | _, _ => none
@[reducible] def E_implDiagramLines : Env := mkE (tb [(65, K_implConcepts), (76, K_implSpotOf), (77, K_implUpperCovers), (78, K_implFormatInt), (79, K_implJoin)]) (fun f => false) (fun r => bif r == 3 then ([1, 3, 13, 14], [1, 3, 4, 5, 7, 13, 14]) else bif r == 8 then ([1, 3, 4, 5, 7, 13, 14, 26, 27, 28], [1, 3, 4, 5, 7, 13, 14]) else ([], []))
theorem lq_implDiagramLines (m : Int) (b : List Int) (i : Nat) (p : Int × Int) (zs : List ByteArray) (us : List Int) (hu : us.length ≤ 64) (hr : ∀ x ∈ us, 0 ≤ x ∧ x ≤ 1000000) (l : Nat) (k : AX → S → Option (AV × List Ob)) (d : Nat) : ∀ (n j : Nat) (x : Int) (ws : List ByteArray), us.length - j = d → j ≤ us.length → x = j → d < n → ws.length ≤ j →
    lpAt E_implDiagramLines (lp E_implDiagramLines 0 n) 0 (loopAt Tryz.f29 1) (mkS [1, 3, 4, 5, 7, 13, 14, 26, 27, 28] [.ptr 0 0, .own 1, .int .i64 (i : Int), .ptr 2 0, .own 3, .int .i64 (l : Int), .int .i64 (i : Int), .own 4, .int .i64 us.length, .int .i64 x] [some (.box 27 [.int .i64 m, .lst (.int .i64) b]), some (.row 9 .str zs), some (.box 70 [.int .i64 p.1, .int .i64 p.2]), some (.row 9 .str ws), some (.row 3 (.int .i64) us)]) k =
      k (.exit 2) (mkS [1, 3, 4, 5, 7, 13, 14] [.ptr 0 0, .own 1, .int .i64 (i : Int), .ptr 2 0, .own 3, .int .i64 (l : Int), .int .i64 (i : Int)] [some (.box 27 [.int .i64 m, .lst (.int .i64) b]), some (.row 9 .str zs), some (.box 70 [.int .i64 p.1, .int .i64 p.2]), some (.row 9 .str (ws ++ (us.drop j).map itoaB))]) := by
  induction d with
  | zero =>
    intro n j x ws hd hj hx hn hz
    subst hx
    rw [lpAt_def]
    conv => lhs; whnf
    refine br_f (df (by omega)) ?_
    conv => lhs; whnf
    rw [List.drop_of_length_le (by omega), List.map_nil, List.append_nil]
  | succ d ih =>
    intro n j x ws hd hj hx hn hz
    obtain ⟨n, rfl⟩ : ∃ m, n = m + 1 := ⟨n - 1, by omega⟩
    subst hx
    have h1 := hr _ (mem_getD (l := us) (i := j) (d := 0) (by omega))
    rw [lpAt_def]
    conv => lhs; whnf
    refine br_t (dt (by omega)) ?_
    conv => lhs; whnf
    refine br_t (dt2 (by omega) (by omega)) ?_
    conv => lhs; whnf
    refine br_t (dt (by omega)) ?_
    conv => lhs; whnf
    conv => lhs; arg 1; whnf
    refine bnd_g (by exact ⟨by change _ ≤ us.getD j 0; omega, by change us.getD j 0 ≤ _; omega⟩) ?_
    conv => lhs; whnf
    refine br_t (dt (by simp [room]; omega)) ?_
    conv => lhs; whnf
    refine (ih n (j + 1) _ _ (by omega) (by omega) (by rw [wrap64 (n := (j : Int) + 1) (by omega) (by omega)]; simp) (by omega) (by simp; omega)).trans ?_
    rw [map_dropN us j (by omega)]
    simp only [List.append_assoc]
    rfl
theorem lp_implDiagramLines (m : Int) (b : List Int) (hb : b.length ≤ 1048576) (k : AX → S → Option (AV × List Ob)) (d : Nat) : ∀ (n i : Nat) (x : Int) (zs : List ByteArray), (concF m b).length - i = d → i ≤ (concF m b).length → x = i → d + 80 < n → zs.length ≤ i →
    lpAt E_implDiagramLines (lp E_implDiagramLines 0 n) 0 (loopAt Tryz.f29 0) (mkS [1, 3, 13, 14] [.ptr 0 0, .own 1, .int .i64 (concF m b).length, .int .i64 x] [some (.box 27 [.int .i64 m, .lst (.int .i64) b]), some (.row 9 .str zs)]) k =
      k (.exit 0) (mkS [1, 3, 4, 5, 7, 13, 14] [.ptr 0 0, .own 1, .any, .any, .any, .int .i64 (concF m b).length, .int .i64 (concF m b).length] [some (.box 27 [.int .i64 m, .lst (.int .i64) b]), some (.row 9 .str (zs ++ dgL m b d i))]) := by
  have hl := concF_len m b
  induction d with
  | zero =>
    intro n i x zs hd hi hx hn hz
    have : i = (concF m b).length := by omega
    subst hx this
    rw [lpAt_def]
    conv => lhs; whnf
    refine br_f (df (by omega)) ?_
    conv => lhs; whnf
    rw [dgL, List.append_nil]
  | succ d ih =>
    intro n i x zs hd hi hx hn hz
    obtain ⟨n, rfl⟩ : ∃ m, n = m + 1 := ⟨n - 1, by omega⟩
    subst hx
    have hr := spot_rng m b (i : Int)
    have hu := upL_len (concF m b) i
    have hur := upL_rng hl i
    rw [lpAt_def]
    conv => lhs; whnf
    refine br_t (dt (by omega)) ?_
    conv => lhs; whnf
    conv => lhs; arg 1; whnf
    refine bnd_g (by exact hb) ?_
    conv => lhs; whnf
    conv => lhs; arg 1; whnf
    refine bnd_g (by exact ⟨hb, by omega, by omega⟩) ?_
    conv => lhs; whnf
    refine (lq_implDiagramLines m b i (spotF m b i) zs (upL (concF m b) i) (by omega) hur (concF m b).length _ (upL (concF m b) i).length _ 0 0 [] rfl (Nat.zero_le _) rfl (by omega) (Nat.le_refl _)).trans ?_
    rw [List.nil_append, List.drop_zero]
    have s1 := isz (i := i) (by omega)
    have s2 := itoa_len hr.1.1 hr.1.2
    have s3 := itoa_len hr.2.1 hr.2.2
    have s4 : (⟨#[32]⟩ : ByteArray).size = 1 := rfl
    have s5 : (⟨#[44]⟩ : ByteArray).size = 1 := rfl
    have s6 := fun ys => join_le ys ⟨#[44]⟩
    conv => lhs; whnf
    refine br_c (fun h => ?_) (fun h => ?_)
    · have h' : ((((upL (concF m b) i).map itoaB).length : Int) == 0) = true := h
      have hw : wordsL (upL (concF m b) i) = [⟨#[45]⟩] := by
        rw [List.length_map] at h'
        have : upL (concF m b) i = [] := len0 h'
        rw [this]; rfl
      have s7 := s6 [⟨#[45]⟩]
      conv => lhs; whnf
      conv => lhs; arg 1; whnf
      refine bnd_g (by omega) ?_
      conv => lhs; whnf
      refine br_t (by (refine dt ?_; change (itoaB (i : Int)).size + ((⟨#[32]⟩ : ByteArray)).size ≤ 9223372036854775807; (try simp only [ByteArray.size_append]); omega)) ?_
      conv => lhs; whnf
      conv => lhs; arg 1; whnf
      refine bnd_g (by exact hr.1) ?_
      conv => lhs; whnf
      refine br_t (by (refine dt ?_; change ((itoaB (i : Int) ++ (⟨#[32]⟩ : ByteArray))).size + (itoaB (spotF m b (i : Int)).1).size ≤ 9223372036854775807; (try simp only [ByteArray.size_append]); omega)) ?_
      conv => lhs; whnf
      refine br_t (by (refine dt ?_; change (((itoaB (i : Int) ++ (⟨#[32]⟩ : ByteArray)) ++ itoaB (spotF m b (i : Int)).1)).size + ((⟨#[44]⟩ : ByteArray)).size ≤ 9223372036854775807; (try simp only [ByteArray.size_append]); omega)) ?_
      conv => lhs; whnf
      conv => lhs; arg 1; whnf
      refine bnd_g (by exact hr.2) ?_
      conv => lhs; whnf
      refine br_t (by (refine dt ?_; change ((((itoaB (i : Int) ++ (⟨#[32]⟩ : ByteArray)) ++ itoaB (spotF m b (i : Int)).1) ++ (⟨#[44]⟩ : ByteArray))).size + (itoaB (spotF m b (i : Int)).2).size ≤ 9223372036854775807; (try simp only [ByteArray.size_append]); omega)) ?_
      conv => lhs; whnf
      refine br_t (by (refine dt ?_; change (((((itoaB (i : Int) ++ (⟨#[32]⟩ : ByteArray)) ++ itoaB (spotF m b (i : Int)).1) ++ (⟨#[44]⟩ : ByteArray)) ++ itoaB (spotF m b (i : Int)).2)).size + ((⟨#[32]⟩ : ByteArray)).size ≤ 9223372036854775807; (try simp only [ByteArray.size_append]); omega)) ?_
      conv => lhs; whnf
      conv => lhs; arg 1; whnf
      refine bnd_g (by exact ⟨by decide, by decide, by decide⟩) ?_
      conv => lhs; whnf
      refine br_t (by (refine dt ?_; change ((((((itoaB (i : Int) ++ (⟨#[32]⟩ : ByteArray)) ++ itoaB (spotF m b (i : Int)).1) ++ (⟨#[44]⟩ : ByteArray)) ++ itoaB (spotF m b (i : Int)).2) ++ (⟨#[32]⟩ : ByteArray))).size + (joinF ([(⟨#[45]⟩ : ByteArray)]) ⟨#[44]⟩).size ≤ 9223372036854775807; (try simp only [ByteArray.size_append]); omega)) ?_
      conv => lhs; whnf
      refine br_t (dt (by simp [room]; omega)) ?_
      conv => lhs; whnf
      repeat ((first | with_reducible apply br_tt | with_reducible apply br_ff | with_reducible apply br_nf | with_reducible apply br_nt | with_reducible refine br_d ?_ (by kernel_rfl)); conv => lhs; whnf)
      have e : dgT m b i = ((((((itoaB (i : Int)) ++ ⟨#[32]⟩) ++ itoaB (spotF m b i).1) ++ ⟨#[44]⟩) ++ itoaB (spotF m b i).2) ++ ⟨#[32]⟩) ++ joinF (wordsL (upL (concF m b) i)) ⟨#[44]⟩ := rfl
      rw [hw] at e
      refine (ih n (i + 1) _ _ (by omega) (by omega) (by rw [wrap64 (n := (i : Int) + 1) (by omega) (by omega)]; simp) (by omega) (by simp; omega)).trans ?_
      rw [dgL, e]
      simp only [List.append_assoc]
      rfl
    · have h' : ((((upL (concF m b) i).map itoaB).length : Int) == 0) = false := h
      have hw : wordsL (upL (concF m b) i) = (upL (concF m b) i).map itoaB := by
        unfold wordsL
        cases hq : upL (concF m b) i with
        | nil => rw [hq] at h'; cases h'
        | cons x r => rfl
      have s7 := s6 ((upL (concF m b) i).map itoaB)
      have hok := words_ok hur
      rw [hw] at hok
      conv => lhs; whnf
      conv => lhs; arg 1; whnf
      refine bnd_g (by omega) ?_
      conv => lhs; whnf
      refine br_t (by (refine dt ?_; change (itoaB (i : Int)).size + ((⟨#[32]⟩ : ByteArray)).size ≤ 9223372036854775807; (try simp only [ByteArray.size_append]); omega)) ?_
      conv => lhs; whnf
      conv => lhs; arg 1; whnf
      refine bnd_g (by exact hr.1) ?_
      conv => lhs; whnf
      refine br_t (by (refine dt ?_; change ((itoaB (i : Int) ++ (⟨#[32]⟩ : ByteArray))).size + (itoaB (spotF m b (i : Int)).1).size ≤ 9223372036854775807; (try simp only [ByteArray.size_append]); omega)) ?_
      conv => lhs; whnf
      refine br_t (by (refine dt ?_; change (((itoaB (i : Int) ++ (⟨#[32]⟩ : ByteArray)) ++ itoaB (spotF m b (i : Int)).1)).size + ((⟨#[44]⟩ : ByteArray)).size ≤ 9223372036854775807; (try simp only [ByteArray.size_append]); omega)) ?_
      conv => lhs; whnf
      conv => lhs; arg 1; whnf
      refine bnd_g (by exact hr.2) ?_
      conv => lhs; whnf
      refine br_t (by (refine dt ?_; change ((((itoaB (i : Int) ++ (⟨#[32]⟩ : ByteArray)) ++ itoaB (spotF m b (i : Int)).1) ++ (⟨#[44]⟩ : ByteArray))).size + (itoaB (spotF m b (i : Int)).2).size ≤ 9223372036854775807; (try simp only [ByteArray.size_append]); omega)) ?_
      conv => lhs; whnf
      refine br_t (by (refine dt ?_; change (((((itoaB (i : Int) ++ (⟨#[32]⟩ : ByteArray)) ++ itoaB (spotF m b (i : Int)).1) ++ (⟨#[44]⟩ : ByteArray)) ++ itoaB (spotF m b (i : Int)).2)).size + ((⟨#[32]⟩ : ByteArray)).size ≤ 9223372036854775807; (try simp only [ByteArray.size_append]); omega)) ?_
      conv => lhs; whnf
      conv => lhs; arg 1; whnf
      refine bnd_g (by exact ⟨by rw [List.length_map]; omega, by exact hok, by decide⟩) ?_
      conv => lhs; whnf
      refine br_t (by (refine dt ?_; change ((((((itoaB (i : Int) ++ (⟨#[32]⟩ : ByteArray)) ++ itoaB (spotF m b (i : Int)).1) ++ (⟨#[44]⟩ : ByteArray)) ++ itoaB (spotF m b (i : Int)).2) ++ (⟨#[32]⟩ : ByteArray))).size + (joinF ((upL (concF m b) i).map itoaB) ⟨#[44]⟩).size ≤ 9223372036854775807; (try simp only [ByteArray.size_append]); omega)) ?_
      conv => lhs; whnf
      refine br_t (dt (by simp [room]; omega)) ?_
      conv => lhs; whnf
      repeat ((first | with_reducible apply br_tt | with_reducible apply br_ff | with_reducible apply br_nf | with_reducible apply br_nt | with_reducible refine br_d ?_ (by kernel_rfl)); conv => lhs; whnf)
      have e : dgT m b i = ((((((itoaB (i : Int)) ++ ⟨#[32]⟩) ++ itoaB (spotF m b i).1) ++ ⟨#[44]⟩) ++ itoaB (spotF m b i).2) ++ ⟨#[32]⟩) ++ joinF (wordsL (upL (concF m b) i)) ⟨#[44]⟩ := rfl
      rw [hw] at e
      refine (ih n (i + 1) _ _ (by omega) (by omega) (by rw [wrap64 (n := (i : Int) + 1) (by omega) (by omega)]; simp) (by omega) (by simp; omega)).trans ?_
      rw [dgL, e]
      simp only [List.append_assoc]
      rfl
theorem ev_implDiagramLines (m : Int) (b : List Int) (hp : b.length ≤ 1048576) : evF E_implDiagramLines (200) Tryz.f29 [.agg [.int .i64 m, .lst (.int .i64) b]] [] = some (.own 0, [.row 9 .str (dgF m b)]) := by
  have hl := concF_len m b
  conv => lhs; whnf
  conv => lhs; arg 1; whnf
  refine bnd_g (by exact hp) ?_
  conv => lhs; whnf
  refine (lp_implDiagramLines m b hp _ (concF m b).length _ 0 0 [] rfl (Nat.zero_le _) rfl (by change _ < 199; omega) (Nat.le_refl _)).trans ?_
  conv => lhs; whnf
  rfl
theorem ok_implDiagramLines : FnOk Tryz.prog 29 K_implDiagramLines := by
  refine fn_ok (fn := Tryz.f29) (k := Tryz.f29.ntmps) (E := E_implDiagramLines) (facts_of (List.forall_mem_cons.2 ⟨(FnOk.soft (fun h => False.elim h) ok_implConcepts), List.forall_mem_cons.2 ⟨ok_implSpotOf, List.forall_mem_cons.2 ⟨ok_implUpperCovers, List.forall_mem_cons.2 ⟨ok_implFormatInt, List.forall_mem_cons.2 ⟨ok_implJoin, List.forall_mem_nil _⟩⟩⟩⟩⟩)) (by kernel_rfl) rfl (by decide +kernel) (by decide +kernel) ?_
  intro avs hin r h
  unfold K_implDiagramLines at h
  split at h
  · obtain ⟨hp, rfl⟩ := gd_o h
    exact ⟨_, ev_implDiagramLines _ _ hp, rfl⟩
  · cases h

/- laws.eqStringS -/
def K_eqStringS : List AV → List Ob → Option (AV × List Ob)
  | [.lst .str a, .lst .str b], [] => gd (a.length < 4611686018427387904 ∧ b = a) (.bool true, [])
  | _, _ => none
@[reducible] def E_eqStringS : Env := mkE (tb []) (fun f => false) (fun r => bif r == 4 then ([0, 1, 5], [4]) else ([], []))
theorem lp_eqStringS (a : List ByteArray) (ha : a.length < 4611686018427387904) (k : AX → S → Option (AV × List Ob)) (d : Nat) : ∀ (n i : Nat) (x : Int), a.length - i = d → i ≤ a.length → x = i → d < n →
    lpAt E_eqStringS (lp E_eqStringS 0 n) 0 (loopAt Tryz.f30 0) (mkS [0, 1, 5] [.lst .str a, .lst .str a, .int .i64 x] []) k = k (.exit 0) (mkS [4] [.any] []) := by
  induction d with
  | zero =>
    intro n i x hd hi hx hn
    subst hx
    rw [lpAt_def]
    conv => lhs; whnf
    refine br_f (df (by omega)) ?_
    conv => lhs; whnf
  | succ d ih =>
    intro n i x hd hi hx hn
    obtain ⟨n, rfl⟩ : ∃ m, n = m + 1 := ⟨n - 1, by omega⟩
    subst hx
    rw [lpAt_def]
    conv => lhs; whnf
    refine br_t (dt (by omega)) ?_
    conv => lhs; whnf
    refine br_t (dt2 (by omega) (by omega)) ?_
    conv => lhs; whnf
    refine br_t (dt2 (by omega) (by omega)) ?_
    conv => lhs; whnf
    refine br_t (by kernel_rfl) ?_
    conv => lhs; whnf
    refine br_f (by exact tne rfl) ?_
    conv => lhs; whnf
    rw [ih n (i + 1) _ (by omega) (by omega) (by rw [wrap64 (by omega) (by omega)]; simp) (by omega)]
theorem ev_eqStringS (a b : List ByteArray) (hp : a.length < 4611686018427387904 ∧ b = a) : evF E_eqStringS (a.length + 2) Tryz.f30 [.lst .str a, .lst .str b] [] = some (.bool true, []) := by
  obtain ⟨h1, rfl⟩ := hp
  conv => lhs; whnf
  refine br_f (by simp) ?_
  conv => lhs; whnf
  refine (lp_eqStringS b h1 _ _ _ 0 0 rfl (by omega) rfl (by omega)).trans ?_
  conv => lhs; whnf
theorem ok_eqStringS : FnOk Tryz.prog 30 K_eqStringS := by
  refine fn_ok (fn := Tryz.f30) (k := Tryz.f30.ntmps) (E := E_eqStringS) (facts_of (List.forall_mem_nil _)) (by kernel_rfl) rfl (by decide +kernel) (by decide +kernel) ?_
  intro avs hin r h
  unfold K_eqStringS at h
  split at h
  · obtain ⟨hp, rfl⟩ := gd_o h
    exact ⟨_, ev_eqStringS _ _ hp, rfl⟩
  · cases h

/- laws.markText -/
def K_markText : List AV → List Ob → Option (AV × List Ob)
  | [.int .i64 n], [] => gd (1 ≤ n ∧ n ≤ 9223372036854775807) (.str (mTx n), [])
  | _, _ => none
@[reducible] def E_markText : Env := mkE (tb []) (fun f => false) (fun r => bif r == 4 then ([0, 3], [3]) else ([], []))
theorem lp_markText (k : AX → S → Option (AV × List Ob)) (d : Nat) : ∀ (n : Nat) (x : Int) (out : ByteArray), x.natAbs < 10 ^ d → d < n → out.size + d ≤ 100 → 0 ≤ x → x ≤ 9223372036854775807 →
    lpAt E_markText (lp E_markText 0 n) 0 (loopAt Tryz.f80 0) (mkS [0, 3] [.int .i64 x, .str out] []) k =
      k (.exit 0) (mkS [3] [.str (bstr (digs x.natAbs) ++ out)] []) := by
  induction d with
  | zero =>
    intro n x out hx hn hz h0 h1
    have : x = 0 := by
      have : x.natAbs < 1 := hx
      omega
    subst this
    obtain ⟨n, rfl⟩ : ∃ m, n = m + 1 := ⟨n - 1, by omega⟩
    rw [lpAt_def]
    conv => lhs; whnf
    refine br_f (by rfl) ?_
    conv => lhs; whnf
    rw [show (0 : Int).natAbs = 0 from rfl, digs_zero, bstr_nil]
  | succ d ih =>
    intro n x out hx hn hz h0 h1
    obtain ⟨n, rfl⟩ : ∃ m, n = m + 1 := ⟨n - 1, by omega⟩
    have hq := tdiv_abs x
    have hqd : (x.tdiv 10).natAbs < 10 ^ d := by
      rw [hq]
      rw [Nat.pow_succ] at hx
      omega
    have hq0 : 0 ≤ x.tdiv 10 := Int.tdiv_nonneg h0 (by decide)
    have hwq : IntKind.i64.wrap (x.tdiv 10) = x.tdiv 10 := wrap64 (by omega) (by omega)
    rw [lpAt_def]
    conv => lhs; whnf
    refine br_c (fun h => ?_) (fun h => ?_)
    · have h' : decide (x > 0) = true := h
      have hne : x.natAbs ≠ 0 := by have := ofd h'; omega
      have hsz : ∀ v : ByteArray, v = bstr [UInt8.ofNat (48 + x.natAbs % 10)] → (v ++ out).size = 1 + out.size := fun v hv => by rw [hv, ByteArray.size_append]; rfl
      have h2' : 0 ≤ x.tmod 10 := Int.tmod_nonneg _ h0
      have e := digit_pos h2'
      conv => lhs; whnf
      refine br_f (df (by omega)) ?_
      conv => lhs; whnf
      refine br_t (by (refine dt ?_; change (intsStr [IntKind.u8.wrap (IntKind.i64.wrap (48 + x.tmod 10))]).size + out.size ≤ 9223372036854775807; rw [e]; show 1 + out.size ≤ _; omega)) ?_
      conv => lhs; whnf
      refine br_f (df (by omega)) ?_
      conv => lhs; whnf
      refine Eq.trans (ih n _ _ (by rw [hwq]; exact hqd) (by omega) (by rw [hsz _ e]; omega) (by rw [hwq]; omega) (by rw [hwq]; omega)) ?_
      rw [hwq, hq]
      have e3 : bstr (digs (x.natAbs / 10)) ++ (intsStr [IntKind.u8.wrap (IntKind.i64.wrap (48 + x.tmod 10))] ++ out) = bstr (digs x.natAbs) ++ out := by rw [e, ← ByteArray.append_assoc, bstr_app, ← digs_step hne]
      rw [← e3]
    · have : x = 0 := by have := ofn h; omega
      subst this
      conv => lhs; whnf
      rw [show (0 : Int).natAbs = 0 from rfl, digs_zero, bstr_nil]
theorem ev_markText (n : Int) (hp : 1 ≤ n ∧ n ≤ 9223372036854775807) : evF E_markText (40) Tryz.f80 [.int .i64 n] [] = some (.str (mTx n), []) := by
  have hd := digs_len 19 n.natAbs (by omega)
  conv => lhs; whnf
  refine br_f (df (by omega)) ?_
  conv => lhs; whnf
  refine (lp_markText _ 19 _ n ⟨#[]⟩ (by omega) (by change 19 < 39; omega) (by decide) (by omega) hp.2).trans ?_
  have e : bstr (digs n.natAbs) ++ (⟨#[]⟩ : ByteArray) = bstr (digs n.natAbs) := by
    have := bstr_app (digs n.natAbs) []
    rw [List.append_nil] at this
    exact this
  rw [e]
  conv => lhs; whnf
  refine br_t (by (refine dt ?_; change (1 : Nat) + (bstr (digs n.natAbs)).size ≤ 9223372036854775807; rw [bstr_size]; omega)) ?_
  conv => lhs; whnf
  rfl
theorem ok_markText : FnOk Tryz.prog 80 K_markText := by
  refine fn_ok (fn := Tryz.f80) (k := Tryz.f80.ntmps) (E := E_markText) (facts_of (List.forall_mem_nil _)) (by kernel_rfl) rfl (by decide +kernel) (by decide +kernel) ?_
  intro avs hin r h
  unfold K_markText at h
  split at h
  · obtain ⟨hp, rfl⟩ := gd_o h
    exact ⟨_, ev_markText _ hp, rfl⟩
  · cases h

/- laws.heldStringS -/
def K_heldStringS : List AV → List Ob → Option (AV × List Ob)
  | [.lst .str a, .int .i64 q], [] => gd (a.length ≤ 16777216 ∧ (1 ≤ q ∧ q ≤ 1152921504606846976) ∧ a = iotaT q a.length) (.int .i64 (q + a.length), [])
  | _, _ => none
@[reducible] def E_heldStringS : Env := mkE (tb [(80, K_markText)]) (fun f => false) (fun r => bif r == 2 then ([0, 1, 5], [1, 4]) else ([], []))
theorem lp_heldStringS (a : List ByteArray) (ha : a.length ≤ 16777216) (k : AX → S → Option (AV × List Ob)) (d : Nat) : ∀ (n i : Nat) (x q : Int), a.length - i = d → i ≤ a.length → 1 ≤ q → q ≤ 1152921504606846976 + i → x = i → d < n → a.drop i = iotaT q d →
    lpAt E_heldStringS (lp E_heldStringS 0 n) 0 (loopAt Tryz.f32 0) (mkS [0, 1, 5] [.lst .str a, .int .i64 q, .int .i64 x] []) k =
      k (.exit 0) (mkS [1, 4] [.int .i64 (q + d), .any] []) := by
  induction d with
  | zero =>
    intro n i x q hd hi hq hq' hx hn he
    subst hx
    rw [lpAt_def]
    conv => lhs; whnf
    refine br_f (df (by omega)) ?_
    conv => lhs; whnf
    simp
  | succ d ih =>
    intro n i x q hd hi hq hq' hx hn he
    obtain ⟨n, rfl⟩ : ∃ m, n = m + 1 := ⟨n - 1, by omega⟩
    subst hx
    rw [getD_drop (l := a) (i := i) (d := ByteArray.empty) (by omega), iotaT] at he
    obtain ⟨he1, he2⟩ := List.cons.inj he
    rw [lpAt_def]
    conv => lhs; whnf
    refine br_t (dt (by omega)) ?_
    conv => lhs; whnf
    refine br_t (dt2 (by omega) (by omega)) ?_
    conv => lhs; whnf
    conv => lhs; arg 1; whnf
    refine bnd_g (by omega) ?_
    conv => lhs; whnf
    refine br_t (by kernel_rfl) ?_
    conv => lhs; whnf
    refine br_f (by exact tne he1) ?_
    conv => lhs; whnf
    rw [wrap64 (n := q + 1) (by omega) (by omega)]
    rw [ih n (i + 1) _ (q + 1) (by omega) (by omega) (by omega) (by omega) (by rw [wrap64 (by omega) (by omega)]; simp) (by omega) he2]
    have e1 : q + 1 + (d : Int) = q + ((d + 1 : Nat) : Int) := by push_cast; omega
    rw [e1]
theorem ev_heldStringS (a : List ByteArray) (q : Int) (hp : a.length ≤ 16777216 ∧ (1 ≤ q ∧ q ≤ 1152921504606846976) ∧ a = iotaT q a.length) : evF E_heldStringS (a.length + 2) Tryz.f32 [.lst .str a, .int .i64 q] [] = some (.int .i64 (q + a.length), []) := by
  conv => lhs; whnf
  refine (lp_heldStringS a hp.1 _ a.length _ 0 0 q rfl (by omega) hp.2.1.1 (by omega) rfl (by omega) hp.2.2).trans ?_
  conv => lhs; whnf
theorem ok_heldStringS : FnOk Tryz.prog 32 K_heldStringS := by
  refine fn_ok (fn := Tryz.f32) (k := Tryz.f32.ntmps) (E := E_heldStringS) (facts_of (List.forall_mem_cons.2 ⟨ok_markText, List.forall_mem_nil _⟩)) (by kernel_rfl) rfl (by decide +kernel) (by decide +kernel) ?_
  intro avs hin r h
  unfold K_heldStringS at h
  split at h
  · obtain ⟨hp, rfl⟩ := gd_o h
    exact ⟨_, ev_heldStringS _ _ hp, rfl⟩
  · cases h

def iotaI : Int → Nat → List Int
  | _, 0 => []
  | k, n + 1 => k :: iotaI (k + 1) n
@[simp] theorem iotaI_length : ∀ (n : Nat) (k : Int), (iotaI k n).length = n
  | 0, _ => rfl
  | n + 1, k => by simp [iotaI, iotaI_length n]
def held (a : List Int) (k : Int) : Int := if a = iotaI k a.length then k + a.length else -1
theorem held_iota (k : Int) (n : Nat) : held (iotaI k n) k = k + n := by simp [held]
theorem take_set_succ {α : Type} {ys : List α} {i : Nat} {v : α} (h : i < ys.length) : (ys.set i v).take (i + 1) = ys.take i ++ [v] := by
  rw [List.take_succ_eq_append_getElem (by simpa using h), List.take_set_of_le (by omega)]
  simp
theorem getD_set_self {α : Type} {ys : List α} {i : Nat} {v d : α} (h : i < ys.length) : (ys.set i v).getD i d = v := by
  simp [List.getD, h]
/- laws.markIntS -/
def K_markIntS : List AV → List Ob → Option (AV × List Ob)
  | [.own 0, .int .i64 q], [.row 3 (.int .i64) a] => gd (a.length ≤ 16777216 ∧ 0 ≤ q ∧ q ≤ 1152921504606846976) (.int .i64 (q + a.length), [.row 3 (.int .i64) (iotaI q a.length)])
  | _, _ => none
@[reducible] def E_markIntS : Env := mkE (tb []) (fun f => false) (fun r => bif r == 2 then ([0, 1, 5], [1]) else ([], []))
theorem lp_markIntS (k : AX → S → Option (AV × List Ob)) (d : Nat) : ∀ (n i : Nat) (x q : Int) (ys : List Int), ys.length - i = d → i ≤ ys.length → ys.length ≤ 16777216 → 0 ≤ q → q ≤ 1152921504606846976 + i → x = i → d < n →
    lpAt E_markIntS (lp E_markIntS 1 n) 1 (loopAt Tryz.f26 0) (mkS [0, 1, 5] [.own 0, .int .i64 q, .int .i64 x] [some (.row 3 (.int .i64) ys)]) k =
      k (.exit 0) (mkS [1] [.int .i64 (q + d)] [some (.row 3 (.int .i64) (ys.take i ++ iotaI q d))]) := by
  induction d with
  | zero =>
    intro n i x q ys hd hi hl hq hq' hx hn
    subst hx
    rw [lpAt_def]
    conv => lhs; whnf
    refine br_f (df (by omega)) ?_
    conv => lhs; whnf
    simp only [iotaI, List.append_nil, List.take_of_length_le (show ys.length ≤ i by omega)]
    simp
  | succ d ih =>
    intro n i x q ys hd hi hl hq hq' hx hn
    obtain ⟨n, rfl⟩ : ∃ m, n = m + 1 := ⟨n - 1, by omega⟩
    subst hx
    rw [lpAt_def]
    conv => lhs; whnf
    refine br_t (dt (by omega)) ?_
    conv => lhs; whnf
    refine br_t (dt2 (by omega) (by omega)) ?_
    conv => lhs; whnf
    refine br_t (dt (by omega)) ?_
    conv => lhs; whnf
    rw [wrap64 (n := q + 1) (by omega) (by omega)]
    rw [ih n (i + 1) _ (q + 1) _ (by simp; omega) (by simp; omega) (by simp; omega) (by omega) (by omega) (by rw [wrap64 (by omega) (by omega)]; simp) (by omega)]
    simp only [Int.toNat_natCast]
    rw [take_set_succ (by omega)]
    have e1 : q + 1 + (d : Int) = q + ((d + 1 : Nat) : Int) := by push_cast; omega
    rw [e1]
    simp [iotaI]
theorem ev_markIntS (a : List Int) (q : Int) (hp : a.length ≤ 16777216 ∧ 0 ≤ q ∧ q ≤ 1152921504606846976) : evF E_markIntS (a.length + 2) Tryz.f26 [.own 0, .int .i64 q] [.row 3 (.int .i64) a] = some (.int .i64 (q + a.length), [.row 3 (.int .i64) (iotaI q a.length)]) := by
  conv => lhs; whnf
  refine (lp_markIntS _ a.length _ 0 0 q a rfl (by omega) hp.1 hp.2.1 (by omega) rfl (by omega)).trans ?_
  conv => lhs; whnf
  simp
theorem ok_markIntS : FnOk Tryz.prog 26 K_markIntS := by
  refine fn_ok (fn := Tryz.f26) (k := Tryz.f26.ntmps) (E := E_markIntS) (facts_of (List.forall_mem_nil _)) (by kernel_rfl) rfl (by decide +kernel) (by decide +kernel) ?_
  intro avs hin r h
  unfold K_markIntS at h
  split at h
  · obtain ⟨hp, rfl⟩ := gd_o h
    exact ⟨_, ev_markIntS _ _ hp, rfl⟩
  · cases h

/- laws.markContext -/
def K_markContext : List AV → List Ob → Option (AV × List Ob)
  | [.agg [.int .i64 m, .own 0], .int .i64 q], [.row 3 (.int .i64) a] => gd (a.length ≤ 16777216 ∧ 0 ≤ q ∧ q ≤ 1152921504606846976) (.int .i64 (q + a.length), [.row 3 (.int .i64) (iotaI q a.length)])
  | _, _ => none
@[reducible] def E_markContext : Env := mkE (tb [(26, K_markIntS)]) (fun f => [26].contains f) (fun r => ([], []))
theorem ev_markContext (m : Int) (a : List Int) (q : Int) (hp : a.length ≤ 16777216 ∧ 0 ≤ q ∧ q ≤ 1152921504606846976) : evF E_markContext (1) Tryz.f18 [.agg [.int .i64 m, .own 0], .int .i64 q] [.row 3 (.int .i64) a] = some (.int .i64 (q + a.length), [.row 3 (.int .i64) (iotaI q a.length)]) := by
  conv => lhs; whnf
  conv => lhs; arg 1; whnf
  refine bnd_g (by exact hp) ?_
  conv => lhs; whnf
theorem ok_markContext : FnOk Tryz.prog 18 K_markContext := by
  refine fn_ok (fn := Tryz.f18) (k := Tryz.f18.ntmps) (E := E_markContext) (facts_of (List.forall_mem_cons.2 ⟨ok_markIntS, List.forall_mem_nil _⟩)) (by kernel_rfl) rfl (by decide +kernel) (by decide +kernel) ?_
  intro avs hin r h
  unfold K_markContext at h
  split at h
  · obtain ⟨hp, rfl⟩ := gd_o h
    exact ⟨_, ev_markContext _ _ _ hp, rfl⟩
  · cases h

/- laws.markStringS -/
def K_markStringS : List AV → List Ob → Option (AV × List Ob)
  | [.own 0, .int .i64 q], [.row 9 .str a] => gd (a.length ≤ 16777216 ∧ 1 ≤ q ∧ q ≤ 1152921504606846976) (.int .i64 (q + a.length), [.row 9 .str (iotaT q a.length)])
  | _, _ => none
@[reducible] def E_markStringS : Env := mkE (tb [(80, K_markText)]) (fun f => false) (fun r => bif r == 2 then ([0, 1, 5], [1]) else ([], []))
theorem lp_markStringS (k : AX → S → Option (AV × List Ob)) (d : Nat) : ∀ (n i : Nat) (x q : Int) (ys : List ByteArray), ys.length - i = d → i ≤ ys.length → ys.length ≤ 16777216 → 1 ≤ q → q ≤ 1152921504606846976 + i → x = i → d < n →
    lpAt E_markStringS (lp E_markStringS 1 n) 1 (loopAt Tryz.f31 0) (mkS [0, 1, 5] [.own 0, .int .i64 q, .int .i64 x] [some (.row 9 .str ys)]) k =
      k (.exit 0) (mkS [1] [.int .i64 (q + d)] [some (.row 9 .str (ys.take i ++ iotaT q d))]) := by
  induction d with
  | zero =>
    intro n i x q ys hd hi hl hq hq' hx hn
    subst hx
    rw [lpAt_def]
    conv => lhs; whnf
    refine br_f (df (by omega)) ?_
    conv => lhs; whnf
    simp only [iotaT, List.append_nil, List.take_of_length_le (show ys.length ≤ i by omega)]
    simp
  | succ d ih =>
    intro n i x q ys hd hi hl hq hq' hx hn
    obtain ⟨n, rfl⟩ : ∃ m, n = m + 1 := ⟨n - 1, by omega⟩
    subst hx
    rw [lpAt_def]
    conv => lhs; whnf
    refine br_t (dt (by omega)) ?_
    conv => lhs; whnf
    conv => lhs; arg 1; whnf
    refine bnd_g (by omega) ?_
    conv => lhs; whnf
    refine br_t (dt2 (by omega) (by omega)) ?_
    conv => lhs; whnf
    refine br_t (dt (by omega)) ?_
    conv => lhs; whnf
    rw [wrap64 (n := q + 1) (by omega) (by omega)]
    rw [ih n (i + 1) _ (q + 1) _ (by simp; omega) (by simp; omega) (by simp; omega) (by omega) (by omega) (by rw [wrap64 (by omega) (by omega)]; simp) (by omega)]
    simp only [Int.toNat_natCast]
    rw [tset_succ (by omega)]
    have e1 : q + 1 + (d : Int) = q + ((d + 1 : Nat) : Int) := by push_cast; omega
    rw [e1]
    simp [iotaT]
theorem ev_markStringS (a : List ByteArray) (q : Int) (hp : a.length ≤ 16777216 ∧ 1 ≤ q ∧ q ≤ 1152921504606846976) : evF E_markStringS (a.length + 2) Tryz.f31 [.own 0, .int .i64 q] [.row 9 .str a] = some (.int .i64 (q + a.length), [.row 9 .str (iotaT q a.length)]) := by
  conv => lhs; whnf
  refine (lp_markStringS _ a.length _ 0 0 q a rfl (by omega) hp.1 hp.2.1 (by omega) rfl (by omega)).trans ?_
  conv => lhs; whnf
  simp
theorem ok_markStringS : FnOk Tryz.prog 31 K_markStringS := by
  refine fn_ok (fn := Tryz.f31) (k := Tryz.f31.ntmps) (E := E_markStringS) (facts_of (List.forall_mem_cons.2 ⟨ok_markText, List.forall_mem_nil _⟩)) (by kernel_rfl) rfl (by decide +kernel) (by decide +kernel) ?_
  intro avs hin r h
  unfold K_markStringS at h
  split at h
  · obtain ⟨hp, rfl⟩ := gd_o h
    exact ⟨_, ev_markStringS _ _ hp, rfl⟩
  · cases h

/- laws.FnExactDiagramLines -/
def K_lawDiagramLines : List AV → List Ob → Option (AV × List Ob)
  | [.agg [.int .i64 m, .lst (.int .i64) a]], [] => gd (a.length ≤ maxLen) (.bool true, [])
  | _, _ => none
@[reducible] def E_lawDiagramLines : Env := mkE (tb [(10, K_szContext), (12, K_toContext), (28, K_specDiagramLines), (29, K_implDiagramLines), (30, K_eqStringS), (14, K_eqContext), (32, K_heldStringS), (18, K_markContext), (31, K_markStringS)]) (fun f => [18, 31].contains f) (fun r => ([], []))
theorem ev_lawDiagramLines (m : Int) (a : List Int) (hp : a.length ≤ maxLen) : evF E_lawDiagramLines (1) Tryz.f7 [.agg [.int .i64 m, .lst (.int .i64) a]] [] = some (.bool true, []) := by
  conv => lhs; whnf
  conv => lhs; arg 1; whnf
  refine bnd_g (by exact ⟨by omega, by omega, hp⟩) ?_
  conv => lhs; whnf
  refine br_c (fun h1 => ?_) (fun h1 => ?_)
  · conv => lhs; whnf
  · conv => lhs; whnf
    obtain ⟨e1, l1⟩ := szI_ok (ofn h1)
    have hb := dgF_len m a
    have hi := iotaT_len (dgF m a).length 1
    conv => lhs; arg 1; whnf
    refine bnd_g (by omega) ?_
    conv => lhs; whnf
    conv => lhs; arg 1; whnf
    refine bnd_g (by omega) ?_
    conv => lhs; whnf
    conv => lhs; arg 1; whnf
    refine bnd_g (by omega) ?_
    conv => lhs; whnf
    conv => lhs; arg 1; whnf
    refine bnd_g (by omega) ?_
    conv => lhs; whnf
    conv => lhs; arg 1; whnf
    refine bnd_g (by exact ⟨by omega, rfl⟩) ?_
    conv => lhs; whnf
    repeat ((first | with_reducible apply br_tt | with_reducible apply br_ff | with_reducible apply br_nf | with_reducible apply br_nt | with_reducible refine br_d ?_ (by kernel_rfl) | with_reducible refine br_f (by simp; done) ?_); conv => lhs; whnf)
    conv => lhs; arg 1; whnf
    refine bnd_g (by omega) ?_
    conv => lhs; whnf
    conv => lhs; arg 1; whnf
    refine bnd_g (by exact ⟨by omega, by omega⟩) ?_
    conv => lhs; whnf
    repeat ((first | with_reducible apply br_tt | with_reducible apply br_ff | with_reducible apply br_nf | with_reducible apply br_nt | with_reducible refine br_d ?_ (by kernel_rfl) | with_reducible refine br_f (by simp; done) ?_); conv => lhs; whnf)
    conv => lhs; arg 1; whnf
    refine bnd_g (by exact ⟨by omega, by omega, by omega⟩) ?_
    conv => lhs; whnf
    have hk : decide ((1 : Int) + (a.length : Int) < 0) = false := df (by omega)
    repeat ((first | with_reducible apply br_tt | with_reducible apply br_ff | with_reducible apply br_nf | with_reducible apply br_nt | with_reducible refine br_d ?_ (by kernel_rfl) | with_reducible apply br_t hk | with_reducible apply br_f hk); conv => lhs; whnf)
    conv => lhs; arg 1; whnf
    refine bnd_g (by exact ⟨by omega, rfl⟩) ?_
    conv => lhs; whnf
    repeat ((first | with_reducible apply br_tt | with_reducible apply br_ff | with_reducible apply br_nf | with_reducible apply br_nt | with_reducible refine br_d ?_ (by kernel_rfl) | with_reducible apply br_t hk | with_reducible apply br_f hk | with_reducible refine br_f (by simp; done) ?_); conv => lhs; whnf)
    conv => lhs; arg 1; whnf
    refine bnd_g (by exact ⟨by omega, by omega, by omega⟩) ?_
    conv => lhs; whnf
    conv => lhs; arg 1; whnf
    refine bnd_g (by exact ⟨by rw [hi]; omega, ⟨by omega, by omega⟩, by rw [hi]⟩) ?_
    conv => lhs; whnf
    refine br_f (by (apply decide_eq_false; omega)) ?_
    conv => lhs; whnf
    refine br_f (by (rw [hi]; simp)) ?_
    conv => lhs; whnf
    conv => lhs; arg 1; whnf
    refine bnd_g (by omega) ?_
    conv => lhs; whnf
    conv => lhs; arg 1; whnf
    refine bnd_g (by omega) ?_
    conv => lhs; whnf
    conv => lhs; arg 1; whnf
    refine bnd_g (by exact ⟨by omega, rfl⟩) ?_
    conv => lhs; whnf
    repeat ((first | with_reducible apply br_tt | with_reducible apply br_ff | with_reducible apply br_nf | with_reducible apply br_nt | with_reducible refine br_d ?_ (by kernel_rfl) | with_reducible refine br_f (by simp; done) ?_); conv => lhs; whnf)
    conv => lhs; arg 1; whnf
    refine bnd_g (by exact ⟨by rw [hi]; omega, ⟨by omega, by omega⟩, by rw [hi]⟩) ?_
    conv => lhs; whnf
    refine br_f (by (apply decide_eq_false; omega)) ?_
    conv => lhs; whnf
    refine br_f (by (rw [hi]; simp)) ?_
    conv => lhs; whnf
theorem ok_lawDiagramLines : FnOk Tryz.prog 7 K_lawDiagramLines := by
  refine fn_ok (fn := Tryz.f7) (k := Tryz.f7.ntmps) (E := E_lawDiagramLines) (facts_of (List.forall_mem_cons.2 ⟨(FnOk.soft (fun h => False.elim h) ok_szContext), List.forall_mem_cons.2 ⟨(FnOk.soft (fun h => False.elim h) ok_toContext), List.forall_mem_cons.2 ⟨ok_specDiagramLines, List.forall_mem_cons.2 ⟨ok_implDiagramLines, List.forall_mem_cons.2 ⟨ok_eqStringS, List.forall_mem_cons.2 ⟨(FnOk.soft (fun h => False.elim h) ok_eqContext), List.forall_mem_cons.2 ⟨ok_heldStringS, List.forall_mem_cons.2 ⟨ok_markContext, List.forall_mem_cons.2 ⟨ok_markStringS, List.forall_mem_nil _⟩⟩⟩⟩⟩⟩⟩⟩⟩)) (by kernel_rfl) rfl (by decide +kernel) (by decide +kernel) ?_
  intro avs hin r h
  unfold K_lawDiagramLines at h
  split at h
  · obtain ⟨hp, rfl⟩ := gd_o h
    exact ⟨_, ev_lawDiagramLines _ _ hp, rfl⟩
  · cases h

end Go.Sym
