/- Functions of the program, each told as a plain equation. -/
import Derived.Test.YtmphbdhjdalgnaaGreatDoorSymMCpt
namespace Go.Sym
open Go.Proofs
set_option linter.unusedVariables false
set_option linter.unusedSimpArgs false
set_option maxRecDepth 100000
set_option maxHeartbeats 4000000

def sumB (f : Nat → Bool) : Nat → Nat → Int → Int
  | 0, _, q => q
  | d + 1, i, q => sumB f d (i + 1) (q + bif f i then 1 else 0)
theorem sumB_le (f : Nat → Bool) : ∀ (d i : Nat) (q : Int), q ≤ sumB f d i q ∧ sumB f d i q ≤ q + d
  | 0, i, q => by simp [sumB]
  | d + 1, i, q => by
    have h := sumB_le f d (i + 1) (q + bif f i then 1 else 0)
    rw [sumB]
    cases hf : f i <;> rw [hf] at h <;> simp only [cond_true, cond_false] at h ⊢ <;> omega
theorem sumB_none (f : Nat → Bool) : ∀ (d i : Nat) (q : Int), (∀ j, i ≤ j → f j = false) → sumB f d i q = q
  | 0, i, q, _ => rfl
  | d + 1, i, q, h => by
    rw [sumB, h i (Nat.le_refl _), cond_false, Int.add_zero]
    exact sumB_none f d (i + 1) q fun j hj => h j (by omega)
theorem sumB_cut (f g : Nat → Bool) (n : Nat) : ∀ (d c i : Nat) (q : Int), i + d = n → (∀ j, j < n → f j = g j) → (∀ j, n ≤ j → g j = false) → sumB g (d + c) i q = sumB f d i q
  | 0, c, i, q, h1, h2, h3 => by
    rw [Nat.zero_add]
    exact sumB_none g c i q fun j hj => h3 j (by omega)
  | d + 1, c, i, q, h1, h2, h3 => by
    rw [show d + 1 + c = (d + c) + 1 by omega, sumB, sumB, ← h2 i (by omega)]
    exact sumB_cut f g n d c (i + 1) _ (by omega) h2 h3
abbrev elC (l : List (Int × Int)) (a : Int) : Int × Int := l.getD a.toNat (0, 0)
def inC (l : List (Int × Int)) (a : Int) : Bool := decide (0 ≤ a ∧ a ≤ (l.length : Int) - 1)
theorem concF_len (m : Int) (b : List Int) : (concF m b).length ≤ 64 := by
  unfold concF
  cases h : isCtx m b with
  | false => simp
  | true =>
    have hl := isCtx_len h
    obtain ⟨h1, h2, h3, h4, h5⟩ := lec_all ⟨m.toNat, by omega⟩
    simp only at h2
    have hpw := pow64 (n := m.toNat) (by omega)
    have := List.length_filter_le (closedI m b) (lecI m.toNat)
    rw [cond_true, List.length_map]
    omega
theorem concF_mem {m : Int} {b : List Int} {p : Int × Int} (h : p ∈ concF m b) : isCtx m b = true ∧ isSet m p.2 = true ∧ isSet b.length p.1 = true ∧ p.1 = extF b p.2 ∧ intentF m b p.1 = p.2 := by
  unfold concF at h
  cases hc : isCtx m b with
  | false => rw [hc] at h; cases h
  | true =>
    rw [hc, cond_true] at h
    obtain ⟨x, hx, rfl⟩ := List.mem_map.1 h
    have hx := List.mem_filter.1 hx
    have hl := isCtx_len hc
    obtain ⟨hs, s, rfl, hlt⟩ := lecI_isSet ⟨by omega, by omega⟩ hx.1
    have hr := isSet_le hs
    refine ⟨rfl, hs, ext_isSet hl.1 (ctx_small hc) (by omega), rfl, ?_⟩
    have := hx.2
    unfold closedI at this
    exact eq_of_beq this
theorem inC_iff {l : List (Int × Int)} {a : Int} : inC l a = true ↔ 0 ≤ a ∧ a < (l.length : Int) := by
  unfold inC
  rw [decide_eq_true_eq]
  omega
theorem concF_at {m : Int} {b : List Int} {a : Int} (h : inC (concF m b) a = true) : isCtx m b = true ∧ isSet m (elC (concF m b) a).2 = true ∧ isSet b.length (elC (concF m b) a).1 = true ∧ (elC (concF m b) a).1 = extF b (elC (concF m b) a).2 ∧ intentF m b (elC (concF m b) a).1 = (elC (concF m b) a).2 := by
  have h := inC_iff.1 h
  exact concF_mem (mem_getD (by omega))
def posI (ys : List Int) (x : Int) : Nat → Nat
  | 0 => 0
  | p + 1 => bif decide (ys.getD p 0 > x) then posI ys x p else p + 1
def insI (ys : List Int) (x : Int) : List Int := ys.take (posI ys x ys.length) ++ x :: ys.drop (posI ys x ys.length)
def sortS : List Int → List Int → List Int
  | [], acc => acc
  | x :: r, acc => sortS r (insI acc x)
theorem posI_le (ys : List Int) (x : Int) : ∀ p, posI ys x p ≤ p
  | 0 => Nat.le_refl 0
  | p + 1 => by
    have := posI_le ys x p
    rw [posI]
    cases decide (ys.getD p 0 > x)
    · exact Nat.le_refl _
    · rw [cond_true]; omega
theorem posI_gt (ys : List Int) (x : Int) : ∀ p j, posI ys x p ≤ j → j < p → ys.getD j 0 > x
  | 0, j, _, h => by omega
  | p + 1, j, h1, h2 => by
    rw [posI] at h1
    cases hd : decide (ys.getD p 0 > x)
    · rw [hd, cond_false] at h1; omega
    · rw [hd, cond_true] at h1
      rcases Nat.lt_or_ge j p with h3 | h3
      · exact posI_gt ys x p j h1 h3
      · have : j = p := by omega
        subst this
        exact of_decide_eq_true hd
theorem posI_last (ys : List Int) (x : Int) : ∀ p, 0 < posI ys x p → ys.getD (posI ys x p - 1) 0 ≤ x
  | 0, h => by simp [posI] at h
  | p + 1, h => by
    rw [posI] at h ⊢
    cases hd : decide (ys.getD p 0 > x)
    · rw [cond_false, Nat.add_sub_cancel]
      have := of_decide_eq_false hd
      omega
    · rw [hd, cond_true] at h
      rw [cond_true]
      exact posI_last ys x p h
theorem insI_perm (ys : List Int) (x : Int) : (insI ys x).Perm (x :: ys) := by
  unfold insI
  refine List.perm_middle.trans ?_
  rw [List.take_append_drop]
theorem insI_sorted {ys : List Int} (h : ys.Pairwise (· ≤ ·)) (x : Int) : (insI ys x).Pairwise (· ≤ ·) := by
  have hp := posI_le ys x ys.length
  have hg := posI_gt ys x ys.length
  have hl := posI_last ys x ys.length
  unfold insI
  generalize posI ys x ys.length = p at hp hg hl
  rw [List.pairwise_append]
  have hle : ∀ a ∈ ys.take p, a ≤ x := by
    intro a ha
    obtain ⟨i, hi, rfl⟩ := List.mem_iff_getElem.1 ha
    rw [List.length_take] at hi
    have h0 := hl (by omega)
    rw [List.getElem_take]
    have e : ys.getD (p - 1) 0 = ys[p - 1] := by simp [List.getD, show p - 1 < ys.length by omega]
    rw [e] at h0
    rcases Nat.lt_or_ge i (p - 1) with h3 | h3
    · exact Int.le_trans (List.pairwise_iff_getElem.1 h i (p - 1) (by omega) (by omega) h3) h0
    · have : i = p - 1 := by omega
      subst this; exact h0
  have hge : ∀ b ∈ ys.drop p, x ≤ b := by
    intro b hb
    obtain ⟨i, hi, rfl⟩ := List.mem_iff_getElem.1 hb
    rw [List.length_drop] at hi
    have := hg (p + i) (by omega) (by omega)
    rw [List.getElem_drop]
    have e : ys.getD (p + i) 0 = ys[p + i] := by simp [List.getD, show p + i < ys.length by omega]
    omega
  refine ⟨h.sublist (List.take_sublist _ _), ?_, ?_⟩
  · rw [List.pairwise_cons]
    exact ⟨hge, h.sublist (List.drop_sublist _ _)⟩
  · intro a ha b hb
    rcases List.mem_cons.1 hb with rfl | hb
    · exact hle a ha
    · exact Int.le_trans (hle a ha) (hge b hb)
theorem sortS_sorted : ∀ (ys acc : List Int), acc.Pairwise (· ≤ ·) → (sortS ys acc).Pairwise (· ≤ ·) ∧ (sortS ys acc).Perm (ys ++ acc)
  | [], acc, h => ⟨h, List.Perm.refl _⟩
  | x :: r, acc, h => by
    obtain ⟨h1, h2⟩ := sortS_sorted r (insI acc x) (insI_sorted h x)
    refine ⟨h1, h2.trans ?_⟩
    refine ((insI_perm acc x).append_left r).trans ?_
    rw [List.cons_append]
    exact List.perm_middle
theorem sortS_eq (ys : List Int) : sortS ys [] = sortI ys := by
  obtain ⟨h1, h2⟩ := sortS_sorted ys [] List.Pairwise.nil
  rw [List.append_nil] at h2
  have h3 : (sortI ys).Pairwise (fun a b => decide (a ≤ b) = true) := List.pairwise_mergeSort (fun a b c h g => by simp at *; omega) (fun a b => by simp; omega) ys
  have h3 : (sortI ys).Pairwise (· ≤ ·) := h3.imp fun h => of_decide_eq_true h
  exact List.Perm.eq_of_pairwise (le := (· ≤ ·)) (fun a b _ _ h g => Int.le_antisymm h g) h1 h3 (h2.trans (List.mergeSort_perm ys _).symm)
theorem sortS_len (ys acc : List Int) (h : acc.Pairwise (· ≤ ·)) : (sortS ys acc).length = ys.length + acc.length := by
  rw [(sortS_sorted ys acc h).2.length_eq, List.length_append]
theorem insI_len (ys : List Int) (x : Int) : (insI ys x).length = ys.length + 1 := by
  rw [(insI_perm ys x).length_eq, List.length_cons]
def cofF (m : Int) (b : List Int) (a : Int) : Int × Int := bif inC (concF m b) a then elC (concF m b) a else (0, 0)
def stAt (m : Int) (b : List Int) (p : Int × Int) (s : Nat) : Bool := (band (s : Int) p.1 == (s : Int)) && (intentF m b (s : Int) == p.2)
def stNum (m : Int) (b : List Int) (p : Int × Int) : Int := sumB (stAt m b p) (p.1.toNat + 1) 0 0
def powC (s : Int) : Int := ((2 ^ (cntF s).toNat : Nat) : Int)
theorem cntF_rng (s : Int) : 0 ≤ cntF s ∧ cntF s ≤ 8 := by
  unfold cntF
  have := popF_le 8 s.toNat
  split <;> omega
theorem powC_shl (s : Int) : IntKind.i64.wrap (1 * 2 ^ min (cntF s).toNat IntKind.i64.bits) = powC s := by
  have h := cntF_rng s
  obtain ⟨n, hn⟩ : ∃ n : Nat, cntF s = n := ⟨(cntF s).toNat, by omega⟩
  unfold powC
  rw [hn]
  exact shl1 (by omega)
theorem powC_shlu (s : Int) : IntKind.i64.wrap (1 * 2 ^ min (IntKind.u64.wrap (cntF s)).toNat IntKind.i64.bits) = powC s := by
  have h := cntF_rng s
  rw [wrapu (by omega) (by omega)]
  exact powC_shl s
def stabF (m : Int) (b : List Int) (a : Int) : Int × Int := bif inC (concF m b) a then (stNum m b (elC (concF m b) a), powC (elC (concF m b) a).1) else (0, 0)
def stAt2 (m : Int) (b : List Int) (p : Int × Int) (s : Nat) : Bool := (bnot (s : Int) p.1 == 0) && (intentF m b (s : Int) == p.2)
theorem bnot_sub {s : Nat} {e : Int} (hs : s < 256) : (bnot (s : Int) e == 0) = (band (s : Int) e == (s : Int)) := by
  rw [Bool.eq_iff_iff, beq_iff_eq, beq_iff_eq]
  exact (sub_iff (by omega) (by omega)).symm
theorem stAt_eq {m : Int} {b : List Int} {p : Int × Int} {s : Nat} (hs : s < 256) : stAt2 m b p s = stAt m b p s := by
  unfold stAt2 stAt
  rw [bnot_sub hs]
theorem stAt_big {m : Int} {b : List Int} {p : Int × Int} (hp : 0 ≤ p.1 ∧ p.1 ≤ 255) {s : Nat} (hs : s < 256) (h : p.1.toNat + 1 ≤ s) : stAt m b p s = false := by
  unfold stAt
  have : (band (s : Int) p.1 == (s : Int)) = false := by
    rw [beq_eq_false_iff_ne]
    intro hb
    obtain ⟨n, hn⟩ : ∃ n : Nat, p.1 = n := ⟨p.1.toNat, by omega⟩
    rw [hn] at hb h hp
    rw [band_nat hs (by omega)] at hb
    have h1 : s &&& n ≤ n := Nat.and_le_right
    omega
  rw [this, Bool.false_and]
theorem sumB_grow {f : Nat → Bool} : ∀ (c d i : Nat) (q : Int), (∀ j, i + d ≤ j → j < i + d + c → f j = false) → sumB f (d + c) i q = sumB f d i q
  | 0, d, i, q, _ => rfl
  | c + 1, 0, i, q, h => by
    rw [Nat.zero_add, sumB, sumB, h i (by omega) (by omega), cond_false, Int.add_zero]
    have := sumB_grow (f := f) c 0 (i + 1) q fun j h1 h2 => h j (by omega) (by omega)
    rw [Nat.zero_add] at this
    exact this
  | c + 1, d + 1, i, q, h => by
    rw [show d + 1 + (c + 1) = (d + (c + 1)) + 1 by omega, sumB, sumB]
    exact sumB_grow (c + 1) d (i + 1) _ fun j h1 h2 => h j (by omega) (by omega)
theorem sumB_congr {f g : Nat → Bool} : ∀ (d i : Nat) (q : Int), (∀ j, i ≤ j → j < i + d → f j = g j) → sumB f d i q = sumB g d i q
  | 0, i, q, _ => rfl
  | d + 1, i, q, h => by
    rw [sumB, sumB, h i (Nat.le_refl _) (by omega)]
    exact sumB_congr d (i + 1) _ fun j h1 h2 => h j (by omega) (by omega)
theorem stNum_eq {m : Int} {b : List Int} {p : Int × Int} {n : Nat} (hn : n ≤ 8) (hp : 0 ≤ p.1 ∧ p.1.toNat < 2 ^ n) : sumB (stAt2 m b p) (2 ^ n) 0 0 = stNum m b p := by
  have h2 : 2 ^ n ≤ 2 ^ 8 := Nat.pow_le_pow_right (by omega) hn
  rw [sumB_congr (g := stAt m b p) _ _ _ fun j _ hj => stAt_eq (by omega)]
  obtain ⟨c, hc⟩ : ∃ c, 2 ^ n = p.1.toNat + 1 + c := ⟨2 ^ n - (p.1.toNat + 1), by omega⟩
  rw [hc]
  exact sumB_grow c _ 0 0 fun j h1 h3 => stAt_big ⟨hp.1, by omega⟩ (by omega) (by omega)
def undB (l : List (Int × Int)) (x a : Nat) : Bool := band (l.getD x (0, 0)).1 (l.getD a (0, 0)).1 == (l.getD x (0, 0)).1
def blwB (l : List (Int × Int)) (x a : Nat) : Bool := bnot (l.getD x (0, 0)).1 (l.getD a (0, 0)).1 == 0
def markR (f g : Nat → Bool) : Nat → Nat → Int → Int
  | 0, _, q => q
  | d + 1, i, q => markR f g d (i + 1) (q + 100 * (bif f i then 1 else 0) + (bif g i then 1 else 0))
theorem sumB_add (f : Nat → Bool) : ∀ (d i : Nat) (q : Int), sumB f d i q = q + sumB f d i 0
  | 0, i, q => by simp [sumB]
  | d + 1, i, q => by
    rw [sumB, sumB, sumB_add f d (i + 1) (q + bif f i then 1 else 0), sumB_add f d (i + 1) (0 + bif f i then 1 else 0)]
    omega
theorem markR_eq (f g : Nat → Bool) : ∀ (d i : Nat) (q : Int), markR f g d i q = q + 100 * sumB f d i 0 + sumB g d i 0
  | 0, i, q => by simp [markR, sumB]
  | d + 1, i, q => by
    rw [markR, markR_eq f g d (i + 1), sumB, sumB, sumB_add f d (i + 1) (0 + bif f i then 1 else 0), sumB_add g d (i + 1) (0 + bif g i then 1 else 0)]
    omega
def markAt (l : List (Int × Int)) (a : Nat) : Int := 100 * sumB (fun x => undB l x a) l.length 0 0 + sumB (fun x => undB l a x) l.length 0 0
def marksL (l : List (Int × Int)) : Nat → Nat → List Int
  | 0, _ => []
  | d + 1, a => markAt l a :: marksL l d (a + 1)
theorem marksL_len (l : List (Int × Int)) : ∀ (d a : Nat), (marksL l d a).length = d
  | 0, _ => rfl
  | d + 1, a => by rw [marksL, List.length_cons, marksL_len l d]
def chsF (f : Nat → Bool) : Nat → Nat → List Int
  | 0, _ => []
  | d + 1, i => bif f i then (i : Int) :: chsF f d (i + 1) else chsF f d (i + 1)
theorem chsF_len (f : Nat → Bool) : ∀ (d i : Nat), ((chsF f d i).length : Int) = sumB f d i 0
  | 0, i => rfl
  | d + 1, i => by
    have := chsF_len f d (i + 1)
    rw [chsF, sumB, sumB_add f d (i + 1)]
    cases f i
    · rw [cond_false, cond_false, this]; omega
    · rw [cond_true, cond_true, List.length_cons]; push_cast; omega
theorem chsF_le (f : Nat → Bool) : ∀ (d i : Nat), (chsF f d i).length ≤ d
  | 0, i => Nat.le_refl 0
  | d + 1, i => by
    have := chsF_le f d (i + 1)
    rw [chsF]
    cases f i
    · rw [cond_false]; omega
    · rw [cond_true, List.length_cons]; omega
def extsB (l : List (Int × Int)) : Bool := l.all (fun p => isSet 8 p.1)
theorem blw_und {l : List (Int × Int)} (h : extsB l = true) {x : Nat} (hx : x < l.length) (a : Nat) : blwB l x a = undB l x a := by
  unfold blwB undB
  have hs : isSet 8 (l.getD x (0, 0)).1 = true := List.all_eq_true.1 h _ (mem_getD hx)
  have hl := isSet_le hs
  have hn : (l.getD x (0, 0)).1 = (((l.getD x (0, 0)).1.toNat : Nat) : Int) := by omega
  rw [hn]
  exact bnot_sub (by omega)
def profF (m : Int) (b : List Int) : List Int := bif decide ((concF m b).length > 24) then [] else sortI (marksL (concF m b) (concF m b).length 0)
theorem profF_len (m : Int) (b : List Int) : (profF m b).length ≤ 64 := by
  have h := concF_len m b
  unfold profF
  cases decide ((concF m b).length > 24)
  · rw [cond_false, sortI_len, marksL_len]; exact h
  · exact Nat.zero_le _
theorem conc_exts (m : Int) (b : List Int) : extsB (concF m b) = true := by
  unfold extsB
  rw [List.all_eq_true]
  intro p hp
  obtain ⟨h1, h2, h3, h4, h5⟩ := concF_mem hp
  have := isSet_le h3
  rw [isSet8]
  exact dt ⟨by omega, by omega⟩
def allN (g : Nat → Bool) : Nat → Nat → Bool
  | 0, _ => true
  | d + 1, i => g i && allN g d (i + 1)
theorem allN_congr {f g : Nat → Bool} : ∀ (d i : Nat), (∀ j, i ≤ j → j < i + d → f j = g j) → allN f d i = allN g d i
  | 0, _, _ => rfl
  | d + 1, i, h => by
    rw [allN, allN, h i (by omega) (by omega), allN_congr d (i + 1) fun j h1 h2 => h j (by omega) (by omega)]
theorem allN_all (g : Nat → Bool) : ∀ (d i : Nat), allN g d i = (List.range' i d).all g
  | 0, _ => rfl
  | d + 1, i => by rw [allN, List.range'_succ, List.all_cons, allN_all g d (i + 1)]
def udN (l : List (Int × Int)) (x y : Nat) : Bool := ((x : Int) != (y : Int)) && blwB l x y
def covI (l : List (Int × Int)) (a b : Nat) : Bool := udN l a b && allN (fun x => !(udN l a x && udN l x b)) l.length 0
def covS (l : List (Int × Int)) (a b : Nat) : Bool := !(((b : Int) == (a : Int)) || !undB l a b) && allN (fun k => (((k : Int) == (a : Int)) || ((k : Int) == (b : Int))) || !undB l a k || !undB l k b) l.length 0
theorem cov_eq {l : List (Int × Int)} (he : extsB l = true) {a b : Nat} (ha : a < l.length) : covI l a b = covS l a b := by
  unfold covI covS udN
  rw [blw_und he ha b, Bool.beq_comm (a := (b : Int))]
  congr 1
  · cases h1 : (a : Int) == (b : Int) <;> cases undB l a b <;> simp [bne, h1]
  · apply allN_congr
    intro j h1 h2
    rw [blw_und he ha j, blw_und he (show j < l.length by omega) b, Bool.beq_comm (a := (j : Int)) (b := (a : Int))]
    cases h1 : (a : Int) == (j : Int) <;> cases h2 : (j : Int) == (b : Int) <;> cases undB l a j <;> cases undB l j b <;> simp [bne, h1, h2]
theorem chsF_congr {f g : Nat → Bool} : ∀ (d i : Nat), (∀ j, i ≤ j → j < i + d → f j = g j) → chsF f d i = chsF g d i
  | 0, _, _ => rfl
  | d + 1, i, h => by
    rw [chsF, chsF, h i (by omega) (by omega), chsF_congr d (i + 1) fun j h1 h2 => h j (by omega) (by omega)]
theorem chsF_mem (f : Nat → Bool) : ∀ (d i : Nat), ∀ x ∈ chsF f d i, (i : Int) ≤ x ∧ x < ((i + d : Nat) : Int)
  | 0, i, x, h => by cases h
  | d + 1, i, x, h => by
    rw [chsF] at h
    cases hf : f i with
    | true =>
      rw [hf, cond_true] at h
      rcases List.mem_cons.1 h with rfl | h
      · omega
      · have := chsF_mem f d (i + 1) x h; omega
    | false =>
      rw [hf, cond_false] at h
      have := chsF_mem f d (i + 1) x h; omega
def upL (l : List (Int × Int)) (a : Nat) : List Int := chsF (fun x => covI l a x) l.length 0
theorem upL_len (l : List (Int × Int)) (a : Nat) : (upL l a).length ≤ l.length := chsF_le _ _ _
theorem upL_spec {l : List (Int × Int)} (he : extsB l = true) {a : Nat} (ha : a < l.length) : upL l a = chsF (fun x => covS l a x) l.length 0 := chsF_congr _ _ fun j _ _ => cov_eq he ha
abbrev CL := List (Int × Int)
def fndL (g : Nat → Option (List Int)) : Nat → Nat → Option (List Int)
  | 0, _ => none
  | c + 1, j => match g j with
    | some r => some r
    | none => fndL g c (j + 1)
def fndR (n m : Nat) (ok : List Int → Nat → Bool) : Nat → List Int → Option (List Int)
  | 0, done => bif done.length == n then some done else none
  | d + 1, done => bif done.length == n then some done else fndL (fun j => bif ok done j then fndR n m ok d (done ++ [(j : Int)]) else none) m 0
def gB (l1 l2 : CL) (ls : List Int) (k i : Nat) : Bool := !(((ls.getD i 0 == ls.getD k 0) || !(blwB l1 i k == blwB l2 (ls.getD i 0).toNat (ls.getD k 0).toNat)) || !(blwB l1 k i == blwB l2 (ls.getD k 0).toNat (ls.getD i 0).toNat))
def gOn (l1 l2 : CL) (ls : List Int) : Bool := allN (fun i => gB l1 l2 ls (ls.length - 1) i) (ls.length - 1) 0
def sB (l1 l2 : CL) (done : List Int) (j i : Nat) : Bool := ((done.getD i 0 != (j : Int)) && (undB l1 i done.length == undB l2 (done.getD i 0).toNat j)) && (undB l1 done.length i == undB l2 j (done.getD i 0).toNat)
def okj1 (l1 l2 : CL) (p q : List Int) (done : List Int) (j : Nat) : Bool := !(p.getD done.length 0 != q.getD j 0) && gOn l1 l2 (done ++ [(j : Int)])
def oks1 (l1 l2 : CL) (p q : List Int) (done : List Int) (j : Nat) : Bool := (p.getD done.length 0 == q.getD j 0) && allN (fun i => sB l1 l2 done j i) done.length 0
def inR (m : Nat) (ls : List Int) : Bool := ls.all (fun x => decide (0 ≤ x ∧ x < (m : Int)))
theorem inR_at {m : Nat} {ls : List Int} (h : inR m ls = true) {i : Nat} (hi : i < ls.length) : 0 ≤ ls.getD i 0 ∧ ls.getD i 0 < (m : Int) := of_decide_eq_true (List.all_eq_true.1 h _ (mem_getD hi))
theorem inR_add {m : Nat} {ls : List Int} (h : inR m ls = true) {j : Nat} (hj : j < m) : inR m (ls ++ [(j : Int)]) = true := by
  unfold inR at *
  rw [List.all_append, h, List.all_cons, List.all_nil, decide_eq_true (show 0 ≤ (j : Int) ∧ (j : Int) < (m : Int) by omega)]
  rfl
theorem getD_app_lt {ls : List Int} {x : Int} {i : Nat} (h : i < ls.length) : (ls ++ [x]).getD i 0 = ls.getD i 0 := by
  rw [List.getD_eq_getElem?_getD, List.getD_eq_getElem?_getD, List.getElem?_append_left h]
theorem getD_app_last {ls : List Int} {x : Int} : (ls ++ [x]).getD ls.length 0 = x := by
  rw [List.getD_eq_getElem?_getD, List.getElem?_append_right (Nat.le_refl _)]; simp
theorem take_getD {ls : List Int} {i k : Nat} (h : i < k) : (ls.take k).getD i 0 = ls.getD i 0 := by
  rw [List.getD_eq_getElem?_getD, List.getD_eq_getElem?_getD, List.getElem?_take_of_lt h]
theorem ok_eq {l1 l2 : CL} (h1 : extsB l1 = true) (h2 : extsB l2 = true) {p q done : List Int} (hr : inR l2.length done = true) (hk : done.length < l1.length) {j : Nat} (hj : j < l2.length) : okj1 l1 l2 p q done j = oks1 l1 l2 p q done j := by
  have hl : (done ++ [(j : Int)]).length - 1 = done.length := by simp
  unfold okj1 oks1 gOn
  rw [hl]
  congr 1
  · exact Bool.not_not _
  · apply allN_congr
    intro i hi1 hi2
    have hr' := inR_at hr (i := i) (by omega)
    unfold gB sB
    rw [getD_app_lt (by omega), getD_app_last, Int.toNat_natCast, blw_und h1 (by omega) done.length, blw_und h1 hk i, blw_und h2 (x := (done.getD i 0).toNat) (by omega) j, blw_und h2 hj _]
    have key : ∀ a b c d e : Bool, (!((a || !(b == c)) || !(d == e))) = ((!a && (b == c)) && (d == e)) := by decide
    exact key _ _ _ _ _
theorem fndL_congr {f g : Nat → Option (List Int)} : ∀ (c j : Nat), (∀ i, j ≤ i → i < j + c → f i = g i) → fndL f c j = fndL g c j
  | 0, _, _ => rfl
  | c + 1, j, h => by
    rw [fndL, fndL, h j (by omega) (by omega), fndL_congr c (j + 1) fun i a b => h i (by omega) (by omega)]
theorem fnd_eq {l1 l2 : CL} (h1 : extsB l1 = true) (h2 : extsB l2 = true) (p q : List Int) : ∀ (d : Nat) (done : List Int), inR l2.length done = true → done.length ≤ l1.length → fndR l1.length l2.length (okj1 l1 l2 p q) d done = fndR l1.length l2.length (oks1 l1 l2 p q) d done
  | 0, _, _, _ => rfl
  | d + 1, done, hr, hk => by
    rw [fndR, fndR]
    cases he : done.length == l1.length with
    | true => rfl
    | false =>
      have hk' : done.length < l1.length := by
        have : done.length ≠ l1.length := by simpa using he
        omega
      rw [cond_false, cond_false]
      apply fndL_congr
      intro j hj1 hj2
      rw [ok_eq h1 h2 hr hk' (by omega), fnd_eq h1 h2 p q d _ (inR_add hr (by omega)) (by simp; omega)]
theorem fndL_some {P : List Int → Prop} {g : Nat → Option (List Int)} : ∀ (c j : Nat) (r : List Int), (∀ i r, j ≤ i → i < j + c → g i = some r → P r) → fndL g c j = some r → P r
  | 0, _, r, _, h => by cases h
  | c + 1, j, r, hp, h => by
    rw [fndL] at h
    split at h
    · rename_i r' he
      cases h
      exact hp j _ (by omega) (by omega) he
    · exact fndL_some c (j + 1) r (fun i r a b => hp i r (by omega) (by omega)) h
theorem opt_or {α : Type} (x : Option α) : x = none ∨ ∃ z, x = some z := by
  cases x with
  | none => exact .inl rfl
  | some z => exact .inr ⟨z, rfl⟩
theorem fnd_base {n m : Nat} {ok : List Int → Nat → Bool} (d : Nat) {ls : List Int} (h : ls.length = n) : fndR n m ok d ls = some ls := by
  cases d <;> (rw [fndR, h]; simp)
theorem fnd_len {n m : Nat} {ok : List Int → Nat → Bool} : ∀ (d : Nat) (done r : List Int), fndR n m ok d done = some r → r.length = n
  | 0, done, r, h => by
    rw [fndR] at h
    cases he : done.length == n with
    | true => rw [he, cond_true] at h; cases h; simpa using he
    | false => rw [he, cond_false] at h; cases h
  | d + 1, done, r, h => by
    rw [fndR] at h
    cases he : done.length == n with
    | true => rw [he, cond_true] at h; cases h; simpa using he
    | false =>
      rw [he, cond_false] at h
      refine fndL_some (P := fun r => r.length = n) m 0 r (fun i r' _ _ h' => ?_) h
      cases ho : ok done i with
      | true => rw [ho, cond_true] at h'; exact fnd_len d _ r' h'
      | false => rw [ho, cond_false] at h'; cases h'
/- impl.inSet -/
def K_inSet : List AV → List Ob → Option (AV × List Ob)
  | [.int .i64 a, .int .i64 b], [] => gd (True) (.bool (bnot a b == 0), [])
  | _, _ => none
@[reducible] def E_inSet : Env := mkE (tb []) (fun f => false) (fun r => ([], []))
theorem ev_inSet (a b : Int) (hp : True) : evF E_inSet (1) Tryz.f81 [.int .i64 a, .int .i64 b] [] = some (.bool (bnot a b == 0), []) := by
  conv => lhs; whnf
  rfl
theorem ok_inSet : FnOk Tryz.prog 81 K_inSet := by
  refine fn_ok (fn := Tryz.f81) (k := Tryz.f81.ntmps) (E := E_inSet) (facts_of (List.forall_mem_nil _)) (by kernel_rfl) rfl (by decide +kernel) (by decide +kernel) ?_
  intro avs hin r h
  unfold K_inSet at h
  split at h
  · obtain ⟨hp, rfl⟩ := gd_o h
    exact ⟨_, ev_inSet _ _ hp, rfl⟩
  · cases h

/- (impl.lattice).below -/
def K_latBelow : List AV → List Ob → Option (AV × List Ob)
  | [.lst (.pair (.int .i64) (.int .i64)) l, .int .i64 x, .int .i64 y], [] => gd ((0 ≤ x ∧ x < l.length) ∧ (0 ≤ y ∧ y < l.length)) (.bool (blwB l x.toNat y.toNat), [])
  | _, _ => none
@[reducible] def E_latBelow : Env := mkE (tb [(81, K_inSet)]) (fun f => false) (fun r => ([], []))
theorem ev_latBelow (l : List (Int × Int)) (x y : Int) (hp : (0 ≤ x ∧ x < l.length) ∧ (0 ≤ y ∧ y < l.length)) : evF E_latBelow (1) Tryz.f52 [.lst (.pair (.int .i64) (.int .i64)) l, .int .i64 x, .int .i64 y] [] = some (.bool (blwB l x.toNat y.toNat), []) := by
  conv => lhs; whnf
  refine br_t (by exact dt2 hp.1.1 hp.1.2) ?_
  conv => lhs; whnf
  refine br_t (by exact dt2 hp.2.1 hp.2.2) ?_
  conv => lhs; whnf
  conv => lhs; arg 1; whnf
  refine bnd_g (by exact True.intro) ?_
  conv => lhs; whnf
  repeat ((first | with_reducible apply br_tt | with_reducible apply br_ff | with_reducible apply br_nf | with_reducible apply br_nt | with_reducible refine br_d ?_ (by kernel_rfl)); conv => lhs; whnf)
  rfl
theorem ok_latBelow : FnOk Tryz.prog 52 K_latBelow := by
  refine fn_ok (fn := Tryz.f52) (k := Tryz.f52.ntmps) (E := E_latBelow) (facts_of (List.forall_mem_cons.2 ⟨ok_inSet, List.forall_mem_nil _⟩)) (by kernel_rfl) rfl (by decide +kernel) (by decide +kernel) ?_
  intro avs hin r h
  unfold K_latBelow at h
  split at h
  · obtain ⟨hp, rfl⟩ := gd_o h
    exact ⟨_, ev_latBelow _ _ _ hp, rfl⟩
  · cases h

/- impl.goesOn -/
def K_goesOn : List AV → List Ob → Option (AV × List Ob)
  | [.lst (.pair (.int .i64) (.int .i64)) l1, .lst (.pair (.int .i64) (.int .i64)) l2, .lst (.int .i64) ls], [] => gd ((l1.length ≤ 64 ∧ l2.length ≤ 64) ∧ (1 ≤ ls.length ∧ ls.length ≤ l1.length) ∧ inR l2.length ls = true) (.bool (gOn l1 l2 ls), [])
  | _, _ => none
@[reducible] def E_goesOn : Env := mkE (tb [(52, K_latBelow)]) (fun f => false) (fun r => bif r == 3 then ([0, 1, 2, 7, 15, 16, 17], [6]) else ([], []))
theorem lp_goesOn (l1 l2 : CL) (h1 : l1.length ≤ 64) (h2 : l2.length ≤ 64) (ls : List Int) (K : Nat) (hK : ls.length = K + 1) (hK1 : K < l1.length) (hr : inR l2.length ls = true) (k : AX → S → Option (AV × List Ob)) (d : Nat) : ∀ (n i : Nat) (x : Int), K - i = d → i ≤ K → x = i → d < n →
    lpAt E_goesOn (lp E_goesOn 0 n) 0 (loopAt Tryz.f25 0) (mkS [0, 1, 2, 7, 15, 16, 17] [.lst (.pair (.int .i64) (.int .i64)) l1, .lst (.pair (.int .i64) (.int .i64)) l2, .lst (.int .i64) ls, .int .i64 (K : Int), .lst (.int .i64) (ls.take K), .int .i64 (K : Int), .int .i64 x] []) k =
      bif allN (fun i => gB l1 l2 ls K i) d i then k (.exit 0) (mkS [6] [.any] []) else k .ret (mkS [6] [.bool false] []) := by
  have hlt : (ls.take K).length = K := by rw [List.length_take]; omega
  have hrk := inR_at hr (i := K) (by omega)
  induction d with
  | zero =>
    intro n i x hd hi hx hn
    subst hx
    rw [lpAt_def]
    conv => lhs; whnf
    refine br_f (df (by omega)) ?_
    conv => lhs; whnf
    rfl
  | succ d ih =>
    intro n i x hd hi hx hn
    obtain ⟨n, rfl⟩ : ∃ m, n = m + 1 := ⟨n - 1, by omega⟩
    subst hx
    have hri := inR_at hr (i := i) (by omega)
    have ht := take_getD (ls := ls) (i := i) (k := K) (by omega)
    have hih := ih n (i + 1) (IntKind.i64.wrap ((i : Int) + 1)) (by omega) (by omega) (by rw [wrap64 (n := (i : Int) + 1) (by omega) (by omega)]; simp) (by omega)
    rw [lpAt_def]
    conv => lhs; whnf
    refine br_t (dt (by omega)) ?_
    conv => lhs; whnf
    refine br_t (by exact dt2 (by omega) (by rw [hlt]; omega)) ?_
    conv => lhs; whnf
    refine br_t (by exact dt2 (by omega) (by omega)) ?_
    conv => lhs; whnf
    have e1 : (ls.take K).getD (i : Int).toNat 0 = ls.getD i 0 := ht
    have hR0 : gB l1 l2 ls K i = false → (bif allN (fun i => gB l1 l2 ls K i) (d + 1) i then k (.exit 0) (mkS [6] [.any] []) else k .ret (mkS [6] [.bool false] [])) = k .ret (mkS [6] [.bool false] []) := fun e => by rw [allN, e]; rfl
    have hR1 : gB l1 l2 ls K i = true → (bif allN (fun i => gB l1 l2 ls K i) (d + 1) i then k (.exit 0) (mkS [6] [.any] []) else k .ret (mkS [6] [.bool false] [])) = bif allN (fun i => gB l1 l2 ls K i) d (i + 1) then k (.exit 0) (mkS [6] [.any] []) else k .ret (mkS [6] [.bool false] []) := fun e => by rw [allN, e]; rfl
    clear ih
    refine br_c (fun h => ?_) (fun h => ?_)
    · have h' : (ls.getD i 0 == ls.getD K 0) = true := ht ▸ h
      have e : gB l1 l2 ls K i = false := by unfold gB; rw [h']; rfl
      refine Eq.trans ?_ (hR0 e).symm
      conv => lhs; whnf
      repeat ((first | with_reducible apply br_tt | with_reducible apply br_ff | with_reducible apply br_nf | with_reducible apply br_nt | with_reducible refine br_d ?_ (by kernel_rfl) | with_reducible apply br_t h | with_reducible apply br_f h); conv => lhs; whnf)
    · have h' : (ls.getD i 0 == ls.getD K 0) = false := ht ▸ h
      have hbk : (decide (0 ≤ (K : Int)) && decide ((K : Int) < (ls.length : Int))) = true := dt2 (by omega) (by omega)
      have q1 : (0 ≤ (ls.take K).getD i 0 ∧ (ls.take K).getD i 0 < (l2.length : Int)) := by rw [ht]; exact hri
      conv => lhs; whnf
      repeat ((first | with_reducible apply br_tt | with_reducible apply br_ff | with_reducible apply br_nf | with_reducible apply br_nt | with_reducible refine br_d ?_ (by kernel_rfl) | with_reducible apply br_t h | with_reducible apply br_f h); conv => lhs; whnf)
      conv => lhs; arg 1; whnf
      refine bnd_g (by exact ⟨⟨by omega, by omega⟩, by omega, by omega⟩) ?_
      conv => lhs; whnf
      repeat ((first | with_reducible apply br_tt | with_reducible apply br_ff | with_reducible apply br_nf | with_reducible apply br_nt | with_reducible refine br_d ?_ (by kernel_rfl) | with_reducible apply br_t h | with_reducible apply br_f h | with_reducible apply br_t hbk | with_reducible apply br_f hbk); conv => lhs; whnf)
      conv => lhs; arg 1; whnf
      refine bnd_g (by exact ⟨q1, hrk⟩) ?_
      conv => lhs; whnf
      repeat ((first | with_reducible apply br_tt | with_reducible apply br_ff | with_reducible apply br_nf | with_reducible apply br_nt | with_reducible refine br_d ?_ (by kernel_rfl) | with_reducible apply br_t h | with_reducible apply br_f h); conv => lhs; whnf)
      refine br_c (fun h2 => ?_) (fun h2 => ?_)
      · have h2' : (!(blwB l1 i K == blwB l2 (ls.getD i 0).toNat (ls.getD K 0).toNat)) = true := ht ▸ h2
        have e : gB l1 l2 ls K i = false := by unfold gB; rw [h', h2']; rfl
        refine Eq.trans ?_ (hR0 e).symm
        conv => lhs; whnf
        repeat ((first | with_reducible apply br_tt | with_reducible apply br_ff | with_reducible apply br_nf | with_reducible apply br_nt | with_reducible refine br_d ?_ (by kernel_rfl) | with_reducible apply br_t h | with_reducible apply br_f h | with_reducible apply br_t h2 | with_reducible apply br_f h2); conv => lhs; whnf)
      · have h2' : (!(blwB l1 i K == blwB l2 (ls.getD i 0).toNat (ls.getD K 0).toNat)) = false := ht ▸ h2
        conv => lhs; whnf
        repeat ((first | with_reducible apply br_tt | with_reducible apply br_ff | with_reducible apply br_nf | with_reducible apply br_nt | with_reducible refine br_d ?_ (by kernel_rfl) | with_reducible apply br_t h | with_reducible apply br_f h | with_reducible apply br_t h2 | with_reducible apply br_f h2); conv => lhs; whnf)
        conv => lhs; arg 1; whnf
        refine bnd_g (by exact ⟨⟨by omega, by omega⟩, by omega, by omega⟩) ?_
        conv => lhs; whnf
        repeat ((first | with_reducible apply br_tt | with_reducible apply br_ff | with_reducible apply br_nf | with_reducible apply br_nt | with_reducible refine br_d ?_ (by kernel_rfl) | with_reducible apply br_t h | with_reducible apply br_f h | with_reducible apply br_t h2 | with_reducible apply br_f h2 | with_reducible apply br_t hbk | with_reducible apply br_f hbk); conv => lhs; whnf)
        conv => lhs; arg 1; whnf
        refine bnd_g (by exact ⟨hrk, q1⟩) ?_
        conv => lhs; whnf
        repeat ((first | with_reducible apply br_tt | with_reducible apply br_ff | with_reducible apply br_nf | with_reducible apply br_nt | with_reducible refine br_d ?_ (by kernel_rfl) | with_reducible apply br_t h | with_reducible apply br_f h | with_reducible apply br_t h2 | with_reducible apply br_f h2); conv => lhs; whnf)
        refine br_c (fun h3 => ?_) (fun h3 => ?_)
        · have h3' : (!(blwB l1 K i == blwB l2 (ls.getD K 0).toNat (ls.getD i 0).toNat)) = true := ht ▸ h3
          have e : gB l1 l2 ls K i = false := by unfold gB; rw [h', h2', h3']; rfl
          refine Eq.trans ?_ (hR0 e).symm
          conv => lhs; whnf
          repeat ((first | with_reducible apply br_tt | with_reducible apply br_ff | with_reducible apply br_nf | with_reducible apply br_nt | with_reducible refine br_d ?_ (by kernel_rfl) | with_reducible apply br_t h | with_reducible apply br_f h | with_reducible apply br_t h2 | with_reducible apply br_f h2 | with_reducible apply br_t h3 | with_reducible apply br_f h3); conv => lhs; whnf)
        · have h3' : (!(blwB l1 K i == blwB l2 (ls.getD K 0).toNat (ls.getD i 0).toNat)) = false := ht ▸ h3
          have e : gB l1 l2 ls K i = true := by unfold gB; rw [h', h2', h3']; rfl
          refine Eq.trans ?_ (hR1 e).symm
          conv => lhs; whnf
          repeat ((first | with_reducible apply br_tt | with_reducible apply br_ff | with_reducible apply br_nf | with_reducible apply br_nt | with_reducible refine br_d ?_ (by kernel_rfl) | with_reducible apply br_t h | with_reducible apply br_f h | with_reducible apply br_t h2 | with_reducible apply br_f h2 | with_reducible apply br_t h3 | with_reducible apply br_f h3); conv => lhs; whnf)
          exact hih
theorem lx_goesOn (l1 l2 : CL) (h1 : l1.length ≤ 64) (h2 : l2.length ≤ 64) (ls : List Int) (K : Nat) (hK : ls.length = K + 1) (hK1 : K < l1.length) (hr : inR l2.length ls = true) (k : AX → S → Option (AV × List Ob)) (kk : Int) (tk : List Int) (ln : Int) (e1 : kk = K) (e2 : tk = ls.take K) (e3 : ln = K) :
    lpAt E_goesOn (lp E_goesOn 0 99) 0 (loopAt Tryz.f25 0) (mkS [0, 1, 2, 7, 15, 16, 17] [.lst (.pair (.int .i64) (.int .i64)) l1, .lst (.pair (.int .i64) (.int .i64)) l2, .lst (.int .i64) ls, .int .i64 kk, .lst (.int .i64) tk, .int .i64 ln, .int .i64 0] []) k =
      bif allN (fun i => gB l1 l2 ls K i) K 0 then k (.exit 0) (mkS [6] [.any] []) else k .ret (mkS [6] [.bool false] []) := by
  subst e1 e2 e3
  exact lp_goesOn l1 l2 h1 h2 ls K hK hK1 hr k K 99 0 0 rfl (Nat.zero_le _) rfl (by omega)
theorem ev_goesOn (l1 l2 : List (Int × Int)) (ls : List Int) (hp : (l1.length ≤ 64 ∧ l2.length ≤ 64) ∧ (1 ≤ ls.length ∧ ls.length ≤ l1.length) ∧ inR l2.length ls = true) : evF E_goesOn (100) Tryz.f25 [.lst (.pair (.int .i64) (.int .i64)) l1, .lst (.pair (.int .i64) (.int .i64)) l2, .lst (.int .i64) ls] [] = some (.bool (gOn l1 l2 ls), []) := by
  obtain ⟨⟨h1, h2⟩, ⟨h3, h4⟩, h5⟩ := hp
  obtain ⟨K, hK⟩ : ∃ K, ls.length = K + 1 := ⟨ls.length - 1, by omega⟩
  have hw : IntKind.i64.wrap ((ls.length : Int) - 1) = (K : Int) := by rw [hK, wrap64 (by omega) (by omega)]; push_cast; omega
  have hg : gOn l1 l2 ls = allN (fun i => gB l1 l2 ls K i) K 0 := by unfold gOn; rw [hK]; rfl
  have hlt : ((ls.take K).length : Int) = (K : Int) := by rw [List.length_take]; omega
  rw [hg]
  conv => lhs; whnf
  refine br_t (by (rw [hw]; exact dt2 (by omega) (by omega))) ?_
  conv => lhs; whnf
  refine (lx_goesOn l1 l2 h1 h2 ls K hK (by omega) h5 _ _ _ _ hw (by rw [hw]; rfl) (by rw [hw]; exact hlt)).trans ?_
  cases hq : allN (fun i => gB l1 l2 ls K i) K 0
  · rw [cond_false]
    conv => lhs; whnf
  · rw [cond_true]
    conv => lhs; whnf
theorem ok_goesOn : FnOk Tryz.prog 25 K_goesOn := by
  refine fn_ok (fn := Tryz.f25) (k := Tryz.f25.ntmps) (E := E_goesOn) (facts_of (List.forall_mem_cons.2 ⟨ok_latBelow, List.forall_mem_nil _⟩)) (by kernel_rfl) rfl (by decide +kernel) (by decide +kernel) ?_
  intro avs hin r h
  unfold K_goesOn at h
  split at h
  · obtain ⟨hp, rfl⟩ := gd_o h
    exact ⟨_, ev_goesOn _ _ _ hp, rfl⟩
  · cases h

def outF (r : Option (List Int)) (done : List Int) (n : Nat) (tI : TypeId) : AV × List Ob :=
  if done.length = n then (.tup [.own 0, .bool true], [.row tI (.int .i64) done])
  else match r with
    | some z => (.tup [.own 1, .bool true], [.row tI (.int .i64) done, .row tI (.int .i64) z])
    | none => (.tup [.own 1, .bool false], [.row tI (.int .i64) done, .row tI (.int .i64) []])
def preF (l1 l2 : CL) (p q done : List Int) (d : Nat) : Prop := ((l1.length ≤ 64 ∧ l2.length ≤ 64) ∧ (p.length = l1.length ∧ q.length = l2.length)) ∧ (done.length ≤ l1.length ∧ l1.length ≤ done.length + d) ∧ inR l2.length done = true
instance (l1 l2 : CL) (p q done : List Int) (d : Nat) : Decidable (preF l1 l2 p q done d) := by unfold preF; infer_instance
/- spec.l6Under -/
def K_l6Under : List AV → List Ob → Option (AV × List Ob)
  | [.agg [.int .i64 p, .int .i64 q], .agg [.int .i64 x, .int .i64 y]], [] => gd (True) (.bool (band p x == p), [])
  | _, _ => none
@[reducible] def E_l6Under : Env := mkE (tb []) (fun f => false) (fun r => ([], []))
theorem ev_l6Under (p q : Int) (x y : Int) (hp : True) : evF E_l6Under (1) Tryz.f35 [.agg [.int .i64 p, .int .i64 q], .agg [.int .i64 x, .int .i64 y]] [] = some (.bool (band p x == p), []) := by
  conv => lhs; whnf
  rfl
theorem ok_l6Under : FnOk Tryz.prog 35 K_l6Under := by
  refine fn_ok (fn := Tryz.f35) (k := Tryz.f35.ntmps) (E := E_l6Under) (facts_of (List.forall_mem_nil _)) (by kernel_rfl) rfl (by decide +kernel) (by decide +kernel) ?_
  intro avs hin r h
  unfold K_l6Under at h
  split at h
  · obtain ⟨hp, rfl⟩ := gd_o h
    exact ⟨_, ev_l6Under _ _ _ _ hp, rfl⟩
  · cases h

def K_l23Find : Nat → List AV → List Ob → Option (AV × List Ob)
  | d, [.lst (.pair (.int .i64) (.int .i64)) l1, .lst (.pair (.int .i64) (.int .i64)) l2, .lst (.int .i64) p, .lst (.int .i64) q, .own 0], [.row 3 (.int .i64) done] => gd (preF l1 l2 p q done d) (outF (fndR l1.length l2.length (oks1 l1 l2 p q) d done) done l1.length 3)
  | _, _, _ => none
@[reducible] def E_l23Find (d : Nat) : Env := mkE (tb [(35, K_l6Under), (28, K_l23Find d)]) (fun f => [28].contains f) (fun r => bif r == 5 then ([0, 1, 2, 3, 4, 12, 13], [0, 1, 2, 3, 4, 10, 11, 12, 13, 14]) else bif r == 9 then ([0, 1, 2, 3, 4, 12, 13, 14, 15], [0, 1, 2, 3, 4, 12, 13, 14]) else ([], []))
theorem Ks_base {d : Nat} {l1 l2 : CL} {p q done : List Int} (h : preF l1 l2 p q done d) (hn : done.length = l1.length) : K_l23Find d [.lst (.pair (.int .i64) (.int .i64)) l1, .lst (.pair (.int .i64) (.int .i64)) l2, .lst (.int .i64) p, .lst (.int .i64) q, .own 0] [.row 3 (.int .i64) done] = some (.tup [.own 0, .bool true], [.row 3 (.int .i64) done]) := by
  refine (gd_s h).trans ?_
  unfold outF
  rw [if_pos hn]
theorem Ks_some {d : Nat} {l1 l2 : CL} {p q done z : List Int} (h : preF l1 l2 p q done d) (hn : done.length ≠ l1.length) (hz : fndR l1.length l2.length (oks1 l1 l2 p q) d done = some z) : K_l23Find d [.lst (.pair (.int .i64) (.int .i64)) l1, .lst (.pair (.int .i64) (.int .i64)) l2, .lst (.int .i64) p, .lst (.int .i64) q, .own 0] [.row 3 (.int .i64) done] = some (.tup [.own 1, .bool true], [.row 3 (.int .i64) done, .row 3 (.int .i64) z]) := by
  refine (gd_s h).trans ?_
  unfold outF
  rw [if_neg hn, hz]
theorem Ks_none {d : Nat} {l1 l2 : CL} {p q done : List Int} (h : preF l1 l2 p q done d) (hn : done.length ≠ l1.length) (hz : fndR l1.length l2.length (oks1 l1 l2 p q) d done = none) : K_l23Find d [.lst (.pair (.int .i64) (.int .i64)) l1, .lst (.pair (.int .i64) (.int .i64)) l2, .lst (.int .i64) p, .lst (.int .i64) q, .own 0] [.row 3 (.int .i64) done] = some (.tup [.own 1, .bool false], [.row 3 (.int .i64) done, .row 3 (.int .i64) []]) := by
  refine (gd_s h).trans ?_
  unfold outF
  rw [if_neg hn, hz]

theorem l1_l23Find (dd : Nat) (l1 l2 : CL) (h1 : l1.length ≤ 64) (h2 : l2.length ≤ 64) (p q done : List Int) (hk : done.length < l1.length) (hr : inR l2.length done = true) (j : Nat) (hj : j < l2.length) (k : AX → S → Option (AV × List Ob)) (c : Nat) : ∀ (n i : Nat) (x : Int) (f : Bool), done.length - i = c → i ≤ done.length → x = i → c < n →
    lpAt (E_l23Find dd) (lp (E_l23Find dd) 1 n) 1 (loopAt Tryz.f28 1) (mkS [0, 1, 2, 3, 4, 12, 13, 14, 15] [.lst (.pair (.int .i64) (.int .i64)) l1, .lst (.pair (.int .i64) (.int .i64)) l2, .lst (.int .i64) p, .lst (.int .i64) q, .own 0, .int .i64 (done.length : Int), .int .i64 (j : Int), .bool f, .int .i64 x] [some (.row 3 (.int .i64) done)]) k =
      k (.exit 2) (mkS [0, 1, 2, 3, 4, 12, 13, 14] [.lst (.pair (.int .i64) (.int .i64)) l1, .lst (.pair (.int .i64) (.int .i64)) l2, .lst (.int .i64) p, .lst (.int .i64) q, .own 0, .int .i64 (done.length : Int), .int .i64 (j : Int), .bool (f && allN (fun i => sB l1 l2 done j i) c i)] [some (.row 3 (.int .i64) done)]) := by
  induction c with
  | zero =>
    intro n i x f hd hi hx hn
    subst hx
    have hq : decide ((i : Int) < (done.length : Int)) = false := df (by omega)
    rw [lpAt_def, allN, Bool.and_true]
    conv => lhs; whnf
    repeat ((first | with_reducible apply br_tt | with_reducible apply br_ff | with_reducible apply br_nf | with_reducible apply br_nt | with_reducible refine br_d ?_ (by kernel_rfl) | with_reducible apply br_t hq | with_reducible apply br_f hq); conv => lhs; whnf)
  | succ c ih =>
    intro n i x f hd hi hx hn
    obtain ⟨n, rfl⟩ : ∃ m, n = m + 1 := ⟨n - 1, by omega⟩
    subst hx
    have hri := inR_at hr (i := i) (by omega)
    have hq : decide ((i : Int) < (done.length : Int)) = true := dt (by omega)
    have hih := fun f => ih n (i + 1) (IntKind.i64.wrap ((i : Int) + 1)) f (by omega) (by omega) (by rw [wrap64 (n := (i : Int) + 1) (by omega) (by omega)]; simp) (by omega)
    clear ih
    have hbi : (decide (0 ≤ (i : Int)) && decide ((i : Int) < (done.length : Int))) = true := dt2 (by omega) (by omega)
    have hbn : decide ((i : Int).toNat < done.length) = true := dt (by omega)
    have hbd : (decide (0 ≤ done.getD (i : Int).toNat (ET.int .i64).dft) && decide (done.getD (i : Int).toNat (ET.int .i64).dft < (l2.length : Int))) = true := dt2 hri.1 hri.2
    cases f with
    | false =>
      rw [lpAt_def]
      conv => lhs; whnf
      repeat ((first | with_reducible apply br_tt | with_reducible apply br_ff | with_reducible apply br_nf | with_reducible apply br_nt | with_reducible refine br_d ?_ (by kernel_rfl) | with_reducible apply br_t hq | with_reducible apply br_f hq); conv => lhs; whnf)
      simp only [Bool.false_and]
    | true =>
      rw [lpAt_def]
      conv => lhs; whnf
      repeat ((first | with_reducible apply br_tt | with_reducible apply br_ff | with_reducible apply br_nf | with_reducible apply br_nt | with_reducible refine br_d ?_ (by kernel_rfl) | with_reducible apply br_t hq | with_reducible apply br_f hq); conv => lhs; whnf)
      repeat ((first | with_reducible apply br_tt | with_reducible apply br_ff | with_reducible apply br_nf | with_reducible apply br_nt | with_reducible refine br_d ?_ (by kernel_rfl) | with_reducible apply br_t hbi | with_reducible apply br_f hbi | with_reducible apply br_t hbn | with_reducible apply br_f hbn | with_reducible refine br_t (dt2 (by omega) (by omega)) ?_ | with_reducible refine br_t (dt (by omega)) ?_); conv => lhs; whnf)
      refine br_c (fun ha => ?_) (fun ha => ?_)
      · have ha' : (done.getD i 0 != (j : Int)) = true := ha
        conv => lhs; whnf
        repeat ((first | with_reducible apply br_tt | with_reducible apply br_ff | with_reducible apply br_nf | with_reducible apply br_nt | with_reducible refine br_d ?_ (by kernel_rfl) | with_reducible apply br_t ha | with_reducible apply br_f ha | with_reducible apply br_t hbi | with_reducible apply br_f hbi | with_reducible apply br_t hbn | with_reducible apply br_f hbn | with_reducible apply br_t hbd | with_reducible apply br_f hbd | with_reducible refine br_t (dt2 (by omega) (by omega)) ?_ | with_reducible refine br_t (dt (by omega)) ?_); conv => lhs; whnf)
        conv => lhs; arg 1; whnf
        refine bnd_g (by exact True.intro) ?_
        conv => lhs; whnf
        repeat ((first | with_reducible apply br_tt | with_reducible apply br_ff | with_reducible apply br_nf | with_reducible apply br_nt | with_reducible refine br_d ?_ (by kernel_rfl) | with_reducible apply br_t ha | with_reducible apply br_f ha | with_reducible apply br_t hbi | with_reducible apply br_f hbi | with_reducible apply br_t hbn | with_reducible apply br_f hbn | with_reducible apply br_t hbd | with_reducible apply br_f hbd | with_reducible refine br_t (dt2 (by omega) (by omega)) ?_ | with_reducible refine br_t (dt (by omega)) ?_); conv => lhs; whnf)
        conv => lhs; arg 1; whnf
        refine bnd_g (by exact True.intro) ?_
        conv => lhs; whnf
        repeat ((first | with_reducible apply br_tt | with_reducible apply br_ff | with_reducible apply br_nf | with_reducible apply br_nt | with_reducible refine br_d ?_ (by kernel_rfl) | with_reducible apply br_t ha | with_reducible apply br_f ha | with_reducible apply br_t hbi | with_reducible apply br_f hbi | with_reducible apply br_t hbn | with_reducible apply br_f hbn | with_reducible apply br_t hbd | with_reducible apply br_f hbd | with_reducible refine br_t (dt2 (by omega) (by omega)) ?_ | with_reducible refine br_t (dt (by omega)) ?_); conv => lhs; whnf)
        refine br_c (fun hb => ?_) (fun hb => ?_)
        · have hb' : (undB l1 i done.length == undB l2 (done.getD i 0).toNat j) = true := hb
          conv => lhs; whnf
          repeat ((first | with_reducible apply br_tt | with_reducible apply br_ff | with_reducible apply br_nf | with_reducible apply br_nt | with_reducible refine br_d ?_ (by kernel_rfl) | with_reducible apply br_t ha | with_reducible apply br_f ha | with_reducible apply br_t hb | with_reducible apply br_f hb | with_reducible apply br_t hbi | with_reducible apply br_f hbi | with_reducible apply br_t hbn | with_reducible apply br_f hbn | with_reducible apply br_t hbd | with_reducible apply br_f hbd | with_reducible refine br_t (dt2 (by omega) (by omega)) ?_ | with_reducible refine br_t (dt (by omega)) ?_); conv => lhs; whnf)
          conv => lhs; arg 1; whnf
          refine bnd_g (by exact True.intro) ?_
          conv => lhs; whnf
          repeat ((first | with_reducible apply br_tt | with_reducible apply br_ff | with_reducible apply br_nf | with_reducible apply br_nt | with_reducible refine br_d ?_ (by kernel_rfl) | with_reducible apply br_t ha | with_reducible apply br_f ha | with_reducible apply br_t hb | with_reducible apply br_f hb | with_reducible apply br_t hbi | with_reducible apply br_f hbi | with_reducible apply br_t hbn | with_reducible apply br_f hbn | with_reducible apply br_t hbd | with_reducible apply br_f hbd | with_reducible refine br_t (dt2 (by omega) (by omega)) ?_ | with_reducible refine br_t (dt (by omega)) ?_); conv => lhs; whnf)
          conv => lhs; arg 1; whnf
          refine bnd_g (by exact True.intro) ?_
          conv => lhs; whnf
          repeat ((first | with_reducible apply br_tt | with_reducible apply br_ff | with_reducible apply br_nf | with_reducible apply br_nt | with_reducible refine br_d ?_ (by kernel_rfl) | with_reducible apply br_t ha | with_reducible apply br_f ha | with_reducible apply br_t hb | with_reducible apply br_f hb | with_reducible apply br_t hbi | with_reducible apply br_f hbi | with_reducible apply br_t hbn | with_reducible apply br_f hbn | with_reducible apply br_t hbd | with_reducible apply br_f hbd | with_reducible refine br_t (dt2 (by omega) (by omega)) ?_ | with_reducible refine br_t (dt (by omega)) ?_); conv => lhs; whnf)
          refine (hih (undB l1 done.length i == undB l2 j (done.getD i 0).toNat)).trans ?_
          have e : sB l1 l2 done j i = (undB l1 done.length i == undB l2 j (done.getD i 0).toNat) := by unfold sB; rw [ha', hb']; rfl
          rw [allN, e, Bool.true_and]
        · have hb' : (undB l1 i done.length == undB l2 (done.getD i 0).toNat j) = false := hb
          conv => lhs; whnf
          repeat ((first | with_reducible apply br_tt | with_reducible apply br_ff | with_reducible apply br_nf | with_reducible apply br_nt | with_reducible refine br_d ?_ (by kernel_rfl) | with_reducible apply br_t ha | with_reducible apply br_f ha | with_reducible apply br_t hb | with_reducible apply br_f hb | with_reducible apply br_t hbi | with_reducible apply br_f hbi | with_reducible apply br_t hbn | with_reducible apply br_f hbn | with_reducible apply br_t hbd | with_reducible apply br_f hbd | with_reducible refine br_t (dt2 (by omega) (by omega)) ?_ | with_reducible refine br_t (dt (by omega)) ?_); conv => lhs; whnf)
          refine (hih false).trans ?_
          have e : sB l1 l2 done j i = false := by unfold sB; rw [ha', hb']; rfl
          rw [allN, e, Bool.true_and]
      · have ha' : (done.getD i 0 != (j : Int)) = false := ha
        conv => lhs; whnf
        repeat ((first | with_reducible apply br_tt | with_reducible apply br_ff | with_reducible apply br_nf | with_reducible apply br_nt | with_reducible refine br_d ?_ (by kernel_rfl) | with_reducible apply br_t ha | with_reducible apply br_f ha | with_reducible apply br_t hbi | with_reducible apply br_f hbi | with_reducible apply br_t hbn | with_reducible apply br_f hbn | with_reducible apply br_t hbd | with_reducible apply br_f hbd | with_reducible refine br_t (dt2 (by omega) (by omega)) ?_ | with_reducible refine br_t (dt (by omega)) ?_); conv => lhs; whnf)
        refine (hih false).trans ?_
        have e : sB l1 l2 done j i = false := by unfold sB; rw [ha']; rfl
        rw [allN, e, Bool.true_and]

def gS (l1 l2 : CL) (p q done : List Int) (dd : Nat) : Nat → Option (List Int) := fun j => bif oks1 l1 l2 p q done j then fndR l1.length l2.length (oks1 l1 l2 p q) dd (done ++ [(j : Int)]) else none
theorem l0_l23Find (dd : Nat) (l1 l2 : CL) (h1 : l1.length ≤ 64) (h2 : l2.length ≤ 64) (p q done : List Int) (hp : p.length = l1.length) (hq : q.length = l2.length) (hk : done.length < l1.length) (hd : l1.length ≤ done.length + 1 + dd) (hr : inR l2.length done = true) (k : AX → S → Option (AV × List Ob)) (R : List Int → Option (AV × List Ob))
    (hR : ∀ (j : Int) (z : List Int) (b : Bool), k .ret (mkS [0, 1, 2, 3, 4, 10, 11, 12, 13, 14] [.lst (.pair (.int .i64) (.int .i64)) l1, .lst (.pair (.int .i64) (.int .i64)) l2, .lst (.int .i64) p, .lst (.int .i64) q, .own 0, .own 1, .bool true, .int .i64 (done.length : Int), .int .i64 j, .bool b] [some (.row 3 (.int .i64) done), some (.row 3 (.int .i64) z)]) = R z) (c : Nat) : ∀ (n j : Nat) (x : Int), l2.length - j = c → j ≤ l2.length → x = j → c + 80 < n →
    lpAt (E_l23Find dd) (lp (E_l23Find dd) 1 n) 1 (loopAt Tryz.f28 0) (mkS [0, 1, 2, 3, 4, 12, 13] [.lst (.pair (.int .i64) (.int .i64)) l1, .lst (.pair (.int .i64) (.int .i64)) l2, .lst (.int .i64) p, .lst (.int .i64) q, .own 0, .int .i64 (done.length : Int), .int .i64 x] [some (.row 3 (.int .i64) done)]) k =
      match fndL (gS l1 l2 p q done dd) c j with
      | some z => R z
      | none => k (.exit 0) (mkS [0, 1, 2, 3, 4, 10, 11, 12, 13, 14] [.lst (.pair (.int .i64) (.int .i64)) l1, .lst (.pair (.int .i64) (.int .i64)) l2, .lst (.int .i64) p, .lst (.int .i64) q, .own 0, .any, .any, .int .i64 (done.length : Int), .int .i64 (l2.length : Int), .any] [some (.row 3 (.int .i64) done)]) := by
  induction c with
  | zero =>
    intro n j x hc hj hx hn
    have : j = l2.length := by omega
    subst hx this
    rw [lpAt_def, fndL]
    conv => lhs; whnf
    refine br_f (df (by omega)) ?_
    conv => lhs; whnf
  | succ c ih =>
    intro n j x hc hj hx hn
    obtain ⟨n, rfl⟩ : ∃ m, n = m + 1 := ⟨n - 1, by omega⟩
    subst hx
    have hih := ih n (j + 1) (IntKind.i64.wrap ((j : Int) + 1)) (by omega) (by omega) (by rw [wrap64 (n := (j : Int) + 1) (by omega) (by omega)]; simp) (by omega)
    clear ih
    have hl : (done ++ [(j : Int)]).length = done.length + 1 := by simp
    have hpre : preF l1 l2 p q (done ++ [(j : Int)]) dd := ⟨⟨⟨h1, h2⟩, hp, hq⟩, ⟨by omega, by omega⟩, inR_add hr (by omega)⟩
    have hF0 : oks1 l1 l2 p q done j = false → fndL (gS l1 l2 p q done dd) (c + 1) j = fndL (gS l1 l2 p q done dd) c (j + 1) := fun e => by
      have : gS l1 l2 p q done dd j = none := by unfold gS; rw [e]; rfl
      rw [fndL, this]
    have hF1 : oks1 l1 l2 p q done j = true → gS l1 l2 p q done dd j = fndR l1.length l2.length (oks1 l1 l2 p q) dd (done ++ [(j : Int)]) := fun e => by unfold gS; rw [e]; rfl
    have hok : oks1 l1 l2 p q done j = ((p.getD done.length 0 == q.getD j 0) && allN (fun i => sB l1 l2 done j i) done.length 0) := rfl
    rw [lpAt_def]
    conv => lhs; whnf
    repeat ((first | with_reducible apply br_tt | with_reducible apply br_ff | with_reducible apply br_nf | with_reducible apply br_nt | with_reducible refine br_d ?_ (by kernel_rfl) | with_reducible refine br_t (dt2 (by omega) (by omega)) ?_ | with_reducible refine br_t (dt (by omega)) ?_); conv => lhs; whnf)
    have L := l1_l23Find dd l1 l2 h1 h2 p q done hk hr j (by omega)
    refine (L _ done.length n 0 0 _ rfl (Nat.zero_le _) rfl (by omega)).trans ?_
    conv => lhs; whnf
    refine br_c (fun h => ?_) (fun h => ?_)
    · have e : oks1 l1 l2 p q done j = false := bnt h
      conv => lhs; whnf
      conv => rhs; rw [hF0 e]
      exact hih
    · have e : oks1 l1 l2 p q done j = true := bnf h
      have hf := hF1 e
      conv => lhs; whnf
      refine br_t (dt (by simp [room]; omega)) ?_
      conv => lhs; whnf
      refine br_t (dt (by simp [room]; omega)) ?_
      conv => lhs; whnf
      refine Or.elim (Classical.em ((done ++ [(j : Int)]).length = l1.length)) (fun hn => ?_) (fun hn => ?_)
      · have hs : fndL (gS l1 l2 p q done dd) (c + 1) j = some (done ++ [(j : Int)]) := by rw [fndL, hf, fnd_base dd hn]
        conv => rhs; rw [hs]
        refine bnd_s (Ks_base hpre hn) ?_
        conv => lhs; whnf
        repeat ((first | with_reducible apply br_tt | with_reducible apply br_ff | with_reducible apply br_nf | with_reducible apply br_nt | with_reducible refine br_d ?_ (by kernel_rfl)); conv => lhs; whnf)
        exact hR _ _ _
      · refine Or.elim (opt_or (fndR l1.length l2.length (oks1 l1 l2 p q) dd (done ++ [(j : Int)]))) (fun hz => ?_) (fun hz => Exists.elim hz fun z hz => ?_)
        · have hs : fndL (gS l1 l2 p q done dd) (c + 1) j = fndL (gS l1 l2 p q done dd) c (j + 1) := by rw [fndL, hf, hz]
          conv => rhs; rw [hs]
          refine bnd_s (Ks_none hpre hn hz) ?_
          conv => lhs; whnf
          repeat ((first | with_reducible apply br_tt | with_reducible apply br_ff | with_reducible apply br_nf | with_reducible apply br_nt | with_reducible refine br_d ?_ (by kernel_rfl)); conv => lhs; whnf)
          exact hih
        · have hs : fndL (gS l1 l2 p q done dd) (c + 1) j = some z := by rw [fndL, hf, hz]
          conv => rhs; rw [hs]
          refine bnd_s (Ks_some hpre hn hz) ?_
          conv => lhs; whnf
          repeat ((first | with_reducible apply br_tt | with_reducible apply br_ff | with_reducible apply br_nf | with_reducible apply br_nt | with_reducible refine br_d ?_ (by kernel_rfl)); conv => lhs; whnf)
          exact hR _ _ _
theorem ev_l23Find (dd : Nat) (l1 l2 : CL) (p q done : List Int) (h : preF l1 l2 p q done (dd + 1)) : evF (E_l23Find dd) 200 Tryz.f28 [.lst (.pair (.int .i64) (.int .i64)) l1, .lst (.pair (.int .i64) (.int .i64)) l2, .lst (.int .i64) p, .lst (.int .i64) q, .own 0] [.row 3 (.int .i64) done] = some (outF (fndR l1.length l2.length (oks1 l1 l2 p q) (dd + 1) done) done l1.length 3) := by
  obtain ⟨⟨⟨h1, h2⟩, hp, hq⟩, ⟨h3, h4⟩, h5⟩ := h
  by_cases hn : done.length = l1.length
  · have e : outF (fndR l1.length l2.length (oks1 l1 l2 p q) (dd + 1) done) done l1.length 3 = (.tup [.own 0, .bool true], [.row 3 (.int .i64) done]) := by unfold outF; rw [if_pos hn]
    rw [e]
    conv => lhs; whnf
    refine br_t (by (rw [hn]; simp)) ?_
    conv => lhs; whnf
  · have hz0 : fndR l1.length l2.length (oks1 l1 l2 p q) (dd + 1) done = fndL (gS l1 l2 p q done dd) l2.length 0 := by
      rw [fndR, show (done.length == l1.length) = false by simpa using hn, cond_false]
      rfl
    conv => lhs; whnf
    refine br_f (by (simp; omega)) ?_
    conv => lhs; whnf
    have L := fun k R hR => l0_l23Find dd l1 l2 h1 h2 p q done hp hq (by omega) (by omega) h5 k R hR l2.length 199 0 0 rfl (Nat.zero_le _) rfl (by omega)
    refine (L _ (fun z => some (.tup [.own 1, .bool true], [.row 3 (.int .i64) done, .row 3 (.int .i64) z])) (fun j z b => by conv => lhs; whnf)).trans ?_
    rw [hz0]
    unfold outF
    rw [if_neg hn]
    cases hz : fndL (gS l1 l2 p q done dd) l2.length 0 with
    | some z => rfl
    | none =>
      conv => lhs; whnf
@[reducible] def E0_l23Find : Env := mkE (tb [(35, K_l6Under)]) (fun f => [28].contains f) (fun r => bif r == 5 then ([0, 1, 2, 3, 4, 12, 13], [0, 1, 2, 3, 4, 10, 11, 12, 13, 14]) else bif r == 9 then ([0, 1, 2, 3, 4, 12, 13, 14, 15], [0, 1, 2, 3, 4, 12, 13, 14]) else ([], []))
theorem ev0_l23Find (l1 l2 : CL) (p q done : List Int) (h : preF l1 l2 p q done 0) : evF E0_l23Find 200 Tryz.f28 [.lst (.pair (.int .i64) (.int .i64)) l1, .lst (.pair (.int .i64) (.int .i64)) l2, .lst (.int .i64) p, .lst (.int .i64) q, .own 0] [.row 3 (.int .i64) done] = some (outF (fndR l1.length l2.length (oks1 l1 l2 p q) 0 done) done l1.length 3) := by
  obtain ⟨⟨⟨h1, h2⟩, hp, hq⟩, ⟨h3, h4⟩, h5⟩ := h
  have hn : done.length = l1.length := by omega
  have e : outF (fndR l1.length l2.length (oks1 l1 l2 p q) 0 done) done l1.length 3 = (.tup [.own 0, .bool true], [.row 3 (.int .i64) done]) := by unfold outF; rw [if_pos hn]
  rw [e]
  conv => lhs; whnf
  refine br_t (by (rw [hn]; simp)) ?_
  conv => lhs; whnf
theorem ok_l23Find : ∀ d : Nat, FnOk Tryz.prog 28 (K_l23Find d)
  | 0 => by
    refine fn_ok (fn := Tryz.f28) (k := Tryz.f28.ntmps) (E := E0_l23Find) (facts_of (List.forall_mem_cons.2 ⟨ok_l6Under, List.forall_mem_nil _⟩)) (by kernel_rfl) rfl (by decide +kernel) (by decide +kernel) ?_
    intro avs hin r h
    unfold K_l23Find at h
    split at h
    · rename_i l1 l2 p q done
      obtain ⟨hp, rfl⟩ := gd_o h
      exact ⟨_, ev0_l23Find l1 l2 p q done hp, rfl⟩
    · cases h
  | d + 1 => by
    refine fn_ok (fn := Tryz.f28) (k := Tryz.f28.ntmps) (E := E_l23Find d) (facts_of (List.forall_mem_cons.2 ⟨ok_l6Under, List.forall_mem_cons.2 ⟨ok_l23Find d, List.forall_mem_nil _⟩⟩)) (by kernel_rfl) rfl (by decide +kernel) (by decide +kernel) ?_
    intro avs hin r h
    unfold K_l23Find at h
    split at h
    · rename_i l1 l2 p q done
      obtain ⟨hp, rfl⟩ := gd_o h
      exact ⟨_, ev_l23Find d l1 l2 p q done hp, rfl⟩
    · cases h

def K_l23Find64 : List AV → List Ob → Option (AV × List Ob) := K_l23Find 64
theorem ok_l23Find64 : FnOk Tryz.prog 28 K_l23Find64 := ok_l23Find 64


def outI (r : Option (List Int)) (l1 l2 : CL) (p q done : List Int) : AV × List Ob :=
  if done.length = l1.length then (.tup [.own 0, .bool true], [.row 3 (.int .i64) done, .box 40 [.lst (.pair (.int .i64) (.int .i64)) l1], .box 40 [.lst (.pair (.int .i64) (.int .i64)) l2], .box 24 [.lst (.int .i64) p], .box 24 [.lst (.int .i64) q], .box 44 [.clo 23 [.ptr 1 0, .ptr 2 0, .ptr 3 0, .ptr 4 0, .ptr 5 0]]])
  else match r with
    | some z => (.tup [.own 6, .bool true], [.row 3 (.int .i64) done, .box 40 [.lst (.pair (.int .i64) (.int .i64)) l1], .box 40 [.lst (.pair (.int .i64) (.int .i64)) l2], .box 24 [.lst (.int .i64) p], .box 24 [.lst (.int .i64) q], .box 44 [.clo 23 [.ptr 1 0, .ptr 2 0, .ptr 3 0, .ptr 4 0, .ptr 5 0]], .row 3 (.int .i64) z])
    | none => (.tup [.own 6, .bool false], [.row 3 (.int .i64) done, .box 40 [.lst (.pair (.int .i64) (.int .i64)) l1], .box 40 [.lst (.pair (.int .i64) (.int .i64)) l2], .box 24 [.lst (.int .i64) p], .box 24 [.lst (.int .i64) q], .box 44 [.clo 23 [.ptr 1 0, .ptr 2 0, .ptr 3 0, .ptr 4 0, .ptr 5 0]], .row 3 (.int .i64) []])
def K_implFind : Nat → List AV → List Ob → Option (AV × List Ob)
  | d, [.own 0, .ptr 1 0, .ptr 2 0, .ptr 3 0, .ptr 4 0, .ptr 5 0], [.row 3 (.int .i64) done, .box 40 [.lst (.pair (.int .i64) (.int .i64)) l1], .box 40 [.lst (.pair (.int .i64) (.int .i64)) l2], .box 24 [.lst (.int .i64) p], .box 24 [.lst (.int .i64) q], .box 44 [.clo 23 [.ptr 1 0, .ptr 2 0, .ptr 3 0, .ptr 4 0, .ptr 5 0]]] => gd (preF l1 l2 p q done d) (outI (fndR l1.length l2.length (okj1 l1 l2 p q) d done) l1 l2 p q done)
  | _, _, _ => none
@[reducible] def E_implFind (d : Nat) : Env := mkE (tb [(24, K_cloneInt), (25, K_goesOn), (23, K_implFind d)]) (fun f => [23].contains f) (fun r => bif r == 4 then ([0, 1, 2, 3, 4, 5, 20, 21], [0, 1, 2, 3, 4, 5, 7, 8, 20, 21]) else ([], []))
theorem Ki_base {d : Nat} {l1 l2 : CL} {p q done : List Int} (h : preF l1 l2 p q done d) (hn : done.length = l1.length) : K_implFind d [.own 0, .ptr 1 0, .ptr 2 0, .ptr 3 0, .ptr 4 0, .ptr 5 0] [.row 3 (.int .i64) done, .box 40 [.lst (.pair (.int .i64) (.int .i64)) l1], .box 40 [.lst (.pair (.int .i64) (.int .i64)) l2], .box 24 [.lst (.int .i64) p], .box 24 [.lst (.int .i64) q], .box 44 [.clo 23 [.ptr 1 0, .ptr 2 0, .ptr 3 0, .ptr 4 0, .ptr 5 0]]] = some (.tup [.own 0, .bool true], [.row 3 (.int .i64) done, .box 40 [.lst (.pair (.int .i64) (.int .i64)) l1], .box 40 [.lst (.pair (.int .i64) (.int .i64)) l2], .box 24 [.lst (.int .i64) p], .box 24 [.lst (.int .i64) q], .box 44 [.clo 23 [.ptr 1 0, .ptr 2 0, .ptr 3 0, .ptr 4 0, .ptr 5 0]]]) := by
  refine (gd_s h).trans ?_
  unfold outI
  rw [if_pos hn]
theorem Ki_some {d : Nat} {l1 l2 : CL} {p q done z : List Int} (h : preF l1 l2 p q done d) (hn : done.length ≠ l1.length) (hz : fndR l1.length l2.length (okj1 l1 l2 p q) d done = some z) : K_implFind d [.own 0, .ptr 1 0, .ptr 2 0, .ptr 3 0, .ptr 4 0, .ptr 5 0] [.row 3 (.int .i64) done, .box 40 [.lst (.pair (.int .i64) (.int .i64)) l1], .box 40 [.lst (.pair (.int .i64) (.int .i64)) l2], .box 24 [.lst (.int .i64) p], .box 24 [.lst (.int .i64) q], .box 44 [.clo 23 [.ptr 1 0, .ptr 2 0, .ptr 3 0, .ptr 4 0, .ptr 5 0]]] = some (.tup [.own 6, .bool true], [.row 3 (.int .i64) done, .box 40 [.lst (.pair (.int .i64) (.int .i64)) l1], .box 40 [.lst (.pair (.int .i64) (.int .i64)) l2], .box 24 [.lst (.int .i64) p], .box 24 [.lst (.int .i64) q], .box 44 [.clo 23 [.ptr 1 0, .ptr 2 0, .ptr 3 0, .ptr 4 0, .ptr 5 0]], .row 3 (.int .i64) z]) := by
  refine (gd_s h).trans ?_
  unfold outI
  rw [if_neg hn, hz]
theorem Ki_none {d : Nat} {l1 l2 : CL} {p q done : List Int} (h : preF l1 l2 p q done d) (hn : done.length ≠ l1.length) (hz : fndR l1.length l2.length (okj1 l1 l2 p q) d done = none) : K_implFind d [.own 0, .ptr 1 0, .ptr 2 0, .ptr 3 0, .ptr 4 0, .ptr 5 0] [.row 3 (.int .i64) done, .box 40 [.lst (.pair (.int .i64) (.int .i64)) l1], .box 40 [.lst (.pair (.int .i64) (.int .i64)) l2], .box 24 [.lst (.int .i64) p], .box 24 [.lst (.int .i64) q], .box 44 [.clo 23 [.ptr 1 0, .ptr 2 0, .ptr 3 0, .ptr 4 0, .ptr 5 0]]] = some (.tup [.own 6, .bool false], [.row 3 (.int .i64) done, .box 40 [.lst (.pair (.int .i64) (.int .i64)) l1], .box 40 [.lst (.pair (.int .i64) (.int .i64)) l2], .box 24 [.lst (.int .i64) p], .box 24 [.lst (.int .i64) q], .box 44 [.clo 23 [.ptr 1 0, .ptr 2 0, .ptr 3 0, .ptr 4 0, .ptr 5 0]], .row 3 (.int .i64) []]) := by
  refine (gd_s h).trans ?_
  unfold outI
  rw [if_neg hn, hz]
def gI (l1 l2 : CL) (p q done : List Int) (dd : Nat) : Nat → Option (List Int) := fun j => bif okj1 l1 l2 p q done j then fndR l1.length l2.length (okj1 l1 l2 p q) dd (done ++ [(j : Int)]) else none
theorem l0_implFind (dd : Nat) (l1 l2 : CL) (h1 : l1.length ≤ 64) (h2 : l2.length ≤ 64) (p q done : List Int) (hp : p.length = l1.length) (hq : q.length = l2.length) (hk : done.length < l1.length) (hd : l1.length ≤ done.length + 1 + dd) (hr : inR l2.length done = true) (k : AX → S → Option (AV × List Ob)) (R : List Int → Option (AV × List Ob))
    (hR : ∀ (j : Int) (z : List Int), k .ret (mkS [0, 1, 2, 3, 4, 5, 7, 8, 20, 21] [.own 0, .ptr 1 0, .ptr 2 0, .ptr 3 0, .ptr 4 0, .ptr 5 0, .own 6, .bool true, .int .i64 (l2.length : Int), .int .i64 j] [some (.row 3 (.int .i64) done), some (.box 40 [.lst (.pair (.int .i64) (.int .i64)) l1]), some (.box 40 [.lst (.pair (.int .i64) (.int .i64)) l2]), some (.box 24 [.lst (.int .i64) p]), some (.box 24 [.lst (.int .i64) q]), some (.box 44 [.clo 23 [.ptr 1 0, .ptr 2 0, .ptr 3 0, .ptr 4 0, .ptr 5 0]]), some (.row 3 (.int .i64) z)]) = R z) (c : Nat) : ∀ (n j : Nat) (x : Int), l2.length - j = c → j ≤ l2.length → x = j → c < n →
    lpAt (E_implFind dd) (lp (E_implFind dd) 6 n) 6 (loopAt Tryz.f23 0) (mkS [0, 1, 2, 3, 4, 5, 20, 21] [.own 0, .ptr 1 0, .ptr 2 0, .ptr 3 0, .ptr 4 0, .ptr 5 0, .int .i64 (l2.length : Int), .int .i64 x] [some (.row 3 (.int .i64) done), some (.box 40 [.lst (.pair (.int .i64) (.int .i64)) l1]), some (.box 40 [.lst (.pair (.int .i64) (.int .i64)) l2]), some (.box 24 [.lst (.int .i64) p]), some (.box 24 [.lst (.int .i64) q]), some (.box 44 [.clo 23 [.ptr 1 0, .ptr 2 0, .ptr 3 0, .ptr 4 0, .ptr 5 0]])]) k =
      match fndL (gI l1 l2 p q done dd) c j with
      | some z => R z
      | none => k (.exit 0) (mkS [0, 1, 2, 3, 4, 5, 7, 8, 20, 21] [.own 0, .ptr 1 0, .ptr 2 0, .ptr 3 0, .ptr 4 0, .ptr 5 0, .any, .any, .int .i64 (l2.length : Int), .int .i64 (l2.length : Int)] [some (.row 3 (.int .i64) done), some (.box 40 [.lst (.pair (.int .i64) (.int .i64)) l1]), some (.box 40 [.lst (.pair (.int .i64) (.int .i64)) l2]), some (.box 24 [.lst (.int .i64) p]), some (.box 24 [.lst (.int .i64) q]), some (.box 44 [.clo 23 [.ptr 1 0, .ptr 2 0, .ptr 3 0, .ptr 4 0, .ptr 5 0]])]) := by
  induction c with
  | zero =>
    intro n j x hc hj hx hn
    have : j = l2.length := by omega
    subst hx this
    rw [lpAt_def, fndL]
    conv => lhs; whnf
    refine br_f (df (by omega)) ?_
    conv => lhs; whnf
  | succ c ih =>
    intro n j x hc hj hx hn
    obtain ⟨n, rfl⟩ : ∃ m, n = m + 1 := ⟨n - 1, by omega⟩
    subst hx
    have hih := ih n (j + 1) (IntKind.i64.wrap ((j : Int) + 1)) (by omega) (by omega) (by rw [wrap64 (n := (j : Int) + 1) (by omega) (by omega)]; simp) (by omega)
    clear ih
    have hl : (done ++ [(j : Int)]).length = done.length + 1 := by simp
    have hpre : preF l1 l2 p q (done ++ [(j : Int)]) dd := ⟨⟨⟨h1, h2⟩, hp, hq⟩, ⟨by omega, by omega⟩, inR_add hr (by omega)⟩
    have hF0 : okj1 l1 l2 p q done j = false → fndL (gI l1 l2 p q done dd) (c + 1) j = fndL (gI l1 l2 p q done dd) c (j + 1) := fun e => by
      have : gI l1 l2 p q done dd j = none := by unfold gI; rw [e]; rfl
      rw [fndL, this]
    have hF1 : okj1 l1 l2 p q done j = true → gI l1 l2 p q done dd j = fndR l1.length l2.length (okj1 l1 l2 p q) dd (done ++ [(j : Int)]) := fun e => by unfold gI; rw [e]; rfl
    rw [lpAt_def]
    conv => lhs; whnf
    refine br_t (dt (by omega)) ?_
    conv => lhs; whnf
    conv => lhs; arg 1; whnf
    refine bnd_g (by omega) ?_
    conv => lhs; whnf
    refine br_t (dt (by simp [room]; omega)) ?_
    conv => lhs; whnf
    repeat ((first | with_reducible apply br_tt | with_reducible apply br_ff | with_reducible apply br_nf | with_reducible apply br_nt | with_reducible refine br_d ?_ (by kernel_rfl) | with_reducible refine br_t (dt2 (by omega) (by omega)) ?_ | with_reducible refine br_t (dt (by omega)) ?_); conv => lhs; whnf)
    refine br_c (fun ha => ?_) (fun ha => ?_)
    · have e : okj1 l1 l2 p q done j = false := by
        have ha' : (p.getD done.length 0 != q.getD j 0) = true := ha
        unfold okj1; rw [ha']; rfl
      conv => lhs; whnf
      repeat ((first | with_reducible apply br_tt | with_reducible apply br_ff | with_reducible apply br_nf | with_reducible apply br_nt | with_reducible refine br_d ?_ (by kernel_rfl) | with_reducible apply br_t ha | with_reducible apply br_f ha | with_reducible refine br_t (dt2 (by omega) (by omega)) ?_ | with_reducible refine br_t (dt (by omega)) ?_); conv => lhs; whnf)
      conv => rhs; rw [hF0 e]
      exact hih
    · have ha' : (p.getD done.length 0 != q.getD j 0) = false := ha
      conv => lhs; whnf
      repeat ((first | with_reducible apply br_tt | with_reducible apply br_ff | with_reducible apply br_nf | with_reducible apply br_nt | with_reducible refine br_d ?_ (by kernel_rfl) | with_reducible apply br_t ha | with_reducible apply br_f ha | with_reducible refine br_t (dt2 (by omega) (by omega)) ?_ | with_reducible refine br_t (dt (by omega)) ?_); conv => lhs; whnf)
      conv => lhs; arg 1; whnf
      refine bnd_g (by exact ⟨⟨h1, h2⟩, ⟨by rw [hl]; omega, by rw [hl]; omega⟩, inR_add hr (by omega)⟩) ?_
      conv => lhs; whnf
      repeat ((first | with_reducible apply br_tt | with_reducible apply br_ff | with_reducible apply br_nf | with_reducible apply br_nt | with_reducible refine br_d ?_ (by kernel_rfl) | with_reducible apply br_t ha | with_reducible apply br_f ha | with_reducible refine br_t (dt2 (by omega) (by omega)) ?_ | with_reducible refine br_t (dt (by omega)) ?_); conv => lhs; whnf)
      refine br_c (fun hb => ?_) (fun hb => ?_)
      · have e : okj1 l1 l2 p q done j = false := by
          have hb' : gOn l1 l2 (done ++ [(j : Int)]) = false := bnt hb
          unfold okj1; rw [ha', hb']; rfl
        conv => lhs; whnf
        repeat ((first | with_reducible apply br_tt | with_reducible apply br_ff | with_reducible apply br_nf | with_reducible apply br_nt | with_reducible refine br_d ?_ (by kernel_rfl) | with_reducible apply br_t ha | with_reducible apply br_f ha | with_reducible refine br_t (dt2 (by omega) (by omega)) ?_ | with_reducible refine br_t (dt (by omega)) ?_); conv => lhs; whnf)
        conv => rhs; rw [hF0 e]
        exact hih
      · have e : okj1 l1 l2 p q done j = true := by
          have hb' : gOn l1 l2 (done ++ [(j : Int)]) = true := bnf hb
          unfold okj1; rw [ha', hb']; rfl
        have hf := hF1 e
        conv => lhs; whnf
        repeat ((first | with_reducible apply br_tt | with_reducible apply br_ff | with_reducible apply br_nf | with_reducible apply br_nt | with_reducible refine br_d ?_ (by kernel_rfl) | with_reducible apply br_t ha | with_reducible apply br_f ha | with_reducible refine br_t (dt2 (by omega) (by omega)) ?_ | with_reducible refine br_t (dt (by omega)) ?_); conv => lhs; whnf)
        refine Or.elim (Classical.em ((done ++ [(j : Int)]).length = l1.length)) (fun hn => ?_) (fun hn => ?_)
        · have hs : fndL (gI l1 l2 p q done dd) (c + 1) j = some (done ++ [(j : Int)]) := by rw [fndL, hf, fnd_base dd hn]
          conv => rhs; rw [hs]
          refine bnd_s (Ki_base hpre hn) ?_
          conv => lhs; whnf
          repeat ((first | with_reducible apply br_tt | with_reducible apply br_ff | with_reducible apply br_nf | with_reducible apply br_nt | with_reducible refine br_d ?_ (by kernel_rfl)); conv => lhs; whnf)
          exact hR _ _
        · refine Or.elim (opt_or (fndR l1.length l2.length (okj1 l1 l2 p q) dd (done ++ [(j : Int)]))) (fun hz => ?_) (fun hz => Exists.elim hz fun z hz => ?_)
          · have hs : fndL (gI l1 l2 p q done dd) (c + 1) j = fndL (gI l1 l2 p q done dd) c (j + 1) := by rw [fndL, hf, hz]
            conv => rhs; rw [hs]
            refine bnd_s (Ki_none hpre hn hz) ?_
            conv => lhs; whnf
            repeat ((first | with_reducible apply br_tt | with_reducible apply br_ff | with_reducible apply br_nf | with_reducible apply br_nt | with_reducible refine br_d ?_ (by kernel_rfl)); conv => lhs; whnf)
            exact hih
          · have hs : fndL (gI l1 l2 p q done dd) (c + 1) j = some z := by rw [fndL, hf, hz]
            conv => rhs; rw [hs]
            refine bnd_s (Ki_some hpre hn hz) ?_
            conv => lhs; whnf
            repeat ((first | with_reducible apply br_tt | with_reducible apply br_ff | with_reducible apply br_nf | with_reducible apply br_nt | with_reducible refine br_d ?_ (by kernel_rfl)); conv => lhs; whnf)
            exact hR _ _
theorem ev_implFind (dd : Nat) (l1 l2 : CL) (p q done : List Int) (h : preF l1 l2 p q done (dd + 1)) : evF (E_implFind dd) 200 Tryz.f23 [.own 0, .ptr 1 0, .ptr 2 0, .ptr 3 0, .ptr 4 0, .ptr 5 0] [.row 3 (.int .i64) done, .box 40 [.lst (.pair (.int .i64) (.int .i64)) l1], .box 40 [.lst (.pair (.int .i64) (.int .i64)) l2], .box 24 [.lst (.int .i64) p], .box 24 [.lst (.int .i64) q], .box 44 [.clo 23 [.ptr 1 0, .ptr 2 0, .ptr 3 0, .ptr 4 0, .ptr 5 0]]] = some (outI (fndR l1.length l2.length (okj1 l1 l2 p q) (dd + 1) done) l1 l2 p q done) := by
  obtain ⟨⟨⟨h1, h2⟩, hp, hq⟩, ⟨h3, h4⟩, h5⟩ := h
  by_cases hn : done.length = l1.length
  · have e : outI (fndR l1.length l2.length (okj1 l1 l2 p q) (dd + 1) done) l1 l2 p q done = (.tup [.own 0, .bool true], [.row 3 (.int .i64) done, .box 40 [.lst (.pair (.int .i64) (.int .i64)) l1], .box 40 [.lst (.pair (.int .i64) (.int .i64)) l2], .box 24 [.lst (.int .i64) p], .box 24 [.lst (.int .i64) q], .box 44 [.clo 23 [.ptr 1 0, .ptr 2 0, .ptr 3 0, .ptr 4 0, .ptr 5 0]]]) := by unfold outI; rw [if_pos hn]
    rw [e]
    conv => lhs; whnf
    refine br_t (by (rw [hn]; simp)) ?_
    conv => lhs; whnf
  · have hz0 : fndR l1.length l2.length (okj1 l1 l2 p q) (dd + 1) done = fndL (gI l1 l2 p q done dd) l2.length 0 := by
      rw [fndR, show (done.length == l1.length) = false by simpa using hn, cond_false]
      rfl
    have L := fun k R hR => l0_implFind dd l1 l2 h1 h2 p q done hp hq (by omega) (by omega) h5 k R hR l2.length 199 0 0 rfl (Nat.zero_le _) rfl (by omega)
    rw [hz0]
    unfold outI
    rw [if_neg hn]
    conv => lhs; whnf
    refine br_f (by (simp; omega)) ?_
    conv => lhs; whnf
    refine (L _ (fun z => some (.tup [.own 6, .bool true], [.row 3 (.int .i64) done, .box 40 [.lst (.pair (.int .i64) (.int .i64)) l1], .box 40 [.lst (.pair (.int .i64) (.int .i64)) l2], .box 24 [.lst (.int .i64) p], .box 24 [.lst (.int .i64) q], .box 44 [.clo 23 [.ptr 1 0, .ptr 2 0, .ptr 3 0, .ptr 4 0, .ptr 5 0]], .row 3 (.int .i64) z])) (fun j z => by conv => lhs; whnf)).trans ?_
    cases hz : fndL (gI l1 l2 p q done dd) l2.length 0 with
    | some z => rfl
    | none =>
      conv => lhs; whnf
@[reducible] def E0_implFind : Env := mkE (tb [(24, K_cloneInt), (25, K_goesOn)]) (fun f => [23].contains f) (fun r => bif r == 4 then ([0, 1, 2, 3, 4, 5, 20, 21], [0, 1, 2, 3, 4, 5, 7, 8, 20, 21]) else ([], []))
theorem ev0_implFind (l1 l2 : CL) (p q done : List Int) (h : preF l1 l2 p q done 0) : evF E0_implFind 200 Tryz.f23 [.own 0, .ptr 1 0, .ptr 2 0, .ptr 3 0, .ptr 4 0, .ptr 5 0] [.row 3 (.int .i64) done, .box 40 [.lst (.pair (.int .i64) (.int .i64)) l1], .box 40 [.lst (.pair (.int .i64) (.int .i64)) l2], .box 24 [.lst (.int .i64) p], .box 24 [.lst (.int .i64) q], .box 44 [.clo 23 [.ptr 1 0, .ptr 2 0, .ptr 3 0, .ptr 4 0, .ptr 5 0]]] = some (outI (fndR l1.length l2.length (okj1 l1 l2 p q) 0 done) l1 l2 p q done) := by
  obtain ⟨⟨⟨h1, h2⟩, hp, hq⟩, ⟨h3, h4⟩, h5⟩ := h
  have hn : done.length = l1.length := by omega
  have e : outI (fndR l1.length l2.length (okj1 l1 l2 p q) 0 done) l1 l2 p q done = (.tup [.own 0, .bool true], [.row 3 (.int .i64) done, .box 40 [.lst (.pair (.int .i64) (.int .i64)) l1], .box 40 [.lst (.pair (.int .i64) (.int .i64)) l2], .box 24 [.lst (.int .i64) p], .box 24 [.lst (.int .i64) q], .box 44 [.clo 23 [.ptr 1 0, .ptr 2 0, .ptr 3 0, .ptr 4 0, .ptr 5 0]]]) := by unfold outI; rw [if_pos hn]
  rw [e]
  conv => lhs; whnf
  refine br_t (by (rw [hn]; simp)) ?_
  conv => lhs; whnf
theorem ok_implFind : ∀ d : Nat, FnOk Tryz.prog 23 (K_implFind d)
  | 0 => by
    refine fn_ok (fn := Tryz.f23) (k := Tryz.f23.ntmps) (E := E0_implFind) (facts_of (List.forall_mem_cons.2 ⟨ok_cloneInt, List.forall_mem_cons.2 ⟨ok_goesOn, List.forall_mem_nil _⟩⟩)) (by kernel_rfl) rfl (by decide +kernel) (by decide +kernel) ?_
    intro avs hin r h
    unfold K_implFind at h
    split at h
    · rename_i done l1 l2 p q
      obtain ⟨hp, rfl⟩ := gd_o h
      exact ⟨_, ev0_implFind l1 l2 p q done hp, rfl⟩
    · cases h
  | d + 1 => by
    refine fn_ok (fn := Tryz.f23) (k := Tryz.f23.ntmps) (E := E_implFind d) (facts_of (List.forall_mem_cons.2 ⟨ok_cloneInt, List.forall_mem_cons.2 ⟨ok_goesOn, List.forall_mem_cons.2 ⟨ok_implFind d, List.forall_mem_nil _⟩⟩⟩)) (by kernel_rfl) rfl (by decide +kernel) (by decide +kernel) ?_
    intro avs hin r h
    unfold K_implFind at h
    split at h
    · rename_i done l1 l2 p q
      obtain ⟨hp, rfl⟩ := gd_o h
      exact ⟨_, ev_implFind d l1 l2 p q done hp, rfl⟩
    · cases h

def outJ (r : Option (List Int)) (l1 l2 : CL) (p q : List Int) : AV × List Ob :=
  match r with
    | some z => (.tup [.own 5, .bool true], [.box 40 [.lst (.pair (.int .i64) (.int .i64)) l1], .box 40 [.lst (.pair (.int .i64) (.int .i64)) l2], .box 24 [.lst (.int .i64) p], .box 24 [.lst (.int .i64) q], .box 44 [.clo 23 [.ptr 0 0, .ptr 1 0, .ptr 2 0, .ptr 3 0, .ptr 4 0]], .row 3 (.int .i64) z])
    | none => (.tup [.own 5, .bool false], [.box 40 [.lst (.pair (.int .i64) (.int .i64)) l1], .box 40 [.lst (.pair (.int .i64) (.int .i64)) l2], .box 24 [.lst (.int .i64) p], .box 24 [.lst (.int .i64) q], .box 44 [.clo 23 [.ptr 0 0, .ptr 1 0, .ptr 2 0, .ptr 3 0, .ptr 4 0]], .row 3 (.int .i64) []])
def K_implFind0 : List AV → List Ob → Option (AV × List Ob)
  | [.lst (.int .i64) done, .ptr 0 0, .ptr 1 0, .ptr 2 0, .ptr 3 0, .ptr 4 0], [.box 40 [.lst (.pair (.int .i64) (.int .i64)) l1], .box 40 [.lst (.pair (.int .i64) (.int .i64)) l2], .box 24 [.lst (.int .i64) p], .box 24 [.lst (.int .i64) q], .box 44 [.clo 23 [.ptr 0 0, .ptr 1 0, .ptr 2 0, .ptr 3 0, .ptr 4 0]]] => gd (preF l1 l2 p q done 64 ∧ done.length ≠ l1.length) (outJ (fndR l1.length l2.length (okj1 l1 l2 p q) 64 done) l1 l2 p q)
  | _, _ => none
@[reducible] def E_implFind0 : Env := mkE (tb [(24, K_cloneInt), (25, K_goesOn), (23, K_implFind 63)]) (fun f => [23].contains f) (fun r => bif r == 4 then ([0, 1, 2, 3, 4, 5, 20, 21], [0, 1, 2, 3, 4, 5, 7, 8, 20, 21]) else ([], []))
theorem l0_implFind0 (l1 l2 : CL) (h1 : l1.length ≤ 64) (h2 : l2.length ≤ 64) (p q done : List Int) (hp : p.length = l1.length) (hq : q.length = l2.length) (hk : done.length < l1.length) (hd : l1.length ≤ done.length + 1 + 63) (hr : inR l2.length done = true) (k : AX → S → Option (AV × List Ob)) (R : List Int → Option (AV × List Ob))
    (hR : ∀ (j : Int) (z : List Int), k .ret (mkS [0, 1, 2, 3, 4, 5, 7, 8, 20, 21] [.lst (.int .i64) done, .ptr 0 0, .ptr 1 0, .ptr 2 0, .ptr 3 0, .ptr 4 0, .own 5, .bool true, .int .i64 (l2.length : Int), .int .i64 j] [some (.box 40 [.lst (.pair (.int .i64) (.int .i64)) l1]), some (.box 40 [.lst (.pair (.int .i64) (.int .i64)) l2]), some (.box 24 [.lst (.int .i64) p]), some (.box 24 [.lst (.int .i64) q]), some (.box 44 [.clo 23 [.ptr 0 0, .ptr 1 0, .ptr 2 0, .ptr 3 0, .ptr 4 0]]), some (.row 3 (.int .i64) z)]) = R z) (c : Nat) : ∀ (n j : Nat) (x : Int), l2.length - j = c → j ≤ l2.length → x = j → c < n →
    lpAt E_implFind0 (lp E_implFind0 5 n) 5 (loopAt Tryz.f23 0) (mkS [0, 1, 2, 3, 4, 5, 20, 21] [.lst (.int .i64) done, .ptr 0 0, .ptr 1 0, .ptr 2 0, .ptr 3 0, .ptr 4 0, .int .i64 (l2.length : Int), .int .i64 x] [some (.box 40 [.lst (.pair (.int .i64) (.int .i64)) l1]), some (.box 40 [.lst (.pair (.int .i64) (.int .i64)) l2]), some (.box 24 [.lst (.int .i64) p]), some (.box 24 [.lst (.int .i64) q]), some (.box 44 [.clo 23 [.ptr 0 0, .ptr 1 0, .ptr 2 0, .ptr 3 0, .ptr 4 0]])]) k =
      match fndL (gI l1 l2 p q done 63) c j with
      | some z => R z
      | none => k (.exit 0) (mkS [0, 1, 2, 3, 4, 5, 7, 8, 20, 21] [.lst (.int .i64) done, .ptr 0 0, .ptr 1 0, .ptr 2 0, .ptr 3 0, .ptr 4 0, .any, .any, .int .i64 (l2.length : Int), .int .i64 (l2.length : Int)] [some (.box 40 [.lst (.pair (.int .i64) (.int .i64)) l1]), some (.box 40 [.lst (.pair (.int .i64) (.int .i64)) l2]), some (.box 24 [.lst (.int .i64) p]), some (.box 24 [.lst (.int .i64) q]), some (.box 44 [.clo 23 [.ptr 0 0, .ptr 1 0, .ptr 2 0, .ptr 3 0, .ptr 4 0]])]) := by
  induction c with
  | zero =>
    intro n j x hc hj hx hn
    have : j = l2.length := by omega
    subst hx this
    rw [lpAt_def, fndL]
    conv => lhs; whnf
    refine br_f (df (by omega)) ?_
    conv => lhs; whnf
  | succ c ih =>
    intro n j x hc hj hx hn
    obtain ⟨n, rfl⟩ : ∃ m, n = m + 1 := ⟨n - 1, by omega⟩
    subst hx
    have hih := ih n (j + 1) (IntKind.i64.wrap ((j : Int) + 1)) (by omega) (by omega) (by rw [wrap64 (n := (j : Int) + 1) (by omega) (by omega)]; simp) (by omega)
    clear ih
    have hl : (done ++ [(j : Int)]).length = done.length + 1 := by simp
    have hpre : preF l1 l2 p q (done ++ [(j : Int)]) 63 := ⟨⟨⟨h1, h2⟩, hp, hq⟩, ⟨by omega, by omega⟩, inR_add hr (by omega)⟩
    have hF0 : okj1 l1 l2 p q done j = false → fndL (gI l1 l2 p q done 63) (c + 1) j = fndL (gI l1 l2 p q done 63) c (j + 1) := fun e => by
      have : gI l1 l2 p q done 63 j = none := by unfold gI; rw [e]; rfl
      rw [fndL, this]
    have hF1 : okj1 l1 l2 p q done j = true → gI l1 l2 p q done 63 j = fndR l1.length l2.length (okj1 l1 l2 p q) 63 (done ++ [(j : Int)]) := fun e => by unfold gI; rw [e]; rfl
    rw [lpAt_def]
    conv => lhs; whnf
    refine br_t (dt (by omega)) ?_
    conv => lhs; whnf
    conv => lhs; arg 1; whnf
    refine bnd_g (by omega) ?_
    conv => lhs; whnf
    refine br_t (dt (by simp [room]; omega)) ?_
    conv => lhs; whnf
    repeat ((first | with_reducible apply br_tt | with_reducible apply br_ff | with_reducible apply br_nf | with_reducible apply br_nt | with_reducible refine br_d ?_ (by kernel_rfl) | with_reducible refine br_t (dt2 (by omega) (by omega)) ?_ | with_reducible refine br_t (dt (by omega)) ?_); conv => lhs; whnf)
    refine br_c (fun ha => ?_) (fun ha => ?_)
    · have e : okj1 l1 l2 p q done j = false := by
        have ha' : (p.getD done.length 0 != q.getD j 0) = true := ha
        unfold okj1; rw [ha']; rfl
      conv => lhs; whnf
      repeat ((first | with_reducible apply br_tt | with_reducible apply br_ff | with_reducible apply br_nf | with_reducible apply br_nt | with_reducible refine br_d ?_ (by kernel_rfl) | with_reducible apply br_t ha | with_reducible apply br_f ha | with_reducible refine br_t (dt2 (by omega) (by omega)) ?_ | with_reducible refine br_t (dt (by omega)) ?_); conv => lhs; whnf)
      conv => rhs; rw [hF0 e]
      exact hih
    · have ha' : (p.getD done.length 0 != q.getD j 0) = false := ha
      conv => lhs; whnf
      repeat ((first | with_reducible apply br_tt | with_reducible apply br_ff | with_reducible apply br_nf | with_reducible apply br_nt | with_reducible refine br_d ?_ (by kernel_rfl) | with_reducible apply br_t ha | with_reducible apply br_f ha | with_reducible refine br_t (dt2 (by omega) (by omega)) ?_ | with_reducible refine br_t (dt (by omega)) ?_); conv => lhs; whnf)
      conv => lhs; arg 1; whnf
      refine bnd_g (by exact ⟨⟨h1, h2⟩, ⟨by rw [hl]; omega, by rw [hl]; omega⟩, inR_add hr (by omega)⟩) ?_
      conv => lhs; whnf
      repeat ((first | with_reducible apply br_tt | with_reducible apply br_ff | with_reducible apply br_nf | with_reducible apply br_nt | with_reducible refine br_d ?_ (by kernel_rfl) | with_reducible apply br_t ha | with_reducible apply br_f ha | with_reducible refine br_t (dt2 (by omega) (by omega)) ?_ | with_reducible refine br_t (dt (by omega)) ?_); conv => lhs; whnf)
      refine br_c (fun hb => ?_) (fun hb => ?_)
      · have e : okj1 l1 l2 p q done j = false := by
          have hb' : gOn l1 l2 (done ++ [(j : Int)]) = false := bnt hb
          unfold okj1; rw [ha', hb']; rfl
        conv => lhs; whnf
        repeat ((first | with_reducible apply br_tt | with_reducible apply br_ff | with_reducible apply br_nf | with_reducible apply br_nt | with_reducible refine br_d ?_ (by kernel_rfl) | with_reducible apply br_t ha | with_reducible apply br_f ha | with_reducible refine br_t (dt2 (by omega) (by omega)) ?_ | with_reducible refine br_t (dt (by omega)) ?_); conv => lhs; whnf)
        conv => rhs; rw [hF0 e]
        exact hih
      · have e : okj1 l1 l2 p q done j = true := by
          have hb' : gOn l1 l2 (done ++ [(j : Int)]) = true := bnf hb
          unfold okj1; rw [ha', hb']; rfl
        have hf := hF1 e
        conv => lhs; whnf
        repeat ((first | with_reducible apply br_tt | with_reducible apply br_ff | with_reducible apply br_nf | with_reducible apply br_nt | with_reducible refine br_d ?_ (by kernel_rfl) | with_reducible apply br_t ha | with_reducible apply br_f ha | with_reducible refine br_t (dt2 (by omega) (by omega)) ?_ | with_reducible refine br_t (dt (by omega)) ?_); conv => lhs; whnf)
        refine Or.elim (Classical.em ((done ++ [(j : Int)]).length = l1.length)) (fun hn => ?_) (fun hn => ?_)
        · have hs : fndL (gI l1 l2 p q done 63) (c + 1) j = some (done ++ [(j : Int)]) := by rw [fndL, hf, fnd_base 63 hn]
          conv => rhs; rw [hs]
          refine bnd_s (Ki_base hpre hn) ?_
          conv => lhs; whnf
          repeat ((first | with_reducible apply br_tt | with_reducible apply br_ff | with_reducible apply br_nf | with_reducible apply br_nt | with_reducible refine br_d ?_ (by kernel_rfl)); conv => lhs; whnf)
          exact hR _ _
        · refine Or.elim (opt_or (fndR l1.length l2.length (okj1 l1 l2 p q) 63 (done ++ [(j : Int)]))) (fun hz => ?_) (fun hz => Exists.elim hz fun z hz => ?_)
          · have hs : fndL (gI l1 l2 p q done 63) (c + 1) j = fndL (gI l1 l2 p q done 63) c (j + 1) := by rw [fndL, hf, hz]
            conv => rhs; rw [hs]
            refine bnd_s (Ki_none hpre hn hz) ?_
            conv => lhs; whnf
            repeat ((first | with_reducible apply br_tt | with_reducible apply br_ff | with_reducible apply br_nf | with_reducible apply br_nt | with_reducible refine br_d ?_ (by kernel_rfl)); conv => lhs; whnf)
            exact hih
          · have hs : fndL (gI l1 l2 p q done 63) (c + 1) j = some z := by rw [fndL, hf, hz]
            conv => rhs; rw [hs]
            refine bnd_s (Ki_some hpre hn hz) ?_
            conv => lhs; whnf
            repeat ((first | with_reducible apply br_tt | with_reducible apply br_ff | with_reducible apply br_nf | with_reducible apply br_nt | with_reducible refine br_d ?_ (by kernel_rfl)); conv => lhs; whnf)
            exact hR _ _
theorem ev_implFind0 (l1 l2 : CL) (p q done : List Int) (h : preF l1 l2 p q done 64 ∧ done.length ≠ l1.length) : evF E_implFind0 200 Tryz.f23 [.lst (.int .i64) done, .ptr 0 0, .ptr 1 0, .ptr 2 0, .ptr 3 0, .ptr 4 0] [.box 40 [.lst (.pair (.int .i64) (.int .i64)) l1], .box 40 [.lst (.pair (.int .i64) (.int .i64)) l2], .box 24 [.lst (.int .i64) p], .box 24 [.lst (.int .i64) q], .box 44 [.clo 23 [.ptr 0 0, .ptr 1 0, .ptr 2 0, .ptr 3 0, .ptr 4 0]]] = some (outJ (fndR l1.length l2.length (okj1 l1 l2 p q) 64 done) l1 l2 p q) := by
  obtain ⟨⟨⟨⟨h1, h2⟩, hp, hq⟩, ⟨h3, h4⟩, h5⟩, hn⟩ := h
  have hz0 : fndR l1.length l2.length (okj1 l1 l2 p q) 64 done = fndL (gI l1 l2 p q done 63) l2.length 0 := by
    rw [fndR, show (done.length == l1.length) = false by simpa using hn, cond_false]
    rfl
  have L := fun k R hR => l0_implFind0 l1 l2 h1 h2 p q done hp hq (by omega) (by omega) h5 k R hR l2.length 199 0 0 rfl (Nat.zero_le _) rfl (by omega)
  rw [hz0]
  unfold outJ
  conv => lhs; whnf
  refine br_f (by (simp; omega)) ?_
  conv => lhs; whnf
  refine (L _ (fun z => some (.tup [.own 5, .bool true], [.box 40 [.lst (.pair (.int .i64) (.int .i64)) l1], .box 40 [.lst (.pair (.int .i64) (.int .i64)) l2], .box 24 [.lst (.int .i64) p], .box 24 [.lst (.int .i64) q], .box 44 [.clo 23 [.ptr 0 0, .ptr 1 0, .ptr 2 0, .ptr 3 0, .ptr 4 0]], .row 3 (.int .i64) z])) (fun j z => by conv => lhs; whnf)).trans ?_
  cases hz : fndL (gI l1 l2 p q done 63) l2.length 0 with
  | some z => rfl
  | none =>
    conv => lhs; whnf
theorem ok_implFind0 : FnOk Tryz.prog 23 K_implFind0 := by
  refine fn_ok (fn := Tryz.f23) (k := Tryz.f23.ntmps) (E := E_implFind0) (facts_of (List.forall_mem_cons.2 ⟨ok_cloneInt, List.forall_mem_cons.2 ⟨ok_goesOn, List.forall_mem_cons.2 ⟨ok_implFind 63, List.forall_mem_nil _⟩⟩⟩)) (by kernel_rfl) rfl (by decide +kernel) (by decide +kernel) ?_
  intro avs hin r h
  unfold K_implFind0 at h
  split at h
  · rename_i done l1 l2 p q
    obtain ⟨hp, rfl⟩ := gd_o h
    exact ⟨_, ev_implFind0 l1 l2 p q done hp, rfl⟩
  · cases h
theorem Kj_some {l1 l2 : CL} {p q done z : List Int} (h : preF l1 l2 p q done 64 ∧ done.length ≠ l1.length) (hz : fndR l1.length l2.length (okj1 l1 l2 p q) 64 done = some z) : K_implFind0 [.lst (.int .i64) done, .ptr 0 0, .ptr 1 0, .ptr 2 0, .ptr 3 0, .ptr 4 0] [.box 40 [.lst (.pair (.int .i64) (.int .i64)) l1], .box 40 [.lst (.pair (.int .i64) (.int .i64)) l2], .box 24 [.lst (.int .i64) p], .box 24 [.lst (.int .i64) q], .box 44 [.clo 23 [.ptr 0 0, .ptr 1 0, .ptr 2 0, .ptr 3 0, .ptr 4 0]]] = some (.tup [.own 5, .bool true], [.box 40 [.lst (.pair (.int .i64) (.int .i64)) l1], .box 40 [.lst (.pair (.int .i64) (.int .i64)) l2], .box 24 [.lst (.int .i64) p], .box 24 [.lst (.int .i64) q], .box 44 [.clo 23 [.ptr 0 0, .ptr 1 0, .ptr 2 0, .ptr 3 0, .ptr 4 0]], .row 3 (.int .i64) z]) := by
  refine (gd_s h).trans ?_
  unfold outJ
  rw [hz]
theorem Kj_none {l1 l2 : CL} {p q done : List Int} (h : preF l1 l2 p q done 64 ∧ done.length ≠ l1.length) (hz : fndR l1.length l2.length (okj1 l1 l2 p q) 64 done = none) : K_implFind0 [.lst (.int .i64) done, .ptr 0 0, .ptr 1 0, .ptr 2 0, .ptr 3 0, .ptr 4 0] [.box 40 [.lst (.pair (.int .i64) (.int .i64)) l1], .box 40 [.lst (.pair (.int .i64) (.int .i64)) l2], .box 24 [.lst (.int .i64) p], .box 24 [.lst (.int .i64) q], .box 44 [.clo 23 [.ptr 0 0, .ptr 1 0, .ptr 2 0, .ptr 3 0, .ptr 4 0]]] = some (.tup [.own 5, .bool false], [.box 40 [.lst (.pair (.int .i64) (.int .i64)) l1], .box 40 [.lst (.pair (.int .i64) (.int .i64)) l2], .box 24 [.lst (.int .i64) p], .box 24 [.lst (.int .i64) q], .box 44 [.clo 23 [.ptr 0 0, .ptr 1 0, .ptr 2 0, .ptr 3 0, .ptr 4 0]], .row 3 (.int .i64) []]) := by
  refine (gd_s h).trans ?_
  unfold outJ
  rw [hz]

end Go.Sym
