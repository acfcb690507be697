/- Functions of the program, each told as a plain equation. -/
import Derived.Test.YtihpicaamaeooaaGreatDoorSymD1
namespace Go.Sym
open Go.Proofs
set_option linter.unusedVariables false
set_option linter.unusedSimpArgs false
set_option maxRecDepth 100000
set_option maxHeartbeats 4000000

/-- From here on the count of draws is not told. -/
instance softDm : Dm := ⟨False⟩
def posI (ys : List Int) (x : Int) : Nat → Nat
  | 0 => 0
  | p + 1 => bif decide (ys.getD p 0 > x) then posI ys x p else p + 1
def insI (ys : List Int) (x : Int) : List Int := ys.take (posI ys x ys.length) ++ x :: ys.drop (posI ys x ys.length)
def sortS : List Int → List Int → List Int
  | [], acc => acc
  | x :: r, acc => sortS r (insI acc x)
theorem posI_le (ys : List Int) (x : Int) : ∀ p, posI ys x p ≤ p
  | 0 => Nat.le_refl 0
  | p + 1 => by
    have := posI_le ys x p
    rw [posI]
    cases decide (ys.getD p 0 > x)
    · exact Nat.le_refl _
    · rw [cond_true]; omega
theorem posI_gt (ys : List Int) (x : Int) : ∀ p j, posI ys x p ≤ j → j < p → ys.getD j 0 > x
  | 0, j, _, h => by omega
  | p + 1, j, h1, h2 => by
    rw [posI] at h1
    cases hd : decide (ys.getD p 0 > x)
    · rw [hd, cond_false] at h1; omega
    · rw [hd, cond_true] at h1
      rcases Nat.lt_or_ge j p with h3 | h3
      · exact posI_gt ys x p j h1 h3
      · have : j = p := by omega
        subst this
        exact of_decide_eq_true hd
theorem posI_last (ys : List Int) (x : Int) : ∀ p, 0 < posI ys x p → ys.getD (posI ys x p - 1) 0 ≤ x
  | 0, h => by simp [posI] at h
  | p + 1, h => by
    rw [posI] at h ⊢
    cases hd : decide (ys.getD p 0 > x)
    · rw [cond_false, Nat.add_sub_cancel]
      have := of_decide_eq_false hd
      omega
    · rw [hd, cond_true] at h
      rw [cond_true]
      exact posI_last ys x p h
theorem insI_perm (ys : List Int) (x : Int) : (insI ys x).Perm (x :: ys) := by
  unfold insI
  refine List.perm_middle.trans ?_
  rw [List.take_append_drop]
theorem insI_sorted {ys : List Int} (h : ys.Pairwise (· ≤ ·)) (x : Int) : (insI ys x).Pairwise (· ≤ ·) := by
  have hp := posI_le ys x ys.length
  have hg := posI_gt ys x ys.length
  have hl := posI_last ys x ys.length
  unfold insI
  generalize posI ys x ys.length = p at hp hg hl
  rw [List.pairwise_append]
  have hle : ∀ a ∈ ys.take p, a ≤ x := by
    intro a ha
    obtain ⟨i, hi, rfl⟩ := List.mem_iff_getElem.1 ha
    rw [List.length_take] at hi
    have h0 := hl (by omega)
    rw [List.getElem_take]
    have e : ys.getD (p - 1) 0 = ys[p - 1] := by simp [List.getD, show p - 1 < ys.length by omega]
    rw [e] at h0
    rcases Nat.lt_or_ge i (p - 1) with h3 | h3
    · exact Int.le_trans (List.pairwise_iff_getElem.1 h i (p - 1) (by omega) (by omega) h3) h0
    · have : i = p - 1 := by omega
      subst this; exact h0
  have hge : ∀ b ∈ ys.drop p, x ≤ b := by
    intro b hb
    obtain ⟨i, hi, rfl⟩ := List.mem_iff_getElem.1 hb
    rw [List.length_drop] at hi
    have := hg (p + i) (by omega) (by omega)
    rw [List.getElem_drop]
    have e : ys.getD (p + i) 0 = ys[p + i] := by simp [List.getD, show p + i < ys.length by omega]
    omega
  refine ⟨h.sublist (List.take_sublist _ _), ?_, ?_⟩
  · rw [List.pairwise_cons]
    exact ⟨hge, h.sublist (List.drop_sublist _ _)⟩
  · intro a ha b hb
    rcases List.mem_cons.1 hb with rfl | hb
    · exact hle a ha
    · exact Int.le_trans (hle a ha) (hge b hb)
theorem sortS_sorted : ∀ (ys acc : List Int), acc.Pairwise (· ≤ ·) → (sortS ys acc).Pairwise (· ≤ ·) ∧ (sortS ys acc).Perm (ys ++ acc)
  | [], acc, h => ⟨h, List.Perm.refl _⟩
  | x :: r, acc, h => by
    obtain ⟨h1, h2⟩ := sortS_sorted r (insI acc x) (insI_sorted h x)
    refine ⟨h1, h2.trans ?_⟩
    refine ((insI_perm acc x).append_left r).trans ?_
    rw [List.cons_append]
    exact List.perm_middle
theorem sortS_eq (ys : List Int) : sortS ys [] = sortI ys := by
  obtain ⟨h1, h2⟩ := sortS_sorted ys [] List.Pairwise.nil
  rw [List.append_nil] at h2
  have h3 : (sortI ys).Pairwise (fun a b => decide (a ≤ b) = true) := List.pairwise_mergeSort (fun a b c h g => by simp at *; omega) (fun a b => by simp; omega) ys
  have h3 : (sortI ys).Pairwise (· ≤ ·) := h3.imp fun h => of_decide_eq_true h
  exact List.Perm.eq_of_pairwise (le := (· ≤ ·)) (fun a b _ _ h g => Int.le_antisymm h g) h1 h3 (h2.trans (List.mergeSort_perm ys _).symm)
theorem sortS_len (ys acc : List Int) (h : acc.Pairwise (· ≤ ·)) : (sortS ys acc).length = ys.length + acc.length := by
  rw [(sortS_sorted ys acc h).2.length_eq, List.length_append]
theorem insI_len (ys : List Int) (x : Int) : (insI ys x).length = ys.length + 1 := by
  rw [(insI_perm ys x).length_eq, List.length_cons]
def undB (l : List (Int × Int)) (x a : Nat) : Bool := band (l.getD x (0, 0)).1 (l.getD a (0, 0)).1 == (l.getD x (0, 0)).1
def blwB (l : List (Int × Int)) (x a : Nat) : Bool := bnot (l.getD x (0, 0)).1 (l.getD a (0, 0)).1 == 0
def markR (f g : Nat → Bool) : Nat → Nat → Int → Int
  | 0, _, q => q
  | d + 1, i, q => markR f g d (i + 1) (q + 100 * (bif f i then 1 else 0) + (bif g i then 1 else 0))
theorem sumB_add (f : Nat → Bool) : ∀ (d i : Nat) (q : Int), sumB f d i q = q + sumB f d i 0
  | 0, i, q => by simp [sumB]
  | d + 1, i, q => by
    rw [sumB, sumB, sumB_add f d (i + 1) (q + bif f i then 1 else 0), sumB_add f d (i + 1) (0 + bif f i then 1 else 0)]
    omega
theorem markR_eq (f g : Nat → Bool) : ∀ (d i : Nat) (q : Int), markR f g d i q = q + 100 * sumB f d i 0 + sumB g d i 0
  | 0, i, q => by simp [markR, sumB]
  | d + 1, i, q => by
    rw [markR, markR_eq f g d (i + 1), sumB, sumB, sumB_add f d (i + 1) (0 + bif f i then 1 else 0), sumB_add g d (i + 1) (0 + bif g i then 1 else 0)]
    omega
def markAt (l : List (Int × Int)) (a : Nat) : Int := 100 * sumB (fun x => undB l x a) l.length 0 0 + sumB (fun x => undB l a x) l.length 0 0
def marksL (l : List (Int × Int)) : Nat → Nat → List Int
  | 0, _ => []
  | d + 1, a => markAt l a :: marksL l d (a + 1)
theorem marksL_len (l : List (Int × Int)) : ∀ (d a : Nat), (marksL l d a).length = d
  | 0, _ => rfl
  | d + 1, a => by rw [marksL, List.length_cons, marksL_len l d]
def chsF (f : Nat → Bool) : Nat → Nat → List Int
  | 0, _ => []
  | d + 1, i => bif f i then (i : Int) :: chsF f d (i + 1) else chsF f d (i + 1)
theorem chsF_len (f : Nat → Bool) : ∀ (d i : Nat), ((chsF f d i).length : Int) = sumB f d i 0
  | 0, i => rfl
  | d + 1, i => by
    have := chsF_len f d (i + 1)
    rw [chsF, sumB, sumB_add f d (i + 1)]
    cases f i
    · rw [cond_false, cond_false, this]; omega
    · rw [cond_true, cond_true, List.length_cons]; push_cast; omega
theorem chsF_le (f : Nat → Bool) : ∀ (d i : Nat), (chsF f d i).length ≤ d
  | 0, i => Nat.le_refl 0
  | d + 1, i => by
    have := chsF_le f d (i + 1)
    rw [chsF]
    cases f i
    · rw [cond_false]; omega
    · rw [cond_true, List.length_cons]; omega
def extsB (l : List (Int × Int)) : Bool := l.all (fun p => isSet 8 p.1)
theorem blw_und {l : List (Int × Int)} (h : extsB l = true) {x : Nat} (hx : x < l.length) (a : Nat) : blwB l x a = undB l x a := by
  unfold blwB undB
  have hs : isSet 8 (l.getD x (0, 0)).1 = true := List.all_eq_true.1 h _ (mem_getD hx)
  have hl := isSet_le hs
  have hn : (l.getD x (0, 0)).1 = (((l.getD x (0, 0)).1.toNat : Nat) : Int) := by omega
  rw [hn]
  exact bnot_sub (by omega)
def profF (m : Int) (b : List Int) : List Int := bif decide ((concF m b).length > 24) then [] else sortI (marksL (concF m b) (concF m b).length 0)
theorem profF_len (m : Int) (b : List Int) : (profF m b).length ≤ 64 := by
  have h := concF_len m b
  unfold profF
  cases decide ((concF m b).length > 24)
  · rw [cond_false, sortI_len, marksL_len]; exact h
  · exact Nat.zero_le _
theorem conc_exts (m : Int) (b : List Int) : extsB (concF m b) = true := by
  unfold extsB
  rw [List.all_eq_true]
  intro p hp
  obtain ⟨h1, h2, h3, h4, h5⟩ := concF_mem hp
  have := isSet_le h3
  rw [isSet8]
  exact dt ⟨by omega, by omega⟩
def allN (g : Nat → Bool) : Nat → Nat → Bool
  | 0, _ => true
  | d + 1, i => g i && allN g d (i + 1)
theorem allN_congr {f g : Nat → Bool} : ∀ (d i : Nat), (∀ j, i ≤ j → j < i + d → f j = g j) → allN f d i = allN g d i
  | 0, _, _ => rfl
  | d + 1, i, h => by
    rw [allN, allN, h i (by omega) (by omega), allN_congr d (i + 1) fun j h1 h2 => h j (by omega) (by omega)]
theorem allN_all (g : Nat → Bool) : ∀ (d i : Nat), allN g d i = (List.range' i d).all g
  | 0, _ => rfl
  | d + 1, i => by rw [allN, List.range'_succ, List.all_cons, allN_all g d (i + 1)]
def udN (l : List (Int × Int)) (x y : Nat) : Bool := ((x : Int) != (y : Int)) && blwB l x y
def covI (l : List (Int × Int)) (a b : Nat) : Bool := udN l a b && allN (fun x => !(udN l a x && udN l x b)) l.length 0
def covS (l : List (Int × Int)) (a b : Nat) : Bool := !(((b : Int) == (a : Int)) || !undB l a b) && allN (fun k => (((k : Int) == (a : Int)) || ((k : Int) == (b : Int))) || !undB l a k || !undB l k b) l.length 0
theorem cov_eq {l : List (Int × Int)} (he : extsB l = true) {a b : Nat} (ha : a < l.length) : covI l a b = covS l a b := by
  unfold covI covS udN
  rw [blw_und he ha b, Bool.beq_comm (a := (b : Int))]
  congr 1
  · cases h1 : (a : Int) == (b : Int) <;> cases undB l a b <;> simp [bne, h1]
  · apply allN_congr
    intro j h1 h2
    rw [blw_und he ha j, blw_und he (show j < l.length by omega) b, Bool.beq_comm (a := (j : Int)) (b := (a : Int))]
    cases h1 : (a : Int) == (j : Int) <;> cases h2 : (j : Int) == (b : Int) <;> cases undB l a j <;> cases undB l j b <;> simp [bne, h1, h2]
theorem chsF_congr {f g : Nat → Bool} : ∀ (d i : Nat), (∀ j, i ≤ j → j < i + d → f j = g j) → chsF f d i = chsF g d i
  | 0, _, _ => rfl
  | d + 1, i, h => by
    rw [chsF, chsF, h i (by omega) (by omega), chsF_congr d (i + 1) fun j h1 h2 => h j (by omega) (by omega)]
theorem chsF_mem (f : Nat → Bool) : ∀ (d i : Nat), ∀ x ∈ chsF f d i, (i : Int) ≤ x ∧ x < ((i + d : Nat) : Int)
  | 0, i, x, h => by cases h
  | d + 1, i, x, h => by
    rw [chsF] at h
    cases hf : f i with
    | true =>
      rw [hf, cond_true] at h
      rcases List.mem_cons.1 h with rfl | h
      · omega
      · have := chsF_mem f d (i + 1) x h; omega
    | false =>
      rw [hf, cond_false] at h
      have := chsF_mem f d (i + 1) x h; omega
def upL (l : List (Int × Int)) (a : Nat) : List Int := chsF (fun x => covI l a x) l.length 0
theorem upL_len (l : List (Int × Int)) (a : Nat) : (upL l a).length ≤ l.length := chsF_le _ _ _
theorem upL_spec {l : List (Int × Int)} (he : extsB l = true) {a : Nat} (ha : a < l.length) : upL l a = chsF (fun x => covS l a x) l.length 0 := chsF_congr _ _ fun j _ _ => cov_eq he ha
def bstr (l : List UInt8) : ByteArray := ⟨l.toArray⟩
theorem bstr_app (l r : List UInt8) : bstr l ++ bstr r = bstr (l ++ r) := by
  apply ByteArray.ext
  rw [ByteArray.data_append]
  simp [bstr]
theorem bstr_size (l : List UInt8) : (bstr l).size = l.length := rfl
def digs (u : Nat) : List UInt8 := if u = 0 then [] else Lib.decDigits u
theorem digs_step {u : Nat} (h : u ≠ 0) : digs u = digs (u / 10) ++ [UInt8.ofNat (48 + u % 10)] := by
  unfold digs
  rw [if_neg h, Lib.decDigits]
  split
  · rename_i h1
    rw [if_pos (by omega), Nat.mod_eq_of_lt h1]
    rfl
  · rename_i h1
    rw [if_neg (by omega)]
theorem digs_len : ∀ (d u : Nat), u < 10 ^ d → (digs u).length ≤ d
  | 0, u, h => by
    have : u = 0 := by simpa using h
    subst this
    simp [digs]
  | d + 1, u, h => by
    by_cases h0 : u = 0
    · subst h0; simp [digs]
    · rw [digs_step h0, List.length_append]
      have := digs_len d (u / 10) (by rw [Nat.pow_succ] at h; omega)
      simp only [List.length_singleton]
      omega
theorem tdiv_abs (n : Int) : (n.tdiv 10).natAbs = n.natAbs / 10 := by
  rw [Int.natAbs_tdiv]; rfl
theorem tmod_abs (n : Int) : (n.tmod 10).natAbs = n.natAbs % 10 := by
  rw [Int.natAbs_tmod]; rfl
theorem byte_of {x : Nat} (h : x < 10) : intsStr [IntKind.u8.wrap (48 + (x : Int))] = bstr [UInt8.ofNat (48 + x)] := by
  have : ∀ x : Fin 10, [UInt8.ofNat (IntKind.u8.wrap (48 + (x.val : Int))).toNat] = [UInt8.ofNat (48 + x.val)] := by decide +kernel
  unfold intsStr bstr
  rw [List.map_cons, List.map_nil, this ⟨x, h⟩]
theorem itoa_digs {n : Int} (h : n ≠ 0) : itoaB n = bif decide (n < 0) then bstr [45] ++ bstr (digs n.natAbs) else bstr (digs n.natAbs) := by
  have h0 : n.natAbs ≠ 0 := by omega
  unfold itoaB Lib.itoa digs
  rw [if_neg h0]
  by_cases hn : n < 0
  · rw [if_pos hn, decide_eq_true hn, cond_true, bstr_app]
    rfl
  · rw [if_neg hn, decide_eq_false hn, cond_false]
    have : n.toNat = n.natAbs := by omega
    rw [this]
    rfl
theorem itoa_zero : itoaB 0 = bstr [48] := by
  unfold itoaB Lib.itoa
  rw [if_neg (by decide), Lib.decDigits]
  rfl
theorem itoa_len {n : Int} (h0 : -9223372036854775808 ≤ n) (h1 : n ≤ 9223372036854775807) : (itoaB n).size ≤ 20 := by
  by_cases h : n = 0
  · subst h; rw [itoa_zero]; decide
  · rw [itoa_digs h]
    have hd := digs_len 19 n.natAbs (by omega)
    cases decide (n < 0)
    · rw [cond_false, bstr_size]; omega
    · rw [cond_true, bstr_app, bstr_size, List.length_append, List.length_singleton]; omega
theorem bstr_nil (s : ByteArray) : bstr [] ++ s = s := by
  apply ByteArray.ext
  rw [ByteArray.data_append]
  simp [bstr]
theorem digs_zero : digs 0 = [] := rfl
theorem digit_pos {x : Int} (h : 0 ≤ x.tmod 10) : intsStr [IntKind.u8.wrap (IntKind.i64.wrap (48 + x.tmod 10))] = bstr [UInt8.ofNat (48 + x.natAbs % 10)] := by
  have e := tmod_abs x
  have e2 : x.tmod 10 = ((x.natAbs % 10 : Nat) : Int) := by omega
  rw [e2, wrap64 (by omega) (by omega)]
  exact byte_of (Nat.mod_lt _ (by omega))
theorem digit_neg {x : Int} (h : ¬ 0 ≤ x.tmod 10) : intsStr [IntKind.u8.wrap (IntKind.i64.wrap (48 + IntKind.i64.wrap (0 - x.tmod 10)))] = bstr [UInt8.ofNat (48 + x.natAbs % 10)] := by
  have e := tmod_abs x
  have e2 : 0 - x.tmod 10 = ((x.natAbs % 10 : Nat) : Int) := by omega
  rw [e2, wrap64 (n := ((x.natAbs % 10 : Nat) : Int)) (by omega) (by omega), wrap64 (by omega) (by omega)]
  exact byte_of (Nat.mod_lt _ (by omega))
def rngB (a : List Int) : Bool := a.all (fun n => decide (-9223372036854775808 ≤ n ∧ n ≤ 9223372036854775807))
theorem rngB_at {a : List Int} (h : rngB a = true) {i : Nat} (hi : i < a.length) : -9223372036854775808 ≤ a.getD i 0 ∧ a.getD i 0 ≤ 9223372036854775807 := of_decide_eq_true (List.all_eq_true.1 h _ (mem_getD hi))
theorem rngB_of {a : List Int} (h : ∀ y ∈ a, (Lit.int .i64 y).wf = true) : rngB a = true := by
  unfold rngB
  rw [List.all_eq_true]
  intro y hy
  have := h y hy
  unfold Lit.wf at this
  simp only [Bool.and_eq_true, decide_eq_true_eq] at this
  exact dt this
def okTxt (ys : List ByteArray) : Bool := ys.all (fun y => decide (y.size ≤ 1048576))
theorem okTxt_iff {ys : List ByteArray} : okTxt ys = true ↔ ∀ y ∈ ys, y.size ≤ 1048576 := by
  unfold okTxt
  simp only [List.all_eq_true, decide_eq_true_eq]
theorem strInts_len (s : ByteArray) : (strInts s).length = s.size := by
  unfold strInts
  rw [List.length_map, Array.length_toList]
  rfl
theorem w64_rng (x : Int) : -9223372036854775808 ≤ w64 x ∧ w64 x ≤ 9223372036854775807 := by
  unfold w64
  simp [IntKind.wrap, IntKind.bits, IntKind.signed]
  omega
theorem spL_rng (m : Int) (b : List Int) : ∀ (l : List Int) (x y : Int), (-9223372036854775808 ≤ x ∧ x ≤ 9223372036854775807) → (-9223372036854775808 ≤ y ∧ y ≤ 9223372036854775807) → (-9223372036854775808 ≤ (spL m b l x y).1 ∧ (spL m b l x y).1 ≤ 9223372036854775807) ∧ (-9223372036854775808 ≤ (spL m b l x y).2 ∧ (spL m b l x y).2 ≤ 9223372036854775807)
  | [], x, y, hx, hy => ⟨hx, hy⟩
  | e :: l, x, y, hx, hy => spL_rng m b l _ _ (w64_rng _) (w64_rng _)
theorem spot_rng (m : Int) (b : List Int) (a : Int) : (-9223372036854775808 ≤ (spotF m b a).1 ∧ (spotF m b a).1 ≤ 9223372036854775807) ∧ (-9223372036854775808 ≤ (spotF m b a).2 ∧ (spotF m b a).2 ≤ 9223372036854775807) := by
  unfold spotF
  cases inC (concF m b) a
  · rw [cond_false]; exact ⟨⟨by decide, by decide⟩, by decide, by decide⟩
  · exact spL_rng m b _ 0 0 ⟨by decide, by decide⟩ ⟨by decide, by decide⟩
theorem w64_rng' (x : Int) : -9223372036854775808 ≤ w64 x ∧ w64 x ≤ 9223372036854775807 := w64_rng x
def wordsL (l : List Int) : List ByteArray := bif l.isEmpty then [⟨#[45]⟩] else l.map itoaB
def dgT (m : Int) (b : List Int) (a : Nat) : ByteArray := ((((((itoaB (a : Int)) ++ ⟨#[32]⟩) ++ itoaB (spotF m b a).1) ++ ⟨#[44]⟩) ++ itoaB (spotF m b a).2) ++ ⟨#[32]⟩) ++ joinF (wordsL (upL (concF m b) a)) ⟨#[44]⟩
def dgL (m : Int) (b : List Int) : Nat → Nat → List ByteArray
  | 0, _ => []
  | d + 1, i => dgT m b i :: dgL m b d (i + 1)
theorem dgL_len (m : Int) (b : List Int) : ∀ (d i : Nat), (dgL m b d i).length = d
  | 0, _ => rfl
  | d + 1, i => by rw [dgL, List.length_cons, dgL_len m b d]
def dgF (m : Int) (b : List Int) : List ByteArray := dgL m b (concF m b).length 0
theorem dgF_len (m : Int) (b : List Int) : (dgF m b).length ≤ 64 := by
  unfold dgF
  rw [dgL_len]
  exact concF_len m b
theorem words_len (l : List Int) : (wordsL l).length ≤ l.length + 1 := by
  unfold wordsL
  cases l <;> simp
theorem words_ok {l : List Int} (h : ∀ x ∈ l, 0 ≤ x ∧ x ≤ 1000000) : okTxt (wordsL l) = true := by
  rw [okTxt_iff]
  intro y hy
  unfold wordsL at hy
  cases he : l.isEmpty with
  | true =>
    rw [he, cond_true] at hy
    have : y = ⟨#[45]⟩ := by simpa using hy
    subst this
    decide
  | false =>
    rw [he, cond_false] at hy
    obtain ⟨x, hx, rfl⟩ := List.mem_map.1 hy
    have h1 := h x hx
    have := itoa_len (n := x) (by omega) (by omega)
    omega
theorem join_le (ys : List ByteArray) (sep : ByteArray) : (joinF ys sep).size ≤ 1048576 := by
  unfold joinF
  split
  · assumption
  · exact Nat.zero_le _
theorem upL_rng {l : List (Int × Int)} (hl : l.length ≤ 64) (a : Nat) : ∀ x ∈ upL l a, 0 ≤ x ∧ x ≤ 1000000 := fun x hx => by
  have := chsF_mem _ _ _ x hx
  omega
theorem lenZ {α : Type} {l : List α} (h : ((l.length : Int) == 0) = true) : l = [] := by
  have : (l.length : Int) = 0 := by simpa using h
  exact List.length_eq_zero_iff.1 (by omega)
theorem isz {i : Nat} (h : i ≤ 64) : (itoaB (i : Int)).size ≤ 20 := itoa_len (by omega) (by omega)
theorem map_dropN (l : List Int) (i : Nat) (h : i < l.length) : (l.drop i).map itoaB = itoaB (l.getD i 0) :: (l.drop (i + 1)).map itoaB := by
  rw [getD_drop (l := l) (i := i) (d := 0) h, List.map_cons]
/- (impl.lattice).below -/
def K_latBelow : List AV → List Ob → Option (AV × List Ob)
  | [.lst (.pair (.int .i64) (.int .i64)) l, .int .i64 x, .int .i64 y], [] => gd ((0 ≤ x ∧ x < l.length) ∧ (0 ≤ y ∧ y < l.length)) (.bool (blwB l x.toNat y.toNat), [])
  | _, _ => none
@[reducible] def E_latBelow : Env := mkE (tb [(51, K_inSet)]) (fun f => false) (fun r => ([], []))
theorem ev_latBelow (l : List (Int × Int)) (x y : Int) (hp : (0 ≤ x ∧ x < l.length) ∧ (0 ≤ y ∧ y < l.length)) : evF E_latBelow (1) Tryz.f150 [.lst (.pair (.int .i64) (.int .i64)) l, .int .i64 x, .int .i64 y] [] = some (.bool (blwB l x.toNat y.toNat), []) := by
  conv => lhs; whnf
  refine br_t (by exact dt2 hp.1.1 hp.1.2) ?_
  conv => lhs; whnf
  refine br_t (by exact dt2 hp.2.1 hp.2.2) ?_
  conv => lhs; whnf
  conv => lhs; arg 1; whnf
  refine bnd_g (by exact True.intro) ?_
  conv => lhs; whnf
  repeat ((first | with_reducible apply br_tt | with_reducible apply br_ff | with_reducible apply br_nf | with_reducible apply br_nt | with_reducible refine br_d ?_ (by kernel_rfl)); conv => lhs; whnf)
  rfl
theorem ok_latBelow : FnOk Tryz.prog 150 K_latBelow := by
  refine fn_ok (fn := Tryz.f150) (k := Tryz.f150.ntmps) (E := E_latBelow) (facts_of (List.forall_mem_cons.2 ⟨(FnOk.soft (fun h => False.elim h) ok_inSet), List.forall_mem_nil _⟩)) (by kernel_rfl) rfl (by decide +kernel) (by decide +kernel) ?_
  intro avs hin r h
  unfold K_latBelow at h
  split at h
  · obtain ⟨hp, rfl⟩ := gd_o h
    exact ⟨_, ev_latBelow _ _ _ hp, rfl⟩
  · cases h

/- (impl.lattice).under -/
def K_latUnder : List AV → List Ob → Option (AV × List Ob)
  | [.lst (.pair (.int .i64) (.int .i64)) l, .int .i64 x, .int .i64 y], [] => gd ((0 ≤ x ∧ x < l.length) ∧ (0 ≤ y ∧ y < l.length)) (.bool (udN l x.toNat y.toNat), [])
  | _, _ => none
@[reducible] def E_latUnder : Env := mkE (tb [(150, K_latBelow)]) (fun f => false) (fun r => ([], []))
theorem ev_latUnder (l : List (Int × Int)) (x y : Int) (hp : (0 ≤ x ∧ x < l.length) ∧ (0 ≤ y ∧ y < l.length)) : evF E_latUnder (1) Tryz.f142 [.lst (.pair (.int .i64) (.int .i64)) l, .int .i64 x, .int .i64 y] [] = some (.bool (udN l x.toNat y.toNat), []) := by
  obtain ⟨i, rfl⟩ : ∃ i : Nat, x = i := ⟨x.toNat, by omega⟩
  obtain ⟨j, rfl⟩ : ∃ j : Nat, y = j := ⟨y.toNat, by omega⟩
  unfold udN
  conv => lhs; whnf
  refine br_c (fun h => ?_) (fun h => ?_)
  · have h' : ((i : Int) != (j : Int)) = true := h
    conv => lhs; whnf
    repeat ((first | with_reducible apply br_tt | with_reducible apply br_ff | with_reducible apply br_nf | with_reducible apply br_nt | with_reducible refine br_d ?_ (by kernel_rfl) | with_reducible apply br_t h | with_reducible apply br_f h); conv => lhs; whnf)
    conv => lhs; arg 1; whnf
    refine bnd_g (by exact hp) ?_
    conv => lhs; whnf
    repeat ((first | with_reducible apply br_tt | with_reducible apply br_ff | with_reducible apply br_nf | with_reducible apply br_nt | with_reducible refine br_d ?_ (by kernel_rfl) | with_reducible apply br_t h | with_reducible apply br_f h); conv => lhs; whnf)
    rw [Int.toNat_natCast, Int.toNat_natCast, h']
    rfl
  · have h' : ((i : Int) != (j : Int)) = false := h
    conv => lhs; whnf
    repeat ((first | with_reducible apply br_tt | with_reducible apply br_ff | with_reducible apply br_nf | with_reducible apply br_nt | with_reducible refine br_d ?_ (by kernel_rfl) | with_reducible apply br_t h | with_reducible apply br_f h); conv => lhs; whnf)
    rw [Int.toNat_natCast, Int.toNat_natCast, h']
    rfl
theorem ok_latUnder : FnOk Tryz.prog 142 K_latUnder := by
  refine fn_ok (fn := Tryz.f142) (k := Tryz.f142.ntmps) (E := E_latUnder) (facts_of (List.forall_mem_cons.2 ⟨ok_latBelow, List.forall_mem_nil _⟩)) (by kernel_rfl) rfl (by decide +kernel) (by decide +kernel) ?_
  intro avs hin r h
  unfold K_latUnder at h
  split at h
  · obtain ⟨hp, rfl⟩ := gd_o h
    exact ⟨_, ev_latUnder _ _ _ hp, rfl⟩
  · cases h

/- (impl.lattice).covers -/
def K_latCovers : List AV → List Ob → Option (AV × List Ob)
  | [.lst (.pair (.int .i64) (.int .i64)) l, .int .i64 x, .int .i64 y], [] => gd (l.length ≤ 64 ∧ (0 ≤ x ∧ x < l.length) ∧ (0 ≤ y ∧ y < l.length)) (.bool (covI l x.toNat y.toNat), [])
  | _, _ => none
@[reducible] def E_latCovers : Env := mkE (tb [(142, K_latUnder)]) (fun f => false) (fun r => bif r == 4 then ([0, 1, 2, 14, 15], [6]) else ([], []))
theorem lp_latCovers (l : List (Int × Int)) (hl : l.length ≤ 64) (a b : Nat) (ha : a < l.length) (hb : b < l.length) (k : AX → S → Option (AV × List Ob)) (d : Nat) : ∀ (n i : Nat) (x : Int), l.length - i = d → i ≤ l.length → x = i → d < n →
    lpAt E_latCovers (lp E_latCovers 0 n) 0 (loopAt Tryz.f130 0) (mkS [0, 1, 2, 14, 15] [.lst (.pair (.int .i64) (.int .i64)) l, .int .i64 (a : Int), .int .i64 (b : Int), .int .i64 l.length, .int .i64 x] []) k =
      bif allN (fun x => !(udN l a x && udN l x b)) d i then k (.exit 0) (mkS [6] [.any] []) else k .ret (mkS [6] [.bool false] []) := by
  induction d with
  | zero =>
    intro n i x hd hi hx hn
    subst hx
    rw [lpAt_def]
    conv => lhs; whnf
    refine br_f (df (by omega)) ?_
    conv => lhs; whnf
    rfl
  | succ d ih =>
    intro n i x hd hi hx hn
    obtain ⟨n, rfl⟩ : ∃ m, n = m + 1 := ⟨n - 1, by omega⟩
    subst hx
    rw [lpAt_def]
    conv => lhs; whnf
    refine br_t (dt (by omega)) ?_
    conv => lhs; whnf
    conv => lhs; arg 1; whnf
    refine bnd_g (by exact ⟨⟨by omega, by omega⟩, by omega, by omega⟩) ?_
    conv => lhs; whnf
    rw [allN]
    refine br_c (fun h => ?_) (fun h => ?_)
    · have h' : udN l a i = true := h
      rw [h']
      conv => lhs; whnf
      repeat ((first | with_reducible apply br_tt | with_reducible apply br_ff | with_reducible apply br_nf | with_reducible apply br_nt | with_reducible refine br_d ?_ (by kernel_rfl) | with_reducible apply br_t h | with_reducible apply br_f h); conv => lhs; whnf)
      conv => lhs; arg 1; whnf
      refine bnd_g (by exact ⟨⟨by omega, by omega⟩, by omega, by omega⟩) ?_
      conv => lhs; whnf
      repeat ((first | with_reducible apply br_tt | with_reducible apply br_ff | with_reducible apply br_nf | with_reducible apply br_nt | with_reducible refine br_d ?_ (by kernel_rfl) | with_reducible apply br_t h | with_reducible apply br_f h); conv => lhs; whnf)
      refine br_c (fun h2 => ?_) (fun h2 => ?_)
      · have h2' : udN l i b = true := h2
        rw [h2']
        conv => lhs; whnf
        repeat ((first | with_reducible apply br_tt | with_reducible apply br_ff | with_reducible apply br_nf | with_reducible apply br_nt | with_reducible refine br_d ?_ (by kernel_rfl) | with_reducible apply br_t h | with_reducible apply br_f h | with_reducible apply br_t h2 | with_reducible apply br_f h2); conv => lhs; whnf)
        rfl
      · have h2' : udN l i b = false := h2
        rw [h2']
        conv => lhs; whnf
        repeat ((first | with_reducible apply br_tt | with_reducible apply br_ff | with_reducible apply br_nf | with_reducible apply br_nt | with_reducible refine br_d ?_ (by kernel_rfl) | with_reducible apply br_t h | with_reducible apply br_f h | with_reducible apply br_t h2 | with_reducible apply br_f h2); conv => lhs; whnf)
        exact ih n (i + 1) _ (by omega) (by omega) (by rw [wrap64 (n := (i : Int) + 1) (by omega) (by omega)]; simp) (by omega)
    · have h' : udN l a i = false := h
      rw [h']
      conv => lhs; whnf
      repeat ((first | with_reducible apply br_tt | with_reducible apply br_ff | with_reducible apply br_nf | with_reducible apply br_nt | with_reducible refine br_d ?_ (by kernel_rfl) | with_reducible apply br_t h | with_reducible apply br_f h); conv => lhs; whnf)
      exact ih n (i + 1) _ (by omega) (by omega) (by rw [wrap64 (n := (i : Int) + 1) (by omega) (by omega)]; simp) (by omega)
theorem ev_latCovers (l : List (Int × Int)) (x y : Int) (hp : l.length ≤ 64 ∧ (0 ≤ x ∧ x < l.length) ∧ (0 ≤ y ∧ y < l.length)) : evF E_latCovers (100) Tryz.f130 [.lst (.pair (.int .i64) (.int .i64)) l, .int .i64 x, .int .i64 y] [] = some (.bool (covI l x.toNat y.toNat), []) := by
  obtain ⟨hl, h1, h2⟩ := hp
  obtain ⟨i, rfl⟩ : ∃ i : Nat, x = i := ⟨x.toNat, by omega⟩
  obtain ⟨j, rfl⟩ : ∃ j : Nat, y = j := ⟨y.toNat, by omega⟩
  unfold covI
  rw [Int.toNat_natCast, Int.toNat_natCast]
  conv => lhs; whnf
  conv => lhs; arg 1; whnf
  refine bnd_g (by exact ⟨h1, h2⟩) ?_
  conv => lhs; whnf
  refine br_c (fun h => ?_) (fun h => ?_)
  · have h' : udN l i j = false := bnt h
    rw [h']
    conv => lhs; whnf
    rfl
  · have h' : udN l i j = true := bnf h
    rw [h']
    conv => lhs; whnf
    refine (lp_latCovers l hl i j (by omega) (by omega) _ l.length _ 0 0 rfl (Nat.zero_le _) rfl (by change _ < 99; omega)).trans ?_
    cases hq : allN (fun x => !(udN l i x && udN l x j)) l.length 0
    · rw [cond_false]
      conv => lhs; whnf
      rfl
    · rw [cond_true]
      conv => lhs; whnf
      rfl
theorem ok_latCovers : FnOk Tryz.prog 130 K_latCovers := by
  refine fn_ok (fn := Tryz.f130) (k := Tryz.f130.ntmps) (E := E_latCovers) (facts_of (List.forall_mem_cons.2 ⟨ok_latUnder, List.forall_mem_nil _⟩)) (by kernel_rfl) rfl (by decide +kernel) (by decide +kernel) ?_
  intro avs hin r h
  unfold K_latCovers at h
  split at h
  · obtain ⟨hp, rfl⟩ := gd_o h
    exact ⟨_, ev_latCovers _ _ _ hp, rfl⟩
  · cases h

/- (impl.lattice).upper$1 -/
def K_upper1 : List AV → List Ob → Option (AV × List Ob)
  | [.int .i64 x, .vptr [.lst (.pair (.int .i64) (.int .i64)) l] 0, .vptr [.int .i64 a] 0], [] => gd (l.length ≤ 64 ∧ (0 ≤ x ∧ x < l.length) ∧ (0 ≤ a ∧ a < l.length)) (.bool (covI l a.toNat x.toNat), [])
  | _, _ => none
@[reducible] def E_upper1 : Env := mkE (tb [(130, K_latCovers)]) (fun f => false) (fun r => ([], []))
theorem ev_upper1 (x a : Int) (l : List (Int × Int)) (hp : l.length ≤ 64 ∧ (0 ≤ x ∧ x < l.length) ∧ (0 ≤ a ∧ a < l.length)) : evF E_upper1 (1) Tryz.f129 [.int .i64 x, .vptr [.lst (.pair (.int .i64) (.int .i64)) l] 0, .vptr [.int .i64 a] 0] [] = some (.bool (covI l a.toNat x.toNat), []) := by
  conv => lhs; whnf
  conv => lhs; arg 1; whnf
  refine bnd_g (by exact ⟨hp.1, hp.2.2, hp.2.1⟩) ?_
  conv => lhs; whnf
theorem ok_upper1 : FnOk Tryz.prog 129 K_upper1 := by
  refine fn_ok (fn := Tryz.f129) (k := Tryz.f129.ntmps) (E := E_upper1) (facts_of (List.forall_mem_cons.2 ⟨ok_latCovers, List.forall_mem_nil _⟩)) (by kernel_rfl) rfl (by decide +kernel) (by decide +kernel) ?_
  intro avs hin r h
  unfold K_upper1 at h
  split at h
  · obtain ⟨hp, rfl⟩ := gd_o h
    exact ⟨_, ev_upper1 _ _ _ hp, rfl⟩
  · cases h

/- (impl.lattice).chosen -/
def K_chs_up : List AV → List Ob → Option (AV × List Ob)
  | [.lst (.pair (.int .i64) (.int .i64)) l, .clo 129 [.vptr [.lst (.pair (.int .i64) (.int .i64)) l'] 0, .vptr [.int .i64 a] 0]], [] => gd ((l' = l ∧ l.length ≤ 64) ∧ (0 ≤ a ∧ a < l.length)) (.own 0, [.row 3 (.int .i64) (upL l a.toNat)])
  | _, _ => none
@[reducible] def E_chs_up : Env := mkE (tb [(129, K_upper1)]) (fun f => false) (fun r => bif r == 3 then ([1, 5, 9, 10], [5]) else ([], []))
theorem lp_chs_up (l : List (Int × Int)) (hl : l.length ≤ 64) (a : Nat) (ha : a < l.length) (k : AX → S → Option (AV × List Ob)) (d : Nat) : ∀ (n i : Nat) (x : Int) (zs : List Int), l.length - i = d → i ≤ l.length → x = i → d < n → zs.length ≤ i →
    lpAt E_chs_up (lp E_chs_up 0 n) 0 (loopAt Tryz.f128 0) (mkS [1, 5, 9, 10] [.clo 129 [.vptr [.lst (.pair (.int .i64) (.int .i64)) l] 0, .vptr [.int .i64 (a : Int)] 0], .own 0, .int .i64 l.length, .int .i64 x] [some (.row 3 (.int .i64) zs)]) k =
      k (.exit 0) (mkS [5] [.own 0] [some (.row 3 (.int .i64) (zs ++ chsF (fun x => covI l a x) d i))]) := by
  induction d with
  | zero =>
    intro n i x zs hd hi hx hn hz
    subst hx
    rw [lpAt_def]
    conv => lhs; whnf
    refine br_f (df (by omega)) ?_
    conv => lhs; whnf
    rw [chsF, List.append_nil]
  | succ d ih =>
    intro n i x zs hd hi hx hn hz
    obtain ⟨n, rfl⟩ : ∃ m, n = m + 1 := ⟨n - 1, by omega⟩
    subst hx
    rw [lpAt_def]
    conv => lhs; whnf
    refine br_t (dt (by omega)) ?_
    conv => lhs; whnf
    conv => lhs; arg 1; whnf
    refine bnd_g (by exact ⟨hl, ⟨by omega, by omega⟩, by omega, by omega⟩) ?_
    conv => lhs; whnf
    refine br_c (fun h => ?_) (fun h => ?_)
    · have h' : covI l a i = true := h
      conv => lhs; whnf
      refine br_t (dt (by simp [room]; omega)) ?_
      conv => lhs; whnf
      refine Eq.trans (ih n (i + 1) _ _ (by omega) (by omega) (by rw [wrap64 (n := (i : Int) + 1) (by omega) (by omega)]; simp) (by omega) (by simp; omega)) ?_
      rw [chsF, h', cond_true]
      simp only [List.append_assoc]
      rfl
    · have h' : covI l a i = false := h
      conv => lhs; whnf
      refine Eq.trans (ih n (i + 1) _ _ (by omega) (by omega) (by rw [wrap64 (n := (i : Int) + 1) (by omega) (by omega)]; simp) (by omega) (by omega)) ?_
      rw [chsF, h', cond_false]
theorem ev_chs_up (l : List (Int × Int)) (a : Int) (l' : List (Int × Int)) (hp : (l' = l ∧ l.length ≤ 64) ∧ (0 ≤ a ∧ a < l.length)) : evF E_chs_up (100) Tryz.f128 [.lst (.pair (.int .i64) (.int .i64)) l, .clo 129 [.vptr [.lst (.pair (.int .i64) (.int .i64)) l'] 0, .vptr [.int .i64 a] 0]] [] = some (.own 0, [.row 3 (.int .i64) (upL l a.toNat)]) := by
  obtain ⟨⟨rfl, hl⟩, ha⟩ := hp
  obtain ⟨j, rfl⟩ : ∃ j : Nat, a = j := ⟨a.toNat, by omega⟩

  conv => lhs; whnf
  refine (lp_chs_up l' hl j (by omega) _ l'.length _ 0 0 [] rfl (Nat.zero_le _) rfl (by change _ < 99; omega) (Nat.le_refl _)).trans ?_
  conv => lhs; whnf
  rfl
theorem ok_chs_up : FnOk Tryz.prog 128 K_chs_up := by
  refine fn_ok (fn := Tryz.f128) (k := Tryz.f128.ntmps) (E := E_chs_up) (facts_of (List.forall_mem_cons.2 ⟨ok_upper1, List.forall_mem_nil _⟩)) (by kernel_rfl) rfl (by decide +kernel) (by decide +kernel) ?_
  intro avs hin r h
  unfold K_chs_up at h
  split at h
  · obtain ⟨hp, rfl⟩ := gd_o h
    exact ⟨_, ev_chs_up _ _ _ hp, rfl⟩
  · cases h

/- (impl.lattice).upper -/
def K_latUpper : List AV → List Ob → Option (AV × List Ob)
  | [.lst (.pair (.int .i64) (.int .i64)) l, .int .i64 a], [] => gd (l.length ≤ 64 ∧ (0 ≤ a ∧ a < l.length)) (.own 0, [.row 3 (.int .i64) (upL l a.toNat)])
  | _, _ => none
@[reducible] def E_latUpper : Env := mkE (tb [(128, K_chs_up)]) (fun f => false) (fun r => ([], []))
theorem ev_latUpper (l : List (Int × Int)) (a : Int) (hp : l.length ≤ 64 ∧ (0 ≤ a ∧ a < l.length)) : evF E_latUpper (1) Tryz.f114 [.lst (.pair (.int .i64) (.int .i64)) l, .int .i64 a] [] = some (.own 0, [.row 3 (.int .i64) (upL l a.toNat)]) := by
  conv => lhs; whnf
  conv => lhs; arg 1; whnf
  refine bnd_g (by exact ⟨⟨rfl, hp.1⟩, hp.2⟩) ?_
  conv => lhs; whnf
theorem ok_latUpper : FnOk Tryz.prog 114 K_latUpper := by
  refine fn_ok (fn := Tryz.f114) (k := Tryz.f114.ntmps) (E := E_latUpper) (facts_of (List.forall_mem_cons.2 ⟨ok_chs_up, List.forall_mem_nil _⟩)) (by kernel_rfl) rfl (by decide +kernel) (by decide +kernel) ?_
  intro avs hin r h
  unfold K_latUpper at h
  split at h
  · obtain ⟨hp, rfl⟩ := gd_o h
    exact ⟨_, ev_latUpper _ _ hp, rfl⟩
  · cases h

/- impl.UpperCovers -/
def K_implUpperCovers : List AV → List Ob → Option (AV × List Ob)
  | [.agg [.int .i64 m, .lst (.int .i64) b], .int .i64 a], [] => gd (b.length ≤ 1048576 ∧ (0 ≤ a ∧ a < (concF m b).length)) (.own 0, [.row 3 (.int .i64) (upL (concF m b) a.toNat)])
  | _, _ => none
@[reducible] def E_implUpperCovers : Env := mkE (tb [(57, K_implConcepts), (108, K_latHas), (114, K_latUpper)]) (fun f => false) (fun r => ([], []))
theorem ev_implUpperCovers (m : Int) (b : List Int) (a : Int) (hp : b.length ≤ 1048576 ∧ (0 ≤ a ∧ a < (concF m b).length)) : evF E_implUpperCovers (1) Tryz.f83 [.agg [.int .i64 m, .lst (.int .i64) b], .int .i64 a] [] = some (.own 0, [.row 3 (.int .i64) (upL (concF m b) a.toNat)]) := by
  have hl := concF_len m b
  have hin : inC (concF m b) a = true := inC_iff.2 hp.2
  conv => lhs; whnf
  conv => lhs; arg 1; whnf
  refine bnd_g (by exact hp.1) ?_
  conv => lhs; whnf
  conv => lhs; arg 1; whnf
  refine bnd_g (by exact hl) ?_
  conv => lhs; whnf
  refine br_f (by (rw [hin]; rfl)) ?_
  conv => lhs; whnf
  conv => lhs; arg 1; whnf
  refine bnd_g (by exact ⟨hl, hp.2⟩) ?_
  conv => lhs; whnf
theorem ok_implUpperCovers : FnOk Tryz.prog 83 K_implUpperCovers := by
  refine fn_ok (fn := Tryz.f83) (k := Tryz.f83.ntmps) (E := E_implUpperCovers) (facts_of (List.forall_mem_cons.2 ⟨(FnOk.soft (fun h => False.elim h) ok_implConcepts), List.forall_mem_cons.2 ⟨(FnOk.soft (fun h => False.elim h) ok_latHas), List.forall_mem_cons.2 ⟨ok_latUpper, List.forall_mem_nil _⟩⟩⟩)) (by kernel_rfl) rfl (by decide +kernel) (by decide +kernel) ?_
  intro avs hin r h
  unfold K_implUpperCovers at h
  split at h
  · obtain ⟨hp, rfl⟩ := gd_o h
    exact ⟨_, ev_implUpperCovers _ _ _ hp, rfl⟩
  · cases h

def K_itoaX : List AV → List Ob → Option (AV × List Ob)
  | [.int .i64 n], [] => gd (-9223372036854775808 ≤ n ∧ n ≤ 9223372036854775807) (.str (itoaB n), [])
  | _, _ => none
theorem ok_itoaX : FnOk Tryz.prog 115 K_itoaX := by
  refine ⟨⟨Tryz.f115, by kernel_rfl, by kernel_rfl, by kernel_rfl⟩, fun avs hin r hout hk C L vs hH hm hA => ?_⟩
  unfold K_itoaX at hk
  split at hk
  · obtain ⟨h1, he⟩ := gd_o hk
    cases he
    exact itoa_calls Tryz.layItoa (by first | exact List.Mem.head _ | exact List.Mem.tail _ (List.Mem.head _)) (by kernel_rfl) h1.1 h1.2 hH hA
  · cases hk

/- impl.FormatInt -/
def K_implFormatInt : List AV → List Ob → Option (AV × List Ob)
  | [.int .i64 n], [] => gd (-9223372036854775808 ≤ n ∧ n ≤ 9223372036854775807) (.str (itoaB n), [])
  | _, _ => none
@[reducible] def E_implFormatInt : Env := mkE (tb [(115, K_itoaX)]) (fun f => false) (fun r => ([], []))
theorem ev_implFormatInt (n : Int) (hp : -9223372036854775808 ≤ n ∧ n ≤ 9223372036854775807) : evF E_implFormatInt (1) Tryz.f84 [.int .i64 n] [] = some (.str (itoaB n), []) := by
  conv => lhs; whnf
  conv => lhs; arg 1; whnf
  refine bnd_g (by exact hp) ?_
  conv => lhs; whnf
theorem ok_implFormatInt : FnOk Tryz.prog 84 K_implFormatInt := by
  refine fn_ok (fn := Tryz.f84) (k := Tryz.f84.ntmps) (E := E_implFormatInt) (facts_of (List.forall_mem_cons.2 ⟨ok_itoaX, List.forall_mem_nil _⟩)) (by kernel_rfl) rfl (by decide +kernel) (by decide +kernel) ?_
  intro avs hin r h
  unfold K_implFormatInt at h
  split at h
  · obtain ⟨hp, rfl⟩ := gd_o h
    exact ⟨_, ev_implFormatInt _ hp, rfl⟩
  · cases h

def K_joinS : List AV → List Ob → Option (AV × List Ob)
  | [.lst .str ys, .str sep], [] => gd (ys.length ≤ 140737488355328 ∧ (joinB ys sep).size ≤ 140737488355328) (.str (joinB ys sep), [])
  | _, _ => none
theorem ok_joinS : FnOk Tryz.prog 116 K_joinS := by
  refine ⟨⟨Tryz.f116, by kernel_rfl, by kernel_rfl, by kernel_rfl⟩, fun avs hin r hout hk C L vs hH hm hA => ?_⟩
  unfold K_joinS at hk
  split at hk
  · obtain ⟨⟨h1, h2⟩, he⟩ := gd_o hk
    cases he
    exact join_calls (fun h => h) Tryz.layJoin Tryz.extraJoin hH hA h1 h2
  · cases hk

/- impl.Join -/
def K_implJoin : List AV → List Ob → Option (AV × List Ob)
  | [.lst .str ys, .str sep], [] => gd (ys.length ≤ 1048576 ∧ okTxt ys = true ∧ sep.size ≤ 16) (.str (joinF ys sep), [])
  | _, _ => none
@[reducible] def E_implJoin : Env := mkE (tb [(116, K_joinS)]) (fun f => false) (fun r => bif r == 3 then ([0, 1, 5, 15, 16, 17], [0, 1, 5]) else ([], []))
theorem lp_implJoin (ys : List ByteArray) (sep : ByteArray) (hl : ys.length ≤ 1048576) (hy : ∀ y ∈ ys, y.size ≤ 1048576) (k : AX → S → Option (AV × List Ob)) (d : Nat) : ∀ (n i : Nat) (x q : Int), ys.length - i = d → i ≤ ys.length → x = i → d < n → 0 ≤ q → q ≤ 16777216 + i * 1048576 →
    lpAt E_implJoin (lp E_implJoin 0 n) 0 (loopAt Tryz.f85 0) (mkS [0, 1, 5, 15, 16, 17] [.lst .str ys, .str sep, .int .i64 q, .lst .str ys, .int .i64 ys.length, .int .i64 x] []) k =
      k (.exit 0) (mkS [0, 1, 5] [.lst .str ys, .str sep, .int .i64 (lenS (ys.drop i) q)] []) := by
  induction d with
  | zero =>
    intro n i x q hd hi hx hn hq hq'
    subst hx
    rw [lpAt_def]
    conv => lhs; whnf
    refine br_f (df (by omega)) ?_
    conv => lhs; whnf
    rw [List.drop_of_length_le (by omega), lenS]
  | succ d ih =>
    intro n i x q hd hi hx hn hq hq'
    obtain ⟨n, rfl⟩ : ∃ m, n = m + 1 := ⟨n - 1, by omega⟩
    subst hx
    have hyi := hy _ (mem_getD (l := ys) (i := i) (d := ByteArray.empty) (by omega))
    have hw : IntKind.i64.wrap (q + ((ys.getD i ByteArray.empty).size : Int)) = q + ((ys.getD i ByteArray.empty).size : Int) := wrap64 (by omega) (by omega)
    rw [lpAt_def]
    conv => lhs; whnf
    refine br_t (dt (by omega)) ?_
    conv => lhs; whnf
    refine br_t (dt2 (by omega) (by omega)) ?_
    conv => lhs; whnf
    refine Eq.trans (ih n (i + 1) _ _ (by omega) (by omega) (by rw [wrap64 (n := (i : Int) + 1) (by omega) (by omega)]; simp) (by omega) (by change 0 ≤ IntKind.i64.wrap (q + ((ys.getD i ByteArray.empty).size : Int)); rw [hw]; omega) (by change IntKind.i64.wrap (q + ((ys.getD i ByteArray.empty).size : Int)) ≤ _; rw [hw]; push_cast; omega)) ?_
    have e : lenS (ys.drop i) q = lenS (ys.drop (i + 1)) (IntKind.i64.wrap (q + ((ys.getD i ByteArray.empty).size : Int))) := by rw [hw, getD_drop (l := ys) (i := i) (d := ByteArray.empty) (by omega), lenS]
    rw [e]
    rfl
theorem ev_implJoin (ys : List ByteArray) (sep : ByteArray) (hp : ys.length ≤ 1048576 ∧ okTxt ys = true ∧ sep.size ≤ 16) : evF E_implJoin (ys.length + 2) Tryz.f85 [.lst .str ys, .str sep] [] = some (.str (joinF ys sep), []) := by
  obtain ⟨h1, h2, h3⟩ := hp
  have hy := okTxt_iff.1 h2
  have hs := join_size ys sep
  have hm : 0 ≤ max ((ys.length : Int) - 1) 0 * (sep.size : Int) ∧ max ((ys.length : Int) - 1) 0 * (sep.size : Int) ≤ 16777216 := by
    have e : max ((ys.length : Int) - 1) 0 ≤ 1048576 := by omega
    have e0 : 0 ≤ max ((ys.length : Int) - 1) 0 := by omega
    refine ⟨Int.mul_nonneg e0 (by omega), ?_⟩
    have := Int.mul_le_mul e (show (sep.size : Int) ≤ 16 by omega) (by omega) (by omega)
    omega
  have hle := lenS_le 1048576 ys (max ((ys.length : Int) - 1) 0 * (sep.size : Int)) hy
  have hw : IntKind.i64.wrap (max (IntKind.i64.wrap ((ys.length : Int) - 1)) 0 * (sep.size : Int)) = max ((ys.length : Int) - 1) 0 * (sep.size : Int) := by
    rw [wrap64 (n := (ys.length : Int) - 1) (by omega) (by omega)]
    exact wrap64 (by omega) (by omega)
  conv => lhs; whnf
  refine (lp_implJoin ys sep h1 hy _ ys.length _ 0 0 _ rfl (Nat.zero_le _) rfl (by omega) (by change 0 ≤ IntKind.i64.wrap (max (IntKind.i64.wrap ((ys.length : Int) - 1)) 0 * (sep.size : Int)); rw [hw]; exact hm.1) (by change IntKind.i64.wrap (max (IntKind.i64.wrap ((ys.length : Int) - 1)) 0 * (sep.size : Int)) ≤ _; rw [hw]; omega)).trans ?_
  have e1 : lenS (ys.drop 0) (IntKind.i64.wrap (max (IntKind.i64.wrap ((ys.length : Int) - 1)) 0 * (sep.size : Int))) = ((joinB ys sep).size : Int) := by rw [hw, List.drop_zero, hs]
  conv => lhs; whnf
  unfold joinF
  refine br_c (fun h => ?_) (fun h => ?_)
  · have h' := ofd h
    have h' : lenS (ys.drop 0) (IntKind.i64.wrap (max (IntKind.i64.wrap ((ys.length : Int) - 1)) 0 * (sep.size : Int))) > 1048576 := h'
    conv => lhs; whnf
    rw [if_neg (by omega)]
  · have h' := ofn h
    have h' : ¬ lenS (ys.drop 0) (IntKind.i64.wrap (max (IntKind.i64.wrap ((ys.length : Int) - 1)) 0 * (sep.size : Int))) > 1048576 := h'
    conv => lhs; whnf
    conv => lhs; arg 1; whnf
    refine bnd_g (by exact ⟨by omega, by omega⟩) ?_
    conv => lhs; whnf
    rw [if_pos (by omega)]
theorem ok_implJoin : FnOk Tryz.prog 85 K_implJoin := by
  refine fn_ok (fn := Tryz.f85) (k := Tryz.f85.ntmps) (E := E_implJoin) (facts_of (List.forall_mem_cons.2 ⟨ok_joinS, List.forall_mem_nil _⟩)) (by kernel_rfl) rfl (by decide +kernel) (by decide +kernel) ?_
  intro avs hin r h
  unfold K_implJoin at h
  split at h
  · obtain ⟨hp, rfl⟩ := gd_o h
    exact ⟨_, ev_implJoin _ _ hp, rfl⟩
  · cases h

/- impl.DiagramLines -/
def K_implDiagramLines : List AV → List Ob → Option (AV × List Ob)
  | [.agg [.int .i64 m, .lst (.int .i64) b]], [] => gd (b.length ≤ 1048576) (.own 0, [.row 9 .str (dgF m b)])
  | _, _ => none
@[reducible] def E_implDiagramLines : Env := mkE (tb [(57, K_implConcepts), (30, K_implSpotOf), (83, K_implUpperCovers), (84, K_implFormatInt), (85, K_implJoin)]) (fun f => false) (fun r => bif r == 3 then ([1, 3, 13, 14], [1, 3, 4, 5, 7, 13, 14]) else bif r == 8 then ([1, 3, 4, 5, 7, 13, 14, 26, 27, 28], [1, 3, 4, 5, 7, 13, 14]) else ([], []))
theorem lq_implDiagramLines (m : Int) (b : List Int) (i : Nat) (p : Int × Int) (zs : List ByteArray) (us : List Int) (hu : us.length ≤ 64) (hr : ∀ x ∈ us, 0 ≤ x ∧ x ≤ 1000000) (l : Nat) (k : AX → S → Option (AV × List Ob)) (d : Nat) : ∀ (n j : Nat) (x : Int) (ws : List ByteArray), us.length - j = d → j ≤ us.length → x = j → d < n → ws.length ≤ j →
    lpAt E_implDiagramLines (lp E_implDiagramLines 0 n) 0 (loopAt Tryz.f37 1) (mkS [1, 3, 4, 5, 7, 13, 14, 26, 27, 28] [.ptr 0 0, .own 1, .int .i64 (i : Int), .ptr 2 0, .own 3, .int .i64 (l : Int), .int .i64 (i : Int), .own 4, .int .i64 us.length, .int .i64 x] [some (.box 29 [.int .i64 m, .lst (.int .i64) b]), some (.row 9 .str zs), some (.box 52 [.int .i64 p.1, .int .i64 p.2]), some (.row 9 .str ws), some (.row 3 (.int .i64) us)]) k =
      k (.exit 2) (mkS [1, 3, 4, 5, 7, 13, 14] [.ptr 0 0, .own 1, .int .i64 (i : Int), .ptr 2 0, .own 3, .int .i64 (l : Int), .int .i64 (i : Int)] [some (.box 29 [.int .i64 m, .lst (.int .i64) b]), some (.row 9 .str zs), some (.box 52 [.int .i64 p.1, .int .i64 p.2]), some (.row 9 .str (ws ++ (us.drop j).map itoaB))]) := by
  induction d with
  | zero =>
    intro n j x ws hd hj hx hn hz
    subst hx
    rw [lpAt_def]
    conv => lhs; whnf
    refine br_f (df (by omega)) ?_
    conv => lhs; whnf
    rw [List.drop_of_length_le (by omega), List.map_nil, List.append_nil]
  | succ d ih =>
    intro n j x ws hd hj hx hn hz
    obtain ⟨n, rfl⟩ : ∃ m, n = m + 1 := ⟨n - 1, by omega⟩
    subst hx
    have h1 := hr _ (mem_getD (l := us) (i := j) (d := 0) (by omega))
    rw [lpAt_def]
    conv => lhs; whnf
    refine br_t (dt (by omega)) ?_
    conv => lhs; whnf
    refine br_t (dt2 (by omega) (by omega)) ?_
    conv => lhs; whnf
    refine br_t (dt (by omega)) ?_
    conv => lhs; whnf
    conv => lhs; arg 1; whnf
    refine bnd_g (by exact ⟨by change _ ≤ us.getD j 0; omega, by change us.getD j 0 ≤ _; omega⟩) ?_
    conv => lhs; whnf
    refine br_t (dt (by simp [room]; omega)) ?_
    conv => lhs; whnf
    refine (ih n (j + 1) _ _ (by omega) (by omega) (by rw [wrap64 (n := (j : Int) + 1) (by omega) (by omega)]; simp) (by omega) (by simp; omega)).trans ?_
    rw [map_dropN us j (by omega)]
    simp only [List.append_assoc]
    rfl
theorem lp_implDiagramLines (m : Int) (b : List Int) (hb : b.length ≤ 1048576) (k : AX → S → Option (AV × List Ob)) (d : Nat) : ∀ (n i : Nat) (x : Int) (zs : List ByteArray), (concF m b).length - i = d → i ≤ (concF m b).length → x = i → d + 80 < n → zs.length ≤ i →
    lpAt E_implDiagramLines (lp E_implDiagramLines 0 n) 0 (loopAt Tryz.f37 0) (mkS [1, 3, 13, 14] [.ptr 0 0, .own 1, .int .i64 (concF m b).length, .int .i64 x] [some (.box 29 [.int .i64 m, .lst (.int .i64) b]), some (.row 9 .str zs)]) k =
      k (.exit 0) (mkS [1, 3, 4, 5, 7, 13, 14] [.ptr 0 0, .own 1, .any, .any, .any, .int .i64 (concF m b).length, .int .i64 (concF m b).length] [some (.box 29 [.int .i64 m, .lst (.int .i64) b]), some (.row 9 .str (zs ++ dgL m b d i))]) := by
  have hl := concF_len m b
  induction d with
  | zero =>
    intro n i x zs hd hi hx hn hz
    have : i = (concF m b).length := by omega
    subst hx this
    rw [lpAt_def]
    conv => lhs; whnf
    refine br_f (df (by omega)) ?_
    conv => lhs; whnf
    rw [dgL, List.append_nil]
  | succ d ih =>
    intro n i x zs hd hi hx hn hz
    obtain ⟨n, rfl⟩ : ∃ m, n = m + 1 := ⟨n - 1, by omega⟩
    subst hx
    have hr := spot_rng m b (i : Int)
    have hu := upL_len (concF m b) i
    have hur := upL_rng hl i
    rw [lpAt_def]
    conv => lhs; whnf
    refine br_t (dt (by omega)) ?_
    conv => lhs; whnf
    conv => lhs; arg 1; whnf
    refine bnd_g (by exact hb) ?_
    conv => lhs; whnf
    conv => lhs; arg 1; whnf
    refine bnd_g (by exact ⟨hb, by omega, by omega⟩) ?_
    conv => lhs; whnf
    refine (lq_implDiagramLines m b i (spotF m b i) zs (upL (concF m b) i) (by omega) hur (concF m b).length _ (upL (concF m b) i).length _ 0 0 [] rfl (Nat.zero_le _) rfl (by omega) (Nat.le_refl _)).trans ?_
    rw [List.nil_append, List.drop_zero]
    have s1 := isz (i := i) (by omega)
    have s2 := itoa_len hr.1.1 hr.1.2
    have s3 := itoa_len hr.2.1 hr.2.2
    have s4 : (⟨#[32]⟩ : ByteArray).size = 1 := rfl
    have s5 : (⟨#[44]⟩ : ByteArray).size = 1 := rfl
    have s6 := fun ys => join_le ys ⟨#[44]⟩
    conv => lhs; whnf
    refine br_c (fun h => ?_) (fun h => ?_)
    · have h' : ((((upL (concF m b) i).map itoaB).length : Int) == 0) = true := h
      have hw : wordsL (upL (concF m b) i) = [⟨#[45]⟩] := by
        rw [List.length_map] at h'
        have : upL (concF m b) i = [] := lenZ h'
        rw [this]; rfl
      have s7 := s6 [⟨#[45]⟩]
      conv => lhs; whnf
      conv => lhs; arg 1; whnf
      refine bnd_g (by omega) ?_
      conv => lhs; whnf
      refine br_t (by (refine dt ?_; change (itoaB (i : Int)).size + ((⟨#[32]⟩ : ByteArray)).size ≤ 9223372036854775807; (try simp only [ByteArray.size_append]); omega)) ?_
      conv => lhs; whnf
      conv => lhs; arg 1; whnf
      refine bnd_g (by exact hr.1) ?_
      conv => lhs; whnf
      refine br_t (by (refine dt ?_; change ((itoaB (i : Int) ++ (⟨#[32]⟩ : ByteArray))).size + (itoaB (spotF m b (i : Int)).1).size ≤ 9223372036854775807; (try simp only [ByteArray.size_append]); omega)) ?_
      conv => lhs; whnf
      refine br_t (by (refine dt ?_; change (((itoaB (i : Int) ++ (⟨#[32]⟩ : ByteArray)) ++ itoaB (spotF m b (i : Int)).1)).size + ((⟨#[44]⟩ : ByteArray)).size ≤ 9223372036854775807; (try simp only [ByteArray.size_append]); omega)) ?_
      conv => lhs; whnf
      conv => lhs; arg 1; whnf
      refine bnd_g (by exact hr.2) ?_
      conv => lhs; whnf
      refine br_t (by (refine dt ?_; change ((((itoaB (i : Int) ++ (⟨#[32]⟩ : ByteArray)) ++ itoaB (spotF m b (i : Int)).1) ++ (⟨#[44]⟩ : ByteArray))).size + (itoaB (spotF m b (i : Int)).2).size ≤ 9223372036854775807; (try simp only [ByteArray.size_append]); omega)) ?_
      conv => lhs; whnf
      refine br_t (by (refine dt ?_; change (((((itoaB (i : Int) ++ (⟨#[32]⟩ : ByteArray)) ++ itoaB (spotF m b (i : Int)).1) ++ (⟨#[44]⟩ : ByteArray)) ++ itoaB (spotF m b (i : Int)).2)).size + ((⟨#[32]⟩ : ByteArray)).size ≤ 9223372036854775807; (try simp only [ByteArray.size_append]); omega)) ?_
      conv => lhs; whnf
      conv => lhs; arg 1; whnf
      refine bnd_g (by exact ⟨by decide, by decide, by decide⟩) ?_
      conv => lhs; whnf
      refine br_t (by (refine dt ?_; change ((((((itoaB (i : Int) ++ (⟨#[32]⟩ : ByteArray)) ++ itoaB (spotF m b (i : Int)).1) ++ (⟨#[44]⟩ : ByteArray)) ++ itoaB (spotF m b (i : Int)).2) ++ (⟨#[32]⟩ : ByteArray))).size + (joinF ([(⟨#[45]⟩ : ByteArray)]) ⟨#[44]⟩).size ≤ 9223372036854775807; (try simp only [ByteArray.size_append]); omega)) ?_
      conv => lhs; whnf
      refine br_t (dt (by simp [room]; omega)) ?_
      conv => lhs; whnf
      repeat ((first | with_reducible apply br_tt | with_reducible apply br_ff | with_reducible apply br_nf | with_reducible apply br_nt | with_reducible refine br_d ?_ (by kernel_rfl)); conv => lhs; whnf)
      have e : dgT m b i = ((((((itoaB (i : Int)) ++ ⟨#[32]⟩) ++ itoaB (spotF m b i).1) ++ ⟨#[44]⟩) ++ itoaB (spotF m b i).2) ++ ⟨#[32]⟩) ++ joinF (wordsL (upL (concF m b) i)) ⟨#[44]⟩ := rfl
      rw [hw] at e
      refine (ih n (i + 1) _ _ (by omega) (by omega) (by rw [wrap64 (n := (i : Int) + 1) (by omega) (by omega)]; simp) (by omega) (by simp; omega)).trans ?_
      rw [dgL, e]
      simp only [List.append_assoc]
      rfl
    · have h' : ((((upL (concF m b) i).map itoaB).length : Int) == 0) = false := h
      have hw : wordsL (upL (concF m b) i) = (upL (concF m b) i).map itoaB := by
        unfold wordsL
        cases hq : upL (concF m b) i with
        | nil => rw [hq] at h'; cases h'
        | cons x r => rfl
      have s7 := s6 ((upL (concF m b) i).map itoaB)
      have hok := words_ok hur
      rw [hw] at hok
      conv => lhs; whnf
      conv => lhs; arg 1; whnf
      refine bnd_g (by omega) ?_
      conv => lhs; whnf
      refine br_t (by (refine dt ?_; change (itoaB (i : Int)).size + ((⟨#[32]⟩ : ByteArray)).size ≤ 9223372036854775807; (try simp only [ByteArray.size_append]); omega)) ?_
      conv => lhs; whnf
      conv => lhs; arg 1; whnf
      refine bnd_g (by exact hr.1) ?_
      conv => lhs; whnf
      refine br_t (by (refine dt ?_; change ((itoaB (i : Int) ++ (⟨#[32]⟩ : ByteArray))).size + (itoaB (spotF m b (i : Int)).1).size ≤ 9223372036854775807; (try simp only [ByteArray.size_append]); omega)) ?_
      conv => lhs; whnf
      refine br_t (by (refine dt ?_; change (((itoaB (i : Int) ++ (⟨#[32]⟩ : ByteArray)) ++ itoaB (spotF m b (i : Int)).1)).size + ((⟨#[44]⟩ : ByteArray)).size ≤ 9223372036854775807; (try simp only [ByteArray.size_append]); omega)) ?_
      conv => lhs; whnf
      conv => lhs; arg 1; whnf
      refine bnd_g (by exact hr.2) ?_
      conv => lhs; whnf
      refine br_t (by (refine dt ?_; change ((((itoaB (i : Int) ++ (⟨#[32]⟩ : ByteArray)) ++ itoaB (spotF m b (i : Int)).1) ++ (⟨#[44]⟩ : ByteArray))).size + (itoaB (spotF m b (i : Int)).2).size ≤ 9223372036854775807; (try simp only [ByteArray.size_append]); omega)) ?_
      conv => lhs; whnf
      refine br_t (by (refine dt ?_; change (((((itoaB (i : Int) ++ (⟨#[32]⟩ : ByteArray)) ++ itoaB (spotF m b (i : Int)).1) ++ (⟨#[44]⟩ : ByteArray)) ++ itoaB (spotF m b (i : Int)).2)).size + ((⟨#[32]⟩ : ByteArray)).size ≤ 9223372036854775807; (try simp only [ByteArray.size_append]); omega)) ?_
      conv => lhs; whnf
      conv => lhs; arg 1; whnf
      refine bnd_g (by exact ⟨by rw [List.length_map]; omega, by exact hok, by decide⟩) ?_
      conv => lhs; whnf
      refine br_t (by (refine dt ?_; change ((((((itoaB (i : Int) ++ (⟨#[32]⟩ : ByteArray)) ++ itoaB (spotF m b (i : Int)).1) ++ (⟨#[44]⟩ : ByteArray)) ++ itoaB (spotF m b (i : Int)).2) ++ (⟨#[32]⟩ : ByteArray))).size + (joinF ((upL (concF m b) i).map itoaB) ⟨#[44]⟩).size ≤ 9223372036854775807; (try simp only [ByteArray.size_append]); omega)) ?_
      conv => lhs; whnf
      refine br_t (dt (by simp [room]; omega)) ?_
      conv => lhs; whnf
      repeat ((first | with_reducible apply br_tt | with_reducible apply br_ff | with_reducible apply br_nf | with_reducible apply br_nt | with_reducible refine br_d ?_ (by kernel_rfl)); conv => lhs; whnf)
      have e : dgT m b i = ((((((itoaB (i : Int)) ++ ⟨#[32]⟩) ++ itoaB (spotF m b i).1) ++ ⟨#[44]⟩) ++ itoaB (spotF m b i).2) ++ ⟨#[32]⟩) ++ joinF (wordsL (upL (concF m b) i)) ⟨#[44]⟩ := rfl
      rw [hw] at e
      refine (ih n (i + 1) _ _ (by omega) (by omega) (by rw [wrap64 (n := (i : Int) + 1) (by omega) (by omega)]; simp) (by omega) (by simp; omega)).trans ?_
      rw [dgL, e]
      simp only [List.append_assoc]
      rfl
theorem ev_implDiagramLines (m : Int) (b : List Int) (hp : b.length ≤ 1048576) : evF E_implDiagramLines (200) Tryz.f37 [.agg [.int .i64 m, .lst (.int .i64) b]] [] = some (.own 0, [.row 9 .str (dgF m b)]) := by
  have hl := concF_len m b
  conv => lhs; whnf
  conv => lhs; arg 1; whnf
  refine bnd_g (by exact hp) ?_
  conv => lhs; whnf
  refine (lp_implDiagramLines m b hp _ (concF m b).length _ 0 0 [] rfl (Nat.zero_le _) rfl (by change _ < 199; omega) (Nat.le_refl _)).trans ?_
  conv => lhs; whnf
  rfl
theorem ok_implDiagramLines : FnOk Tryz.prog 37 K_implDiagramLines := by
  refine fn_ok (fn := Tryz.f37) (k := Tryz.f37.ntmps) (E := E_implDiagramLines) (facts_of (List.forall_mem_cons.2 ⟨(FnOk.soft (fun h => False.elim h) ok_implConcepts), List.forall_mem_cons.2 ⟨(FnOk.soft (fun h => False.elim h) ok_implSpotOf), List.forall_mem_cons.2 ⟨ok_implUpperCovers, List.forall_mem_cons.2 ⟨ok_implFormatInt, List.forall_mem_cons.2 ⟨ok_implJoin, List.forall_mem_nil _⟩⟩⟩⟩⟩)) (by kernel_rfl) rfl (by decide +kernel) (by decide +kernel) ?_
  intro avs hin r h
  unfold K_implDiagramLines at h
  split at h
  · obtain ⟨hp, rfl⟩ := gd_o h
    exact ⟨_, ev_implDiagramLines _ _ hp, rfl⟩
  · cases h

/- spec.l6Sorted -/
def K_l6Sorted : List AV → List Ob → Option (AV × List Ob)
  | [.lst (.pair (.int .i64) (.int .i64)) l, .int .i64 x, .int .i64 y, .bool true], [] => gd ((0 ≤ x ∧ x < l.length) ∧ (0 ≤ y ∧ y < l.length)) (.bool (undB l x.toNat y.toNat), [])
  | _, _ => none
@[reducible] def E_l6Sorted : Env := mkE (tb [(67, K_l6Under)]) (fun f => false) (fun r => ([], []))
theorem ev_l6Sorted (l : List (Int × Int)) (x y : Int) (hp : (0 ≤ x ∧ x < l.length) ∧ (0 ≤ y ∧ y < l.length)) : evF E_l6Sorted (1) Tryz.f117 [.lst (.pair (.int .i64) (.int .i64)) l, .int .i64 x, .int .i64 y, .bool true] [] = some (.bool (undB l x.toNat y.toNat), []) := by
  conv => lhs; whnf
  repeat ((first | with_reducible apply br_tt | with_reducible apply br_ff | with_reducible apply br_nf | with_reducible apply br_nt | with_reducible refine br_d ?_ (by kernel_rfl)); conv => lhs; whnf)
  refine br_t (by exact dt2 hp.1.1 hp.1.2) ?_
  conv => lhs; whnf
  repeat ((first | with_reducible apply br_tt | with_reducible apply br_ff | with_reducible apply br_nf | with_reducible apply br_nt | with_reducible refine br_d ?_ (by kernel_rfl)); conv => lhs; whnf)
  refine br_t (by exact dt2 hp.2.1 hp.2.2) ?_
  conv => lhs; whnf
  repeat ((first | with_reducible apply br_tt | with_reducible apply br_ff | with_reducible apply br_nf | with_reducible apply br_nt | with_reducible refine br_d ?_ (by kernel_rfl)); conv => lhs; whnf)
  conv => lhs; arg 1; whnf
  refine bnd_g (by exact True.intro) ?_
  conv => lhs; whnf
  repeat ((first | with_reducible apply br_tt | with_reducible apply br_ff | with_reducible apply br_nf | with_reducible apply br_nt | with_reducible refine br_d ?_ (by kernel_rfl)); conv => lhs; whnf)
  rfl
theorem ok_l6Sorted : FnOk Tryz.prog 117 K_l6Sorted := by
  refine fn_ok (fn := Tryz.f117) (k := Tryz.f117.ntmps) (E := E_l6Sorted) (facts_of (List.forall_mem_cons.2 ⟨(FnOk.soft (fun h => False.elim h) ok_l6Under), List.forall_mem_nil _⟩)) (by kernel_rfl) rfl (by decide +kernel) (by decide +kernel) ?_
  intro avs hin r h
  unfold K_l6Sorted at h
  split at h
  · obtain ⟨hp, rfl⟩ := gd_o h
    exact ⟨_, ev_l6Sorted _ _ _ hp, rfl⟩
  · cases h

/- spec.l6Covers -/
def K_l6Covers : List AV → List Ob → Option (AV × List Ob)
  | [.lst (.pair (.int .i64) (.int .i64)) l, .int .i64 a, .bool true], [] => gd (l.length ≤ 64 ∧ (0 ≤ a ∧ a < l.length) ∧ extsB l = true) (.own 0, [.row 3 (.int .i64) (upL l a.toNat)])
  | _, _ => none
@[reducible] def E_l6Covers : Env := mkE (tb [(66, K_l6Exists), (117, K_l6Sorted)]) (fun f => false) (fun r => bif r == 3 then ([0, 1, 2, 7, 8], [0, 1, 2, 7, 8, 9]) else bif r == 8 then ([0, 1, 2, 7, 8, 9, 10], [0, 1, 2, 7, 8, 9]) else ([], []))
theorem lq_l6Covers (l : List (Int × Int)) (hl : l.length ≤ 64) (a b : Nat) (ha : a < l.length) (hb : b < l.length) (zs : List Int) (k : AX → S → Option (AV × List Ob)) (d : Nat) : ∀ (n i : Nat) (x : Int) (f : Bool), l.length - i = d → i ≤ l.length → x = i → d < n →
    lpAt E_l6Covers (lp E_l6Covers 0 n) 0 (loopAt Tryz.f86 1) (mkS [0, 1, 2, 7, 8, 9, 10] [.lst (.pair (.int .i64) (.int .i64)) l, .int .i64 (a : Int), .bool true, .own 0, .int .i64 (b : Int), .bool f, .int .i64 x] [some (.row 3 (.int .i64) zs)]) k =
      k (.exit 2) (mkS [0, 1, 2, 7, 8, 9] [.lst (.pair (.int .i64) (.int .i64)) l, .int .i64 (a : Int), .bool true, .own 0, .int .i64 (b : Int), .bool (f && allN (fun k => (((k : Int) == (a : Int)) || ((k : Int) == (b : Int))) || !undB l a k || !undB l k b) d i)] [some (.row 3 (.int .i64) zs)]) := by
  induction d with
  | zero =>
    intro n i x f hd hi hx hn
    subst hx
    rw [lpAt_def]
    conv => lhs; whnf
    refine br_f (df (by omega)) ?_
    conv => lhs; whnf
    rw [allN, Bool.and_true]
  | succ d ih =>
    intro n i x f hd hi hx hn
    obtain ⟨n, rfl⟩ : ∃ m, n = m + 1 := ⟨n - 1, by omega⟩
    subst hx
    have hih := fun f => ih n (i + 1) (IntKind.i64.wrap ((i : Int) + 1)) f (by omega) (by omega) (by rw [wrap64 (n := (i : Int) + 1) (by omega) (by omega)]; simp) (by omega)
    rw [lpAt_def, allN]
    conv => lhs; whnf
    refine br_t (dt (by omega)) ?_
    conv => lhs; whnf
    cases f with
    | false =>
      conv => lhs; whnf
      repeat ((first | with_reducible apply br_tt | with_reducible apply br_ff | with_reducible apply br_nf | with_reducible apply br_nt | with_reducible refine br_d ?_ (by kernel_rfl) | with_reducible refine br_f (by simp; done) ?_); conv => lhs; whnf)
      exact (hih false).trans (by simp only [Bool.false_and])
    | true =>
      conv => lhs; whnf
      repeat ((first | with_reducible apply br_tt | with_reducible apply br_ff | with_reducible apply br_nf | with_reducible apply br_nt | with_reducible refine br_d ?_ (by kernel_rfl)); conv => lhs; whnf)
      refine br_c (fun h => ?_) (fun h => ?_)
      · have h' : ((i : Int) == (a : Int)) = true := h
        conv => lhs; whnf
        repeat ((first | with_reducible apply br_tt | with_reducible apply br_ff | with_reducible apply br_nf | with_reducible apply br_nt | with_reducible refine br_d ?_ (by kernel_rfl) | with_reducible apply br_t h | with_reducible apply br_f h); conv => lhs; whnf)
        refine (hih true).trans ?_
        simp only [h', Bool.true_and, Bool.true_or]
      · have h' : ((i : Int) == (a : Int)) = false := h
        conv => lhs; whnf
        repeat ((first | with_reducible apply br_tt | with_reducible apply br_ff | with_reducible apply br_nf | with_reducible apply br_nt | with_reducible refine br_d ?_ (by kernel_rfl) | with_reducible apply br_t h | with_reducible apply br_f h); conv => lhs; whnf)
        refine br_c (fun h2 => ?_) (fun h2 => ?_)
        · have h2' : ((i : Int) == (b : Int)) = true := h2
          conv => lhs; whnf
          repeat ((first | with_reducible apply br_tt | with_reducible apply br_ff | with_reducible apply br_nf | with_reducible apply br_nt | with_reducible refine br_d ?_ (by kernel_rfl) | with_reducible apply br_t h | with_reducible apply br_f h | with_reducible apply br_t h2 | with_reducible apply br_f h2); conv => lhs; whnf)
          refine (hih true).trans ?_
          simp only [h2', Bool.true_and, Bool.true_or, Bool.or_true]
        · have h2' : ((i : Int) == (b : Int)) = false := h2
          conv => lhs; whnf
          repeat ((first | with_reducible apply br_tt | with_reducible apply br_ff | with_reducible apply br_nf | with_reducible apply br_nt | with_reducible refine br_d ?_ (by kernel_rfl) | with_reducible apply br_t h | with_reducible apply br_f h | with_reducible apply br_t h2 | with_reducible apply br_f h2); conv => lhs; whnf)
          conv => lhs; arg 1; whnf
          refine bnd_g (by exact ⟨⟨by omega, by omega⟩, by omega, by omega⟩) ?_
          conv => lhs; whnf
          repeat ((first | with_reducible apply br_tt | with_reducible apply br_ff | with_reducible apply br_nf | with_reducible apply br_nt | with_reducible refine br_d ?_ (by kernel_rfl) | with_reducible apply br_t h | with_reducible apply br_f h | with_reducible apply br_t h2 | with_reducible apply br_f h2); conv => lhs; whnf)
          refine br_c (fun h3 => ?_) (fun h3 => ?_)
          · have h3' : undB l a i = false := bnt h3
            conv => lhs; whnf
            repeat ((first | with_reducible apply br_tt | with_reducible apply br_ff | with_reducible apply br_nf | with_reducible apply br_nt | with_reducible refine br_d ?_ (by kernel_rfl) | with_reducible apply br_t h | with_reducible apply br_f h | with_reducible apply br_t h2 | with_reducible apply br_f h2 | with_reducible apply br_t h3 | with_reducible apply br_f h3); conv => lhs; whnf)
            refine (hih true).trans ?_
            simp only [h', h2', h3', Bool.true_and, Bool.not_false, Bool.or_true, Bool.true_or]
          · have h3' : undB l a i = true := bnf h3
            conv => lhs; whnf
            repeat ((first | with_reducible apply br_tt | with_reducible apply br_ff | with_reducible apply br_nf | with_reducible apply br_nt | with_reducible refine br_d ?_ (by kernel_rfl) | with_reducible apply br_t h | with_reducible apply br_f h | with_reducible apply br_t h2 | with_reducible apply br_f h2 | with_reducible apply br_t h3 | with_reducible apply br_f h3); conv => lhs; whnf)
            conv => lhs; arg 1; whnf
            refine bnd_g (by exact ⟨⟨by omega, by omega⟩, by omega, by omega⟩) ?_
            conv => lhs; whnf
            repeat ((first | with_reducible apply br_tt | with_reducible apply br_ff | with_reducible apply br_nf | with_reducible apply br_nt | with_reducible refine br_d ?_ (by kernel_rfl) | with_reducible apply br_t h | with_reducible apply br_f h | with_reducible apply br_t h2 | with_reducible apply br_f h2 | with_reducible apply br_t h3 | with_reducible apply br_f h3); conv => lhs; whnf)
            refine (hih (!undB l i b)).trans ?_
            simp only [h', h2', h3', Bool.true_and, Bool.not_true, Bool.false_or]
theorem lp_l6Covers (l : List (Int × Int)) (hl : l.length ≤ 64) (a : Nat) (ha : a < l.length) (k : AX → S → Option (AV × List Ob)) (d : Nat) : ∀ (n i : Nat) (x : Int) (zs : List Int), l.length - i = d → i ≤ l.length → x = i → d + 80 < n → zs.length ≤ i →
    lpAt E_l6Covers (lp E_l6Covers 0 n) 0 (loopAt Tryz.f86 0) (mkS [0, 1, 2, 7, 8] [.lst (.pair (.int .i64) (.int .i64)) l, .int .i64 (a : Int), .bool true, .own 0, .int .i64 x] [some (.row 3 (.int .i64) zs)]) k =
      k (.exit 0) (mkS [0, 1, 2, 7, 8, 9] [.lst (.pair (.int .i64) (.int .i64)) l, .int .i64 (a : Int), .bool true, .own 0, .int .i64 l.length, .any] [some (.row 3 (.int .i64) (zs ++ chsF (fun x => covS l a x) d i))]) := by
  have hin : inC l (a : Int) = true := inC_iff.2 ⟨by omega, by omega⟩
  induction d with
  | zero =>
    intro n i x zs hd hi hx hn hz
    have : i = l.length := by omega
    subst hx this
    have hq : decide ((l.length : Int) < (l.length : Int)) = false := df (by omega)
    rw [lpAt_def]
    conv => lhs; whnf
    repeat ((first | with_reducible apply br_tt | with_reducible apply br_ff | with_reducible apply br_nf | with_reducible apply br_nt | with_reducible refine br_d ?_ (by kernel_rfl) | with_reducible apply br_t hq | with_reducible apply br_f hq); conv => lhs; whnf)
    rw [chsF, List.append_nil]
  | succ d ih =>
    intro n i x zs hd hi hx hn hz
    obtain ⟨n, rfl⟩ : ∃ m, n = m + 1 := ⟨n - 1, by omega⟩
    subst hx
    have hq : decide ((i : Int) < (l.length : Int)) = true := dt (by omega)
    have hih := fun zs => ih n (i + 1) (IntKind.i64.wrap ((i : Int) + 1)) zs (by omega) (by omega) (by rw [wrap64 (n := (i : Int) + 1) (by omega) (by omega)]; simp) (by omega)
    rw [lpAt_def]
    conv => lhs; whnf
    repeat ((first | with_reducible apply br_tt | with_reducible apply br_ff | with_reducible apply br_nf | with_reducible apply br_nt | with_reducible refine br_d ?_ (by kernel_rfl) | with_reducible apply br_t hq | with_reducible apply br_f hq); conv => lhs; whnf)
    conv => lhs; arg 1; whnf
    refine bnd_g (by exact hl) ?_
    conv => lhs; whnf
    repeat ((first | with_reducible apply br_tt | with_reducible apply br_ff | with_reducible apply br_nf | with_reducible apply br_nt | with_reducible refine br_d ?_ (by kernel_rfl) | with_reducible apply br_t hq | with_reducible apply br_f hq | with_reducible apply br_t hin | with_reducible apply br_f hin); conv => lhs; whnf)
    refine br_c (fun h => ?_) (fun h => ?_)
    · have h' : ((i : Int) == (a : Int)) = true := h
      have e : covS l a i = false := by unfold covS; rw [h']; rfl
      conv => lhs; whnf
      repeat ((first | with_reducible apply br_tt | with_reducible apply br_ff | with_reducible apply br_nf | with_reducible apply br_nt | with_reducible refine br_d ?_ (by kernel_rfl) | with_reducible apply br_t h | with_reducible apply br_f h); conv => lhs; whnf)
      refine (hih zs (by omega)).trans ?_
      rw [chsF, e, cond_false]
    · have h' : ((i : Int) == (a : Int)) = false := h
      conv => lhs; whnf
      repeat ((first | with_reducible apply br_tt | with_reducible apply br_ff | with_reducible apply br_nf | with_reducible apply br_nt | with_reducible refine br_d ?_ (by kernel_rfl) | with_reducible apply br_t h | with_reducible apply br_f h); conv => lhs; whnf)
      conv => lhs; arg 1; whnf
      refine bnd_g (by exact ⟨⟨by omega, by omega⟩, by omega, by omega⟩) ?_
      conv => lhs; whnf
      repeat ((first | with_reducible apply br_tt | with_reducible apply br_ff | with_reducible apply br_nf | with_reducible apply br_nt | with_reducible refine br_d ?_ (by kernel_rfl) | with_reducible apply br_t h | with_reducible apply br_f h); conv => lhs; whnf)
      refine br_c (fun h2 => ?_) (fun h2 => ?_)
      · have h2' : undB l a i = false := bnt h2
        have e : covS l a i = false := by unfold covS; rw [h', h2']; rfl
        conv => lhs; whnf
        repeat ((first | with_reducible apply br_tt | with_reducible apply br_ff | with_reducible apply br_nf | with_reducible apply br_nt | with_reducible refine br_d ?_ (by kernel_rfl) | with_reducible apply br_t h | with_reducible apply br_f h); conv => lhs; whnf)
        refine (hih zs (by omega)).trans ?_
        rw [chsF, e, cond_false]
      · have h2' : undB l a i = true := bnf h2
        conv => lhs; whnf
        repeat ((first | with_reducible apply br_tt | with_reducible apply br_ff | with_reducible apply br_nf | with_reducible apply br_nt | with_reducible refine br_d ?_ (by kernel_rfl) | with_reducible apply br_t h | with_reducible apply br_f h); conv => lhs; whnf)
        refine (lq_l6Covers l hl a i ha (by omega) zs _ l.length _ 0 0 true rfl (Nat.zero_le _) rfl (by omega)).trans ?_
        have e : covS l a i = (true && allN (fun k => (((k : Int) == (a : Int)) || ((k : Int) == (i : Int))) || !undB l a k || !undB l k i) l.length 0) := by unfold covS; rw [h', h2']; rfl
        rw [← e]
        conv => lhs; whnf
        refine br_c (fun h3 => ?_) (fun h3 => ?_)
        · have h3' : covS l a i = true := h3
          conv => lhs; whnf
          refine br_t (dt (by simp [room]; omega)) ?_
          conv => lhs; whnf
          refine (hih _ (by simp; omega)).trans ?_
          rw [chsF, h3', cond_true]
          simp only [List.append_assoc]
          rfl
        · have h3' : covS l a i = false := h3
          conv => lhs; whnf
          refine (hih zs (by omega)).trans ?_
          rw [chsF, h3', cond_false]
theorem ev_l6Covers (l : List (Int × Int)) (a : Int) (hp : l.length ≤ 64 ∧ (0 ≤ a ∧ a < l.length) ∧ extsB l = true) : evF E_l6Covers (200) Tryz.f86 [.lst (.pair (.int .i64) (.int .i64)) l, .int .i64 a, .bool true] [] = some (.own 0, [.row 3 (.int .i64) (upL l a.toNat)]) := by
  obtain ⟨hl, ha, he⟩ := hp
  obtain ⟨j, rfl⟩ : ∃ j : Nat, a = j := ⟨a.toNat, by omega⟩
  rw [Int.toNat_natCast, upL_spec he (by omega)]
  conv => lhs; whnf
  refine (lp_l6Covers l hl j (by omega) _ l.length _ 0 0 [] rfl (Nat.zero_le _) rfl (by change _ < 199; omega) (Nat.le_refl _)).trans ?_
  conv => lhs; whnf
  rfl
theorem ok_l6Covers : FnOk Tryz.prog 86 K_l6Covers := by
  refine fn_ok (fn := Tryz.f86) (k := Tryz.f86.ntmps) (E := E_l6Covers) (facts_of (List.forall_mem_cons.2 ⟨(FnOk.soft (fun h => False.elim h) ok_l6Exists), List.forall_mem_cons.2 ⟨ok_l6Sorted, List.forall_mem_nil _⟩⟩)) (by kernel_rfl) rfl (by decide +kernel) (by decide +kernel) ?_
  intro avs hin r h
  unfold K_l6Covers at h
  split at h
  · obtain ⟨hp, rfl⟩ := gd_o h
    exact ⟨_, ev_l6Covers _ _ hp, rfl⟩
  · cases h

/- spec.FormatInt -/
def K_specFormatInt : List AV → List Ob → Option (AV × List Ob)
  | [.int .i64 n], [] => gd (-9223372036854775808 ≤ n ∧ n ≤ 9223372036854775807) (.str (itoaB n), [])
  | _, _ => none
@[reducible] def E_specFormatInt : Env := mkE (tb []) (fun f => false) (fun r => bif r == 5 then ([0, 3, 4], [3, 4]) else ([], []))
theorem lp_specFormatInt (f : Bool) (k : AX → S → Option (AV × List Ob)) (d : Nat) : ∀ (n : Nat) (x : Int) (out : ByteArray), x.natAbs < 10 ^ d → d < n → out.size + d ≤ 100 → -9223372036854775808 ≤ x → x ≤ 9223372036854775807 →
    lpAt E_specFormatInt (lp E_specFormatInt 0 n) 0 (loopAt Tryz.f87 0) (mkS [0, 3, 4] [.int .i64 x, .bool f, .str out] []) k =
      k (.exit 0) (mkS [3, 4] [.bool f, .str (bstr (digs x.natAbs) ++ out)] []) := by
  induction d with
  | zero =>
    intro n x out hx hn hz h0 h1
    have : x = 0 := by
      have : x.natAbs < 1 := hx
      omega
    subst this
    obtain ⟨n, rfl⟩ : ∃ m, n = m + 1 := ⟨n - 1, by omega⟩
    rw [lpAt_def]
    conv => lhs; whnf
    refine br_f (by rfl) ?_
    conv => lhs; whnf
    rw [show (0 : Int).natAbs = 0 from rfl, digs_zero, bstr_nil]
  | succ d ih =>
    intro n x out hx hn hz h0 h1
    obtain ⟨n, rfl⟩ : ∃ m, n = m + 1 := ⟨n - 1, by omega⟩
    have hq := tdiv_abs x
    have hqd : (x.tdiv 10).natAbs < 10 ^ d := by
      rw [hq]
      rw [Nat.pow_succ] at hx
      omega
    have hwq : IntKind.i64.wrap (x.tdiv 10) = x.tdiv 10 := wrap64 (by omega) (by omega)
    rw [lpAt_def]
    conv => lhs; whnf
    refine br_c (fun h => ?_) (fun h => ?_)
    · have h' : (x != 0) = true := h
      have hne : x.natAbs ≠ 0 := by
        have : x ≠ 0 := by simpa using h'
        omega
      have hsz : ∀ v : ByteArray, v = bstr [UInt8.ofNat (48 + x.natAbs % 10)] → (v ++ out).size = 1 + out.size := fun v hv => by rw [hv, ByteArray.size_append]; rfl
      conv => lhs; whnf
      refine br_f (df (by omega)) ?_
      conv => lhs; whnf
      refine br_c (fun h2 => ?_) (fun h2 => ?_)
      · have h2' : ¬ 0 ≤ x.tmod 10 := by
          have := ofd h2
          have : x.tmod 10 < 0 := this
          omega
        have e := digit_neg h2'
        conv => lhs; whnf
        refine br_t (by (refine dt ?_; change (intsStr [IntKind.u8.wrap (IntKind.i64.wrap (48 + IntKind.i64.wrap (0 - x.tmod 10)))]).size + out.size ≤ 9223372036854775807; rw [e]; show 1 + out.size ≤ _; omega)) ?_
        conv => lhs; whnf
        refine br_f (df (by omega)) ?_
        conv => lhs; whnf
        refine Eq.trans (ih n _ _ (by rw [hwq]; exact hqd) (by omega) (by rw [hsz _ e]; omega) (by rw [hwq]; omega) (by rw [hwq]; omega)) ?_
        rw [hwq, hq]
        have e3 : bstr (digs (x.natAbs / 10)) ++ (intsStr [IntKind.u8.wrap (IntKind.i64.wrap (48 + IntKind.i64.wrap (0 - x.tmod 10)))] ++ out) = bstr (digs x.natAbs) ++ out := by rw [e, ← ByteArray.append_assoc, bstr_app, ← digs_step hne]
        rw [← e3]
      · have h2' : 0 ≤ x.tmod 10 := by
          have := ofn h2
          have : ¬ x.tmod 10 < 0 := this
          omega
        have e := digit_pos h2'
        conv => lhs; whnf
        refine br_t (by (refine dt ?_; change (intsStr [IntKind.u8.wrap (IntKind.i64.wrap (48 + x.tmod 10))]).size + out.size ≤ 9223372036854775807; rw [e]; show 1 + out.size ≤ _; omega)) ?_
        conv => lhs; whnf
        refine br_f (df (by omega)) ?_
        conv => lhs; whnf
        refine Eq.trans (ih n _ _ (by rw [hwq]; exact hqd) (by omega) (by rw [hsz _ e]; omega) (by rw [hwq]; omega) (by rw [hwq]; omega)) ?_
        rw [hwq, hq]
        have e3 : bstr (digs (x.natAbs / 10)) ++ (intsStr [IntKind.u8.wrap (IntKind.i64.wrap (48 + x.tmod 10))] ++ out) = bstr (digs x.natAbs) ++ out := by rw [e, ← ByteArray.append_assoc, bstr_app, ← digs_step hne]
        rw [← e3]
    · have h' : (x != 0) = false := h
      have : x = 0 := by simpa using h'
      subst this
      conv => lhs; whnf
      rw [show (0 : Int).natAbs = 0 from rfl, digs_zero, bstr_nil]
theorem ev_specFormatInt (n : Int) (hp : -9223372036854775808 ≤ n ∧ n ≤ 9223372036854775807) : evF E_specFormatInt (40) Tryz.f87 [.int .i64 n] [] = some (.str (itoaB n), []) := by
  conv => lhs; whnf
  refine br_c (fun h => ?_) (fun h => ?_)
  · have h' : (n == 0) = true := h
    have : n = 0 := by simpa using h'
    subst this
    conv => lhs; whnf
    rw [itoa_zero]
    rfl
  · have h' : (n == 0) = false := h
    have hne : n ≠ 0 := by simpa using h'
    have hd := digs_len 19 n.natAbs (by omega)
    conv => lhs; whnf
    refine (lp_specFormatInt _ _ 19 _ n ⟨#[]⟩ (by omega) (by change 19 < 39; omega) (by decide) hp.1 hp.2).trans ?_
    have e : bstr (digs n.natAbs) ++ (⟨#[]⟩ : ByteArray) = bstr (digs n.natAbs) := by
      have := bstr_app (digs n.natAbs) []
      rw [List.append_nil] at this
      exact this
    rw [e, itoa_digs hne]
    conv => lhs; whnf
    refine br_c (fun h2 => ?_) (fun h2 => ?_)
    · have h2' : decide (n < 0) = true := h2
      rw [h2', cond_true]
      conv => lhs; whnf
      refine br_t (by (refine dt ?_; change (1 : Nat) + (bstr (digs n.natAbs)).size ≤ 9223372036854775807; rw [bstr_size]; omega)) ?_
      conv => lhs; whnf
      rfl
    · have h2' : decide (n < 0) = false := h2
      rw [h2', cond_false]
      conv => lhs; whnf
theorem ok_specFormatInt : FnOk Tryz.prog 87 K_specFormatInt := by
  refine fn_ok (fn := Tryz.f87) (k := Tryz.f87.ntmps) (E := E_specFormatInt) (facts_of (List.forall_mem_nil _)) (by kernel_rfl) rfl (by decide +kernel) (by decide +kernel) ?_
  intro avs hin r h
  unfold K_specFormatInt at h
  split at h
  · obtain ⟨hp, rfl⟩ := gd_o h
    exact ⟨_, ev_specFormatInt _ hp, rfl⟩
  · cases h

/- spec.Join -/
def K_specJoin : List AV → List Ob → Option (AV × List Ob)
  | [.lst .str ys, .str sep], [] => gd (ys.length ≤ 1048576 ∧ okTxt ys = true ∧ sep.size ≤ 16) (.str (joinF ys sep), [])
  | _, _ => none
@[reducible] def E_specJoin : Env := mkE (tb []) (fun f => false) (fun r => bif r == 3 then ([0, 1, 5, 6], [4, 5]) else ([], []))
theorem lp_specJoin (ys : List ByteArray) (sep : ByteArray) (hl : ys.length ≤ 1048576) (hy : ∀ y ∈ ys, y.size ≤ 1048576) (hs : sep.size ≤ 16) (k : AX → S → Option (AV × List Ob)) (r : Option (AV × List Ob)) (hk : ∀ zs, k .ret (mkS [4, 5] [.str ⟨#[]⟩, .own 0] [some (.row 5 (.int .u8) zs)]) = r) (d : Nat) : ∀ (n i : Nat) (x : Int) (zs : List Int), ys.length - i = d → i ≤ ys.length → x = i → d < n → zs.length ≤ 1048576 →
    lpAt E_specJoin (lp E_specJoin 0 n) 0 (loopAt Tryz.f88 0) (mkS [0, 1, 5, 6] [.lst .str ys, .str sep, .own 0, .int .i64 x] [some (.row 5 (.int .u8) zs)]) k =
      if (zs ++ restI sep i (ys.drop i)).length ≤ 1048576 then k (.exit 0) (mkS [4, 5] [.any, .own 0] [some (.row 5 (.int .u8) (zs ++ restI sep i (ys.drop i)))]) else r := by
  induction d with
  | zero =>
    intro n i x zs hd hi hx hn hz
    subst hx
    rw [lpAt_def]
    conv => lhs; whnf
    refine br_f (df (by omega)) ?_
    conv => lhs; whnf
    rw [List.drop_of_length_le (by omega), restI, List.append_nil, if_pos hz]
  | succ d ih =>
    intro n i x zs hd hi hx hn hz
    obtain ⟨n, rfl⟩ : ∃ m, n = m + 1 := ⟨n - 1, by omega⟩
    subst hx
    have hyi := hy _ (mem_getD (l := ys) (i := i) (d := ByteArray.empty) (by omega))
    have l1 := strInts_len (ys.getD i ByteArray.empty)
    have l2 := strInts_len sep
    rw [getD_drop (l := ys) (i := i) (d := ByteArray.empty) (by omega), restI, lpAt_def]
    conv => lhs; whnf
    refine br_t (dt (by omega)) ?_
    conv => lhs; whnf
    refine br_c (fun h => ?_) (fun h => ?_)
    · have h' := ofd h
      have h' : 0 < i := by omega
      conv => lhs; whnf
      refine br_t (dt (by change (zs.length + (strInts sep).length) * 1 ≤ 140737488355328; omega)) ?_
      conv => lhs; whnf
      refine br_t (dt2 (by omega) (by omega)) ?_
      conv => lhs; whnf
      refine br_t (dt (by change ((zs ++ strInts sep).length + (strInts (ys.getD i ByteArray.empty)).length) * 1 ≤ 140737488355328; rw [List.length_append]; omega)) ?_
      conv => lhs; whnf
      rw [if_pos h']
      refine br_c (fun h2 => ?_) (fun h2 => ?_)
      · have h2' := ofd h2
        have h2' : (((zs ++ strInts sep) ++ strInts (ys.getD i ByteArray.empty)).length : Int) > 1048576 := h2'
        conv => lhs; whnf
        rw [if_neg (by simp only [List.length_append] at h2' ⊢; omega)]
        exact hk _
      · have h2' := ofn h2
        have h2' : ¬ (((zs ++ strInts sep) ++ strInts (ys.getD i ByteArray.empty)).length : Int) > 1048576 := h2'
        conv => lhs; whnf
        refine Eq.trans (ih n (i + 1) _ _ (by omega) (by omega) (by rw [wrap64 (n := (i : Int) + 1) (by omega) (by omega)]; simp) (by omega) (by omega)) ?_
        simp only [List.append_assoc]
        rfl
    · have h' := ofn h
      have h' : ¬ 0 < i := by omega
      conv => lhs; whnf
      refine br_t (dt2 (by omega) (by omega)) ?_
      conv => lhs; whnf
      refine br_t (dt (by change (zs.length + (strInts (ys.getD i ByteArray.empty)).length) * 1 ≤ 140737488355328; omega)) ?_
      conv => lhs; whnf
      rw [if_neg h', List.nil_append]
      refine br_c (fun h2 => ?_) (fun h2 => ?_)
      · have h2' := ofd h2
        have h2' : ((zs ++ strInts (ys.getD i ByteArray.empty)).length : Int) > 1048576 := h2'
        conv => lhs; whnf
        rw [if_neg (by simp only [List.length_append] at h2' ⊢; omega)]
        exact hk _
      · have h2' := ofn h2
        have h2' : ¬ ((zs ++ strInts (ys.getD i ByteArray.empty)).length : Int) > 1048576 := h2'
        conv => lhs; whnf
        refine Eq.trans (ih n (i + 1) _ _ (by omega) (by omega) (by rw [wrap64 (n := (i : Int) + 1) (by omega) (by omega)]; simp) (by omega) (by omega)) ?_
        simp only [List.append_assoc]
        rfl
theorem ev_specJoin (ys : List ByteArray) (sep : ByteArray) (hp : ys.length ≤ 1048576 ∧ okTxt ys = true ∧ sep.size ≤ 16) : evF E_specJoin (ys.length + 2) Tryz.f88 [.lst .str ys, .str sep] [] = some (.str (joinF ys sep), []) := by
  obtain ⟨h1, h2, h3⟩ := hp
  have hy := okTxt_iff.1 h2
  conv => lhs; whnf
  refine (lp_specJoin ys sep h1 hy h3 _ _ (fun zs => rfl) ys.length _ 0 0 [] rfl (Nat.zero_le _) rfl (by omega) (by simp)).trans ?_
  rw [List.nil_append, List.drop_zero, restI_len]
  unfold joinF
  split
  · conv => lhs; whnf
    rw [intsStr_join]
  · rfl
theorem ok_specJoin : FnOk Tryz.prog 88 K_specJoin := by
  refine fn_ok (fn := Tryz.f88) (k := Tryz.f88.ntmps) (E := E_specJoin) (facts_of (List.forall_mem_nil _)) (by kernel_rfl) rfl (by decide +kernel) (by decide +kernel) ?_
  intro avs hin r h
  unfold K_specJoin at h
  split at h
  · obtain ⟨hp, rfl⟩ := gd_o h
    exact ⟨_, ev_specJoin _ _ hp, rfl⟩
  · cases h

/- spec.DiagramLines -/
def K_specDiagramLines : List AV → List Ob → Option (AV × List Ob)
  | [.agg [.int .i64 m, .lst (.int .i64) b]], [] => gd (b.length ≤ 1048576) (.own 0, [.row 9 .str (dgF m b)])
  | _, _ => none
@[reducible] def E_specDiagramLines : Env := mkE (tb [(26, K_specConcepts), (31, K_specSpotOf), (86, K_l6Covers), (87, K_specFormatInt), (88, K_specJoin)]) (fun f => false) (fun r => bif r == 4 then ([1, 3, 4, 5], [1, 3, 4, 5, 6, 9]) else bif r == 10 then ([1, 3, 4, 5, 6, 8, 9, 10], [1, 3, 4, 5, 6, 9]) else ([], []))
theorem lq_specDiagramLines (m : Int) (b : List Int) (i : Nat) (p : Int × Int) (zs : List ByteArray) (l : List (Int × Int)) (us : List Int) (hu : us.length ≤ 64) (hr : ∀ x ∈ us, 0 ≤ x ∧ x ≤ 1000000) (k : AX → S → Option (AV × List Ob)) (d : Nat) : ∀ (n j : Nat) (x : Int) (ws : List ByteArray), us.length - j = d → j ≤ us.length → x = j → d < n → ws.length ≤ j →
    lpAt E_specDiagramLines (lp E_specDiagramLines 0 n) 0 (loopAt Tryz.f38 1) (mkS [1, 3, 4, 5, 6, 8, 9, 10] [.ptr 0 0, .own 1, .own 2, .int .i64 (i : Int), .ptr 3 0, .own 4, .own 5, .int .i64 x] [some (.box 29 [.int .i64 m, .lst (.int .i64) b]), some (.row 9 .str zs), some (.row 47 (.pair (.int .i64) (.int .i64)) l), some (.box 52 [.int .i64 p.1, .int .i64 p.2]), some (.row 3 (.int .i64) us), some (.row 9 .str ws)]) k =
      k (.exit 2) (mkS [1, 3, 4, 5, 6, 9] [.ptr 0 0, .own 1, .own 2, .int .i64 (i : Int), .ptr 3 0, .own 4] [some (.box 29 [.int .i64 m, .lst (.int .i64) b]), some (.row 9 .str zs), some (.row 47 (.pair (.int .i64) (.int .i64)) l), some (.box 52 [.int .i64 p.1, .int .i64 p.2]), some (.row 9 .str (ws ++ (us.drop j).map itoaB))]) := by
  induction d with
  | zero =>
    intro n j x ws hd hj hx hn hz
    subst hx
    rw [lpAt_def]
    conv => lhs; whnf
    refine br_f (df (by omega)) ?_
    conv => lhs; whnf
    rw [List.drop_of_length_le (by omega), List.map_nil, List.append_nil]
  | succ d ih =>
    intro n j x ws hd hj hx hn hz
    obtain ⟨n, rfl⟩ : ∃ m, n = m + 1 := ⟨n - 1, by omega⟩
    subst hx
    have h1 := hr _ (mem_getD (l := us) (i := j) (d := 0) (by omega))
    rw [lpAt_def]
    conv => lhs; whnf
    refine br_t (dt (by omega)) ?_
    conv => lhs; whnf
    refine br_t (dt2 (by omega) (by omega)) ?_
    conv => lhs; whnf
    refine br_t (dt (by omega)) ?_
    conv => lhs; whnf
    conv => lhs; arg 1; whnf
    refine bnd_g (by exact ⟨by change _ ≤ us.getD j 0; omega, by change us.getD j 0 ≤ _; omega⟩) ?_
    conv => lhs; whnf
    refine br_t (dt (by simp [room]; omega)) ?_
    conv => lhs; whnf
    refine (ih n (j + 1) _ _ (by omega) (by omega) (by rw [wrap64 (n := (j : Int) + 1) (by omega) (by omega)]; simp) (by omega) (by simp; omega)).trans ?_
    rw [map_dropN us j (by omega)]
    simp only [List.append_assoc]
    rfl
theorem lp_specDiagramLines (m : Int) (b : List Int) (hb : b.length ≤ 1048576) (k : AX → S → Option (AV × List Ob)) (d : Nat) : ∀ (n i : Nat) (x : Int) (zs : List ByteArray), (concF m b).length - i = d → i ≤ (concF m b).length → x = i → d + 80 < n → zs.length ≤ i →
    lpAt E_specDiagramLines (lp E_specDiagramLines 0 n) 0 (loopAt Tryz.f38 0) (mkS [1, 3, 4, 5] [.ptr 0 0, .own 1, .own 2, .int .i64 x] [some (.box 29 [.int .i64 m, .lst (.int .i64) b]), some (.row 9 .str zs), some (.row 47 (.pair (.int .i64) (.int .i64)) (concF m b))]) k =
      k (.exit 0) (mkS [1, 3, 4, 5, 6, 9] [.ptr 0 0, .own 1, .own 2, .int .i64 (concF m b).length, .any, .any] [some (.box 29 [.int .i64 m, .lst (.int .i64) b]), some (.row 9 .str (zs ++ dgL m b d i)), some (.row 47 (.pair (.int .i64) (.int .i64)) (concF m b))]) := by
  have hl := concF_len m b
  have hext := conc_exts m b
  induction d with
  | zero =>
    intro n i x zs hd hi hx hn hz
    have : i = (concF m b).length := by omega
    subst hx this
    rw [lpAt_def]
    conv => lhs; whnf
    refine br_f (df (by omega)) ?_
    conv => lhs; whnf
    rw [dgL, List.append_nil]
  | succ d ih =>
    intro n i x zs hd hi hx hn hz
    obtain ⟨n, rfl⟩ : ∃ m, n = m + 1 := ⟨n - 1, by omega⟩
    subst hx
    have hr := spot_rng m b (i : Int)
    have hu := upL_len (concF m b) i
    have hur := upL_rng hl i
    rw [lpAt_def]
    conv => lhs; whnf
    refine br_t (dt (by omega)) ?_
    conv => lhs; whnf
    conv => lhs; arg 1; whnf
    refine bnd_g (by exact hb) ?_
    conv => lhs; whnf
    conv => lhs; arg 1; whnf
    refine bnd_g (by exact ⟨hl, ⟨by omega, by omega⟩, hext⟩) ?_
    conv => lhs; whnf
    refine (lq_specDiagramLines m b i (spotF m b i) zs (concF m b) (upL (concF m b) i) (by omega) hur _ (upL (concF m b) i).length _ 0 0 [] rfl (Nat.zero_le _) rfl (by omega) (Nat.le_refl _)).trans ?_
    rw [List.nil_append, List.drop_zero]
    have s1 := isz (i := i) (by omega)
    have s2 := itoa_len hr.1.1 hr.1.2
    have s3 := itoa_len hr.2.1 hr.2.2
    have s4 : (⟨#[32]⟩ : ByteArray).size = 1 := rfl
    have s5 : (⟨#[44]⟩ : ByteArray).size = 1 := rfl
    have s6 := fun ys => join_le ys ⟨#[44]⟩
    conv => lhs; whnf
    refine br_c (fun h => ?_) (fun h => ?_)
    · have h' : ((((upL (concF m b) i).map itoaB).length : Int) == 0) = true := h
      have hm0 : (upL (concF m b) i).map itoaB = [] := lenZ h'
      have hw : wordsL (upL (concF m b) i) = (upL (concF m b) i).map itoaB ++ [⟨#[45]⟩] := by
        rw [hm0]
        rw [List.map_eq_nil_iff] at hm0
        rw [hm0]; rfl
      have hok : okTxt ((upL (concF m b) i).map itoaB ++ [⟨#[45]⟩]) = true := hw ▸ words_ok hur
      have s7 := s6 ((upL (concF m b) i).map itoaB ++ [⟨#[45]⟩])
      have hln : ((upL (concF m b) i).map itoaB).length ≤ 64 := by rw [List.length_map]; omega
      conv => lhs; whnf
      refine br_t (dt (by simp [room]; omega)) ?_
      conv => lhs; whnf
      conv => lhs; arg 1; whnf
      refine bnd_g (by omega) ?_
      conv => lhs; whnf
      refine br_t (by (refine dt ?_; change (itoaB (i : Int)).size + ((⟨#[32]⟩ : ByteArray)).size ≤ 9223372036854775807; (try simp only [ByteArray.size_append]); omega)) ?_
      conv => lhs; whnf
      conv => lhs; arg 1; whnf
      refine bnd_g (by exact hr.1) ?_
      conv => lhs; whnf
      refine br_t (by (refine dt ?_; change ((itoaB (i : Int) ++ (⟨#[32]⟩ : ByteArray))).size + (itoaB (spotF m b (i : Int)).1).size ≤ 9223372036854775807; (try simp only [ByteArray.size_append]); omega)) ?_
      conv => lhs; whnf
      refine br_t (by (refine dt ?_; change (((itoaB (i : Int) ++ (⟨#[32]⟩ : ByteArray)) ++ itoaB (spotF m b (i : Int)).1)).size + ((⟨#[44]⟩ : ByteArray)).size ≤ 9223372036854775807; (try simp only [ByteArray.size_append]); omega)) ?_
      conv => lhs; whnf
      conv => lhs; arg 1; whnf
      refine bnd_g (by exact hr.2) ?_
      conv => lhs; whnf
      refine br_t (by (refine dt ?_; change ((((itoaB (i : Int) ++ (⟨#[32]⟩ : ByteArray)) ++ itoaB (spotF m b (i : Int)).1) ++ (⟨#[44]⟩ : ByteArray))).size + (itoaB (spotF m b (i : Int)).2).size ≤ 9223372036854775807; (try simp only [ByteArray.size_append]); omega)) ?_
      conv => lhs; whnf
      refine br_t (by (refine dt ?_; change (((((itoaB (i : Int) ++ (⟨#[32]⟩ : ByteArray)) ++ itoaB (spotF m b (i : Int)).1) ++ (⟨#[44]⟩ : ByteArray)) ++ itoaB (spotF m b (i : Int)).2)).size + ((⟨#[32]⟩ : ByteArray)).size ≤ 9223372036854775807; (try simp only [ByteArray.size_append]); omega)) ?_
      conv => lhs; whnf
      conv => lhs; arg 1; whnf
      refine bnd_g (by exact ⟨by rw [List.length_append]; simp only [List.length_singleton]; omega, by exact hok, by decide⟩) ?_
      conv => lhs; whnf
      refine br_t (by (refine dt ?_; change ((((((itoaB (i : Int) ++ (⟨#[32]⟩ : ByteArray)) ++ itoaB (spotF m b (i : Int)).1) ++ (⟨#[44]⟩ : ByteArray)) ++ itoaB (spotF m b (i : Int)).2) ++ (⟨#[32]⟩ : ByteArray))).size + (joinF ((upL (concF m b) i).map itoaB ++ [(⟨#[45]⟩ : ByteArray)]) ⟨#[44]⟩).size ≤ 9223372036854775807; (try simp only [ByteArray.size_append]); omega)) ?_
      conv => lhs; whnf
      refine br_t (dt (by simp [room]; omega)) ?_
      conv => lhs; whnf
      repeat ((first | with_reducible apply br_tt | with_reducible apply br_ff | with_reducible apply br_nf | with_reducible apply br_nt | with_reducible refine br_d ?_ (by kernel_rfl)); conv => lhs; whnf)
      have e : dgT m b i = ((((((itoaB (i : Int)) ++ ⟨#[32]⟩) ++ itoaB (spotF m b i).1) ++ ⟨#[44]⟩) ++ itoaB (spotF m b i).2) ++ ⟨#[32]⟩) ++ joinF (wordsL (upL (concF m b) i)) ⟨#[44]⟩ := rfl
      rw [hw] at e
      refine (ih n (i + 1) _ _ (by omega) (by omega) (by rw [wrap64 (n := (i : Int) + 1) (by omega) (by omega)]; simp) (by omega) (by simp; omega)).trans ?_
      rw [dgL, e]
      simp only [List.append_assoc]
      rfl
    · have h' : ((((upL (concF m b) i).map itoaB).length : Int) == 0) = false := h
      have hw : wordsL (upL (concF m b) i) = (upL (concF m b) i).map itoaB := by
        unfold wordsL
        cases hq : upL (concF m b) i with
        | nil => rw [hq] at h'; cases h'
        | cons x r => rfl
      have s7 := s6 ((upL (concF m b) i).map itoaB)
      have hok := words_ok hur
      rw [hw] at hok
      conv => lhs; whnf
      conv => lhs; arg 1; whnf
      refine bnd_g (by omega) ?_
      conv => lhs; whnf
      refine br_t (by (refine dt ?_; change (itoaB (i : Int)).size + ((⟨#[32]⟩ : ByteArray)).size ≤ 9223372036854775807; (try simp only [ByteArray.size_append]); omega)) ?_
      conv => lhs; whnf
      conv => lhs; arg 1; whnf
      refine bnd_g (by exact hr.1) ?_
      conv => lhs; whnf
      refine br_t (by (refine dt ?_; change ((itoaB (i : Int) ++ (⟨#[32]⟩ : ByteArray))).size + (itoaB (spotF m b (i : Int)).1).size ≤ 9223372036854775807; (try simp only [ByteArray.size_append]); omega)) ?_
      conv => lhs; whnf
      refine br_t (by (refine dt ?_; change (((itoaB (i : Int) ++ (⟨#[32]⟩ : ByteArray)) ++ itoaB (spotF m b (i : Int)).1)).size + ((⟨#[44]⟩ : ByteArray)).size ≤ 9223372036854775807; (try simp only [ByteArray.size_append]); omega)) ?_
      conv => lhs; whnf
      conv => lhs; arg 1; whnf
      refine bnd_g (by exact hr.2) ?_
      conv => lhs; whnf
      refine br_t (by (refine dt ?_; change ((((itoaB (i : Int) ++ (⟨#[32]⟩ : ByteArray)) ++ itoaB (spotF m b (i : Int)).1) ++ (⟨#[44]⟩ : ByteArray))).size + (itoaB (spotF m b (i : Int)).2).size ≤ 9223372036854775807; (try simp only [ByteArray.size_append]); omega)) ?_
      conv => lhs; whnf
      refine br_t (by (refine dt ?_; change (((((itoaB (i : Int) ++ (⟨#[32]⟩ : ByteArray)) ++ itoaB (spotF m b (i : Int)).1) ++ (⟨#[44]⟩ : ByteArray)) ++ itoaB (spotF m b (i : Int)).2)).size + ((⟨#[32]⟩ : ByteArray)).size ≤ 9223372036854775807; (try simp only [ByteArray.size_append]); omega)) ?_
      conv => lhs; whnf
      conv => lhs; arg 1; whnf
      refine bnd_g (by exact ⟨by rw [List.length_map]; omega, by exact hok, by decide⟩) ?_
      conv => lhs; whnf
      refine br_t (by (refine dt ?_; change ((((((itoaB (i : Int) ++ (⟨#[32]⟩ : ByteArray)) ++ itoaB (spotF m b (i : Int)).1) ++ (⟨#[44]⟩ : ByteArray)) ++ itoaB (spotF m b (i : Int)).2) ++ (⟨#[32]⟩ : ByteArray))).size + (joinF ((upL (concF m b) i).map itoaB) ⟨#[44]⟩).size ≤ 9223372036854775807; (try simp only [ByteArray.size_append]); omega)) ?_
      conv => lhs; whnf
      refine br_t (dt (by simp [room]; omega)) ?_
      conv => lhs; whnf
      repeat ((first | with_reducible apply br_tt | with_reducible apply br_ff | with_reducible apply br_nf | with_reducible apply br_nt | with_reducible refine br_d ?_ (by kernel_rfl)); conv => lhs; whnf)
      have e : dgT m b i = ((((((itoaB (i : Int)) ++ ⟨#[32]⟩) ++ itoaB (spotF m b i).1) ++ ⟨#[44]⟩) ++ itoaB (spotF m b i).2) ++ ⟨#[32]⟩) ++ joinF (wordsL (upL (concF m b) i)) ⟨#[44]⟩ := rfl
      rw [hw] at e
      refine (ih n (i + 1) _ _ (by omega) (by omega) (by rw [wrap64 (n := (i : Int) + 1) (by omega) (by omega)]; simp) (by omega) (by simp; omega)).trans ?_
      rw [dgL, e]
      simp only [List.append_assoc]
      rfl
theorem ev_specDiagramLines (m : Int) (b : List Int) (hp : b.length ≤ 1048576) : evF E_specDiagramLines (200) Tryz.f38 [.agg [.int .i64 m, .lst (.int .i64) b]] [] = some (.own 0, [.row 9 .str (dgF m b)]) := by
  have hl := concF_len m b
  conv => lhs; whnf
  conv => lhs; arg 1; whnf
  refine bnd_g (by exact hp) ?_
  conv => lhs; whnf
  refine (lp_specDiagramLines m b hp _ (concF m b).length _ 0 0 [] rfl (Nat.zero_le _) rfl (by change _ < 199; omega) (Nat.le_refl _)).trans ?_
  conv => lhs; whnf
  rfl
theorem ok_specDiagramLines : FnOk Tryz.prog 38 K_specDiagramLines := by
  refine fn_ok (fn := Tryz.f38) (k := Tryz.f38.ntmps) (E := E_specDiagramLines) (facts_of (List.forall_mem_cons.2 ⟨(FnOk.soft (fun h => False.elim h) ok_specConcepts), List.forall_mem_cons.2 ⟨(FnOk.soft (fun h => False.elim h) ok_specSpotOf), List.forall_mem_cons.2 ⟨ok_l6Covers, List.forall_mem_cons.2 ⟨ok_specFormatInt, List.forall_mem_cons.2 ⟨ok_specJoin, List.forall_mem_nil _⟩⟩⟩⟩⟩)) (by kernel_rfl) rfl (by decide +kernel) (by decide +kernel) ?_
  intro avs hin r h
  unfold K_specDiagramLines at h
  split at h
  · obtain ⟨hp, rfl⟩ := gd_o h
    exact ⟨_, ev_specDiagramLines _ _ hp, rfl⟩
  · cases h

def mTx (x : Int) : ByteArray := ⟨#[109]⟩ ++ bstr (digs x.natAbs)
theorem mTx_size {x : Int} (h0 : 0 ≤ x) (h1 : x ≤ 9223372036854775807) : (mTx x).size ≤ 20 := by
  have := digs_len 19 x.natAbs (by omega)
  unfold mTx
  rw [ByteArray.size_append, bstr_size]
  have : (⟨#[109]⟩ : ByteArray).size = 1 := rfl
  omega
theorem tne {x y : ByteArray} (h : x = y) : (x.toList != y.toList) = false := by rw [h]; simp
def iotaT : Int → Nat → List ByteArray
  | _, 0 => []
  | q, n + 1 => mTx q :: iotaT (q + 1) n
theorem iotaT_len : ∀ (n : Nat) (q : Int), (iotaT q n).length = n
  | 0, _ => rfl
  | n + 1, q => by rw [iotaT, List.length_cons, iotaT_len n]
theorem tset_succ {α : Type} {ys : List α} {i : Nat} {v : α} (h : i < ys.length) : (ys.set i v).take (i + 1) = ys.take i ++ [v] := by
  rw [List.take_succ_eq_append_getElem (by simpa using h), List.take_set_of_le (by omega)]
  simp
/- laws.sameTexts -/
def K_sameTexts : List AV → List Ob → Option (AV × List Ob)
  | [.lst .str a, .lst .str b], [] => gd (a.length < 4611686018427387904 ∧ b = a) (.bool true, [])
  | _, _ => none
@[reducible] def E_sameTexts : Env := mkE (tb []) (fun f => false) (fun r => bif r == 4 then ([0, 1, 5], [4]) else ([], []))
theorem lp_sameTexts (a : List ByteArray) (ha : a.length < 4611686018427387904) (k : AX → S → Option (AV × List Ob)) (d : Nat) : ∀ (n i : Nat) (x : Int), a.length - i = d → i ≤ a.length → x = i → d < n →
    lpAt E_sameTexts (lp E_sameTexts 0 n) 0 (loopAt Tryz.f36 0) (mkS [0, 1, 5] [.lst .str a, .lst .str a, .int .i64 x] []) k = k (.exit 0) (mkS [4] [.any] []) := by
  induction d with
  | zero =>
    intro n i x hd hi hx hn
    subst hx
    rw [lpAt_def]
    conv => lhs; whnf
    refine br_f (df (by omega)) ?_
    conv => lhs; whnf
  | succ d ih =>
    intro n i x hd hi hx hn
    obtain ⟨n, rfl⟩ : ∃ m, n = m + 1 := ⟨n - 1, by omega⟩
    subst hx
    rw [lpAt_def]
    conv => lhs; whnf
    refine br_t (dt (by omega)) ?_
    conv => lhs; whnf
    refine br_t (dt2 (by omega) (by omega)) ?_
    conv => lhs; whnf
    refine br_t (dt2 (by omega) (by omega)) ?_
    conv => lhs; whnf
    refine br_t (by kernel_rfl) ?_
    conv => lhs; whnf
    refine br_f (by exact tne rfl) ?_
    conv => lhs; whnf
    rw [ih n (i + 1) _ (by omega) (by omega) (by rw [wrap64 (by omega) (by omega)]; simp) (by omega)]
theorem ev_sameTexts (a b : List ByteArray) (hp : a.length < 4611686018427387904 ∧ b = a) : evF E_sameTexts (a.length + 2) Tryz.f36 [.lst .str a, .lst .str b] [] = some (.bool true, []) := by
  obtain ⟨h1, rfl⟩ := hp
  conv => lhs; whnf
  refine br_f (by simp) ?_
  conv => lhs; whnf
  refine (lp_sameTexts b h1 _ _ _ 0 0 rfl (by omega) rfl (by omega)).trans ?_
  conv => lhs; whnf
theorem ok_sameTexts : FnOk Tryz.prog 36 K_sameTexts := by
  refine fn_ok (fn := Tryz.f36) (k := Tryz.f36.ntmps) (E := E_sameTexts) (facts_of (List.forall_mem_nil _)) (by kernel_rfl) rfl (by decide +kernel) (by decide +kernel) ?_
  intro avs hin r h
  unfold K_sameTexts at h
  split at h
  · obtain ⟨hp, rfl⟩ := gd_o h
    exact ⟨_, ev_sameTexts _ _ hp, rfl⟩
  · cases h

end Go.Sym
