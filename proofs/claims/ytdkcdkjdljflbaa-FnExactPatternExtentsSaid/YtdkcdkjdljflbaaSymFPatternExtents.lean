/- Functions of the program, each told as a plain equation. -/
import Derived.Test.YtdkcdkjdljflbaaSymX
namespace Go.Sym
open Go.Proofs
set_option linter.unusedVariables false
set_option linter.unusedSimpArgs false
set_option maxRecDepth 100000
set_option maxHeartbeats 4000000

def szI (n left : Int) : Int := if left < n then -1 else left - n
theorem szI_ok {n left : Int} (h : ¬ szI n left < 0) : szI n left = left - n ∧ n ≤ left := by
  unfold szI at h ⊢
  split at h
  · omega
  · rename_i h5; exact ⟨if_neg h5, by omega⟩
def szL : List (List Int) → Int → Int
  | [], left => left
  | x :: r, left => if szI x.length left < 0 then -1 else szL r (szI x.length left)
def szSS (a : List (List Int)) (left : Int) : Int := if left < a.length then -1 else szL a (left - a.length)
theorem szL_ok : ∀ (a : List (List Int)) (left : Int), 0 ≤ left → ¬ szL a left < 0 → szL a left ≤ left ∧ ∀ x ∈ a, (x.length : Int) ≤ left
  | [], left, h, _ => ⟨by unfold szL; omega, fun x hx => by cases hx⟩
  | x :: r, left, h, hs => by
    unfold szL at hs ⊢
    split at hs
    · omega
    · rename_i h5
      obtain ⟨e1, l1⟩ := szI_ok h5
      rw [if_neg h5]
      obtain ⟨g1, g2⟩ := szL_ok r _ (by omega) hs
      refine ⟨by omega, fun y hy => ?_⟩
      rcases List.mem_cons.1 hy with rfl | hy
      · exact l1
      · have := g2 y hy
        omega
theorem szL_neg : ∀ (a : List (List Int)) (left : Int), 0 ≤ left → szL a left < 0 → szL a left = -1
  | [], left, h, hs => by unfold szL at hs; omega
  | x :: r, left, h, hs => by
    unfold szL at hs ⊢
    split at hs
    · rename_i h5; rw [if_pos h5]
    · rename_i h5
      rw [if_neg h5]
      exact szL_neg r _ (by omega) hs
theorem szSS_ok {a : List (List Int)} {left : Int} (h0 : 0 ≤ left) (h : ¬ szSS a left < 0) : 0 ≤ szSS a left ∧ szSS a left ≤ left ∧ (a.length : Int) ≤ left ∧ ∀ x ∈ a, (x.length : Int) ≤ left := by
  unfold szSS at h ⊢
  split at h
  · omega
  · rename_i h5
    rw [if_neg h5]
    obtain ⟨g1, g2⟩ := szL_ok a _ (by omega) h
    exact ⟨by omega, by omega, by omega, fun x hx => by have := g2 x hx; omega⟩
def isSet (n s : Int) : Bool := decide ((0 ≤ n ∧ n ≤ 8) ∧ (0 ≤ s ∧ s ≤ 2 ^ n.toNat - 1))
theorem shl_set {n : Int} (h0 : 0 ≤ n) (h8 : n ≤ 8) : IntKind.i64.wrap (IntKind.i64.wrap (1 * 2 ^ min n.toNat IntKind.i64.bits) - 1) = 2 ^ n.toNat - 1 := by
  have h : n = 0 ∨ n = 1 ∨ n = 2 ∨ n = 3 ∨ n = 4 ∨ n = 5 ∨ n = 6 ∨ n = 7 ∨ n = 8 := by omega
  rcases h with rfl | rfl | rfl | rfl | rfl | rfl | rfl | rfl | rfl <;> decide +kernel
theorem wrapu {n : Int} (h0 : 0 ≤ n) (h8 : n ≤ 8) : IntKind.u64.wrap n = n := by
  simp [IntKind.wrap, IntKind.bits, IntKind.signed]
  omega
theorem isSet8 (s : Int) : isSet 8 s = decide (0 ≤ s ∧ s ≤ 255) := by simp [isSet]
/-- The machine's and, and its and-not, on int. -/
def band (a b : Int) : Int := IntKind.i64.wrap (BitVec.ofInt IntKind.i64.bits a &&& BitVec.ofInt IntKind.i64.bits b).toNat
def bnot (a b : Int) : Int := IntKind.i64.wrap (BitVec.ofInt IntKind.i64.bits a &&& ~~~(BitVec.ofInt IntKind.i64.bits b)).toNat
def bor (a b : Int) : Int := IntKind.i64.wrap (BitVec.ofInt IntKind.i64.bits a ||| BitVec.ofInt IntKind.i64.bits b).toNat
theorem wrap_bv (x : BitVec 64) : IntKind.i64.wrap x.toNat = x.toInt := by
  simp [IntKind.wrap, IntKind.bits, IntKind.signed, BitVec.toInt]
  omega
theorem ofInt_toInt {a : Int} (h1 : -9223372036854775808 ≤ a) (h2 : a ≤ 9223372036854775807) : (BitVec.ofInt 64 a).toInt = a := by
  rw [BitVec.toInt_ofInt]
  simp [Int.bmod]
  omega
theorem bv_sub (x y : BitVec 64) : x &&& y = x ↔ x &&& ~~~y = 0#64 := by
  constructor
  · intro h
    apply BitVec.eq_of_getLsbD_eq
    intro i hi
    have h1 := congrArg (fun z => BitVec.getLsbD z i) h
    simp [hi] at h1 ⊢
    exact h1
  · intro h
    apply BitVec.eq_of_getLsbD_eq
    intro i hi
    have h1 := congrArg (fun z => BitVec.getLsbD z i) h
    simp [hi] at h1 ⊢
    exact h1
theorem sub_iff {a b : Int} (h1 : -9223372036854775808 ≤ a) (h2 : a ≤ 9223372036854775807) : band a b = a ↔ bnot a b = 0 := by
  unfold band bnot
  show IntKind.i64.wrap (BitVec.ofInt 64 a &&& BitVec.ofInt 64 b).toNat = a ↔ IntKind.i64.wrap (BitVec.ofInt 64 a &&& ~~~(BitVec.ofInt 64 b)).toNat = 0
  rw [wrap_bv, wrap_bv]
  conv => lhs; rhs; rw [← ofInt_toInt h1 h2]
  rw [BitVec.toInt_inj, ← BitVec.toInt_zero, BitVec.toInt_inj]
  exact bv_sub _ _
def badR (r : Int × Int) : Bool := !(isSet 8 r.1 && isSet 8 r.2)
def respOf (p q s : Int) : Bool := isSet 8 p && isSet 8 q && isSet 8 s && (!(bnot p s == 0) || bnot q s == 0)
theorem bne_bnot {p s : Int} (h : isSet 8 p = true) : (band p s != p) = !(bnot p s == 0) := by
  rw [isSet8] at h
  have h := of_decide_eq_true h
  have e := sub_iff (a := p) (b := s) (by omega) (by omega)
  simp only [bne]
  congr 1
  rw [Bool.eq_iff_iff, beq_iff_eq, beq_iff_eq, e]
theorem beq_bnot {p s : Int} (h : isSet 8 p = true) : (band p s == p) = (bnot p s == 0) := by
  have := bne_bnot (s := s) h
  simpa [bne] using this
def firstI {α : Type} (p : α → Bool) : List α → Int → Int
  | [], _ => -1
  | x :: r, i => bif p x then i else firstI p r (i + 1)
theorem firstI_iff {α : Type} (p : α → Bool) : ∀ (l : List α) (i : Int), 0 ≤ i → (decide (firstI p l i ≥ 0)) = l.any p
  | [], i, h => by simp [firstI]
  | x :: r, i, h => by
    cases hx : p x
    · simp only [firstI, hx, cond_false, List.any_cons, Bool.false_or]
      exact firstI_iff p r (i + 1) (by omega)
    · simp [firstI, hx]
      omega
theorem firstI_none {α : Type} (p : α → Bool) : ∀ (l : List α) (i : Int), l.any p = false → firstI p l i = -1
  | [], i, h => rfl
  | x :: r, i, h => by
    simp only [List.any_cons, Bool.or_eq_false_iff] at h
    simp only [firstI, h.1, cond_false]
    exact firstI_none p r (i + 1) h.2
def idxs {α : Type} (p : α → Bool) : List α → Int → List Int
  | [], _ => []
  | x :: r, i => bif p x then i :: idxs p r (i + 1) else idxs p r (i + 1)
def brk (a : List (Int × Int)) (s : Int) : List Int := idxs (fun r => !respOf r.1 r.2 s) a 0
theorem idxs_length {α : Type} (p : α → Bool) : ∀ (l : List α) (i : Int), (idxs p l i).length ≤ l.length
  | [], i => by simp [idxs]
  | x :: r, i => by
    have := idxs_length p r (i + 1)
    cases hx : p x <;> simp [idxs, hx] <;> omega
def okNum (n : Int) : Bool := decide (0 ≤ n ∧ n ≤ 9)
def badNum (n : Int) : Bool := !okNum n
def okPt (w : Nat) (x : List Int) : Bool := decide (x.length = w) && x.all okNum
def arePts (a : List (List Int)) : Bool := decide (1 ≤ a.length ∧ a.length ≤ 8) && (decide ((a.getD 0 []).length ≤ 3) && a.all (okPt (a.getD 0 []).length))
def badPt (a : List (List Int)) (x : List Int) : Bool := decide (x.length ≠ (a.getD 0 []).length) || decide (3 < x.length) || x.any badNum
theorem arePts_parts {a : List (List Int)} (h : arePts a = true) : (1 ≤ a.length ∧ a.length ≤ 8) ∧ (a.getD 0 []).length ≤ 3 ∧ ∀ x ∈ a, x.length = (a.getD 0 []).length := by
  unfold arePts at h
  simp only [Bool.and_eq_true, decide_eq_true_eq, List.all_eq_true] at h
  refine ⟨h.1, h.2.1, fun x hx => ?_⟩
  have := h.2.2 x hx
  unfold okPt at this
  simp only [Bool.and_eq_true, decide_eq_true_eq] at this
  exact this.1
theorem any_badPt {a : List (List Int)} (h : 1 ≤ a.length) : a.any (badPt a) = !(decide ((a.getD 0 []).length ≤ 3) && a.all (okPt (a.getD 0 []).length)) := by
  suffices hs : (!a.any (badPt a)) = (decide ((a.getD 0 []).length ≤ 3) && a.all (okPt (a.getD 0 []).length)) by rw [← hs, Bool.not_not]
  rw [Bool.eq_iff_iff]
  simp only [Bool.not_eq_true', List.any_eq_false, Bool.and_eq_true, List.all_eq_true, decide_eq_true_eq]
  constructor
  · intro g
    have g0 := g _ (mem_getD (d := []) (show 0 < a.length by omega))
    unfold badPt at g0
    simp only [Bool.or_eq_true, decide_eq_true_eq, not_or] at g0
    refine ⟨by omega, fun x hx => ?_⟩
    have g1 := g x hx
    unfold badPt at g1
    simp only [Bool.or_eq_true, decide_eq_true_eq, not_or] at g1
    unfold okPt
    rw [dt (by omega), Bool.true_and, List.all_eq_true]
    intro n hn
    have g2 := g1.2
    rw [Bool.not_eq_true, List.any_eq_false] at g2
    have := g2 n hn
    unfold badNum at this
    simpa using this
  · rintro ⟨g1, g2⟩ x hx
    have g3 := g2 x hx
    unfold okPt at g3
    simp only [Bool.and_eq_true, decide_eq_true_eq, List.all_eq_true] at g3
    unfold badPt
    simp only [Bool.or_eq_true, decide_eq_true_eq, not_or]
    refine ⟨⟨by omega, by omega⟩, ?_⟩
    rw [Bool.not_eq_true, List.any_eq_false]
    intro n hn
    unfold badNum
    simp [g3.2 n hn]
def isCtx (m : Int) (b : List Int) : Bool := decide (0 ≤ m ∧ m ≤ 6) && decide (b.length ≤ 8) && b.all (isSet m)
def badRow (m x : Int) : Bool := !isSet m x
def fullSet (n : Int) : Int := if 0 ≤ n ∧ n ≤ 8 then 2 ^ n.toNat - 1 else 0
theorem any_badRow (m : Int) (b : List Int) : (!b.any (badRow m)) = b.all (isSet m) := by
  simp [badRow, List.not_any_eq_all_not]
def hasE (s e : Int) : Bool := isSet 8 s && decide (0 ≤ e ∧ e ≤ 7) && s.toNat.testBit e.toNat
theorem bit_all : ∀ s : Fin 256, ∀ e : Fin 9, (band ((s.val : Int).fdiv (2 ^ min ((e.val : Int)).toNat IntKind.i64.bits)) 1 == 1) = s.val.testBit e.val := by decide +kernel
theorem bit_of {s e : Int} (h0 : 0 ≤ s) (h1 : s ≤ 255) (h2 : 0 ≤ e) (h3 : e ≤ 8) : (band (s.fdiv (2 ^ min e.toNat IntKind.i64.bits)) 1 == 1) = s.toNat.testBit e.toNat := by
  have := bit_all ⟨s.toNat, by omega⟩ ⟨e.toNat, by omega⟩
  simp only [Int.toNat_of_nonneg h0, Int.toNat_of_nonneg h2] at this
  exact this
theorem bv_rng (x : BitVec 64) : -9223372036854775808 ≤ x.toInt ∧ x.toInt ≤ 9223372036854775807 := by
  have h1 : x.toInt < 9223372036854775808 := x.toInt_lt
  have h2 : -9223372036854775808 ≤ x.toInt := x.le_toInt
  omega
theorem band_range (a b : Int) : -9223372036854775808 ≤ band a b ∧ band a b ≤ 9223372036854775807 := by
  unfold band
  rw [show IntKind.i64.wrap (BitVec.ofInt IntKind.i64.bits a &&& BitVec.ofInt IntKind.i64.bits b).toNat = (BitVec.ofInt 64 a &&& BitVec.ofInt 64 b).toInt from wrap_bv _]
  exact bv_rng _
theorem band_comm (a b : Int) : band a b = band b a := by
  unfold band
  rw [BitVec.and_comm]
def commonF (objs : Int) : List Int → Nat → Int → Int
  | [], _, acc => acc
  | x :: r, i, acc => commonF objs r (i + 1) (bif hasE objs i then band acc x else acc)
def Rng (x : Int) : Prop := -9223372036854775808 ≤ x ∧ x ≤ 9223372036854775807
theorem commonF_rng (s : Int) : ∀ (a : List Int) (i : Nat) (acc : Int), Rng acc → Rng (commonF s a i acc)
  | [], _, _, h => h
  | x :: r, i, acc, h => by
    unfold commonF
    refine commonF_rng s r (i + 1) _ ?_
    cases hasE s i
    · exact h
    · exact band_range acc x
theorem fullSet_rng (n : Int) : 0 ≤ fullSet n ∧ fullSet n ≤ 255 := by
  unfold fullSet
  split
  · rename_i h
    have h : n = 0 ∨ n = 1 ∨ n = 2 ∨ n = 3 ∨ n = 4 ∨ n = 5 ∨ n = 6 ∨ n = 7 ∨ n = 8 := by omega
    rcases h with rfl | rfl | rfl | rfl | rfl | rfl | rfl | rfl | rfl <;> decide
  · omega
def intentF (m : Int) (a : List Int) (s : Int) : Int := commonF s a 0 (fullSet m)
theorem intentF_rng (m : Int) (a : List Int) (s : Int) : Rng (intentF m a s) := by
  refine commonF_rng s a 0 _ ?_
  have := fullSet_rng m
  unfold Rng
  omega
theorem isSet_le {n s : Int} (h : isSet n s = true) : 0 ≤ n ∧ n ≤ 8 ∧ 0 ≤ s ∧ s ≤ 255 := by
  unfold isSet at h
  have h := of_decide_eq_true h
  have h8 : n = 0 ∨ n = 1 ∨ n = 2 ∨ n = 3 ∨ n = 4 ∨ n = 5 ∨ n = 6 ∨ n = 7 ∨ n = 8 := by omega
  rcases h8 with rfl | rfl | rfl | rfl | rfl | rfl | rfl | rfl | rfl <;> simp at h <;> omega
theorem isSet_8 {n s : Int} (h : isSet n s = true) : isSet 8 s = true := by
  have := isSet_le h
  rw [isSet8]
  exact decide_eq_true (by omega)
theorem isCtx_len {m : Int} {a : List Int} (h : isCtx m a = true) : a.length ≤ 8 ∧ 0 ≤ m ∧ m ≤ 6 ∧ ∀ x ∈ a, isSet m x = true := by
  unfold isCtx at h
  simp only [Bool.and_eq_true, decide_eq_true_eq, List.all_eq_true] at h
  exact ⟨h.1.2, h.1.1.1, h.1.1.2, h.2⟩
/-- f holds of i, .., i + d - 1. -/
def allB (f : Nat → Bool) : Nat → Nat → Bool
  | 0, _ => true
  | d + 1, i => f i && allB f d (i + 1)
theorem allB_iff (f : Nat → Bool) : ∀ (d i : Nat), allB f d i = true ↔ ∀ j, i ≤ j → j < i + d → f j = true
  | 0, i => by simp only [allB, true_iff]; intro j h1 h2; omega
  | d + 1, i => by
    rw [allB, Bool.and_eq_true, allB_iff f d (i + 1)]
    constructor
    · rintro ⟨h1, h2⟩ j h3 h4
      by_cases h : j = i
      · rw [h]; exact h1
      · exact h2 j (by omega) (by omega)
    · intro h
      exact ⟨h i (by omega) (by omega), fun j h1 h2 => h j (by omega) (by omega)⟩
def bitI (s e : Int) : Bool := s.toNat.testBit e.toNat
def ordA (b : List Int) (a : Nat) : Bool := isSet b.length (b.getD a 0) && bitI (b.getD a 0) a
def ordBad (b : List Int) (a c : Nat) : Bool := bitI (b.getD a 0) c && ((band (b.getD c 0) (b.getD a 0) != b.getD c 0) || (decide ((a : Int) ≠ c) && bitI (b.getD c 0) a))
def ordRow (b : List Int) (a : Nat) : Bool := allB (fun c => !ordBad b a c) b.length 0
def isOrd (b : List Int) : Bool := decide (b.length ≤ 6) && (allB (ordA b) b.length 0 && allB (ordRow b) b.length 0)
theorem ordA_set {b : List Int} (h : allB (ordA b) b.length 0 = true) {a : Nat} (ha : a < b.length) : isSet b.length (b.getD a 0) = true := by
  have := (allB_iff _ _ _).1 h a (by omega) (by omega)
  unfold ordA at this
  exact (Bool.and_eq_true_iff.1 this).1
theorem isSet_bit {n s : Int} (h : isSet n s = true) {e : Nat} (he : n ≤ e) : bitI s e = false := by
  have hl := isSet_le h
  unfold isSet at h
  have h := of_decide_eq_true h
  unfold bitI
  refine Nat.testBit_lt_two_pow ?_
  have h1 : s.toNat < 2 ^ n.toNat := by
    have := h.2.2
    have e2 : ((2 ^ n.toNat : Nat) : Int) = (2 : Int) ^ n.toNat := by push_cast; rfl
    omega
  exact Nat.lt_of_lt_of_le h1 (Nat.pow_le_pow_right (by omega) (by omega))
theorem hasE_bit {s e : Int} (h : isSet 8 s = true) (h0 : 0 ≤ e) (h7 : e ≤ 7) : hasE s e = bitI s e := by
  unfold hasE bitI
  rw [h, dt (show 0 ≤ e ∧ e ≤ 7 from ⟨h0, h7⟩)]
  rfl
def elemsL (s : Int) : Nat → Nat → List Int
  | 0, _ => []
  | d + 1, i => bif hasE s i then (i : Int) :: elemsL s d (i + 1) else elemsL s d (i + 1)
def elemsF (s : Int) : List Int := elemsL s 8 0
theorem elemsL_length (s : Int) : ∀ (d i : Nat), (elemsL s d i).length ≤ d
  | 0, _ => Nat.le_refl 0
  | d + 1, i => by
    have := elemsL_length s d (i + 1)
    unfold elemsL
    cases hasE s i <;> simp <;> omega
theorem elemsL_any (s : Int) (p : Int → Bool) : ∀ (d i : Nat), (elemsL s d i).any p = !allB (fun e => !(hasE s e && p e)) d i
  | 0, _ => rfl
  | d + 1, i => by
    unfold elemsL allB
    cases h : hasE s i
    · rw [cond_false, elemsL_any s p d (i + 1)]; simp
    · rw [cond_true, List.any_cons, elemsL_any s p d (i + 1)]; simp
theorem elemsL_mem (s : Int) (x : Int) : ∀ (d i : Nat), x ∈ elemsL s d i → ∃ e : Nat, x = e ∧ i ≤ e ∧ e < i + d ∧ hasE s e = true
  | 0, _, h => by simp [elemsL] at h
  | d + 1, i, h => by
    unfold elemsL at h
    cases hE : hasE s i
    · rw [hE, cond_false] at h
      obtain ⟨e, h1, h2, h3, h4⟩ := elemsL_mem s x d (i + 1) h
      exact ⟨e, h1, by omega, by omega, h4⟩
    · rw [hE, cond_true] at h
      rcases List.mem_cons.1 h with h | h
      · exact ⟨i, h, by omega, by omega, hE⟩
      · obtain ⟨e, h1, h2, h3, h4⟩ := elemsL_mem s x d (i + 1) h
        exact ⟨e, h1, by omega, by omega, h4⟩
theorem elemsF_lt {n : Nat} {s x : Int} (h : isSet n s = true) (hx : x ∈ elemsF s) : 0 ≤ x ∧ x < n ∧ x ≤ 7 := by
  obtain ⟨e, h1, h2, h3, h4⟩ := elemsL_mem s x 8 0 hx
  subst h1
  rw [hasE_bit (isSet_8 h) (by omega) (by omega)] at h4
  refine ⟨by omega, ?_, by omega⟩
  rcases Nat.lt_or_ge e n with h5 | h5
  · omega
  · rw [isSet_bit h (by omega)] at h4
    cases h4
theorem allB_ext {f g : Nat → Bool} : ∀ (d i : Nat), (∀ j, i ≤ j → j < i + d → f j = g j) → allB f d i = allB g d i
  | 0, _, _ => rfl
  | d + 1, i, h => by
    rw [allB, allB, h i (by omega) (by omega), allB_ext d (i + 1) (fun j h1 h2 => h j (by omega) (by omega))]
theorem allB_cut {f : Nat → Bool} {d : Nat} : ∀ (n i : Nat), n ≤ d → (∀ j, i + n ≤ j → j < i + d → f j = true) → allB f d i = allB f n i := by
  intro n i hn h
  rw [Bool.eq_iff_iff, allB_iff, allB_iff]
  constructor
  · intro g j h1 h2; exact g j h1 (by omega)
  · intro g j h1 h2
    rcases Nat.lt_or_ge j (i + n) with h3 | h3
    · exact g j h1 h3
    · exact h j h3 h2
/-- A statement on a set's elements, and on the numbers below. -/
theorem elems_all {n : Nat} {s : Int} (h : isSet n s = true) (p : Int → Bool) : (elemsF s).any p = !allB (fun e => !(bitI s e && p e)) n 0 := by
  have hl := isSet_le h
  unfold elemsF
  rw [elemsL_any]
  congr 1
  rw [allB_cut n 0 (by omega)]
  · refine allB_ext n 0 (fun j h1 h2 => ?_)
    rw [hasE_bit (isSet_8 h) (by omega) (by omega)]
  · intro j h1 h2
    rw [hasE_bit (isSet_8 h) (by omega) (by omega), isSet_bit h (by omega)]
    rfl
def pairBad (b : List Int) (k : Nat) (s x : Int) : Bool := !(bnot (b.getD x.toNat 0) s == 0) || (decide (x ≠ k) && hasE (b.getD x.toNat 0) k)
theorem pairBad_row {b : List Int} (hl : b.length ≤ 6) (h : allB (ordA b) b.length 0 = true) {a : Nat} (ha : a < b.length) : (elemsF (b.getD a 0)).any (pairBad b a (b.getD a 0)) = !ordRow b a := by
  rw [elems_all (ordA_set h ha)]
  congr 1
  unfold ordRow
  refine allB_ext _ 0 (fun j h1 h2 => ?_)
  have hs := ordA_set h (show j < b.length by omega)
  have hr := isSet_le hs
  unfold ordBad pairBad
  rw [Int.toNat_natCast, hasE_bit (isSet_8 hs) (by omega) (by omega), ← bne_bnot (isSet_8 hs)]
  have e : decide ((j : Int) ≠ a) = decide ((a : Int) ≠ j) := decide_eq_decide.2 ⟨fun h => fun e => h e.symm, fun h => fun e => h e.symm⟩
  rw [e]
def iotaI : Int → Nat → List Int
  | _, 0 => []
  | k, n + 1 => k :: iotaI (k + 1) n
@[simp] theorem iotaI_length : ∀ (n : Nat) (k : Int), (iotaI k n).length = n
  | 0, _ => rfl
  | n + 1, k => by simp [iotaI, iotaI_length n]
def held (a : List Int) (k : Int) : Int := if a = iotaI k a.length then k + a.length else -1
theorem held_iota (k : Int) (n : Nat) : held (iotaI k n) k = k + n := by simp [held]
theorem take_set_succ {α : Type} {ys : List α} {i : Nat} {v : α} (h : i < ys.length) : (ys.set i v).take (i + 1) = ys.take i ++ [v] := by
  rw [List.take_succ_eq_append_getElem (by simpa using h), List.take_set_of_le (by omega)]
  simp
theorem getD_set_self {α : Type} {ys : List α} {i : Nat} {v d : α} (h : i < ys.length) : (ys.set i v).getD i d = v := by
  simp [List.getD, h]
def mixL (f : Int → Int → Int) : List Int → List Int → List Int
  | [], x => x
  | y :: ys, x => List.zipWith f (y :: ys) x
def hullStep (f : Int → Int → Int) (a : List (List Int)) (ys : List Int) (g : Int) : List Int := mixL f ys (a.getD g.toNat [])
def hullG (f : Int → Int → Int) (a : List (List Int)) (l : List Int) (ys : List Int) : List Int := l.foldl (hullStep f a) ys
def hullL (f : Int → Int → Int) (a : List (List Int)) (s : Int) : List Int := hullG f a (elemsF s) []
def hullF (a : List (List Int)) (s : Int) : List Int × List Int × Bool :=
  bif (arePts a && !(s == 0)) && isSet a.length s then (hullL min a s, hullL max a s, true) else ([], [], false)
abbrev tk (y : List Int) (i : Nat) : List Int := List.take i y ++ [y.getD i 0]
theorem tk_len {y : List Int} {i : Nat} (h : i < y.length) : (tk y i).length = i + 1 := by simp [tk]; omega
theorem tk_at {y : List Int} {i : Nat} (h : i < y.length) : (tk y i).getD i 0 = y.getD i 0 := by
  unfold tk
  rw [List.getD_eq_getElem?_getD, List.getElem?_append_right (by rw [List.length_take]; omega), List.length_take, Nat.min_eq_left (by omega)]
  simp
theorem tk_set {y : List Int} {i : Nat} (h : i < y.length) : (tk y i).set i (y.getD i 0) = y.take (i + 1) := by
  have e : tk y i = y.take (i + 1) := by
    unfold tk
    rw [List.take_succ_eq_append_getElem h]
    simp [List.getD_eq_getElem?_getD, List.getElem?_eq_getElem h]
  have g := tk_at h
  rw [e] at g ⊢
  apply List.ext_getElem?
  intro j
  rw [List.getElem?_set]
  split
  · rename_i hj
    subst hj
    rw [if_pos (by rw [List.length_take]; omega), ← g, List.getD_eq_getElem?_getD]
    rw [List.getElem?_eq_getElem (by rw [List.length_take]; omega)]
    rfl
  · rfl
theorem zip_set {f : Int → Int → Int} {l y : List Int} {i : Nat} (hl : l.length = y.length) (h : i < y.length) :
    (l.set i (f (l.getD i 0) (y.getD i 0))).take (i + 1) ++ List.zipWith f ((l.set i (f (l.getD i 0) (y.getD i 0))).drop (i + 1)) (y.drop (i + 1)) = l.take i ++ List.zipWith f (l.drop i) (y.drop i) := by
  rw [take_set_succ (by omega), List.drop_set_of_lt (by omega), getD_drop (l := l) (i := i) (d := 0) (by omega), getD_drop (l := y) (i := i) (d := 0) h, List.zipWith_cons_cons, List.append_assoc]
  rfl
theorem elems_first {n : Nat} (hn : n ≤ 8) {s : Int} (h : isSet n s = true) (h0 : s ≠ 0) : ∃ g l, elemsF s = g :: l ∧ (∀ x ∈ elemsF s, 0 ≤ x ∧ x < n ∧ x ≤ 7) := by
  have hm := fun x (hx : x ∈ elemsF s) => elemsF_lt h hx
  cases he : elemsF s with
  | nil =>
    exfalso
    apply h0
    have h8 := isSet_8 h
    have hr := isSet_le h8
    have hall : ∀ e : Nat, s.toNat.testBit e = false := by
      intro e
      rcases Nat.lt_or_ge e 8 with q | q
      · have ha := elemsL_any s (fun x => x == (e : Int)) 8 0
        unfold elemsF at he
        rw [he] at ha
        have hb : allB (fun j => !(hasE s j && ((j : Int) == (e : Int)))) 8 0 = true := by
          have : ([] : List Int).any (fun x => x == (e : Int)) = false := rfl
          rw [this] at ha
          rw [← Bool.not_eq_false']
          exact ha.symm
        have := (allB_iff _ _ _).1 hb e (by omega) (by omega)
        rw [beq_self_eq_true, Bool.and_true, Bool.not_eq_true', hasE_bit h8 (by omega) (by omega)] at this
        exact this
      · exact Nat.testBit_lt_two_pow (Nat.lt_of_lt_of_le (show s.toNat < 2 ^ 8 by omega) (Nat.pow_le_pow_right (by omega) q))
    have : s.toNat = 0 := Nat.eq_of_testBit_eq fun e => by rw [hall e, Nat.zero_testBit]
    omega
  | cons g l => exact ⟨g, l, rfl, by rw [← he]; exact hm⟩
theorem mixL_zip (f : Int → Int → Int) {ys x : List Int} (h : ys.length = x.length) : mixL f ys x = List.zipWith f ys x := by
  cases ys with
  | nil => cases x with
    | nil => rfl
    | cons => cases h
  | cons => rfl
theorem mixL_len (f : Int → Int → Int) {ys x : List Int} {w : Nat} (hx : x.length = w) (hy : ys = [] ∨ ys.length = w) : (mixL f ys x).length = w := by
  cases ys with
  | nil => exact hx
  | cons y ys =>
    rcases hy with hy | hy
    · cases hy
    · show (List.zipWith f (y :: ys) x).length = w
      rw [List.length_zipWith, hx, hy, Nat.min_self]
theorem hullG_len (f : Int → Int → Int) {a : List (List Int)} {w : Nat} : ∀ (l : List Int) (ys : List Int), (∀ g ∈ l, (a.getD g.toNat []).length = w) → (ys = [] ∨ ys.length = w) → hullG f a l ys = [] ∨ (hullG f a l ys).length = w
  | [], ys, _, hy => hy
  | g :: l, ys, hg, hy => hullG_len f l _ (fun g hg' => hg g (by simp [hg'])) (Or.inr (mixL_len f (hg g (by simp)) hy))
theorem zip_self {f : Int → Int → Int} (hf : ∀ n, f n n = n) : ∀ x : List Int, List.zipWith f x x = x
  | [] => rfl
  | n :: x => by rw [List.zipWith_cons_cons, hf, zip_self hf x]
theorem hull_first (f : Int → Int → Int) (hf : ∀ n, f n n = n) (a : List (List Int)) {g : Int} {l : List Int} : hullG f a (g :: l) (a.getD g.toNat []) = hullG f a (g :: l) [] := by
  unfold hullG
  rw [List.foldl_cons, List.foldl_cons]
  congr 1
  unfold hullStep
  generalize a.getD g.toNat [] = x
  cases x with
  | nil => rfl
  | cons y ys => exact zip_self hf (y :: ys)
theorem elemsL_cut (s : Int) : ∀ (d c i : Nat), (∀ j : Nat, i + d ≤ j → j < i + d + c → hasE s (j : Int) = false) → elemsL s (d + c) i = elemsL s d i
  | 0, 0, i, _ => rfl
  | 0, c + 1, i, h => by
    have := elemsL_cut s 0 c (i + 1) fun j h1 h2 => h j (by omega) (by omega)
    rw [Nat.zero_add] at this ⊢
    unfold elemsL
    rw [h i (by omega) (by omega), this]
    rfl
  | d + 1, c, i, h => by
    have := elemsL_cut s d c (i + 1) fun j h1 h2 => h j (by omega) (by omega)
    rw [show d + 1 + c = (d + c) + 1 by omega]
    unfold elemsL
    rw [this]
theorem elems_set {n : Nat} (hn : n ≤ 8) {s : Int} (h : isSet n s = true) : elemsF s = elemsL s n 0 := by
  unfold elemsF
  obtain ⟨c, hc⟩ : ∃ c, 8 = n + c := ⟨8 - n, by omega⟩
  rw [hc]
  refine elemsL_cut s n c 0 fun j h1 h2 => ?_
  rw [hasE_bit (isSet_8 h) (by omega) (by omega)]
  exact isSet_bit h (by omega)
theorem hullF_len {a : List (List Int)} (s : Int) : (hullF a s).1.length ≤ 3 ∧ (hullF a s).2.1.length ≤ 3 := by
  unfold hullF
  cases h : ((arePts a && !(s == 0)) && isSet a.length s)
  · exact ⟨by simp, by simp⟩
  · rw [Bool.and_eq_true, Bool.and_eq_true] at h
    have hp' := arePts_parts h.1.1
    have hm : ∀ g ∈ elemsF s, (a.getD g.toNat []).length = (a.getD 0 []).length := fun g hg => by
      have := elemsF_lt h.2 hg
      exact hp'.2.2 _ (mem_getD (by omega))
    have key : ∀ f, (hullL f a s).length ≤ 3 := by
      intro f
      unfold hullL
      rcases hullG_len f (elemsF s) [] hm (Or.inl rfl) with q | q
      · rw [q]; simp
      · rw [q]; exact hp'.2.1
    exact ⟨key min, key max⟩
theorem shl1 {i : Nat} (h : i ≤ 8) : IntKind.i64.wrap (1 * 2 ^ min (i : Int).toNat IntKind.i64.bits) = ((2 ^ i : Nat) : Int) := by
  have h : i = 0 ∨ i = 1 ∨ i = 2 ∨ i = 3 ∨ i = 4 ∨ i = 5 ∨ i = 6 ∨ i = 7 ∨ i = 8 := by omega
  rcases h with rfl | rfl | rfl | rfl | rfl | rfl | rfl | rfl | rfl <;> decide
theorem shl1u {i : Nat} (h : i ≤ 8) : IntKind.i64.wrap (1 * 2 ^ min (IntKind.u64.wrap (i : Int)).toNat IntKind.i64.bits) = ((2 ^ i : Nat) : Int) := by
  rw [wrapu (by omega) (by omega)]
  exact shl1 h
def orF (p : Int → Bool) : Nat → Nat → Int → Int
  | 0, _, acc => acc
  | d + 1, i, acc => orF p d (i + 1) (bif p i then bor acc ((2 ^ i : Nat) : Int) else acc)
theorem orF_ext {p q : Int → Bool} : ∀ (d i : Nat) (acc : Int), (∀ j : Nat, i ≤ j → j < i + d → p j = q j) → orF p d i acc = orF q d i acc
  | 0, _, _, _ => rfl
  | d + 1, i, acc, h => by
    rw [orF, orF, h i (by omega) (by omega), orF_ext d (i + 1) _ (fun j h1 h2 => h j (by omega) (by omega))]
def fitAt (y lo hi : List Int) (j : Nat) : Bool := decide (lo.getD j 0 ≤ y.getD j 0 ∧ y.getD j 0 ≤ hi.getD j 0)
def fits (y lo hi : List Int) : Bool := allB (fitAt y lo hi) y.length 0
def fitP (a : List (List Int)) (lo hi : List Int) (g : Int) : Bool := fits (a.getD g.toNat []) lo hi
def fitF (a : List (List Int)) (lo hi : List Int) : Int :=
  bif arePts a && decide (lo.length = (a.getD 0 []).length) && decide (hi.length = (a.getD 0 []).length) then orF (fitP a lo hi) a.length 0 0 else 0
def patAt (a : List (List Int)) (s : Int) : Bool := fitF a (hullL min a s) (hullL max a s) == s
def patL (a : List (List Int)) : Nat → Int → List Int
  | 0, _ => []
  | d + 1, i => bif patAt a i then i :: patL a d (i + 1) else patL a d (i + 1)
def patE (a : List (List Int)) : List Int := bif arePts a then 0 :: patL a (2 ^ a.length - 1) 1 else []
theorem patL_len (a : List (List Int)) : ∀ (d : Nat) (i : Int), (patL a d i).length ≤ d
  | 0, _ => Nat.le_refl 0
  | d + 1, i => by
    have := patL_len a d (i + 1)
    unfold patL
    cases patAt a i <;> simp <;> omega
theorem patE_len (a : List (List Int)) : (patE a).length ≤ 256 := by
  unfold patE
  cases h : arePts a
  · simp
  · have hp := arePts_parts h
    have := patL_len a (2 ^ a.length - 1) 1
    have h8 : 2 ^ a.length ≤ 2 ^ 8 := Nat.pow_le_pow_right (by omega) hp.1.2
    rw [cond_true, List.length_cons]
    omega
theorem hullL_len {a : List (List Int)} (h : arePts a = true) {s : Int} (hs : isSet a.length s = true) (f : Int → Int → Int) : (hullL f a s).length ≤ 3 := by
  have hp' := arePts_parts h
  have hm : ∀ g ∈ elemsF s, (a.getD g.toNat []).length = (a.getD 0 []).length := fun g hg => by
    have := elemsF_lt hs hg
    exact hp'.2.2 _ (mem_getD (by omega))
  unfold hullL
  rcases hullG_len f (elemsF s) [] hm (Or.inl rfl) with q | q
  · rw [q]; simp
  · rw [q]; exact hp'.2.1
theorem full_len {n : Nat} (h : n ≤ 8) : fullSet (n : Int) = ((2 ^ n - 1 : Nat) : Int) ∧ 2 ^ n ≤ 256 ∧ 0 < 2 ^ n := by
  have h8 : 2 ^ n ≤ 2 ^ 8 := Nat.pow_le_pow_right (by omega) h
  have hp := Nat.two_pow_pos n
  unfold fullSet
  rw [if_pos (by omega), Int.toNat_natCast]
  have e2 : ((2 ^ n : Nat) : Int) = (2 : Int) ^ n := by push_cast; rfl
  omega
theorem set_lt {n i : Nat} (h : n ≤ 8) (hi : i < 2 ^ n) : isSet (n : Int) (i : Int) = true := by
  unfold isSet
  rw [Int.toNat_natCast]
  have e2 : ((2 ^ n : Nat) : Int) = (2 : Int) ^ n := by push_cast; rfl
  exact dt ⟨by omega, by omega, by omega⟩
def markQ : Int → List (List Int) → Int
  | q, [] => q
  | q, y :: r => markQ (q + y.length) r
def markL : Int → List (List Int) → List (List Int)
  | _, [] => []
  | q, y :: r => iotaI q y.length :: markL (q + y.length) r
theorem markQ_ge : ∀ (l : List (List Int)) (q : Int), q ≤ markQ q l
  | [], q => Int.le_refl q
  | y :: r, q => by
    have := markQ_ge r (q + y.length)
    unfold markQ
    omega
/- laws.szIntS -/
def K_szIntS : List AV → List Ob → Option (AV × List Ob)
  | [.lst (.int .i64) a, .int .i64 left], [] => gd (0 ≤ left ∧ left ≤ 1048576 ∧ a.length ≤ maxLen) (.int .i64 (szI a.length left), [])
  | _, _ => none
@[reducible] def E_szIntS : Env := mkE (tb []) (fun f => false) (fun r => ([], []))
theorem ev_szIntS (a : List Int) (left : Int) (hp : 0 ≤ left ∧ left ≤ 1048576 ∧ a.length ≤ maxLen) : evF E_szIntS (1) Try.f29 [.lst (.int .i64) a, .int .i64 left] [] = some (.int .i64 (szI a.length left), []) := by
  obtain ⟨h0, h1, h2⟩ := hp
  have hm := maxLen_eq
  have hw : IntKind.i64.wrap (left - a.length) = left - a.length := wrap64 (by omega) (by omega)
  conv => lhs; whnf
  refine br_c (fun h => ?_) (fun h => ?_)
  · conv => lhs; whnf
    have h := ofd h
    rw [hw] at h
    rw [szI, if_pos (by omega)]
  · conv => lhs; whnf
    have h := ofn h
    rw [hw] at h
    rw [szI, if_neg (by omega), hw]
theorem ok_szIntS : FnOk Try.prog 29 K_szIntS := by
  refine fn_ok (fn := Try.f29) (k := Try.f29.ntmps) (E := E_szIntS) (facts_of (List.forall_mem_nil _)) (by kernel_rfl) rfl (by decide +kernel) (by decide +kernel) ?_
  intro avs hin r h
  unfold K_szIntS at h
  split at h
  · obtain ⟨hp, rfl⟩ := gd_o h
    exact ⟨_, ev_szIntS _ _ hp, rfl⟩
  · cases h

/- laws.szIntSS -/
def K_szIntSS : List AV → List Ob → Option (AV × List Ob)
  | [.lst (.lst (.int .i64)) a, .int .i64 left], [] => gd ((0 ≤ left ∧ left ≤ 1048576) ∧ a.length ≤ maxLen ∧ ∀ x ∈ a, x.length ≤ maxLen) (.int .i64 (szSS a left), [])
  | _, _ => none
@[reducible] def E_szIntSS : Env := mkE (tb [(29, K_szIntS)]) (fun f => false) (fun r => bif r == 5 then ([0, 1, 5], [1, 4]) else ([], []))
theorem lp_szIntSS (a : List (List Int)) (ha : a.length ≤ 1048576) (hm : ∀ x ∈ a, x.length ≤ maxLen) (k : AX → S → Option (AV × List Ob)) (r : Option (AV × List Ob)) (hk : ∀ q, k .ret (mkS [1, 4] [.int .i64 q, .int .i64 (-1)] []) = r) (d : Nat) : ∀ (n i : Nat) (x q : Int), a.length - i = d → i ≤ a.length → x = i → d < n → 0 ≤ q → q ≤ 1048576 →
    lpAt E_szIntSS (lp E_szIntSS 0 n) 0 (loopAt Try.f6 0) (mkS [0, 1, 5] [.lst (.lst (.int .i64)) a, .int .i64 q, .int .i64 x] []) k =
      if szL (a.drop i) q < 0 then r else k (.exit 0) (mkS [1, 4] [.int .i64 (szL (a.drop i) q), .any] []) := by
  induction d with
  | zero =>
    intro n i x q hd hi hx hn h0 hq
    subst hx
    rw [lpAt_def]
    conv => lhs; whnf
    refine br_f (df (by omega)) ?_
    conv => lhs; whnf
    rw [List.drop_of_length_le (by omega), szL, if_neg (by omega)]
  | succ d ih =>
    intro n i x q hd hi hx hn h0 hq
    obtain ⟨n, rfl⟩ : ∃ m, n = m + 1 := ⟨n - 1, by omega⟩
    subst hx
    rw [lpAt_def]
    conv => lhs; whnf
    refine br_t (dt (by omega)) ?_
    conv => lhs; whnf
    refine br_t (dt2 (by omega) (by omega)) ?_
    conv => lhs; whnf
    conv => lhs; arg 1; whnf
    refine bnd_g (by exact ⟨h0, hq, hm _ (mem_getD (by omega))⟩) ?_
    conv => lhs; whnf
    rw [getD_drop (l := a) (i := i) (d := []) (by omega)]
    refine br_c (fun h => ?_) (fun h => ?_)
    · have h : szI (a.getD i []).length q < 0 := ofd h
      conv => lhs; whnf
      rw [szL, if_pos h, if_pos (by omega)]
      exact hk _
    · have h : ¬ szI (a.getD i []).length q < 0 := ofn h
      have e := szI_ok h
      conv => lhs; whnf
      rw [ih n (i + 1) _ _ (by omega) (by omega) (by rw [wrap64 (by omega) (by omega)]; simp) (by omega) (by change 0 ≤ szI (a.getD i []).length q; omega) (by change szI (a.getD i []).length q ≤ _; omega)]
      rw [szL, if_neg h]
      rfl
theorem ev_szIntSS (a : List (List Int)) (left : Int) (hp : (0 ≤ left ∧ left ≤ 1048576) ∧ a.length ≤ maxLen ∧ ∀ x ∈ a, x.length ≤ maxLen) : evF E_szIntSS (a.length + 2) Try.f6 [.lst (.lst (.int .i64)) a, .int .i64 left] [] = some (.int .i64 (szSS a left), []) := by
  obtain ⟨⟨h0, h1⟩, h2, h3⟩ := hp
  have hm := maxLen_eq
  have hw : IntKind.i64.wrap (left - a.length) = left - a.length := wrap64 (by omega) (by omega)
  conv => lhs; whnf
  refine br_c (fun h => ?_) (fun h => ?_)
  · conv => lhs; whnf
    have h := ofd h
    rw [hw] at h
    rw [szSS, if_pos (by omega)]
  · conv => lhs; whnf
    have h := ofn h
    rw [hw] at h ⊢
    refine (lp_szIntSS a (by omega) h3 _ _ (fun _ => rfl) a.length _ 0 0 _ rfl (by omega) rfl (by omega) (by omega) (by omega)).trans ?_
    rw [List.drop_zero]
    have e : szSS a left = szL a (left - a.length) := by unfold szSS; rw [if_neg (by omega)]
    rw [e]
    split
    · rename_i h5
      conv => lhs; whnf
      have : szL a (left - a.length) = -1 := szL_neg _ _ (by omega) h5
      rw [this]
    · conv => lhs; whnf
theorem ok_szIntSS : FnOk Try.prog 6 K_szIntSS := by
  refine fn_ok (fn := Try.f6) (k := Try.f6.ntmps) (E := E_szIntSS) (facts_of (List.forall_mem_cons.2 ⟨ok_szIntS, List.forall_mem_nil _⟩)) (by kernel_rfl) rfl (by decide +kernel) (by decide +kernel) ?_
  intro avs hin r h
  unfold K_szIntSS at h
  split at h
  · obtain ⟨hp, rfl⟩ := gd_o h
    exact ⟨_, ev_szIntSS _ _ hp, rfl⟩
  · cases h

/- laws.toIntS -/
def K_toIntS : List AV → List Ob → Option (AV × List Ob)
  | [.lst (.int .i64) a], [] => gd (a.length ≤ 1048576) (.own 0, [.row 3 (.int .i64) a])
  | _, _ => none
@[reducible] def E_toIntS : Env := mkE (tb []) (fun f => false) (fun r => bif r == 3 then ([0, 3, 4], [3]) else ([], []))
theorem lp_toIntS (a : List Int) (ha : a.length ≤ 1048576) (k : AX → S → Option (AV × List Ob)) (d : Nat) : ∀ (n i : Nat) (x : Int) (ys : List Int), a.length - i = d → i ≤ a.length → x = i → d < n → ys.length = a.length → ys.take i = a.take i →
    lpAt E_toIntS (lp E_toIntS 0 n) 0 (loopAt Try.f33 0) (mkS [0, 3, 4] [.lst (.int .i64) a, .own 0, .int .i64 x] [some (.row 3 (.int .i64) ys)]) k =
      k (.exit 0) (mkS [3] [.own 0] [some (.row 3 (.int .i64) a)]) := by
  induction d with
  | zero =>
    intro n i x ys hd hi hx hn hl ht
    subst hx
    rw [lpAt_def]
    conv => lhs; whnf
    refine br_f (df (by omega)) ?_
    conv => lhs; whnf
    have : ys = a := by rw [List.take_of_length_le (by omega), List.take_of_length_le (by omega)] at ht; exact ht
    rw [this]
  | succ d ih =>
    intro n i x ys hd hi hx hn hl ht
    obtain ⟨n, rfl⟩ : ∃ m, n = m + 1 := ⟨n - 1, by omega⟩
    subst hx
    rw [lpAt_def]
    conv => lhs; whnf
    refine br_t (dt (by omega)) ?_
    conv => lhs; whnf
    refine br_t (dt2 (by omega) (by omega)) ?_
    conv => lhs; whnf
    refine br_t (dt2 (by omega) (by omega)) ?_
    conv => lhs; whnf
    refine br_t (dt (by omega)) ?_
    conv => lhs; whnf
    refine ih n (i + 1) _ _ (by omega) (by omega) (by rw [wrap64 (by omega) (by omega)]; simp) (by omega) (by simp [hl]) ?_
    have hlt : i < a.length := by omega
    simp only [Int.toNat_natCast]
    rw [List.take_succ_eq_append_getElem (by simp; omega), List.take_succ_eq_append_getElem hlt, List.take_set_of_le (by omega), ht]
    simp [hlt]
theorem ev_toIntS (a : List Int) (hp : a.length ≤ 1048576) : evF E_toIntS (a.length + 2) Try.f33 [.lst (.int .i64) a] [] = some (.own 0, [.row 3 (.int .i64) a]) := by
  conv => lhs; whnf
  refine br_t (mk_ok (by dsimp only; omega)) ?_
  conv => lhs; whnf
  refine (lp_toIntS a hp _ _ _ 0 0 _ rfl (by omega) rfl (by omega) (by simp) (by simp)).trans ?_
  conv => lhs; whnf
theorem ok_toIntS : FnOk Try.prog 33 K_toIntS := by
  refine fn_ok (fn := Try.f33) (k := Try.f33.ntmps) (E := E_toIntS) (facts_of (List.forall_mem_nil _)) (by kernel_rfl) rfl (by decide +kernel) (by decide +kernel) ?_
  intro avs hin r h
  unfold K_toIntS at h
  split at h
  · obtain ⟨hp, rfl⟩ := gd_o h
    exact ⟨_, ev_toIntS _ hp, rfl⟩
  · cases h

/- laws.toIntSS -/
def K_toIntSN : List AV → List Ob → Option (AV × List Ob)
  | [.lst (.lst (.int .i64)) a], [] => gd (a.length ≤ 1048576 ∧ ∀ x ∈ a, x.length ≤ 1048576) (.own 0, [.nest 24 3 (.int .i64) a none])
  | _, _ => none
@[reducible] def E_toIntSN : Env := mkE (tb [(33, K_toIntS)]) (fun f => false) (fun r => bif r == 3 then ([0, 3, 4], [3]) else ([], []))
theorem lp_toIntSN (a : List (List Int)) (ha : a.length ≤ 1048576) (hm : ∀ x ∈ a, x.length ≤ 1048576) (k : AX → S → Option (AV × List Ob)) (d : Nat) : ∀ (n i : Nat) (x : Int) (ys : List (List Int)), a.length - i = d → i ≤ a.length → x = i → d < n → ys.length = a.length →
    lpAt E_toIntSN (lp E_toIntSN 0 n) 0 (loopAt Try.f8 0) (mkS [0, 3, 4] [.lst (.lst (.int .i64)) a, .own 0, .int .i64 x] [some (.nest 24 3 (.int .i64) ys none)]) k =
      k (.exit 0) (mkS [3] [.own 0] [some (.nest 24 3 (.int .i64) (ys.take i ++ a.drop i) none)]) := by
  induction d with
  | zero =>
    intro n i x ys hd hi hx hn hl
    subst hx
    rw [lpAt_def]
    conv => lhs; whnf
    refine br_f (df (by omega)) ?_
    conv => lhs; whnf
    rw [List.drop_of_length_le (by omega), List.append_nil, List.take_of_length_le (by omega)]
  | succ d ih =>
    intro n i x ys hd hi hx hn hl
    obtain ⟨n, rfl⟩ : ∃ m, n = m + 1 := ⟨n - 1, by omega⟩
    subst hx
    rw [lpAt_def]
    conv => lhs; whnf
    refine br_t (dt (by omega)) ?_
    conv => lhs; whnf
    refine br_t (dt2 (by omega) (by omega)) ?_
    conv => lhs; whnf
    conv => lhs; arg 1; whnf
    refine bnd_g (by exact hm _ (mem_getD (by omega))) ?_
    conv => lhs; whnf
    refine br_t (dt2 (by omega) (by omega)) ?_
    conv => lhs; whnf
    refine br_t (by exact decide_eq_true rfl) ?_
    conv => lhs; whnf
    refine (ih n (i + 1) _ _ (by omega) (by omega) (by rw [wrap64 (by omega) (by omega)]; simp) (by omega) (by simp [hl])).trans ?_
    simp only [Int.toNat_natCast]
    rw [take_set_succ (by omega), getD_drop (l := a) (i := i) (d := []) (by omega)]
    simp
theorem ev_toIntSN (a : List (List Int)) (hp : a.length ≤ 1048576 ∧ ∀ x ∈ a, x.length ≤ 1048576) : evF E_toIntSN (a.length + 2) Try.f8 [.lst (.lst (.int .i64)) a] [] = some (.own 0, [.nest 24 3 (.int .i64) a none]) := by
  conv => lhs; whnf
  refine br_t (mk_ok (by dsimp only; omega)) ?_
  conv => lhs; whnf
  refine (lp_toIntSN a hp.1 hp.2 _ _ _ 0 0 _ rfl (by omega) rfl (by omega) (by simp)).trans ?_
  conv => lhs; whnf
  simp
theorem ok_toIntSN : FnOk Try.prog 8 K_toIntSN := by
  refine fn_ok (fn := Try.f8) (k := Try.f8.ntmps) (E := E_toIntSN) (facts_of (List.forall_mem_cons.2 ⟨ok_toIntS, List.forall_mem_nil _⟩)) (by kernel_rfl) rfl (by decide +kernel) (by decide +kernel) ?_
  intro avs hin r h
  unfold K_toIntSN at h
  split at h
  · obtain ⟨hp, rfl⟩ := gd_o h
    exact ⟨_, ev_toIntSN _ hp, rfl⟩
  · cases h

/- spec.l1In -/
def K_l1In : List AV → List Ob → Option (AV × List Ob)
  | [.int .i64 n, .int .i64 l, .int .i64 h], [] => gd (True) (.bool (decide (l ≤ n ∧ n ≤ h)), [])
  | _, _ => none
@[reducible] def E_l1In : Env := mkE (tb []) (fun f => false) (fun r => ([], []))
theorem ev_l1In (n l h : Int) (hp : True) : evF E_l1In (1) Try.f56 [.int .i64 n, .int .i64 l, .int .i64 h] [] = some (.bool (decide (l ≤ n ∧ n ≤ h)), []) := by
  conv => lhs; whnf
  refine br_c (fun h1 => ?_) (fun h1 => ?_)
  · conv => lhs; whnf
    repeat ((first | with_reducible apply br_tt | with_reducible apply br_ff | with_reducible apply br_nf | with_reducible apply br_nt | with_reducible refine br_d ?_ (by kernel_rfl) | with_reducible apply br_t h1 | with_reducible apply br_f h1); conv => lhs; whnf)
    have := ofd h1
    simp [this]
  · conv => lhs; whnf
    repeat ((first | with_reducible apply br_tt | with_reducible apply br_ff | with_reducible apply br_nf | with_reducible apply br_nt | with_reducible refine br_d ?_ (by kernel_rfl) | with_reducible apply br_t h1 | with_reducible apply br_f h1); conv => lhs; whnf)
    have := ofn h1
    simp [this]
theorem ok_l1In : FnOk Try.prog 56 K_l1In := by
  refine fn_ok (fn := Try.f56) (k := Try.f56.ntmps) (E := E_l1In) (facts_of (List.forall_mem_nil _)) (by kernel_rfl) rfl (by decide +kernel) (by decide +kernel) ?_
  intro avs hin r h
  unfold K_l1In at h
  split at h
  · obtain ⟨hp, rfl⟩ := gd_o h
    exact ⟨_, ev_l1In _ _ _ hp, rfl⟩
  · cases h

/- spec.ArePoints -/
def K_specArePoints : List AV → List Ob → Option (AV × List Ob)
  | [.lst (.lst (.int .i64)) a], [] => gd (a.length ≤ 1048576 ∧ ∀ x ∈ a, x.length ≤ 1048576) (.bool (arePts a), [])
  | _, _ => none
@[reducible] def E_specArePoints : Env := mkE (tb [(56, K_l1In)]) (fun f => false) (fun r => bif r == 2 then ([0, 3], [0, 2, 3]) else bif r == 7 then ([0, 3, 4], [0, 2, 3]) else ([], []))
theorem lq_specArePoints (a : List (List Int)) (g : Nat) (hg : g < a.length) (y : List Int) (hy : a.getD g [] = y) (hl : y.length ≤ 1048576) (k : AX → S → Option (AV × List Ob)) (r : Option (AV × List Ob)) (hk : k .ret (mkS [0, 2, 3] [.lst (.lst (.int .i64)) a, .bool false, .int .i64 (g : Int)] []) = r) (d : Nat) : ∀ (n i : Nat) (x : Int), y.length - i = d → i ≤ y.length → x = i → d < n →
    lpAt E_specArePoints (lp E_specArePoints 0 n) 0 (loopAt Try.f30 1) (mkS [0, 3, 4] [.lst (.lst (.int .i64)) a, .int .i64 (g : Int), .int .i64 x] []) k =
      if (y.drop i).all okNum then k (.exit 2) (mkS [0, 2, 3] [.lst (.lst (.int .i64)) a, .any, .int .i64 (g : Int)] []) else r := by
  subst hy
  induction d with
  | zero =>
    intro n i x hd hi hx hn
    subst hx
    rw [lpAt_def]
    conv => lhs; whnf
    refine br_t (dt2 (by omega) (by omega)) ?_
    conv => lhs; whnf
    refine br_f (df (by change ¬ ((i : Int) < ((a.getD g []).length : Int)); omega)) ?_
    conv => lhs; whnf
    rw [List.drop_of_length_le (by omega), if_pos (by rfl)]
  | succ d ih =>
    intro n i x hd hi hx hn
    obtain ⟨n, rfl⟩ : ∃ m, n = m + 1 := ⟨n - 1, by omega⟩
    subst hx
    rw [lpAt_def]
    conv => lhs; whnf
    refine br_t (dt2 (by omega) (by omega)) ?_
    conv => lhs; whnf
    refine br_t (dt (by change ((i : Int) < ((a.getD g []).length : Int)); omega)) ?_
    conv => lhs; whnf
    refine br_t (dt2 (by omega) (by omega)) ?_
    conv => lhs; whnf
    refine br_t (dt2 (by omega) (by change ((i : Int) < ((a.getD g []).length : Int)); omega)) ?_
    conv => lhs; whnf
    conv => lhs; arg 1; whnf
    refine bnd_g (by exact True.intro) ?_
    conv => lhs; whnf
    rw [getD_drop (l := a.getD g []) (i := i) (d := 0) (by omega)]
    refine br_c (fun h => ?_) (fun h => ?_)
    · have h' : okNum ((a.getD g []).getD i 0) = false := bnt h
      conv => lhs; whnf
      rw [if_neg (by rw [List.all_cons, h', Bool.false_and]; exact Bool.false_ne_true)]
      exact hk
    · have h' : okNum ((a.getD g []).getD i 0) = true := bnf h
      conv => lhs; whnf
      rw [ih n (i + 1) _ (by omega) (by omega) (by rw [wrap64 (by omega) (by omega)]; simp) (by omega)]
      rw [List.all_cons, h', Bool.true_and]

theorem lp_specArePoints (a : List (List Int)) (ha : a.length ≤ 1048576) (hm : ∀ x ∈ a, x.length ≤ 1048576) (k : AX → S → Option (AV × List Ob)) (r : Option (AV × List Ob)) (hk : ∀ g : Int, k .ret (mkS [0, 2, 3] [.lst (.lst (.int .i64)) a, .bool false, .int .i64 g] []) = r) (d : Nat) : ∀ (n i : Nat) (x : Int), a.length - i = d → i ≤ a.length → x = i → d + 1048580 < n →
    lpAt E_specArePoints (lp E_specArePoints 0 n) 0 (loopAt Try.f30 0) (mkS [0, 3] [.lst (.lst (.int .i64)) a, .int .i64 x] []) k =
      if (a.drop i).all (okPt (a.getD 0 []).length) then k (.exit 0) (mkS [0, 2, 3] [.lst (.lst (.int .i64)) a, .any, .int .i64 (a.length : Int)] []) else r := by
  induction d with
  | zero =>
    intro n i x hd hi hx hn
    subst hx
    rw [lpAt_def]
    conv => lhs; whnf
    refine br_f (df (by omega)) ?_
    conv => lhs; whnf
    have : i = a.length := by omega
    rw [List.drop_of_length_le (by omega), if_pos (by rfl), this]
  | succ d ih =>
    intro n i x hd hi hx hn
    obtain ⟨n, rfl⟩ : ∃ m, n = m + 1 := ⟨n - 1, by omega⟩
    subst hx
    have hl := hm _ (mem_getD (d := []) (show i < a.length by omega))
    rw [lpAt_def]
    conv => lhs; whnf
    refine br_t (dt (by omega)) ?_
    conv => lhs; whnf
    refine br_t (dt2 (by omega) (by omega)) ?_
    conv => lhs; whnf
    refine br_t (dt2 (by omega) (by change (0 : Int) < (a.length : Int); omega)) ?_
    conv => lhs; whnf
    refine br_t (by kernel_rfl) ?_
    conv => lhs; whnf
    rw [getD_drop (l := a) (i := i) (d := []) (by omega)]
    refine br_c (fun h => ?_) (fun h => ?_)
    · have h' : ¬ (a.getD i []).length = (a.getD 0 []).length := by
        intro e
        have h2 : (((a.getD i []).length : Int) != ((a.getD 0 []).length : Int)) = true := h
        rw [e] at h2
        simp at h2
      conv => lhs; whnf
      rw [if_neg (by rw [List.all_cons]; unfold okPt; rw [df h']; exact Bool.false_ne_true)]
      exact hk _
    · have h' : (a.getD i []).length = (a.getD 0 []).length := by
        have h2 : (((a.getD i []).length : Int) != ((a.getD 0 []).length : Int)) = false := h
        simp only [bne_eq_false_iff_eq] at h2
        omega
      conv => lhs; whnf
      refine (lq_specArePoints a i (by omega) _ rfl hl _ _ rfl (a.getD i []).length _ 0 0 rfl (by omega) rfl (by omega)).trans ?_
      rw [List.drop_zero]
      split
      · rename_i h2
        conv => lhs; whnf
        rw [ih n (i + 1) _ (by omega) (by omega) (by rw [wrap64 (by omega) (by omega)]; simp) (by omega)]
        have e : okPt (a.getD 0 []).length (a.getD i []) = true := by
          unfold okPt
          rw [dt h', h2]
          rfl
        rw [List.all_cons, e, Bool.true_and]
      · rename_i h2
        conv => lhs; whnf
        have e : okPt (a.getD 0 []).length (a.getD i []) = false := by
          unfold okPt
          rw [Bool.not_eq_true] at h2
          rw [h2, Bool.and_false]
        rw [if_neg (by rw [List.all_cons, e]; exact Bool.false_ne_true)]
        exact hk _
theorem ev_specArePoints (a : List (List Int)) (hp : a.length ≤ 1048576 ∧ ∀ x ∈ a, x.length ≤ 1048576) : evF E_specArePoints (4000000) Try.f30 [.lst (.lst (.int .i64)) a] [] = some (.bool (arePts a), []) := by
  conv => lhs; whnf
  refine (lp_specArePoints a hp.1 hp.2 _ _ (fun _ => rfl) a.length _ 0 0 rfl (by omega) rfl (by have := hp.1; change a.length + 1048580 < 3999999; omega)).trans ?_
  rw [List.drop_zero]
  split
  · rename_i h2
    conv => lhs; whnf
    conv => lhs; arg 1; whnf
    refine bnd_g (by exact True.intro) ?_
    conv => lhs; whnf
    refine br_c (fun h => ?_) (fun h => ?_)
    · have h' := ofd h
      conv => lhs; whnf
      repeat ((first | with_reducible apply br_tt | with_reducible apply br_ff | with_reducible apply br_nf | with_reducible apply br_nt | with_reducible refine br_d ?_ (by kernel_rfl) | with_reducible apply br_t h | with_reducible apply br_f h); conv => lhs; whnf)
      refine br_t (dt2 (by omega) (by change (0 : Int) < (a.length : Int); omega)) ?_
      conv => lhs; whnf
      repeat ((first | with_reducible apply br_tt | with_reducible apply br_ff | with_reducible apply br_nf | with_reducible apply br_nt | with_reducible refine br_d ?_ (by kernel_rfl) | with_reducible apply br_t h | with_reducible apply br_f h); conv => lhs; whnf)
      refine okB ?_
      unfold arePts
      rw [h2, show decide (1 ≤ a.length ∧ a.length ≤ 8) = true from dt (by omega), Bool.true_and, Bool.and_true]
      exact decide_eq_decide.2 (by change ((a.getD 0 []).length : Int) ≤ 3 ↔ _; omega)
    · have h' := ofn h
      conv => lhs; whnf
      repeat ((first | with_reducible apply br_tt | with_reducible apply br_ff | with_reducible apply br_nf | with_reducible apply br_nt | with_reducible refine br_d ?_ (by kernel_rfl) | with_reducible apply br_t h | with_reducible apply br_f h); conv => lhs; whnf)
      refine okB ?_
      unfold arePts
      rw [df (by omega), Bool.false_and]
  · rename_i h2
    conv => lhs; whnf
    refine okB ?_
    unfold arePts
    rw [Bool.not_eq_true] at h2
    rw [h2, Bool.and_false, Bool.and_false]
theorem ok_specArePoints : FnOk Try.prog 30 K_specArePoints := by
  refine fn_ok (fn := Try.f30) (k := Try.f30.ntmps) (E := E_specArePoints) (facts_of (List.forall_mem_cons.2 ⟨ok_l1In, List.forall_mem_nil _⟩)) (by kernel_rfl) rfl (by decide +kernel) (by decide +kernel) ?_
  intro avs hin r h
  unfold K_specArePoints at h
  split at h
  · obtain ⟨hp, rfl⟩ := gd_o h
    exact ⟨_, ev_specArePoints _ hp, rfl⟩
  · cases h

/- spec.FullSet -/
def K_specFullSet : List AV → List Ob → Option (AV × List Ob)
  | [.int .i64 n], [] => gd (True) (.int .i64 (fullSet n), [])
  | _, _ => none
@[reducible] def E_specFullSet : Env := mkE (tb [(56, K_l1In)]) (fun f => false) (fun r => ([], []))
theorem ev_specFullSet (n : Int) (hp : True) : evF E_specFullSet (1) Try.f38 [.int .i64 n] [] = some (.int .i64 (fullSet n), []) := by
  conv => lhs; whnf
  conv => lhs; arg 1; whnf
  refine bnd_g (by exact True.intro) ?_
  conv => lhs; whnf
  refine br_c (fun h => ?_) (fun h => ?_)
  · have h := ofnt h
    conv => lhs; whnf
    rw [fullSet, if_neg h]
  · have h := ofnf h
    conv => lhs; whnf
    rw [wrapu h.1 h.2]
    refine br_f (df (by omega)) ?_
    conv => lhs; whnf
    refine okI ?_
    rw [fullSet, if_pos h]
    exact shl_set h.1 h.2
theorem ok_specFullSet : FnOk Try.prog 38 K_specFullSet := by
  refine fn_ok (fn := Try.f38) (k := Try.f38.ntmps) (E := E_specFullSet) (facts_of (List.forall_mem_cons.2 ⟨ok_l1In, List.forall_mem_nil _⟩)) (by kernel_rfl) rfl (by decide +kernel) (by decide +kernel) ?_
  intro avs hin r h
  unfold K_specFullSet at h
  split at h
  · obtain ⟨hp, rfl⟩ := gd_o h
    exact ⟨_, ev_specFullSet _ hp, rfl⟩
  · cases h

/- spec.l2Has -/
def K_l2Has : List AV → List Ob → Option (AV × List Ob)
  | [.int .i64 s, .int .i64 e], [] => gd ((0 ≤ s ∧ s ≤ 255) ∧ (0 ≤ e ∧ e ≤ 8)) (.bool (s.toNat.testBit e.toNat), [])
  | _, _ => none
@[reducible] def E_l2Has : Env := mkE (tb []) (fun f => false) (fun r => ([], []))
theorem ev_l2Has (s e : Int) (hp : (0 ≤ s ∧ s ≤ 255) ∧ (0 ≤ e ∧ e ≤ 8)) : evF E_l2Has (1) Try.f57 [.int .i64 s, .int .i64 e] [] = some (.bool (s.toNat.testBit e.toNat), []) := by
  obtain ⟨⟨h0, h1⟩, h2, h3⟩ := hp
  conv => lhs; whnf
  rw [wrapu h2 h3]
  refine br_f (df (by omega)) ?_
  conv => lhs; whnf
  exact okB (bit_of h0 h1 h2 h3)
theorem ok_l2Has : FnOk Try.prog 57 K_l2Has := by
  refine fn_ok (fn := Try.f57) (k := Try.f57.ntmps) (E := E_l2Has) (facts_of (List.forall_mem_nil _)) (by kernel_rfl) rfl (by decide +kernel) (by decide +kernel) ?_
  intro avs hin r h
  unfold K_l2Has at h
  split at h
  · obtain ⟨hp, rfl⟩ := gd_o h
    exact ⟨_, ev_l2Has _ _ hp, rfl⟩
  · cases h

/- spec.l1Min -/
def K_l1Min : List AV → List Ob → Option (AV × List Ob)
  | [.int .i64 a, .int .i64 b], [] => gd (True) (.int .i64 (min a b), [])
  | _, _ => none
@[reducible] def E_l1Min : Env := mkE (tb []) (fun f => false) (fun r => ([], []))
theorem ev_l1Min (a b : Int) (hp : True) : evF E_l1Min (1) Try.f58 [.int .i64 a, .int .i64 b] [] = some (.int .i64 (min a b), []) := by
  conv => lhs; whnf
  refine br_c (fun h => ?_) (fun h => ?_)
  · conv => lhs; whnf
    have h := ofd h
    refine okI ?_
    omega
  · conv => lhs; whnf
    have h := ofn h
    refine okI ?_
    omega
theorem ok_l1Min : FnOk Try.prog 58 K_l1Min := by
  refine fn_ok (fn := Try.f58) (k := Try.f58.ntmps) (E := E_l1Min) (facts_of (List.forall_mem_nil _)) (by kernel_rfl) rfl (by decide +kernel) (by decide +kernel) ?_
  intro avs hin r h
  unfold K_l1Min at h
  split at h
  · obtain ⟨hp, rfl⟩ := gd_o h
    exact ⟨_, ev_l1Min _ _ hp, rfl⟩
  · cases h

/- spec.l1Max -/
def K_l1Max : List AV → List Ob → Option (AV × List Ob)
  | [.int .i64 a, .int .i64 b], [] => gd (True) (.int .i64 (max a b), [])
  | _, _ => none
@[reducible] def E_l1Max : Env := mkE (tb []) (fun f => false) (fun r => ([], []))
theorem ev_l1Max (a b : Int) (hp : True) : evF E_l1Max (1) Try.f59 [.int .i64 a, .int .i64 b] [] = some (.int .i64 (max a b), []) := by
  conv => lhs; whnf
  refine br_c (fun h => ?_) (fun h => ?_)
  · conv => lhs; whnf
    have h := ofd h
    refine okI ?_
    omega
  · conv => lhs; whnf
    have h := ofn h
    refine okI ?_
    omega
theorem ok_l1Max : FnOk Try.prog 59 K_l1Max := by
  refine fn_ok (fn := Try.f59) (k := Try.f59.ntmps) (E := E_l1Max) (facts_of (List.forall_mem_nil _)) (by kernel_rfl) rfl (by decide +kernel) (by decide +kernel) ?_
  intro avs hin r h
  unfold K_l1Max at h
  split at h
  · obtain ⟨hp, rfl⟩ := gd_o h
    exact ⟨_, ev_l1Max _ _ hp, rfl⟩
  · cases h

/- spec.l24Hull -/
def K_l24Hull : List AV → List Ob → Option (AV × List Ob)
  | [.lst (.lst (.int .i64)) a, .int .i64 s], [] => gd (arePts a = true ∧ isSet a.length s = true) (.agg [.own 0, .own 1], [.row 3 (.int .i64) (hullL min a s), .row 3 (.int .i64) (hullL max a s)])
  | _, _ => none
@[reducible] def E_l24Hull : Env := mkE (tb [(57, K_l2Has), (58, K_l1Min), (59, K_l1Max)]) (fun f => false) (fun r => bif r == 3 then ([0, 1, 4, 5, 6], [0, 1, 4, 5, 6]) else bif r == 7 then ([0, 1, 4, 5, 6, 7], [0, 1, 4, 5, 6]) else ([], []))
theorem la_l24Hull (a : List (List Int)) (s : Int) (g : Nat) (hg : g < a.length) (y : List Int) (hy : a.getD g [] = y) (h3 : y.length ≤ 3) (k : AX → S → Option (AV × List Ob)) (d : Nat) : ∀ (n i : Nat) (x : Int) (lo hi : List Int), y.length - i = d → i ≤ y.length → x = i → d < n → lo = y.take i → hi = y.take i →
    lpAt E_l24Hull (lp E_l24Hull 0 n) 0 (loopAt Try.f32 1) (mkS [0, 1, 4, 5, 6, 7] [.lst (.lst (.int .i64)) a, .int .i64 s, .ptr 0 0, .ptr 3 0, .int .i64 (g : Int), .int .i64 x] [some (.box 26 [.own 1, .own 2]), some (.row 3 (.int .i64) []), some (.row 3 (.int .i64) []), some (.box 26 [.own 4, .own 5]), some (.row 3 (.int .i64) lo), some (.row 3 (.int .i64) hi)]) k =
      k (.exit 2) (mkS [0, 1, 4, 5, 6] [.lst (.lst (.int .i64)) a, .int .i64 s, .ptr 0 0, .ptr 3 0, .int .i64 (g : Int)] [some (.box 26 [.own 1, .own 2]), some (.row 3 (.int .i64) []), some (.row 3 (.int .i64) []), some (.box 26 [.own 4, .own 5]), some (.row 3 (.int .i64) y), some (.row 3 (.int .i64) y)]) := by
  subst hy
  induction d with
  | zero =>
    intro n i x lo hi hd hi' hx hn hlo hhi
    subst hx hlo hhi
    rw [lpAt_def]
    conv => lhs; whnf
    refine br_t (dt2 (by omega) (by omega)) ?_
    conv => lhs; whnf
    refine br_f (df (by change ¬ ((i : Int) < ((a.getD g []).length : Int)); omega)) ?_
    conv => lhs; whnf
    rw [List.take_of_length_le (by omega)]
  | succ d ih =>
    intro n i x lo hi hd hi' hx hn hlo hhi
    obtain ⟨n, rfl⟩ : ∃ m, n = m + 1 := ⟨n - 1, by omega⟩
    subst hx hlo hhi
    have hz := tk_len (y := a.getD g []) (i := i) (by omega)
    rw [lpAt_def]
    conv => lhs; whnf
    refine br_t (dt2 (by omega) (by omega)) ?_
    conv => lhs; whnf
    refine br_t (dt (by change ((i : Int) < ((a.getD g []).length : Int)); omega)) ?_
    conv => lhs; whnf
    refine br_t (dt (by change (((List.take i (a.getD g [])).length : Int) ≤ (i : Int)); rw [List.length_take]; omega)) ?_
    conv => lhs; whnf
    refine br_t (dt2 (by omega) (by omega)) ?_
    conv => lhs; whnf
    refine br_t (dt2 (by omega) (by change ((i : Int) < ((a.getD g []).length : Int)); omega)) ?_
    conv => lhs; whnf
    refine br_t (dt (by simp [room]; omega)) ?_
    conv => lhs; whnf
    refine br_t (by kernel_rfl) ?_
    conv => lhs; whnf
    refine br_t (dt2 (by omega) (by omega)) ?_
    conv => lhs; whnf
    refine br_t (dt2 (by omega) (by change ((i : Int) < ((a.getD g []).length : Int)); omega)) ?_
    conv => lhs; whnf
    refine br_t (dt (by simp [room]; omega)) ?_
    conv => lhs; whnf
    refine br_t (by kernel_rfl) ?_
    conv => lhs; whnf
    refine br_t (dt2 (by omega) (by change ((i : Int) < ((tk (a.getD g []) i).length : Int)); rw [hz]; omega)) ?_
    conv => lhs; whnf
    refine br_t (dt (by change i < (tk (a.getD g []) i).length; rw [hz]; omega)) ?_
    conv => lhs; whnf
    refine br_t (dt2 (by omega) (by omega)) ?_
    conv => lhs; whnf
    refine br_t (dt2 (by omega) (by change ((i : Int) < ((a.getD g []).length : Int)); omega)) ?_
    conv => lhs; whnf
    conv => lhs; arg 1; whnf
    refine bnd_g (by exact True.intro) ?_
    conv => lhs; whnf
    refine br_t (dt2 (by omega) (by change ((i : Int) < ((tk (a.getD g []) i).length : Int)); rw [hz]; omega)) ?_
    conv => lhs; whnf
    refine br_t (dt (by change i < (tk (a.getD g []) i).length; rw [hz]; omega)) ?_
    conv => lhs; whnf
    refine br_t (by kernel_rfl) ?_
    conv => lhs; whnf
    refine br_t (dt2 (by omega) (by change ((i : Int) < ((tk (a.getD g []) i).length : Int)); rw [hz]; omega)) ?_
    conv => lhs; whnf
    refine br_t (dt (by change i < (tk (a.getD g []) i).length; rw [hz]; omega)) ?_
    conv => lhs; whnf
    refine br_t (dt2 (by omega) (by omega)) ?_
    conv => lhs; whnf
    refine br_t (dt2 (by omega) (by change ((i : Int) < ((a.getD g []).length : Int)); omega)) ?_
    conv => lhs; whnf
    conv => lhs; arg 1; whnf
    refine bnd_g (by exact True.intro) ?_
    conv => lhs; whnf
    refine br_t (dt2 (by omega) (by change ((i : Int) < ((tk (a.getD g []) i).length : Int)); rw [hz]; omega)) ?_
    conv => lhs; whnf
    refine br_t (dt (by change i < (tk (a.getD g []) i).length; rw [hz]; omega)) ?_
    conv => lhs; whnf
    refine br_t (by kernel_rfl) ?_
    conv => lhs; whnf
    have e1 : ∀ f : Int → Int → Int, (∀ n, f n n = n) → (tk (a.getD g []) i).set i (f ((tk (a.getD g []) i).getD i 0) ((a.getD g []).getD i 0)) = (a.getD g []).take (i + 1) := by
      intro f hf
      rw [tk_at (by omega), hf]
      exact tk_set (by omega)
    exact ih n (i + 1) (IntKind.i64.wrap ((i : Int) + 1)) _ _ (by omega) (by omega) (by rw [wrap64 (n := (i : Int) + 1) (by omega) (by omega)]; simp) (by omega) (e1 min (fun n => by omega)) (e1 max (fun n => by omega))
theorem lb_l24Hull (a : List (List Int)) (s : Int) (g : Nat) (hg : g < a.length) (y : List Int) (hy : a.getD g [] = y) (h3 : y.length ≤ 3) (k : AX → S → Option (AV × List Ob)) (d : Nat) : ∀ (n i : Nat) (x : Int) (lo hi : List Int), y.length - i = d → i ≤ y.length → x = i → d < n → lo.length = y.length → hi.length = y.length →
    lpAt E_l24Hull (lp E_l24Hull 0 n) 0 (loopAt Try.f32 1) (mkS [0, 1, 4, 5, 6, 7] [.lst (.lst (.int .i64)) a, .int .i64 s, .ptr 0 0, .ptr 3 0, .int .i64 (g : Int), .int .i64 x] [some (.box 26 [.own 1, .own 2]), some (.row 3 (.int .i64) []), some (.row 3 (.int .i64) []), some (.box 26 [.own 4, .own 5]), some (.row 3 (.int .i64) lo), some (.row 3 (.int .i64) hi)]) k =
      k (.exit 2) (mkS [0, 1, 4, 5, 6] [.lst (.lst (.int .i64)) a, .int .i64 s, .ptr 0 0, .ptr 3 0, .int .i64 (g : Int)] [some (.box 26 [.own 1, .own 2]), some (.row 3 (.int .i64) []), some (.row 3 (.int .i64) []), some (.box 26 [.own 4, .own 5]), some (.row 3 (.int .i64) (lo.take i ++ List.zipWith min (lo.drop i) (y.drop i))), some (.row 3 (.int .i64) (hi.take i ++ List.zipWith max (hi.drop i) (y.drop i)))]) := by
  subst hy
  induction d with
  | zero =>
    intro n i x lo hi hd hi' hx hn hlo hhi
    subst hx
    rw [lpAt_def]
    conv => lhs; whnf
    refine br_t (dt2 (by omega) (by omega)) ?_
    conv => lhs; whnf
    refine br_f (df (by change ¬ ((i : Int) < ((a.getD g []).length : Int)); omega)) ?_
    conv => lhs; whnf
    rw [List.take_of_length_le (by omega), List.take_of_length_le (by omega), List.drop_of_length_le (by omega), List.drop_of_length_le (by omega)]
    simp
  | succ d ih =>
    intro n i x lo hi hd hi' hx hn hlo hhi
    obtain ⟨n, rfl⟩ : ∃ m, n = m + 1 := ⟨n - 1, by omega⟩
    subst hx
    rw [lpAt_def]
    conv => lhs; whnf
    refine br_t (dt2 (by omega) (by omega)) ?_
    conv => lhs; whnf
    refine br_t (dt (by change ((i : Int) < ((a.getD g []).length : Int)); omega)) ?_
    conv => lhs; whnf
    refine br_f (df (by change ¬ ((lo.length : Int) ≤ (i : Int)); omega)) ?_
    conv => lhs; whnf
    refine br_t (dt2 (by omega) (by omega)) ?_
    conv => lhs; whnf
    refine br_t (dt (by change i < lo.length; omega)) ?_
    conv => lhs; whnf
    refine br_t (dt2 (by omega) (by omega)) ?_
    conv => lhs; whnf
    refine br_t (dt2 (by omega) (by change ((i : Int) < ((a.getD g []).length : Int)); omega)) ?_
    conv => lhs; whnf
    conv => lhs; arg 1; whnf
    refine bnd_g (by exact True.intro) ?_
    conv => lhs; whnf
    refine br_t (dt2 (by omega) (by omega)) ?_
    conv => lhs; whnf
    refine br_t (dt (by change i < lo.length; omega)) ?_
    conv => lhs; whnf
    refine br_t (by kernel_rfl) ?_
    conv => lhs; whnf
    refine br_t (dt2 (by omega) (by omega)) ?_
    conv => lhs; whnf
    refine br_t (dt (by change i < hi.length; omega)) ?_
    conv => lhs; whnf
    refine br_t (dt2 (by omega) (by omega)) ?_
    conv => lhs; whnf
    refine br_t (dt2 (by omega) (by change ((i : Int) < ((a.getD g []).length : Int)); omega)) ?_
    conv => lhs; whnf
    conv => lhs; arg 1; whnf
    refine bnd_g (by exact True.intro) ?_
    conv => lhs; whnf
    refine br_t (dt2 (by omega) (by omega)) ?_
    conv => lhs; whnf
    refine br_t (dt (by change i < hi.length; omega)) ?_
    conv => lhs; whnf
    refine br_t (by kernel_rfl) ?_
    conv => lhs; whnf
    refine (ih n (i + 1) (IntKind.i64.wrap ((i : Int) + 1)) _ _ (by omega) (by omega) (by rw [wrap64 (n := (i : Int) + 1) (by omega) (by omega)]; simp) (by omega) (by simp [hlo]) (by simp [hhi])).trans ?_
    have e1 := zip_set (f := min) (l := lo) (y := a.getD g []) (i := i) hlo (by omega)
    have e2 := zip_set (f := max) (l := hi) (y := a.getD g []) (i := i) hhi (by omega)
    rw [← e1, ← e2]
    rfl
theorem lp_l24Hull (a : List (List Int)) (h8 : a.length ≤ 8) (w : Nat) (hw : ∀ x ∈ a, x.length = w) (h3 : w ≤ 3) (s : Int) (hs : 0 ≤ s ∧ s ≤ 255) (h8s : isSet 8 s = true) (k : AX → S → Option (AV × List Ob)) (d : Nat) : ∀ (n i : Nat) (x : Int) (lo hi : List Int), a.length - i = d → i ≤ a.length → x = i → d + 10 < n → (lo = [] ∧ hi = []) ∨ (lo.length = w ∧ hi.length = w) →
    lpAt E_l24Hull (lp E_l24Hull 0 n) 0 (loopAt Try.f32 0) (mkS [0, 1, 4, 5, 6] [.lst (.lst (.int .i64)) a, .int .i64 s, .ptr 0 0, .ptr 3 0, .int .i64 x] [some (.box 26 [.own 1, .own 2]), some (.row 3 (.int .i64) []), some (.row 3 (.int .i64) []), some (.box 26 [.own 4, .own 5]), some (.row 3 (.int .i64) lo), some (.row 3 (.int .i64) hi)]) k =
      k (.exit 0) (mkS [0, 1, 4, 5, 6] [.lst (.lst (.int .i64)) a, .int .i64 s, .ptr 0 0, .ptr 3 0, .int .i64 (a.length : Int)] [some (.box 26 [.own 1, .own 2]), some (.row 3 (.int .i64) []), some (.row 3 (.int .i64) []), some (.box 26 [.own 4, .own 5]), some (.row 3 (.int .i64) (hullG min a (elemsL s d i) lo)), some (.row 3 (.int .i64) (hullG max a (elemsL s d i) hi))]) := by
  induction d with
  | zero =>
    intro n i x lo hi hd hi' hx hn hz
    subst hx
    rw [lpAt_def]
    conv => lhs; whnf
    refine br_f (df (by omega)) ?_
    conv => lhs; whnf
    have : i = a.length := by omega
    rw [this]
    rfl
  | succ d ih =>
    intro n i x lo hi hd hi' hx hn hz
    obtain ⟨n, rfl⟩ : ∃ m, n = m + 1 := ⟨n - 1, by omega⟩
    subst hx
    have hwi := hw _ (mem_getD (d := []) (show i < a.length by omega))
    have hE := hasE_bit h8s (e := (i : Int)) (by omega) (by omega)
    unfold bitI at hE
    rw [lpAt_def]
    conv => lhs; whnf
    refine br_t (dt (by omega)) ?_
    conv => lhs; whnf
    conv => lhs; arg 1; whnf
    refine bnd_g (by exact ⟨by omega, by omega⟩) ?_
    conv => lhs; whnf
    refine br_c (fun h => ?_) (fun h => ?_)
    · have h' : hasE s (i : Int) = false := by rw [hE]; exact bnt h
      conv => lhs; whnf
      refine (ih n (i + 1) (IntKind.i64.wrap ((i : Int) + 1)) _ _ (by omega) (by omega) (by rw [wrap64 (n := (i : Int) + 1) (by omega) (by omega)]; simp) (by omega) hz).trans ?_
      rw [elemsL, h']
      rfl
    · have h' : hasE s (i : Int) = true := by rw [hE]; exact bnf h
      conv => lhs; whnf
      refine Or.elim hz (fun hz => ?_) (fun hz => ?_)
      · have z1 := hz.1
        have z2 := hz.2
        subst z1
        subst z2
        refine (la_l24Hull a s i (by omega) _ rfl (by omega) _ (a.getD i []).length _ 0 0 [] [] rfl (by omega) rfl (by omega) rfl rfl).trans ?_
        conv => lhs; whnf
        refine (ih n (i + 1) (IntKind.i64.wrap ((i : Int) + 1)) _ _ (by omega) (by omega) (by rw [wrap64 (n := (i : Int) + 1) (by omega) (by omega)]; simp) (by omega) (Or.inr ⟨hwi, hwi⟩)).trans ?_
        rw [elemsL, h']
        rfl
      · have q1 : (lo.take 0 ++ List.zipWith min (lo.drop 0) ((a.getD i []).drop 0)).length = w := by rw [List.take_zero, List.drop_zero, List.drop_zero, List.nil_append, List.length_zipWith]; omega
        have q2 : (hi.take 0 ++ List.zipWith max (hi.drop 0) ((a.getD i []).drop 0)).length = w := by rw [List.take_zero, List.drop_zero, List.drop_zero, List.nil_append, List.length_zipWith]; omega
        refine (lb_l24Hull a s i (by omega) _ rfl (by omega) _ (a.getD i []).length _ 0 0 _ _ rfl (by omega) rfl (by omega) (by omega) (by omega)).trans ?_
        conv => lhs; whnf
        refine (ih n (i + 1) (IntKind.i64.wrap ((i : Int) + 1)) _ _ (by omega) (by omega) (by rw [wrap64 (n := (i : Int) + 1) (by omega) (by omega)]; simp) (by omega) (Or.inr ⟨q1, q2⟩)).trans ?_
        have e1 : hullStep min a lo (i : Int) = lo.take 0 ++ List.zipWith min (lo.drop 0) ((a.getD i []).drop 0) := mixL_zip min (by change lo.length = (a.getD i []).length; omega)
        have e2 : hullStep max a hi (i : Int) = hi.take 0 ++ List.zipWith max (hi.drop 0) ((a.getD i []).drop 0) := mixL_zip max (by change hi.length = (a.getD i []).length; omega)
        rw [elemsL, h', ← e1, ← e2]
        rfl
theorem ev_l24Hull (a : List (List Int)) (s : Int) (hp : arePts a = true ∧ isSet a.length s = true) : evF E_l24Hull (100) Try.f32 [.lst (.lst (.int .i64)) a, .int .i64 s] [] = some (.agg [.own 0, .own 1], [.row 3 (.int .i64) (hullL min a s), .row 3 (.int .i64) (hullL max a s)]) := by
  have hp' := arePts_parts hp.1
  have hr := isSet_le hp.2
  conv => lhs; whnf
  refine (lp_l24Hull a hp'.1.2 _ hp'.2.2 hp'.2.1 s ⟨hr.2.2.1, hr.2.2.2⟩ (isSet_8 hp.2) _ a.length _ 0 0 [] [] rfl (by omega) rfl (by change _ < 99; omega) (Or.inl ⟨rfl, rfl⟩)).trans ?_
  conv => lhs; whnf
  unfold hullL
  rw [elems_set hp'.1.2 hp.2]
theorem ok_l24Hull : FnOk Try.prog 32 K_l24Hull := by
  refine fn_ok (fn := Try.f32) (k := Try.f32.ntmps) (E := E_l24Hull) (facts_of (List.forall_mem_cons.2 ⟨ok_l2Has, List.forall_mem_cons.2 ⟨ok_l1Min, List.forall_mem_cons.2 ⟨ok_l1Max, List.forall_mem_nil _⟩⟩⟩)) (by kernel_rfl) rfl (by decide +kernel) (by decide +kernel) ?_
  intro avs hin r h
  unfold K_l24Hull at h
  split at h
  · obtain ⟨hp, rfl⟩ := gd_o h
    exact ⟨_, ev_l24Hull _ _ hp, rfl⟩
  · cases h

/- spec.FittingPoints -/
def K_specFittingPoints : List AV → List Ob → Option (AV × List Ob)
  | [.lst (.lst (.int .i64)) a, .agg [.lst (.int .i64) lo, .lst (.int .i64) hi]], [] => gd ((a.length ≤ 1048576 ∧ ∀ x ∈ a, x.length ≤ 1048576) ∧ (lo.length ≤ 1048576 ∧ hi.length ≤ 1048576)) (.int .i64 (fitF a lo hi), [])
  | _, _ => none
@[reducible] def E_specFittingPoints : Env := mkE (tb [(30, K_specArePoints), (56, K_l1In)]) (fun f => false) (fun r => bif r == 5 then ([0, 3, 5, 6], [0, 3, 5, 6, 7]) else bif r == 9 then ([0, 3, 5, 6, 7, 8], [0, 3, 5, 6, 7]) else ([], []))
theorem lq_specFittingPoints (a : List (List Int)) (lo hi : List Int) (g : Nat) (hg : g < a.length) (y : List Int) (hy : a.getD g [] = y) (hl : lo.length = y.length) (hh : hi.length = y.length) (h3 : y.length ≤ 3) (q : Int) (k : AX → S → Option (AV × List Ob)) (d : Nat) : ∀ (n i : Nat) (x : Int) (f : Bool), y.length - i = d → i ≤ y.length → x = i → d < n →
    lpAt E_specFittingPoints (lp E_specFittingPoints 0 n) 0 (loopAt Try.f39 1) (mkS [0, 3, 5, 6, 7, 8] [.lst (.lst (.int .i64)) a, .ptr 0 0, .int .i64 q, .int .i64 (g : Int), .bool f, .int .i64 x] [some (.box 26 [.lst (.int .i64) lo, .lst (.int .i64) hi])]) k =
      k (.exit 2) (mkS [0, 3, 5, 6, 7] [.lst (.lst (.int .i64)) a, .ptr 0 0, .int .i64 q, .int .i64 (g : Int), .bool (f && allB (fitAt y lo hi) d i)] [some (.box 26 [.lst (.int .i64) lo, .lst (.int .i64) hi])]) := by
  subst hy
  induction d with
  | zero =>
    intro n i x f hd hi' hx hn
    subst hx
    rw [lpAt_def]
    conv => lhs; whnf
    refine br_t (dt2 (by omega) (by omega)) ?_
    conv => lhs; whnf
    refine br_f (df (by change ¬ ((i : Int) < ((a.getD g []).length : Int)); omega)) ?_
    conv => lhs; whnf
    rw [allB, Bool.and_true]
  | succ d ih =>
    intro n i x f hd hi' hx hn
    obtain ⟨n, rfl⟩ : ∃ m, n = m + 1 := ⟨n - 1, by omega⟩
    subst hx
    rw [lpAt_def]
    conv => lhs; whnf
    refine br_t (dt2 (by omega) (by omega)) ?_
    conv => lhs; whnf
    refine br_t (dt (by change ((i : Int) < ((a.getD g []).length : Int)); omega)) ?_
    conv => lhs; whnf
    refine br_c (fun h => ?_) (fun h => ?_)
    · conv => lhs; whnf
      repeat ((first | with_reducible apply br_tt | with_reducible apply br_ff | with_reducible apply br_nf | with_reducible apply br_nt | with_reducible refine br_d ?_ (by kernel_rfl) | with_reducible apply br_t h | with_reducible apply br_f h | with_reducible refine br_t (dt2 (by omega) (by omega)) ?_); conv => lhs; whnf)
      refine br_t (dt2 (by omega) (by change ((i : Int) < ((a.getD g []).length : Int)); omega)) ?_
      conv => lhs; whnf
      repeat ((first | with_reducible apply br_tt | with_reducible apply br_ff | with_reducible apply br_nf | with_reducible apply br_nt | with_reducible refine br_d ?_ (by kernel_rfl) | with_reducible apply br_t h | with_reducible apply br_f h | with_reducible refine br_t (dt2 (by omega) (by omega)) ?_); conv => lhs; whnf)
      conv => lhs; arg 1; whnf
      refine bnd_g (by exact True.intro) ?_
      conv => lhs; whnf
      repeat ((first | with_reducible apply br_tt | with_reducible apply br_ff | with_reducible apply br_nf | with_reducible apply br_nt | with_reducible refine br_d ?_ (by kernel_rfl) | with_reducible apply br_t h | with_reducible apply br_f h | with_reducible refine br_t (dt2 (by omega) (by omega)) ?_); conv => lhs; whnf)
      rw [ih n (i + 1) _ _ (by omega) (by omega) (by rw [wrap64 (by omega) (by omega)]; simp) (by omega)]
      rw [h, allB, Bool.true_and]
      rfl
    · conv => lhs; whnf
      repeat ((first | with_reducible apply br_tt | with_reducible apply br_ff | with_reducible apply br_nf | with_reducible apply br_nt | with_reducible refine br_d ?_ (by kernel_rfl) | with_reducible apply br_t h | with_reducible apply br_f h | with_reducible refine br_t (dt2 (by omega) (by omega)) ?_); conv => lhs; whnf)
      rw [ih n (i + 1) _ _ (by omega) (by omega) (by rw [wrap64 (by omega) (by omega)]; simp) (by omega)]
      simp only [h, Bool.false_and]

theorem lp_specFittingPoints (a : List (List Int)) (lo hi : List Int) (h8 : a.length ≤ 8) (hw : ∀ x ∈ a, x.length = (a.getD 0 []).length) (hl : lo.length = (a.getD 0 []).length) (hh : hi.length = (a.getD 0 []).length) (h3 : (a.getD 0 []).length ≤ 3) (k : AX → S → Option (AV × List Ob)) (d : Nat) : ∀ (n i : Nat) (x q : Int), a.length - i = d → i ≤ a.length → x = i → d + 10 < n →
    lpAt E_specFittingPoints (lp E_specFittingPoints 0 n) 0 (loopAt Try.f39 0) (mkS [0, 3, 5, 6] [.lst (.lst (.int .i64)) a, .ptr 0 0, .int .i64 q, .int .i64 x] [some (.box 26 [.lst (.int .i64) lo, .lst (.int .i64) hi])]) k =
      k (.exit 0) (mkS [0, 3, 5, 6, 7] [.lst (.lst (.int .i64)) a, .ptr 0 0, .int .i64 (orF (fitP a lo hi) d i q), .int .i64 (a.length : Int), .any] [some (.box 26 [.lst (.int .i64) lo, .lst (.int .i64) hi])]) := by
  induction d with
  | zero =>
    intro n i x q hd hi' hx hn
    subst hx
    rw [lpAt_def]
    conv => lhs; whnf
    refine br_f (df (by omega)) ?_
    conv => lhs; whnf
    have : i = a.length := by omega
    rw [orF, this]
  | succ d ih =>
    intro n i x q hd hi' hx hn
    obtain ⟨n, rfl⟩ : ∃ m, n = m + 1 := ⟨n - 1, by omega⟩
    subst hx
    have hwi := hw _ (mem_getD (d := []) (show i < a.length by omega))
    rw [lpAt_def]
    conv => lhs; whnf
    refine br_t (dt (by omega)) ?_
    conv => lhs; whnf
    refine (lq_specFittingPoints a lo hi i (by omega) _ rfl (by omega) (by omega) (by omega) q _ (a.getD i []).length _ 0 0 _ rfl (by omega) rfl (by omega)).trans ?_
    rw [Bool.true_and]
    conv => lhs; whnf
    refine br_c (fun h => ?_) (fun h => ?_)
    · have h' : fitP a lo hi (i : Int) = true := h
      conv => lhs; whnf
      refine br_f (by (rw [wrapu (n := (i : Int)) (by omega) (by omega)]; exact df (by omega))) ?_
      conv => lhs; whnf
      rw [shl1u (by omega)]
      rw [ih n (i + 1) _ _ (by omega) (by omega) (by rw [wrap64 (by omega) (by omega)]; simp) (by omega)]
      rw [orF, h', cond_true]
      rfl
    · have h' : fitP a lo hi (i : Int) = false := h
      conv => lhs; whnf
      rw [ih n (i + 1) _ _ (by omega) (by omega) (by rw [wrap64 (by omega) (by omega)]; simp) (by omega)]
      rw [orF, h', cond_false]
theorem ev_specFittingPoints (a : List (List Int)) (lo hi : List Int) (hp : (a.length ≤ 1048576 ∧ ∀ x ∈ a, x.length ≤ 1048576) ∧ (lo.length ≤ 1048576 ∧ hi.length ≤ 1048576)) : evF E_specFittingPoints (40) Try.f39 [.lst (.lst (.int .i64)) a, .agg [.lst (.int .i64) lo, .lst (.int .i64) hi]] [] = some (.int .i64 (fitF a lo hi), []) := by
  conv => lhs; whnf
  conv => lhs; arg 1; whnf
  refine bnd_g (by exact hp.1) ?_
  conv => lhs; whnf
  refine br_c (fun h => ?_) (fun h => ?_)
  · conv => lhs; whnf
    repeat ((first | with_reducible apply br_tt | with_reducible apply br_ff | with_reducible apply br_nf | with_reducible apply br_nt | with_reducible refine br_d ?_ (by kernel_rfl) | with_reducible apply br_t h | with_reducible apply br_f h); conv => lhs; whnf)
    refine okI ?_
    unfold fitF
    rw [bnt h]
    rfl
  · have hA := arePts_parts (bnf h)
    conv => lhs; whnf
    repeat ((first | with_reducible apply br_tt | with_reducible apply br_ff | with_reducible apply br_nf | with_reducible apply br_nt | with_reducible refine br_d ?_ (by kernel_rfl) | with_reducible apply br_t h | with_reducible apply br_f h); conv => lhs; whnf)
    refine br_t (dt2 (by omega) (by change (0 : Int) < (a.length : Int); omega)) ?_
    conv => lhs; whnf
    repeat ((first | with_reducible apply br_tt | with_reducible apply br_ff | with_reducible apply br_nf | with_reducible apply br_nt | with_reducible refine br_d ?_ (by kernel_rfl) | with_reducible apply br_t h | with_reducible apply br_f h); conv => lhs; whnf)
    refine br_c (fun h2 => ?_) (fun h2 => ?_)
    · have h' : decide (lo.length = (a.getD 0 []).length) = false := by
        refine df fun e => ?_
        have h2 : ((lo.length : Int) != ((a.getD 0 []).length : Int)) = true := h2
        rw [e] at h2
        simp at h2
      conv => lhs; whnf
      repeat ((first | with_reducible apply br_tt | with_reducible apply br_ff | with_reducible apply br_nf | with_reducible apply br_nt | with_reducible refine br_d ?_ (by kernel_rfl) | with_reducible apply br_t h2 | with_reducible apply br_f h2); conv => lhs; whnf)
      refine okI ?_
      unfold fitF
      rw [h', Bool.and_false, Bool.false_and]
      rfl
    · have h' : lo.length = (a.getD 0 []).length := by
        have h2 : ((lo.length : Int) != ((a.getD 0 []).length : Int)) = false := h2
        simp only [bne_eq_false_iff_eq] at h2
        omega
      conv => lhs; whnf
      repeat ((first | with_reducible apply br_tt | with_reducible apply br_ff | with_reducible apply br_nf | with_reducible apply br_nt | with_reducible refine br_d ?_ (by kernel_rfl) | with_reducible apply br_t h2 | with_reducible apply br_f h2); conv => lhs; whnf)
      refine br_t (dt2 (by omega) (by change (0 : Int) < (a.length : Int); omega)) ?_
      conv => lhs; whnf
      repeat ((first | with_reducible apply br_tt | with_reducible apply br_ff | with_reducible apply br_nf | with_reducible apply br_nt | with_reducible refine br_d ?_ (by kernel_rfl) | with_reducible apply br_t h2 | with_reducible apply br_f h2); conv => lhs; whnf)
      refine br_c (fun h3 => ?_) (fun h3 => ?_)
      · have h'' : decide (hi.length = (a.getD 0 []).length) = false := by
          refine df fun e => ?_
          have h2 : ((hi.length : Int) != ((a.getD 0 []).length : Int)) = true := h3
          rw [e] at h2
          simp at h2
        conv => lhs; whnf
        refine okI ?_
        unfold fitF
        rw [h'', Bool.and_false]
        rfl
      · have h'' : hi.length = (a.getD 0 []).length := by
          have h2 : ((hi.length : Int) != ((a.getD 0 []).length : Int)) = false := h3
          simp only [bne_eq_false_iff_eq] at h2
          omega
        conv => lhs; whnf
        refine (lp_specFittingPoints a lo hi hA.1.2 hA.2.2 h' h'' hA.2.1 _ a.length _ 0 0 0 rfl (by omega) rfl (by change _ < 39; omega)).trans ?_
        conv => lhs; whnf
        refine okI ?_
        unfold fitF
        rw [bnf h, dt h', dt h'']
        rfl
theorem ok_specFittingPoints : FnOk Try.prog 39 K_specFittingPoints := by
  refine fn_ok (fn := Try.f39) (k := Try.f39.ntmps) (E := E_specFittingPoints) (facts_of (List.forall_mem_cons.2 ⟨ok_specArePoints, List.forall_mem_cons.2 ⟨ok_l1In, List.forall_mem_nil _⟩⟩)) (by kernel_rfl) rfl (by decide +kernel) (by decide +kernel) ?_
  intro avs hin r h
  unfold K_specFittingPoints at h
  split at h
  · obtain ⟨hp, rfl⟩ := gd_o h
    exact ⟨_, ev_specFittingPoints _ _ _ hp, rfl⟩
  · cases h

/- spec.PatternExtents -/
def K_specPatternExtents : List AV → List Ob → Option (AV × List Ob)
  | [.lst (.lst (.int .i64)) a], [] => gd (a.length ≤ 1048576 ∧ ∀ x ∈ a, x.length ≤ 1048576) (.own 0, [.row 3 (.int .i64) (patE a)])
  | _, _ => none
@[reducible] def E_specPatternExtents : Env := mkE (tb [(30, K_specArePoints), (38, K_specFullSet), (32, K_l24Hull), (39, K_specFittingPoints)]) (fun f => false) (fun r => bif r == 6 then ([0, 3, 4], [3]) else ([], []))
theorem lp_specPatternExtents (a : List (List Int)) (hA : arePts a = true) (hm : a.length ≤ 1048576 ∧ ∀ x ∈ a, x.length ≤ 1048576) (k : AX → S → Option (AV × List Ob)) (d : Nat) : ∀ (n i : Nat) (x : Int) (zs : List Int), 2 ^ a.length - i = d → i ≤ 2 ^ a.length → x = i → d < n → zs.length ≤ i →
    lpAt E_specPatternExtents (lp E_specPatternExtents 0 n) 0 (loopAt Try.f15 0) (mkS [0, 3, 4] [.lst (.lst (.int .i64)) a, .own 0, .int .i64 x] [some (.row 3 (.int .i64) zs)]) k =
      k (.exit 0) (mkS [3] [.own 0] [some (.row 3 (.int .i64) (zs ++ patL a d x))]) := by
  have hp' := arePts_parts hA
  have hf := full_len hp'.1.2
  induction d with
  | zero =>
    intro n i x zs hd hi hx hn hz
    subst hx
    rw [lpAt_def]
    conv => lhs; whnf
    conv => lhs; arg 1; whnf
    refine bnd_g (by exact True.intro) ?_
    conv => lhs; whnf
    rw [hf.1]
    refine br_f (df (by omega)) ?_
    conv => lhs; whnf
    rw [patL, List.append_nil]
  | succ d ih =>
    intro n i x zs hd hi hx hn hz
    obtain ⟨n, rfl⟩ : ∃ m, n = m + 1 := ⟨n - 1, by omega⟩
    subst hx
    have hset := set_lt hp'.1.2 (show i < 2 ^ a.length by omega)
    have hl1 := hullL_len hA hset min
    have hl2 := hullL_len hA hset max
    rw [lpAt_def]
    conv => lhs; whnf
    conv => lhs; arg 1; whnf
    refine bnd_g (by exact True.intro) ?_
    conv => lhs; whnf
    rw [hf.1]
    refine br_t (dt (by omega)) ?_
    conv => lhs; whnf
    conv => lhs; arg 1; whnf
    refine bnd_g (by exact ⟨hA, hset⟩) ?_
    conv => lhs; whnf
    conv => lhs; arg 1; whnf
    refine bnd_g (by exact ⟨hm, by omega, by omega⟩) ?_
    conv => lhs; whnf
    refine br_c (fun h => ?_) (fun h => ?_)
    · have h' : patAt a (i : Int) = true := h
      conv => lhs; whnf
      refine br_t (dt (by simp [room]; omega)) ?_
      conv => lhs; whnf
      refine (ih n (i + 1) (IntKind.i64.wrap ((i : Int) + 1)) _ (by omega) (by omega) (by rw [wrap64 (n := (i : Int) + 1) (by omega) (by omega)]; simp) (by omega) (by simp; omega)).trans ?_
      rw [patL, h', wrap64 (n := (i : Int) + 1) (by omega) (by omega), List.append_assoc]
      rfl
    · have h' : patAt a (i : Int) = false := h
      conv => lhs; whnf
      refine (ih n (i + 1) (IntKind.i64.wrap ((i : Int) + 1)) _ (by omega) (by omega) (by rw [wrap64 (n := (i : Int) + 1) (by omega) (by omega)]; simp) (by omega) (by omega)).trans ?_
      rw [patL, h', wrap64 (n := (i : Int) + 1) (by omega) (by omega)]
      rfl
theorem ev_specPatternExtents (a : List (List Int)) (hp : a.length ≤ 1048576 ∧ ∀ x ∈ a, x.length ≤ 1048576) : evF E_specPatternExtents (400) Try.f15 [.lst (.lst (.int .i64)) a] [] = some (.own 0, [.row 3 (.int .i64) (patE a)]) := by
  conv => lhs; whnf
  conv => lhs; arg 1; whnf
  refine bnd_g (by exact hp) ?_
  conv => lhs; whnf
  refine br_c (fun h => ?_) (fun h => ?_)
  · have hf : patE a = [] := by unfold patE; rw [bnt h]; rfl
    rw [hf]
    conv => lhs; whnf
  · have hp' := arePts_parts (bnf h)
    have hfl := full_len hp'.1.2
    have hf : patE a = 0 :: patL a (2 ^ a.length - 1) 1 := by unfold patE; rw [bnf h]; rfl
    rw [hf]
    conv => lhs; whnf
    refine br_t (dt (by simp [room])) ?_
    conv => lhs; whnf
    refine (lp_specPatternExtents a (bnf h) hp _ (2 ^ a.length - 1) _ 1 1 [0] rfl (by omega) rfl (by change _ < 399; omega) (by simp)).trans ?_
    conv => lhs; whnf
    rfl
theorem ok_specPatternExtents : FnOk Try.prog 15 K_specPatternExtents := by
  refine fn_ok (fn := Try.f15) (k := Try.f15.ntmps) (E := E_specPatternExtents) (facts_of (List.forall_mem_cons.2 ⟨ok_specArePoints, List.forall_mem_cons.2 ⟨ok_specFullSet, List.forall_mem_cons.2 ⟨ok_l24Hull, List.forall_mem_cons.2 ⟨ok_specFittingPoints, List.forall_mem_nil _⟩⟩⟩⟩)) (by kernel_rfl) rfl (by decide +kernel) (by decide +kernel) ?_
  intro avs hin r h
  unfold K_specPatternExtents at h
  split at h
  · obtain ⟨hp, rfl⟩ := gd_o h
    exact ⟨_, ev_specPatternExtents _ hp, rfl⟩
  · cases h

/- impl.within -/
def K_within : List AV → List Ob → Option (AV × List Ob)
  | [.int .i64 n, .int .i64 l, .int .i64 h], [] => gd (True) (.bool (decide (l ≤ n ∧ n ≤ h)), [])
  | _, _ => none
@[reducible] def E_within : Env := mkE (tb []) (fun f => false) (fun r => ([], []))
theorem ev_within (n l h : Int) (hp : True) : evF E_within (1) Try.f60 [.int .i64 n, .int .i64 l, .int .i64 h] [] = some (.bool (decide (l ≤ n ∧ n ≤ h)), []) := by
  conv => lhs; whnf
  refine br_c (fun h1 => ?_) (fun h1 => ?_)
  · conv => lhs; whnf
    repeat ((first | with_reducible apply br_tt | with_reducible apply br_ff | with_reducible apply br_nf | with_reducible apply br_nt | with_reducible refine br_d ?_ (by kernel_rfl) | with_reducible apply br_t h1 | with_reducible apply br_f h1); conv => lhs; whnf)
    have := ofd h1
    simp [this]
  · conv => lhs; whnf
    repeat ((first | with_reducible apply br_tt | with_reducible apply br_ff | with_reducible apply br_nf | with_reducible apply br_nt | with_reducible refine br_d ?_ (by kernel_rfl) | with_reducible apply br_t h1 | with_reducible apply br_f h1); conv => lhs; whnf)
    have := ofn h1
    simp [this]
theorem ok_within : FnOk Try.prog 60 K_within := by
  refine fn_ok (fn := Try.f60) (k := Try.f60.ntmps) (E := E_within) (facts_of (List.forall_mem_nil _)) (by kernel_rfl) rfl (by decide +kernel) (by decide +kernel) ?_
  intro avs hin r h
  unfold K_within at h
  split at h
  · obtain ⟨hp, rfl⟩ := gd_o h
    exact ⟨_, ev_within _ _ _ hp, rfl⟩
  · cases h

/- impl.ArePoints$1$1 -/
def K_badNum1 : List AV → List Ob → Option (AV × List Ob)
  | [.int .i64 x], [] => gd (True) (.bool (badNum x), [])
  | _, _ => none
@[reducible] def E_badNum1 : Env := mkE (tb [(60, K_within)]) (fun f => false) (fun r => ([], []))
theorem ev_badNum1 (x : Int) (hp : True) : evF E_badNum1 (1) Try.f64 [.int .i64 x] [] = some (.bool (badNum x), []) := by
  conv => lhs; whnf
  conv => lhs; arg 1; whnf
  refine bnd_g (by exact True.intro) ?_
  conv => lhs; whnf
  rfl
theorem ok_badNum1 : FnOk Try.prog 64 K_badNum1 := by
  refine fn_ok (fn := Try.f64) (k := Try.f64.ntmps) (E := E_badNum1) (facts_of (List.forall_mem_cons.2 ⟨ok_within, List.forall_mem_nil _⟩)) (by kernel_rfl) rfl (by decide +kernel) (by decide +kernel) ?_
  intro avs hin r h
  unfold K_badNum1 at h
  split at h
  · obtain ⟨hp, rfl⟩ := gd_o h
    exact ⟨_, ev_badNum1 _ hp, rfl⟩
  · cases h

/- slices.IndexFunc[[]int,int] -/
def K_idx_badNum1 : List AV → List Ob → Option (AV × List Ob)
  | [.lst (.int .i64) a, .clo 64 []], [] => gd (a.length < 4611686018427387904 ∧ True) (.int .i64 (firstI badNum a 0), [])
  | _, _ => none
@[reducible] def E_idx_badNum1 : Env := mkE (tb [(64, K_badNum1)]) (fun f => false) (fun r => bif r == 2 then ([0, 1, 7, 8], [4]) else ([], []))
theorem lp_idx_badNum1 (a : List Int)  (ht : True) (ha : a.length < 4611686018427387904) (k : AX → S → Option (AV × List Ob)) (d : Nat) : ∀ (n i : Nat) (x : Int), a.length - i = d → i ≤ a.length → x = i → d < n →
    lpAt E_idx_badNum1 (lp E_idx_badNum1 0 n) 0 (loopAt Try.f85 0) (mkS [0, 1, 7, 8] [.lst (.int .i64) a, .clo 64 [], .int .i64 a.length, .int .i64 x] []) k =
      if (a.drop i).any badNum then k .ret (mkS [4] [.int .i64 (firstI badNum (a.drop i) i)] []) else k (.exit 0) (mkS [4] [.any] []) := by
  induction d with
  | zero =>
    intro n i x hd hi hx hn
    subst hx
    rw [lpAt_def]
    conv => lhs; whnf
    refine br_f (df (by omega)) ?_
    conv => lhs; whnf
    rw [List.drop_of_length_le (by omega)]
    simp
  | succ d ih =>
    intro n i x hd hi hx hn
    obtain ⟨n, rfl⟩ : ∃ m, n = m + 1 := ⟨n - 1, by omega⟩
    subst hx
    rw [lpAt_def]
    conv => lhs; whnf
    refine br_t (dt (by omega)) ?_
    conv => lhs; whnf
    refine br_t (dt2 (by omega) (by omega)) ?_
    conv => lhs; whnf
    conv => lhs; arg 1; whnf
    refine bnd_g (by exact True.intro) ?_
    conv => lhs; whnf
    rw [getD_drop (l := a) (i := i) (d := 0) (by omega)]
    refine br_c (fun h => ?_) (fun h => ?_)
    · have h' : badNum (a.getD i 0) = true := h
      conv => lhs; whnf
      rw [if_pos (by rw [List.any_cons, h', Bool.true_or])]
      rw [firstI, h', cond_true]
    · have h' : badNum (a.getD i 0) = false := h
      conv => lhs; whnf
      rw [ih n (i + 1) _ (by omega) (by omega) (by rw [wrap64 (by omega) (by omega)]; simp) (by omega)]
      rw [List.any_cons, h', Bool.false_or, firstI, h', cond_false]
      rfl
theorem ev_idx_badNum1 (a : List Int) (hp : a.length < 4611686018427387904 ∧ True) : evF E_idx_badNum1 (a.length + 2) Try.f85 [.lst (.int .i64) a, .clo 64 []] [] = some (.int .i64 (firstI badNum a 0), []) := by
  conv => lhs; whnf
  refine (lp_idx_badNum1 a  hp.2 hp.1 _ a.length _ 0 0 rfl (by omega) rfl (by omega)).trans ?_
  simp only [List.drop_zero]
  split
  · conv => lhs; whnf
    rfl
  · rename_i he
    conv => lhs; whnf
    have : firstI badNum a 0 = -1 := firstI_none badNum a 0 (by simpa using he)
    rw [this]
theorem ok_idx_badNum1 : FnOk Try.prog 85 K_idx_badNum1 := by
  refine fn_ok (fn := Try.f85) (k := Try.f85.ntmps) (E := E_idx_badNum1) (facts_of (List.forall_mem_cons.2 ⟨ok_badNum1, List.forall_mem_nil _⟩)) (by kernel_rfl) rfl (by decide +kernel) (by decide +kernel) ?_
  intro avs hin r h
  unfold K_idx_badNum1 at h
  split at h
  · obtain ⟨hp, rfl⟩ := gd_o h
    exact ⟨_, ev_idx_badNum1 _ hp, rfl⟩
  · cases h

/- slices.ContainsFunc[[]int,int] -/
def K_has_badNum1 : List AV → List Ob → Option (AV × List Ob)
  | [.lst (.int .i64) a, .clo 64 []], [] => gd (a.length < 4611686018427387904 ∧ True) (.bool (a.any badNum), [])
  | _, _ => none
@[reducible] def E_has_badNum1 : Env := mkE (tb [(85, K_idx_badNum1)]) (fun f => false) (fun r => ([], []))
theorem ev_has_badNum1 (a : List Int) (hp : a.length < 4611686018427387904 ∧ True) : evF E_has_badNum1 (1) Try.f63 [.lst (.int .i64) a, .clo 64 []] [] = some (.bool (a.any badNum), []) := by
  conv => lhs; whnf
  conv => lhs; arg 1; whnf
  refine bnd_g (by exact hp) ?_
  conv => lhs; whnf
  refine okB ?_
  exact firstI_iff badNum a 0 (by omega)
theorem ok_has_badNum1 : FnOk Try.prog 63 K_has_badNum1 := by
  refine fn_ok (fn := Try.f63) (k := Try.f63.ntmps) (E := E_has_badNum1) (facts_of (List.forall_mem_cons.2 ⟨ok_idx_badNum1, List.forall_mem_nil _⟩)) (by kernel_rfl) rfl (by decide +kernel) (by decide +kernel) ?_
  intro avs hin r h
  unfold K_has_badNum1 at h
  split at h
  · obtain ⟨hp, rfl⟩ := gd_o h
    exact ⟨_, ev_has_badNum1 _ hp, rfl⟩
  · cases h

/- impl.ArePoints$1 -/
def K_badPt1 : List AV → List Ob → Option (AV × List Ob)
  | [.lst (.int .i64) x, .vptr [.lst (.lst (.int .i64)) b] 0], [] => gd (1 ≤ b.length ∧ x.length ≤ 1048576) (.bool (badPt b x), [])
  | _, _ => none
@[reducible] def E_badPt1 : Env := mkE (tb [(63, K_has_badNum1)]) (fun f => false) (fun r => ([], []))
theorem ev_badPt1 (x : List Int) (b : List (List Int)) (hp : 1 ≤ b.length ∧ x.length ≤ 1048576) : evF E_badPt1 (1) Try.f62 [.lst (.int .i64) x, .vptr [.lst (.lst (.int .i64)) b] 0] [] = some (.bool (badPt b x), []) := by
  conv => lhs; whnf
  refine br_t (dt2 (by omega) (by change (0 : Int) < (b.length : Int); omega)) ?_
  conv => lhs; whnf
  refine br_c (fun h => ?_) (fun h => ?_)
  · have h' : decide (x.length ≠ (b.getD 0 []).length) = true := by
      refine dt fun e => ?_
      have h2 : ((x.length : Int) != ((b.getD 0 []).length : Int)) = true := h
      rw [e] at h2
      simp at h2
    conv => lhs; whnf
    repeat ((first | with_reducible apply br_tt | with_reducible apply br_ff | with_reducible apply br_nf | with_reducible apply br_nt | with_reducible refine br_d ?_ (by kernel_rfl) | with_reducible apply br_t h | with_reducible apply br_f h); conv => lhs; whnf)
    refine okB ?_
    unfold badPt
    rw [h']
    rfl
  · have h' : decide (x.length ≠ (b.getD 0 []).length) = false := by
      have h2 : ((x.length : Int) != ((b.getD 0 []).length : Int)) = false := h
      simp only [bne_eq_false_iff_eq] at h2
      refine df fun e => e (by omega)
    conv => lhs; whnf
    repeat ((first | with_reducible apply br_tt | with_reducible apply br_ff | with_reducible apply br_nf | with_reducible apply br_nt | with_reducible refine br_d ?_ (by kernel_rfl) | with_reducible apply br_t h | with_reducible apply br_f h); conv => lhs; whnf)
    refine br_c (fun h2 => ?_) (fun h2 => ?_)
    · conv => lhs; whnf
      repeat ((first | with_reducible apply br_tt | with_reducible apply br_ff | with_reducible apply br_nf | with_reducible apply br_nt | with_reducible refine br_d ?_ (by kernel_rfl) | with_reducible apply br_t h | with_reducible apply br_f h | with_reducible apply br_t h2 | with_reducible apply br_f h2); conv => lhs; whnf)
      refine okB ?_
      unfold badPt
      have := ofd h2
      rw [h', dt (by omega)]
      rfl
    · conv => lhs; whnf
      repeat ((first | with_reducible apply br_tt | with_reducible apply br_ff | with_reducible apply br_nf | with_reducible apply br_nt | with_reducible refine br_d ?_ (by kernel_rfl) | with_reducible apply br_t h | with_reducible apply br_f h | with_reducible apply br_t h2 | with_reducible apply br_f h2); conv => lhs; whnf)
      conv => lhs; arg 1; whnf
      refine bnd_g (by exact ⟨by omega, True.intro⟩) ?_
      conv => lhs; whnf
      repeat ((first | with_reducible apply br_tt | with_reducible apply br_ff | with_reducible apply br_nf | with_reducible apply br_nt | with_reducible refine br_d ?_ (by kernel_rfl) | with_reducible apply br_t h | with_reducible apply br_f h | with_reducible apply br_t h2 | with_reducible apply br_f h2); conv => lhs; whnf)
      refine okB ?_
      unfold badPt
      have := ofn h2
      rw [h', df (by omega)]
      rfl
theorem ok_badPt1 : FnOk Try.prog 62 K_badPt1 := by
  refine fn_ok (fn := Try.f62) (k := Try.f62.ntmps) (E := E_badPt1) (facts_of (List.forall_mem_cons.2 ⟨ok_has_badNum1, List.forall_mem_nil _⟩)) (by kernel_rfl) rfl (by decide +kernel) (by decide +kernel) ?_
  intro avs hin r h
  unfold K_badPt1 at h
  split at h
  · obtain ⟨hp, rfl⟩ := gd_o h
    exact ⟨_, ev_badPt1 _ _ hp, rfl⟩
  · cases h

/- slices.IndexFunc[[][]int,[]int] -/
def K_idx_badPt1 : List AV → List Ob → Option (AV × List Ob)
  | [.lst (.lst (.int .i64)) a, .clo 62 [.vptr [.lst (.lst (.int .i64)) b] 0]], [] => gd (a.length < 4611686018427387904 ∧ (1 ≤ b.length ∧ ∀ x ∈ a, x.length ≤ 1048576)) (.int .i64 (firstI (badPt b) a 0), [])
  | _, _ => none
@[reducible] def E_idx_badPt1 : Env := mkE (tb [(62, K_badPt1)]) (fun f => false) (fun r => bif r == 2 then ([0, 1, 7, 8], [4]) else ([], []))
theorem lp_idx_badPt1 (a : List (List Int)) (b : List (List Int)) (ht : 1 ≤ b.length ∧ ∀ x ∈ a, x.length ≤ 1048576) (ha : a.length < 4611686018427387904) (k : AX → S → Option (AV × List Ob)) (d : Nat) : ∀ (n i : Nat) (x : Int), a.length - i = d → i ≤ a.length → x = i → d < n →
    lpAt E_idx_badPt1 (lp E_idx_badPt1 0 n) 0 (loopAt Try.f84 0) (mkS [0, 1, 7, 8] [.lst (.lst (.int .i64)) a, .clo 62 [.vptr [.lst (.lst (.int .i64)) b] 0], .int .i64 a.length, .int .i64 x] []) k =
      if (a.drop i).any (badPt b) then k .ret (mkS [4] [.int .i64 (firstI (badPt b) (a.drop i) i)] []) else k (.exit 0) (mkS [4] [.any] []) := by
  induction d with
  | zero =>
    intro n i x hd hi hx hn
    subst hx
    rw [lpAt_def]
    conv => lhs; whnf
    refine br_f (df (by omega)) ?_
    conv => lhs; whnf
    rw [List.drop_of_length_le (by omega)]
    simp
  | succ d ih =>
    intro n i x hd hi hx hn
    obtain ⟨n, rfl⟩ : ∃ m, n = m + 1 := ⟨n - 1, by omega⟩
    subst hx
    rw [lpAt_def]
    conv => lhs; whnf
    refine br_t (dt (by omega)) ?_
    conv => lhs; whnf
    refine br_t (dt2 (by omega) (by omega)) ?_
    conv => lhs; whnf
    conv => lhs; arg 1; whnf
    refine bnd_g (by exact ⟨ht.1, ht.2 _ (mem_getD (by omega))⟩) ?_
    conv => lhs; whnf
    rw [getD_drop (l := a) (i := i) (d := []) (by omega)]
    refine br_c (fun h => ?_) (fun h => ?_)
    · have h' : (badPt b) (a.getD i []) = true := h
      conv => lhs; whnf
      rw [if_pos (by rw [List.any_cons, h', Bool.true_or])]
      rw [firstI, h', cond_true]
    · have h' : (badPt b) (a.getD i []) = false := h
      conv => lhs; whnf
      rw [ih n (i + 1) _ (by omega) (by omega) (by rw [wrap64 (by omega) (by omega)]; simp) (by omega)]
      rw [List.any_cons, h', Bool.false_or, firstI, h', cond_false]
      rfl
theorem ev_idx_badPt1 (a : List (List Int)) (b : List (List Int)) (hp : a.length < 4611686018427387904 ∧ (1 ≤ b.length ∧ ∀ x ∈ a, x.length ≤ 1048576)) : evF E_idx_badPt1 (a.length + 2) Try.f84 [.lst (.lst (.int .i64)) a, .clo 62 [.vptr [.lst (.lst (.int .i64)) b] 0]] [] = some (.int .i64 (firstI (badPt b) a 0), []) := by
  conv => lhs; whnf
  refine (lp_idx_badPt1 a b hp.2 hp.1 _ a.length _ 0 0 rfl (by omega) rfl (by omega)).trans ?_
  simp only [List.drop_zero]
  split
  · conv => lhs; whnf
    rfl
  · rename_i he
    conv => lhs; whnf
    have : firstI (badPt b) a 0 = -1 := firstI_none (badPt b) a 0 (by simpa using he)
    rw [this]
theorem ok_idx_badPt1 : FnOk Try.prog 84 K_idx_badPt1 := by
  refine fn_ok (fn := Try.f84) (k := Try.f84.ntmps) (E := E_idx_badPt1) (facts_of (List.forall_mem_cons.2 ⟨ok_badPt1, List.forall_mem_nil _⟩)) (by kernel_rfl) rfl (by decide +kernel) (by decide +kernel) ?_
  intro avs hin r h
  unfold K_idx_badPt1 at h
  split at h
  · obtain ⟨hp, rfl⟩ := gd_o h
    exact ⟨_, ev_idx_badPt1 _ _ hp, rfl⟩
  · cases h

/- slices.ContainsFunc[[][]int,[]int] -/
def K_has_badPt1 : List AV → List Ob → Option (AV × List Ob)
  | [.lst (.lst (.int .i64)) a, .clo 62 [.vptr [.lst (.lst (.int .i64)) b] 0]], [] => gd (a.length < 4611686018427387904 ∧ (1 ≤ b.length ∧ ∀ x ∈ a, x.length ≤ 1048576)) (.bool (a.any (badPt b)), [])
  | _, _ => none
@[reducible] def E_has_badPt1 : Env := mkE (tb [(84, K_idx_badPt1)]) (fun f => false) (fun r => ([], []))
theorem ev_has_badPt1 (a : List (List Int)) (b : List (List Int)) (hp : a.length < 4611686018427387904 ∧ (1 ≤ b.length ∧ ∀ x ∈ a, x.length ≤ 1048576)) : evF E_has_badPt1 (1) Try.f61 [.lst (.lst (.int .i64)) a, .clo 62 [.vptr [.lst (.lst (.int .i64)) b] 0]] [] = some (.bool (a.any (badPt b)), []) := by
  conv => lhs; whnf
  conv => lhs; arg 1; whnf
  refine bnd_g (by exact hp) ?_
  conv => lhs; whnf
  refine okB ?_
  exact firstI_iff (badPt b) a 0 (by omega)
theorem ok_has_badPt1 : FnOk Try.prog 61 K_has_badPt1 := by
  refine fn_ok (fn := Try.f61) (k := Try.f61.ntmps) (E := E_has_badPt1) (facts_of (List.forall_mem_cons.2 ⟨ok_idx_badPt1, List.forall_mem_nil _⟩)) (by kernel_rfl) rfl (by decide +kernel) (by decide +kernel) ?_
  intro avs hin r h
  unfold K_has_badPt1 at h
  split at h
  · obtain ⟨hp, rfl⟩ := gd_o h
    exact ⟨_, ev_has_badPt1 _ _ hp, rfl⟩
  · cases h

/- impl.ArePoints -/
def K_implArePoints : List AV → List Ob → Option (AV × List Ob)
  | [.lst (.lst (.int .i64)) a], [] => gd (a.length ≤ 1048576 ∧ ∀ x ∈ a, x.length ≤ 1048576) (.bool (arePts a), [])
  | _, _ => none
@[reducible] def E_implArePoints : Env := mkE (tb [(60, K_within), (61, K_has_badPt1)]) (fun f => false) (fun r => ([], []))
theorem ev_implArePoints (a : List (List Int)) (hp : a.length ≤ 1048576 ∧ ∀ x ∈ a, x.length ≤ 1048576) : evF E_implArePoints (1) Try.f34 [.lst (.lst (.int .i64)) a] [] = some (.bool (arePts a), []) := by
  conv => lhs; whnf
  conv => lhs; arg 1; whnf
  refine bnd_g (by exact True.intro) ?_
  conv => lhs; whnf
  refine br_c (fun h => ?_) (fun h => ?_)
  · have h' := ofnt h
    conv => lhs; whnf
    refine okB ?_
    unfold arePts
    rw [df (by omega), Bool.false_and]
  · have h' := ofnf h
    conv => lhs; whnf
    conv => lhs; arg 1; whnf
    refine bnd_g (by exact ⟨by omega, by omega, hp.2⟩) ?_
    conv => lhs; whnf
    refine okB ?_
    unfold arePts
    rw [any_badPt (by omega), Bool.not_not, show decide (1 ≤ a.length ∧ a.length ≤ 8) = true from dt (by omega), Bool.true_and]
theorem ok_implArePoints : FnOk Try.prog 34 K_implArePoints := by
  refine fn_ok (fn := Try.f34) (k := Try.f34.ntmps) (E := E_implArePoints) (facts_of (List.forall_mem_cons.2 ⟨ok_within, List.forall_mem_cons.2 ⟨ok_has_badPt1, List.forall_mem_nil _⟩⟩)) (by kernel_rfl) rfl (by decide +kernel) (by decide +kernel) ?_
  intro avs hin r h
  unfold K_implArePoints at h
  split at h
  · obtain ⟨hp, rfl⟩ := gd_o h
    exact ⟨_, ev_implArePoints _ hp, rfl⟩
  · cases h

/- impl.IsSet -/
def K_implIsSet : List AV → List Ob → Option (AV × List Ob)
  | [.int .i64 n, .int .i64 s], [] => gd (True) (.bool (isSet n s), [])
  | _, _ => none
@[reducible] def E_implIsSet : Env := mkE (tb [(60, K_within)]) (fun f => false) (fun r => ([], []))
theorem ev_implIsSet (n s : Int) (hp : True) : evF E_implIsSet (1) Try.f35 [.int .i64 n, .int .i64 s] [] = some (.bool (isSet n s), []) := by
  conv => lhs; whnf
  conv => lhs; arg 1; whnf
  refine bnd_g (by exact True.intro) ?_
  conv => lhs; whnf
  refine br_c (fun h => ?_) (fun h => ?_)
  · conv => lhs; whnf
    have h8 := ofd h
    repeat ((first | with_reducible apply br_tt | with_reducible apply br_ff | with_reducible apply br_nf | with_reducible apply br_nt | with_reducible refine br_d ?_ (by kernel_rfl) | with_reducible apply br_t h | with_reducible apply br_f h); conv => lhs; whnf)
    refine br_f (df (by omega)) ?_
    conv => lhs; whnf
    repeat ((first | with_reducible apply br_tt | with_reducible apply br_ff | with_reducible apply br_nf | with_reducible apply br_nt | with_reducible refine br_d ?_ (by kernel_rfl) | with_reducible apply br_t h | with_reducible apply br_f h); conv => lhs; whnf)
    conv => lhs; arg 1; whnf
    refine bnd_g (by exact True.intro) ?_
    conv => lhs; whnf
    repeat ((first | with_reducible apply br_tt | with_reducible apply br_ff | with_reducible apply br_nf | with_reducible apply br_nt | with_reducible refine br_d ?_ (by kernel_rfl) | with_reducible apply br_t h | with_reducible apply br_f h); conv => lhs; whnf)
    refine okB ?_
    unfold isSet
    refine decide_eq_decide.2 ?_
    rw [shl_set h8.1 h8.2]
    exact ⟨fun h => ⟨h8, h⟩, fun h => h.2⟩
  · conv => lhs; whnf
    repeat ((first | with_reducible apply br_tt | with_reducible apply br_ff | with_reducible apply br_nf | with_reducible apply br_nt | with_reducible refine br_d ?_ (by kernel_rfl) | with_reducible apply br_t h | with_reducible apply br_f h); conv => lhs; whnf)
    have h8 := ofn h
    simp [isSet, h8]
theorem ok_implIsSet : FnOk Try.prog 35 K_implIsSet := by
  refine fn_ok (fn := Try.f35) (k := Try.f35.ntmps) (E := E_implIsSet) (facts_of (List.forall_mem_cons.2 ⟨ok_within, List.forall_mem_nil _⟩)) (by kernel_rfl) rfl (by decide +kernel) (by decide +kernel) ?_
  intro avs hin r h
  unfold K_implIsSet at h
  split at h
  · obtain ⟨hp, rfl⟩ := gd_o h
    exact ⟨_, ev_implIsSet _ _ hp, rfl⟩
  · cases h

/- impl.isAnySet -/
def K_isAnySet : List AV → List Ob → Option (AV × List Ob)
  | [.int .i64 s], [] => gd (True) (.bool (isSet 8 s), [])
  | _, _ => none
@[reducible] def E_isAnySet : Env := mkE (tb [(35, K_implIsSet)]) (fun f => false) (fun r => ([], []))
theorem ev_isAnySet (s : Int) (hp : True) : evF E_isAnySet (1) Try.f86 [.int .i64 s] [] = some (.bool (isSet 8 s), []) := by
  conv => lhs; whnf
  conv => lhs; arg 1; whnf
  refine bnd_g (by exact True.intro) ?_
  conv => lhs; whnf
theorem ok_isAnySet : FnOk Try.prog 86 K_isAnySet := by
  refine fn_ok (fn := Try.f86) (k := Try.f86.ntmps) (E := E_isAnySet) (facts_of (List.forall_mem_cons.2 ⟨ok_implIsSet, List.forall_mem_nil _⟩)) (by kernel_rfl) rfl (by decide +kernel) (by decide +kernel) ?_
  intro avs hin r h
  unfold K_isAnySet at h
  split at h
  · obtain ⟨hp, rfl⟩ := gd_o h
    exact ⟨_, ev_isAnySet _ hp, rfl⟩
  · cases h

/- impl.HasElement -/
def K_hasElement : List AV → List Ob → Option (AV × List Ob)
  | [.int .i64 s, .int .i64 e], [] => gd (True) (.bool (hasE s e), [])
  | _, _ => none
@[reducible] def E_hasElement : Env := mkE (tb [(86, K_isAnySet), (60, K_within)]) (fun f => false) (fun r => ([], []))
theorem ev_hasElement (s e : Int) (hp : True) : evF E_hasElement (1) Try.f65 [.int .i64 s, .int .i64 e] [] = some (.bool (hasE s e), []) := by
  conv => lhs; whnf
  conv => lhs; arg 1; whnf
  refine bnd_g (by exact True.intro) ?_
  conv => lhs; whnf
  refine br_c (fun h => ?_) (fun h => ?_)
  · conv => lhs; whnf
    repeat ((first | with_reducible apply br_tt | with_reducible apply br_ff | with_reducible apply br_nf | with_reducible apply br_nt | with_reducible refine br_d ?_ (by kernel_rfl) | with_reducible apply br_t h | with_reducible apply br_f h); conv => lhs; whnf)
    conv => lhs; arg 1; whnf
    refine bnd_g (by exact True.intro) ?_
    conv => lhs; whnf
    repeat ((first | with_reducible apply br_tt | with_reducible apply br_ff | with_reducible apply br_nf | with_reducible apply br_nt | with_reducible refine br_d ?_ (by kernel_rfl) | with_reducible apply br_t h | with_reducible apply br_f h); conv => lhs; whnf)
    refine br_c (fun h2 => ?_) (fun h2 => ?_)
    · conv => lhs; whnf
      repeat ((first | with_reducible apply br_tt | with_reducible apply br_ff | with_reducible apply br_nf | with_reducible apply br_nt | with_reducible refine br_d ?_ (by kernel_rfl) | with_reducible apply br_t h | with_reducible apply br_f h | with_reducible apply br_t h2 | with_reducible apply br_f h2); conv => lhs; whnf)
      have h2' := ofd h2
      refine br_f (df (by omega)) ?_
      conv => lhs; whnf
      repeat ((first | with_reducible apply br_tt | with_reducible apply br_ff | with_reducible apply br_nf | with_reducible apply br_nt | with_reducible refine br_d ?_ (by kernel_rfl) | with_reducible apply br_t h | with_reducible apply br_f h | with_reducible apply br_t h2 | with_reducible apply br_f h2); conv => lhs; whnf)
      refine okB ?_
      have hs := isSet_le h
      unfold hasE
      rw [h, h2, Bool.true_and, Bool.true_and]
      exact bit_of (by omega) (by omega) (by omega) (by omega)
    · conv => lhs; whnf
      repeat ((first | with_reducible apply br_tt | with_reducible apply br_ff | with_reducible apply br_nf | with_reducible apply br_nt | with_reducible refine br_d ?_ (by kernel_rfl) | with_reducible apply br_t h | with_reducible apply br_f h | with_reducible apply br_t h2 | with_reducible apply br_f h2); conv => lhs; whnf)
      refine okB ?_
      unfold hasE
      rw [h, h2]
      rfl
  · conv => lhs; whnf
    repeat ((first | with_reducible apply br_tt | with_reducible apply br_ff | with_reducible apply br_nf | with_reducible apply br_nt | with_reducible refine br_d ?_ (by kernel_rfl) | with_reducible apply br_t h | with_reducible apply br_f h); conv => lhs; whnf)
    refine okB ?_
    unfold hasE
    rw [h]
    rfl
theorem ok_hasElement : FnOk Try.prog 65 K_hasElement := by
  refine fn_ok (fn := Try.f65) (k := Try.f65.ntmps) (E := E_hasElement) (facts_of (List.forall_mem_cons.2 ⟨ok_isAnySet, List.forall_mem_cons.2 ⟨ok_within, List.forall_mem_nil _⟩⟩)) (by kernel_rfl) rfl (by decide +kernel) (by decide +kernel) ?_
  intro avs hin r h
  unfold K_hasElement at h
  split at h
  · obtain ⟨hp, rfl⟩ := gd_o h
    exact ⟨_, ev_hasElement _ _ hp, rfl⟩
  · cases h

/- impl.ElementsOf -/
def K_elementsOf : List AV → List Ob → Option (AV × List Ob)
  | [.int .i64 s], [] => gd (True) (.own 0, [.row 3 (.int .i64) (elemsF s)])
  | _, _ => none
@[reducible] def E_elementsOf : Env := mkE (tb [(65, K_hasElement)]) (fun f => false) (fun r => bif r == 3 then ([0, 3, 6], [3]) else ([], []))
theorem lp_elementsOf (s : Int) (k : AX → S → Option (AV × List Ob)) (d : Nat) : ∀ (n i : Nat) (x : Int) (ys : List Int), 8 - i = d → i ≤ 8 → x = i → d < n → ys.length ≤ i →
    lpAt E_elementsOf (lp E_elementsOf 0 n) 0 (loopAt Try.f36 0) (mkS [0, 3, 6] [.int .i64 s, .own 0, .int .i64 x] [some (.row 3 (.int .i64) ys)]) k =
      k (.exit 0) (mkS [3] [.own 0] [some (.row 3 (.int .i64) (ys ++ elemsL s d i))]) := by
  induction d with
  | zero =>
    intro n i x ys hd hi hx hn hl
    subst hx
    rw [lpAt_def]
    conv => lhs; whnf
    refine br_f (df (by omega)) ?_
    conv => lhs; whnf
    rw [elemsL, List.append_nil]
  | succ d ih =>
    intro n i x ys hd hi hx hn hl
    obtain ⟨n, rfl⟩ : ∃ m, n = m + 1 := ⟨n - 1, by omega⟩
    subst hx
    rw [lpAt_def]
    conv => lhs; whnf
    refine br_t (dt (by omega)) ?_
    conv => lhs; whnf
    conv => lhs; arg 1; whnf
    refine bnd_g (by exact True.intro) ?_
    conv => lhs; whnf
    refine br_c (fun h => ?_) (fun h => ?_)
    · conv => lhs; whnf
      refine br_t (dt (by simp [room]; omega)) ?_
      conv => lhs; whnf
      rw [ih n (i + 1) _ _ (by omega) (by omega) (by rw [wrap64 (by omega) (by omega)]; simp) (by omega) (by simp; omega)]
      rw [elemsL, h, cond_true]
      simp
    · conv => lhs; whnf
      rw [ih n (i + 1) _ _ (by omega) (by omega) (by rw [wrap64 (by omega) (by omega)]; simp) (by omega) (by omega)]
      rw [elemsL, h, cond_false]
theorem ev_elementsOf (s : Int) (hp : True) : evF E_elementsOf (20) Try.f36 [.int .i64 s] [] = some (.own 0, [.row 3 (.int .i64) (elemsF s)]) := by
  conv => lhs; whnf
  refine (lp_elementsOf s _ 8 _ 0 0 _ rfl (by omega) rfl (by decide) (by simp)).trans ?_
  conv => lhs; whnf
  rfl
theorem ok_elementsOf : FnOk Try.prog 36 K_elementsOf := by
  refine fn_ok (fn := Try.f36) (k := Try.f36.ntmps) (E := E_elementsOf) (facts_of (List.forall_mem_cons.2 ⟨ok_hasElement, List.forall_mem_nil _⟩)) (by kernel_rfl) rfl (by decide +kernel) (by decide +kernel) ?_
  intro avs hin r h
  unfold K_elementsOf at h
  split at h
  · obtain ⟨hp, rfl⟩ := gd_o h
    exact ⟨_, ev_elementsOf _ hp, rfl⟩
  · cases h

/- slices.Clone[[]int,int] -/
def K_cloneInt : List AV → List Ob → Option (AV × List Ob)
  | [.lst (.int .i64) a], [] => gd (a.length ≤ 1048576) (.own 0, [.row 3 (.int .i64) a])
  | _, _ => none
@[reducible] def E_cloneInt : Env := mkE (tb []) (fun f => false) (fun r => ([], []))
theorem ev_cloneInt (a : List Int) (hp : a.length ≤ 1048576) : evF E_cloneInt (1) Try.f37 [.lst (.int .i64) a] [] = some (.own 0, [.row 3 (.int .i64) a]) := by
  conv => lhs; whnf
  refine br_c (fun h => ?_) (fun h => ?_)
  · conv => lhs; whnf
    refine br_f (by rfl) ?_
    conv => lhs; whnf
    refine br_t (dt (by simp [room]; omega)) ?_
    conv => lhs; whnf
    simp
  · have h0 : a = [] := by
      have := ofn h
      cases a
      · rfl
      · simp at this
    subst h0
    conv => lhs; whnf
    refine both_i ?_ ?_
    · conv => lhs; whnf
    · conv => lhs; whnf
      refine br_t (dt (by simp [room])) ?_
      conv => lhs; whnf
      rfl
theorem ok_cloneInt : FnOk Try.prog 37 K_cloneInt := by
  refine fn_ok (fn := Try.f37) (k := Try.f37.ntmps) (E := E_cloneInt) (facts_of (List.forall_mem_nil _)) (by kernel_rfl) rfl (by decide +kernel) (by decide +kernel) ?_
  intro avs hin r h
  unfold K_cloneInt at h
  split at h
  · obtain ⟨hp, rfl⟩ := gd_o h
    exact ⟨_, ev_cloneInt _ hp, rfl⟩
  · cases h

/- impl.HullOf -/
def K_implHullOf : List AV → List Ob → Option (AV × List Ob)
  | [.lst (.lst (.int .i64)) a, .int .i64 s], [] => gd (a.length ≤ 1048576 ∧ ∀ x ∈ a, x.length ≤ 1048576) (.tup [.agg [.own 0, .own 1], .bool (hullF a s).2.2], [.row 3 (.int .i64) (hullF a s).1, .row 3 (.int .i64) (hullF a s).2.1])
  | _, _ => none
@[reducible] def E_implHullOf : Env := mkE (tb [(34, K_implArePoints), (35, K_implIsSet), (36, K_elementsOf), (37, K_cloneInt)]) (fun f => false) (fun r => bif r == 6 then ([0, 4, 7, 44, 45, 46], [0, 4, 7, 44, 45, 46]) else bif r == 9 then ([0, 4, 7, 44, 45, 46, 53, 54, 55], [0, 4, 7, 44, 45, 46]) else ([], []))
theorem lq_implHullOf (a : List (List Int)) (l : List Int) (y : List Int) (h3 : y.length ≤ 3) (M E : Int) (k : AX → S → Option (AV × List Ob)) (d : Nat) : ∀ (n i : Nat) (x : Int) (lo hi : List Int), y.length - i = d → i ≤ y.length → x = i → d < n → lo.length = y.length → hi.length = y.length →
    lpAt E_implHullOf (lp E_implHullOf 0 n) 0 (loopAt Try.f9 1) (mkS [0, 4, 7, 44, 45, 46, 53, 54, 55] [.lst (.lst (.int .i64)) a, .ptr 0 0, .ptr 3 0, .own 6, .int .i64 M, .int .i64 E, .lst (.int .i64) y, .int .i64 y.length, .int .i64 x] [some (.box 26 [.own 1, .own 2]), some (.row 3 (.int .i64) []), some (.row 3 (.int .i64) []), some (.box 26 [.own 4, .own 5]), some (.row 3 (.int .i64) lo), some (.row 3 (.int .i64) hi), some (.row 3 (.int .i64) l)]) k =
      k (.exit 2) (mkS [0, 4, 7, 44, 45, 46] [.lst (.lst (.int .i64)) a, .ptr 0 0, .ptr 3 0, .own 6, .int .i64 M, .int .i64 E] [some (.box 26 [.own 1, .own 2]), some (.row 3 (.int .i64) []), some (.row 3 (.int .i64) []), some (.box 26 [.own 4, .own 5]), some (.row 3 (.int .i64) (lo.take i ++ List.zipWith min (lo.drop i) (y.drop i))), some (.row 3 (.int .i64) (hi.take i ++ List.zipWith max (hi.drop i) (y.drop i))), some (.row 3 (.int .i64) l)]) := by
  induction d with
  | zero =>
    intro n i x lo hi hd hi' hx hn hlo hhi
    subst hx
    rw [lpAt_def]
    conv => lhs; whnf
    refine br_f (df (by omega)) ?_
    conv => lhs; whnf
    rw [List.take_of_length_le (by omega), List.take_of_length_le (by omega), List.drop_of_length_le (by omega), List.drop_of_length_le (by omega)]
    simp
  | succ d ih =>
    intro n i x lo hi hd hi' hx hn hlo hhi
    obtain ⟨n, rfl⟩ : ∃ m, n = m + 1 := ⟨n - 1, by omega⟩
    subst hx
    rw [lpAt_def]
    conv => lhs; whnf
    refine br_t (dt (by omega)) ?_
    conv => lhs; whnf
    refine br_t (dt2 (by omega) (by omega)) ?_
    conv => lhs; whnf
    refine br_t (dt2 (by omega) (by omega)) ?_
    conv => lhs; whnf
    refine br_t (dt (by change i < lo.length; omega)) ?_
    conv => lhs; whnf
    refine br_t (dt2 (by omega) (by omega)) ?_
    conv => lhs; whnf
    refine br_t (dt (by change i < hi.length; omega)) ?_
    conv => lhs; whnf
    refine br_t (dt2 (by omega) (by omega)) ?_
    conv => lhs; whnf
    refine br_t (dt (by change i < lo.length; omega)) ?_
    conv => lhs; whnf
    refine br_t (dt2 (by omega) (by omega)) ?_
    conv => lhs; whnf
    refine br_t (dt (by change i < hi.length; omega)) ?_
    conv => lhs; whnf
    refine br_t (by kernel_rfl) ?_
    conv => lhs; whnf
    refine (ih n (i + 1) (IntKind.i64.wrap ((i : Int) + 1)) _ _ (by omega) (by omega) (by rw [wrap64 (n := (i : Int) + 1) (by omega) (by omega)]; simp) (by omega) (by simp [hlo]) (by simp [hhi])).trans ?_
    have e1 := zip_set (f := min) (l := lo) (y := y) (i := i) hlo (by omega)
    have e2 := zip_set (f := max) (l := hi) (y := y) (i := i) hhi (by omega)
    rw [← e1, ← e2]
    rfl
theorem lp_implHullOf (a : List (List Int)) (h8 : a.length ≤ 8) (w : Nat) (hw : ∀ x ∈ a, x.length = w) (h3 : w ≤ 3) (l : List Int) (hl : l.length ≤ 8) (hm : ∀ x ∈ l, 0 ≤ x ∧ x < a.length ∧ x ≤ 7) (M : Int) (hM : M = l.length) (k : AX → S → Option (AV × List Ob)) (d : Nat) : ∀ (n i : Nat) (x : Int) (lo hi : List Int), l.length - i = d → i ≤ l.length → x = i → d + 10 < n → lo.length = w → hi.length = w →
    lpAt E_implHullOf (lp E_implHullOf 0 n) 0 (loopAt Try.f9 0) (mkS [0, 4, 7, 44, 45, 46] [.lst (.lst (.int .i64)) a, .ptr 0 0, .ptr 3 0, .own 6, .int .i64 M, .int .i64 x] [some (.box 26 [.own 1, .own 2]), some (.row 3 (.int .i64) []), some (.row 3 (.int .i64) []), some (.box 26 [.own 4, .own 5]), some (.row 3 (.int .i64) lo), some (.row 3 (.int .i64) hi), some (.row 3 (.int .i64) l)]) k =
      k (.exit 0) (mkS [0, 4, 7, 44, 45, 46] [.lst (.lst (.int .i64)) a, .ptr 0 0, .ptr 3 0, .own 6, .int .i64 M, .int .i64 (l.length : Int)] [some (.box 26 [.own 1, .own 2]), some (.row 3 (.int .i64) []), some (.row 3 (.int .i64) []), some (.box 26 [.own 4, .own 5]), some (.row 3 (.int .i64) (hullG min a (l.drop i) lo)), some (.row 3 (.int .i64) (hullG max a (l.drop i) hi)), some (.row 3 (.int .i64) l)]) := by
  subst hM
  induction d with
  | zero =>
    intro n i x lo hi hd hi' hx hn hlo hhi
    subst hx
    rw [lpAt_def]
    conv => lhs; whnf
    refine br_f (df (by omega)) ?_
    conv => lhs; whnf
    have : i = l.length := by omega
    rw [List.drop_of_length_le (by omega), this]
    rfl
  | succ d ih =>
    intro n i x lo hi hd hi' hx hn hlo hhi
    obtain ⟨n, rfl⟩ : ∃ m, n = m + 1 := ⟨n - 1, by omega⟩
    subst hx
    have hg := hm _ (mem_getD (d := 0) (show i < l.length by omega))
    have hwi := hw _ (mem_getD (d := []) (show (l.getD i 0).toNat < a.length by omega))
    rw [lpAt_def]
    conv => lhs; whnf
    refine br_t (dt (by omega)) ?_
    conv => lhs; whnf
    refine br_t (dt2 (by omega) (by omega)) ?_
    conv => lhs; whnf
    refine br_t (dt (by change i < l.length; omega)) ?_
    conv => lhs; whnf
    refine br_t (dt2 (by change 0 ≤ l.getD i 0; omega) (by change l.getD i 0 < a.length; omega)) ?_
    conv => lhs; whnf
    refine (lq_implHullOf a l (a.getD (l.getD i 0).toNat []) (by omega) _ _ _ (a.getD (l.getD i 0).toNat []).length _ 0 0 _ _ rfl (by omega) rfl (by omega) (by omega) (by omega)).trans ?_
    have q1 : (lo.take 0 ++ List.zipWith min (lo.drop 0) ((a.getD (l.getD i 0).toNat []).drop 0)).length = w := by rw [List.take_zero, List.drop_zero, List.drop_zero, List.nil_append, List.length_zipWith]; omega
    have q2 : (hi.take 0 ++ List.zipWith max (hi.drop 0) ((a.getD (l.getD i 0).toNat []).drop 0)).length = w := by rw [List.take_zero, List.drop_zero, List.drop_zero, List.nil_append, List.length_zipWith]; omega
    conv => lhs; whnf
    refine (ih n (i + 1) (IntKind.i64.wrap ((i : Int) + 1)) _ _ (by omega) (by omega) (by rw [wrap64 (n := (i : Int) + 1) (by omega) (by omega)]; simp) (by omega) q1 q2).trans ?_
    have e1 : hullStep min a lo (l.getD i 0) = lo.take 0 ++ List.zipWith min (lo.drop 0) ((a.getD (l.getD i 0).toNat []).drop 0) := mixL_zip min (by omega)
    have e2 : hullStep max a hi (l.getD i 0) = hi.take 0 ++ List.zipWith max (hi.drop 0) ((a.getD (l.getD i 0).toNat []).drop 0) := mixL_zip max (by omega)
    rw [getD_drop (l := l) (i := i) (d := 0) (by omega), ← e1, ← e2]
    rfl
theorem ev_implHullOf (a : List (List Int)) (s : Int) (hp : a.length ≤ 1048576 ∧ ∀ x ∈ a, x.length ≤ 1048576) : evF E_implHullOf (100) Try.f9 [.lst (.lst (.int .i64)) a, .int .i64 s] [] = some (.tup [.agg [.own 0, .own 1], .bool (hullF a s).2.2], [.row 3 (.int .i64) (hullF a s).1, .row 3 (.int .i64) (hullF a s).2.1]) := by
  conv => lhs; whnf
  conv => lhs; arg 1; whnf
  refine bnd_g (by exact hp) ?_
  conv => lhs; whnf
  refine br_c (fun h => ?_) (fun h => ?_)
  · have hf : hullF a s = ([], [], false) := by unfold hullF; rw [bnt h]; rfl
    rw [hf]
    conv => lhs; whnf
    repeat ((first | with_reducible apply br_tt | with_reducible apply br_ff | with_reducible apply br_nf | with_reducible apply br_nt | with_reducible refine br_d ?_ (by kernel_rfl) | with_reducible apply br_t h | with_reducible apply br_f h); conv => lhs; whnf)
  · conv => lhs; whnf
    repeat ((first | with_reducible apply br_tt | with_reducible apply br_ff | with_reducible apply br_nf | with_reducible apply br_nt | with_reducible refine br_d ?_ (by kernel_rfl) | with_reducible apply br_t h | with_reducible apply br_f h); conv => lhs; whnf)
    refine br_c (fun h2 => ?_) (fun h2 => ?_)
    · have hf : hullF a s = ([], [], false) := by unfold hullF; rw [bnf h, h2]; rfl
      rw [hf]
      conv => lhs; whnf
      repeat ((first | with_reducible apply br_tt | with_reducible apply br_ff | with_reducible apply br_nf | with_reducible apply br_nt | with_reducible refine br_d ?_ (by kernel_rfl) | with_reducible apply br_t h | with_reducible apply br_f h | with_reducible apply br_t h2 | with_reducible apply br_f h2); conv => lhs; whnf)
    · conv => lhs; whnf
      repeat ((first | with_reducible apply br_tt | with_reducible apply br_ff | with_reducible apply br_nf | with_reducible apply br_nt | with_reducible refine br_d ?_ (by kernel_rfl) | with_reducible apply br_t h | with_reducible apply br_f h | with_reducible apply br_t h2 | with_reducible apply br_f h2); conv => lhs; whnf)
      conv => lhs; arg 1; whnf
      refine bnd_g (by exact True.intro) ?_
      conv => lhs; whnf
      repeat ((first | with_reducible apply br_tt | with_reducible apply br_ff | with_reducible apply br_nf | with_reducible apply br_nt | with_reducible refine br_d ?_ (by kernel_rfl) | with_reducible apply br_t h | with_reducible apply br_f h | with_reducible apply br_t h2 | with_reducible apply br_f h2); conv => lhs; whnf)
      refine br_c (fun h3 => ?_) (fun h3 => ?_)
      · have hf : hullF a s = ([], [], false) := by unfold hullF; rw [bnf h, h2, bnt h3]; rfl
        rw [hf]
        conv => lhs; whnf
        repeat ((first | with_reducible apply br_tt | with_reducible apply br_ff | with_reducible apply br_nf | with_reducible apply br_nt | with_reducible refine br_d ?_ (by kernel_rfl) | with_reducible apply br_t h | with_reducible apply br_f h | with_reducible apply br_t h2 | with_reducible apply br_f h2 | with_reducible apply br_t h3 | with_reducible apply br_f h3); conv => lhs; whnf)
      · have hf : hullF a s = (hullL min a s, hullL max a s, true) := by unfold hullF; rw [bnf h, h2, bnf h3]; rfl
        have hs0 : s ≠ 0 := beq_eq_false_iff_ne.1 h2
        have hp' := arePts_parts (bnf h)
        have hA := bnf h
        have hE := elems_first hp'.1.2 (bnf h3) hs0
        rw [hf]
        have hlen : 0 < (elemsF s).length := by
          obtain ⟨g, l, he, _⟩ := hE
          rw [he]
          exact Nat.succ_pos _
        have hm : ∀ x ∈ elemsF s, 0 ≤ x ∧ x < (a.length : Int) ∧ x ≤ 7 := by
          obtain ⟨_, _, _, h⟩ := hE
          exact h
        have hg := hm _ (mem_getD (d := 0) hlen)
        have hwi := hp'.2.2 _ (mem_getD (d := []) (show ((elemsF s).getD 0 0).toNat < a.length by omega))
        have hw3 := hp'.2.1
        have hl8 : (elemsF s).length ≤ 8 := elemsL_length s 8 0
        conv => lhs; whnf
        repeat ((first | with_reducible apply br_tt | with_reducible apply br_ff | with_reducible apply br_nf | with_reducible apply br_nt | with_reducible refine br_d ?_ (by kernel_rfl) | with_reducible apply br_t h | with_reducible apply br_f h | with_reducible apply br_t h2 | with_reducible apply br_f h2 | with_reducible apply br_t h3 | with_reducible apply br_f h3); conv => lhs; whnf)
        conv => lhs; arg 1; whnf
        refine bnd_g (by exact True.intro) ?_
        conv => lhs; whnf
        refine br_t (dt2 (by omega) (by omega)) ?_
        conv => lhs; whnf
        refine br_t (dt (by omega)) ?_
        conv => lhs; whnf
        refine br_t (dt2 (by change 0 ≤ (elemsF s).getD 0 0; omega) (by change (elemsF s).getD 0 0 < a.length; omega)) ?_
        conv => lhs; whnf
        conv => lhs; arg 1; whnf
        refine bnd_g (by (change (a.getD ((elemsF s).getD 0 0).toNat []).length ≤ 1048576; omega)) ?_
        conv => lhs; whnf
        refine br_t (dt2 (by omega) (by omega)) ?_
        conv => lhs; whnf
        refine br_t (dt (by omega)) ?_
        conv => lhs; whnf
        refine br_t (dt2 (by change 0 ≤ (elemsF s).getD 0 0; omega) (by change (elemsF s).getD 0 0 < a.length; omega)) ?_
        conv => lhs; whnf
        conv => lhs; arg 1; whnf
        refine bnd_g (by (change (a.getD ((elemsF s).getD 0 0).toNat []).length ≤ 1048576; omega)) ?_
        conv => lhs; whnf
        refine br_t (by kernel_rfl) ?_
        conv => lhs; whnf
        refine (lp_implHullOf a hp'.1.2 _ hp'.2.2 hp'.2.1 (elemsF s) hl8 hm _ rfl _ (elemsF s).length _ 0 0 (a.getD ((elemsF s).getD 0 0).toNat []) (a.getD ((elemsF s).getD 0 0).toNat []) rfl (by omega) rfl (by change _ < 99; omega) hwi hwi).trans ?_
        conv => lhs; whnf
        have e : ∀ f : Int → Int → Int, (∀ n, f n n = n) → hullG f a ((elemsF s).drop 0) (a.getD ((elemsF s).getD 0 0).toNat []) = hullL f a s := by
          intro f hf
          obtain ⟨g, l, he, _⟩ := hE
          unfold hullL
          rw [he]
          exact hull_first f hf a
        rw [e min (fun n => by omega), e max (fun n => by omega)]
theorem ok_implHullOf : FnOk Try.prog 9 K_implHullOf := by
  refine fn_ok (fn := Try.f9) (k := Try.f9.ntmps) (E := E_implHullOf) (facts_of (List.forall_mem_cons.2 ⟨ok_implArePoints, List.forall_mem_cons.2 ⟨ok_implIsSet, List.forall_mem_cons.2 ⟨ok_elementsOf, List.forall_mem_cons.2 ⟨ok_cloneInt, List.forall_mem_nil _⟩⟩⟩⟩)) (by kernel_rfl) rfl (by decide +kernel) (by decide +kernel) ?_
  intro avs hin r h
  unfold K_implHullOf at h
  split at h
  · obtain ⟨hp, rfl⟩ := gd_o h
    exact ⟨_, ev_implHullOf _ _ hp, rfl⟩
  · cases h

/- impl.FittingPoints$1 -/
def K_fit1 : List AV → List Ob → Option (AV × List Ob)
  | [.int .i64 g, .vptr [.lst (.lst (.int .i64)) a] 0, .vptr [.lst (.int .i64) lo, .lst (.int .i64) hi] 0], [] => gd ((0 ≤ g ∧ g < a.length) ∧ (∀ x ∈ a, x.length = (a.getD 0 []).length) ∧ (lo.length = (a.getD 0 []).length ∧ hi.length = (a.getD 0 []).length ∧ (a.getD 0 []).length ≤ 3)) (.bool (fitP a lo hi g), [])
  | _, _ => none
@[reducible] def E_fit1 : Env := mkE (tb [(60, K_within)]) (fun f => false) (fun r => bif r == 2 then ([2, 10, 11, 12], [4]) else ([], []))
theorem lp_fit1 (y lo hi : List Int) (hl : lo.length = y.length) (hh : hi.length = y.length) (hy : y.length ≤ 1048576) (k : AX → S → Option (AV × List Ob)) (d : Nat) : ∀ (n i : Nat) (x : Int), y.length - i = d → i ≤ y.length → x = i → d < n →
    lpAt E_fit1 (lp E_fit1 0 n) 0 (loopAt Try.f67 0) (mkS [2, 10, 11, 12] [.vptr [.lst (.int .i64) lo, .lst (.int .i64) hi] 0, .lst (.int .i64) y, .int .i64 y.length, .int .i64 x] []) k =
      if allB (fitAt y lo hi) d i then k (.exit 0) (mkS [4] [.any] []) else k .ret (mkS [4] [.bool false] []) := by
  induction d with
  | zero =>
    intro n i x hd hi' hx hn
    subst hx
    rw [lpAt_def]
    conv => lhs; whnf
    refine br_f (df (by omega)) ?_
    conv => lhs; whnf
    rfl
  | succ d ih =>
    intro n i x hd hi' hx hn
    obtain ⟨n, rfl⟩ : ∃ m, n = m + 1 := ⟨n - 1, by omega⟩
    subst hx
    rw [lpAt_def]
    conv => lhs; whnf
    refine br_t (dt (by omega)) ?_
    conv => lhs; whnf
    refine br_t (dt2 (by omega) (by omega)) ?_
    conv => lhs; whnf
    refine br_t (dt2 (by omega) (by omega)) ?_
    conv => lhs; whnf
    refine br_t (dt2 (by omega) (by omega)) ?_
    conv => lhs; whnf
    conv => lhs; arg 1; whnf
    refine bnd_g (by exact True.intro) ?_
    conv => lhs; whnf
    refine br_t (by kernel_rfl) ?_
    conv => lhs; whnf
    refine br_c (fun h => ?_) (fun h => ?_)
    · have h' : fitAt y lo hi i = false := bnt h
      conv => lhs; whnf
      rw [if_neg (by rw [allB, h']; exact Bool.false_ne_true)]
    · have h' : fitAt y lo hi i = true := bnf h
      conv => lhs; whnf
      rw [ih n (i + 1) _ (by omega) (by omega) (by rw [wrap64 (by omega) (by omega)]; simp) (by omega)]
      rw [allB, h', Bool.true_and]
theorem ev_fit1 (g : Int) (a : List (List Int)) (lo hi : List Int) (hp : (0 ≤ g ∧ g < a.length) ∧ (∀ x ∈ a, x.length = (a.getD 0 []).length) ∧ (lo.length = (a.getD 0 []).length ∧ hi.length = (a.getD 0 []).length ∧ (a.getD 0 []).length ≤ 3)) : evF E_fit1 (20) Try.f67 [.int .i64 g, .vptr [.lst (.lst (.int .i64)) a] 0, .vptr [.lst (.int .i64) lo, .lst (.int .i64) hi] 0] [] = some (.bool (fitP a lo hi g), []) := by
  obtain ⟨⟨h0, h1⟩, h2, h3, h4, h5⟩ := hp
  have hm := h2 (a.getD g.toNat []) (mem_getD (by omega))
  conv => lhs; whnf
  refine br_t (dt2 h0 h1) ?_
  conv => lhs; whnf
  refine (lp_fit1 (a.getD g.toNat []) lo hi (by omega) (by omega) (by omega) _ (a.getD g.toNat []).length _ 0 0 rfl (by omega) rfl (by change _ < 19; omega)).trans ?_
  split
  · rename_i h
    conv => lhs; whnf
    exact okB h.symm
  · rename_i h
    conv => lhs; whnf
    rw [Bool.not_eq_true] at h
    exact okB h.symm
theorem ok_fit1 : FnOk Try.prog 67 K_fit1 := by
  refine fn_ok (fn := Try.f67) (k := Try.f67.ntmps) (E := E_fit1) (facts_of (List.forall_mem_cons.2 ⟨ok_within, List.forall_mem_nil _⟩)) (by kernel_rfl) rfl (by decide +kernel) (by decide +kernel) ?_
  intro avs hin r h
  unfold K_fit1 at h
  split at h
  · obtain ⟨hp, rfl⟩ := gd_o h
    exact ⟨_, ev_fit1 _ _ _ _ hp, rfl⟩
  · cases h

/- impl.accepted -/
def K_acc_fit1 : List AV → List Ob → Option (AV × List Ob)
  | [.int .i64 N, .clo 67 [.vptr [.lst (.lst (.int .i64)) a] 0, .vptr [.lst (.int .i64) lo, .lst (.int .i64) hi] 0]], [] => gd ((0 ≤ N ∧ N ≤ 8) ∧ N = (a.length : Int) ∧ (∀ x ∈ a, x.length = (a.getD 0 []).length) ∧ (lo.length = (a.getD 0 []).length ∧ hi.length = (a.getD 0 []).length ∧ (a.getD 0 []).length ≤ 3)) (.int .i64 (orF (fitP a lo hi) N.toNat 0 0), [])
  | _, _ => none
@[reducible] def E_acc_fit1 : Env := mkE (tb [(67, K_fit1)]) (fun f => false) (fun r => bif r == 3 then ([1, 5, 7, 8], [5]) else ([], []))
theorem lp_acc_fit1 (N : Nat) (a : List (List Int)) (lo hi : List Int) (ht : N = a.length ∧ (∀ x ∈ a, x.length = (a.getD 0 []).length) ∧ (lo.length = (a.getD 0 []).length ∧ hi.length = (a.getD 0 []).length ∧ (a.getD 0 []).length ≤ 3)) (hN : N ≤ 8) (k : AX → S → Option (AV × List Ob)) (d : Nat) : ∀ (n i : Nat) (x q : Int), N - i = d → i ≤ N → x = i → d < n →
    lpAt E_acc_fit1 (lp E_acc_fit1 0 n) 0 (loopAt Try.f66 0) (mkS [1, 5, 7, 8] [.clo 67 [.vptr [.lst (.lst (.int .i64)) a] 0, .vptr [.lst (.int .i64) lo, .lst (.int .i64) hi] 0], .int .i64 q, .int .i64 N, .int .i64 x] []) k =
      k (.exit 0) (mkS [5] [.int .i64 (orF (fitP a lo hi) d i q)] []) := by
  induction d with
  | zero =>
    intro n i x q hd hI hx hn
    subst hx
    rw [lpAt_def]
    conv => lhs; whnf
    refine br_f (df (by omega)) ?_
    conv => lhs; whnf
    rfl
  | succ d ih =>
    intro n i x q hd hI hx hn
    obtain ⟨n, rfl⟩ : ∃ m, n = m + 1 := ⟨n - 1, by omega⟩
    subst hx
    rw [lpAt_def]
    conv => lhs; whnf
    refine br_t (dt (by omega)) ?_
    conv => lhs; whnf
    conv => lhs; arg 1; whnf
    refine bnd_g (by exact ⟨⟨by omega, by omega⟩, ht.2⟩) ?_
    conv => lhs; whnf
    refine br_c (fun h => ?_) (fun h => ?_)
    · have h' : (fitP a lo hi) (i : Int) = true := h
      conv => lhs; whnf
      refine br_f (df (by omega)) ?_
      conv => lhs; whnf
      rw [shl1 (by omega)]
      rw [ih n (i + 1) _ _ (by omega) (by omega) (by rw [wrap64 (by omega) (by omega)]; simp) (by omega)]
      rw [orF, h', cond_true]
      rfl
    · have h' : (fitP a lo hi) (i : Int) = false := h
      conv => lhs; whnf
      rw [ih n (i + 1) _ _ (by omega) (by omega) (by rw [wrap64 (by omega) (by omega)]; simp) (by omega)]
      rw [orF, h', cond_false]
theorem ev_acc_fit1 (N : Int) (a : List (List Int)) (lo hi : List Int) (hp : (0 ≤ N ∧ N ≤ 8) ∧ N = (a.length : Int) ∧ (∀ x ∈ a, x.length = (a.getD 0 []).length) ∧ (lo.length = (a.getD 0 []).length ∧ hi.length = (a.getD 0 []).length ∧ (a.getD 0 []).length ≤ 3)) : evF E_acc_fit1 (20) Try.f66 [.int .i64 N, .clo 67 [.vptr [.lst (.lst (.int .i64)) a] 0, .vptr [.lst (.int .i64) lo, .lst (.int .i64) hi] 0]] [] = some (.int .i64 (orF (fitP a lo hi) N.toNat 0 0), []) := by
  obtain ⟨M, rfl⟩ : ∃ M : Nat, N = M := ⟨N.toNat, by omega⟩
  rw [Int.toNat_natCast]
  conv => lhs; whnf
  refine (lp_acc_fit1 M a lo hi ⟨by omega, hp.2.2⟩ (by omega) _ M _ 0 0 _ rfl (by omega) rfl (by change M < 19; omega)).trans ?_
  conv => lhs; whnf
theorem ok_acc_fit1 : FnOk Try.prog 66 K_acc_fit1 := by
  refine fn_ok (fn := Try.f66) (k := Try.f66.ntmps) (E := E_acc_fit1) (facts_of (List.forall_mem_cons.2 ⟨ok_fit1, List.forall_mem_nil _⟩)) (by kernel_rfl) rfl (by decide +kernel) (by decide +kernel) ?_
  intro avs hin r h
  unfold K_acc_fit1 at h
  split at h
  · obtain ⟨hp, rfl⟩ := gd_o h
    exact ⟨_, ev_acc_fit1 _ _ _ _ hp, rfl⟩
  · cases h

/- impl.FittingPoints -/
def K_implFittingPoints : List AV → List Ob → Option (AV × List Ob)
  | [.lst (.lst (.int .i64)) a, .agg [.lst (.int .i64) lo, .lst (.int .i64) hi]], [] => gd ((a.length ≤ 1048576 ∧ ∀ x ∈ a, x.length ≤ 1048576) ∧ (lo.length ≤ 1048576 ∧ hi.length ≤ 1048576)) (.int .i64 (fitF a lo hi), [])
  | _, _ => none
@[reducible] def E_implFittingPoints : Env := mkE (tb [(34, K_implArePoints), (66, K_acc_fit1)]) (fun f => false) (fun r => ([], []))
theorem ev_implFittingPoints (a : List (List Int)) (lo hi : List Int) (hp : (a.length ≤ 1048576 ∧ ∀ x ∈ a, x.length ≤ 1048576) ∧ (lo.length ≤ 1048576 ∧ hi.length ≤ 1048576)) : evF E_implFittingPoints (1) Try.f40 [.lst (.lst (.int .i64)) a, .agg [.lst (.int .i64) lo, .lst (.int .i64) hi]] [] = some (.int .i64 (fitF a lo hi), []) := by
  conv => lhs; whnf
  conv => lhs; arg 1; whnf
  refine bnd_g (by exact hp.1) ?_
  conv => lhs; whnf
  refine br_c (fun h => ?_) (fun h => ?_)
  · conv => lhs; whnf
    repeat ((first | with_reducible apply br_tt | with_reducible apply br_ff | with_reducible apply br_nf | with_reducible apply br_nt | with_reducible refine br_d ?_ (by kernel_rfl) | with_reducible apply br_t h | with_reducible apply br_f h); conv => lhs; whnf)
    refine okI ?_
    unfold fitF
    rw [bnt h]
    rfl
  · have hA := arePts_parts (bnf h)
    conv => lhs; whnf
    repeat ((first | with_reducible apply br_tt | with_reducible apply br_ff | with_reducible apply br_nf | with_reducible apply br_nt | with_reducible refine br_d ?_ (by kernel_rfl) | with_reducible apply br_t h | with_reducible apply br_f h); conv => lhs; whnf)
    refine br_t (dt2 (by omega) (by change (0 : Int) < (a.length : Int); omega)) ?_
    conv => lhs; whnf
    repeat ((first | with_reducible apply br_tt | with_reducible apply br_ff | with_reducible apply br_nf | with_reducible apply br_nt | with_reducible refine br_d ?_ (by kernel_rfl) | with_reducible apply br_t h | with_reducible apply br_f h); conv => lhs; whnf)
    refine br_c (fun h2 => ?_) (fun h2 => ?_)
    · have h' : decide (lo.length = (a.getD 0 []).length) = false := by
        refine df fun e => ?_
        have h2 : ((lo.length : Int) != ((a.getD 0 []).length : Int)) = true := h2
        rw [e] at h2
        simp at h2
      conv => lhs; whnf
      repeat ((first | with_reducible apply br_tt | with_reducible apply br_ff | with_reducible apply br_nf | with_reducible apply br_nt | with_reducible refine br_d ?_ (by kernel_rfl) | with_reducible apply br_t h2 | with_reducible apply br_f h2); conv => lhs; whnf)
      refine okI ?_
      unfold fitF
      rw [h', Bool.and_false, Bool.false_and]
      rfl
    · have h' : lo.length = (a.getD 0 []).length := by
        have h2 : ((lo.length : Int) != ((a.getD 0 []).length : Int)) = false := h2
        simp only [bne_eq_false_iff_eq] at h2
        omega
      conv => lhs; whnf
      repeat ((first | with_reducible apply br_tt | with_reducible apply br_ff | with_reducible apply br_nf | with_reducible apply br_nt | with_reducible refine br_d ?_ (by kernel_rfl) | with_reducible apply br_t h2 | with_reducible apply br_f h2); conv => lhs; whnf)
      refine br_t (dt2 (by omega) (by change (0 : Int) < (a.length : Int); omega)) ?_
      conv => lhs; whnf
      repeat ((first | with_reducible apply br_tt | with_reducible apply br_ff | with_reducible apply br_nf | with_reducible apply br_nt | with_reducible refine br_d ?_ (by kernel_rfl) | with_reducible apply br_t h2 | with_reducible apply br_f h2); conv => lhs; whnf)
      refine br_c (fun h3 => ?_) (fun h3 => ?_)
      · have h'' : decide (hi.length = (a.getD 0 []).length) = false := by
          refine df fun e => ?_
          have h2 : ((hi.length : Int) != ((a.getD 0 []).length : Int)) = true := h3
          rw [e] at h2
          simp at h2
        conv => lhs; whnf
        refine okI ?_
        unfold fitF
        rw [h'', Bool.and_false]
        rfl
      · have h'' : hi.length = (a.getD 0 []).length := by
          have h2 : ((hi.length : Int) != ((a.getD 0 []).length : Int)) = false := h3
          simp only [bne_eq_false_iff_eq] at h2
          omega
        conv => lhs; whnf
        conv => lhs; arg 1; whnf
        refine bnd_g (by exact ⟨⟨by omega, by omega⟩, rfl, hA.2.2, h', h'', hA.2.1⟩) ?_
        conv => lhs; whnf
        refine okI ?_
        unfold fitF
        rw [bnf h, dt h', dt h'']
        rfl
theorem ok_implFittingPoints : FnOk Try.prog 40 K_implFittingPoints := by
  refine fn_ok (fn := Try.f40) (k := Try.f40.ntmps) (E := E_implFittingPoints) (facts_of (List.forall_mem_cons.2 ⟨ok_implArePoints, List.forall_mem_cons.2 ⟨ok_acc_fit1, List.forall_mem_nil _⟩⟩)) (by kernel_rfl) rfl (by decide +kernel) (by decide +kernel) ?_
  intro avs hin r h
  unfold K_implFittingPoints at h
  split at h
  · obtain ⟨hp, rfl⟩ := gd_o h
    exact ⟨_, ev_implFittingPoints _ _ _ hp, rfl⟩
  · cases h

/- impl.PatternExtents -/
def K_implPatternExtents : List AV → List Ob → Option (AV × List Ob)
  | [.lst (.lst (.int .i64)) a], [] => gd (a.length ≤ 1048576 ∧ ∀ x ∈ a, x.length ≤ 1048576) (.own 0, [.row 3 (.int .i64) (patE a)])
  | _, _ => none
@[reducible] def E_implPatternExtents : Env := mkE (tb [(34, K_implArePoints), (9, K_implHullOf), (40, K_implFittingPoints)]) (fun f => false) (fun r => bif r == 5 then ([0, 3, 4], [3]) else ([], []))
theorem lp_implPatternExtents (a : List (List Int)) (hA : arePts a = true) (hm : a.length ≤ 1048576 ∧ ∀ x ∈ a, x.length ≤ 1048576) (k : AX → S → Option (AV × List Ob)) (d : Nat) : ∀ (n i : Nat) (x : Int) (zs : List Int), 2 ^ a.length - i = d → i ≤ 2 ^ a.length → x = i → d < n → zs.length ≤ i → 1 ≤ i →
    lpAt E_implPatternExtents (lp E_implPatternExtents 0 n) 0 (loopAt Try.f16 0) (mkS [0, 3, 4] [.lst (.lst (.int .i64)) a, .own 0, .int .i64 x] [some (.row 3 (.int .i64) zs)]) k =
      k (.exit 0) (mkS [3] [.own 0] [some (.row 3 (.int .i64) (zs ++ patL a d x))]) := by
  have hp' := arePts_parts hA
  have hf := full_len hp'.1.2
  have hw : IntKind.i64.wrap (1 * 2 ^ min ((a.length : Int)).toNat IntKind.i64.bits) = ((2 ^ a.length : Nat) : Int) := shl1 (by omega)
  induction d with
  | zero =>
    intro n i x zs hd hi hx hn hz hi1
    subst hx
    rw [lpAt_def]
    conv => lhs; whnf
    refine br_f (df (by omega)) ?_
    conv => lhs; whnf
    rw [hw]
    refine br_f (df (by omega)) ?_
    conv => lhs; whnf
    rw [patL, List.append_nil]
  | succ d ih =>
    intro n i x zs hd hi hx hn hz hi1
    obtain ⟨n, rfl⟩ : ∃ m, n = m + 1 := ⟨n - 1, by omega⟩
    subst hx
    have hset := set_lt hp'.1.2 (show i < 2 ^ a.length by omega)
    have hl1 := hullL_len hA hset min
    have hl2 := hullL_len hA hset max
    have hh : hullF a (i : Int) = (hullL min a (i : Int), hullL max a (i : Int), true) := by
      unfold hullF
      rw [hA, hset, show ((i : Int) == 0) = false from beq_eq_false_iff_ne.2 (by omega)]
      rfl
    rw [lpAt_def]
    conv => lhs; whnf
    refine br_f (df (by omega)) ?_
    conv => lhs; whnf
    rw [hw]
    refine br_t (dt (by omega)) ?_
    conv => lhs; whnf
    conv => lhs; arg 1; whnf
    refine bnd_g (by exact hm) ?_
    conv => lhs; whnf
    conv => lhs; arg 1; whnf
    refine bnd_g (by exact ⟨hm, by rw [hh]; dsimp only; omega, by rw [hh]; dsimp only; omega⟩) ?_
    conv => lhs; whnf
    have hq : fitF a (hullF a (i : Int)).1 (hullF a (i : Int)).2.1 = fitF a (hullL min a (i : Int)) (hullL max a (i : Int)) := by rw [hh]
    refine br_c (fun h => ?_) (fun h => ?_)
    · have h' : patAt a (i : Int) = true := by unfold patAt; rw [← hq]; exact h
      conv => lhs; whnf
      refine br_t (dt (by simp [room]; omega)) ?_
      conv => lhs; whnf
      refine (ih n (i + 1) (IntKind.i64.wrap ((i : Int) + 1)) _ (by omega) (by omega) (by rw [wrap64 (n := (i : Int) + 1) (by omega) (by omega)]; simp) (by omega) (by simp; omega) (by omega)).trans ?_
      rw [patL, h', wrap64 (n := (i : Int) + 1) (by omega) (by omega), List.append_assoc]
      rfl
    · have h' : patAt a (i : Int) = false := by unfold patAt; rw [← hq]; exact h
      conv => lhs; whnf
      refine (ih n (i + 1) (IntKind.i64.wrap ((i : Int) + 1)) _ (by omega) (by omega) (by rw [wrap64 (n := (i : Int) + 1) (by omega) (by omega)]; simp) (by omega) (by omega) (by omega)).trans ?_
      rw [patL, h', wrap64 (n := (i : Int) + 1) (by omega) (by omega)]
      rfl
theorem ev_implPatternExtents (a : List (List Int)) (hp : a.length ≤ 1048576 ∧ ∀ x ∈ a, x.length ≤ 1048576) : evF E_implPatternExtents (400) Try.f16 [.lst (.lst (.int .i64)) a] [] = some (.own 0, [.row 3 (.int .i64) (patE a)]) := by
  conv => lhs; whnf
  conv => lhs; arg 1; whnf
  refine bnd_g (by exact hp) ?_
  conv => lhs; whnf
  refine br_c (fun h => ?_) (fun h => ?_)
  · have hf : patE a = [] := by unfold patE; rw [bnt h]; rfl
    rw [hf]
    conv => lhs; whnf
  · have hp' := arePts_parts (bnf h)
    have hfl := full_len hp'.1.2
    have hf : patE a = 0 :: patL a (2 ^ a.length - 1) 1 := by unfold patE; rw [bnf h]; rfl
    rw [hf]
    conv => lhs; whnf
    refine (lp_implPatternExtents a (bnf h) hp _ (2 ^ a.length - 1) _ 1 1 [0] rfl (by omega) rfl (by change _ < 399; omega) (by simp) (Nat.le_refl 1)).trans ?_
    conv => lhs; whnf
    rfl
theorem ok_implPatternExtents : FnOk Try.prog 16 K_implPatternExtents := by
  refine fn_ok (fn := Try.f16) (k := Try.f16.ntmps) (E := E_implPatternExtents) (facts_of (List.forall_mem_cons.2 ⟨ok_implArePoints, List.forall_mem_cons.2 ⟨ok_implHullOf, List.forall_mem_cons.2 ⟨ok_implFittingPoints, List.forall_mem_nil _⟩⟩⟩)) (by kernel_rfl) rfl (by decide +kernel) (by decide +kernel) ?_
  intro avs hin r h
  unfold K_implPatternExtents at h
  split at h
  · obtain ⟨hp, rfl⟩ := gd_o h
    exact ⟨_, ev_implPatternExtents _ hp, rfl⟩
  · cases h

/- laws.eqIntS -/
def K_eqIntS : List AV → List Ob → Option (AV × List Ob)
  | [.lst (.int .i64) a, .lst (.int .i64) b], [] => gd (a.length < 4611686018427387904 ∧ b.length < 4611686018427387904) (.bool (decide (a = b)), [])
  | _, _ => none
@[reducible] def E_eqIntS : Env := mkE (tb []) (fun f => false) (fun r => bif r == 4 then ([0, 1, 5], [4]) else ([], []))
theorem lp_eqIntS (a b : List Int) (hl : a.length = b.length) (ha : a.length < 4611686018427387904) (k : AX → S → Option (AV × List Ob)) (d : Nat) : ∀ (n i : Nat) (x : Int), a.length - i = d → i ≤ a.length → x = i → d < n →
    lpAt E_eqIntS (lp E_eqIntS 0 n) 0 (loopAt Try.f17 0) (mkS [0, 1, 5] [.lst (.int .i64) a, .lst (.int .i64) b, .int .i64 x] []) k =
      if a.drop i = b.drop i then k (.exit 0) (mkS [4] [.any] []) else k .ret (mkS [4] [.bool false] []) := by
  induction d with
  | zero =>
    intro n i x hd hi hx hn
    subst hx
    rw [lpAt_def]
    conv => lhs; whnf
    refine br_f (df (by omega)) ?_
    conv => lhs; whnf
    rw [if_pos (by rw [List.drop_of_length_le (by omega), List.drop_of_length_le (by omega)])]
  | succ d ih =>
    intro n i x hd hi hx hn
    obtain ⟨n, rfl⟩ : ∃ m, n = m + 1 := ⟨n - 1, by omega⟩
    subst hx
    rw [lpAt_def]
    conv => lhs; whnf
    refine br_t (dt (by omega)) ?_
    conv => lhs; whnf
    refine br_t (dt2 (by omega) (by omega)) ?_
    conv => lhs; whnf
    refine br_t (dt2 (by omega) (by omega)) ?_
    conv => lhs; whnf
    rw [getD_drop (l := a) (i := i) (d := 0) (by omega), getD_drop (l := b) (i := i) (d := 0) (by omega)]
    refine br_t (by kernel_rfl) ?_
    conv => lhs; whnf
    refine br_c (fun h => ?_) (fun h => ?_)
    · conv => lhs; whnf
      rw [if_neg]
      intro he
      have := (List.cons.inj he).1
      simp at h
      exact h this
    · conv => lhs; whnf
      rw [ih n (i + 1) _ (by omega) (by omega) (by rw [wrap64 (by omega) (by omega)]; simp) (by omega)]
      simp at h
      simp [h]
theorem ev_eqIntS (a b : List Int) (hp : a.length < 4611686018427387904 ∧ b.length < 4611686018427387904) : evF E_eqIntS (a.length + 2) Try.f17 [.lst (.int .i64) a, .lst (.int .i64) b] [] = some (.bool (decide (a = b)), []) := by
  conv => lhs; whnf
  refine br_c (fun h => ?_) (fun h => ?_)
  · conv => lhs; whnf
    have : a ≠ b := by
      rintro rfl
      simp at h
    simp [this]
  · conv => lhs; whnf
    have hl : a.length = b.length := by simp at h; omega
    refine (lp_eqIntS a b hl hp.1 _ _ _ 0 0 rfl (by omega) rfl (by omega)).trans ?_
    simp only [List.drop_zero]
    split
    · rename_i he
      conv => lhs; whnf
      simp [he]
    · rename_i he
      conv => lhs; whnf
      simp [he]
theorem ok_eqIntS : FnOk Try.prog 17 K_eqIntS := by
  refine fn_ok (fn := Try.f17) (k := Try.f17.ntmps) (E := E_eqIntS) (facts_of (List.forall_mem_nil _)) (by kernel_rfl) rfl (by decide +kernel) (by decide +kernel) ?_
  intro avs hin r h
  unfold K_eqIntS at h
  split at h
  · obtain ⟨hp, rfl⟩ := gd_o h
    exact ⟨_, ev_eqIntS _ _ hp, rfl⟩
  · cases h

/- laws.eqIntSS -/
def K_eqIntSS : List AV → List Ob → Option (AV × List Ob)
  | [.lst (.lst (.int .i64)) a, .lst (.lst (.int .i64)) b], [] => gd ((a.length < 4611686018427387904 ∧ b.length < 4611686018427387904) ∧ (∀ x ∈ a, x.length < 4611686018427387904) ∧ (∀ x ∈ b, x.length < 4611686018427387904)) (.bool (decide (a = b)), [])
  | _, _ => none
@[reducible] def E_eqIntSS : Env := mkE (tb [(17, K_eqIntS)]) (fun f => false) (fun r => bif r == 4 then ([0, 1, 5], [4]) else ([], []))
theorem lp_eqIntSS (a b : List (List Int)) (hl : a.length = b.length) (ha : a.length < 4611686018427387904) (hA : ∀ x ∈ a, x.length < 4611686018427387904) (hB : ∀ x ∈ b, x.length < 4611686018427387904) (k : AX → S → Option (AV × List Ob)) (d : Nat) : ∀ (n i : Nat) (x : Int), a.length - i = d → i ≤ a.length → x = i → d < n →
    lpAt E_eqIntSS (lp E_eqIntSS 0 n) 0 (loopAt Try.f11 0) (mkS [0, 1, 5] [.lst (.lst (.int .i64)) a, .lst (.lst (.int .i64)) b, .int .i64 x] []) k =
      if a.drop i = b.drop i then k (.exit 0) (mkS [4] [.any] []) else k .ret (mkS [4] [.bool false] []) := by
  induction d with
  | zero =>
    intro n i x hd hi hx hn
    subst hx
    rw [lpAt_def]
    conv => lhs; whnf
    refine br_f (df (by omega)) ?_
    conv => lhs; whnf
    rw [if_pos (by rw [List.drop_of_length_le (by omega), List.drop_of_length_le (by omega)])]
  | succ d ih =>
    intro n i x hd hi hx hn
    obtain ⟨n, rfl⟩ : ∃ m, n = m + 1 := ⟨n - 1, by omega⟩
    subst hx
    rw [lpAt_def]
    conv => lhs; whnf
    refine br_t (dt (by omega)) ?_
    conv => lhs; whnf
    refine br_t (dt2 (by omega) (by omega)) ?_
    conv => lhs; whnf
    refine br_t (dt2 (by omega) (by omega)) ?_
    conv => lhs; whnf
    conv => lhs; arg 1; whnf
    refine bnd_g (by exact ⟨hA _ (mem_getD (by omega)), hB _ (mem_getD (by omega))⟩) ?_
    conv => lhs; whnf
    rw [getD_drop (l := a) (i := i) (d := []) (by omega), getD_drop (l := b) (i := i) (d := []) (by omega)]
    refine br_t (by kernel_rfl) ?_
    conv => lhs; whnf
    refine br_c (fun h => ?_) (fun h => ?_)
    · conv => lhs; whnf
      rw [if_neg]
      intro he
      exact ofnt h (List.cons.inj he).1
    · conv => lhs; whnf
      rw [ih n (i + 1) _ (by omega) (by omega) (by rw [wrap64 (by omega) (by omega)]; simp) (by omega)]
      have h : a.getD i [] = b.getD i [] := ofnf h
      rw [h]
      simp
theorem ev_eqIntSS (a b : List (List Int)) (hp : (a.length < 4611686018427387904 ∧ b.length < 4611686018427387904) ∧ (∀ x ∈ a, x.length < 4611686018427387904) ∧ (∀ x ∈ b, x.length < 4611686018427387904)) : evF E_eqIntSS (a.length + 2) Try.f11 [.lst (.lst (.int .i64)) a, .lst (.lst (.int .i64)) b] [] = some (.bool (decide (a = b)), []) := by
  conv => lhs; whnf
  refine br_c (fun h => ?_) (fun h => ?_)
  · conv => lhs; whnf
    have : a ≠ b := by
      rintro rfl
      simp at h
    simp [this]
  · conv => lhs; whnf
    have hl : a.length = b.length := by simp at h; omega
    refine (lp_eqIntSS a b hl hp.1.1 hp.2.1 hp.2.2 _ _ _ 0 0 rfl (by omega) rfl (by omega)).trans ?_
    simp only [List.drop_zero]
    split
    · rename_i he
      conv => lhs; whnf
      simp [he]
    · rename_i he
      conv => lhs; whnf
      simp [he]
theorem ok_eqIntSS : FnOk Try.prog 11 K_eqIntSS := by
  refine fn_ok (fn := Try.f11) (k := Try.f11.ntmps) (E := E_eqIntSS) (facts_of (List.forall_mem_cons.2 ⟨ok_eqIntS, List.forall_mem_nil _⟩)) (by kernel_rfl) rfl (by decide +kernel) (by decide +kernel) ?_
  intro avs hin r h
  unfold K_eqIntSS at h
  split at h
  · obtain ⟨hp, rfl⟩ := gd_o h
    exact ⟨_, ev_eqIntSS _ _ hp, rfl⟩
  · cases h

/- laws.heldIntS -/
def K_heldIntS : List AV → List Ob → Option (AV × List Ob)
  | [.lst (.int .i64) a, .int .i64 q], [] => gd (a.length ≤ 16777216 ∧ 0 ≤ q ∧ q ≤ 1152921504606846976) (.int .i64 (held a q), [])
  | _, _ => none
@[reducible] def E_heldIntS : Env := mkE (tb []) (fun f => false) (fun r => bif r == 2 then ([0, 1, 5], [1, 4]) else ([], []))
theorem lp_heldIntS (a : List Int) (ha : a.length ≤ 16777216) (k : AX → S → Option (AV × List Ob)) (r : Option (AV × List Ob)) (hk : ∀ q, k .ret (mkS [1, 4] [.int .i64 q, .int .i64 (-1)] []) = r) (d : Nat) : ∀ (n i : Nat) (x q : Int), a.length - i = d → i ≤ a.length → 0 ≤ q → q ≤ 1152921504606846976 + i → x = i → d < n →
    lpAt E_heldIntS (lp E_heldIntS 0 n) 0 (loopAt Try.f19 0) (mkS [0, 1, 5] [.lst (.int .i64) a, .int .i64 q, .int .i64 x] []) k =
      if a.drop i = iotaI q d then k (.exit 0) (mkS [1, 4] [.int .i64 (q + d), .any] []) else r := by
  induction d with
  | zero =>
    intro n i x q hd hi hq hq' hx hn
    subst hx
    rw [lpAt_def]
    conv => lhs; whnf
    refine br_f (df (by omega)) ?_
    conv => lhs; whnf
    rw [if_pos (by rw [List.drop_of_length_le (by omega)]; rfl)]
    simp
  | succ d ih =>
    intro n i x q hd hi hq hq' hx hn
    obtain ⟨n, rfl⟩ : ∃ m, n = m + 1 := ⟨n - 1, by omega⟩
    subst hx
    rw [lpAt_def]
    conv => lhs; whnf
    refine br_t (dt (by omega)) ?_
    conv => lhs; whnf
    refine br_t (dt2 (by omega) (by omega)) ?_
    conv => lhs; whnf
    rw [getD_drop (l := a) (i := i) (d := 0) (by omega)]
    refine br_c (fun h => ?_) (fun h => ?_)
    · conv => lhs; whnf
      rw [if_neg]
      · exact hk _
      · intro he
        have := (List.cons.inj he).1
        simp at h
        exact h this
    · conv => lhs; whnf
      rw [wrap64 (n := q + 1) (by omega) (by omega)]
      rw [ih n (i + 1) _ (q + 1) (by omega) (by omega) (by omega) (by omega) (by rw [wrap64 (by omega) (by omega)]; simp) (by omega)]
      have e1 : q + 1 + (d : Int) = q + ((d + 1 : Nat) : Int) := by push_cast; omega
      rw [e1]
      simp at h
      simp [h, iotaI]
theorem ev_heldIntS (a : List Int) (q : Int) (hp : a.length ≤ 16777216 ∧ 0 ≤ q ∧ q ≤ 1152921504606846976) : evF E_heldIntS (a.length + 2) Try.f19 [.lst (.int .i64) a, .int .i64 q] [] = some (.int .i64 (held a q), []) := by
  conv => lhs; whnf
  refine (lp_heldIntS a hp.1 _ _ (fun _ => by conv => lhs; whnf; rfl) a.length _ 0 0 q rfl (by omega) hp.2.1 (by omega) rfl (by omega)).trans ?_
  simp only [List.drop_zero]
  unfold held
  split
  · rename_i he
    conv => lhs; whnf
  · rename_i he
    rfl
theorem ok_heldIntS : FnOk Try.prog 19 K_heldIntS := by
  refine fn_ok (fn := Try.f19) (k := Try.f19.ntmps) (E := E_heldIntS) (facts_of (List.forall_mem_nil _)) (by kernel_rfl) rfl (by decide +kernel) (by decide +kernel) ?_
  intro avs hin r h
  unfold K_heldIntS at h
  split at h
  · obtain ⟨hp, rfl⟩ := gd_o h
    exact ⟨_, ev_heldIntS _ _ hp, rfl⟩
  · cases h

/- laws.markIntS -/
def K_markIntS : List AV → List Ob → Option (AV × List Ob)
  | [.own 0, .int .i64 q], [.row 3 (.int .i64) a] => gd (a.length ≤ 16777216 ∧ 0 ≤ q ∧ q ≤ 1152921504606846976) (.int .i64 (q + a.length), [.row 3 (.int .i64) (iotaI q a.length)])
  | _, _ => none
@[reducible] def E_markIntS : Env := mkE (tb []) (fun f => false) (fun r => bif r == 2 then ([0, 1, 5], [1]) else ([], []))
theorem lp_markIntS (k : AX → S → Option (AV × List Ob)) (d : Nat) : ∀ (n i : Nat) (x q : Int) (ys : List Int), ys.length - i = d → i ≤ ys.length → ys.length ≤ 16777216 → 0 ≤ q → q ≤ 1152921504606846976 + i → x = i → d < n →
    lpAt E_markIntS (lp E_markIntS 1 n) 1 (loopAt Try.f18 0) (mkS [0, 1, 5] [.own 0, .int .i64 q, .int .i64 x] [some (.row 3 (.int .i64) ys)]) k =
      k (.exit 0) (mkS [1] [.int .i64 (q + d)] [some (.row 3 (.int .i64) (ys.take i ++ iotaI q d))]) := by
  induction d with
  | zero =>
    intro n i x q ys hd hi hl hq hq' hx hn
    subst hx
    rw [lpAt_def]
    conv => lhs; whnf
    refine br_f (df (by omega)) ?_
    conv => lhs; whnf
    simp only [iotaI, List.append_nil, List.take_of_length_le (show ys.length ≤ i by omega)]
    simp
  | succ d ih =>
    intro n i x q ys hd hi hl hq hq' hx hn
    obtain ⟨n, rfl⟩ : ∃ m, n = m + 1 := ⟨n - 1, by omega⟩
    subst hx
    rw [lpAt_def]
    conv => lhs; whnf
    refine br_t (dt (by omega)) ?_
    conv => lhs; whnf
    refine br_t (dt2 (by omega) (by omega)) ?_
    conv => lhs; whnf
    refine br_t (dt (by omega)) ?_
    conv => lhs; whnf
    rw [wrap64 (n := q + 1) (by omega) (by omega)]
    rw [ih n (i + 1) _ (q + 1) _ (by simp; omega) (by simp; omega) (by simp; omega) (by omega) (by omega) (by rw [wrap64 (by omega) (by omega)]; simp) (by omega)]
    simp only [Int.toNat_natCast]
    rw [take_set_succ (by omega)]
    have e1 : q + 1 + (d : Int) = q + ((d + 1 : Nat) : Int) := by push_cast; omega
    rw [e1]
    simp [iotaI]
theorem ev_markIntS (a : List Int) (q : Int) (hp : a.length ≤ 16777216 ∧ 0 ≤ q ∧ q ≤ 1152921504606846976) : evF E_markIntS (a.length + 2) Try.f18 [.own 0, .int .i64 q] [.row 3 (.int .i64) a] = some (.int .i64 (q + a.length), [.row 3 (.int .i64) (iotaI q a.length)]) := by
  conv => lhs; whnf
  refine (lp_markIntS _ a.length _ 0 0 q a rfl (by omega) hp.1 hp.2.1 (by omega) rfl (by omega)).trans ?_
  conv => lhs; whnf
  simp
theorem ok_markIntS : FnOk Try.prog 18 K_markIntS := by
  refine fn_ok (fn := Try.f18) (k := Try.f18.ntmps) (E := E_markIntS) (facts_of (List.forall_mem_nil _)) (by kernel_rfl) rfl (by decide +kernel) (by decide +kernel) ?_
  intro avs hin r h
  unfold K_markIntS at h
  split at h
  · obtain ⟨hp, rfl⟩ := gd_o h
    exact ⟨_, ev_markIntS _ _ hp, rfl⟩
  · cases h

/- laws.markIntSS -/
def K_markIntSS : List AV → List Ob → Option (AV × List Ob)
  | [.own 0, .int .i64 q], [.nest 24 3 (.int .i64) a none] => gd (a.length ≤ 1048576 ∧ (∀ x ∈ a, x.length ≤ 1048576) ∧ 0 ≤ q ∧ q ≤ 1) (.int .i64 (markQ q a), [.nest 24 3 (.int .i64) (markL q a) none])
  | _, _ => none
@[reducible] def E_markIntSS : Env := mkE (tb [(18, K_markIntS)]) (fun f => [18].contains f) (fun r => bif r == 2 then ([0, 1, 5], [1]) else ([], []))
theorem lp_markIntSS (k : AX → S → Option (AV × List Ob)) (d : Nat) : ∀ (n i : Nat) (x q : Int) (yss : List (List Int)), yss.length - i = d → i ≤ yss.length → yss.length ≤ 1048576 → (∀ y ∈ yss, y.length ≤ 1048576) → 0 ≤ q → q ≤ 1 + i * 1048576 → x = i → d < n →
    lpAt E_markIntSS (lp E_markIntSS 1 n) 1 (loopAt Try.f12 0) (mkS [0, 1, 5] [.own 0, .int .i64 q, .int .i64 x] [some (.nest 24 3 (.int .i64) yss none)]) k =
      k (.exit 0) (mkS [1] [.int .i64 (markQ q (yss.drop i))] [some (.nest 24 3 (.int .i64) (yss.take i ++ markL q (yss.drop i)) none)]) := by
  induction d with
  | zero =>
    intro n i x q yss hd hi hl hm hq hq' hx hn
    subst hx
    rw [lpAt_def]
    conv => lhs; whnf
    refine br_f (df (by omega)) ?_
    conv => lhs; whnf
    rw [List.drop_of_length_le (by omega), List.take_of_length_le (by omega)]
    simp [markQ, markL]
  | succ d ih =>
    intro n i x q yss hd hi hl hm hq hq' hx hn
    obtain ⟨n, rfl⟩ : ∃ m, n = m + 1 := ⟨n - 1, by omega⟩
    subst hx
    have hrow : (yss.getD i []).length ≤ 1048576 := hm _ (mem_getD (by omega))
    rw [lpAt_def]
    conv => lhs; whnf
    refine br_t (dt (by omega)) ?_
    conv => lhs; whnf
    refine br_t (dt2 (by omega) (by omega)) ?_
    conv => lhs; whnf
    refine br_t (by exact decide_eq_true rfl) ?_
    conv => lhs; whnf
    conv => lhs; arg 1; whnf
    refine bnd_g (by exact ⟨by simp only [Int.toNat_natCast]; omega, by omega, by omega⟩) ?_
    conv => lhs; whnf
    refine (ih n (i + 1) _ (q + ((yss.getD i []).length : Int)) _ (by simp; omega) (by simp; omega) (by simp; omega) ?_ (by omega) (by push_cast; omega) (by rw [wrap64 (by omega) (by omega)]; simp) (by omega)).trans ?_
    · intro y hy
      rcases List.mem_or_eq_of_mem_set hy with hy | hy
      · exact hm _ hy
      · rw [hy, iotaI_length]
        exact hrow
    · simp only [Int.toNat_natCast]
      rw [take_set_succ (by omega), getD_drop (l := yss) (i := i) (d := []) (by omega), markQ, markL]
      simp [List.drop_set_of_lt]
theorem ev_markIntSS (a : List (List Int)) (q : Int) (hp : a.length ≤ 1048576 ∧ (∀ x ∈ a, x.length ≤ 1048576) ∧ 0 ≤ q ∧ q ≤ 1) : evF E_markIntSS (a.length + 2) Try.f12 [.own 0, .int .i64 q] [.nest 24 3 (.int .i64) a none] = some (.int .i64 (markQ q a), [.nest 24 3 (.int .i64) (markL q a) none]) := by
  conv => lhs; whnf
  refine (lp_markIntSS _ a.length _ 0 0 q a rfl (by omega) hp.1 hp.2.1 hp.2.2.1 (by omega) rfl (by omega)).trans ?_
  conv => lhs; whnf
  simp
theorem ok_markIntSS : FnOk Try.prog 12 K_markIntSS := by
  refine fn_ok (fn := Try.f12) (k := Try.f12.ntmps) (E := E_markIntSS) (facts_of (List.forall_mem_cons.2 ⟨ok_markIntS, List.forall_mem_nil _⟩)) (by kernel_rfl) rfl (by decide +kernel) (by decide +kernel) ?_
  intro avs hin r h
  unfold K_markIntSS at h
  split at h
  · obtain ⟨hp, rfl⟩ := gd_o h
    exact ⟨_, ev_markIntSS _ _ hp, rfl⟩
  · cases h

/- laws.FnExactPatternExtents -/
def K_lawPatternExtents : List AV → List Ob → Option (AV × List Ob)
  | [.lst (.lst (.int .i64)) a], [] => gd (a.length ≤ maxLen ∧ ∀ x ∈ a, x.length ≤ maxLen) (.bool true, [])
  | _, _ => none
@[reducible] def E_lawPatternExtents : Env := mkE (tb [(6, K_szIntSS), (8, K_toIntSN), (15, K_specPatternExtents), (16, K_implPatternExtents), (17, K_eqIntS), (11, K_eqIntSS), (19, K_heldIntS), (12, K_markIntSS), (18, K_markIntS)]) (fun f => [12, 18].contains f) (fun r => ([], []))
theorem ev_lawPatternExtents (a : List (List Int)) (hp : a.length ≤ maxLen ∧ ∀ x ∈ a, x.length ≤ maxLen) : evF E_lawPatternExtents (1) Try.f4 [.lst (.lst (.int .i64)) a] [] = some (.bool true, []) := by
  conv => lhs; whnf
  conv => lhs; arg 1; whnf
  refine bnd_g (by exact ⟨⟨by omega, by omega⟩, hp⟩) ?_
  conv => lhs; whnf
  refine br_c (fun h1 => ?_) (fun h1 => ?_)
  · conv => lhs; whnf
  · conv => lhs; whnf
    have s0 := szSS_ok (by omega) (ofn h1)
    have l1 := s0.2.2.1
    have l2 := s0.2.2.2
    have l3 : ∀ x ∈ a, x.length ≤ 1048576 := fun x hx => by have := l2 x hx; omega
    have l4 : ∀ x ∈ a, x.length < 4611686018427387904 := fun x hx => by have := l2 x hx; omega
    have hb := patE_len a
    conv => lhs; arg 1; whnf
    refine bnd_g (by exact ⟨by omega, l3⟩) ?_
    conv => lhs; whnf
    conv => lhs; arg 1; whnf
    refine bnd_g (by exact ⟨by omega, l3⟩) ?_
    conv => lhs; whnf
    conv => lhs; arg 1; whnf
    refine bnd_g (by exact ⟨by omega, l3⟩) ?_
    conv => lhs; whnf
    conv => lhs; arg 1; whnf
    refine bnd_g (by exact ⟨by omega, l3⟩) ?_
    conv => lhs; whnf
    conv => lhs; arg 1; whnf
    refine bnd_g (by exact ⟨by omega, by omega⟩) ?_
    conv => lhs; whnf
    repeat ((first | with_reducible apply br_tt | with_reducible apply br_ff | with_reducible apply br_nf | with_reducible apply br_nt | with_reducible refine br_d ?_ (by kernel_rfl) | with_reducible refine br_f (by simp; done) ?_); conv => lhs; whnf)
    conv => lhs; arg 1; whnf
    refine bnd_g (by exact ⟨by omega, l3⟩) ?_
    conv => lhs; whnf
    conv => lhs; arg 1; whnf
    refine bnd_g (by exact ⟨⟨by omega, by omega⟩, l4, l4⟩) ?_
    conv => lhs; whnf
    repeat ((first | with_reducible apply br_tt | with_reducible apply br_ff | with_reducible apply br_nf | with_reducible apply br_nt | with_reducible refine br_d ?_ (by kernel_rfl) | with_reducible refine br_f (by simp; done) ?_); conv => lhs; whnf)
    conv => lhs; arg 1; whnf
    refine bnd_g (by exact ⟨by omega, l3, by omega, by omega⟩) ?_
    conv => lhs; whnf
    have hk : decide (markQ 1 a < 0) = false := df (by have := markQ_ge a 1; omega)
    repeat ((first | with_reducible apply br_tt | with_reducible apply br_ff | with_reducible apply br_nf | with_reducible apply br_nt | with_reducible refine br_d ?_ (by kernel_rfl) | with_reducible apply br_t hk | with_reducible apply br_f hk); conv => lhs; whnf)
    conv => lhs; arg 1; whnf
    refine bnd_g (by exact ⟨by omega, by omega⟩) ?_
    conv => lhs; whnf
    repeat ((first | with_reducible apply br_tt | with_reducible apply br_ff | with_reducible apply br_nf | with_reducible apply br_nt | with_reducible refine br_d ?_ (by kernel_rfl) | with_reducible apply br_t hk | with_reducible apply br_f hk | with_reducible refine br_f (by simp; done) ?_); conv => lhs; whnf)
    conv => lhs; arg 1; whnf
    refine bnd_g (by exact ⟨by omega, by omega, by omega⟩) ?_
    conv => lhs; whnf
    conv => lhs; arg 1; whnf
    refine bnd_g (by exact ⟨by simp; omega, by omega, by omega⟩) ?_
    conv => lhs; whnf
    refine br_f (by (apply decide_eq_false; rw [held_iota]; omega)) ?_
    conv => lhs; whnf
    refine br_f (by (rw [held_iota]; simp)) ?_
    conv => lhs; whnf
    conv => lhs; arg 1; whnf
    refine bnd_g (by exact ⟨by omega, l3⟩) ?_
    conv => lhs; whnf
    conv => lhs; arg 1; whnf
    refine bnd_g (by exact ⟨by omega, l3⟩) ?_
    conv => lhs; whnf
    conv => lhs; arg 1; whnf
    refine bnd_g (by exact ⟨by omega, by omega⟩) ?_
    conv => lhs; whnf
    repeat ((first | with_reducible apply br_tt | with_reducible apply br_ff | with_reducible apply br_nf | with_reducible apply br_nt | with_reducible refine br_d ?_ (by kernel_rfl) | with_reducible refine br_f (by simp; done) ?_); conv => lhs; whnf)
    conv => lhs; arg 1; whnf
    refine bnd_g (by exact ⟨by simp; omega, by omega, by omega⟩) ?_
    conv => lhs; whnf
    refine br_f (by (apply decide_eq_false; rw [held_iota]; omega)) ?_
    conv => lhs; whnf
    refine br_f (by (rw [held_iota]; simp)) ?_
    conv => lhs; whnf
theorem ok_lawPatternExtents : FnOk Try.prog 4 K_lawPatternExtents := by
  refine fn_ok (fn := Try.f4) (k := Try.f4.ntmps) (E := E_lawPatternExtents) (facts_of (List.forall_mem_cons.2 ⟨ok_szIntSS, List.forall_mem_cons.2 ⟨ok_toIntSN, List.forall_mem_cons.2 ⟨ok_specPatternExtents, List.forall_mem_cons.2 ⟨ok_implPatternExtents, List.forall_mem_cons.2 ⟨ok_eqIntS, List.forall_mem_cons.2 ⟨ok_eqIntSS, List.forall_mem_cons.2 ⟨ok_heldIntS, List.forall_mem_cons.2 ⟨ok_markIntSS, List.forall_mem_cons.2 ⟨ok_markIntS, List.forall_mem_nil _⟩⟩⟩⟩⟩⟩⟩⟩⟩)) (by kernel_rfl) rfl (by decide +kernel) (by decide +kernel) ?_
  intro avs hin r h
  unfold K_lawPatternExtents at h
  split at h
  · obtain ⟨hp, rfl⟩ := gd_o h
    exact ⟨_, ev_lawPatternExtents _ hp, rfl⟩
  · cases h

end Go.Sym
