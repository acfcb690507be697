/- Functions of the program, each told as a plain equation. -/
import Derived.Test.YtdkcdkjdljflbaaSymLayB
namespace Go.Sym
open Go.Proofs
set_option linter.unusedVariables false
set_option linter.unusedSimpArgs false
set_option maxRecDepth 100000
set_option maxHeartbeats 4000000

def isSet (n s : Int) : Bool := decide ((0 ≤ n ∧ n ≤ 8) ∧ (0 ≤ s ∧ s ≤ 2 ^ n.toNat - 1))
theorem shl_set {n : Int} (h0 : 0 ≤ n) (h8 : n ≤ 8) : IntKind.i64.wrap (IntKind.i64.wrap (1 * 2 ^ min n.toNat IntKind.i64.bits) - 1) = 2 ^ n.toNat - 1 := by
  have h : n = 0 ∨ n = 1 ∨ n = 2 ∨ n = 3 ∨ n = 4 ∨ n = 5 ∨ n = 6 ∨ n = 7 ∨ n = 8 := by omega
  rcases h with rfl | rfl | rfl | rfl | rfl | rfl | rfl | rfl | rfl <;> decide +kernel
theorem wrapu {n : Int} (h0 : 0 ≤ n) (h8 : n ≤ 8) : IntKind.u64.wrap n = n := by
  simp [IntKind.wrap, IntKind.bits, IntKind.signed]
  omega
theorem isSet8 (s : Int) : isSet 8 s = decide (0 ≤ s ∧ s ≤ 255) := by simp [isSet]
/-- The machine's and, and its and-not, on int. -/
def band (a b : Int) : Int := IntKind.i64.wrap (BitVec.ofInt IntKind.i64.bits a &&& BitVec.ofInt IntKind.i64.bits b).toNat
def bnot (a b : Int) : Int := IntKind.i64.wrap (BitVec.ofInt IntKind.i64.bits a &&& ~~~(BitVec.ofInt IntKind.i64.bits b)).toNat
def bor (a b : Int) : Int := IntKind.i64.wrap (BitVec.ofInt IntKind.i64.bits a ||| BitVec.ofInt IntKind.i64.bits b).toNat
theorem wrap_bv (x : BitVec 64) : IntKind.i64.wrap x.toNat = x.toInt := by
  simp [IntKind.wrap, IntKind.bits, IntKind.signed, BitVec.toInt]
  omega
theorem ofInt_toInt {a : Int} (h1 : -9223372036854775808 ≤ a) (h2 : a ≤ 9223372036854775807) : (BitVec.ofInt 64 a).toInt = a := by
  rw [BitVec.toInt_ofInt]
  simp [Int.bmod]
  omega
theorem bv_sub (x y : BitVec 64) : x &&& y = x ↔ x &&& ~~~y = 0#64 := by
  constructor
  · intro h
    apply BitVec.eq_of_getLsbD_eq
    intro i hi
    have h1 := congrArg (fun z => BitVec.getLsbD z i) h
    simp [hi] at h1 ⊢
    exact h1
  · intro h
    apply BitVec.eq_of_getLsbD_eq
    intro i hi
    have h1 := congrArg (fun z => BitVec.getLsbD z i) h
    simp [hi] at h1 ⊢
    exact h1
theorem sub_iff {a b : Int} (h1 : -9223372036854775808 ≤ a) (h2 : a ≤ 9223372036854775807) : band a b = a ↔ bnot a b = 0 := by
  unfold band bnot
  show IntKind.i64.wrap (BitVec.ofInt 64 a &&& BitVec.ofInt 64 b).toNat = a ↔ IntKind.i64.wrap (BitVec.ofInt 64 a &&& ~~~(BitVec.ofInt 64 b)).toNat = 0
  rw [wrap_bv, wrap_bv]
  conv => lhs; rhs; rw [← ofInt_toInt h1 h2]
  rw [BitVec.toInt_inj, ← BitVec.toInt_zero, BitVec.toInt_inj]
  exact bv_sub _ _
def isCtx (m : Int) (b : List Int) : Bool := decide (0 ≤ m ∧ m ≤ 6) && decide (b.length ≤ 8) && b.all (isSet m)
def badRow (m x : Int) : Bool := !isSet m x
def fullSet (n : Int) : Int := if 0 ≤ n ∧ n ≤ 8 then 2 ^ n.toNat - 1 else 0
theorem any_badRow (m : Int) (b : List Int) : (!b.any (badRow m)) = b.all (isSet m) := by
  simp [badRow, List.not_any_eq_all_not]
def hasE (s e : Int) : Bool := isSet 8 s && decide (0 ≤ e ∧ e ≤ 7) && s.toNat.testBit e.toNat
theorem bit_all : ∀ s : Fin 256, ∀ e : Fin 9, (band ((s.val : Int).fdiv (2 ^ min ((e.val : Int)).toNat IntKind.i64.bits)) 1 == 1) = s.val.testBit e.val := by decide +kernel
theorem bit_of {s e : Int} (h0 : 0 ≤ s) (h1 : s ≤ 255) (h2 : 0 ≤ e) (h3 : e ≤ 8) : (band (s.fdiv (2 ^ min e.toNat IntKind.i64.bits)) 1 == 1) = s.toNat.testBit e.toNat := by
  have := bit_all ⟨s.toNat, by omega⟩ ⟨e.toNat, by omega⟩
  simp only [Int.toNat_of_nonneg h0, Int.toNat_of_nonneg h2] at this
  exact this
theorem bv_rng (x : BitVec 64) : -9223372036854775808 ≤ x.toInt ∧ x.toInt ≤ 9223372036854775807 := by
  have h1 : x.toInt < 9223372036854775808 := x.toInt_lt
  have h2 : -9223372036854775808 ≤ x.toInt := x.le_toInt
  omega
theorem band_range (a b : Int) : -9223372036854775808 ≤ band a b ∧ band a b ≤ 9223372036854775807 := by
  unfold band
  rw [show IntKind.i64.wrap (BitVec.ofInt IntKind.i64.bits a &&& BitVec.ofInt IntKind.i64.bits b).toNat = (BitVec.ofInt 64 a &&& BitVec.ofInt 64 b).toInt from wrap_bv _]
  exact bv_rng _
theorem band_comm (a b : Int) : band a b = band b a := by
  unfold band
  rw [BitVec.and_comm]
def commonF (objs : Int) : List Int → Nat → Int → Int
  | [], _, acc => acc
  | x :: r, i, acc => commonF objs r (i + 1) (bif hasE objs i then band acc x else acc)
def Rng (x : Int) : Prop := -9223372036854775808 ≤ x ∧ x ≤ 9223372036854775807
theorem commonF_rng (s : Int) : ∀ (a : List Int) (i : Nat) (acc : Int), Rng acc → Rng (commonF s a i acc)
  | [], _, _, h => h
  | x :: r, i, acc, h => by
    unfold commonF
    refine commonF_rng s r (i + 1) _ ?_
    cases hasE s i
    · exact h
    · exact band_range acc x
theorem fullSet_rng (n : Int) : 0 ≤ fullSet n ∧ fullSet n ≤ 255 := by
  unfold fullSet
  split
  · rename_i h
    have h : n = 0 ∨ n = 1 ∨ n = 2 ∨ n = 3 ∨ n = 4 ∨ n = 5 ∨ n = 6 ∨ n = 7 ∨ n = 8 := by omega
    rcases h with rfl | rfl | rfl | rfl | rfl | rfl | rfl | rfl | rfl <;> decide
  · omega
def intentF (m : Int) (a : List Int) (s : Int) : Int := commonF s a 0 (fullSet m)
theorem intentF_rng (m : Int) (a : List Int) (s : Int) : Rng (intentF m a s) := by
  refine commonF_rng s a 0 _ ?_
  have := fullSet_rng m
  unfold Rng
  omega
theorem isSet_le {n s : Int} (h : isSet n s = true) : 0 ≤ n ∧ n ≤ 8 ∧ 0 ≤ s ∧ s ≤ 255 := by
  unfold isSet at h
  have h := of_decide_eq_true h
  have h8 : n = 0 ∨ n = 1 ∨ n = 2 ∨ n = 3 ∨ n = 4 ∨ n = 5 ∨ n = 6 ∨ n = 7 ∨ n = 8 := by omega
  rcases h8 with rfl | rfl | rfl | rfl | rfl | rfl | rfl | rfl | rfl <;> simp at h <;> omega
theorem isSet_8 {n s : Int} (h : isSet n s = true) : isSet 8 s = true := by
  have := isSet_le h
  rw [isSet8]
  exact decide_eq_true (by omega)
theorem isCtx_len {m : Int} {a : List Int} (h : isCtx m a = true) : a.length ≤ 8 ∧ 0 ≤ m ∧ m ≤ 6 ∧ ∀ x ∈ a, isSet m x = true := by
  unfold isCtx at h
  simp only [Bool.and_eq_true, decide_eq_true_eq, List.all_eq_true] at h
  exact ⟨h.1.2, h.1.1.1, h.1.1.2, h.2⟩
/-- f holds of i, .., i + d - 1. -/
def allB (f : Nat → Bool) : Nat → Nat → Bool
  | 0, _ => true
  | d + 1, i => f i && allB f d (i + 1)
theorem allB_iff (f : Nat → Bool) : ∀ (d i : Nat), allB f d i = true ↔ ∀ j, i ≤ j → j < i + d → f j = true
  | 0, i => by simp only [allB, true_iff]; intro j h1 h2; omega
  | d + 1, i => by
    rw [allB, Bool.and_eq_true, allB_iff f d (i + 1)]
    constructor
    · rintro ⟨h1, h2⟩ j h3 h4
      by_cases h : j = i
      · rw [h]; exact h1
      · exact h2 j (by omega) (by omega)
    · intro h
      exact ⟨h i (by omega) (by omega), fun j h1 h2 => h j (by omega) (by omega)⟩
def badR (r : Int × Int) : Bool := !(isSet 8 r.1 && isSet 8 r.2)
def respOf (p q s : Int) : Bool := isSet 8 p && isSet 8 q && isSet 8 s && (!(bnot p s == 0) || bnot q s == 0)
theorem bne_bnot {p s : Int} (h : isSet 8 p = true) : (band p s != p) = !(bnot p s == 0) := by
  rw [isSet8] at h
  have h := of_decide_eq_true h
  have e := sub_iff (a := p) (b := s) (by omega) (by omega)
  simp only [bne]
  congr 1
  rw [Bool.eq_iff_iff, beq_iff_eq, beq_iff_eq, e]
theorem beq_bnot {p s : Int} (h : isSet 8 p = true) : (band p s == p) = (bnot p s == 0) := by
  have := bne_bnot (s := s) h
  simpa [bne] using this
def firstI {α : Type} (p : α → Bool) : List α → Int → Int
  | [], _ => -1
  | x :: r, i => bif p x then i else firstI p r (i + 1)
theorem firstI_iff {α : Type} (p : α → Bool) : ∀ (l : List α) (i : Int), 0 ≤ i → (decide (firstI p l i ≥ 0)) = l.any p
  | [], i, h => by simp [firstI]
  | x :: r, i, h => by
    cases hx : p x
    · simp only [firstI, hx, cond_false, List.any_cons, Bool.false_or]
      exact firstI_iff p r (i + 1) (by omega)
    · simp [firstI, hx]
      omega
theorem firstI_none {α : Type} (p : α → Bool) : ∀ (l : List α) (i : Int), l.any p = false → firstI p l i = -1
  | [], i, h => rfl
  | x :: r, i, h => by
    simp only [List.any_cons, Bool.or_eq_false_iff] at h
    simp only [firstI, h.1, cond_false]
    exact firstI_none p r (i + 1) h.2
def idxs {α : Type} (p : α → Bool) : List α → Int → List Int
  | [], _ => []
  | x :: r, i => bif p x then i :: idxs p r (i + 1) else idxs p r (i + 1)
def brk (a : List (Int × Int)) (s : Int) : List Int := idxs (fun r => !respOf r.1 r.2 s) a 0
theorem idxs_length {α : Type} (p : α → Bool) : ∀ (l : List α) (i : Int), (idxs p l i).length ≤ l.length
  | [], i => by simp [idxs]
  | x :: r, i => by
    have := idxs_length p r (i + 1)
    cases hx : p x <;> simp [idxs, hx] <;> omega
def bitI (s e : Int) : Bool := s.toNat.testBit e.toNat
def ordA (b : List Int) (a : Nat) : Bool := isSet b.length (b.getD a 0) && bitI (b.getD a 0) a
def ordBad (b : List Int) (a c : Nat) : Bool := bitI (b.getD a 0) c && ((band (b.getD c 0) (b.getD a 0) != b.getD c 0) || (decide ((a : Int) ≠ c) && bitI (b.getD c 0) a))
def ordRow (b : List Int) (a : Nat) : Bool := allB (fun c => !ordBad b a c) b.length 0
def isOrd (b : List Int) : Bool := decide (b.length ≤ 6) && (allB (ordA b) b.length 0 && allB (ordRow b) b.length 0)
theorem ordA_set {b : List Int} (h : allB (ordA b) b.length 0 = true) {a : Nat} (ha : a < b.length) : isSet b.length (b.getD a 0) = true := by
  have := (allB_iff _ _ _).1 h a (by omega) (by omega)
  unfold ordA at this
  exact (Bool.and_eq_true_iff.1 this).1
theorem isSet_bit {n s : Int} (h : isSet n s = true) {e : Nat} (he : n ≤ e) : bitI s e = false := by
  have hl := isSet_le h
  unfold isSet at h
  have h := of_decide_eq_true h
  unfold bitI
  refine Nat.testBit_lt_two_pow ?_
  have h1 : s.toNat < 2 ^ n.toNat := by
    have := h.2.2
    have e2 : ((2 ^ n.toNat : Nat) : Int) = (2 : Int) ^ n.toNat := by push_cast; rfl
    omega
  exact Nat.lt_of_lt_of_le h1 (Nat.pow_le_pow_right (by omega) (by omega))
theorem hasE_bit {s e : Int} (h : isSet 8 s = true) (h0 : 0 ≤ e) (h7 : e ≤ 7) : hasE s e = bitI s e := by
  unfold hasE bitI
  rw [h, dt (show 0 ≤ e ∧ e ≤ 7 from ⟨h0, h7⟩)]
  rfl
def elemsL (s : Int) : Nat → Nat → List Int
  | 0, _ => []
  | d + 1, i => bif hasE s i then (i : Int) :: elemsL s d (i + 1) else elemsL s d (i + 1)
def elemsF (s : Int) : List Int := elemsL s 8 0
theorem elemsL_length (s : Int) : ∀ (d i : Nat), (elemsL s d i).length ≤ d
  | 0, _ => Nat.le_refl 0
  | d + 1, i => by
    have := elemsL_length s d (i + 1)
    unfold elemsL
    cases hasE s i <;> simp <;> omega
theorem elemsL_any (s : Int) (p : Int → Bool) : ∀ (d i : Nat), (elemsL s d i).any p = !allB (fun e => !(hasE s e && p e)) d i
  | 0, _ => rfl
  | d + 1, i => by
    unfold elemsL allB
    cases h : hasE s i
    · rw [cond_false, elemsL_any s p d (i + 1)]; simp
    · rw [cond_true, List.any_cons, elemsL_any s p d (i + 1)]; simp
theorem elemsL_mem (s : Int) (x : Int) : ∀ (d i : Nat), x ∈ elemsL s d i → ∃ e : Nat, x = e ∧ i ≤ e ∧ e < i + d ∧ hasE s e = true
  | 0, _, h => by simp [elemsL] at h
  | d + 1, i, h => by
    unfold elemsL at h
    cases hE : hasE s i
    · rw [hE, cond_false] at h
      obtain ⟨e, h1, h2, h3, h4⟩ := elemsL_mem s x d (i + 1) h
      exact ⟨e, h1, by omega, by omega, h4⟩
    · rw [hE, cond_true] at h
      rcases List.mem_cons.1 h with h | h
      · exact ⟨i, h, by omega, by omega, hE⟩
      · obtain ⟨e, h1, h2, h3, h4⟩ := elemsL_mem s x d (i + 1) h
        exact ⟨e, h1, by omega, by omega, h4⟩
theorem elemsF_lt {n : Nat} {s x : Int} (h : isSet n s = true) (hx : x ∈ elemsF s) : 0 ≤ x ∧ x < n ∧ x ≤ 7 := by
  obtain ⟨e, h1, h2, h3, h4⟩ := elemsL_mem s x 8 0 hx
  subst h1
  rw [hasE_bit (isSet_8 h) (by omega) (by omega)] at h4
  refine ⟨by omega, ?_, by omega⟩
  rcases Nat.lt_or_ge e n with h5 | h5
  · omega
  · rw [isSet_bit h (by omega)] at h4
    cases h4
theorem allB_ext {f g : Nat → Bool} : ∀ (d i : Nat), (∀ j, i ≤ j → j < i + d → f j = g j) → allB f d i = allB g d i
  | 0, _, _ => rfl
  | d + 1, i, h => by
    rw [allB, allB, h i (by omega) (by omega), allB_ext d (i + 1) (fun j h1 h2 => h j (by omega) (by omega))]
theorem allB_cut {f : Nat → Bool} {d : Nat} : ∀ (n i : Nat), n ≤ d → (∀ j, i + n ≤ j → j < i + d → f j = true) → allB f d i = allB f n i := by
  intro n i hn h
  rw [Bool.eq_iff_iff, allB_iff, allB_iff]
  constructor
  · intro g j h1 h2; exact g j h1 (by omega)
  · intro g j h1 h2
    rcases Nat.lt_or_ge j (i + n) with h3 | h3
    · exact g j h1 h3
    · exact h j h3 h2
/-- A statement on a set's elements, and on the numbers below. -/
theorem elems_all {n : Nat} {s : Int} (h : isSet n s = true) (p : Int → Bool) : (elemsF s).any p = !allB (fun e => !(bitI s e && p e)) n 0 := by
  have hl := isSet_le h
  unfold elemsF
  rw [elemsL_any]
  congr 1
  rw [allB_cut n 0 (by omega)]
  · refine allB_ext n 0 (fun j h1 h2 => ?_)
    rw [hasE_bit (isSet_8 h) (by omega) (by omega)]
  · intro j h1 h2
    rw [hasE_bit (isSet_8 h) (by omega) (by omega), isSet_bit h (by omega)]
    rfl
def pairBad (b : List Int) (k : Nat) (s x : Int) : Bool := !(bnot (b.getD x.toNat 0) s == 0) || (decide (x ≠ k) && hasE (b.getD x.toNat 0) k)
theorem pairBad_row {b : List Int} (hl : b.length ≤ 6) (h : allB (ordA b) b.length 0 = true) {a : Nat} (ha : a < b.length) : (elemsF (b.getD a 0)).any (pairBad b a (b.getD a 0)) = !ordRow b a := by
  rw [elems_all (ordA_set h ha)]
  congr 1
  unfold ordRow
  refine allB_ext _ 0 (fun j h1 h2 => ?_)
  have hs := ordA_set h (show j < b.length by omega)
  have hr := isSet_le hs
  unfold ordBad pairBad
  rw [Int.toNat_natCast, hasE_bit (isSet_8 hs) (by omega) (by omega), ← bne_bnot (isSet_8 hs)]
  have e : decide ((j : Int) ≠ a) = decide ((a : Int) ≠ j) := decide_eq_decide.2 ⟨fun h => fun e => h e.symm, fun h => fun e => h e.symm⟩
  rw [e]
def abcB : ByteArray := ⟨#[97, 98, 99, 100, 101, 102, 103, 104]⟩
theorem abc_size (l h : Nat) : (abcB.extract l h).size ≤ 8 := by
  rw [ByteArray.size_extract]
  have : abcB.size = 8 := rfl
  omega
def addTx : List Int → ByteArray → ByteArray
  | [], acc => acc
  | e :: r, acc => addTx r (acc ++ abcB.extract e.toNat (IntKind.i64.wrap (e + 1)).toNat)
theorem addTx_size : ∀ (es : List Int) (acc : ByteArray), (addTx es acc).size ≤ acc.size + 8 * es.length
  | [], acc => by simp [addTx]
  | e :: r, acc => by
    have h := addTx_size r (acc ++ abcB.extract e.toNat (IntKind.i64.wrap (e + 1)).toNat)
    have h2 := abc_size e.toNat (IntKind.i64.wrap (e + 1)).toNat
    rw [ByteArray.size_append] at h
    rw [addTx, List.length_cons]
    omega
def setTx (s : Int) : ByteArray := bif isSet 8 s then (bif s == 0 then ⟨#[45]⟩ else addTx (elemsF s) ⟨#[]⟩) else ⟨#[]⟩
theorem setTx_size (s : Int) : (setTx s).size ≤ 64 := by
  unfold setTx
  cases isSet 8 s
  · exact Nat.zero_le _
  · rw [cond_true]
    cases s == 0
    · rw [cond_false]
      have h := addTx_size (elemsF s) ⟨#[]⟩
      have h2 : (elemsF s).length ≤ 8 := elemsL_length _ _ _
      have h3 : (⟨#[]⟩ : ByteArray).size = 0 := rfl
      omega
    · rw [cond_true]; decide
def setsTx (a : List Int) : ByteArray := bif a.all (isSet 8) then (bif (a.length : Int) == 0 then ⟨#[110, 111, 110, 101]⟩ else joinF (a.map setTx) ⟨#[44]⟩) else ⟨#[]⟩
theorem elems_rng {s e : Int} (h : e ∈ elemsF s) : 0 ≤ e ∧ e ≤ 7 := by
  obtain ⟨j, h1, h2, h3, h4⟩ := elemsL_mem s e 8 0 h
  omega
theorem abc_slice {e : Int} (h : 0 ≤ e ∧ e ≤ 7) : (decide (0 ≤ e) && (decide (e ≤ IntKind.i64.wrap (e + 1)) && decide (IntKind.i64.wrap (e + 1) ≤ 8))) = true := by
  rw [wrap64 (by omega) (by omega), dt h.1, dt (show e ≤ e + 1 by omega), dt (show e + 1 ≤ 8 by omega)]
  rfl
def okTxt (ys : List ByteArray) : Bool := ys.all (fun y => decide (y.size ≤ 1048576))
theorem okTxt_iff {ys : List ByteArray} : okTxt ys = true ↔ ∀ y ∈ ys, y.size ≤ 1048576 := by
  unfold okTxt
  simp only [List.all_eq_true, decide_eq_true_eq]
theorem strInts_len (s : ByteArray) : (strInts s).length = s.size := by
  unfold strInts
  rw [List.length_map, Array.length_toList]
  rfl
theorem setTx_ok (a : List Int) : okTxt (a.map setTx) = true := by
  rw [okTxt_iff]
  intro y hy
  obtain ⟨s, _, rfl⟩ := List.mem_map.1 hy
  have := setTx_size s
  omega
def bstr (l : List UInt8) : ByteArray := ⟨l.toArray⟩
theorem bstr_app (l r : List UInt8) : bstr l ++ bstr r = bstr (l ++ r) := by
  apply ByteArray.ext
  rw [ByteArray.data_append]
  simp [bstr]
theorem bstr_size (l : List UInt8) : (bstr l).size = l.length := rfl
def digs (u : Nat) : List UInt8 := if u = 0 then [] else Lib.decDigits u
theorem digs_step {u : Nat} (h : u ≠ 0) : digs u = digs (u / 10) ++ [UInt8.ofNat (48 + u % 10)] := by
  unfold digs
  rw [if_neg h, Lib.decDigits]
  split
  · rename_i h1
    rw [if_pos (by omega), Nat.mod_eq_of_lt h1]
    rfl
  · rename_i h1
    rw [if_neg (by omega)]
theorem digs_len : ∀ (d u : Nat), u < 10 ^ d → (digs u).length ≤ d
  | 0, u, h => by
    have : u = 0 := by simpa using h
    subst this
    simp [digs]
  | d + 1, u, h => by
    by_cases h0 : u = 0
    · subst h0; simp [digs]
    · rw [digs_step h0, List.length_append]
      have := digs_len d (u / 10) (by rw [Nat.pow_succ] at h; omega)
      simp only [List.length_singleton]
      omega
theorem tdiv_abs (n : Int) : (n.tdiv 10).natAbs = n.natAbs / 10 := by
  rw [Int.natAbs_tdiv]; rfl
theorem tmod_abs (n : Int) : (n.tmod 10).natAbs = n.natAbs % 10 := by
  rw [Int.natAbs_tmod]; rfl
theorem byte_of {x : Nat} (h : x < 10) : intsStr [IntKind.u8.wrap (48 + (x : Int))] = bstr [UInt8.ofNat (48 + x)] := by
  have : ∀ x : Fin 10, [UInt8.ofNat (IntKind.u8.wrap (48 + (x.val : Int))).toNat] = [UInt8.ofNat (48 + x.val)] := by decide +kernel
  unfold intsStr bstr
  rw [List.map_cons, List.map_nil, this ⟨x, h⟩]
theorem itoa_digs {n : Int} (h : n ≠ 0) : itoaB n = bif decide (n < 0) then bstr [45] ++ bstr (digs n.natAbs) else bstr (digs n.natAbs) := by
  have h0 : n.natAbs ≠ 0 := by omega
  unfold itoaB Lib.itoa digs
  rw [if_neg h0]
  by_cases hn : n < 0
  · rw [if_pos hn, decide_eq_true hn, cond_true, bstr_app]
    rfl
  · rw [if_neg hn, decide_eq_false hn, cond_false]
    have : n.toNat = n.natAbs := by omega
    rw [this]
    rfl
theorem itoa_zero : itoaB 0 = bstr [48] := by
  unfold itoaB Lib.itoa
  rw [if_neg (by decide), Lib.decDigits]
  rfl
theorem itoa_len {n : Int} (h0 : -9223372036854775808 ≤ n) (h1 : n ≤ 9223372036854775807) : (itoaB n).size ≤ 20 := by
  by_cases h : n = 0
  · subst h; rw [itoa_zero]; decide
  · rw [itoa_digs h]
    have hd := digs_len 19 n.natAbs (by omega)
    cases decide (n < 0)
    · rw [cond_false, bstr_size]; omega
    · rw [cond_true, bstr_app, bstr_size, List.length_append, List.length_singleton]; omega
theorem bstr_nil (s : ByteArray) : bstr [] ++ s = s := by
  apply ByteArray.ext
  rw [ByteArray.data_append]
  simp [bstr]
theorem digs_zero : digs 0 = [] := rfl
theorem digit_pos {x : Int} (h : 0 ≤ x.tmod 10) : intsStr [IntKind.u8.wrap (IntKind.i64.wrap (48 + x.tmod 10))] = bstr [UInt8.ofNat (48 + x.natAbs % 10)] := by
  have e := tmod_abs x
  have e2 : x.tmod 10 = ((x.natAbs % 10 : Nat) : Int) := by omega
  rw [e2, wrap64 (by omega) (by omega)]
  exact byte_of (Nat.mod_lt _ (by omega))
theorem digit_neg {x : Int} (h : ¬ 0 ≤ x.tmod 10) : intsStr [IntKind.u8.wrap (IntKind.i64.wrap (48 + IntKind.i64.wrap (0 - x.tmod 10)))] = bstr [UInt8.ofNat (48 + x.natAbs % 10)] := by
  have e := tmod_abs x
  have e2 : 0 - x.tmod 10 = ((x.natAbs % 10 : Nat) : Int) := by omega
  rw [e2, wrap64 (n := ((x.natAbs % 10 : Nat) : Int)) (by omega) (by omega), wrap64 (by omega) (by omega)]
  exact byte_of (Nat.mod_lt _ (by omega))
def rngB (a : List Int) : Bool := a.all (fun n => decide (-9223372036854775808 ≤ n ∧ n ≤ 9223372036854775807))
theorem rngB_at {a : List Int} (h : rngB a = true) {i : Nat} (hi : i < a.length) : -9223372036854775808 ≤ a.getD i 0 ∧ a.getD i 0 ≤ 9223372036854775807 := of_decide_eq_true (List.all_eq_true.1 h _ (mem_getD hi))
theorem rngB_of {a : List Int} (h : ∀ y ∈ a, (Lit.int .i64 y).wf = true) : rngB a = true := by
  unfold rngB
  rw [List.all_eq_true]
  intro y hy
  have := h y hy
  unfold Lit.wf at this
  simp only [Bool.and_eq_true, decide_eq_true_eq] at this
  exact dt this
def ctxTx (m : Int) (a : List Int) : ByteArray := bif isCtx m a then (itoaB m ++ ⟨#[32]⟩) ++ setsTx a else ⟨#[]⟩
theorem setsTx_size (a : List Int) : (setsTx a).size ≤ 1048576 := by
  unfold setsTx
  cases a.all (isSet 8)
  · rw [cond_false]; decide
  · rw [cond_true]
    cases (a.length : Int) == 0
    · rw [cond_false]
      unfold joinF
      split
      · assumption
      · decide
    · rw [cond_true]; decide
/- spec.l1In -/
def K_l1In : List AV → List Ob → Option (AV × List Ob)
  | [.int .i64 n, .int .i64 l, .int .i64 h], [] => gd (True) (.bool (decide (l ≤ n ∧ n ≤ h)), [])
  | _, _ => none
@[reducible] def E_l1In : Env := mkE (tb []) (fun f => false) (fun r => ([], []))
theorem ev_l1In (n l h : Int) (hp : True) : evF E_l1In (1) Try.f56 [.int .i64 n, .int .i64 l, .int .i64 h] [] = some (.bool (decide (l ≤ n ∧ n ≤ h)), []) := by
  conv => lhs; whnf
  refine br_c (fun h1 => ?_) (fun h1 => ?_)
  · conv => lhs; whnf
    repeat ((first | with_reducible apply br_tt | with_reducible apply br_ff | with_reducible apply br_nf | with_reducible apply br_nt | with_reducible refine br_d ?_ (by kernel_rfl) | with_reducible apply br_t h1 | with_reducible apply br_f h1); conv => lhs; whnf)
    have := ofd h1
    simp [this]
  · conv => lhs; whnf
    repeat ((first | with_reducible apply br_tt | with_reducible apply br_ff | with_reducible apply br_nf | with_reducible apply br_nt | with_reducible refine br_d ?_ (by kernel_rfl) | with_reducible apply br_t h1 | with_reducible apply br_f h1); conv => lhs; whnf)
    have := ofn h1
    simp [this]
theorem ok_l1In : FnOk Try.prog 56 K_l1In := by
  refine fn_ok (fn := Try.f56) (k := Try.f56.ntmps) (E := E_l1In) (facts_of (List.forall_mem_nil _)) (by kernel_rfl) rfl (by decide +kernel) (by decide +kernel) ?_
  intro avs hin r h
  unfold K_l1In at h
  split at h
  · obtain ⟨hp, rfl⟩ := gd_o h
    exact ⟨_, ev_l1In _ _ _ hp, rfl⟩
  · cases h

/- spec.IsSet -/
def K_specIsSet : List AV → List Ob → Option (AV × List Ob)
  | [.int .i64 n, .int .i64 s], [] => gd (True) (.bool (isSet n s), [])
  | _, _ => none
@[reducible] def E_specIsSet : Env := mkE (tb [(56, K_l1In)]) (fun f => false) (fun r => ([], []))
theorem ev_specIsSet (n s : Int) (hp : True) : evF E_specIsSet (1) Try.f31 [.int .i64 n, .int .i64 s] [] = some (.bool (isSet n s), []) := by
  conv => lhs; whnf
  conv => lhs; arg 1; whnf
  refine bnd_g (by exact True.intro) ?_
  conv => lhs; whnf
  refine br_c (fun h => ?_) (fun h => ?_)
  · conv => lhs; whnf
    have h8 := ofd h
    repeat ((first | with_reducible apply br_tt | with_reducible apply br_ff | with_reducible apply br_nf | with_reducible apply br_nt | with_reducible refine br_d ?_ (by kernel_rfl) | with_reducible apply br_t h | with_reducible apply br_f h); conv => lhs; whnf)
    rw [wrapu h8.1 h8.2]
    refine br_f (df (by omega)) ?_
    conv => lhs; whnf
    repeat ((first | with_reducible apply br_tt | with_reducible apply br_ff | with_reducible apply br_nf | with_reducible apply br_nt | with_reducible refine br_d ?_ (by kernel_rfl) | with_reducible apply br_t h | with_reducible apply br_f h); conv => lhs; whnf)
    conv => lhs; arg 1; whnf
    refine bnd_g (by exact True.intro) ?_
    conv => lhs; whnf
    repeat ((first | with_reducible apply br_tt | with_reducible apply br_ff | with_reducible apply br_nf | with_reducible apply br_nt | with_reducible refine br_d ?_ (by kernel_rfl) | with_reducible apply br_t h | with_reducible apply br_f h); conv => lhs; whnf)
    refine okB ?_
    unfold isSet
    refine decide_eq_decide.2 ?_
    rw [shl_set h8.1 h8.2]
    exact ⟨fun h => ⟨h8, h⟩, fun h => h.2⟩
  · conv => lhs; whnf
    repeat ((first | with_reducible apply br_tt | with_reducible apply br_ff | with_reducible apply br_nf | with_reducible apply br_nt | with_reducible refine br_d ?_ (by kernel_rfl) | with_reducible apply br_t h | with_reducible apply br_f h); conv => lhs; whnf)
    have h8 := ofn h
    simp [isSet, h8]
theorem ok_specIsSet : FnOk Try.prog 31 K_specIsSet := by
  refine fn_ok (fn := Try.f31) (k := Try.f31.ntmps) (E := E_specIsSet) (facts_of (List.forall_mem_cons.2 ⟨ok_l1In, List.forall_mem_nil _⟩)) (by kernel_rfl) rfl (by decide +kernel) (by decide +kernel) ?_
  intro avs hin r h
  unfold K_specIsSet at h
  split at h
  · obtain ⟨hp, rfl⟩ := gd_o h
    exact ⟨_, ev_specIsSet _ _ hp, rfl⟩
  · cases h

/- spec.IsContext -/
def K_specIsContext : List AV → List Ob → Option (AV × List Ob)
  | [.agg [.int .i64 m, .lst (.int .i64) a]], [] => gd (a.length < 4611686018427387904) (.bool (isCtx m a), [])
  | _, _ => none
@[reducible] def E_specIsContext : Env := mkE (tb [(31, K_specIsSet), (56, K_l1In)]) (fun f => false) (fun r => bif r == 2 then ([1, 3], [1, 2]) else ([], []))
theorem lp_specIsContext (m : Int) (a : List Int) (ha : a.length < 4611686018427387904) (k : AX → S → Option (AV × List Ob)) (r : Option (AV × List Ob)) (hk : k .ret (mkS [1, 2] [.ptr 0 0, .bool false] [some (.box 41 [.int .i64 m, .lst (.int .i64) a])]) = r) (d : Nat) : ∀ (n i : Nat) (x : Int), a.length - i = d → i ≤ a.length → x = i → d < n →
    lpAt E_specIsContext (lp E_specIsContext 0 n) 0 (loopAt Try.f42 0) (mkS [1, 3] [.ptr 0 0, .int .i64 x] [some (.box 41 [.int .i64 m, .lst (.int .i64) a])]) k =
      if (a.drop i).all (isSet m) then k (.exit 0) (mkS [1, 2] [.ptr 0 0, .any] [some (.box 41 [.int .i64 m, .lst (.int .i64) a])]) else r := by
  induction d with
  | zero =>
    intro n i x hd hi hx hn
    subst hx
    rw [lpAt_def]
    conv => lhs; whnf
    refine br_f (df (by omega)) ?_
    conv => lhs; whnf
    rw [List.drop_of_length_le (by omega), if_pos (by rfl)]
  | succ d ih =>
    intro n i x hd hi hx hn
    obtain ⟨n, rfl⟩ : ∃ m, n = m + 1 := ⟨n - 1, by omega⟩
    subst hx
    rw [lpAt_def]
    conv => lhs; whnf
    refine br_t (dt (by omega)) ?_
    conv => lhs; whnf
    refine br_t (dt2 (by omega) (by omega)) ?_
    conv => lhs; whnf
    conv => lhs; arg 1; whnf
    refine bnd_g (by exact True.intro) ?_
    conv => lhs; whnf
    refine br_t (by kernel_rfl) ?_
    conv => lhs; whnf
    rw [getD_drop (l := a) (i := i) (d := 0) (by omega)]
    refine br_c (fun h => ?_) (fun h => ?_)
    · have h' : isSet m (a.getD i 0) = false := by simpa using h
      conv => lhs; whnf
      rw [if_neg (by rw [List.all_cons, h', Bool.false_and]; exact Bool.false_ne_true)]
      exact hk
    · have h' : isSet m (a.getD i 0) = true := by simpa using h
      conv => lhs; whnf
      rw [ih n (i + 1) _ (by omega) (by omega) (by rw [wrap64 (by omega) (by omega)]; simp) (by omega)]
      rw [List.all_cons, h', Bool.true_and]
theorem ev_specIsContext (m : Int) (a : List Int) (hp : a.length < 4611686018427387904) : evF E_specIsContext (a.length + 2) Try.f42 [.agg [.int .i64 m, .lst (.int .i64) a]] [] = some (.bool (isCtx m a), []) := by
  conv => lhs; whnf
  refine (lp_specIsContext m a hp _ _ rfl a.length _ 0 0 rfl (by omega) rfl (by omega)).trans ?_
  simp only [List.drop_zero]
  split
  · rename_i hA
    conv => lhs; whnf
    conv => lhs; arg 1; whnf
    refine bnd_g (by exact True.intro) ?_
    conv => lhs; whnf
    refine br_c (fun h => ?_) (fun h => ?_)
    · conv => lhs; whnf
      repeat ((first | with_reducible apply br_tt | with_reducible apply br_ff | with_reducible apply br_nf | with_reducible apply br_nt | with_reducible refine br_d ?_ (by kernel_rfl) | with_reducible apply br_t h | with_reducible apply br_f h); conv => lhs; whnf)
      refine okB ?_
      unfold isCtx
      rw [h, hA, Bool.true_and, Bool.and_true]
      exact decide_eq_decide.2 (by omega)
    · conv => lhs; whnf
      repeat ((first | with_reducible apply br_tt | with_reducible apply br_ff | with_reducible apply br_nf | with_reducible apply br_nt | with_reducible refine br_d ?_ (by kernel_rfl) | with_reducible apply br_t h | with_reducible apply br_f h); conv => lhs; whnf)
      refine okB ?_
      unfold isCtx
      rw [h, Bool.false_and, Bool.false_and]
  · rename_i hA
    conv => lhs; whnf
    refine okB ?_
    unfold isCtx
    rw [Bool.not_eq_true] at hA
    rw [hA, Bool.and_false]
theorem ok_specIsContext : FnOk Try.prog 42 K_specIsContext := by
  refine fn_ok (fn := Try.f42) (k := Try.f42.ntmps) (E := E_specIsContext) (facts_of (List.forall_mem_cons.2 ⟨ok_specIsSet, List.forall_mem_cons.2 ⟨ok_l1In, List.forall_mem_nil _⟩⟩)) (by kernel_rfl) rfl (by decide +kernel) (by decide +kernel) ?_
  intro avs hin r h
  unfold K_specIsContext at h
  split at h
  · obtain ⟨hp, rfl⟩ := gd_o h
    exact ⟨_, ev_specIsContext _ _ hp, rfl⟩
  · cases h

/- spec.FormatInt -/
def K_specFormatInt : List AV → List Ob → Option (AV × List Ob)
  | [.int .i64 n], [] => gd (-9223372036854775808 ≤ n ∧ n ≤ 9223372036854775807) (.str (itoaB n), [])
  | _, _ => none
@[reducible] def E_specFormatInt : Env := mkE (tb []) (fun f => false) (fun r => bif r == 5 then ([0, 3, 4], [3, 4]) else ([], []))
theorem lp_specFormatInt (f : Bool) (k : AX → S → Option (AV × List Ob)) (d : Nat) : ∀ (n : Nat) (x : Int) (out : ByteArray), x.natAbs < 10 ^ d → d < n → out.size + d ≤ 100 → -9223372036854775808 ≤ x → x ≤ 9223372036854775807 →
    lpAt E_specFormatInt (lp E_specFormatInt 0 n) 0 (loopAt Try.f43 0) (mkS [0, 3, 4] [.int .i64 x, .bool f, .str out] []) k =
      k (.exit 0) (mkS [3, 4] [.bool f, .str (bstr (digs x.natAbs) ++ out)] []) := by
  induction d with
  | zero =>
    intro n x out hx hn hz h0 h1
    have : x = 0 := by
      have : x.natAbs < 1 := hx
      omega
    subst this
    obtain ⟨n, rfl⟩ : ∃ m, n = m + 1 := ⟨n - 1, by omega⟩
    rw [lpAt_def]
    conv => lhs; whnf
    refine br_f (by rfl) ?_
    conv => lhs; whnf
    rw [show (0 : Int).natAbs = 0 from rfl, digs_zero, bstr_nil]
  | succ d ih =>
    intro n x out hx hn hz h0 h1
    obtain ⟨n, rfl⟩ : ∃ m, n = m + 1 := ⟨n - 1, by omega⟩
    have hq := tdiv_abs x
    have hqd : (x.tdiv 10).natAbs < 10 ^ d := by
      rw [hq]
      rw [Nat.pow_succ] at hx
      omega
    have hwq : IntKind.i64.wrap (x.tdiv 10) = x.tdiv 10 := wrap64 (by omega) (by omega)
    rw [lpAt_def]
    conv => lhs; whnf
    refine br_c (fun h => ?_) (fun h => ?_)
    · have h' : (x != 0) = true := h
      have hne : x.natAbs ≠ 0 := by
        have : x ≠ 0 := by simpa using h'
        omega
      have hsz : ∀ v : ByteArray, v = bstr [UInt8.ofNat (48 + x.natAbs % 10)] → (v ++ out).size = 1 + out.size := fun v hv => by rw [hv, ByteArray.size_append]; rfl
      conv => lhs; whnf
      refine br_f (df (by omega)) ?_
      conv => lhs; whnf
      refine br_c (fun h2 => ?_) (fun h2 => ?_)
      · have h2' : ¬ 0 ≤ x.tmod 10 := by
          have := ofd h2
          have : x.tmod 10 < 0 := this
          omega
        have e := digit_neg h2'
        conv => lhs; whnf
        refine br_t (by (refine dt ?_; change (intsStr [IntKind.u8.wrap (IntKind.i64.wrap (48 + IntKind.i64.wrap (0 - x.tmod 10)))]).size + out.size ≤ 9223372036854775807; rw [e]; show 1 + out.size ≤ _; omega)) ?_
        conv => lhs; whnf
        refine br_f (df (by omega)) ?_
        conv => lhs; whnf
        refine Eq.trans (ih n _ _ (by rw [hwq]; exact hqd) (by omega) (by rw [hsz _ e]; omega) (by rw [hwq]; omega) (by rw [hwq]; omega)) ?_
        rw [hwq, hq]
        have e3 : bstr (digs (x.natAbs / 10)) ++ (intsStr [IntKind.u8.wrap (IntKind.i64.wrap (48 + IntKind.i64.wrap (0 - x.tmod 10)))] ++ out) = bstr (digs x.natAbs) ++ out := by rw [e, ← ByteArray.append_assoc, bstr_app, ← digs_step hne]
        rw [← e3]
      · have h2' : 0 ≤ x.tmod 10 := by
          have := ofn h2
          have : ¬ x.tmod 10 < 0 := this
          omega
        have e := digit_pos h2'
        conv => lhs; whnf
        refine br_t (by (refine dt ?_; change (intsStr [IntKind.u8.wrap (IntKind.i64.wrap (48 + x.tmod 10))]).size + out.size ≤ 9223372036854775807; rw [e]; show 1 + out.size ≤ _; omega)) ?_
        conv => lhs; whnf
        refine br_f (df (by omega)) ?_
        conv => lhs; whnf
        refine Eq.trans (ih n _ _ (by rw [hwq]; exact hqd) (by omega) (by rw [hsz _ e]; omega) (by rw [hwq]; omega) (by rw [hwq]; omega)) ?_
        rw [hwq, hq]
        have e3 : bstr (digs (x.natAbs / 10)) ++ (intsStr [IntKind.u8.wrap (IntKind.i64.wrap (48 + x.tmod 10))] ++ out) = bstr (digs x.natAbs) ++ out := by rw [e, ← ByteArray.append_assoc, bstr_app, ← digs_step hne]
        rw [← e3]
    · have h' : (x != 0) = false := h
      have : x = 0 := by simpa using h'
      subst this
      conv => lhs; whnf
      rw [show (0 : Int).natAbs = 0 from rfl, digs_zero, bstr_nil]
theorem ev_specFormatInt (n : Int) (hp : -9223372036854775808 ≤ n ∧ n ≤ 9223372036854775807) : evF E_specFormatInt (40) Try.f43 [.int .i64 n] [] = some (.str (itoaB n), []) := by
  conv => lhs; whnf
  refine br_c (fun h => ?_) (fun h => ?_)
  · have h' : (n == 0) = true := h
    have : n = 0 := by simpa using h'
    subst this
    conv => lhs; whnf
    rw [itoa_zero]
    rfl
  · have h' : (n == 0) = false := h
    have hne : n ≠ 0 := by simpa using h'
    have hd := digs_len 19 n.natAbs (by omega)
    conv => lhs; whnf
    refine (lp_specFormatInt _ _ 19 _ n ⟨#[]⟩ (by omega) (by change 19 < 39; omega) (by decide) hp.1 hp.2).trans ?_
    have e : bstr (digs n.natAbs) ++ (⟨#[]⟩ : ByteArray) = bstr (digs n.natAbs) := by
      have := bstr_app (digs n.natAbs) []
      rw [List.append_nil] at this
      exact this
    rw [e, itoa_digs hne]
    conv => lhs; whnf
    refine br_c (fun h2 => ?_) (fun h2 => ?_)
    · have h2' : decide (n < 0) = true := h2
      rw [h2', cond_true]
      conv => lhs; whnf
      refine br_t (by (refine dt ?_; change (1 : Nat) + (bstr (digs n.natAbs)).size ≤ 9223372036854775807; rw [bstr_size]; omega)) ?_
      conv => lhs; whnf
      rfl
    · have h2' : decide (n < 0) = false := h2
      rw [h2', cond_false]
      conv => lhs; whnf
theorem ok_specFormatInt : FnOk Try.prog 43 K_specFormatInt := by
  refine fn_ok (fn := Try.f43) (k := Try.f43.ntmps) (E := E_specFormatInt) (facts_of (List.forall_mem_nil _)) (by kernel_rfl) rfl (by decide +kernel) (by decide +kernel) ?_
  intro avs hin r h
  unfold K_specFormatInt at h
  split at h
  · obtain ⟨hp, rfl⟩ := gd_o h
    exact ⟨_, ev_specFormatInt _ hp, rfl⟩
  · cases h

/- spec.l2Sets -/
def K_l2Sets : List AV → List Ob → Option (AV × List Ob)
  | [.lst (.int .i64) a], [] => gd (a.length ≤ 1048576) (.bool (a.all (isSet 8)), [])
  | _, _ => none
@[reducible] def E_l2Sets : Env := mkE (tb [(31, K_specIsSet)]) (fun f => false) (fun r => bif r == 2 then ([0, 3], [2]) else ([], []))
theorem lp_l2Sets (a : List Int) (ha : a.length ≤ 1048576) (k : AX → S → Option (AV × List Ob)) (d : Nat) : ∀ (n i : Nat) (x : Int), a.length - i = d → i ≤ a.length → x = i → d < n →
    lpAt E_l2Sets (lp E_l2Sets 0 n) 0 (loopAt Try.f73 0) (mkS [0, 3] [.lst (.int .i64) a, .int .i64 x] []) k =
      if (a.drop i).all (isSet 8) then k (.exit 0) (mkS [2] [.any] []) else k .ret (mkS [2] [.bool false] []) := by
  induction d with
  | zero =>
    intro n i x hd hi hx hn
    subst hx
    rw [lpAt_def]
    conv => lhs; whnf
    refine br_f (df (by omega)) ?_
    conv => lhs; whnf
    rw [List.drop_of_length_le (by omega)]
    simp
  | succ d ih =>
    intro n i x hd hi hx hn
    obtain ⟨n, rfl⟩ : ∃ m, n = m + 1 := ⟨n - 1, by omega⟩
    subst hx
    rw [lpAt_def]
    conv => lhs; whnf
    refine br_t (dt (by omega)) ?_
    conv => lhs; whnf
    refine br_t (dt2 (by omega) (by omega)) ?_
    conv => lhs; whnf
    conv => lhs; arg 1; whnf
    refine bnd_g (by exact True.intro) ?_
    conv => lhs; whnf
    rw [getD_drop (l := a) (i := i) (d := 0) (by omega), List.all_cons]
    refine br_c (fun h => ?_) (fun h => ?_)
    · have h' : isSet 8 (a.getD i 0) = false := bnt h
      conv => lhs; whnf
      rw [h', Bool.false_and, if_neg (by simp)]
    · have h' : isSet 8 (a.getD i 0) = true := bnf h
      conv => lhs; whnf
      refine Eq.trans (ih n (i + 1) _ (by omega) (by omega) (by rw [wrap64 (n := (i : Int) + 1) (by omega) (by omega)]; simp) (by omega)) ?_
      rw [h', Bool.true_and]
theorem ev_l2Sets (a : List Int) (hp : a.length ≤ 1048576) : evF E_l2Sets (a.length + 2) Try.f73 [.lst (.int .i64) a] [] = some (.bool (a.all (isSet 8)), []) := by
  conv => lhs; whnf
  refine (lp_l2Sets a hp _ a.length _ 0 0 rfl (Nat.zero_le _) rfl (by omega)).trans ?_
  rw [List.drop_zero]
  split
  · rename_i h
    conv => lhs; whnf
    rw [h]
  · rename_i h
    conv => lhs; whnf
    rw [Bool.not_eq_true] at h
    rw [h]
theorem ok_l2Sets : FnOk Try.prog 73 K_l2Sets := by
  refine fn_ok (fn := Try.f73) (k := Try.f73.ntmps) (E := E_l2Sets) (facts_of (List.forall_mem_cons.2 ⟨ok_specIsSet, List.forall_mem_nil _⟩)) (by kernel_rfl) rfl (by decide +kernel) (by decide +kernel) ?_
  intro avs hin r h
  unfold K_l2Sets at h
  split at h
  · obtain ⟨hp, rfl⟩ := gd_o h
    exact ⟨_, ev_l2Sets _ hp, rfl⟩
  · cases h

/- spec.l2Has -/
def K_l2Has : List AV → List Ob → Option (AV × List Ob)
  | [.int .i64 s, .int .i64 e], [] => gd ((0 ≤ s ∧ s ≤ 255) ∧ (0 ≤ e ∧ e ≤ 8)) (.bool (s.toNat.testBit e.toNat), [])
  | _, _ => none
@[reducible] def E_l2Has : Env := mkE (tb []) (fun f => false) (fun r => ([], []))
theorem ev_l2Has (s e : Int) (hp : (0 ≤ s ∧ s ≤ 255) ∧ (0 ≤ e ∧ e ≤ 8)) : evF E_l2Has (1) Try.f57 [.int .i64 s, .int .i64 e] [] = some (.bool (s.toNat.testBit e.toNat), []) := by
  obtain ⟨⟨h0, h1⟩, h2, h3⟩ := hp
  conv => lhs; whnf
  rw [wrapu h2 h3]
  refine br_f (df (by omega)) ?_
  conv => lhs; whnf
  exact okB (bit_of h0 h1 h2 h3)
theorem ok_l2Has : FnOk Try.prog 57 K_l2Has := by
  refine fn_ok (fn := Try.f57) (k := Try.f57.ntmps) (E := E_l2Has) (facts_of (List.forall_mem_nil _)) (by kernel_rfl) rfl (by decide +kernel) (by decide +kernel) ?_
  intro avs hin r h
  unfold K_l2Has at h
  split at h
  · obtain ⟨hp, rfl⟩ := gd_o h
    exact ⟨_, ev_l2Has _ _ hp, rfl⟩
  · cases h

/- spec.HasElement -/
def K_specHasElement : List AV → List Ob → Option (AV × List Ob)
  | [.int .i64 s, .int .i64 e], [] => gd (True) (.bool (hasE s e), [])
  | _, _ => none
@[reducible] def E_specHasElement : Env := mkE (tb [(31, K_specIsSet), (56, K_l1In), (57, K_l2Has)]) (fun f => false) (fun r => ([], []))
theorem ev_specHasElement (s e : Int) (hp : True) : evF E_specHasElement (1) Try.f95 [.int .i64 s, .int .i64 e] [] = some (.bool (hasE s e), []) := by
  conv => lhs; whnf
  conv => lhs; arg 1; whnf
  refine bnd_g (by exact True.intro) ?_
  conv => lhs; whnf
  refine br_c (fun h => ?_) (fun h => ?_)
  · conv => lhs; whnf
    repeat ((first | with_reducible apply br_tt | with_reducible apply br_ff | with_reducible apply br_nf | with_reducible apply br_nt | with_reducible refine br_d ?_ (by kernel_rfl) | with_reducible apply br_t h | with_reducible apply br_f h); conv => lhs; whnf)
    conv => lhs; arg 1; whnf
    refine bnd_g (by exact True.intro) ?_
    conv => lhs; whnf
    repeat ((first | with_reducible apply br_tt | with_reducible apply br_ff | with_reducible apply br_nf | with_reducible apply br_nt | with_reducible refine br_d ?_ (by kernel_rfl) | with_reducible apply br_t h | with_reducible apply br_f h); conv => lhs; whnf)
    have hs := isSet_le h
    refine br_c (fun h2 => ?_) (fun h2 => ?_)
    · conv => lhs; whnf
      repeat ((first | with_reducible apply br_tt | with_reducible apply br_ff | with_reducible apply br_nf | with_reducible apply br_nt | with_reducible refine br_d ?_ (by kernel_rfl) | with_reducible apply br_t h | with_reducible apply br_f h | with_reducible apply br_t h2 | with_reducible apply br_f h2); conv => lhs; whnf)
      have h2' := ofd h2
      conv => lhs; arg 1; whnf
      refine bnd_g (by exact ⟨by omega, by omega⟩) ?_
      conv => lhs; whnf
      repeat ((first | with_reducible apply br_tt | with_reducible apply br_ff | with_reducible apply br_nf | with_reducible apply br_nt | with_reducible refine br_d ?_ (by kernel_rfl) | with_reducible apply br_t h | with_reducible apply br_f h | with_reducible apply br_t h2 | with_reducible apply br_f h2); conv => lhs; whnf)
      refine okB ?_
      unfold hasE
      rw [h, h2, Bool.true_and, Bool.true_and]
    · conv => lhs; whnf
      repeat ((first | with_reducible apply br_tt | with_reducible apply br_ff | with_reducible apply br_nf | with_reducible apply br_nt | with_reducible refine br_d ?_ (by kernel_rfl) | with_reducible apply br_t h | with_reducible apply br_f h | with_reducible apply br_t h2 | with_reducible apply br_f h2); conv => lhs; whnf)
      refine okB ?_
      unfold hasE
      rw [h, h2]
      rfl
  · conv => lhs; whnf
    repeat ((first | with_reducible apply br_tt | with_reducible apply br_ff | with_reducible apply br_nf | with_reducible apply br_nt | with_reducible refine br_d ?_ (by kernel_rfl) | with_reducible apply br_t h | with_reducible apply br_f h); conv => lhs; whnf)
    refine okB ?_
    unfold hasE
    rw [h, Bool.false_and, Bool.false_and]
theorem ok_specHasElement : FnOk Try.prog 95 K_specHasElement := by
  refine fn_ok (fn := Try.f95) (k := Try.f95.ntmps) (E := E_specHasElement) (facts_of (List.forall_mem_cons.2 ⟨ok_specIsSet, List.forall_mem_cons.2 ⟨ok_l1In, List.forall_mem_cons.2 ⟨ok_l2Has, List.forall_mem_nil _⟩⟩⟩)) (by kernel_rfl) rfl (by decide +kernel) (by decide +kernel) ?_
  intro avs hin r h
  unfold K_specHasElement at h
  split at h
  · obtain ⟨hp, rfl⟩ := gd_o h
    exact ⟨_, ev_specHasElement _ _ hp, rfl⟩
  · cases h

/- spec.ElementsOf -/
def K_specElementsOf : List AV → List Ob → Option (AV × List Ob)
  | [.int .i64 s], [] => gd (True) (.own 0, [.row 3 (.int .i64) (elemsF s)])
  | _, _ => none
@[reducible] def E_specElementsOf : Env := mkE (tb [(95, K_specHasElement)]) (fun f => false) (fun r => bif r == 3 then ([0, 3, 4], [3]) else ([], []))
theorem lp_specElementsOf (s : Int) (k : AX → S → Option (AV × List Ob)) (d : Nat) : ∀ (n i : Nat) (x : Int) (ys : List Int), 8 - i = d → i ≤ 8 → x = i → d < n → ys.length ≤ i →
    lpAt E_specElementsOf (lp E_specElementsOf 0 n) 0 (loopAt Try.f91 0) (mkS [0, 3, 4] [.int .i64 s, .own 0, .int .i64 x] [some (.row 3 (.int .i64) ys)]) k =
      k (.exit 0) (mkS [3] [.own 0] [some (.row 3 (.int .i64) (ys ++ elemsL s d i))]) := by
  induction d with
  | zero =>
    intro n i x ys hd hi hx hn hl
    subst hx
    rw [lpAt_def]
    conv => lhs; whnf
    refine br_f (df (by omega)) ?_
    conv => lhs; whnf
    rw [elemsL, List.append_nil]
  | succ d ih =>
    intro n i x ys hd hi hx hn hl
    obtain ⟨n, rfl⟩ : ∃ m, n = m + 1 := ⟨n - 1, by omega⟩
    subst hx
    rw [lpAt_def]
    conv => lhs; whnf
    refine br_t (dt (by omega)) ?_
    conv => lhs; whnf
    conv => lhs; arg 1; whnf
    refine bnd_g (by exact True.intro) ?_
    conv => lhs; whnf
    refine br_c (fun h => ?_) (fun h => ?_)
    · conv => lhs; whnf
      refine br_t (dt (by simp [room]; omega)) ?_
      conv => lhs; whnf
      rw [ih n (i + 1) _ _ (by omega) (by omega) (by rw [wrap64 (n := (i : Int) + 1) (by omega) (by omega)]; simp) (by omega) (by simp; omega)]
      have h' : hasE s (i : Int) = true := h
      rw [elemsL, h', cond_true, List.append_assoc]
      rfl
    · conv => lhs; whnf
      rw [ih n (i + 1) _ _ (by omega) (by omega) (by rw [wrap64 (n := (i : Int) + 1) (by omega) (by omega)]; simp) (by omega) (by omega)]
      have h' : hasE s (i : Int) = false := h
      rw [elemsL, h', cond_false]
theorem ev_specElementsOf (s : Int) (hp : True) : evF E_specElementsOf (12) Try.f91 [.int .i64 s] [] = some (.own 0, [.row 3 (.int .i64) (elemsF s)]) := by
  conv => lhs; whnf
  refine (lp_specElementsOf s _ 8 _ 0 0 [] rfl (by omega) rfl (by change _ < 11; omega) (by simp)).trans ?_
  conv => lhs; whnf
  rfl
theorem ok_specElementsOf : FnOk Try.prog 91 K_specElementsOf := by
  refine fn_ok (fn := Try.f91) (k := Try.f91.ntmps) (E := E_specElementsOf) (facts_of (List.forall_mem_cons.2 ⟨ok_specHasElement, List.forall_mem_nil _⟩)) (by kernel_rfl) rfl (by decide +kernel) (by decide +kernel) ?_
  intro avs hin r h
  unfold K_specElementsOf at h
  split at h
  · obtain ⟨hp, rfl⟩ := gd_o h
    exact ⟨_, ev_specElementsOf _ hp, rfl⟩
  · cases h

/- spec.SetText -/
def K_specSetText : List AV → List Ob → Option (AV × List Ob)
  | [.int .i64 s], [] => gd (True) (.str (setTx s), [])
  | _, _ => none
@[reducible] def E_specSetText : Env := mkE (tb [(31, K_specIsSet), (91, K_specElementsOf)]) (fun f => false) (fun r => bif r == 8 then ([3, 4, 5], [3]) else ([], []))
theorem lp_specSetText (es : List Int) (he : es.length ≤ 8) (he2 : ∀ e ∈ es, 0 ≤ e ∧ e ≤ 7) (k : AX → S → Option (AV × List Ob)) (d : Nat) : ∀ (n i : Nat) (x : Int) (acc : ByteArray), es.length - i = d → i ≤ es.length → x = i → d < n → acc.size ≤ 8 * i →
    lpAt E_specSetText (lp E_specSetText 0 n) 0 (loopAt Try.f74 0) (mkS [3, 4, 5] [.str acc, .own 0, .int .i64 x] [some (.row 3 (.int .i64) es)]) k =
      k (.exit 0) (mkS [3] [.str (addTx (es.drop i) acc)] []) := by
  induction d with
  | zero =>
    intro n i x acc hd hi hx hn hz
    subst hx
    rw [lpAt_def]
    conv => lhs; whnf
    refine br_f (df (by omega)) ?_
    conv => lhs; whnf
    rw [List.drop_of_length_le (by omega), addTx]
  | succ d ih =>
    intro n i x acc hd hi hx hn hz
    obtain ⟨n, rfl⟩ : ∃ m, n = m + 1 := ⟨n - 1, by omega⟩
    subst hx
    have hei := he2 _ (mem_getD (l := es) (i := i) (d := 0) (by omega))
    have hab := abc_size (es.getD i 0).toNat (IntKind.i64.wrap (es.getD i 0 + 1)).toNat
    rw [lpAt_def]
    conv => lhs; whnf
    refine br_t (dt (by omega)) ?_
    conv => lhs; whnf
    refine br_t (dt2 (by omega) (by omega)) ?_
    conv => lhs; whnf
    refine br_t (dt (by omega)) ?_
    conv => lhs; whnf
    refine br_t (dt2 (by omega) (by omega)) ?_
    conv => lhs; whnf
    refine br_t (dt (by omega)) ?_
    conv => lhs; whnf
    refine br_t (by exact abc_slice hei) ?_
    conv => lhs; whnf
    refine br_t (by (refine dt ?_; change acc.size + (abcB.extract (es.getD i 0).toNat (IntKind.i64.wrap (es.getD i 0 + 1)).toNat).size ≤ 9223372036854775807; omega)) ?_
    conv => lhs; whnf
    repeat ((first | with_reducible apply br_tt | with_reducible apply br_ff | with_reducible apply br_nf | with_reducible apply br_nt | with_reducible refine br_d ?_ (by kernel_rfl)); conv => lhs; whnf)
    refine Eq.trans (ih n (i + 1) _ _ (by omega) (by omega) (by rw [wrap64 (n := (i : Int) + 1) (by omega) (by omega)]; simp) (by omega) (by change (acc ++ abcB.extract (es.getD i 0).toNat (IntKind.i64.wrap (es.getD i 0 + 1)).toNat).size ≤ _; rw [ByteArray.size_append]; omega)) ?_
    rw [getD_drop (l := es) (i := i) (d := 0) (by omega), addTx]
    rfl
theorem ev_specSetText (s : Int) (hp : True) : evF E_specSetText (20) Try.f74 [.int .i64 s] [] = some (.str (setTx s), []) := by
  unfold setTx
  conv => lhs; whnf
  conv => lhs; arg 1; whnf
  refine bnd_g (by exact True.intro) ?_
  conv => lhs; whnf
  refine br_c (fun h => ?_) (fun h => ?_)
  · rw [bnt h]
    conv => lhs; whnf
    rfl
  · rw [bnf h]
    conv => lhs; whnf
    refine br_c (fun h2 => ?_) (fun h2 => ?_)
    · have h2' : (s == 0) = true := h2
      rw [h2']
      conv => lhs; whnf
      rfl
    · have h2' : (s == 0) = false := h2
      rw [h2']
      have hel : (elemsF s).length ≤ 8 := elemsL_length _ _ _
      conv => lhs; whnf
      conv => lhs; arg 1; whnf
      refine bnd_g (by exact True.intro) ?_
      conv => lhs; whnf
      refine (lp_specSetText (elemsF s) hel (fun e h => elems_rng h) _ _ _ 0 0 ⟨#[]⟩ rfl (Nat.zero_le _) rfl (by change _ < 19; omega) (Nat.le_refl _)).trans ?_
      conv => lhs; whnf
      rfl
theorem ok_specSetText : FnOk Try.prog 74 K_specSetText := by
  refine fn_ok (fn := Try.f74) (k := Try.f74.ntmps) (E := E_specSetText) (facts_of (List.forall_mem_cons.2 ⟨ok_specIsSet, List.forall_mem_cons.2 ⟨ok_specElementsOf, List.forall_mem_nil _⟩⟩)) (by kernel_rfl) rfl (by decide +kernel) (by decide +kernel) ?_
  intro avs hin r h
  unfold K_specSetText at h
  split at h
  · obtain ⟨hp, rfl⟩ := gd_o h
    exact ⟨_, ev_specSetText _ hp, rfl⟩
  · cases h

/- spec.Join -/
def K_specJoin : List AV → List Ob → Option (AV × List Ob)
  | [.lst .str ys, .str sep], [] => gd (ys.length ≤ 1048576 ∧ okTxt ys = true ∧ sep.size ≤ 16) (.str (joinF ys sep), [])
  | _, _ => none
@[reducible] def E_specJoin : Env := mkE (tb []) (fun f => false) (fun r => bif r == 3 then ([0, 1, 5, 6], [4, 5]) else ([], []))
theorem lp_specJoin (ys : List ByteArray) (sep : ByteArray) (hl : ys.length ≤ 1048576) (hy : ∀ y ∈ ys, y.size ≤ 1048576) (hs : sep.size ≤ 16) (k : AX → S → Option (AV × List Ob)) (r : Option (AV × List Ob)) (hk : ∀ zs, k .ret (mkS [4, 5] [.str ⟨#[]⟩, .own 0] [some (.row 5 (.int .u8) zs)]) = r) (d : Nat) : ∀ (n i : Nat) (x : Int) (zs : List Int), ys.length - i = d → i ≤ ys.length → x = i → d < n → zs.length ≤ 1048576 →
    lpAt E_specJoin (lp E_specJoin 0 n) 0 (loopAt Try.f75 0) (mkS [0, 1, 5, 6] [.lst .str ys, .str sep, .own 0, .int .i64 x] [some (.row 5 (.int .u8) zs)]) k =
      if (zs ++ restI sep i (ys.drop i)).length ≤ 1048576 then k (.exit 0) (mkS [4, 5] [.any, .own 0] [some (.row 5 (.int .u8) (zs ++ restI sep i (ys.drop i)))]) else r := by
  induction d with
  | zero =>
    intro n i x zs hd hi hx hn hz
    subst hx
    rw [lpAt_def]
    conv => lhs; whnf
    refine br_f (df (by omega)) ?_
    conv => lhs; whnf
    rw [List.drop_of_length_le (by omega), restI, List.append_nil, if_pos hz]
  | succ d ih =>
    intro n i x zs hd hi hx hn hz
    obtain ⟨n, rfl⟩ : ∃ m, n = m + 1 := ⟨n - 1, by omega⟩
    subst hx
    have hyi := hy _ (mem_getD (l := ys) (i := i) (d := ByteArray.empty) (by omega))
    have l1 := strInts_len (ys.getD i ByteArray.empty)
    have l2 := strInts_len sep
    rw [getD_drop (l := ys) (i := i) (d := ByteArray.empty) (by omega), restI, lpAt_def]
    conv => lhs; whnf
    refine br_t (dt (by omega)) ?_
    conv => lhs; whnf
    refine br_c (fun h => ?_) (fun h => ?_)
    · have h' := ofd h
      have h' : 0 < i := by omega
      conv => lhs; whnf
      refine br_t (dt (by change (zs.length + (strInts sep).length) * 1 ≤ 140737488355328; omega)) ?_
      conv => lhs; whnf
      refine br_t (dt2 (by omega) (by omega)) ?_
      conv => lhs; whnf
      refine br_t (dt (by change ((zs ++ strInts sep).length + (strInts (ys.getD i ByteArray.empty)).length) * 1 ≤ 140737488355328; rw [List.length_append]; omega)) ?_
      conv => lhs; whnf
      rw [if_pos h']
      refine br_c (fun h2 => ?_) (fun h2 => ?_)
      · have h2' := ofd h2
        have h2' : (((zs ++ strInts sep) ++ strInts (ys.getD i ByteArray.empty)).length : Int) > 1048576 := h2'
        conv => lhs; whnf
        rw [if_neg (by simp only [List.length_append] at h2' ⊢; omega)]
        exact hk _
      · have h2' := ofn h2
        have h2' : ¬ (((zs ++ strInts sep) ++ strInts (ys.getD i ByteArray.empty)).length : Int) > 1048576 := h2'
        conv => lhs; whnf
        refine Eq.trans (ih n (i + 1) _ _ (by omega) (by omega) (by rw [wrap64 (n := (i : Int) + 1) (by omega) (by omega)]; simp) (by omega) (by omega)) ?_
        simp only [List.append_assoc]
        rfl
    · have h' := ofn h
      have h' : ¬ 0 < i := by omega
      conv => lhs; whnf
      refine br_t (dt2 (by omega) (by omega)) ?_
      conv => lhs; whnf
      refine br_t (dt (by change (zs.length + (strInts (ys.getD i ByteArray.empty)).length) * 1 ≤ 140737488355328; omega)) ?_
      conv => lhs; whnf
      rw [if_neg h', List.nil_append]
      refine br_c (fun h2 => ?_) (fun h2 => ?_)
      · have h2' := ofd h2
        have h2' : ((zs ++ strInts (ys.getD i ByteArray.empty)).length : Int) > 1048576 := h2'
        conv => lhs; whnf
        rw [if_neg (by simp only [List.length_append] at h2' ⊢; omega)]
        exact hk _
      · have h2' := ofn h2
        have h2' : ¬ ((zs ++ strInts (ys.getD i ByteArray.empty)).length : Int) > 1048576 := h2'
        conv => lhs; whnf
        refine Eq.trans (ih n (i + 1) _ _ (by omega) (by omega) (by rw [wrap64 (n := (i : Int) + 1) (by omega) (by omega)]; simp) (by omega) (by omega)) ?_
        simp only [List.append_assoc]
        rfl
theorem ev_specJoin (ys : List ByteArray) (sep : ByteArray) (hp : ys.length ≤ 1048576 ∧ okTxt ys = true ∧ sep.size ≤ 16) : evF E_specJoin (ys.length + 2) Try.f75 [.lst .str ys, .str sep] [] = some (.str (joinF ys sep), []) := by
  obtain ⟨h1, h2, h3⟩ := hp
  have hy := okTxt_iff.1 h2
  conv => lhs; whnf
  refine (lp_specJoin ys sep h1 hy h3 _ _ (fun zs => rfl) ys.length _ 0 0 [] rfl (Nat.zero_le _) rfl (by omega) (by simp)).trans ?_
  rw [List.nil_append, List.drop_zero, restI_len]
  unfold joinF
  split
  · conv => lhs; whnf
    rw [intsStr_join]
  · rfl
theorem ok_specJoin : FnOk Try.prog 75 K_specJoin := by
  refine fn_ok (fn := Try.f75) (k := Try.f75.ntmps) (E := E_specJoin) (facts_of (List.forall_mem_nil _)) (by kernel_rfl) rfl (by decide +kernel) (by decide +kernel) ?_
  intro avs hin r h
  unfold K_specJoin at h
  split at h
  · obtain ⟨hp, rfl⟩ := gd_o h
    exact ⟨_, ev_specJoin _ _ hp, rfl⟩
  · cases h

/- spec.SetsText -/
def K_specSetsText : List AV → List Ob → Option (AV × List Ob)
  | [.lst (.int .i64) a], [] => gd (a.length ≤ 1048576) (.str (setsTx a), [])
  | _, _ => none
@[reducible] def E_specSetsText : Env := mkE (tb [(73, K_l2Sets), (74, K_specSetText), (75, K_specJoin)]) (fun f => false) (fun r => bif r == 7 then ([0, 3, 4], [3]) else ([], []))
theorem lp_specSetsText (a : List Int) (ha : a.length ≤ 1048576) (k : AX → S → Option (AV × List Ob)) (d : Nat) : ∀ (n i : Nat) (x : Int) (zs : List ByteArray), a.length - i = d → i ≤ a.length → x = i → d < n → zs.length ≤ i →
    lpAt E_specSetsText (lp E_specSetsText 0 n) 0 (loopAt Try.f44 0) (mkS [0, 3, 4] [.lst (.int .i64) a, .own 0, .int .i64 x] [some (.row 9 .str zs)]) k =
      k (.exit 0) (mkS [3] [.own 0] [some (.row 9 .str (zs ++ (a.drop i).map setTx))]) := by
  induction d with
  | zero =>
    intro n i x zs hd hi hx hn hz
    subst hx
    rw [lpAt_def]
    conv => lhs; whnf
    refine br_f (df (by omega)) ?_
    conv => lhs; whnf
    rw [List.drop_of_length_le (by omega)]
    simp
  | succ d ih =>
    intro n i x zs hd hi hx hn hz
    obtain ⟨n, rfl⟩ : ∃ m, n = m + 1 := ⟨n - 1, by omega⟩
    subst hx
    rw [lpAt_def]
    conv => lhs; whnf
    refine br_t (dt (by omega)) ?_
    conv => lhs; whnf
    refine br_t (dt2 (by omega) (by omega)) ?_
    conv => lhs; whnf
    conv => lhs; arg 1; whnf
    refine bnd_g (by exact True.intro) ?_
    conv => lhs; whnf
    refine br_t (dt (by simp [room]; omega)) ?_
    conv => lhs; whnf
    repeat ((first | with_reducible apply br_tt | with_reducible apply br_ff | with_reducible apply br_nf | with_reducible apply br_nt | with_reducible refine br_d ?_ (by kernel_rfl)); conv => lhs; whnf)
    rw [getD_drop (l := a) (i := i) (d := 0) (by omega), List.map_cons]
    refine Eq.trans (ih n (i + 1) _ _ (by omega) (by omega) (by rw [wrap64 (n := (i : Int) + 1) (by omega) (by omega)]; simp) (by omega) (by simp; omega)) ?_
    simp only [List.append_assoc]
    rfl
theorem ev_specSetsText (a : List Int) (hp : a.length ≤ 1048576) : evF E_specSetsText (a.length + 2) Try.f44 [.lst (.int .i64) a] [] = some (.str (setsTx a), []) := by
  have hlen : (a.map setTx).length = a.length := List.length_map _
  unfold setsTx
  conv => lhs; whnf
  conv => lhs; arg 1; whnf
  refine bnd_g (by exact hp) ?_
  conv => lhs; whnf
  refine br_c (fun h => ?_) (fun h => ?_)
  · rw [bnt h]
    conv => lhs; whnf
    rfl
  · rw [bnf h]
    conv => lhs; whnf
    refine br_c (fun h2 => ?_) (fun h2 => ?_)
    · have h' : ((a.length : Int) == 0) = true := h2
      rw [h']
      conv => lhs; whnf
      rfl
    · have h' : ((a.length : Int) == 0) = false := h2
      rw [h']
      conv => lhs; whnf
      refine (lp_specSetsText a hp _ a.length _ 0 0 [] rfl (Nat.zero_le _) rfl (by omega) (by simp)).trans ?_
      rw [List.drop_zero, List.nil_append]
      conv => lhs; whnf
      conv => lhs; arg 1; whnf
      refine bnd_g (by exact ⟨by omega, setTx_ok a, by decide⟩) ?_
      conv => lhs; whnf
      rfl
theorem ok_specSetsText : FnOk Try.prog 44 K_specSetsText := by
  refine fn_ok (fn := Try.f44) (k := Try.f44.ntmps) (E := E_specSetsText) (facts_of (List.forall_mem_cons.2 ⟨ok_l2Sets, List.forall_mem_cons.2 ⟨ok_specSetText, List.forall_mem_cons.2 ⟨ok_specJoin, List.forall_mem_nil _⟩⟩⟩)) (by kernel_rfl) rfl (by decide +kernel) (by decide +kernel) ?_
  intro avs hin r h
  unfold K_specSetsText at h
  split at h
  · obtain ⟨hp, rfl⟩ := gd_o h
    exact ⟨_, ev_specSetsText _ hp, rfl⟩
  · cases h

/- spec.ContextText -/
def K_specContextText : List AV → List Ob → Option (AV × List Ob)
  | [.agg [.int .i64 m, .lst (.int .i64) a]], [] => gd (a.length ≤ 1048576) (.str (ctxTx m a), [])
  | _, _ => none
@[reducible] def E_specContextText : Env := mkE (tb [(42, K_specIsContext), (43, K_specFormatInt), (44, K_specSetsText)]) (fun f => false) (fun r => ([], []))
theorem ev_specContextText (m : Int) (a : List Int) (hp : a.length ≤ 1048576) : evF E_specContextText (1) Try.f22 [.agg [.int .i64 m, .lst (.int .i64) a]] [] = some (.str (ctxTx m a), []) := by
  conv => lhs; whnf
  conv => lhs; arg 1; whnf
  refine bnd_g (by omega) ?_
  conv => lhs; whnf
  refine br_c (fun h => ?_) (fun h => ?_)
  · have e : ctxTx m a = ⟨#[]⟩ := by unfold ctxTx; rw [bnt h]; rfl
    conv => rhs; rw [e]
    conv => lhs; whnf
  · have h' := bnf h
    have hl := isCtx_len h'
    have e : ctxTx m a = (itoaB m ++ ⟨#[32]⟩) ++ setsTx a := by unfold ctxTx; rw [h']; rfl
    have s1 := itoa_len (n := m) (by omega) (by omega)
    have s2 := setsTx_size a
    have s3 : (itoaB m ++ (⟨#[32]⟩ : ByteArray)).size ≤ 30 := by
      rw [ByteArray.size_append]
      have : (⟨#[32]⟩ : ByteArray).size = 1 := rfl
      omega
    conv => rhs; rw [e]
    conv => lhs; whnf
    conv => lhs; arg 1; whnf
    refine bnd_g (by exact ⟨by omega, by omega⟩) ?_
    conv => lhs; whnf
    refine br_t (dt (by have : (⟨#[32]⟩ : ByteArray).size = 1 := rfl; omega)) ?_
    conv => lhs; whnf
    conv => lhs; arg 1; whnf
    refine bnd_g (by omega) ?_
    conv => lhs; whnf
    refine br_t (dt (by omega)) ?_
    conv => lhs; whnf
    refine br_t (by kernel_rfl) ?_
    conv => lhs; whnf
    all_goals rfl
theorem ok_specContextText : FnOk Try.prog 22 K_specContextText := by
  refine fn_ok (fn := Try.f22) (k := Try.f22.ntmps) (E := E_specContextText) (facts_of (List.forall_mem_cons.2 ⟨ok_specIsContext, List.forall_mem_cons.2 ⟨ok_specFormatInt, List.forall_mem_cons.2 ⟨ok_specSetsText, List.forall_mem_nil _⟩⟩⟩)) (by kernel_rfl) rfl (by decide +kernel) (by decide +kernel) ?_
  intro avs hin r h
  unfold K_specContextText at h
  split at h
  · obtain ⟨hp, rfl⟩ := gd_o h
    exact ⟨_, ev_specContextText _ _ hp, rfl⟩
  · cases h

theorem shl1 {i : Nat} (h : i ≤ 8) : IntKind.i64.wrap (1 * 2 ^ min (i : Int).toNat IntKind.i64.bits) = ((2 ^ i : Nat) : Int) := by
  have h : i = 0 ∨ i = 1 ∨ i = 2 ∨ i = 3 ∨ i = 4 ∨ i = 5 ∨ i = 6 ∨ i = 7 ∨ i = 8 := by omega
  rcases h with rfl | rfl | rfl | rfl | rfl | rfl | rfl | rfl | rfl <;> decide
theorem shl1u {i : Nat} (h : i ≤ 8) : IntKind.i64.wrap (1 * 2 ^ min (IntKind.u64.wrap (i : Int)).toNat IntKind.i64.bits) = ((2 ^ i : Nat) : Int) := by
  rw [wrapu (by omega) (by omega)]
  exact shl1 h
def orF (p : Int → Bool) : Nat → Nat → Int → Int
  | 0, _, acc => acc
  | d + 1, i, acc => orF p d (i + 1) (bif p i then bor acc ((2 ^ i : Nat) : Int) else acc)
theorem orF_ext {p q : Int → Bool} : ∀ (d i : Nat) (acc : Int), (∀ j : Nat, i ≤ j → j < i + d → p j = q j) → orF p d i acc = orF q d i acc
  | 0, _, _, _ => rfl
  | d + 1, i, acc, h => by
    rw [orF, orF, h i (by omega) (by omega), orF_ext d (i + 1) _ (fun j h1 h2 => h j (by omega) (by omega))]
def bitAt (b : List Int) (e i : Int) : Bool := (b.getD i.toNat 0).toNat.testBit e.toNat
/-- The objects that have an attribute. -/
def colF (b : List Int) (e : Int) : Int := orF (bitAt b e) b.length 0 0
theorem ofInt_nat (x : Nat) : BitVec.ofInt 64 (x : Int) = BitVec.ofNat 64 x := by
  apply BitVec.eq_of_toNat_eq
  simp [BitVec.toNat_ofInt]
theorem bor_nat {x y : Nat} (hx : x < 256) (hy : y < 256) : bor (x : Int) (y : Int) = ((x ||| y : Nat) : Int) := by
  unfold bor
  have e : (BitVec.ofInt 64 (x : Int) ||| BitVec.ofInt 64 (y : Int)).toNat = x ||| y := by
    rw [BitVec.toNat_or, ofInt_nat, ofInt_nat, BitVec.toNat_ofNat, BitVec.toNat_ofNat, Nat.mod_eq_of_lt (by omega), Nat.mod_eq_of_lt (by omega)]
  have h : x ||| y < 2 ^ 8 := Nat.or_lt_two_pow (by omega) (by omega)
  rw [show (BitVec.ofInt IntKind.i64.bits (x : Int) ||| BitVec.ofInt IntKind.i64.bits (y : Int)).toNat = x ||| y from e]
  exact wrap64 (by omega) (by omega)
theorem bor_set {x y : Int} (hx : 0 ≤ x ∧ x ≤ 255) (hy : 0 ≤ y ∧ y ≤ 255) : 0 ≤ bor x y ∧ bor x y ≤ 255 := by
  obtain ⟨a, rfl⟩ : ∃ a : Nat, x = a := ⟨x.toNat, by omega⟩
  obtain ⟨b, rfl⟩ : ∃ b : Nat, y = b := ⟨y.toNat, by omega⟩
  rw [bor_nat (by omega) (by omega)]
  have h : a ||| b < 2 ^ 8 := Nat.or_lt_two_pow (by omega) (by omega)
  omega
theorem orF_set (p : Int → Bool) : ∀ (d i : Nat) (acc : Int), i + d ≤ 8 → 0 ≤ acc → acc ≤ 255 → 0 ≤ orF p d i acc ∧ orF p d i acc ≤ 255
  | 0, _, acc, _, h0, h1 => ⟨h0, h1⟩
  | d + 1, i, acc, h, h0, h1 => by
    unfold orF
    cases p i
    · exact orF_set p d (i + 1) acc (by omega) h0 h1
    · have hp : 2 ^ i ≤ 2 ^ 7 := Nat.pow_le_pow_right (by omega) (by omega)
      have hb := bor_set (x := acc) (y := ((2 ^ i : Nat) : Int)) ⟨h0, h1⟩ ⟨Int.natCast_nonneg _, Int.ofNat_le.2 (by omega : 2 ^ i ≤ 255)⟩
      exact orF_set p d (i + 1) _ (by omega) hb.1 hb.2
theorem colF_set (b : List Int) (e : Int) (h : b.length ≤ 8) : 0 ≤ colF b e ∧ colF b e ≤ 255 := orF_set _ _ _ _ (by omega) (by omega) (by omega)
def tzN (n : Nat) : Nat := if n = 0 then 64 else ((List.range 8).find? fun i => n.testBit i).getD 0
def tzF (s : Int) : Int := (tzN s.toNat : Int)
def bxor (a b : Int) : Int := IntKind.i64.wrap (BitVec.ofInt IntKind.i64.bits a ^^^ BitVec.ofInt IntKind.i64.bits b).toNat
theorem bxor_nat {x y : Nat} (hx : x < 256) (hy : y < 256) : bxor (x : Int) (y : Int) = ((x ^^^ y : Nat) : Int) := by
  unfold bxor
  have e : (BitVec.ofInt 64 (x : Int) ^^^ BitVec.ofInt 64 (y : Int)).toNat = x ^^^ y := by
    rw [BitVec.toNat_xor, ofInt_nat, ofInt_nat, BitVec.toNat_ofNat, BitVec.toNat_ofNat, Nat.mod_eq_of_lt (by omega), Nat.mod_eq_of_lt (by omega)]
  have h : x ^^^ y < 2 ^ 8 := Nat.xor_lt_two_pow (by omega) (by omega)
  rw [show (BitVec.ofInt IntKind.i64.bits (x : Int) ^^^ BitVec.ofInt IntKind.i64.bits (y : Int)).toNat = x ^^^ y from e]
  exact wrap64 (by omega) (by omega)
theorem xor_zero {a b : Nat} (e : a ^^^ b = 0) : a = b := by
  apply Nat.eq_of_testBit_eq
  intro i
  have h := congrArg (fun z => Nat.testBit z i) e
  simp only [Nat.testBit_xor, Nat.zero_testBit] at h
  cases ha : a.testBit i <;> cases hb : b.testBit i <;> simp_all
/-- Lectic order on small numbers. -/
def lecN (x y : Nat) : Bool := decide (x ≠ y) && y.testBit (tzN (x ^^^ y))
def lecB (s t : Int) : Bool := isSet 8 s && isSet 8 t && lecN s.toNat t.toNat
def lecC (s t : Int) : Int := if s = t then 0 else if lecB s t then -1 else 1
/-- The numbers below 2 ^ n in lectic order. -/
def brev (n k : Nat) : Nat := (List.range n).foldl (fun acc i => if k.testBit i then acc + 2 ^ (n - 1 - i) else acc) 0
def lecL (n : Nat) : List Nat := (List.range (2 ^ n)).map (brev n)
def LtAt (m s t : Nat) : Prop := (∀ i, i < m → s.testBit i = t.testBit i) ∧ s.testBit m = false ∧ t.testBit m = true
def ltAtB (m s t : Nat) : Bool := (List.range m).all (fun i => s.testBit i == t.testBit i) && (!s.testBit m && t.testBit m)
theorem ltAtB_iff (m s t : Nat) : ltAtB m s t = true ↔ LtAt m s t := by
  unfold ltAtB LtAt
  simp [List.all_eq_true]
/-- Lectic order, told by the place. -/
def lecLt (s t : Nat) : Prop := ∃ m, m < 6 ∧ LtAt m s t
theorem lecN_all : ∀ x y : Fin 64, lecN x.val y.val = (List.range 6).any (fun m => ltAtB m x.val y.val) := by decide +kernel
theorem lecN_iff {x y : Nat} (hx : x < 64) (hy : y < 64) : lecN x y = true ↔ lecLt x y := by
  have := lecN_all ⟨x, hx⟩ ⟨y, hy⟩
  rw [this, List.any_eq_true]
  unfold lecLt
  simp only [List.mem_range, ltAtB_iff]
def chainB : List Nat → Bool
  | [] => true
  | a :: r => r.all (lecN a) && chainB r
theorem chain_all : ∀ n : Fin 7, chainB (lecL n.val) = true ∧ (lecL n.val).all (fun x => decide (x < 2 ^ n.val)) = true ∧ (List.range (2 ^ n.val)).all (fun x => (lecL n.val).contains x) = true := by decide +kernel
theorem lecL_mem {n x : Nat} (hn : n ≤ 6) : x ∈ lecL n ↔ x < 2 ^ n := by
  obtain ⟨_, h2, h3⟩ := chain_all ⟨n, by omega⟩
  simp only [List.all_eq_true, decide_eq_true_eq, List.mem_range, List.contains_iff_mem] at h2 h3
  exact ⟨fun h => h2 x h, fun h => h3 x h⟩
theorem chainB_mid : ∀ (p : List Nat) (s : Nat) (q : List Nat), chainB (p ++ s :: q) = true → (∀ x ∈ p, lecN x s = true) ∧ (∀ x ∈ q, lecN s x = true) ∧ chainB q = true
  | [], s, q, h => by
    simp only [List.nil_append, chainB, Bool.and_eq_true, List.all_eq_true] at h
    exact ⟨fun x hx => (by cases hx), h.1, h.2⟩
  | a :: p, s, q, h => by
    simp only [List.cons_append, chainB, Bool.and_eq_true, List.all_eq_true] at h
    obtain ⟨h1, h2, h3⟩ := chainB_mid p s q h.2
    refine ⟨fun x hx => ?_, h2, h3⟩
    rcases List.mem_cons.1 hx with e | hx
    · rw [e]; exact h.1 s (by simp)
    · exact h1 x hx
/-- Subsets, as bits. -/
def SubN (x y : Nat) : Prop := ∀ i, x.testBit i = true → y.testBit i = true
theorem lec_irrefl {s t : Nat} (h : lecLt s t) (g : lecLt t s) : False := by
  obtain ⟨m, _, h1, h2, h3⟩ := h
  obtain ⟨k, _, g1, g2, g3⟩ := g
  rcases Nat.lt_trichotomy m k with h | h | h
  · rw [g1 m h] at h3; rw [h2] at h3; cases h3
  · subst h; rw [h3] at g2; cases g2
  · rw [h1 k h] at g3; rw [g2] at g3; cases g3
theorem sub_le {n s t : Nat} (hn : n ≤ 6) (hs : s < 2 ^ n) (ht : t < 2 ^ n) (h : SubN s t) : s = t ∨ lecLt s t := by
  by_cases he : s = t
  · exact .inl he
  · right
    have hx : s < 64 ∧ t < 64 := by
      have : 2 ^ n ≤ 2 ^ 6 := Nat.pow_le_pow_right (by omega) hn
      omega
    have key : ∀ x y : Fin 64, x.val ≠ y.val → lecN x.val y.val = true ∨ lecN y.val x.val = true := by decide +kernel
    rcases key ⟨s, hx.1⟩ ⟨t, hx.2⟩ he with k | k
    · exact (lecN_iff hx.1 hx.2).1 k
    · obtain ⟨m, _, _, k2, k3⟩ := (lecN_iff hx.2 hx.1).1 k
      have := h m k3
      rw [k2] at this
      cases this
/-- A closure on the numbers below 2 ^ n. -/
structure Clo (n : Nat) (cl : Nat → Nat) : Prop where
  lt : ∀ s, s < 2 ^ n → cl s < 2 ^ n
  ext : ∀ s, s < 2 ^ n → SubN s (cl s)
  mono : ∀ s t, s < 2 ^ n → t < 2 ^ n → SubN s t → SubN (cl s) (cl t)
  idem : ∀ s, s < 2 ^ n → cl (cl s) = cl s
def lowN (s m : Nat) : Nat := s % 2 ^ m
theorem lowN_bit (s m i : Nat) : (lowN s m).testBit i = (decide (i < m) && s.testBit i) := Nat.testBit_mod_two_pow s m i
def addN (s m : Nat) : Nat := lowN s m ||| 2 ^ m
theorem addN_bit (s m i : Nat) : (addN s m).testBit i = ((decide (i < m) && s.testBit i) || decide (i = m)) := by
  unfold addN
  rw [Nat.testBit_or, lowN_bit, Nat.testBit_two_pow]
  congr 1
  exact decide_eq_decide.2 ⟨fun h => h.symm, fun h => h.symm⟩
theorem addN_lt {n s m : Nat} (hm : m < n) : addN s m < 2 ^ n := by
  unfold addN lowN
  refine Nat.or_lt_two_pow ?_ (Nat.pow_lt_pow_right (by omega) hm)
  exact Nat.lt_of_lt_of_le (Nat.mod_lt _ (Nat.two_pow_pos m)) (Nat.pow_le_pow_right (by omega) (by omega))
/-- The next closed set, as the reference finds it: m + 1 places are left. -/
def nextN (cl : Nat → Nat) (s : Nat) : Nat → Option Nat
  | 0 => none
  | m + 1 => if s.testBit m then nextN cl s m else if lowN (cl (addN s m)) m = lowN s m then some (cl (addN s m)) else nextN cl s m
theorem low_eq {x y m : Nat} : lowN x m = lowN y m ↔ ∀ i, i < m → x.testBit i = y.testBit i := by
  constructor
  · intro h i hi
    have := congrArg (fun z => Nat.testBit z i) h
    simpa [lowN_bit, hi] using this
  · intro h
    apply Nat.eq_of_testBit_eq
    intro i
    rw [lowN_bit, lowN_bit]
    by_cases hi : i < m
    · simp [hi, h i hi]
    · simp [hi]
/-- A closed set beyond s passes the test at its place. -/
theorem passes {n : Nat} {cl : Nat → Nat} (hc : Clo n cl) {s t m : Nat} (hm : m < n) (ht : t < 2 ^ n) (hcl : cl t = t) (h : LtAt m s t) :
    s.testBit m = false ∧ lowN (cl (addN s m)) m = lowN s m ∧ SubN (cl (addN s m)) t := by
  obtain ⟨h1, h2, h3⟩ := h
  have hsub : SubN (addN s m) t := by
    intro i hi
    rw [addN_bit] at hi
    simp only [Bool.or_eq_true, Bool.and_eq_true, decide_eq_true_eq] at hi
    rcases hi with ⟨hi, hs⟩ | rfl
    · rw [← h1 i hi]; exact hs
    · exact h3
  have hcs : SubN (cl (addN s m)) t := by
    have := hc.mono _ _ (addN_lt hm) ht hsub
    rwa [hcl] at this
  refine ⟨h2, low_eq.2 fun i hi => ?_, hcs⟩
  cases hb : s.testBit i
  · cases hx : (cl (addN s m)).testBit i
    · rfl
    · have := hcs i hx
      rw [← h1 i hi, hb] at this
      cases this
  · have : (addN s m).testBit i = true := by rw [addN_bit]; simp [hi, hb]
    exact hc.ext _ (addN_lt hm) i this
/-- What the search finds is the least closed set beyond s, so far as its places go. -/
theorem next_spec {n : Nat} {cl : Nat → Nat} (hc : Clo n cl) (hn : n ≤ 6) (s : Nat) : ∀ m, m ≤ n →
    (nextN cl s m = none → ∀ t k, t < 2 ^ n → cl t = t → k < m → ¬ LtAt k s t) ∧
    (∀ x, nextN cl s m = some x → x < 2 ^ n ∧ cl x = x ∧ lecLt s x ∧ ∀ t k, t < 2 ^ n → cl t = t → k < m → LtAt k s t → x = t ∨ lecLt x t)
  | 0, _ => ⟨fun _ t k _ _ hk => by omega, fun x h => by simp [nextN] at h⟩
  | m + 1, hm => by
    obtain ⟨ih1, ih2⟩ := next_spec hc hn s m (by omega)
    unfold nextN
    by_cases hb : s.testBit m = true
    · rw [if_pos hb]
      refine ⟨fun h t k ht hcl hk hlt => ?_, fun x h => ?_⟩
      · rcases Nat.lt_or_ge k m with hk' | hk'
        · exact ih1 h t k ht hcl hk' hlt
        · have : k = m := by omega
          subst this
          rw [hlt.2.1] at hb; cases hb
      · obtain ⟨q1, q2, q3, q4⟩ := ih2 x h
        refine ⟨q1, q2, q3, fun t k ht hcl hk hlt => ?_⟩
        rcases Nat.lt_or_ge k m with hk' | hk'
        · exact q4 t k ht hcl hk' hlt
        · have : k = m := by omega
          subst this
          rw [hlt.2.1] at hb; cases hb
    · rw [if_neg hb]
      have hb : s.testBit m = false := by simpa using hb
      by_cases hp : lowN (cl (addN s m)) m = lowN s m
      · rw [if_pos hp]
        refine ⟨fun h => by (cases h), fun x h => ?_⟩
        cases h
        have hl := hc.lt _ (addN_lt (s := s) (show m < n by omega))
        have hmx : (cl (addN s m)).testBit m = true := hc.ext _ (addN_lt (by omega)) m (by rw [addN_bit]; simp)
        have hlow := low_eq.1 hp
        refine ⟨hl, hc.idem _ (addN_lt (by omega)), ⟨m, by omega, fun i hi => (hlow i hi).symm, hb, hmx⟩, fun t k ht hcl hk hlt => ?_⟩
        rcases Nat.lt_or_ge k m with hk' | hk'
        · right
          exact ⟨k, by omega, fun i hi => by rw [hlow i (by omega)]; exact hlt.1 i hi, by rw [hlow k hk']; exact hlt.2.1, hlt.2.2⟩
        · have : k = m := by omega
          subst this
          exact sub_le hn hl ht (passes hc (by omega) ht hcl hlt).2.2
      · rw [if_neg hp]
        have no : ∀ t, t < 2 ^ n → cl t = t → ¬ LtAt m s t := fun t ht hcl hlt => hp (passes hc (by omega) ht hcl hlt).2.1
        refine ⟨fun h t k ht hcl hk hlt => ?_, fun x h => ?_⟩
        · rcases Nat.lt_or_ge k m with hk' | hk'
          · exact ih1 h t k ht hcl hk' hlt
          · have : k = m := by omega
            subst this
            exact no t ht hcl hlt
        · obtain ⟨q1, q2, q3, q4⟩ := ih2 x h
          refine ⟨q1, q2, q3, fun t k ht hcl hk hlt => ?_⟩
          rcases Nat.lt_or_ge k m with hk' | hk'
          · exact q4 t k ht hcl hk' hlt
          · have : k = m := by omega
            subst this
            exact absurd hlt (no t ht hcl)
def isCl (cl : Nat → Nat) (s : Nat) : Bool := cl s == s
theorem lt_place {n s t : Nat} (ht : t < 2 ^ n) {m : Nat} (h : LtAt m s t) : m < n := by
  rcases Nat.lt_or_ge m n with h' | h'
  · exact h'
  · have := Nat.testBit_lt_two_pow (Nat.lt_of_lt_of_le ht (Nat.pow_le_pow_right (by omega) h'))
    rw [h.2.2] at this
    cases this
/-- The next closed set is the first closed one behind s in the lectic row. -/
theorem next_find {n : Nat} {cl : Nat → Nat} (hc : Clo n cl) (hn : n ≤ 6) {s : Nat} {p q : List Nat} (hL : lecL n = p ++ s :: q) : nextN cl s n = q.find? (isCl cl) := by
  obtain ⟨hch, _, _⟩ := chain_all ⟨n, by omega⟩
  rw [show lecL (⟨n, by omega⟩ : Fin 7).val = p ++ s :: q from hL] at hch
  obtain ⟨c1, c2, c3⟩ := chainB_mid p s q hch
  have h64 : ∀ x, x < 2 ^ n → x < 64 := fun x hx => Nat.lt_of_lt_of_le hx (Nat.pow_le_pow_right (by omega) hn : 2 ^ n ≤ 2 ^ 6)
  have hmem : ∀ x, x ∈ p ++ s :: q ↔ x < 2 ^ n := fun x => by rw [← hL]; exact lecL_mem hn
  have hs : s < 2 ^ n := (hmem s).1 (by simp)
  have hbeyond : ∀ x, x < 2 ^ n → lecLt s x → x ∈ q := by
    intro x hx hlt
    have := (hmem x).2 hx
    rcases List.mem_append.1 this with h | h
    · exact (lec_irrefl hlt ((lecN_iff (h64 _ hx) (h64 _ hs)).1 (c1 x h))).elim
    · rcases List.mem_cons.1 h with rfl | h
      · exact (lec_irrefl hlt hlt).elim
      · exact h
  have hq : ∀ x ∈ q, x < 2 ^ n ∧ lecLt s x := fun x hx => by
    have hx2 := (hmem x).1 (by simp [hx])
    exact ⟨hx2, (lecN_iff (h64 _ hs) (h64 _ hx2)).1 (c2 x hx)⟩
  obtain ⟨n1, n2⟩ := next_spec hc hn s n (Nat.le_refl n)
  cases hN : nextN cl s n with
  | none =>
    symm
    rw [List.find?_eq_none]
    intro x hx hcl
    obtain ⟨hx2, m, _, hm⟩ := hq x hx
    exact n1 hN x m hx2 (by simpa [isCl] using hcl) (lt_place hx2 hm) hm
  | some x =>
    obtain ⟨q1, q2, q3, q4⟩ := n2 x hN
    have hxq := hbeyond x q1 q3
    obtain ⟨u, v, huv⟩ := List.append_of_mem hxq
    rw [huv] at c3 hq ⊢
    obtain ⟨d1, _, _⟩ := chainB_mid u x v c3
    symm
    rw [List.find?_append]
    have hu : u.find? (isCl cl) = none := by
      rw [List.find?_eq_none]
      intro t ht hcl
      obtain ⟨ht2, m, hm6, hm⟩ := hq t (by simp [ht])
      have htx := (lecN_iff (h64 _ ht2) (h64 _ q1)).1 (d1 t ht)
      rcases q4 t m ht2 (by simpa [isCl] using hcl) (lt_place ht2 hm) hm with h | h
      · subst h; exact lec_irrefl htx htx
      · exact lec_irrefl htx h
    rw [hu]
    simp [isCl, q2]
def enumN (cl : Nat → Nat) (n : Nat) : Nat → Nat → List Nat
  | 0, _ => []
  | f + 1, s => s :: match nextN cl s n with
    | none => []
    | some x => enumN cl n f x
theorem enum_eq {n : Nat} {cl : Nat → Nat} (hc : Clo n cl) (hn : n ≤ 6) : ∀ (f : Nat) (p : List Nat) (s : Nat) (q : List Nat), lecL n = p ++ s :: q → q.length < f → enumN cl n f s = s :: q.filter (isCl cl)
  | 0, _, _, _, _, h => by omega
  | f + 1, p, s, q, hL, hf => by
    rw [enumN, next_find hc hn hL]
    congr 1
    cases hq : q.find? (isCl cl) with
    | none =>
      symm
      rw [List.filter_eq_nil_iff]
      intro x hx
      exact List.find?_eq_none.1 hq x hx
    | some x =>
      obtain ⟨hx, u, v, huv, hu⟩ := List.find?_eq_some_iff_append.1 hq
      subst huv
      simp only
      rw [enum_eq hc hn f (p ++ s :: u) x v (by rw [hL]; simp) (by simp at hf; omega)]
      rw [List.filter_append, List.filter_cons_of_pos hx]
      have : u.filter (isCl cl) = [] := by
        rw [List.filter_eq_nil_iff]
        intro y hy
        simpa using hu y hy
      rw [this]
      rfl
/-- The reference's row of closed sets is the lectic row's closed part. -/
theorem enum_all {n : Nat} {cl : Nat → Nat} (hc : Clo n cl) (hn : n ≤ 6) {f : Nat} (hf : 2 ^ n ≤ f) : enumN cl n f (cl 0) = (lecL n).filter (isCl cl) := by
  have h0 : 0 < 2 ^ n := Nat.two_pow_pos n
  have hs := hc.lt 0 h0
  have hcl : cl (cl 0) = cl 0 := hc.idem 0 h0
  obtain ⟨p, q, hL⟩ := List.append_of_mem ((lecL_mem hn).2 hs)
  obtain ⟨hch, _, _⟩ := chain_all ⟨n, by omega⟩
  rw [show lecL (⟨n, by omega⟩ : Fin 7).val = p ++ cl 0 :: q from hL] at hch
  obtain ⟨c1, _, _⟩ := chainB_mid p (cl 0) q hch
  have h64 : ∀ x, x < 2 ^ n → x < 64 := fun x hx => Nat.lt_of_lt_of_le hx (Nat.pow_le_pow_right (by omega) hn : 2 ^ n ≤ 2 ^ 6)
  have hlen : (lecL n).length = 2 ^ n := by unfold lecL; simp
  have hq : q.length < f := by
    rw [hL] at hlen
    simp at hlen
    omega
  rw [enum_eq hc hn f p (cl 0) q hL hq, hL, List.filter_append, List.filter_cons_of_pos (by simp [isCl, hcl])]
  have : p.filter (isCl cl) = [] := by
    rw [List.filter_eq_nil_iff]
    intro t ht hct
    have ht2 : t < 2 ^ n := (lecL_mem hn).1 (by rw [hL]; simp [ht])
    have hlt := (lecN_iff (h64 _ ht2) (h64 _ hs)).1 (c1 t ht)
    have hct : cl t = t := by simpa [isCl] using hct
    have hsub : SubN (cl 0) t := by
      have := hc.mono 0 t h0 ht2 (fun i hi => by simp at hi)
      rwa [hct] at this
    rcases sub_le hn hs ht2 hsub with h | h
    · rw [h] at hlt; exact lec_irrefl hlt hlt
    · exact lec_irrefl h hlt
  rw [this]
  rfl
def rangeI (n : Nat) : List Int := (List.range (2 ^ n)).map fun (x : Nat) => (x : Int)
def lecI (n : Nat) : List Int := (lecL n).map fun (x : Nat) => (x : Int)
def attrOk (m : Int) (b : List Int) (e : Int) : Bool := isCtx m b && decide (0 ≤ e ∧ e ≤ m - 1)
def colsL (b : List Int) : Nat → Nat → List Int
  | 0, _ => []
  | d + 1, i => colF b i :: colsL b d (i + 1)
theorem colsL_length (b : List Int) : ∀ (d i : Nat), (colsL b d i).length = d
  | 0, _ => rfl
  | d + 1, i => by rw [colsL, List.length_cons, colsL_length b d (i + 1)]
theorem colsL_get (b : List Int) : ∀ (d i j : Nat), j < d → (colsL b d i).getD j 0 = colF b ((i + j : Nat) : Int)
  | 0, _, _, h => by omega
  | d + 1, i, 0, _ => by rw [colsL]; rfl
  | d + 1, i, j + 1, h => by
    rw [colsL, List.getD_cons_succ, colsL_get b d (i + 1) j (by omega)]
    congr 2
    omega
def colsF (m : Int) (b : List Int) : List Int := colsL b m.toNat 0
def beyondF (s : Int) : List Int → Int → Int
  | [], acc => acc
  | t :: r, acc => beyondF s r (bif (t != s) && (bnot s t == 0) then band acc t else acc)
def reducF (m : Int) (b : List Int) (e : Int) : Bool := beyondF (colF b e) (colsF m b) (fullSet b.length) == colF b e
def repAt (l : List Int) (i : Int) : Bool := (l.take i.toNat).any (fun y => l.getD i.toNat 0 == y)
def repF (l : List Int) : Int := orF (repAt l) l.length 0 0
theorem orF_bit (p : Int → Bool) : ∀ (d i : Nat) (acc : Int) (e : Nat), i + d ≤ 8 → 0 ≤ acc → acc ≤ 255 → (orF p d i acc).toNat.testBit e = (acc.toNat.testBit e || (decide (i ≤ e ∧ e < i + d) && p e))
  | 0, i, acc, e, _, _, _ => by
    rw [orF, df (by omega)]
    simp
  | d + 1, i, acc, e, h, h0, h1 => by
    have hp2 : 2 ^ i ≤ 2 ^ 7 := Nat.pow_le_pow_right (by omega) (by omega)
    have hb := bor_set (x := acc) (y := ((2 ^ i : Nat) : Int)) ⟨h0, h1⟩ ⟨Int.natCast_nonneg _, Int.ofNat_le.2 (by omega : 2 ^ i ≤ 255)⟩
    obtain ⟨q, rfl⟩ : ∃ q : Nat, acc = q := ⟨acc.toNat, by omega⟩
    have hor : bor (q : Int) ((2 ^ i : Nat) : Int) = ((q ||| 2 ^ i : Nat) : Int) := bor_nat (by omega) (by omega)
    rw [orF]
    cases hpi : p i
    · rw [cond_false, orF_bit p d (i + 1) _ e (by omega) h0 h1]
      congr 1
      by_cases he : e = i
      · subst he
        rw [hpi, Bool.and_false, Bool.and_false]
      · congr 1
        exact decide_eq_decide.2 (by omega)
    · rw [cond_true, orF_bit p d (i + 1) _ e (by omega) hb.1 hb.2, hor, Int.toNat_natCast, Int.toNat_natCast, Nat.testBit_or, Bool.or_assoc]
      congr 1
      by_cases he : e = i
      · subst he
        have h4 : decide (e ≤ e ∧ e < e + (d + 1)) = true := dt (by omega)
        rw [hpi, Nat.testBit_two_pow_self, h4, Bool.true_or]
        rfl
      · rw [Nat.testBit_two_pow_of_ne (fun h => he h.symm), Bool.false_or]
        congr 1
        exact decide_eq_decide.2 (by omega)
theorem hasE_orF (p : Int → Bool) {n : Nat} {e : Nat} (hn : n ≤ 8) (he : e < n) : hasE (orF p n 0 0) e = p e := by
  have hs := orF_set p n 0 0 (by omega) (by omega) (by omega)
  unfold hasE
  rw [isSet8, dt hs, dt (show 0 ≤ (e : Int) ∧ (e : Int) ≤ 7 by omega), Int.toNat_natCast, orF_bit p n 0 0 e (by omega) (by omega) (by omega), dt (by omega)]
  simp
theorem band_nat {x y : Nat} (hx : x < 256) (hy : y < 256) : band (x : Int) (y : Int) = ((x &&& y : Nat) : Int) := by
  unfold band
  have e : (BitVec.ofInt 64 (x : Int) &&& BitVec.ofInt 64 (y : Int)).toNat = x &&& y := by
    rw [BitVec.toNat_and, ofInt_nat, ofInt_nat, BitVec.toNat_ofNat, BitVec.toNat_ofNat, Nat.mod_eq_of_lt (by omega), Nat.mod_eq_of_lt (by omega)]
  have h : x &&& y ≤ x := Nat.and_le_left
  rw [show (BitVec.ofInt IntKind.i64.bits (x : Int) &&& BitVec.ofInt IntKind.i64.bits (y : Int)).toNat = x &&& y from e]
  exact wrap64 (by omega) (by omega)
theorem band_set {x y : Int} (hx : 0 ≤ x ∧ x ≤ 255) (hy : 0 ≤ y ∧ y ≤ 255) : 0 ≤ band x y ∧ band x y ≤ 255 ∧ (band x y).toNat = x.toNat &&& y.toNat := by
  obtain ⟨a, rfl⟩ : ∃ a : Nat, x = a := ⟨x.toNat, by omega⟩
  obtain ⟨b, rfl⟩ : ∃ b : Nat, y = b := ⟨y.toNat, by omega⟩
  rw [band_nat (by omega) (by omega)]
  have h : a &&& b ≤ a := Nat.and_le_left
  exact ⟨by omega, by omega, rfl⟩
def Small (a : List Int) : Prop := ∀ x ∈ a, 0 ≤ x ∧ x ≤ 255
theorem commonF_set (s : Int) : ∀ (a : List Int) (i : Nat) (acc : Int), Small a → 0 ≤ acc ∧ acc ≤ 255 → 0 ≤ commonF s a i acc ∧ commonF s a i acc ≤ 255 ∧
    ∀ e : Nat, (commonF s a i acc).toNat.testBit e = (acc.toNat.testBit e && allB (fun j => !hasE s ((i + j : Nat) : Int) || (a.getD j 0).toNat.testBit e) a.length 0)
  | [], i, acc, _, h => ⟨h.1, h.2, fun e => by simp [commonF, allB]⟩
  | x :: r, i, acc, hs, h => by
    have hx := hs x (by simp)
    have hb := band_set h hx
    have step : 0 ≤ (bif hasE s i then band acc x else acc) ∧ (bif hasE s i then band acc x else acc) ≤ 255 ∧ ∀ e : Nat, (bif hasE s i then band acc x else acc).toNat.testBit e = (acc.toNat.testBit e && (!hasE s i || x.toNat.testBit e)) := by
      cases hasE s i
      · exact ⟨h.1, h.2, fun e => by simp⟩
      · refine ⟨hb.1, hb.2.1, fun e => ?_⟩
        rw [cond_true, hb.2.2, Nat.testBit_and]
        simp
    obtain ⟨g1, g2, g3⟩ := commonF_set s r (i + 1) _ (fun y hy => hs y (by simp [hy])) ⟨step.1, step.2.1⟩
    rw [commonF]
    refine ⟨g1, g2, fun e => ?_⟩
    rw [g3 e, step.2.2 e, Bool.and_assoc]
    congr 1
    rw [List.length_cons, allB]
    congr 1
    have : allB (fun j => !hasE s ((i + j : Nat) : Int) || ((x :: r).getD j 0).toNat.testBit e) r.length (0 + 1) = allB (fun j => !hasE s ((i + 1 + j : Nat) : Int) || (r.getD j 0).toNat.testBit e) r.length 0 := by
      rw [Bool.eq_iff_iff, allB_iff, allB_iff]
      constructor
      · intro q j h1 h2
        have := q (j + 1) (by omega) (by omega)
        rw [List.getD_cons_succ] at this
        rw [← this]
        congr 4
        omega
      · intro q j h1 h2
        obtain ⟨j, rfl⟩ : ∃ k, j = k + 1 := ⟨j - 1, by omega⟩
        have := q j (by omega) (by omega)
        rw [List.getD_cons_succ]
        rw [← this]
        congr 4
        omega
    exact this.symm
theorem fullSet_bit {n : Int} (h0 : 0 ≤ n) (h8 : n ≤ 8) (e : Nat) : (fullSet n).toNat.testBit e = decide ((e : Int) < n) := by
  obtain ⟨k, rfl⟩ : ∃ k : Nat, n = k := ⟨n.toNat, by omega⟩
  have e1 : fullSet (k : Int) = ((2 ^ k - 1 : Nat) : Int) := by
    have h : k = 0 ∨ k = 1 ∨ k = 2 ∨ k = 3 ∨ k = 4 ∨ k = 5 ∨ k = 6 ∨ k = 7 ∨ k = 8 := by omega
    rcases h with rfl | rfl | rfl | rfl | rfl | rfl | rfl | rfl | rfl <;> decide
  rw [e1, Int.toNat_natCast, Nat.testBit_two_pow_sub_one]
  exact decide_eq_decide.2 (by omega)
/-- The objects that have all of a set. -/
def extAt (a : List Int) (s k : Int) : Bool := band (a.getD k.toNat 0) s == s
def extF (a : List Int) (s : Int) : Int := orF (extAt a s) a.length 0 0
def clN (m : Int) (a : List Int) (s : Nat) : Nat := (intentF m a (extF a s)).toNat
theorem sub_band {x s : Nat} (hx : x < 256) (hs : s < 256) : (band (x : Int) (s : Int) == (s : Int)) = true ↔ SubN s x := by
  rw [beq_iff_eq, band_nat hx hs]
  constructor
  · intro h i hi
    have h : x &&& s = s := by omega
    have := congrArg (fun z => Nat.testBit z i) h
    simp only [Nat.testBit_and, hi, Bool.and_true] at this
    exact this
  · intro h
    have : x &&& s = s := by
      apply Nat.eq_of_testBit_eq
      intro i
      rw [Nat.testBit_and]
      cases hb : s.testBit i
      · simp
      · simp [h i hb]
    rw [this]
theorem small_getD {a : List Int} (h : Small a) (k : Nat) : 0 ≤ a.getD k 0 ∧ a.getD k 0 ≤ 255 := by
  rw [List.getD_eq_getElem?_getD]
  cases hk : a[k]? with
  | none => simp
  | some x => exact h x (List.mem_of_getElem? hk)
theorem extF_spec {a : List Int} (hl : a.length ≤ 8) (hs : Small a) {s : Nat} (h : s < 256) : 0 ≤ extF a s ∧ extF a s ≤ 255 ∧ ∀ k : Nat, (extF a s).toNat.testBit k = true ↔ k < a.length ∧ SubN s (a.getD k 0).toNat := by
  have h1 := orF_set (extAt a s) a.length 0 0 (by omega) (by omega) (by omega)
  refine ⟨h1.1, h1.2, fun k => ?_⟩
  unfold extF
  rw [orF_bit _ _ _ _ _ (by omega) (by omega) (by omega)]
  simp only [Int.toNat_zero, Nat.zero_testBit, Bool.false_or, Nat.zero_add, Nat.zero_le, true_and, Bool.and_eq_true, decide_eq_true_eq]
  have hk := small_getD hs k
  unfold extAt
  rw [Int.toNat_natCast]
  have := sub_band (x := (a.getD k 0).toNat) (s := s) (by omega) h
  rw [Int.toNat_of_nonneg hk.1] at this
  rw [this]
/-- What is common to a set of objects. -/
theorem intentF_spec {m : Int} {a : List Int} (hm : 0 ≤ m ∧ m ≤ 8) (hl : a.length ≤ 8) (hs : Small a) {t : Int} (ht : isSet 8 t = true) : 0 ≤ intentF m a t ∧ intentF m a t ≤ 255 ∧
    ∀ e : Nat, (intentF m a t).toNat.testBit e = true ↔ (e : Int) < m ∧ ∀ k, k < a.length → t.toNat.testBit k = true → (a.getD k 0).toNat.testBit e = true := by
  have hf := fullSet_rng m
  obtain ⟨g1, g2, g3⟩ := commonF_set t a 0 (fullSet m) hs ⟨by omega, by omega⟩
  refine ⟨g1, g2, fun e => ?_⟩
  unfold intentF
  rw [g3 e, fullSet_bit hm.1 hm.2, Bool.and_eq_true, decide_eq_true_eq, allB_iff]
  constructor
  · rintro ⟨q1, q2⟩
    refine ⟨q1, fun k hk hb => ?_⟩
    have := q2 k (by omega) (by omega)
    rw [Nat.zero_add, hasE_bit ht (by omega) (by omega)] at this
    unfold bitI at this
    rw [Int.toNat_natCast, hb] at this
    simpa using this
  · rintro ⟨q1, q2⟩
    refine ⟨q1, fun k h1 h2 => ?_⟩
    rw [Nat.zero_add, hasE_bit ht (by omega) (by omega)]
    unfold bitI
    rw [Int.toNat_natCast]
    cases hb : t.toNat.testBit k
    · rfl
    · rw [q2 k (by omega) hb]; rfl
theorem ctx_small {m : Int} {a : List Int} (h : isCtx m a = true) : Small a := fun x hx => by
  have := isSet_le ((isCtx_len h).2.2.2 x hx)
  omega
theorem clN_bit {m : Int} {a : List Int} (h : isCtx m a = true) {s : Nat} (hs : s < 256) (e : Nat) : (clN m a s).testBit e = true ↔ (e : Int) < m ∧ ∀ k, k < a.length → SubN s (a.getD k 0).toNat → (a.getD k 0).toNat.testBit e = true := by
  have hl := isCtx_len h
  have hsm := ctx_small h
  obtain ⟨x1, x2, x3⟩ := extF_spec hl.1 hsm hs
  obtain ⟨_, _, i3⟩ := intentF_spec (m := m) ⟨hl.2.1, by omega⟩ hl.1 hsm (t := extF a s) (by rw [isSet8]; exact dt ⟨x1, x2⟩)
  unfold clN
  rw [i3 e]
  refine and_congr_right fun _ => ⟨fun g k hk hsub => g k hk ((x3 k).2 ⟨hk, hsub⟩), fun g k hk hb => g k hk ((x3 k).1 hb).2⟩
theorem cl_clo {m : Int} {a : List Int} (h : isCtx m a = true) : Clo m.toNat (clN m a) := by
  have hl := isCtx_len h
  have hp : ∀ s, s < 2 ^ m.toNat → s < 256 := fun s hs => by
    have : 2 ^ m.toNat ≤ 2 ^ 8 := Nat.pow_le_pow_right (by omega) (by omega)
    omega
  have hlt : ∀ s, s < 2 ^ m.toNat → clN m a s < 2 ^ m.toNat := by
    intro s hs
    refine Nat.lt_pow_two_of_testBit _ fun i hi => ?_
    cases hb : (clN m a s).testBit i
    · rfl
    · have := ((clN_bit h (hp s hs) i).1 hb).1
      omega
  have hext : ∀ s, s < 2 ^ m.toNat → SubN s (clN m a s) := by
    intro s hs i hi
    refine (clN_bit h (hp s hs) i).2 ⟨?_, fun k _ hsub => hsub i hi⟩
    rcases Nat.lt_or_ge i m.toNat with hi' | hi'
    · omega
    · rw [Nat.testBit_lt_two_pow (Nat.lt_of_lt_of_le hs (Nat.pow_le_pow_right (by omega) hi'))] at hi
      cases hi
  refine ⟨hlt, hext, fun s t hs ht hsub i hi => ?_, fun s hs => ?_⟩
  · obtain ⟨q1, q2⟩ := (clN_bit h (hp s hs) i).1 hi
    exact (clN_bit h (hp t ht) i).2 ⟨q1, fun k hk g => q2 k hk fun j hj => g j (hsub j hj)⟩
  · apply Nat.eq_of_testBit_eq
    intro i
    rw [Bool.eq_iff_iff, clN_bit h (hp _ (hlt s hs)), clN_bit h (hp s hs)]
    refine and_congr_right fun _ => ⟨fun g k hk hsub => g k hk fun j hj => ((clN_bit h (hp s hs) j).1 hj).2 k hk hsub, fun g k hk hsub => g k hk fun j hj => hsub j (hext s hs j hj)⟩
/-- The other way to a set's objects: by the columns. -/
theorem colF_bit {b : List Int} (hl : b.length ≤ 8) (e k : Nat) : (colF b e).toNat.testBit k = true ↔ k < b.length ∧ (b.getD k 0).toNat.testBit e = true := by
  unfold colF
  rw [orF_bit _ _ _ _ _ (by omega) (by omega) (by omega)]
  simp only [Int.toNat_zero, Nat.zero_testBit, Bool.false_or, Nat.zero_add, Nat.zero_le, true_and, Bool.and_eq_true, decide_eq_true_eq]
  unfold bitAt
  rw [Int.toNat_natCast, Int.toNat_natCast]
theorem ext_cols {m : Int} {a : List Int} (h : isCtx m a = true) {s : Nat} (hs : s < 2 ^ m.toNat) : commonF s (colsF m a) 0 (fullSet a.length) = extF a s := by
  have hl := isCtx_len h
  have hsm := ctx_small h
  have h256 : s < 256 := by
    have : 2 ^ m.toNat ≤ 2 ^ 8 := Nat.pow_le_pow_right (by omega) (by omega)
    omega
  have hset : isSet 8 (s : Int) = true := by rw [isSet8]; exact dt (by omega)
  have hlen : (colsF m a).length = m.toNat := colsL_length a _ _
  have hcs : Small (colsF m a) := by
    have : ∀ (d i : Nat), Small (colsL a d i) := by
      intro d
      induction d with
      | zero => intro i x hx; cases hx
      | succ d ih =>
        intro i x hx
        rcases List.mem_cons.1 hx with rfl | hx
        · exact colF_set a _ hl.1
        · exact ih (i + 1) x hx
    exact this _ _
  have hf := fullSet_rng (a.length : Int)
  obtain ⟨g1, g2, g3⟩ := commonF_set (s : Int) (colsF m a) 0 (fullSet a.length) hcs ⟨by omega, by omega⟩
  obtain ⟨x1, x2, x3⟩ := extF_spec hl.1 hsm h256
  have : (commonF s (colsF m a) 0 (fullSet a.length)).toNat = (extF a s).toNat := by
    apply Nat.eq_of_testBit_eq
    intro k
    rw [Bool.eq_iff_iff, x3 k, g3 k, fullSet_bit (by omega) (by omega), Bool.and_eq_true, decide_eq_true_eq, allB_iff]
    constructor
    · rintro ⟨q1, q2⟩
      have hk : k < a.length := by omega
      refine ⟨hk, fun e he => ?_⟩
      have hem : e < m.toNat := by
        rcases Nat.lt_or_ge e m.toNat with hi' | hi'
        · exact hi'
        · rw [Nat.testBit_lt_two_pow (Nat.lt_of_lt_of_le hs (Nat.pow_le_pow_right (by omega) hi'))] at he
          cases he
      have := q2 e (by omega) (by omega)
      rw [Nat.zero_add, hasE_bit hset (by omega) (by omega)] at this
      unfold bitI at this
      rw [Int.toNat_natCast, Int.toNat_natCast, he] at this
      unfold colsF at this
      rw [colsL_get a _ 0 e hem, Nat.zero_add] at this
      exact ((colF_bit hl.1 e k).1 (by simpa using this)).2
    · rintro ⟨q1, q2⟩
      refine ⟨by omega, fun e h1 h2 => ?_⟩
      rw [Nat.zero_add, hasE_bit hset (by omega) (by omega)]
      unfold bitI
      rw [Int.toNat_natCast, Int.toNat_natCast]
      cases hb : s.testBit e
      · rfl
      · unfold colsF
        rw [colsL_get a _ 0 e (by omega), Nat.zero_add, (colF_bit hl.1 e k).2 ⟨q1, q2 e hb⟩]
        rfl
  omega
def noAdj : List Int → Bool
  | a :: b :: r => a != b && noAdj (b :: r)
  | _ => true
theorem noAdj_get : ∀ (l : List Int), noAdj l = true → ∀ i, i + 1 < l.length → l.getD (i + 1) 0 ≠ l.getD i 0
  | [], _, i, h => by simp at h
  | [a], _, i, h => by simp at h
  | a :: b :: r, hn, i, h => by
    unfold noAdj at hn
    rw [Bool.and_eq_true] at hn
    cases i with
    | zero =>
      have := hn.1
      simp only [bne_iff_ne, ne_eq] at this
      exact fun e => this e.symm
    | succ i =>
      have := noAdj_get (b :: r) hn.2 i (by simpa using h)
      simpa using this
theorem isSet_nat {n s : Nat} (hn : n ≤ 6) (hs : s < 2 ^ n) : isSet (n : Int) (s : Int) = true := by
  unfold isSet
  refine decide_eq_true ⟨by omega, by omega, ?_⟩
  have e2 : ((2 ^ n : Nat) : Int) = (2 : Int) ^ n := by push_cast; rfl
  rw [Int.toNat_natCast, ← e2]
  omega
def closedI (m : Int) (a : List Int) (x : Int) : Bool := intentF m a (extF a x) == x
def pairI (a : List Int) (x : Int) : Int × Int := (extF a x, x)
def concF (m : Int) (a : List Int) : List (Int × Int) := bif isCtx m a then ((lecI m.toNat).filter (closedI m a)).map (pairI a) else []
theorem lec_all : ∀ n : Fin 7, noAdj (lecI n.val) = true ∧ (lecI n.val).length = 2 ^ n.val ∧ (rangeI n.val).length = 2 ^ n.val ∧ Nat.log2 (2 ^ n.val) = n.val ∧ (rangeI n.val).any (badRow 8) = false := by decide +kernel
theorem rangeI_snoc (k : Nat) : (List.range (k + 1)).map (fun (x : Nat) => (x : Int)) = (List.range k).map (fun (x : Nat) => (x : Int)) ++ [(k : Int)] := by
  rw [List.range_succ, List.map_append]
  rfl
theorem pow64 {n : Nat} (h : n ≤ 6) : 1 ≤ 2 ^ n ∧ 2 ^ n ≤ 64 := by
  have h1 := Nat.two_pow_pos n
  have h2 : 2 ^ n ≤ 2 ^ 6 := Nat.pow_le_pow_right (by omega) h
  omega
theorem lecI_isSet {m x : Int} (hm : 0 ≤ m ∧ m ≤ 6) (h : x ∈ lecI m.toNat) : isSet m x = true ∧ ∃ s : Nat, x = s ∧ s < 2 ^ m.toNat := by
  unfold lecI at h
  obtain ⟨s, hs, rfl⟩ := List.mem_map.1 h
  have hs := (lecL_mem (by omega)).1 hs
  refine ⟨?_, s, rfl, hs⟩
  unfold isSet
  refine dt ⟨by omega, by omega, ?_⟩
  have e2 : ((2 ^ m.toNat : Nat) : Int) = (2 : Int) ^ m.toNat := by push_cast; rfl
  rw [← e2]
  omega
theorem isSet_ex {m x : Int} (h : isSet m x = true) : ∃ s : Nat, x = s ∧ s < 2 ^ m.toNat := by
  unfold isSet at h
  have h := ofd h
  have e2 : ((2 ^ m.toNat : Nat) : Int) = (2 : Int) ^ m.toNat := by push_cast; rfl
  exact ⟨x.toNat, by omega, by omega⟩
theorem ext_isSet {a : List Int} (hl : a.length ≤ 8) (hs : Small a) {s : Nat} (h : s < 256) : isSet a.length (extF a s) = true := by
  obtain ⟨x1, x2, x3⟩ := extF_spec hl hs h
  have : (extF a s).toNat < 2 ^ a.length := by
    refine Nat.lt_pow_two_of_testBit _ fun i hi => ?_
    cases hb : (extF a s).toNat.testBit i
    · rfl
    · have := ((x3 i).1 hb).1
      omega
  unfold isSet
  refine dt ⟨by omega, by omega, ?_⟩
  have e2 : ((2 ^ a.length : Nat) : Int) = (2 : Int) ^ a.length := by push_cast; rfl
  rw [Int.toNat_natCast, ← e2]
  omega
def nextX (m : Int) (b : List Int) (s : Int) : Int := match nextN (clN m b) s.toNat m.toNat with
  | none => 0
  | some x => (x : Int)
def nextOk (m : Int) (b : List Int) (s : Int) : Bool := (nextN (clN m b) s.toNat m.toNat).isSome
theorem band_low {s m : Nat} (hs : s < 256) (hm : m ≤ 8) : band (s : Int) (fullSet (m : Int)) = ((lowN s m : Nat) : Int) := by
  have e1 : fullSet (m : Int) = ((2 ^ m - 1 : Nat) : Int) := by
    have h : m = 0 ∨ m = 1 ∨ m = 2 ∨ m = 3 ∨ m = 4 ∨ m = 5 ∨ m = 6 ∨ m = 7 ∨ m = 8 := by omega
    rcases h with rfl | rfl | rfl | rfl | rfl | rfl | rfl | rfl | rfl <;> decide
  have hp : 2 ^ m ≤ 2 ^ 8 := Nat.pow_le_pow_right (by omega) hm
  rw [e1, band_nat hs (by omega), Nat.and_two_pow_sub_one_eq_mod]
  rfl
theorem bor_add {s m : Nat} (hs : s < 256) (hm : m ≤ 7) : bor ((lowN s m : Nat) : Int) ((2 ^ m : Nat) : Int) = ((addN s m : Nat) : Int) := by
  have hp : 2 ^ m ≤ 2 ^ 7 := Nat.pow_le_pow_right (by omega) hm
  have hl : lowN s m ≤ s := Nat.mod_le _ _
  rw [bor_nat (by omega) (by omega)]
  rfl
theorem clN_int {m : Int} {b : List Int} (h : isCtx m b = true) {s : Nat} (hs : s < 256) : intentF m b (extF b (s : Int)) = ((clN m b s : Nat) : Int) := by
  have hl := isCtx_len h
  have he := extF_spec hl.1 (ctx_small h) hs
  have hi := intentF_spec (m := m) ⟨hl.2.1, by omega⟩ hl.1 (ctx_small h) (t := extF b s) (by rw [isSet8]; exact dt ⟨he.1, he.2.1⟩)
  unfold clN
  omega
def rowN (a : List Int) (l : List Nat) : List (Int × Int) := l.map fun (s : Nat) => pairI a (s : Int)
theorem closed_is {m : Int} {a : List Int} (h : isCtx m a = true) {s : Nat} (hs : s < 256) : closedI m a (s : Int) = isCl (clN m a) s := by
  unfold closedI isCl
  rw [clN_int h hs, Bool.eq_iff_iff, beq_iff_eq, beq_iff_eq]
  omega
theorem concF_rows {m : Int} {a : List Int} (h : isCtx m a = true) : concF m a = rowN a ((lecL m.toNat).filter (isCl (clN m a))) := by
  have hl := isCtx_len h
  unfold concF rowN lecI
  rw [h, cond_true, List.filter_map, List.map_map]
  have : (lecL m.toNat).filter (closedI m a ∘ fun (x : Nat) => (x : Int)) = (lecL m.toNat).filter (isCl (clN m a)) := by
    refine List.filter_congr fun x hx => ?_
    have hx := (lecL_mem (n := m.toNat) (by omega)).1 hx
    have := pow64 (n := m.toNat) (by omega)
    exact closed_is h (by omega)
  rw [this]
  rfl
theorem concF_start {m : Int} {a : List Int} (h : isCtx m a = true) : ∃ p q, lecL m.toNat = p ++ clN m a 0 :: q ∧ concF m a = rowN a (clN m a 0 :: q.filter (isCl (clN m a))) := by
  have hl := isCtx_len h
  have hc := cl_clo h
  have h0 : 0 < 2 ^ m.toNat := Nat.two_pow_pos _
  obtain ⟨p, q, hL⟩ := List.append_of_mem ((lecL_mem (n := m.toNat) (by omega)).2 (hc.lt 0 h0))
  refine ⟨p, q, hL, ?_⟩
  have hlen : (lecL m.toNat).length = 2 ^ m.toNat := by unfold lecL; simp
  have hq : q.length < 2 ^ m.toNat := by
    rw [hL] at hlen
    simp at hlen
    omega
  rw [concF_rows h, ← enum_all hc (by omega) (Nat.le_refl _), enum_eq hc (by omega) _ p (clN m a 0) q hL hq]
def sumB (f : Nat → Bool) : Nat → Nat → Int → Int
  | 0, _, q => q
  | d + 1, i, q => sumB f d (i + 1) (q + bif f i then 1 else 0)
theorem sumB_le (f : Nat → Bool) : ∀ (d i : Nat) (q : Int), q ≤ sumB f d i q ∧ sumB f d i q ≤ q + d
  | 0, i, q => by simp [sumB]
  | d + 1, i, q => by
    have h := sumB_le f d (i + 1) (q + bif f i then 1 else 0)
    rw [sumB]
    cases hf : f i <;> rw [hf] at h <;> simp only [cond_true, cond_false] at h ⊢ <;> omega
theorem sumB_none (f : Nat → Bool) : ∀ (d i : Nat) (q : Int), (∀ j, i ≤ j → f j = false) → sumB f d i q = q
  | 0, i, q, _ => rfl
  | d + 1, i, q, h => by
    rw [sumB, h i (Nat.le_refl _), cond_false, Int.add_zero]
    exact sumB_none f d (i + 1) q fun j hj => h j (by omega)
theorem sumB_cut (f g : Nat → Bool) (n : Nat) : ∀ (d c i : Nat) (q : Int), i + d = n → (∀ j, j < n → f j = g j) → (∀ j, n ≤ j → g j = false) → sumB g (d + c) i q = sumB f d i q
  | 0, c, i, q, h1, h2, h3 => by
    rw [Nat.zero_add]
    exact sumB_none g c i q fun j hj => h3 j (by omega)
  | d + 1, c, i, q, h1, h2, h3 => by
    rw [show d + 1 + c = (d + c) + 1 by omega, sumB, sumB, ← h2 i (by omega)]
    exact sumB_cut f g n d c (i + 1) _ (by omega) h2 h3
abbrev elC (l : List (Int × Int)) (a : Int) : Int × Int := l.getD a.toNat (0, 0)
def inC (l : List (Int × Int)) (a : Int) : Bool := decide (0 ≤ a ∧ a ≤ (l.length : Int) - 1)
theorem concF_len (m : Int) (b : List Int) : (concF m b).length ≤ 64 := by
  unfold concF
  cases h : isCtx m b with
  | false => simp
  | true =>
    have hl := isCtx_len h
    obtain ⟨h1, h2, h3, h4, h5⟩ := lec_all ⟨m.toNat, by omega⟩
    simp only at h2
    have hpw := pow64 (n := m.toNat) (by omega)
    have := List.length_filter_le (closedI m b) (lecI m.toNat)
    rw [cond_true, List.length_map]
    omega
theorem concF_mem {m : Int} {b : List Int} {p : Int × Int} (h : p ∈ concF m b) : isCtx m b = true ∧ isSet m p.2 = true ∧ isSet b.length p.1 = true ∧ p.1 = extF b p.2 ∧ intentF m b p.1 = p.2 := by
  unfold concF at h
  cases hc : isCtx m b with
  | false => rw [hc] at h; cases h
  | true =>
    rw [hc, cond_true] at h
    obtain ⟨x, hx, rfl⟩ := List.mem_map.1 h
    have hx := List.mem_filter.1 hx
    have hl := isCtx_len hc
    obtain ⟨hs, s, rfl, hlt⟩ := lecI_isSet ⟨by omega, by omega⟩ hx.1
    have hr := isSet_le hs
    refine ⟨rfl, hs, ext_isSet hl.1 (ctx_small hc) (by omega), rfl, ?_⟩
    have := hx.2
    unfold closedI at this
    exact eq_of_beq this
theorem inC_iff {l : List (Int × Int)} {a : Int} : inC l a = true ↔ 0 ≤ a ∧ a < (l.length : Int) := by
  unfold inC
  rw [decide_eq_true_eq]
  omega
theorem concF_at {m : Int} {b : List Int} {a : Int} (h : inC (concF m b) a = true) : isCtx m b = true ∧ isSet m (elC (concF m b) a).2 = true ∧ isSet b.length (elC (concF m b) a).1 = true ∧ (elC (concF m b) a).1 = extF b (elC (concF m b) a).2 ∧ intentF m b (elC (concF m b) a).1 = (elC (concF m b) a).2 := by
  have h := inC_iff.1 h
  exact concF_mem (mem_getD (by omega))
def inlF (m : Int) (a : List Int) : List Int := (concF m a).map (·.2)
def missF (a b : List Int) : List Int := a.filter (fun v => !b.any (fun y => y == v))
def onlyF (m : Int) (a : List Int) (m' : Int) (b : List Int) : List Int := (inlF m a).filter (fun v => !((isCtx m' b && isSet m' v) && closedI m' b v))
theorem inlF_len (m : Int) (a : List Int) : (inlF m a).length ≤ 64 := by
  unfold inlF
  rw [List.length_map]
  exact concF_len m a
theorem missF_len (a b : List Int) : (missF a b).length ≤ a.length := List.length_filter_le _ _
theorem lecI_of_set {m v : Int} (hm : 0 ≤ m ∧ m ≤ 6) (h : isSet m v = true) : v ∈ lecI m.toNat := by
  obtain ⟨s, rfl, hs⟩ := isSet_ex h
  unfold lecI
  exact List.mem_map.2 ⟨s, (lecL_mem (by omega)).2 hs, rfl⟩
theorem inlF_any (m : Int) (b : List Int) (v : Int) : (inlF m b).any (fun y => y == v) = ((isCtx m b && isSet m v) && closedI m b v) := by
  unfold inlF concF
  cases hc : isCtx m b with
  | false => rfl
  | true =>
    have hl := isCtx_len hc
    rw [cond_true, Bool.true_and, Bool.eq_iff_iff, List.any_eq_true, Bool.and_eq_true]
    constructor
    · rintro ⟨y, hy, hv⟩
      obtain ⟨p, hp, rfl⟩ := List.mem_map.1 hy
      obtain ⟨x, hx, rfl⟩ := List.mem_map.1 hp
      have hx := List.mem_filter.1 hx
      have e : x = v := eq_of_beq hv
      subst e
      exact ⟨(lecI_isSet ⟨by omega, by omega⟩ hx.1).1, hx.2⟩
    · rintro ⟨h1, h2⟩
      refine ⟨v, List.mem_map.2 ⟨pairI b v, List.mem_map.2 ⟨v, List.mem_filter.2 ⟨lecI_of_set ⟨by omega, by omega⟩ h1, h2⟩, rfl⟩, rfl⟩, ?_⟩
      exact beq_self_eq_true v
theorem miss_only (m : Int) (a : List Int) (m' : Int) (b : List Int) : onlyF m a m' b = missF (inlF m a) (inlF m' b) := by
  unfold onlyF missF
  refine List.filter_congr fun v _ => ?_
  rw [inlF_any]
def popF : Nat → Nat → Nat
  | 0, _ => 0
  | d + 1, s => s % 2 + popF d (s / 2)
def cntF (s : Int) : Int := if isSet 8 s then (popF 8 s.toNat : Int) else 0
theorem and1_all : ∀ s : Fin 256, band (s.val : Int) 1 = ((s.val % 2 : Nat) : Int) := by decide +kernel
theorem and1_of (s : Nat) (h : s < 256) : band (s : Int) 1 = ((s % 2 : Nat) : Int) := and1_all ⟨s, h⟩
theorem half_of (s : Nat) : ((s : Int).fdiv (2 ^ min (1 : Int).toNat IntKind.i64.bits)) = ((s / 2 : Nat) : Int) := by
  show (s : Int).fdiv 2 = _
  rw [Int.fdiv_eq_ediv_of_nonneg _ (by omega)]
  omega
theorem popF_le : ∀ (d s : Nat), popF d s ≤ d
  | 0, _ => Nat.le_refl 0
  | d + 1, s => by have := popF_le d (s / 2); unfold popF; omega
def notObj (m : Int) (b : List Int) (g : Int) : Bool := !(isCtx m b && decide (0 ≤ g ∧ g ≤ (b.length : Int) - 1))
def andRows (b : List Int) : List Int → Int → Int
  | [], acc => acc
  | g :: r, acc => andRows b r (band acc (b.getD g.toNat 0))
def sharedF (m : Int) (b : List Int) (l : List Int) : Int :=
  if isCtx m b && !l.any (notObj m b) then cntF (andRows b l (fullSet m)) else -1
def dropL (s : Int) : List Int → Nat → List Int
  | [], _ => []
  | x :: l, i => bif hasE s (i : Int) then dropL s l (i + 1) else x :: dropL s l (i + 1)
theorem dropL_len (s : Int) : ∀ (l : List Int) (i : Nat), (dropL s l i).length ≤ l.length
  | [], _ => Nat.le_refl 0
  | x :: l, i => by
    have := dropL_len s l (i + 1)
    unfold dropL
    cases hasE s (i : Int) <;> simp <;> omega
def lostF (m : Int) (b : List Int) (g : Int) : List Int := bif notObj m b g then [] else missF (inlF m b) (inlF m (dropL ((2 ^ g.toNat : Nat) : Int) b 0))
theorem lostF_len (m : Int) (b : List Int) (g : Int) : (lostF m b g).length ≤ 64 := by
  unfold lostF
  cases notObj m b g
  · have h1 := missF_len (inlF m b) (inlF m (dropL ((2 ^ g.toNat : Nat) : Int) b 0))
    have h2 := inlF_len m b
    rw [cond_false]
    omega
  · simp
theorem isSet_one {n g : Nat} (hn : n ≤ 8) (hg : g < n) : isSet n ((2 ^ g : Nat) : Int) = true := by
  have h1 : 2 ^ g < 2 ^ n := Nat.pow_lt_pow_right (by omega) hg
  unfold isSet
  have e2 : ((2 ^ n : Nat) : Int) = (2 : Int) ^ n := by push_cast; rfl
  have h0 : (0 : Int) ≤ ((2 ^ g : Nat) : Int) := Int.natCast_nonneg _
  refine dt ⟨⟨by omega, by omega⟩, h0, ?_⟩
  rw [Int.toNat_natCast, ← e2]
  omega
def renS (s e q : Int) (k : Nat) : Int := bor q (IntKind.i64.wrap (band (s.fdiv (2 ^ min e.toNat IntKind.i64.bits)) 1 * 2 ^ min (k : Int).toNat IntKind.i64.bits))
def renL (s : Int) : List Int → Nat → Int → Int
  | [], _, q => q
  | e :: l, k, q => renL s l (k + 1) (renS s e q k)
def renF (s c : Int) : Int := renL s (elemsF c) 0 0
theorem ren_all : ∀ m : Fin 7, ∀ x : Fin 64, x.val < 2 ^ m.val → renF (x.val : Int) (bnot (fullSet (m.val : Int)) 0) = (x.val : Int) := by decide +kernel
theorem cnt_all : ∀ m : Fin 7, cntF (bnot (fullSet (m.val : Int)) 0) = (m.val : Int) := by decide +kernel
theorem ren_id {m x : Int} (hm : m ≤ 6) (h : isSet m x = true) : renF x (bnot (fullSet m) 0) = x := by
  have hl := isSet_le h
  obtain ⟨t, rfl, ht⟩ := isSet_ex h
  obtain ⟨n, rfl⟩ : ∃ n : Nat, m = n := ⟨m.toNat, by omega⟩
  rw [Int.toNat_natCast] at ht
  have h6 : 2 ^ n ≤ 2 ^ 6 := Nat.pow_le_pow_right (by omega) (by omega)
  exact ren_all ⟨n, by omega⟩ ⟨t, by omega⟩ ht
theorem cnt_id {m : Int} (h0 : 0 ≤ m) (hm : m ≤ 6) : cntF (bnot (fullSet m) 0) = m := by
  obtain ⟨n, rfl⟩ : ∃ n : Nat, m = n := ⟨m.toNat, by omega⟩
  exact cnt_all ⟨n, by omega⟩
theorem bit01_all : ∀ s : Fin 256, ∀ e : Fin 9, band ((s.val : Int).fdiv (2 ^ min ((e.val : Int)).toNat IntKind.i64.bits)) 1 = bif s.val.testBit e.val then 1 else 0 := by decide +kernel
theorem renS_eq {s e q : Int} (hs : 0 ≤ s ∧ s ≤ 255) (he : 0 ≤ e ∧ e ≤ 8) (hq : 0 ≤ q ∧ q ≤ 255) {k : Nat} (hk : k ≤ 7) : renS s e q k = bif s.toNat.testBit e.toNat then bor q ((2 ^ k : Nat) : Int) else q := by
  have h := bit01_all ⟨s.toNat, by omega⟩ ⟨e.toNat, by omega⟩
  simp only [Int.toNat_of_nonneg hs.1, Int.toNat_of_nonneg he.1] at h
  unfold renS
  rw [h]
  cases s.toNat.testBit e.toNat with
  | true => rw [cond_true, cond_true, shl1 (by omega)]
  | false =>
    rw [cond_false, cond_false]
    obtain ⟨q, rfl⟩ : ∃ n : Nat, q = n := ⟨q.toNat, by omega⟩
    have e0 : IntKind.i64.wrap (0 * 2 ^ min (k : Int).toNat IntKind.i64.bits) = ((0 : Nat) : Int) := by rw [Int.zero_mul]; rfl
    rw [e0, bor_nat (by omega) (by omega), Nat.or_zero]
def pckL (s : Int) : List Int → Nat → Int → Int
  | [], _, q => q
  | e :: l, k, q => pckL s l (k + 1) (bif s.toNat.testBit e.toNat then bor q ((2 ^ k : Nat) : Int) else q)
theorem pck_step {s e q : Int} (hq : 0 ≤ q ∧ q ≤ 255) {k : Nat} (hk : k ≤ 7) : 0 ≤ (bif s.toNat.testBit e.toNat then bor q ((2 ^ k : Nat) : Int) else q) ∧ (bif s.toNat.testBit e.toNat then bor q ((2 ^ k : Nat) : Int) else q) ≤ 255 := by
  have hp : 2 ^ k ≤ 2 ^ 7 := Nat.pow_le_pow_right (by omega) hk
  have hb := bor_set (x := q) (y := ((2 ^ k : Nat) : Int)) hq ⟨Int.natCast_nonneg _, Int.ofNat_le.2 (by omega : 2 ^ k ≤ 255)⟩
  cases s.toNat.testBit e.toNat
  · exact hq
  · exact hb
theorem renL_pck {s : Int} (hs : 0 ≤ s ∧ s ≤ 255) : ∀ (l : List Int) (k : Nat) (q : Int), (∀ x ∈ l, 0 ≤ x ∧ x ≤ 7) → k + l.length ≤ 8 → (0 ≤ q ∧ q ≤ 255) → renL s l k q = pckL s l k q
  | [], _, _, _, _, _ => rfl
  | e :: l, k, q, hl, hk, hq => by
    simp only [List.length_cons] at hk
    have he := hl e (by simp)
    rw [renL, pckL, renS_eq hs ⟨he.1, by omega⟩ hq (by omega)]
    exact renL_pck hs l (k + 1) _ (fun x hx => hl x (by simp [hx])) (by omega) (pck_step hq (by omega))
theorem pckL_bit (s : Int) : ∀ (l : List Int) (k : Nat) (q : Int), k + l.length ≤ 8 → (0 ≤ q ∧ q ≤ 255) → (0 ≤ pckL s l k q ∧ pckL s l k q ≤ 255) ∧
    ∀ i, (pckL s l k q).toNat.testBit i = (q.toNat.testBit i || (decide (k ≤ i ∧ i < k + l.length) && s.toNat.testBit (l.getD (i - k) 0).toNat))
  | [], k, q, _, hq => ⟨hq, fun i => by rw [pckL, df (by simp)]; simp⟩
  | e :: l, k, q, hk, hq => by
    simp only [List.length_cons] at hk
    have hst := pck_step (s := s) (e := e) hq (show k ≤ 7 by omega)
    obtain ⟨h1, h2⟩ := pckL_bit s l (k + 1) _ (by omega) hst
    rw [pckL]
    refine ⟨h1, fun i => ?_⟩
    rw [h2 i]
    have hp : 2 ^ k ≤ 2 ^ 7 := Nat.pow_le_pow_right (by omega) (by omega)
    have hbit : (bif s.toNat.testBit e.toNat then bor q ((2 ^ k : Nat) : Int) else q).toNat.testBit i = (q.toNat.testBit i || (decide (i = k) && s.toNat.testBit e.toNat)) := by
      cases s.toNat.testBit e.toNat with
      | false => rw [cond_false, Bool.and_false, Bool.or_false]
      | true =>
        rw [cond_true, Bool.and_true]
        obtain ⟨q, rfl⟩ : ∃ n : Nat, q = n := ⟨q.toNat, by omega⟩
        rw [bor_nat (by omega) (by omega), Int.toNat_natCast, Int.toNat_natCast, Nat.testBit_or, Nat.testBit_two_pow]
        congr 1
        exact decide_eq_decide.2 ⟨fun h => h.symm, fun h => h.symm⟩
    rw [hbit, Bool.or_assoc]
    congr 1
    by_cases hi : i = k
    · subst hi
      have e1 : decide (i + 1 ≤ i ∧ i < i + 1 + l.length) = false := df (by omega)
      have e2 : decide (i ≤ i ∧ i < i + (e :: l).length) = true := dt ⟨Nat.le_refl _, by simp only [List.length_cons]; omega⟩
      rw [e1, e2, Nat.sub_self]
      simp
    · rw [df hi]
      by_cases hr : k + 1 ≤ i ∧ i < k + 1 + l.length
      · rw [dt hr, dt (show k ≤ i ∧ i < k + (e :: l).length by simp only [List.length_cons]; omega)]
        obtain ⟨j, rfl⟩ : ∃ j, i = k + 1 + j := ⟨i - (k + 1), by omega⟩
        rw [show k + 1 + j - (k + 1) = j by omega, show k + 1 + j - k = j + 1 by omega, List.getD_cons_succ]
        simp
      · rw [df hr, df (show ¬ (k ≤ i ∧ i < k + (e :: l).length) by simp only [List.length_cons]; omega)]
        simp
def leftF (m t : Int) : Int := bnot (fullSet m) t
def wthF (m : Int) (b : List Int) (s t : Int) : List Int := (dropL s b 0).map (fun x => renF x (leftF m t))
def clarR (b : List Int) : List Int := dropL (repF b) b 0
def clarF (m : Int) (b : List Int) : Int × List Int × Bool :=
  bif isCtx m b then (cntF (leftF m (repF (colsF m (clarR b)))), wthF m (clarR b) 0 (repF (colsF m (clarR b))), true) else (0, [], false)
theorem hasE_zero (i : Int) : hasE 0 i = false := by
  unfold hasE
  simp
theorem dropL_zero : ∀ (l : List Int) (i : Nat), dropL 0 l i = l
  | [], _ => rfl
  | x :: l, i => by rw [dropL, hasE_zero, cond_false, dropL_zero l (i + 1)]
theorem dropL_mem (s : Int) : ∀ (l : List Int) (i : Nat) (x : Int), x ∈ dropL s l i → x ∈ l
  | [], _, _, h => h
  | y :: l, i, x, h => by
    unfold dropL at h
    cases hE : hasE s (i : Int)
    · rw [hE, cond_false] at h
      rcases List.mem_cons.1 h with rfl | h
      · simp
      · exact List.mem_cons_of_mem _ (dropL_mem s l (i + 1) x h)
    · rw [hE, cond_true] at h
      exact List.mem_cons_of_mem _ (dropL_mem s l (i + 1) x h)
theorem dropL_ctx {m : Int} {b : List Int} (h : isCtx m b = true) (s : Int) : isCtx m (dropL s b 0) = true := by
  have hl := isCtx_len h
  have := dropL_len s b 0
  unfold isCtx
  rw [decide_eq_true (show 0 ≤ m ∧ m ≤ 6 by omega), decide_eq_true (show (dropL s b 0).length ≤ 8 by omega), List.all_eq_true.2 fun x hx => hl.2.2.2 x (dropL_mem s b 0 x hx)]
  rfl
theorem wth_zero {m : Int} {b : List Int} (h : isCtx m b = true) (s : Int) : wthF m b s 0 = dropL s b 0 := by
  have hl := isCtx_len h
  unfold wthF leftF
  refine (List.map_congr_left fun x hx => ?_).trans (List.map_id _)
  exact ren_id hl.2.2.1 (hl.2.2.2 x (dropL_mem s b 0 x hx))
theorem cnt_elems_all : ∀ c : Fin 256, cntF (c.val : Int) = ((elemsF (c.val : Int)).length : Int) := by decide +kernel
theorem cnt_elems {c : Int} (h : 0 ≤ c ∧ c ≤ 255) : cntF c = ((elemsF c).length : Int) := by
  have := cnt_elems_all ⟨c.toNat, by omega⟩
  simp only [Int.toNat_of_nonneg h.1] at this
  exact this
theorem leftF_bits {m t : Int} (hm : 0 ≤ m ∧ m ≤ 6) (ht : 0 ≤ t ∧ t ≤ 255) : (0 ≤ leftF m t ∧ leftF m t ≤ 255) ∧ ∀ i, (leftF m t).toNat.testBit i = (decide ((i : Int) < m) && !t.toNat.testBit i) := by
  have hf := fullSet_rng m
  have hb := fun i => fullSet_bit hm.1 (by omega : m ≤ 8) i
  unfold leftF
  obtain ⟨f, hfn⟩ : ∃ n : Nat, fullSet m = n := ⟨(fullSet m).toNat, by omega⟩
  obtain ⟨t, rfl⟩ : ∃ n : Nat, t = n := ⟨t.toNat, by omega⟩
  rw [hfn] at hf hb ⊢
  have key : bnot (f : Int) (t : Int) = ((f &&& (255 ^^^ t) : Nat) : Int) := by
    unfold bnot
    have e : (BitVec.ofInt 64 (f : Int) &&& ~~~(BitVec.ofInt 64 (t : Int))).toNat = f &&& (255 ^^^ t) := by
      apply Nat.eq_of_testBit_eq
      intro i
      rw [← BitVec.getLsbD, BitVec.getLsbD_and, BitVec.getLsbD_not, Nat.testBit_and, Nat.testBit_xor, ofInt_nat, ofInt_nat, BitVec.getLsbD_ofNat, BitVec.getLsbD_ofNat]
      rw [show (255 : Nat) = 2 ^ 8 - 1 from rfl, Nat.testBit_two_pow_sub_one]
      rcases Nat.lt_or_ge i 8 with hi | hi
      · rw [dt hi, dt (show i < 64 by omega)]
        simp
      · have h1 : f.testBit i = false := Nat.testBit_lt_two_pow (Nat.lt_of_lt_of_le (show f < 2 ^ 8 by omega) (Nat.pow_le_pow_right (by omega) hi))
        rw [h1]
        simp
    have h : f &&& (255 ^^^ t) ≤ f := Nat.and_le_left
    rw [show (BitVec.ofInt IntKind.i64.bits (f : Int) &&& ~~~(BitVec.ofInt IntKind.i64.bits (t : Int))).toNat = f &&& (255 ^^^ t) from e]
    exact wrap64 (by omega) (by omega)
  rw [key]
  have h : f &&& (255 ^^^ t) ≤ f := Nat.and_le_left
  refine ⟨by omega, fun i => ?_⟩
  rw [Int.toNat_natCast, Int.toNat_natCast, Nat.testBit_and, Nat.testBit_xor, show (255 : Nat) = 2 ^ 8 - 1 from rfl, Nat.testBit_two_pow_sub_one]
  have hbi := hb i
  rw [Int.toNat_natCast] at hbi
  rw [hbi]
  by_cases hi : (i : Int) < m
  · rw [dt hi, dt (show i < 8 by omega)]
    simp
  · rw [df hi]
    simp
theorem elemsF_range (c : Int) : ∀ x ∈ elemsF c, 0 ≤ x ∧ x ≤ 7 := fun x hx => by
  obtain ⟨e, h1, h2, h3, h4⟩ := elemsL_mem c x 8 0 hx
  omega
theorem renF_bit {s c : Int} (hs : 0 ≤ s ∧ s ≤ 255) : (0 ≤ renF s c ∧ renF s c ≤ 255) ∧ ∀ i, (renF s c).toNat.testBit i = (decide (i < (elemsF c).length) && s.toNat.testBit ((elemsF c).getD i 0).toNat) := by
  have he : (elemsF c).length ≤ 8 := elemsL_length _ _ _
  unfold renF
  rw [renL_pck hs _ _ _ (elemsF_range c) (by omega) (by omega)]
  obtain ⟨h1, h2⟩ := pckL_bit s (elemsF c) 0 0 (by omega) (by omega)
  refine ⟨h1, fun i => ?_⟩
  rw [h2 i]
  simp
theorem renF_set {s c : Int} (hs : 0 ≤ s ∧ s ≤ 255) : isSet ((elemsF c).length : Int) (renF s c) = true := by
  have he : (elemsF c).length ≤ 8 := elemsL_length _ _ _
  obtain ⟨h1, h2⟩ := renF_bit (c := c) hs
  have hlt : (renF s c).toNat < 2 ^ (elemsF c).length := by
    refine Nat.lt_pow_two_of_testBit _ fun i hi => ?_
    rw [h2 i, df (by omega)]
    rfl
  unfold isSet
  refine dt ⟨by omega, by omega, ?_⟩
  have e2 : ((2 ^ (elemsF c).length : Nat) : Int) = (2 : Int) ^ (elemsF c).length := by push_cast; rfl
  rw [Int.toNat_natCast, ← e2]
  omega
theorem elems_len_left {m t : Int} (hm : 0 ≤ m ∧ m ≤ 6) (ht : 0 ≤ t ∧ t ≤ 255) : ((elemsF (leftF m t)).length : Int) ≤ m := by
  obtain ⟨h1, h2⟩ := leftF_bits hm ht
  have hs : isSet m (leftF m t) = true := by
    have hlt : (leftF m t).toNat < 2 ^ m.toNat := by
      refine Nat.lt_pow_two_of_testBit _ fun i hi => ?_
      rw [h2 i, df (by omega)]
      rfl
    unfold isSet
    refine dt ⟨by omega, by omega, ?_⟩
    have e2 : ((2 ^ m.toNat : Nat) : Int) = (2 : Int) ^ m.toNat := by push_cast; rfl
    rw [← e2]
    omega
  have key : ∀ n : Fin 7, ∀ c : Fin 64, c.val < 2 ^ n.val → (elemsF (c.val : Int)).length ≤ n.val := by decide +kernel
  obtain ⟨c, hc, hc2⟩ := isSet_ex hs
  have hp := pow64 (n := m.toNat) (by omega)
  have := key ⟨m.toNat, by omega⟩ ⟨c, by omega⟩ hc2
  rw [hc]
  simp only at this
  omega
theorem wth_ctx {m : Int} {b : List Int} (h : isCtx m b = true) {s t : Int} (ht : 0 ≤ t ∧ t ≤ 255) : isCtx (cntF (leftF m t)) (wthF m b s t) = true := by
  have hl := isCtx_len h
  have hd := isCtx_len (dropL_ctx h s)
  obtain ⟨h1, h2⟩ := leftF_bits (m := m) ⟨hl.2.1, hl.2.2.1⟩ ht
  have he := elems_len_left (m := m) ⟨hl.2.1, hl.2.2.1⟩ ht
  rw [cnt_elems h1]
  unfold isCtx
  have e1 : decide (0 ≤ ((elemsF (leftF m t)).length : Int) ∧ ((elemsF (leftF m t)).length : Int) ≤ 6) = true := decide_eq_true (by omega)
  have e2 : decide ((wthF m b s t).length ≤ 8) = true := decide_eq_true (by unfold wthF; rw [List.length_map]; exact hd.1)
  have e3 : (wthF m b s t).all (isSet ((elemsF (leftF m t)).length : Int)) = true := by
    rw [List.all_eq_true]
    intro x hx
    unfold wthF at hx
    obtain ⟨y, hy, rfl⟩ := List.mem_map.1 hx
    have := isSet_le (hd.2.2.2 y hy)
    exact renF_set (by omega)
  rw [e1, e2, e3]
  rfl
theorem repF_rng {l : List Int} (h : l.length ≤ 8) : 0 ≤ repF l ∧ repF l ≤ 255 := orF_set (repAt l) l.length 0 0 (by omega) (by omega) (by omega)
theorem clar_ctx {m : Int} {b : List Int} (h : isCtx m b = true) : isCtx (clarF m b).1 (clarF m b).2.1 = true := by
  have hr := dropL_ctx h (repF b)
  have hl := isCtx_len h
  have hc : (colsF m (clarR b)).length ≤ 8 := by unfold colsF; rw [colsL_length]; omega
  unfold clarF
  rw [h]
  exact wth_ctx hr (repF_rng hc)
theorem clarF_ok (m : Int) (b : List Int) : (clarF m b).2.2 = isCtx m b := by
  unfold clarF
  cases isCtx m b <;> rfl
theorem wthF_len (m : Int) (b : List Int) (s t : Int) : (wthF m b s t).length ≤ b.length := by
  unfold wthF
  rw [List.length_map]
  exact dropL_len s b 0
theorem clarF_len (m : Int) (b : List Int) : (clarF m b).2.1.length ≤ 8 := by
  unfold clarF
  cases h : isCtx m b
  · exact Nat.zero_le _
  · have hl := isCtx_len h
    have h1 := wthF_len m (clarR b) 0 (repF (colsF m (clarR b)))
    have h2 : (clarR b).length ≤ b.length := dropL_len _ _ _
    rw [cond_true]
    dsimp only
    omega
abbrev Cu := Int × Int
def curH (h : Int) : Int := IntKind.i64.wrap (IntKind.i64.wrap (h * 6364136223846793005) + 1442695040888963407)
def curX (h : Int) : Int := IntKind.i64.wrap ↑(BitVec.ofInt IntKind.i64.bits (IntKind.i64.wrap ↑(BitVec.ofInt IntKind.i64.bits ((curH h).fdiv (2 ^ min (Int.toNat 33) IntKind.i64.bits)) ^^^ BitVec.ofInt IntKind.i64.bits ((curH h).fdiv (2 ^ min (Int.toNat 45) IntKind.i64.bits))).toNat) &&& BitVec.ofInt IntKind.i64.bits 255).toNat
def curV (b : List Int) (c : Cu) : Int := if c.1 < b.length then band (IntKind.i64.wrap (curX c.2 + IntKind.i64.wrap (b.getD c.1.toNat 0))) 255 else curX c.2
def nx (b : List Int) (c : Cu) : Cu := (if c.1 < b.length then c.1 + 1 else c.1, curH c.2)
abbrev CuOk (b : List Int) (i : Int) : Prop := 0 ≤ i ∧ i ≤ b.length ∧ b.length ≤ 1048576
theorem nx_ok {b : List Int} {c : Cu} (h : CuOk b c.1) : CuOk b (nx b c).1 := by
  unfold nx
  dsimp only
  split
  · exact ⟨by omega, by omega, h.2.2⟩
  · exact h
theorem band_byte (x : Int) : 0 ≤ band x 255 ∧ band x 255 ≤ 255 := by
  unfold band
  have h : (BitVec.ofInt IntKind.i64.bits x &&& BitVec.ofInt IntKind.i64.bits 255).toNat ≤ 255 := by
    rw [BitVec.toNat_and]
    exact Nat.and_le_right
  rw [wrap64 (by omega) (by omega)]
  omega
theorem curV_rng (b : List Int) (c : Cu) : 0 ≤ curV b c ∧ curV b c ≤ 255 := by
  unfold curV
  split
  · exact band_byte _
  · exact band_byte _
def be (b : List Int) (c : Cu) (n : Int) : Int := (curV b c).tmod n
theorem be_rng (b : List Int) (c : Cu) {n : Int} (h : 0 < n) : 0 ≤ be b c n ∧ be b c n < n := by
  have := curV_rng b c
  unfold be
  exact ⟨Int.tmod_nonneg _ this.1, Int.tmod_lt_of_pos _ h⟩
def shlI (n : Int) : Int := IntKind.i64.wrap (1 * 2 ^ min n.toNat IntKind.i64.bits)
theorem shlI_nat {n : Nat} (h : n ≤ 8) : shlI (n : Int) = ((2 ^ n : Nat) : Int) := shl1 (by omega)
theorem shlI_rng {n : Int} (h0 : 0 ≤ n) (h8 : n ≤ 8) : 1 ≤ shlI n ∧ shlI n ≤ 256 := by
  obtain ⟨k, rfl⟩ : ∃ k : Nat, n = k := ⟨n.toNat, by omega⟩
  have h8 : 2 ^ k ≤ 2 ^ 8 := Nat.pow_le_pow_right (by omega) (by omega)
  have hp := Nat.two_pow_pos k
  rw [shlI_nat (by omega)]
  omega
theorem set_zero {n : Nat} (h : n ≤ 8) : isSet (n : Int) 0 = true := by
  unfold isSet
  rw [Int.toNat_natCast]
  have := Nat.two_pow_pos n
  have e2 : ((2 ^ n : Nat) : Int) = (2 : Int) ^ n := by push_cast; rfl
  exact dt ⟨by omega, by omega, by omega⟩
def pkS (s keep : Int) : Nat → Nat → Int → Int → Int
  | 0, _, _, out => out
  | d + 1, e, n, out => bif keep.toNat.testBit e then pkS s keep d (e + 1) (n + 1) (bif s.toNat.testBit e then bor out (shlI n) else out) else pkS s keep d (e + 1) n out
def packS (s keep : Int) : Int := pkS s keep 8 0 0 0
def dropA (m : Int) (b : List Int) (t : Int) : Int × List Int × Bool := bif isCtx m b && isSet m t then (cntF (fullSet m - t), b.map (fun x => packS x (fullSet m - t)), true) else (0, [], false)
def ddL : List Int → List Int → List Int
  | [], acc => acc
  | x :: r, acc => ddL r (bif acc.any (fun y => y == x) then acc else acc ++ [x])
def gI (b : List Int) (j : Nat) : Nat → Nat → Int → Int
  | 0, _, q => q
  | d + 1, i, q => gI b j d (i + 1) (bif colF b (i : Int) == colF b (j : Int) then bor q (shlI (j : Int)) else q)
def gO (b : List Int) : Nat → Nat → Int → Int
  | 0, _, q => q
  | d + 1, i, q => gO b d (i + 1) (gI b i i 0 q)
def spClar (m : Int) (b : List Int) : Int × List Int × Bool := bif isCtx m b then dropA m (ddL b []) (gO (ddL b []) m.toNat 0 0) else (0, [], false)
theorem ddL_ok {m : Int} : ∀ (l acc : List Int), (∀ x ∈ l, isSet m x = true) → (∀ x ∈ acc, isSet m x = true) → (ddL l acc).length ≤ l.length + acc.length ∧ ∀ x ∈ ddL l acc, isSet m x = true
  | [], acc, _, h => ⟨by simp [ddL], h⟩
  | x :: r, acc, hl, h => by
    unfold ddL
    cases acc.any (fun y => y == x)
    · have := ddL_ok r (acc ++ [x]) (fun y hy => hl y (by simp [hy])) (fun y hy => by
        rcases List.mem_append.1 hy with hy | hy
        · exact h y hy
        · rw [List.mem_singleton.1 hy]; exact hl x (by simp))
      rw [cond_false]
      refine ⟨?_, this.2⟩
      have h1 := this.1
      simp only [List.length_append, List.length_cons, List.length_nil] at h1 ⊢
      omega
    · have := ddL_ok r acc (fun y hy => hl y (by simp [hy])) h
      rw [cond_true]
      refine ⟨?_, this.2⟩
      have h1 := this.1
      simp only [List.length_cons]
      omega
theorem dd_ctx {m : Int} {b : List Int} (h : isCtx m b = true) : isCtx m (ddL b []) = true := by
  have hl := isCtx_len h
  obtain ⟨h1, h2⟩ := ddL_ok (m := m) b [] hl.2.2.2 (fun x hx => by cases hx)
  simp only [List.length_nil, Nat.add_zero] at h1
  unfold isCtx
  rw [decide_eq_true (show 0 ≤ m ∧ m ≤ 6 by omega), decide_eq_true (show (ddL b []).length ≤ 8 by omega), List.all_eq_true.2 h2]
  rfl
theorem bor_isSet {m : Int} (hm : 0 ≤ m ∧ m ≤ 6) {q : Int} (hq : isSet m q = true) {j : Nat} (hj : j < m.toNat) : isSet m (bor q (shlI (j : Int))) = true := by
  obtain ⟨x, rfl, hx⟩ := isSet_ex hq
  have h6 : 2 ^ m.toNat ≤ 2 ^ 6 := Nat.pow_le_pow_right (by omega) (by omega)
  have hjl : 2 ^ j < 2 ^ m.toNat := Nat.pow_lt_pow_right (by omega) hj
  rw [shlI_nat (by omega), bor_nat (by omega) (by omega)]
  have := Nat.or_lt_two_pow hx hjl
  unfold isSet
  have e2 : ((2 ^ m.toNat : Nat) : Int) = (2 : Int) ^ m.toNat := by push_cast; rfl
  exact dt ⟨by omega, by omega, by omega⟩
theorem gI_set {m : Int} (hm : 0 ≤ m ∧ m ≤ 6) (b : List Int) {j : Nat} (hj : j < m.toNat) : ∀ (d i : Nat) (q : Int), isSet m q = true → isSet m (gI b j d i q) = true
  | 0, _, _, h => h
  | d + 1, i, q, h => by
    unfold gI
    refine gI_set hm b hj d (i + 1) _ ?_
    cases colF b (i : Int) == colF b (j : Int)
    · exact h
    · exact bor_isSet hm h hj
theorem gO_set {m : Int} (hm : 0 ≤ m ∧ m ≤ 6) (b : List Int) : ∀ (d i : Nat) (q : Int), i + d = m.toNat → isSet m q = true → isSet m (gO b d i q) = true
  | 0, _, _, _, h => h
  | d + 1, i, q, hi, h => by
    unfold gO
    exact gO_set hm b d (i + 1) _ (by omega) (gI_set hm b (by omega) _ _ _ h)
theorem spClar_ok (m : Int) (b : List Int) : (spClar m b).2.2 = isCtx m b := by
  unfold spClar
  cases h : isCtx m b
  · rfl
  · have hl := isCtx_len h
    have hz : isSet m 0 = true := by
      have := set_zero (n := m.toNat) (by omega)
      rw [Int.toNat_of_nonneg hl.2.1] at this
      exact this
    have hg := gO_set ⟨hl.2.1, hl.2.2.1⟩ (ddL b []) m.toNat 0 0 (by omega) hz
    rw [cond_true]
    unfold dropA
    rw [dd_ctx h, hg]
    rfl
theorem keep_rng {m t : Int} (hm : 0 ≤ m ∧ m ≤ 6) (h : isSet m t = true) : 0 ≤ fullSet m - t ∧ fullSet m - t ≤ 255 := by
  obtain ⟨x, rfl, hx⟩ := isSet_ex h
  have h6 : 2 ^ m.toNat ≤ 2 ^ 6 := Nat.pow_le_pow_right (by omega) (by omega)
  unfold fullSet
  rw [if_pos (by omega)]
  have e2 : ((2 ^ m.toNat : Nat) : Int) = (2 : Int) ^ m.toNat := by push_cast; rfl
  omega
/- impl.within -/
def K_within : List AV → List Ob → Option (AV × List Ob)
  | [.int .i64 n, .int .i64 l, .int .i64 h], [] => gd (True) (.bool (decide (l ≤ n ∧ n ≤ h)), [])
  | _, _ => none
@[reducible] def E_within : Env := mkE (tb []) (fun f => false) (fun r => ([], []))
theorem ev_within (n l h : Int) (hp : True) : evF E_within (1) Try.f60 [.int .i64 n, .int .i64 l, .int .i64 h] [] = some (.bool (decide (l ≤ n ∧ n ≤ h)), []) := by
  conv => lhs; whnf
  refine br_c (fun h1 => ?_) (fun h1 => ?_)
  · conv => lhs; whnf
    repeat ((first | with_reducible apply br_tt | with_reducible apply br_ff | with_reducible apply br_nf | with_reducible apply br_nt | with_reducible refine br_d ?_ (by kernel_rfl) | with_reducible apply br_t h1 | with_reducible apply br_f h1); conv => lhs; whnf)
    have := ofd h1
    simp [this]
  · conv => lhs; whnf
    repeat ((first | with_reducible apply br_tt | with_reducible apply br_ff | with_reducible apply br_nf | with_reducible apply br_nt | with_reducible refine br_d ?_ (by kernel_rfl) | with_reducible apply br_t h1 | with_reducible apply br_f h1); conv => lhs; whnf)
    have := ofn h1
    simp [this]
theorem ok_within : FnOk Try.prog 60 K_within := by
  refine fn_ok (fn := Try.f60) (k := Try.f60.ntmps) (E := E_within) (facts_of (List.forall_mem_nil _)) (by kernel_rfl) rfl (by decide +kernel) (by decide +kernel) ?_
  intro avs hin r h
  unfold K_within at h
  split at h
  · obtain ⟨hp, rfl⟩ := gd_o h
    exact ⟨_, ev_within _ _ _ hp, rfl⟩
  · cases h

/- impl.IsSet -/
def K_implIsSet : List AV → List Ob → Option (AV × List Ob)
  | [.int .i64 n, .int .i64 s], [] => gd (True) (.bool (isSet n s), [])
  | _, _ => none
@[reducible] def E_implIsSet : Env := mkE (tb [(60, K_within)]) (fun f => false) (fun r => ([], []))
theorem ev_implIsSet (n s : Int) (hp : True) : evF E_implIsSet (1) Try.f35 [.int .i64 n, .int .i64 s] [] = some (.bool (isSet n s), []) := by
  conv => lhs; whnf
  conv => lhs; arg 1; whnf
  refine bnd_g (by exact True.intro) ?_
  conv => lhs; whnf
  refine br_c (fun h => ?_) (fun h => ?_)
  · conv => lhs; whnf
    have h8 := ofd h
    repeat ((first | with_reducible apply br_tt | with_reducible apply br_ff | with_reducible apply br_nf | with_reducible apply br_nt | with_reducible refine br_d ?_ (by kernel_rfl) | with_reducible apply br_t h | with_reducible apply br_f h); conv => lhs; whnf)
    refine br_f (df (by omega)) ?_
    conv => lhs; whnf
    repeat ((first | with_reducible apply br_tt | with_reducible apply br_ff | with_reducible apply br_nf | with_reducible apply br_nt | with_reducible refine br_d ?_ (by kernel_rfl) | with_reducible apply br_t h | with_reducible apply br_f h); conv => lhs; whnf)
    conv => lhs; arg 1; whnf
    refine bnd_g (by exact True.intro) ?_
    conv => lhs; whnf
    repeat ((first | with_reducible apply br_tt | with_reducible apply br_ff | with_reducible apply br_nf | with_reducible apply br_nt | with_reducible refine br_d ?_ (by kernel_rfl) | with_reducible apply br_t h | with_reducible apply br_f h); conv => lhs; whnf)
    refine okB ?_
    unfold isSet
    refine decide_eq_decide.2 ?_
    rw [shl_set h8.1 h8.2]
    exact ⟨fun h => ⟨h8, h⟩, fun h => h.2⟩
  · conv => lhs; whnf
    repeat ((first | with_reducible apply br_tt | with_reducible apply br_ff | with_reducible apply br_nf | with_reducible apply br_nt | with_reducible refine br_d ?_ (by kernel_rfl) | with_reducible apply br_t h | with_reducible apply br_f h); conv => lhs; whnf)
    have h8 := ofn h
    simp [isSet, h8]
theorem ok_implIsSet : FnOk Try.prog 35 K_implIsSet := by
  refine fn_ok (fn := Try.f35) (k := Try.f35.ntmps) (E := E_implIsSet) (facts_of (List.forall_mem_cons.2 ⟨ok_within, List.forall_mem_nil _⟩)) (by kernel_rfl) rfl (by decide +kernel) (by decide +kernel) ?_
  intro avs hin r h
  unfold K_implIsSet at h
  split at h
  · obtain ⟨hp, rfl⟩ := gd_o h
    exact ⟨_, ev_implIsSet _ _ hp, rfl⟩
  · cases h

/- impl.IsContext$1 -/
def K_badRow1 : List AV → List Ob → Option (AV × List Ob)
  | [.int .i64 x, .vptr [.int .i64 m, .lst (.int .i64) b] 0], [] => gd (True) (.bool (badRow m x), [])
  | _, _ => none
@[reducible] def E_badRow1 : Env := mkE (tb [(35, K_implIsSet)]) (fun f => false) (fun r => ([], []))
theorem ev_badRow1 (x m : Int) (b : List Int) (hp : True) : evF E_badRow1 (1) Try.f76 [.int .i64 x, .vptr [.int .i64 m, .lst (.int .i64) b] 0] [] = some (.bool (badRow m x), []) := by
  conv => lhs; whnf
  conv => lhs; arg 1; whnf
  refine bnd_g (by exact True.intro) ?_
  conv => lhs; whnf
  rfl
theorem ok_badRow1 : FnOk Try.prog 76 K_badRow1 := by
  refine fn_ok (fn := Try.f76) (k := Try.f76.ntmps) (E := E_badRow1) (facts_of (List.forall_mem_cons.2 ⟨ok_implIsSet, List.forall_mem_nil _⟩)) (by kernel_rfl) rfl (by decide +kernel) (by decide +kernel) ?_
  intro avs hin r h
  unfold K_badRow1 at h
  split at h
  · obtain ⟨hp, rfl⟩ := gd_o h
    exact ⟨_, ev_badRow1 _ _ _ hp, rfl⟩
  · cases h

/- slices.IndexFunc[[]int,int] -/
def K_idx_badRow1 : List AV → List Ob → Option (AV × List Ob)
  | [.lst (.int .i64) a, .clo 76 [.vptr [.int .i64 m, .lst (.int .i64) b] 0]], [] => gd (a.length < 4611686018427387904 ∧ True) (.int .i64 (firstI (badRow m) a 0), [])
  | _, _ => none
@[reducible] def E_idx_badRow1 : Env := mkE (tb [(76, K_badRow1)]) (fun f => false) (fun r => bif r == 2 then ([0, 1, 7, 8], [4]) else ([], []))
theorem lp_idx_badRow1 (a : List Int) (m : Int) (b : List Int) (ht : True) (ha : a.length < 4611686018427387904) (k : AX → S → Option (AV × List Ob)) (d : Nat) : ∀ (n i : Nat) (x : Int), a.length - i = d → i ≤ a.length → x = i → d < n →
    lpAt E_idx_badRow1 (lp E_idx_badRow1 0 n) 0 (loopAt Try.f85 0) (mkS [0, 1, 7, 8] [.lst (.int .i64) a, .clo 76 [.vptr [.int .i64 m, .lst (.int .i64) b] 0], .int .i64 a.length, .int .i64 x] []) k =
      if (a.drop i).any (badRow m) then k .ret (mkS [4] [.int .i64 (firstI (badRow m) (a.drop i) i)] []) else k (.exit 0) (mkS [4] [.any] []) := by
  induction d with
  | zero =>
    intro n i x hd hi hx hn
    subst hx
    rw [lpAt_def]
    conv => lhs; whnf
    refine br_f (df (by omega)) ?_
    conv => lhs; whnf
    rw [List.drop_of_length_le (by omega)]
    simp
  | succ d ih =>
    intro n i x hd hi hx hn
    obtain ⟨n, rfl⟩ : ∃ m, n = m + 1 := ⟨n - 1, by omega⟩
    subst hx
    rw [lpAt_def]
    conv => lhs; whnf
    refine br_t (dt (by omega)) ?_
    conv => lhs; whnf
    refine br_t (dt2 (by omega) (by omega)) ?_
    conv => lhs; whnf
    conv => lhs; arg 1; whnf
    refine bnd_g (by exact True.intro) ?_
    conv => lhs; whnf
    rw [getD_drop (l := a) (i := i) (d := 0) (by omega)]
    refine br_c (fun h => ?_) (fun h => ?_)
    · have h' : (badRow m) (a.getD i 0) = true := h
      conv => lhs; whnf
      rw [if_pos (by rw [List.any_cons, h', Bool.true_or])]
      rw [firstI, h', cond_true]
    · have h' : (badRow m) (a.getD i 0) = false := h
      conv => lhs; whnf
      rw [ih n (i + 1) _ (by omega) (by omega) (by rw [wrap64 (by omega) (by omega)]; simp) (by omega)]
      rw [List.any_cons, h', Bool.false_or, firstI, h', cond_false]
      rfl
theorem ev_idx_badRow1 (a : List Int) (m : Int) (b : List Int) (hp : a.length < 4611686018427387904 ∧ True) : evF E_idx_badRow1 (a.length + 2) Try.f85 [.lst (.int .i64) a, .clo 76 [.vptr [.int .i64 m, .lst (.int .i64) b] 0]] [] = some (.int .i64 (firstI (badRow m) a 0), []) := by
  conv => lhs; whnf
  refine (lp_idx_badRow1 a m b hp.2 hp.1 _ a.length _ 0 0 rfl (by omega) rfl (by omega)).trans ?_
  simp only [List.drop_zero]
  split
  · conv => lhs; whnf
    rfl
  · rename_i he
    conv => lhs; whnf
    have : firstI (badRow m) a 0 = -1 := firstI_none (badRow m) a 0 (by simpa using he)
    rw [this]
theorem ok_idx_badRow1 : FnOk Try.prog 85 K_idx_badRow1 := by
  refine fn_ok (fn := Try.f85) (k := Try.f85.ntmps) (E := E_idx_badRow1) (facts_of (List.forall_mem_cons.2 ⟨ok_badRow1, List.forall_mem_nil _⟩)) (by kernel_rfl) rfl (by decide +kernel) (by decide +kernel) ?_
  intro avs hin r h
  unfold K_idx_badRow1 at h
  split at h
  · obtain ⟨hp, rfl⟩ := gd_o h
    exact ⟨_, ev_idx_badRow1 _ _ _ hp, rfl⟩
  · cases h

/- slices.ContainsFunc[[]int,int] -/
def K_has_badRow1 : List AV → List Ob → Option (AV × List Ob)
  | [.lst (.int .i64) a, .clo 76 [.vptr [.int .i64 m, .lst (.int .i64) b] 0]], [] => gd (a.length < 4611686018427387904 ∧ True) (.bool (a.any (badRow m)), [])
  | _, _ => none
@[reducible] def E_has_badRow1 : Env := mkE (tb [(85, K_idx_badRow1)]) (fun f => false) (fun r => ([], []))
theorem ev_has_badRow1 (a : List Int) (m : Int) (b : List Int) (hp : a.length < 4611686018427387904 ∧ True) : evF E_has_badRow1 (1) Try.f63 [.lst (.int .i64) a, .clo 76 [.vptr [.int .i64 m, .lst (.int .i64) b] 0]] [] = some (.bool (a.any (badRow m)), []) := by
  conv => lhs; whnf
  conv => lhs; arg 1; whnf
  refine bnd_g (by exact hp) ?_
  conv => lhs; whnf
  refine okB ?_
  exact firstI_iff (badRow m) a 0 (by omega)
theorem ok_has_badRow1 : FnOk Try.prog 63 K_has_badRow1 := by
  refine fn_ok (fn := Try.f63) (k := Try.f63.ntmps) (E := E_has_badRow1) (facts_of (List.forall_mem_cons.2 ⟨ok_idx_badRow1, List.forall_mem_nil _⟩)) (by kernel_rfl) rfl (by decide +kernel) (by decide +kernel) ?_
  intro avs hin r h
  unfold K_has_badRow1 at h
  split at h
  · obtain ⟨hp, rfl⟩ := gd_o h
    exact ⟨_, ev_has_badRow1 _ _ _ hp, rfl⟩
  · cases h

/- impl.IsContext -/
def K_implIsContext : List AV → List Ob → Option (AV × List Ob)
  | [.agg [.int .i64 m, .lst (.int .i64) a]], [] => gd (a.length < 4611686018427387904) (.bool (isCtx m a), [])
  | _, _ => none
@[reducible] def E_implIsContext : Env := mkE (tb [(60, K_within), (63, K_has_badRow1)]) (fun f => false) (fun r => ([], []))
theorem ev_implIsContext (m : Int) (a : List Int) (hp : a.length < 4611686018427387904) : evF E_implIsContext (1) Try.f46 [.agg [.int .i64 m, .lst (.int .i64) a]] [] = some (.bool (isCtx m a), []) := by
  conv => lhs; whnf
  conv => lhs; arg 1; whnf
  refine bnd_g (by exact True.intro) ?_
  conv => lhs; whnf
  refine br_c (fun h => ?_) (fun h => ?_)
  · conv => lhs; whnf
    repeat ((first | with_reducible apply br_tt | with_reducible apply br_ff | with_reducible apply br_nf | with_reducible apply br_nt | with_reducible refine br_d ?_ (by kernel_rfl) | with_reducible apply br_t h | with_reducible apply br_f h); conv => lhs; whnf)
    refine br_c (fun h2 => ?_) (fun h2 => ?_)
    · conv => lhs; whnf
      repeat ((first | with_reducible apply br_tt | with_reducible apply br_ff | with_reducible apply br_nf | with_reducible apply br_nt | with_reducible refine br_d ?_ (by kernel_rfl) | with_reducible apply br_t h | with_reducible apply br_f h | with_reducible apply br_t h2 | with_reducible apply br_f h2); conv => lhs; whnf)
      conv => lhs; arg 1; whnf
      refine bnd_g (by exact ⟨hp, True.intro⟩) ?_
      conv => lhs; whnf
      repeat ((first | with_reducible apply br_tt | with_reducible apply br_ff | with_reducible apply br_nf | with_reducible apply br_nt | with_reducible refine br_d ?_ (by kernel_rfl) | with_reducible apply br_t h | with_reducible apply br_f h | with_reducible apply br_t h2 | with_reducible apply br_f h2); conv => lhs; whnf)
      refine okB ?_
      unfold isCtx
      have := ofd h2
      rw [any_badRow, h, dt (by omega), Bool.true_and, Bool.true_and]
    · conv => lhs; whnf
      repeat ((first | with_reducible apply br_tt | with_reducible apply br_ff | with_reducible apply br_nf | with_reducible apply br_nt | with_reducible refine br_d ?_ (by kernel_rfl) | with_reducible apply br_t h | with_reducible apply br_f h | with_reducible apply br_t h2 | with_reducible apply br_f h2); conv => lhs; whnf)
      refine okB ?_
      unfold isCtx
      have := ofn h2
      rw [h, df (by omega), Bool.true_and, Bool.false_and]
  · conv => lhs; whnf
    repeat ((first | with_reducible apply br_tt | with_reducible apply br_ff | with_reducible apply br_nf | with_reducible apply br_nt | with_reducible refine br_d ?_ (by kernel_rfl) | with_reducible apply br_t h | with_reducible apply br_f h); conv => lhs; whnf)
    refine okB ?_
    unfold isCtx
    rw [h, Bool.false_and, Bool.false_and]
theorem ok_implIsContext : FnOk Try.prog 46 K_implIsContext := by
  refine fn_ok (fn := Try.f46) (k := Try.f46.ntmps) (E := E_implIsContext) (facts_of (List.forall_mem_cons.2 ⟨ok_within, List.forall_mem_cons.2 ⟨ok_has_badRow1, List.forall_mem_nil _⟩⟩)) (by kernel_rfl) rfl (by decide +kernel) (by decide +kernel) ?_
  intro avs hin r h
  unfold K_implIsContext at h
  split at h
  · obtain ⟨hp, rfl⟩ := gd_o h
    exact ⟨_, ev_implIsContext _ _ hp, rfl⟩
  · cases h

/- slices.Index[[]int,int] -/
def K_indexInt : List AV → List Ob → Option (AV × List Ob)
  | [.lst (.int .i64) a, .int .i64 v], [] => gd (a.length < 4611686018427387904) (.int .i64 (firstI (fun y => v == y) a 0), [])
  | _, _ => none
@[reducible] def E_indexInt : Env := mkE (tb []) (fun f => false) (fun r => bif r == 2 then ([0, 1, 7, 8], [4]) else ([], []))
theorem lp_indexInt (a : List Int) (v : Int) (ha : a.length < 4611686018427387904) (k : AX → S → Option (AV × List Ob)) (d : Nat) : ∀ (n i : Nat) (x : Int), a.length - i = d → i ≤ a.length → x = i → d < n →
    lpAt E_indexInt (lp E_indexInt 0 n) 0 (loopAt Try.f93 0) (mkS [0, 1, 7, 8] [.lst (.int .i64) a, .int .i64 v, .int .i64 a.length, .int .i64 x] []) k =
      if (a.drop i).any (fun y => v == y) then k .ret (mkS [4] [.int .i64 (firstI (fun y => v == y) (a.drop i) i)] []) else k (.exit 0) (mkS [4] [.any] []) := by
  induction d with
  | zero =>
    intro n i x hd hi hx hn
    subst hx
    rw [lpAt_def]
    conv => lhs; whnf
    refine br_f (df (by omega)) ?_
    conv => lhs; whnf
    rw [List.drop_of_length_le (by omega)]
    simp
  | succ d ih =>
    intro n i x hd hi hx hn
    obtain ⟨n, rfl⟩ : ∃ m, n = m + 1 := ⟨n - 1, by omega⟩
    subst hx
    rw [lpAt_def]
    conv => lhs; whnf
    refine br_t (dt (by omega)) ?_
    conv => lhs; whnf
    refine br_t (dt2 (by omega) (by omega)) ?_
    conv => lhs; whnf
    rw [getD_drop (l := a) (i := i) (d := 0) (by omega)]
    refine br_c (fun h => ?_) (fun h => ?_)
    · have h' : (v == a.getD i 0) = true := h
      conv => lhs; whnf
      rw [if_pos (by simp only [List.any_cons, h', Bool.true_or])]
      simp only [firstI, h', cond_true]
    · have h' : (v == a.getD i 0) = false := h
      conv => lhs; whnf
      rw [ih n (i + 1) _ (by omega) (by omega) (by rw [wrap64 (by omega) (by omega)]; simp) (by omega)]
      simp only [List.any_cons, h', Bool.false_or, firstI, cond_false]
      rfl
theorem ev_indexInt (a : List Int) (v : Int) (hp : a.length < 4611686018427387904) : evF E_indexInt (a.length + 2) Try.f93 [.lst (.int .i64) a, .int .i64 v] [] = some (.int .i64 (firstI (fun y => v == y) a 0), []) := by
  conv => lhs; whnf
  refine (lp_indexInt a v hp _ a.length _ 0 0 rfl (by omega) rfl (by omega)).trans ?_
  simp only [List.drop_zero]
  split
  · conv => lhs; whnf
    rfl
  · rename_i he
    conv => lhs; whnf
    have : firstI (fun y => v == y) a 0 = -1 := firstI_none _ a 0 (by rw [← Bool.not_eq_true]; exact he)
    rw [this]
theorem ok_indexInt : FnOk Try.prog 93 K_indexInt := by
  refine fn_ok (fn := Try.f93) (k := Try.f93.ntmps) (E := E_indexInt) (facts_of (List.forall_mem_nil _)) (by kernel_rfl) rfl (by decide +kernel) (by decide +kernel) ?_
  intro avs hin r h
  unfold K_indexInt at h
  split at h
  · obtain ⟨hp, rfl⟩ := gd_o h
    exact ⟨_, ev_indexInt _ _ hp, rfl⟩
  · cases h

/- slices.Contains[[]int,int] -/
def K_containsInt : List AV → List Ob → Option (AV × List Ob)
  | [.lst (.int .i64) a, .int .i64 v], [] => gd (a.length < 4611686018427387904) (.bool (a.any (fun y => v == y)), [])
  | _, _ => none
@[reducible] def E_containsInt : Env := mkE (tb [(93, K_indexInt)]) (fun f => false) (fun r => ([], []))
theorem ev_containsInt (a : List Int) (v : Int) (hp : a.length < 4611686018427387904) : evF E_containsInt (1) Try.f80 [.lst (.int .i64) a, .int .i64 v] [] = some (.bool (a.any (fun y => v == y)), []) := by
  conv => lhs; whnf
  conv => lhs; arg 1; whnf
  refine bnd_g (by exact hp) ?_
  conv => lhs; whnf
  refine okB ?_
  exact firstI_iff _ a 0 (by omega)
theorem ok_containsInt : FnOk Try.prog 80 K_containsInt := by
  refine fn_ok (fn := Try.f80) (k := Try.f80.ntmps) (E := E_containsInt) (facts_of (List.forall_mem_cons.2 ⟨ok_indexInt, List.forall_mem_nil _⟩)) (by kernel_rfl) rfl (by decide +kernel) (by decide +kernel) ?_
  intro avs hin r h
  unfold K_containsInt at h
  split at h
  · obtain ⟨hp, rfl⟩ := gd_o h
    exact ⟨_, ev_containsInt _ _ hp, rfl⟩
  · cases h

/- impl.repeated -/
def K_repeated : List AV → List Ob → Option (AV × List Ob)
  | [.lst (.int .i64) l], [] => gd (l.length ≤ 8) (.int .i64 (repF l), [])
  | _, _ => none
@[reducible] def E_repeated : Env := mkE (tb [(80, K_containsInt)]) (fun f => false) (fun r => bif r == 3 then ([0, 3, 6, 7, 8], [3]) else ([], []))
theorem lp_repeated (l : List Int) (hl : l.length ≤ 8) (k : AX → S → Option (AV × List Ob)) (d : Nat) : ∀ (n i : Nat) (x q : Int), l.length - i = d → i ≤ l.length → x = i → d < n →
    lpAt E_repeated (lp E_repeated 0 n) 0 (loopAt Try.f48 0) (mkS [0, 3, 6, 7, 8] [.lst (.int .i64) l, .int .i64 q, .lst (.int .i64) l, .int .i64 l.length, .int .i64 x] []) k =
      k (.exit 0) (mkS [3] [.int .i64 (orF (repAt l) d i q)] []) := by
  induction d with
  | zero =>
    intro n i x q hd hi hx hn
    subst hx
    rw [lpAt_def]
    conv => lhs; whnf
    refine br_f (df (by omega)) ?_
    conv => lhs; whnf
    rfl
  | succ d ih =>
    intro n i x q hd hi hx hn
    obtain ⟨n, rfl⟩ : ∃ m, n = m + 1 := ⟨n - 1, by omega⟩
    subst hx
    rw [lpAt_def]
    conv => lhs; whnf
    refine br_t (dt (by omega)) ?_
    conv => lhs; whnf
    refine br_t (dt2 (by omega) (by omega)) ?_
    conv => lhs; whnf
    refine br_t (dt2 (by omega) (by omega)) ?_
    conv => lhs; whnf
    conv => lhs; arg 1; whnf
    refine bnd_g (by simp; omega) ?_
    conv => lhs; whnf
    refine br_c (fun h => ?_) (fun h => ?_)
    · have h' : repAt l i = true := h
      conv => lhs; whnf
      refine br_f (df (by omega)) ?_
      conv => lhs; whnf
      rw [shl1 (by omega)]
      rw [ih n (i + 1) _ _ (by omega) (by omega) (by rw [wrap64 (by omega) (by omega)]; simp) (by omega)]
      rw [orF, h', cond_true]
      rfl
    · have h' : repAt l i = false := h
      conv => lhs; whnf
      rw [ih n (i + 1) _ _ (by omega) (by omega) (by rw [wrap64 (by omega) (by omega)]; simp) (by omega)]
      rw [orF, h', cond_false]
theorem ev_repeated (l : List Int) (hp : l.length ≤ 8) : evF E_repeated (20) Try.f48 [.lst (.int .i64) l] [] = some (.int .i64 (repF l), []) := by
  conv => lhs; whnf
  refine (lp_repeated l hp _ l.length _ 0 0 0 rfl (by omega) rfl (by change _ < 19; omega)).trans ?_
  conv => lhs; whnf
  rfl
theorem ok_repeated : FnOk Try.prog 48 K_repeated := by
  refine fn_ok (fn := Try.f48) (k := Try.f48.ntmps) (E := E_repeated) (facts_of (List.forall_mem_cons.2 ⟨ok_containsInt, List.forall_mem_nil _⟩)) (by kernel_rfl) rfl (by decide +kernel) (by decide +kernel) ?_
  intro avs hin r h
  unfold K_repeated at h
  split at h
  · obtain ⟨hp, rfl⟩ := gd_o h
    exact ⟨_, ev_repeated _ hp, rfl⟩
  · cases h

/- impl.FullSet -/
def K_implFullSet : List AV → List Ob → Option (AV × List Ob)
  | [.int .i64 n], [] => gd (True) (.int .i64 (fullSet n), [])
  | _, _ => none
@[reducible] def E_implFullSet : Env := mkE (tb [(60, K_within)]) (fun f => false) (fun r => ([], []))
theorem ev_implFullSet (n : Int) (hp : True) : evF E_implFullSet (1) Try.f77 [.int .i64 n] [] = some (.int .i64 (fullSet n), []) := by
  conv => lhs; whnf
  conv => lhs; arg 1; whnf
  refine bnd_g (by exact True.intro) ?_
  conv => lhs; whnf
  refine br_c (fun h => ?_) (fun h => ?_)
  · have h := ofnt h
    conv => lhs; whnf
    rw [fullSet, if_neg h]
  · have h := ofnf h
    conv => lhs; whnf
    refine br_f (df (by omega)) ?_
    conv => lhs; whnf
    refine okI ?_
    rw [fullSet, if_pos h]
    exact shl_set h.1 h.2
theorem ok_implFullSet : FnOk Try.prog 77 K_implFullSet := by
  refine fn_ok (fn := Try.f77) (k := Try.f77.ntmps) (E := E_implFullSet) (facts_of (List.forall_mem_cons.2 ⟨ok_within, List.forall_mem_nil _⟩)) (by kernel_rfl) rfl (by decide +kernel) (by decide +kernel) ?_
  intro avs hin r h
  unfold K_implFullSet at h
  split at h
  · obtain ⟨hp, rfl⟩ := gd_o h
    exact ⟨_, ev_implFullSet _ hp, rfl⟩
  · cases h

/- impl.isAnySet -/
def K_isAnySet : List AV → List Ob → Option (AV × List Ob)
  | [.int .i64 s], [] => gd (True) (.bool (isSet 8 s), [])
  | _, _ => none
@[reducible] def E_isAnySet : Env := mkE (tb [(35, K_implIsSet)]) (fun f => false) (fun r => ([], []))
theorem ev_isAnySet (s : Int) (hp : True) : evF E_isAnySet (1) Try.f86 [.int .i64 s] [] = some (.bool (isSet 8 s), []) := by
  conv => lhs; whnf
  conv => lhs; arg 1; whnf
  refine bnd_g (by exact True.intro) ?_
  conv => lhs; whnf
theorem ok_isAnySet : FnOk Try.prog 86 K_isAnySet := by
  refine fn_ok (fn := Try.f86) (k := Try.f86.ntmps) (E := E_isAnySet) (facts_of (List.forall_mem_cons.2 ⟨ok_implIsSet, List.forall_mem_nil _⟩)) (by kernel_rfl) rfl (by decide +kernel) (by decide +kernel) ?_
  intro avs hin r h
  unfold K_isAnySet at h
  split at h
  · obtain ⟨hp, rfl⟩ := gd_o h
    exact ⟨_, ev_isAnySet _ hp, rfl⟩
  · cases h

/- math/bits.OnesCount64 -/
def K_onesCount64 : List AV → List Ob → Option (AV × List Ob)
  | [.int .u64 s], [] => gd (0 ≤ s ∧ s ≤ 255) (.int .i64 (popF 8 s.toNat : Int), [])
  | _, _ => none
@[reducible] def E_onesCount64 : Env := mkE (tb []) (fun f => false) (fun r => ([], []))
theorem ev_onesCount64 (s : Int) (hp : 0 ≤ s ∧ s ≤ 255) : evF E_onesCount64 (1) Try.f97 [.int .u64 s] [] = some (.int .i64 (popF 8 s.toNat : Int), []) := by
  conv => lhs; whnf
  refine br_f (df (by omega)) ?_
  conv => lhs; whnf
  refine br_f (df (by omega)) ?_
  conv => lhs; whnf
  refine br_f (df (by omega)) ?_
  conv => lhs; whnf
  refine br_f (df (by omega)) ?_
  conv => lhs; whnf
  refine br_f (df (by omega)) ?_
  conv => lhs; whnf
  refine br_f (df (by omega)) ?_
  conv => lhs; whnf
  refine okI ?_
  obtain ⟨n, hn⟩ : ∃ n : Fin 256, s = ((n.val : Nat) : Int) := ⟨⟨s.toNat, by omega⟩, by dsimp only; omega⟩
  subst hn
  clear hp
  revert n
  decide +kernel
theorem ok_onesCount64 : FnOk Try.prog 97 K_onesCount64 := by
  refine fn_ok (fn := Try.f97) (k := Try.f97.ntmps) (E := E_onesCount64) (facts_of (List.forall_mem_nil _)) (by kernel_rfl) rfl (by decide +kernel) (by decide +kernel) ?_
  intro avs hin r h
  unfold K_onesCount64 at h
  split at h
  · obtain ⟨hp, rfl⟩ := gd_o h
    exact ⟨_, ev_onesCount64 _ hp, rfl⟩
  · cases h

/- math/bits.OnesCount -/
def K_onesCount : List AV → List Ob → Option (AV × List Ob)
  | [.int .u64 s], [] => gd (0 ≤ s ∧ s ≤ 255) (.int .i64 (popF 8 s.toNat : Int), [])
  | _, _ => none
@[reducible] def E_onesCount : Env := mkE (tb [(97, K_onesCount64)]) (fun f => false) (fun r => ([], []))
theorem ev_onesCount (s : Int) (hp : 0 ≤ s ∧ s ≤ 255) : evF E_onesCount (1) Try.f92 [.int .u64 s] [] = some (.int .i64 (popF 8 s.toNat : Int), []) := by
  conv => lhs; whnf
  repeat ((first | with_reducible apply br_tt | with_reducible apply br_ff | with_reducible apply br_nf | with_reducible apply br_nt | with_reducible refine br_d ?_ (by kernel_rfl)); conv => lhs; whnf)
  conv => lhs; arg 1; whnf
  refine bnd_g (by exact hp) ?_
  conv => lhs; whnf
theorem ok_onesCount : FnOk Try.prog 92 K_onesCount := by
  refine fn_ok (fn := Try.f92) (k := Try.f92.ntmps) (E := E_onesCount) (facts_of (List.forall_mem_cons.2 ⟨ok_onesCount64, List.forall_mem_nil _⟩)) (by kernel_rfl) rfl (by decide +kernel) (by decide +kernel) ?_
  intro avs hin r h
  unfold K_onesCount at h
  split at h
  · obtain ⟨hp, rfl⟩ := gd_o h
    exact ⟨_, ev_onesCount _ hp, rfl⟩
  · cases h

/- impl.CountOf -/
def K_implCountOf : List AV → List Ob → Option (AV × List Ob)
  | [.int .i64 s], [] => gd (True) (.int .i64 (cntF s), [])
  | _, _ => none
@[reducible] def E_implCountOf : Env := mkE (tb [(86, K_isAnySet), (92, K_onesCount)]) (fun f => false) (fun r => ([], []))
theorem ev_implCountOf (s : Int) (hp : True) : evF E_implCountOf (1) Try.f78 [.int .i64 s] [] = some (.int .i64 (cntF s), []) := by
  conv => lhs; whnf
  conv => lhs; arg 1; whnf
  refine bnd_g (by exact True.intro) ?_
  conv => lhs; whnf
  refine br_c (fun h => ?_) (fun h => ?_)
  · conv => lhs; whnf
    unfold cntF
    rw [if_neg (by rw [bnt h]; exact Bool.false_ne_true)]
  · have hs := isSet_le (bnf h)
    conv => lhs; whnf
    have e : IntKind.u64.wrap s = s := by
      simp [IntKind.wrap, IntKind.bits, IntKind.signed]
      omega
    rw [e]
    conv => lhs; arg 1; whnf
    refine bnd_g (by exact ⟨by omega, by omega⟩) ?_
    conv => lhs; whnf
    refine okI ?_
    unfold cntF
    rw [if_pos (bnf h)]
theorem ok_implCountOf : FnOk Try.prog 78 K_implCountOf := by
  refine fn_ok (fn := Try.f78) (k := Try.f78.ntmps) (E := E_implCountOf) (facts_of (List.forall_mem_cons.2 ⟨ok_isAnySet, List.forall_mem_cons.2 ⟨ok_onesCount, List.forall_mem_nil _⟩⟩)) (by kernel_rfl) rfl (by decide +kernel) (by decide +kernel) ?_
  intro avs hin r h
  unfold K_implCountOf at h
  split at h
  · obtain ⟨hp, rfl⟩ := gd_o h
    exact ⟨_, ev_implCountOf _ hp, rfl⟩
  · cases h

/- impl.HasElement -/
def K_hasElement : List AV → List Ob → Option (AV × List Ob)
  | [.int .i64 s, .int .i64 e], [] => gd (True) (.bool (hasE s e), [])
  | _, _ => none
@[reducible] def E_hasElement : Env := mkE (tb [(86, K_isAnySet), (60, K_within)]) (fun f => false) (fun r => ([], []))
theorem ev_hasElement (s e : Int) (hp : True) : evF E_hasElement (1) Try.f65 [.int .i64 s, .int .i64 e] [] = some (.bool (hasE s e), []) := by
  conv => lhs; whnf
  conv => lhs; arg 1; whnf
  refine bnd_g (by exact True.intro) ?_
  conv => lhs; whnf
  refine br_c (fun h => ?_) (fun h => ?_)
  · conv => lhs; whnf
    repeat ((first | with_reducible apply br_tt | with_reducible apply br_ff | with_reducible apply br_nf | with_reducible apply br_nt | with_reducible refine br_d ?_ (by kernel_rfl) | with_reducible apply br_t h | with_reducible apply br_f h); conv => lhs; whnf)
    conv => lhs; arg 1; whnf
    refine bnd_g (by exact True.intro) ?_
    conv => lhs; whnf
    repeat ((first | with_reducible apply br_tt | with_reducible apply br_ff | with_reducible apply br_nf | with_reducible apply br_nt | with_reducible refine br_d ?_ (by kernel_rfl) | with_reducible apply br_t h | with_reducible apply br_f h); conv => lhs; whnf)
    refine br_c (fun h2 => ?_) (fun h2 => ?_)
    · conv => lhs; whnf
      repeat ((first | with_reducible apply br_tt | with_reducible apply br_ff | with_reducible apply br_nf | with_reducible apply br_nt | with_reducible refine br_d ?_ (by kernel_rfl) | with_reducible apply br_t h | with_reducible apply br_f h | with_reducible apply br_t h2 | with_reducible apply br_f h2); conv => lhs; whnf)
      have h2' := ofd h2
      refine br_f (df (by omega)) ?_
      conv => lhs; whnf
      repeat ((first | with_reducible apply br_tt | with_reducible apply br_ff | with_reducible apply br_nf | with_reducible apply br_nt | with_reducible refine br_d ?_ (by kernel_rfl) | with_reducible apply br_t h | with_reducible apply br_f h | with_reducible apply br_t h2 | with_reducible apply br_f h2); conv => lhs; whnf)
      refine okB ?_
      have hs := isSet_le h
      unfold hasE
      rw [h, h2, Bool.true_and, Bool.true_and]
      exact bit_of (by omega) (by omega) (by omega) (by omega)
    · conv => lhs; whnf
      repeat ((first | with_reducible apply br_tt | with_reducible apply br_ff | with_reducible apply br_nf | with_reducible apply br_nt | with_reducible refine br_d ?_ (by kernel_rfl) | with_reducible apply br_t h | with_reducible apply br_f h | with_reducible apply br_t h2 | with_reducible apply br_f h2); conv => lhs; whnf)
      refine okB ?_
      unfold hasE
      rw [h, h2]
      rfl
  · conv => lhs; whnf
    repeat ((first | with_reducible apply br_tt | with_reducible apply br_ff | with_reducible apply br_nf | with_reducible apply br_nt | with_reducible refine br_d ?_ (by kernel_rfl) | with_reducible apply br_t h | with_reducible apply br_f h); conv => lhs; whnf)
    refine okB ?_
    unfold hasE
    rw [h]
    rfl
theorem ok_hasElement : FnOk Try.prog 65 K_hasElement := by
  refine fn_ok (fn := Try.f65) (k := Try.f65.ntmps) (E := E_hasElement) (facts_of (List.forall_mem_cons.2 ⟨ok_isAnySet, List.forall_mem_cons.2 ⟨ok_within, List.forall_mem_nil _⟩⟩)) (by kernel_rfl) rfl (by decide +kernel) (by decide +kernel) ?_
  intro avs hin r h
  unfold K_hasElement at h
  split at h
  · obtain ⟨hp, rfl⟩ := gd_o h
    exact ⟨_, ev_hasElement _ _ hp, rfl⟩
  · cases h

/- impl.ElementsOf -/
def K_elementsOf : List AV → List Ob → Option (AV × List Ob)
  | [.int .i64 s], [] => gd (True) (.own 0, [.row 3 (.int .i64) (elemsF s)])
  | _, _ => none
@[reducible] def E_elementsOf : Env := mkE (tb [(65, K_hasElement)]) (fun f => false) (fun r => bif r == 3 then ([0, 3, 6], [3]) else ([], []))
theorem lp_elementsOf (s : Int) (k : AX → S → Option (AV × List Ob)) (d : Nat) : ∀ (n i : Nat) (x : Int) (ys : List Int), 8 - i = d → i ≤ 8 → x = i → d < n → ys.length ≤ i →
    lpAt E_elementsOf (lp E_elementsOf 0 n) 0 (loopAt Try.f36 0) (mkS [0, 3, 6] [.int .i64 s, .own 0, .int .i64 x] [some (.row 3 (.int .i64) ys)]) k =
      k (.exit 0) (mkS [3] [.own 0] [some (.row 3 (.int .i64) (ys ++ elemsL s d i))]) := by
  induction d with
  | zero =>
    intro n i x ys hd hi hx hn hl
    subst hx
    rw [lpAt_def]
    conv => lhs; whnf
    refine br_f (df (by omega)) ?_
    conv => lhs; whnf
    rw [elemsL, List.append_nil]
  | succ d ih =>
    intro n i x ys hd hi hx hn hl
    obtain ⟨n, rfl⟩ : ∃ m, n = m + 1 := ⟨n - 1, by omega⟩
    subst hx
    rw [lpAt_def]
    conv => lhs; whnf
    refine br_t (dt (by omega)) ?_
    conv => lhs; whnf
    conv => lhs; arg 1; whnf
    refine bnd_g (by exact True.intro) ?_
    conv => lhs; whnf
    refine br_c (fun h => ?_) (fun h => ?_)
    · conv => lhs; whnf
      refine br_t (dt (by simp [room]; omega)) ?_
      conv => lhs; whnf
      rw [ih n (i + 1) _ _ (by omega) (by omega) (by rw [wrap64 (by omega) (by omega)]; simp) (by omega) (by simp; omega)]
      rw [elemsL, h, cond_true]
      simp
    · conv => lhs; whnf
      rw [ih n (i + 1) _ _ (by omega) (by omega) (by rw [wrap64 (by omega) (by omega)]; simp) (by omega) (by omega)]
      rw [elemsL, h, cond_false]
theorem ev_elementsOf (s : Int) (hp : True) : evF E_elementsOf (20) Try.f36 [.int .i64 s] [] = some (.own 0, [.row 3 (.int .i64) (elemsF s)]) := by
  conv => lhs; whnf
  refine (lp_elementsOf s _ 8 _ 0 0 _ rfl (by omega) rfl (by decide) (by simp)).trans ?_
  conv => lhs; whnf
  rfl
theorem ok_elementsOf : FnOk Try.prog 36 K_elementsOf := by
  refine fn_ok (fn := Try.f36) (k := Try.f36.ntmps) (E := E_elementsOf) (facts_of (List.forall_mem_cons.2 ⟨ok_hasElement, List.forall_mem_nil _⟩)) (by kernel_rfl) rfl (by decide +kernel) (by decide +kernel) ?_
  intro avs hin r h
  unfold K_elementsOf at h
  split at h
  · obtain ⟨hp, rfl⟩ := gd_o h
    exact ⟨_, ev_elementsOf _ hp, rfl⟩
  · cases h

/- impl.renumbered -/
def K_renumbered : List AV → List Ob → Option (AV × List Ob)
  | [.int .i64 s, .int .i64 c], [] => gd (True) (.int .i64 (renF s c), [])
  | _, _ => none
@[reducible] def E_renumbered : Env := mkE (tb [(36, K_elementsOf)]) (fun f => false) (fun r => bif r == 3 then ([0, 5, 9, 10, 11], [5]) else ([], []))
theorem lp_renumbered (s : Int) (l : List Int) (hl : l.length ≤ 8) (hm : ∀ x ∈ l, 0 ≤ x ∧ x ≤ 7) (k : AX → S → Option (AV × List Ob)) (d : Nat) : ∀ (n i : Nat) (x q : Int), l.length - i = d → i ≤ l.length → x = i → d < n →
    lpAt E_renumbered (lp E_renumbered 0 n) 0 (loopAt Try.f79 0) (mkS [0, 5, 9, 10, 11] [.int .i64 s, .int .i64 q, .own 0, .int .i64 l.length, .int .i64 x] [some (.row 3 (.int .i64) l)]) k =
      k (.exit 0) (mkS [5] [.int .i64 (renL s (l.drop i) i q)] []) := by
  induction d with
  | zero =>
    intro n i x q hd hi hx hn
    subst hx
    rw [lpAt_def]
    conv => lhs; whnf
    refine br_f (df (by omega)) ?_
    conv => lhs; whnf
    rw [List.drop_of_length_le (by omega)]
    rfl
  | succ d ih =>
    intro n i x q hd hi hx hn
    obtain ⟨n, rfl⟩ : ∃ m, n = m + 1 := ⟨n - 1, by omega⟩
    subst hx
    have he := hm _ (mem_getD (d := 0) (show i < l.length by omega))
    rw [lpAt_def]
    conv => lhs; whnf
    refine br_t (dt (by omega)) ?_
    conv => lhs; whnf
    refine br_t (dt2 (by omega) (by omega)) ?_
    conv => lhs; whnf
    refine br_t (dt (by omega)) ?_
    conv => lhs; whnf
    refine br_f (by exact df (show ¬ l.getD i 0 < 0 by omega)) ?_
    conv => lhs; whnf
    refine br_f (df (by omega)) ?_
    conv => lhs; whnf
    refine Eq.trans (ih n (i + 1) _ _ (by omega) (by omega) (by rw [wrap64 (n := (i : Int) + 1) (by omega) (by omega)]; simp) (by omega)) ?_
    rw [getD_drop (l := l) (i := i) (d := 0) (by omega), renL]
    rfl
theorem ev_renumbered (s c : Int) (hp : True) : evF E_renumbered (20) Try.f79 [.int .i64 s, .int .i64 c] [] = some (.int .i64 (renF s c), []) := by
  have he : (elemsF c).length ≤ 8 := elemsL_length _ _ _
  conv => lhs; whnf
  conv => lhs; arg 1; whnf
  refine bnd_g (by exact True.intro) ?_
  conv => lhs; whnf
  refine (lp_renumbered s (elemsF c) he (fun x hx => by obtain ⟨e, h1, h2, h3, h4⟩ := elemsL_mem c x 8 0 hx; omega) _ (elemsF c).length _ 0 0 0 rfl (by omega) rfl (by change _ < 19; omega)).trans ?_
  conv => lhs; whnf
  rfl
theorem ok_renumbered : FnOk Try.prog 79 K_renumbered := by
  refine fn_ok (fn := Try.f79) (k := Try.f79.ntmps) (E := E_renumbered) (facts_of (List.forall_mem_cons.2 ⟨ok_elementsOf, List.forall_mem_nil _⟩)) (by kernel_rfl) rfl (by decide +kernel) (by decide +kernel) ?_
  intro avs hin r h
  unfold K_renumbered at h
  split at h
  · obtain ⟨hp, rfl⟩ := gd_o h
    exact ⟨_, ev_renumbered _ _ hp, rfl⟩
  · cases h

/- impl.without -/
def K_without1 : List AV → List Ob → Option (AV × List Ob)
  | [.agg [.int .i64 m, .lst (.int .i64) b], .int .i64 s, .int .i64 t], [] => gd (b.length ≤ 8) (.agg [.int .i64 (cntF (leftF m t)), .own 0], [.row 3 (.int .i64) (wthF m b s t)])
  | _, _ => none
@[reducible] def E_without1 : Env := mkE (tb [(77, K_implFullSet), (78, K_implCountOf), (65, K_hasElement), (79, K_renumbered)]) (fun f => false) (fun r => bif r == 4 then ([1, 6, 7, 8, 20, 21, 22], [6, 8]) else ([], []))
theorem lp_without1 (m : Int) (b : List Int) (hb : b.length ≤ 8) (s c : Int) (A : Int) (k : AX → S → Option (AV × List Ob)) (d : Nat) : ∀ (n i : Nat) (x : Int) (zs : List Int), b.length - i = d → i ≤ b.length → x = i → d < n → zs.length ≤ i →
    lpAt E_without1 (lp E_without1 0 n) 0 (loopAt Try.f47 0) (mkS [1, 6, 7, 8, 20, 21, 22] [.int .i64 s, .ptr 0 0, .int .i64 c, .ptr 2 0, .lst (.int .i64) b, .int .i64 b.length, .int .i64 x] [some (.box 41 [.int .i64 0, .own 1]), some (.row 3 (.int .i64) []), some (.box 41 [.int .i64 A, .own 3]), some (.row 3 (.int .i64) zs)]) k =
      k (.exit 0) (mkS [6, 8] [.ptr 0 0, .ptr 2 0] [some (.box 41 [.int .i64 0, .own 1]), some (.row 3 (.int .i64) []), some (.box 41 [.int .i64 A, .own 3]), some (.row 3 (.int .i64) (zs ++ (dropL s (b.drop i) i).map (fun x => renF x c)))]) := by
  induction d with
  | zero =>
    intro n i x zs hd hi hx hn hz
    subst hx
    rw [lpAt_def]
    conv => lhs; whnf
    refine br_f (df (by omega)) ?_
    conv => lhs; whnf
    rw [List.drop_of_length_le (by omega), dropL, List.map_nil, List.append_nil]
  | succ d ih =>
    intro n i x zs hd hi hx hn hz
    obtain ⟨n, rfl⟩ : ∃ m, n = m + 1 := ⟨n - 1, by omega⟩
    subst hx
    rw [lpAt_def]
    conv => lhs; whnf
    refine br_t (dt (by omega)) ?_
    conv => lhs; whnf
    refine br_t (dt2 (by omega) (by omega)) ?_
    conv => lhs; whnf
    conv => lhs; arg 1; whnf
    refine bnd_g (by exact True.intro) ?_
    conv => lhs; whnf
    rw [getD_drop (l := b) (i := i) (d := 0) (by omega)]
    refine br_c (fun h => ?_) (fun h => ?_)
    · have h' : hasE s i = false := bnt h
      conv => lhs; whnf
      conv => lhs; arg 1; whnf
      refine bnd_g (by exact True.intro) ?_
      conv => lhs; whnf
      refine br_t (dt (by simp [room]; omega)) ?_
      conv => lhs; whnf
      repeat ((first | with_reducible apply br_tt | with_reducible apply br_ff | with_reducible apply br_nf | with_reducible apply br_nt | with_reducible refine br_d ?_ (by kernel_rfl)); conv => lhs; whnf)
      refine (ih n (i + 1) (IntKind.i64.wrap ((i : Int) + 1)) _ (by omega) (by omega) (by rw [wrap64 (by omega) (by omega)]; simp) (by omega) (by simp; omega)).trans ?_
      rw [dropL, h', cond_false, List.map_cons]
      simp only [List.append_assoc]
      rfl
    · have h' : hasE s i = true := bnf h
      conv => lhs; whnf
      refine (ih n (i + 1) (IntKind.i64.wrap ((i : Int) + 1)) _ (by omega) (by omega) (by rw [wrap64 (by omega) (by omega)]; simp) (by omega) (by omega)).trans ?_
      rw [dropL, h', cond_true]
theorem ev_without1 (m : Int) (b : List Int) (s t : Int) (hp : b.length ≤ 8) : evF E_without1 (20) Try.f47 [.agg [.int .i64 m, .lst (.int .i64) b], .int .i64 s, .int .i64 t] [] = some (.agg [.int .i64 (cntF (leftF m t)), .own 0], [.row 3 (.int .i64) (wthF m b s t)]) := by
  conv => lhs; whnf
  conv => lhs; arg 1; whnf
  refine bnd_g (by exact True.intro) ?_
  conv => lhs; whnf
  conv => lhs; arg 1; whnf
  refine bnd_g (by exact True.intro) ?_
  conv => lhs; whnf
  refine (lp_without1 m b hp s (leftF m t) _ _ b.length _ 0 0 [] rfl (by omega) rfl (by change _ < 19; omega) (by simp)).trans ?_
  conv => lhs; whnf
  all_goals rfl
theorem ok_without1 : FnOk Try.prog 47 K_without1 := by
  refine fn_ok (fn := Try.f47) (k := Try.f47.ntmps) (E := E_without1) (facts_of (List.forall_mem_cons.2 ⟨ok_implFullSet, List.forall_mem_cons.2 ⟨ok_implCountOf, List.forall_mem_cons.2 ⟨ok_hasElement, List.forall_mem_cons.2 ⟨ok_renumbered, List.forall_mem_nil _⟩⟩⟩⟩)) (by kernel_rfl) rfl (by decide +kernel) (by decide +kernel) ?_
  intro avs hin r h
  unfold K_without1 at h
  split at h
  · obtain ⟨hp, rfl⟩ := gd_o h
    exact ⟨_, ev_without1 _ _ _ _ hp, rfl⟩
  · cases h

theorem bor_zero {q : Int} (h0 : 0 ≤ q) (h1 : q ≤ 255) : bor q 0 = q := by
  obtain ⟨a, rfl⟩ : ∃ a : Nat, q = a := ⟨q.toNat, by omega⟩
  rw [show (0 : Int) = ((0 : Nat) : Int) from rfl, bor_nat (by omega) (by omega), Nat.or_zero]
theorem colBit {s e : Int} (hs : 0 ≤ s ∧ s ≤ 255) (he : 0 ≤ e ∧ e ≤ 7) : band (s.fdiv (2 ^ min e.toNat IntKind.i64.bits)) 1 = bif s.toNat.testBit e.toNat then 1 else 0 := by
  obtain ⟨a, rfl⟩ : ∃ a : Nat, s = a := ⟨s.toNat, by omega⟩
  obtain ⟨b, rfl⟩ : ∃ b : Nat, e = b := ⟨e.toNat, by omega⟩
  have e1 : (a : Int).fdiv (2 ^ min (b : Int).toNat IntKind.i64.bits) = ((a / 2 ^ b : Nat) : Int) := by
    rw [Int.toNat_natCast, show min b IntKind.i64.bits = b from by simp [IntKind.bits]; omega]
    rw [Int.fdiv_eq_ediv_of_nonneg _ (by exact Int.pow_nonneg (by omega))]
    push_cast
    rfl
  have h : a / 2 ^ b < 256 := Nat.lt_of_le_of_lt (Nat.div_le_self _ _) (by omega)
  rw [e1, and1_of _ h, Int.toNat_natCast, Int.toNat_natCast, Nat.testBit_eq_decide_div_mod_eq]
  have h2 : a / 2 ^ b % 2 = 0 ∨ a / 2 ^ b % 2 = 1 := by omega
  rcases h2 with h2 | h2 <;> rw [h2] <;> rfl
theorem colStep {s e : Int} {i : Nat} {q : Int} (hs : 0 ≤ s ∧ s ≤ 255) (he : 0 ≤ e ∧ e ≤ 7) (hi : i < 8) (h0 : 0 ≤ q) (h1 : q ≤ 255) :
    bor q (IntKind.i64.wrap (band (s.fdiv (2 ^ min e.toNat IntKind.i64.bits)) 1 * 2 ^ min (i : Int).toNat IntKind.i64.bits)) = bif s.toNat.testBit e.toNat then bor q ((2 ^ i : Nat) : Int) else q := by
  rw [colBit hs he]
  cases s.toNat.testBit e.toNat
  · rw [cond_false, cond_false, Int.zero_mul]
    exact bor_zero h0 h1
  · rw [cond_true, cond_true, shl1 (by omega)]
/- impl.isAttribute -/
def K_isAttribute : List AV → List Ob → Option (AV × List Ob)
  | [.agg [.int .i64 m, .lst (.int .i64) b], .int .i64 e], [] => gd (b.length ≤ 1048576) (.bool (attrOk m b e), [])
  | _, _ => none
@[reducible] def E_isAttribute : Env := mkE (tb [(46, K_implIsContext), (60, K_within)]) (fun f => false) (fun r => ([], []))
theorem ev_isAttribute (m : Int) (b : List Int) (e : Int) (hp : b.length ≤ 1048576) : evF E_isAttribute (1) Try.f94 [.agg [.int .i64 m, .lst (.int .i64) b], .int .i64 e] [] = some (.bool (attrOk m b e), []) := by
  conv => lhs; whnf
  conv => lhs; arg 1; whnf
  refine bnd_g (by omega) ?_
  conv => lhs; whnf
  refine br_c (fun h => ?_) (fun h => ?_)
  · have hl := isCtx_len h
    conv => lhs; whnf
    repeat ((first | with_reducible apply br_tt | with_reducible apply br_ff | with_reducible apply br_nf | with_reducible apply br_nt | with_reducible refine br_d ?_ (by kernel_rfl) | with_reducible apply br_t h | with_reducible apply br_f h); conv => lhs; whnf)
    have hw : IntKind.i64.wrap (m - 1) = m - 1 := wrap64 (by omega) (by omega)
    conv => lhs; arg 1; whnf
    refine bnd_g (by exact True.intro) ?_
    conv => lhs; whnf
    repeat ((first | with_reducible apply br_tt | with_reducible apply br_ff | with_reducible apply br_nf | with_reducible apply br_nt | with_reducible refine br_d ?_ (by kernel_rfl) | with_reducible apply br_t h | with_reducible apply br_f h); conv => lhs; whnf)
    refine okB ?_
    unfold attrOk
    rw [h, Bool.true_and]
    exact decide_eq_decide.2 (by rw [hw])
  · conv => lhs; whnf
    repeat ((first | with_reducible apply br_tt | with_reducible apply br_ff | with_reducible apply br_nf | with_reducible apply br_nt | with_reducible refine br_d ?_ (by kernel_rfl) | with_reducible apply br_t h | with_reducible apply br_f h); conv => lhs; whnf)
    refine okB ?_
    unfold attrOk
    rw [h, Bool.false_and]
theorem ok_isAttribute : FnOk Try.prog 94 K_isAttribute := by
  refine fn_ok (fn := Try.f94) (k := Try.f94.ntmps) (E := E_isAttribute) (facts_of (List.forall_mem_cons.2 ⟨ok_implIsContext, List.forall_mem_cons.2 ⟨ok_within, List.forall_mem_nil _⟩⟩)) (by kernel_rfl) rfl (by decide +kernel) (by decide +kernel) ?_
  intro avs hin r h
  unfold K_isAttribute at h
  split at h
  · obtain ⟨hp, rfl⟩ := gd_o h
    exact ⟨_, ev_isAttribute _ _ _ hp, rfl⟩
  · cases h

/- impl.ColumnOf -/
def K_columnOf : List AV → List Ob → Option (AV × List Ob)
  | [.agg [.int .i64 m, .lst (.int .i64) b], .int .i64 e], [] => gd (b.length ≤ 1048576) (.int .i64 (bif attrOk m b e then colF b e else 0), [])
  | _, _ => none
@[reducible] def E_columnOf : Env := mkE (tb [(94, K_isAttribute)]) (fun f => false) (fun r => bif r == 5 then ([1, 5, 13, 14, 15], [5]) else ([], []))
theorem lp_columnOf (b : List Int) (m e : Int) (hb : b.length ≤ 8) (hs : ∀ x ∈ b, 0 ≤ x ∧ x ≤ 255) (he : 0 ≤ e ∧ e ≤ 7) (k : AX → S → Option (AV × List Ob)) (d : Nat) : ∀ (n i : Nat) (x q : Int), b.length - i = d → i ≤ b.length → x = i → d < n → 0 ≤ q → q ≤ 255 →
    lpAt E_columnOf (lp E_columnOf 0 n) 0 (loopAt Try.f81 0) (mkS [1, 5, 13, 14, 15] [.int .i64 e, .int .i64 q, .lst (.int .i64) b, .int .i64 b.length, .int .i64 x] []) k =
      k (.exit 0) (mkS [5] [.int .i64 (orF (bitAt b e) d i q)] []) := by
  induction d with
  | zero =>
    intro n i x q hd hi hx hn h0 h1
    subst hx
    rw [lpAt_def]
    conv => lhs; whnf
    refine br_f (df (by omega)) ?_
    conv => lhs; whnf
    rfl
  | succ d ih =>
    intro n i x q hd hi hx hn h0 h1
    obtain ⟨n, rfl⟩ : ∃ m, n = m + 1 := ⟨n - 1, by omega⟩
    subst hx
    have hsi := hs _ (mem_getD (d := 0) (show i < b.length by omega))
    have key := colStep (s := b.getD i 0) (e := e) (i := i) (q := q) hsi he (by omega) h0 h1
    have hq := orF_set (bitAt b e) 1 i q (by omega) h0 h1
    rw [lpAt_def]
    conv => lhs; whnf
    refine br_t (dt (by omega)) ?_
    conv => lhs; whnf
    refine br_t (dt2 (by omega) (by omega)) ?_
    conv => lhs; whnf
    refine br_f (df (by omega)) ?_
    conv => lhs; whnf
    refine br_f (df (by omega)) ?_
    conv => lhs; whnf
    have key2 : (bif (b.getD i 0).toNat.testBit e.toNat then bor q ((2 ^ i : Nat) : Int) else q) = orF (bitAt b e) 1 i q := rfl
    have key3 := key.trans key2
    rw [wrap64 (n := (i : Int) + 1) (by omega) (by omega)]
    refine (ih n (i + 1) _ _ (by omega) (by omega) (by simp) (by omega) ?_ ?_).trans ?_
    · exact Int.le_trans hq.1 (Int.le_of_eq key3.symm)
    · exact Int.le_trans (Int.le_of_eq key3) hq.2
    · exact congrArg (fun z => k (.exit 0) (mkS [5] [.int .i64 (orF (bitAt b e) d (i + 1) z)] [])) key3
theorem ev_columnOf (m : Int) (b : List Int) (e : Int) (hp : b.length ≤ 1048576) : evF E_columnOf (20) Try.f81 [.agg [.int .i64 m, .lst (.int .i64) b], .int .i64 e] [] = some (.int .i64 (bif attrOk m b e then colF b e else 0), []) := by
  conv => lhs; whnf
  conv => lhs; arg 1; whnf
  refine bnd_g (by exact hp) ?_
  conv => lhs; whnf
  refine br_c (fun h => ?_) (fun h => ?_)
  · conv => lhs; whnf
    rw [bnt h]
    rfl
  · have h' := bnf h
    unfold attrOk at h'
    have h2 := Bool.and_eq_true_iff.1 h'
    have hl := isCtx_len h2.1
    have hd := ofd h2.2
    conv => lhs; whnf
    refine (lp_columnOf b m e hl.1 (fun x hx => by have := isSet_le (hl.2.2.2 x hx); omega) (by omega) _ b.length _ 0 0 0 rfl (by omega) rfl (by change _ < 19; omega) (by omega) (by omega)).trans ?_
    conv => lhs; whnf
    rw [bnf h]
    rfl
theorem ok_columnOf : FnOk Try.prog 81 K_columnOf := by
  refine fn_ok (fn := Try.f81) (k := Try.f81.ntmps) (E := E_columnOf) (facts_of (List.forall_mem_cons.2 ⟨ok_isAttribute, List.forall_mem_nil _⟩)) (by kernel_rfl) rfl (by decide +kernel) (by decide +kernel) ?_
  intro avs hin r h
  unfold K_columnOf at h
  split at h
  · obtain ⟨hp, rfl⟩ := gd_o h
    exact ⟨_, ev_columnOf _ _ _ hp, rfl⟩
  · cases h

/- impl.columns -/
def K_columns : List AV → List Ob → Option (AV × List Ob)
  | [.agg [.int .i64 m, .lst (.int .i64) b]], [] => gd (isCtx m b = true) (.own 0, [.row 3 (.int .i64) (colsF m b)])
  | _, _ => none
@[reducible] def E_columns : Env := mkE (tb [(81, K_columnOf)]) (fun f => false) (fun r => bif r == 3 then ([1, 3, 7, 8], [3]) else ([], []))
theorem lp_columns (m : Int) (b : List Int) (hc : isCtx m b = true) (k : AX → S → Option (AV × List Ob)) (d : Nat) : ∀ (n i : Nat) (x : Int) (zs : List Int), m.toNat - i = d → i ≤ m.toNat → x = i → d < n → zs.length ≤ i →
    lpAt E_columns (lp E_columns 0 n) 0 (loopAt Try.f49 0) (mkS [1, 3, 7, 8] [.ptr 0 0, .own 1, .int .i64 m, .int .i64 x] [some (.box 41 [.int .i64 m, .lst (.int .i64) b]), some (.row 3 (.int .i64) zs)]) k =
      k (.exit 0) (mkS [3] [.own 0] [some (.row 3 (.int .i64) (zs ++ colsL b d i))]) := by
  have hl := isCtx_len hc
  induction d with
  | zero =>
    intro n i x zs hd hi hx hn hz
    subst hx
    rw [lpAt_def]
    conv => lhs; whnf
    refine br_f (df (by omega)) ?_
    conv => lhs; whnf
    rw [colsL, List.append_nil]
  | succ d ih =>
    intro n i x zs hd hi hx hn hz
    obtain ⟨n, rfl⟩ : ∃ m, n = m + 1 := ⟨n - 1, by omega⟩
    subst hx
    have ha : attrOk m b i = true := by
      unfold attrOk
      rw [hc, dt (by omega)]
      rfl
    rw [lpAt_def]
    conv => lhs; whnf
    refine br_t (dt (by omega)) ?_
    conv => lhs; whnf
    conv => lhs; arg 1; whnf
    refine bnd_g (by omega) ?_
    conv => lhs; whnf
    refine br_t (dt (by simp [room]; omega)) ?_
    conv => lhs; whnf
    rw [ih n (i + 1) _ _ (by omega) (by omega) (by rw [wrap64 (by omega) (by omega)]; simp) (by omega) (by simp; omega)]
    rw [colsL, ha, cond_true]
    simp
theorem ev_columns (m : Int) (b : List Int) (hp : isCtx m b = true) : evF E_columns (20) Try.f49 [.agg [.int .i64 m, .lst (.int .i64) b]] [] = some (.own 0, [.row 3 (.int .i64) (colsF m b)]) := by
  have hl := isCtx_len hp
  conv => lhs; whnf
  refine (lp_columns m b hp _ m.toNat _ 0 0 _ rfl (by omega) rfl (by change _ < 19; omega) (by simp)).trans ?_
  conv => lhs; whnf
  rfl
theorem ok_columns : FnOk Try.prog 49 K_columns := by
  refine fn_ok (fn := Try.f49) (k := Try.f49.ntmps) (E := E_columns) (facts_of (List.forall_mem_cons.2 ⟨ok_columnOf, List.forall_mem_nil _⟩)) (by kernel_rfl) rfl (by decide +kernel) (by decide +kernel) ?_
  intro avs hin r h
  unfold K_columns at h
  split at h
  · obtain ⟨hp, rfl⟩ := gd_o h
    exact ⟨_, ev_columns _ _ hp, rfl⟩
  · cases h

/- impl.Clarify -/
def K_implClarify : List AV → List Ob → Option (AV × List Ob)
  | [.agg [.int .i64 m, .lst (.int .i64) b]], [] => gd (b.length ≤ 1048576) (.tup [.agg [.int .i64 (clarF m b).1, .own 0], .bool (clarF m b).2.2], [.row 3 (.int .i64) (clarF m b).2.1])
  | _, _ => none
@[reducible] def E_implClarify : Env := mkE (tb [(46, K_implIsContext), (48, K_repeated), (47, K_without1), (49, K_columns)]) (fun f => false) (fun r => ([], []))
theorem ev_implClarify (m : Int) (b : List Int) (hp : b.length ≤ 1048576) : evF E_implClarify (1) Try.f24 [.agg [.int .i64 m, .lst (.int .i64) b]] [] = some (.tup [.agg [.int .i64 (clarF m b).1, .own 0], .bool (clarF m b).2.2], [.row 3 (.int .i64) (clarF m b).2.1]) := by
  conv => lhs; whnf
  conv => lhs; arg 1; whnf
  refine bnd_g (by omega) ?_
  conv => lhs; whnf
  refine br_c (fun h => ?_) (fun h => ?_)
  · have e : clarF m b = (0, [], false) := by unfold clarF; rw [bnt h]; rfl
    conv => rhs; rw [e]
    conv => lhs; whnf
    repeat ((first | with_reducible apply br_tt | with_reducible apply br_ff | with_reducible apply br_nf | with_reducible apply br_nt | with_reducible refine br_d ?_ (by kernel_rfl) | with_reducible apply br_t h | with_reducible apply br_f h); conv => lhs; whnf)
    all_goals rfl
  · have h' := bnf h
    have hl := isCtx_len h'
    have e : clarF m b = (cntF (leftF m (repF (colsF m (clarR b)))), wthF m (clarR b) 0 (repF (colsF m (clarR b))), true) := by unfold clarF; rw [h']; rfl
    have r1 : wthF m b (repF b) 0 = clarR b := wth_zero h' (repF b)
    have r2 : cntF (leftF m 0) = m := cnt_id hl.2.1 hl.2.2.1
    have r3 : isCtx (cntF (leftF m 0)) (wthF m b (repF b) 0) = true := by rw [r1, r2]; exact dropL_ctx h' _
    have r4 : (wthF m b (repF b) 0).length ≤ 8 := by have := wthF_len m b (repF b) 0; omega
    have r5 : (colsF (cntF (leftF m 0)) (wthF m b (repF b) 0)).length ≤ 8 := by rw [r2]; unfold colsF; rw [colsL_length]; omega
    have r6 : wthF (cntF (leftF m 0)) (wthF m b (repF b) 0) 0 (repF (colsF (cntF (leftF m 0)) (wthF m b (repF b) 0))) = wthF m (clarR b) 0 (repF (colsF m (clarR b))) := by rw [r1, r2]
    have r7 : cntF (leftF (cntF (leftF m 0)) (repF (colsF (cntF (leftF m 0)) (wthF m b (repF b) 0)))) = cntF (leftF m (repF (colsF m (clarR b)))) := by rw [r1, r2]
    conv => rhs; rw [e, ← r6, ← r7]
    conv => lhs; whnf
    repeat ((first | with_reducible apply br_tt | with_reducible apply br_ff | with_reducible apply br_nf | with_reducible apply br_nt | with_reducible refine br_d ?_ (by kernel_rfl) | with_reducible apply br_t h | with_reducible apply br_f h); conv => lhs; whnf)
    conv => lhs; arg 1; whnf
    refine bnd_g (by omega) ?_
    conv => lhs; whnf
    conv => lhs; arg 1; whnf
    refine bnd_g (by omega) ?_
    conv => lhs; whnf
    refine br_t (by kernel_rfl) ?_
    conv => lhs; whnf
    conv => lhs; arg 1; whnf
    refine bnd_g (by exact r3) ?_
    conv => lhs; whnf
    conv => lhs; arg 1; whnf
    refine bnd_g (by exact r5) ?_
    conv => lhs; whnf
    conv => lhs; arg 1; whnf
    refine bnd_g (by exact r4) ?_
    conv => lhs; whnf
    refine br_t (by kernel_rfl) ?_
    conv => lhs; whnf
    all_goals rfl
theorem ok_implClarify : FnOk Try.prog 24 K_implClarify := by
  refine fn_ok (fn := Try.f24) (k := Try.f24.ntmps) (E := E_implClarify) (facts_of (List.forall_mem_cons.2 ⟨ok_implIsContext, List.forall_mem_cons.2 ⟨ok_repeated, List.forall_mem_cons.2 ⟨ok_without1, List.forall_mem_cons.2 ⟨ok_columns, List.forall_mem_nil _⟩⟩⟩⟩)) (by kernel_rfl) rfl (by decide +kernel) (by decide +kernel) ?_
  intro avs hin r h
  unfold K_implClarify at h
  split at h
  · obtain ⟨hp, rfl⟩ := gd_o h
    exact ⟨_, ev_implClarify _ _ hp, rfl⟩
  · cases h

/- impl.areObjects -/
def K_areObjects : List AV → List Ob → Option (AV × List Ob)
  | [.agg [.int .i64 m, .lst (.int .i64) a], .int .i64 s], [] => gd (a.length < 4611686018427387904) (.bool (isCtx m a && isSet a.length s), [])
  | _, _ => none
@[reducible] def E_areObjects : Env := mkE (tb [(46, K_implIsContext), (35, K_implIsSet)]) (fun f => false) (fun r => ([], []))
theorem ev_areObjects (m : Int) (a : List Int) (s : Int) (hp : a.length < 4611686018427387904) : evF E_areObjects (1) Try.f50 [.agg [.int .i64 m, .lst (.int .i64) a], .int .i64 s] [] = some (.bool (isCtx m a && isSet a.length s), []) := by
  conv => lhs; whnf
  conv => lhs; arg 1; whnf
  refine bnd_g (by exact hp) ?_
  conv => lhs; whnf
  refine br_c (fun h => ?_) (fun h => ?_)
  · conv => lhs; whnf
    repeat ((first | with_reducible apply br_tt | with_reducible apply br_ff | with_reducible apply br_nf | with_reducible apply br_nt | with_reducible refine br_d ?_ (by kernel_rfl) | with_reducible apply br_t h | with_reducible apply br_f h); conv => lhs; whnf)
    conv => lhs; arg 1; whnf
    refine bnd_g (by exact True.intro) ?_
    conv => lhs; whnf
    repeat ((first | with_reducible apply br_tt | with_reducible apply br_ff | with_reducible apply br_nf | with_reducible apply br_nt | with_reducible refine br_d ?_ (by kernel_rfl) | with_reducible apply br_t h | with_reducible apply br_f h); conv => lhs; whnf)
    rw [h, Bool.true_and]
  · conv => lhs; whnf
    repeat ((first | with_reducible apply br_tt | with_reducible apply br_ff | with_reducible apply br_nf | with_reducible apply br_nt | with_reducible refine br_d ?_ (by kernel_rfl) | with_reducible apply br_t h | with_reducible apply br_f h); conv => lhs; whnf)
    rw [h, Bool.false_and]
theorem ok_areObjects : FnOk Try.prog 50 K_areObjects := by
  refine fn_ok (fn := Try.f50) (k := Try.f50.ntmps) (E := E_areObjects) (facts_of (List.forall_mem_cons.2 ⟨ok_implIsContext, List.forall_mem_cons.2 ⟨ok_implIsSet, List.forall_mem_nil _⟩⟩)) (by kernel_rfl) rfl (by decide +kernel) (by decide +kernel) ?_
  intro avs hin r h
  unfold K_areObjects at h
  split at h
  · obtain ⟨hp, rfl⟩ := gd_o h
    exact ⟨_, ev_areObjects _ _ _ hp, rfl⟩
  · cases h

/- impl.DropObjects -/
def K_implDropObjects : List AV → List Ob → Option (AV × List Ob)
  | [.agg [.int .i64 m, .lst (.int .i64) b], .int .i64 0], [] => gd (b.length ≤ 1048576) (.tup [.agg [.int .i64 (bif isCtx m b then cntF (leftF m 0) else 0), .own 0], .bool (isCtx m b)], [.row 3 (.int .i64) (bif isCtx m b then wthF m b 0 0 else [])])
  | _, _ => none
@[reducible] def E_implDropObjects : Env := mkE (tb [(50, K_areObjects), (47, K_without1)]) (fun f => false) (fun r => ([], []))
theorem ev_implDropObjects (m : Int) (b : List Int) (hp : b.length ≤ 1048576) : evF E_implDropObjects (1) Try.f25 [.agg [.int .i64 m, .lst (.int .i64) b], .int .i64 0] [] = some (.tup [.agg [.int .i64 (bif isCtx m b then cntF (leftF m 0) else 0), .own 0], .bool (isCtx m b)], [.row 3 (.int .i64) (bif isCtx m b then wthF m b 0 0 else [])]) := by
  have hz : isCtx m b = true → isSet (b.length : Int) 0 = true := fun h => by
    have hl := isCtx_len h
    exact set_zero hl.1
  conv => lhs; whnf
  conv => lhs; arg 1; whnf
  refine bnd_g (by omega) ?_
  conv => lhs; whnf
  refine br_c (fun h => ?_) (fun h => ?_)
  · have h' : isCtx m b = false := by
      cases hc : isCtx m b
      · rfl
      · rw [hc, hz hc] at h; cases h
    conv => rhs; rw [h']
    conv => lhs; whnf
    repeat ((first | with_reducible apply br_tt | with_reducible apply br_ff | with_reducible apply br_nf | with_reducible apply br_nt | with_reducible refine br_d ?_ (by kernel_rfl) | with_reducible apply br_t h | with_reducible apply br_f h); conv => lhs; whnf)
    all_goals rfl
  · have h' : isCtx m b = true := (Bool.and_eq_true_iff.1 (bnf h)).1
    have hl := isCtx_len h'
    conv => rhs; rw [h']
    conv => lhs; whnf
    repeat ((first | with_reducible apply br_tt | with_reducible apply br_ff | with_reducible apply br_nf | with_reducible apply br_nt | with_reducible refine br_d ?_ (by kernel_rfl) | with_reducible apply br_t h | with_reducible apply br_f h); conv => lhs; whnf)
    conv => lhs; arg 1; whnf
    refine bnd_g (by omega) ?_
    conv => lhs; whnf
    repeat ((first | with_reducible apply br_tt | with_reducible apply br_ff | with_reducible apply br_nf | with_reducible apply br_nt | with_reducible refine br_d ?_ (by kernel_rfl)); conv => lhs; whnf)
    all_goals rfl
theorem ok_implDropObjects : FnOk Try.prog 25 K_implDropObjects := by
  refine fn_ok (fn := Try.f25) (k := Try.f25.ntmps) (E := E_implDropObjects) (facts_of (List.forall_mem_cons.2 ⟨ok_areObjects, List.forall_mem_cons.2 ⟨ok_without1, List.forall_mem_nil _⟩⟩)) (by kernel_rfl) rfl (by decide +kernel) (by decide +kernel) ?_
  intro avs hin r h
  unfold K_implDropObjects at h
  split at h
  · obtain ⟨hp, rfl⟩ := gd_o h
    exact ⟨_, ev_implDropObjects _ _ hp, rfl⟩
  · cases h

def insF (m : Int) (a : List Int) (r : Int) : Int × List Int × Bool :=
  bif isCtx m a && isSet m r && decide (a.length < 8) then (m, a ++ [r], true) else (0, [], false)
theorem insF_len (m : Int) (a : List Int) (r : Int) : (insF m a r).2.1.length ≤ 8 := by
  unfold insF
  cases h : (isCtx m a && isSet m r && decide (a.length < 8))
  · simp
  · simp only [Bool.and_eq_true, decide_eq_true_eq] at h
    simp
    omega
/- spec.l3Copy -/
def K_l3Copy : List AV → List Ob → Option (AV × List Ob)
  | [.agg [.int .i64 m, .lst (.int .i64) a]], [] => gd (a.length ≤ 1048576) (.agg [.int .i64 m, .own 0], [.row 3 (.int .i64) a])
  | _, _ => none
@[reducible] def E_l3Copy : Env := mkE (tb []) (fun f => false) (fun r => ([], []))
theorem ev_l3Copy (m : Int) (a : List Int) (hp : a.length ≤ 1048576) : evF E_l3Copy (1) Try.f51 [.agg [.int .i64 m, .lst (.int .i64) a]] [] = some (.agg [.int .i64 m, .own 0], [.row 3 (.int .i64) a]) := by
  conv => lhs; whnf
  refine br_t (dt (by simp [room]; omega)) ?_
  conv => lhs; whnf
  repeat ((first | with_reducible apply br_tt | with_reducible apply br_ff | with_reducible apply br_nf | with_reducible apply br_nt | with_reducible refine br_d ?_ (by kernel_rfl)); conv => lhs; whnf)
  simp
theorem ok_l3Copy : FnOk Try.prog 51 K_l3Copy := by
  refine fn_ok (fn := Try.f51) (k := Try.f51.ntmps) (E := E_l3Copy) (facts_of (List.forall_mem_nil _)) (by kernel_rfl) rfl (by decide +kernel) (by decide +kernel) ?_
  intro avs hin r h
  unfold K_l3Copy at h
  split at h
  · obtain ⟨hp, rfl⟩ := gd_o h
    exact ⟨_, ev_l3Copy _ _ hp, rfl⟩
  · cases h

/- spec.InsertRow -/
def K_specInsertRow : List AV → List Ob → Option (AV × List Ob)
  | [.agg [.int .i64 m, .lst (.int .i64) a], .int .i64 r], [] => gd (a.length ≤ 1048576) (.tup [.agg [.int .i64 (insF m a r).1, .own 0], .bool (insF m a r).2.2], [.row 3 (.int .i64) (insF m a r).2.1])
  | _, _ => none
@[reducible] def E_specInsertRow : Env := mkE (tb [(42, K_specIsContext), (31, K_specIsSet), (51, K_l3Copy)]) (fun f => false) (fun r => ([], []))
theorem ev_specInsertRow (m : Int) (a : List Int) (r : Int) (hp : a.length ≤ 1048576) : evF E_specInsertRow (1) Try.f26 [.agg [.int .i64 m, .lst (.int .i64) a], .int .i64 r] [] = some (.tup [.agg [.int .i64 (insF m a r).1, .own 0], .bool (insF m a r).2.2], [.row 3 (.int .i64) (insF m a r).2.1]) := by
  conv => lhs; whnf
  conv => lhs; arg 1; whnf
  refine bnd_g (by omega) ?_
  conv => lhs; whnf
  refine br_c (fun h => ?_) (fun h => ?_)
  · have hf : insF m a r = (0, [], false) := by
      unfold insF
      rw [bnt h]
      rfl
    rw [hf]
    conv => lhs; whnf
    repeat ((first | with_reducible apply br_tt | with_reducible apply br_ff | with_reducible apply br_nf | with_reducible apply br_nt | with_reducible refine br_d ?_ (by kernel_rfl) | with_reducible apply br_t h | with_reducible apply br_f h); conv => lhs; whnf)
  · conv => lhs; whnf
    repeat ((first | with_reducible apply br_tt | with_reducible apply br_ff | with_reducible apply br_nf | with_reducible apply br_nt | with_reducible refine br_d ?_ (by kernel_rfl) | with_reducible apply br_t h | with_reducible apply br_f h); conv => lhs; whnf)
    conv => lhs; arg 1; whnf
    refine bnd_g (by exact True.intro) ?_
    conv => lhs; whnf
    repeat ((first | with_reducible apply br_tt | with_reducible apply br_ff | with_reducible apply br_nf | with_reducible apply br_nt | with_reducible refine br_d ?_ (by kernel_rfl) | with_reducible apply br_t h | with_reducible apply br_f h); conv => lhs; whnf)
    refine br_c (fun h2 => ?_) (fun h2 => ?_)
    · have hf : insF m a r = (0, [], false) := by
        unfold insF
        rw [bnf h, bnt h2]
        rfl
      rw [hf]
      conv => lhs; whnf
      repeat ((first | with_reducible apply br_tt | with_reducible apply br_ff | with_reducible apply br_nf | with_reducible apply br_nt | with_reducible refine br_d ?_ (by kernel_rfl) | with_reducible apply br_t h2 | with_reducible apply br_f h2); conv => lhs; whnf)
    · conv => lhs; whnf
      repeat ((first | with_reducible apply br_tt | with_reducible apply br_ff | with_reducible apply br_nf | with_reducible apply br_nt | with_reducible refine br_d ?_ (by kernel_rfl) | with_reducible apply br_t h2 | with_reducible apply br_f h2); conv => lhs; whnf)
      refine br_c (fun h3 => ?_) (fun h3 => ?_)
      · have hf : insF m a r = (0, [], false) := by
          unfold insF
          have := ofd h3
          rw [bnf h, bnf h2, df (by omega)]
          rfl
        rw [hf]
        conv => lhs; whnf
      · have hf : insF m a r = (m, a ++ [r], true) := by
          unfold insF
          have := ofn h3
          rw [bnf h, bnf h2, dt (by omega)]
          rfl
        rw [hf]
        conv => lhs; whnf
        conv => lhs; arg 1; whnf
        refine bnd_g (by exact hp) ?_
        conv => lhs; whnf
        refine br_t (dt (by simp [room]; omega)) ?_
        conv => lhs; whnf
theorem ok_specInsertRow : FnOk Try.prog 26 K_specInsertRow := by
  refine fn_ok (fn := Try.f26) (k := Try.f26.ntmps) (E := E_specInsertRow) (facts_of (List.forall_mem_cons.2 ⟨ok_specIsContext, List.forall_mem_cons.2 ⟨ok_specIsSet, List.forall_mem_cons.2 ⟨ok_l3Copy, List.forall_mem_nil _⟩⟩⟩)) (by kernel_rfl) rfl (by decide +kernel) (by decide +kernel) ?_
  intro avs hin r h
  unfold K_specInsertRow at h
  split at h
  · obtain ⟨hp, rfl⟩ := gd_o h
    exact ⟨_, ev_specInsertRow _ _ _ hp, rfl⟩
  · cases h

/- impl.areAttributes -/
def K_areAttributes : List AV → List Ob → Option (AV × List Ob)
  | [.agg [.int .i64 m, .lst (.int .i64) a], .int .i64 s], [] => gd (a.length < 4611686018427387904) (.bool (isCtx m a && isSet m s), [])
  | _, _ => none
@[reducible] def E_areAttributes : Env := mkE (tb [(46, K_implIsContext), (35, K_implIsSet)]) (fun f => false) (fun r => ([], []))
theorem ev_areAttributes (m : Int) (a : List Int) (s : Int) (hp : a.length < 4611686018427387904) : evF E_areAttributes (1) Try.f45 [.agg [.int .i64 m, .lst (.int .i64) a], .int .i64 s] [] = some (.bool (isCtx m a && isSet m s), []) := by
  conv => lhs; whnf
  conv => lhs; arg 1; whnf
  refine bnd_g (by exact hp) ?_
  conv => lhs; whnf
  refine br_c (fun h => ?_) (fun h => ?_)
  · conv => lhs; whnf
    repeat ((first | with_reducible apply br_tt | with_reducible apply br_ff | with_reducible apply br_nf | with_reducible apply br_nt | with_reducible refine br_d ?_ (by kernel_rfl) | with_reducible apply br_t h | with_reducible apply br_f h); conv => lhs; whnf)
    conv => lhs; arg 1; whnf
    refine bnd_g (by exact True.intro) ?_
    conv => lhs; whnf
    repeat ((first | with_reducible apply br_tt | with_reducible apply br_ff | with_reducible apply br_nf | with_reducible apply br_nt | with_reducible refine br_d ?_ (by kernel_rfl) | with_reducible apply br_t h | with_reducible apply br_f h); conv => lhs; whnf)
    rw [h, Bool.true_and]
  · conv => lhs; whnf
    repeat ((first | with_reducible apply br_tt | with_reducible apply br_ff | with_reducible apply br_nf | with_reducible apply br_nt | with_reducible refine br_d ?_ (by kernel_rfl) | with_reducible apply br_t h | with_reducible apply br_f h); conv => lhs; whnf)
    rw [h, Bool.false_and]
theorem ok_areAttributes : FnOk Try.prog 45 K_areAttributes := by
  refine fn_ok (fn := Try.f45) (k := Try.f45.ntmps) (E := E_areAttributes) (facts_of (List.forall_mem_cons.2 ⟨ok_implIsContext, List.forall_mem_cons.2 ⟨ok_implIsSet, List.forall_mem_nil _⟩⟩)) (by kernel_rfl) rfl (by decide +kernel) (by decide +kernel) ?_
  intro avs hin r h
  unfold K_areAttributes at h
  split at h
  · obtain ⟨hp, rfl⟩ := gd_o h
    exact ⟨_, ev_areAttributes _ _ _ hp, rfl⟩
  · cases h

/- slices.Clone[[]int,int] -/
def K_cloneInt : List AV → List Ob → Option (AV × List Ob)
  | [.lst (.int .i64) a], [] => gd (a.length ≤ 1048576) (.own 0, [.row 3 (.int .i64) a])
  | _, _ => none
@[reducible] def E_cloneInt : Env := mkE (tb []) (fun f => false) (fun r => ([], []))
theorem ev_cloneInt (a : List Int) (hp : a.length ≤ 1048576) : evF E_cloneInt (1) Try.f37 [.lst (.int .i64) a] [] = some (.own 0, [.row 3 (.int .i64) a]) := by
  conv => lhs; whnf
  refine br_c (fun h => ?_) (fun h => ?_)
  · conv => lhs; whnf
    refine br_f (by rfl) ?_
    conv => lhs; whnf
    refine br_t (dt (by simp [room]; omega)) ?_
    conv => lhs; whnf
    simp
  · have h0 : a = [] := by
      have := ofn h
      cases a
      · rfl
      · simp at this
    subst h0
    conv => lhs; whnf
    refine both_i ?_ ?_
    · conv => lhs; whnf
    · conv => lhs; whnf
      refine br_t (dt (by simp [room])) ?_
      conv => lhs; whnf
      rfl
theorem ok_cloneInt : FnOk Try.prog 37 K_cloneInt := by
  refine fn_ok (fn := Try.f37) (k := Try.f37.ntmps) (E := E_cloneInt) (facts_of (List.forall_mem_nil _)) (by kernel_rfl) rfl (by decide +kernel) (by decide +kernel) ?_
  intro avs hin r h
  unfold K_cloneInt at h
  split at h
  · obtain ⟨hp, rfl⟩ := gd_o h
    exact ⟨_, ev_cloneInt _ hp, rfl⟩
  · cases h

/- impl.InsertRow -/
def K_implInsertRow : List AV → List Ob → Option (AV × List Ob)
  | [.agg [.int .i64 m, .lst (.int .i64) a], .int .i64 r], [] => gd (a.length ≤ 1048576) (.tup [.agg [.int .i64 (insF m a r).1, .own 0], .bool (insF m a r).2.2], [.row 3 (.int .i64) (insF m a r).2.1])
  | _, _ => none
@[reducible] def E_implInsertRow : Env := mkE (tb [(45, K_areAttributes), (37, K_cloneInt)]) (fun f => false) (fun r => ([], []))
theorem ev_implInsertRow (m : Int) (a : List Int) (r : Int) (hp : a.length ≤ 1048576) : evF E_implInsertRow (1) Try.f23 [.agg [.int .i64 m, .lst (.int .i64) a], .int .i64 r] [] = some (.tup [.agg [.int .i64 (insF m a r).1, .own 0], .bool (insF m a r).2.2], [.row 3 (.int .i64) (insF m a r).2.1]) := by
  conv => lhs; whnf
  conv => lhs; arg 1; whnf
  refine bnd_g (by omega) ?_
  conv => lhs; whnf
  refine br_c (fun h => ?_) (fun h => ?_)
  · have hf : insF m a r = (0, [], false) := by
      unfold insF
      rw [bnt h]
      rfl
    rw [hf]
    conv => lhs; whnf
    repeat ((first | with_reducible apply br_tt | with_reducible apply br_ff | with_reducible apply br_nf | with_reducible apply br_nt | with_reducible refine br_d ?_ (by kernel_rfl) | with_reducible apply br_t h | with_reducible apply br_f h); conv => lhs; whnf)
  · conv => lhs; whnf
    repeat ((first | with_reducible apply br_tt | with_reducible apply br_ff | with_reducible apply br_nf | with_reducible apply br_nt | with_reducible refine br_d ?_ (by kernel_rfl) | with_reducible apply br_t h | with_reducible apply br_f h); conv => lhs; whnf)
    have h' := bnf h
    have hl := (isCtx_len (Bool.and_eq_true_iff.1 h').1).1
    refine br_c (fun h3 => ?_) (fun h3 => ?_)
    · have hf : insF m a r = (0, [], false) := by
        unfold insF
        have : (a.length : Int) = 8 := by simpa using h3
        rw [h', df (by omega)]
        rfl
      rw [hf]
      conv => lhs; whnf
    · have hf : insF m a r = (m, a ++ [r], true) := by
        unfold insF
        have : ¬ (a.length : Int) = 8 := by simpa using h3
        rw [h', dt (by omega)]
        rfl
      rw [hf]
      conv => lhs; whnf
      conv => lhs; arg 1; whnf
      refine bnd_g (by exact hp) ?_
      conv => lhs; whnf
      refine br_t (dt (by simp [room]; omega)) ?_
      conv => lhs; whnf
      repeat ((first | with_reducible apply br_tt | with_reducible apply br_ff | with_reducible apply br_nf | with_reducible apply br_nt | with_reducible refine br_d ?_ (by kernel_rfl)); conv => lhs; whnf)
theorem ok_implInsertRow : FnOk Try.prog 23 K_implInsertRow := by
  refine fn_ok (fn := Try.f23) (k := Try.f23.ntmps) (E := E_implInsertRow) (facts_of (List.forall_mem_cons.2 ⟨ok_areAttributes, List.forall_mem_cons.2 ⟨ok_cloneInt, List.forall_mem_nil _⟩⟩)) (by kernel_rfl) rfl (by decide +kernel) (by decide +kernel) ?_
  intro avs hin r h
  unfold K_implInsertRow at h
  split at h
  · obtain ⟨hp, rfl⟩ := gd_o h
    exact ⟨_, ev_implInsertRow _ _ _ hp, rfl⟩
  · cases h

/- spec.l2Same -/
def K_l2Same : List AV → List Ob → Option (AV × List Ob)
  | [.lst (.int .i64) a, .lst (.int .i64) b], [] => gd (a.length < 4611686018427387904 ∧ b.length < 4611686018427387904) (.bool (decide (a = b)), [])
  | _, _ => none
@[reducible] def E_l2Same : Env := mkE (tb []) (fun f => false) (fun r => bif r == 4 then ([0, 1, 5], [4]) else ([], []))
theorem lp_l2Same (a b : List Int) (hl : a.length = b.length) (ha : a.length < 4611686018427387904) (k : AX → S → Option (AV × List Ob)) (d : Nat) : ∀ (n i : Nat) (x : Int), a.length - i = d → i ≤ a.length → x = i → d < n →
    lpAt E_l2Same (lp E_l2Same 0 n) 0 (loopAt Try.f55 0) (mkS [0, 1, 5] [.lst (.int .i64) a, .lst (.int .i64) b, .int .i64 x] []) k =
      if a.drop i = b.drop i then k (.exit 0) (mkS [4] [.any] []) else k .ret (mkS [4] [.bool false] []) := by
  induction d with
  | zero =>
    intro n i x hd hi hx hn
    subst hx
    rw [lpAt_def]
    conv => lhs; whnf
    refine br_f (df (by omega)) ?_
    conv => lhs; whnf
    rw [if_pos (by rw [List.drop_of_length_le (by omega), List.drop_of_length_le (by omega)])]
  | succ d ih =>
    intro n i x hd hi hx hn
    obtain ⟨n, rfl⟩ : ∃ m, n = m + 1 := ⟨n - 1, by omega⟩
    subst hx
    rw [lpAt_def]
    conv => lhs; whnf
    refine br_t (dt (by omega)) ?_
    conv => lhs; whnf
    refine br_t (dt2 (by omega) (by omega)) ?_
    conv => lhs; whnf
    refine br_t (dt2 (by omega) (by omega)) ?_
    conv => lhs; whnf
    rw [getD_drop (l := a) (i := i) (d := 0) (by omega), getD_drop (l := b) (i := i) (d := 0) (by omega)]
    refine br_t (by kernel_rfl) ?_
    conv => lhs; whnf
    refine br_c (fun h => ?_) (fun h => ?_)
    · conv => lhs; whnf
      rw [if_neg]
      intro he
      have := (List.cons.inj he).1
      simp at h
      exact h this
    · conv => lhs; whnf
      rw [ih n (i + 1) _ (by omega) (by omega) (by rw [wrap64 (by omega) (by omega)]; simp) (by omega)]
      simp at h
      simp [h]
theorem ev_l2Same (a b : List Int) (hp : a.length < 4611686018427387904 ∧ b.length < 4611686018427387904) : evF E_l2Same (a.length + 2) Try.f55 [.lst (.int .i64) a, .lst (.int .i64) b] [] = some (.bool (decide (a = b)), []) := by
  conv => lhs; whnf
  refine br_c (fun h => ?_) (fun h => ?_)
  · conv => lhs; whnf
    have : a ≠ b := by
      rintro rfl
      simp at h
    simp [this]
  · conv => lhs; whnf
    have hl : a.length = b.length := by simp at h; omega
    refine (lp_l2Same a b hl hp.1 _ _ _ 0 0 rfl (by omega) rfl (by omega)).trans ?_
    simp only [List.drop_zero]
    split
    · rename_i he
      conv => lhs; whnf
      simp [he]
    · rename_i he
      conv => lhs; whnf
      simp [he]
theorem ok_l2Same : FnOk Try.prog 55 K_l2Same := by
  refine fn_ok (fn := Try.f55) (k := Try.f55.ntmps) (E := E_l2Same) (facts_of (List.forall_mem_nil _)) (by kernel_rfl) rfl (by decide +kernel) (by decide +kernel) ?_
  intro avs hin r h
  unfold K_l2Same at h
  split at h
  · obtain ⟨hp, rfl⟩ := gd_o h
    exact ⟨_, ev_l2Same _ _ hp, rfl⟩
  · cases h

/- spec.EqualContext -/
def K_specEqualContext : List AV → List Ob → Option (AV × List Ob)
  | [.agg [.int .i64 m, .lst (.int .i64) a], .agg [.int .i64 m', .lst (.int .i64) a']], [] => gd (a.length < 4611686018427387904 ∧ a'.length < 4611686018427387904) (.bool (decide (m = m' ∧ a = a')), [])
  | _, _ => none
@[reducible] def E_specEqualContext : Env := mkE (tb [(55, K_l2Same)]) (fun f => false) (fun r => ([], []))
theorem ev_specEqualContext (m : Int) (a : List Int) (m' : Int) (a' : List Int) (hp : a.length < 4611686018427387904 ∧ a'.length < 4611686018427387904) : evF E_specEqualContext (1) Try.f28 [.agg [.int .i64 m, .lst (.int .i64) a], .agg [.int .i64 m', .lst (.int .i64) a']] [] = some (.bool (decide (m = m' ∧ a = a')), []) := by
  conv => lhs; whnf
  refine br_c (fun h => ?_) (fun h => ?_)
  · conv => lhs; whnf
    repeat ((first | with_reducible apply br_tt | with_reducible apply br_ff | with_reducible apply br_nf | with_reducible apply br_nt | with_reducible refine br_d ?_ (by kernel_rfl) | with_reducible apply br_t h | with_reducible apply br_f h); conv => lhs; whnf)
    conv => lhs; arg 1; whnf
    refine bnd_g (by exact ⟨hp.1, hp.2⟩) ?_
    conv => lhs; whnf
    repeat ((first | with_reducible apply br_tt | with_reducible apply br_ff | with_reducible apply br_nf | with_reducible apply br_nt | with_reducible refine br_d ?_ (by kernel_rfl) | with_reducible apply br_t h | with_reducible apply br_f h); conv => lhs; whnf)
    simp at h
    simp [h]
  · conv => lhs; whnf
    repeat ((first | with_reducible apply br_tt | with_reducible apply br_ff | with_reducible apply br_nf | with_reducible apply br_nt | with_reducible refine br_d ?_ (by kernel_rfl) | with_reducible apply br_t h | with_reducible apply br_f h); conv => lhs; whnf)
    simp at h
    simp [h]
theorem ok_specEqualContext : FnOk Try.prog 28 K_specEqualContext := by
  refine fn_ok (fn := Try.f28) (k := Try.f28.ntmps) (E := E_specEqualContext) (facts_of (List.forall_mem_cons.2 ⟨ok_l2Same, List.forall_mem_nil _⟩)) (by kernel_rfl) rfl (by decide +kernel) (by decide +kernel) ?_
  intro avs hin r h
  unfold K_specEqualContext at h
  split at h
  · obtain ⟨hp, rfl⟩ := gd_o h
    exact ⟨_, ev_specEqualContext _ _ _ _ hp, rfl⟩
  · cases h

end Go.Sym
