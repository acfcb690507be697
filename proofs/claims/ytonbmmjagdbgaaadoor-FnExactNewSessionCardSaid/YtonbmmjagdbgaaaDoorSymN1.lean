/- Functions of the program, each told as a plain equation. -/
import Derived.Test.YtonbmmjagdbgaaaDoorSymLayC
namespace Go.Sym
open Go.Proofs
set_option linter.unusedVariables false
set_option linter.unusedSimpArgs false
set_option maxRecDepth 100000
set_option maxHeartbeats 4000000

/-- From here on the count of draws is not told. -/
instance softDm : Dm := ⟨False⟩
def isSet (n s : Int) : Bool := decide ((0 ≤ n ∧ n ≤ 8) ∧ (0 ≤ s ∧ s ≤ 2 ^ n.toNat - 1))
theorem shl_set {n : Int} (h0 : 0 ≤ n) (h8 : n ≤ 8) : IntKind.i64.wrap (IntKind.i64.wrap (1 * 2 ^ min n.toNat IntKind.i64.bits) - 1) = 2 ^ n.toNat - 1 := by
  have h : n = 0 ∨ n = 1 ∨ n = 2 ∨ n = 3 ∨ n = 4 ∨ n = 5 ∨ n = 6 ∨ n = 7 ∨ n = 8 := by omega
  rcases h with rfl | rfl | rfl | rfl | rfl | rfl | rfl | rfl | rfl <;> decide +kernel
theorem wrapu {n : Int} (h0 : 0 ≤ n) (h8 : n ≤ 8) : IntKind.u64.wrap n = n := by
  simp [IntKind.wrap, IntKind.bits, IntKind.signed]
  omega
theorem isSet8 (s : Int) : isSet 8 s = decide (0 ≤ s ∧ s ≤ 255) := by simp [isSet]
/-- The machine's and, and its and-not, on int. -/
def band (a b : Int) : Int := IntKind.i64.wrap (BitVec.ofInt IntKind.i64.bits a &&& BitVec.ofInt IntKind.i64.bits b).toNat
def bnot (a b : Int) : Int := IntKind.i64.wrap (BitVec.ofInt IntKind.i64.bits a &&& ~~~(BitVec.ofInt IntKind.i64.bits b)).toNat
def bor (a b : Int) : Int := IntKind.i64.wrap (BitVec.ofInt IntKind.i64.bits a ||| BitVec.ofInt IntKind.i64.bits b).toNat
theorem wrap_bv (x : BitVec 64) : IntKind.i64.wrap x.toNat = x.toInt := by
  simp [IntKind.wrap, IntKind.bits, IntKind.signed, BitVec.toInt]
  omega
theorem ofInt_toInt {a : Int} (h1 : -9223372036854775808 ≤ a) (h2 : a ≤ 9223372036854775807) : (BitVec.ofInt 64 a).toInt = a := by
  rw [BitVec.toInt_ofInt]
  simp [Int.bmod]
  omega
theorem bv_sub (x y : BitVec 64) : x &&& y = x ↔ x &&& ~~~y = 0#64 := by
  constructor
  · intro h
    apply BitVec.eq_of_getLsbD_eq
    intro i hi
    have h1 := congrArg (fun z => BitVec.getLsbD z i) h
    simp [hi] at h1 ⊢
    exact h1
  · intro h
    apply BitVec.eq_of_getLsbD_eq
    intro i hi
    have h1 := congrArg (fun z => BitVec.getLsbD z i) h
    simp [hi] at h1 ⊢
    exact h1
theorem sub_iff {a b : Int} (h1 : -9223372036854775808 ≤ a) (h2 : a ≤ 9223372036854775807) : band a b = a ↔ bnot a b = 0 := by
  unfold band bnot
  show IntKind.i64.wrap (BitVec.ofInt 64 a &&& BitVec.ofInt 64 b).toNat = a ↔ IntKind.i64.wrap (BitVec.ofInt 64 a &&& ~~~(BitVec.ofInt 64 b)).toNat = 0
  rw [wrap_bv, wrap_bv]
  conv => lhs; rhs; rw [← ofInt_toInt h1 h2]
  rw [BitVec.toInt_inj, ← BitVec.toInt_zero, BitVec.toInt_inj]
  exact bv_sub _ _
def isCtx (m : Int) (b : List Int) : Bool := decide (0 ≤ m ∧ m ≤ 6) && decide (b.length ≤ 8) && b.all (isSet m)
def badRow (m x : Int) : Bool := !isSet m x
def fullSet (n : Int) : Int := if 0 ≤ n ∧ n ≤ 8 then 2 ^ n.toNat - 1 else 0
theorem any_badRow (m : Int) (b : List Int) : (!b.any (badRow m)) = b.all (isSet m) := by
  simp [badRow, List.not_any_eq_all_not]
def hasE (s e : Int) : Bool := isSet 8 s && decide (0 ≤ e ∧ e ≤ 7) && s.toNat.testBit e.toNat
theorem bit_all : ∀ s : Fin 256, ∀ e : Fin 9, (band ((s.val : Int).fdiv (2 ^ min ((e.val : Int)).toNat IntKind.i64.bits)) 1 == 1) = s.val.testBit e.val := by decide +kernel
theorem bit_of {s e : Int} (h0 : 0 ≤ s) (h1 : s ≤ 255) (h2 : 0 ≤ e) (h3 : e ≤ 8) : (band (s.fdiv (2 ^ min e.toNat IntKind.i64.bits)) 1 == 1) = s.toNat.testBit e.toNat := by
  have := bit_all ⟨s.toNat, by omega⟩ ⟨e.toNat, by omega⟩
  simp only [Int.toNat_of_nonneg h0, Int.toNat_of_nonneg h2] at this
  exact this
theorem bv_rng (x : BitVec 64) : -9223372036854775808 ≤ x.toInt ∧ x.toInt ≤ 9223372036854775807 := by
  have h1 : x.toInt < 9223372036854775808 := x.toInt_lt
  have h2 : -9223372036854775808 ≤ x.toInt := x.le_toInt
  omega
theorem band_range (a b : Int) : -9223372036854775808 ≤ band a b ∧ band a b ≤ 9223372036854775807 := by
  unfold band
  rw [show IntKind.i64.wrap (BitVec.ofInt IntKind.i64.bits a &&& BitVec.ofInt IntKind.i64.bits b).toNat = (BitVec.ofInt 64 a &&& BitVec.ofInt 64 b).toInt from wrap_bv _]
  exact bv_rng _
theorem band_comm (a b : Int) : band a b = band b a := by
  unfold band
  rw [BitVec.and_comm]
def commonF (objs : Int) : List Int → Nat → Int → Int
  | [], _, acc => acc
  | x :: r, i, acc => commonF objs r (i + 1) (bif hasE objs i then band acc x else acc)
def Rng (x : Int) : Prop := -9223372036854775808 ≤ x ∧ x ≤ 9223372036854775807
theorem commonF_rng (s : Int) : ∀ (a : List Int) (i : Nat) (acc : Int), Rng acc → Rng (commonF s a i acc)
  | [], _, _, h => h
  | x :: r, i, acc, h => by
    unfold commonF
    refine commonF_rng s r (i + 1) _ ?_
    cases hasE s i
    · exact h
    · exact band_range acc x
theorem fullSet_rng (n : Int) : 0 ≤ fullSet n ∧ fullSet n ≤ 255 := by
  unfold fullSet
  split
  · rename_i h
    have h : n = 0 ∨ n = 1 ∨ n = 2 ∨ n = 3 ∨ n = 4 ∨ n = 5 ∨ n = 6 ∨ n = 7 ∨ n = 8 := by omega
    rcases h with rfl | rfl | rfl | rfl | rfl | rfl | rfl | rfl | rfl <;> decide
  · omega
def intentF (m : Int) (a : List Int) (s : Int) : Int := commonF s a 0 (fullSet m)
theorem intentF_rng (m : Int) (a : List Int) (s : Int) : Rng (intentF m a s) := by
  refine commonF_rng s a 0 _ ?_
  have := fullSet_rng m
  unfold Rng
  omega
theorem isSet_le {n s : Int} (h : isSet n s = true) : 0 ≤ n ∧ n ≤ 8 ∧ 0 ≤ s ∧ s ≤ 255 := by
  unfold isSet at h
  have h := of_decide_eq_true h
  have h8 : n = 0 ∨ n = 1 ∨ n = 2 ∨ n = 3 ∨ n = 4 ∨ n = 5 ∨ n = 6 ∨ n = 7 ∨ n = 8 := by omega
  rcases h8 with rfl | rfl | rfl | rfl | rfl | rfl | rfl | rfl | rfl <;> simp at h <;> omega
theorem isSet_8 {n s : Int} (h : isSet n s = true) : isSet 8 s = true := by
  have := isSet_le h
  rw [isSet8]
  exact decide_eq_true (by omega)
theorem isCtx_len {m : Int} {a : List Int} (h : isCtx m a = true) : a.length ≤ 8 ∧ 0 ≤ m ∧ m ≤ 6 ∧ ∀ x ∈ a, isSet m x = true := by
  unfold isCtx at h
  simp only [Bool.and_eq_true, decide_eq_true_eq, List.all_eq_true] at h
  exact ⟨h.1.2, h.1.1.1, h.1.1.2, h.2⟩
/-- f holds of i, .., i + d - 1. -/
def allB (f : Nat → Bool) : Nat → Nat → Bool
  | 0, _ => true
  | d + 1, i => f i && allB f d (i + 1)
theorem allB_iff (f : Nat → Bool) : ∀ (d i : Nat), allB f d i = true ↔ ∀ j, i ≤ j → j < i + d → f j = true
  | 0, i => by simp only [allB, true_iff]; intro j h1 h2; omega
  | d + 1, i => by
    rw [allB, Bool.and_eq_true, allB_iff f d (i + 1)]
    constructor
    · rintro ⟨h1, h2⟩ j h3 h4
      by_cases h : j = i
      · rw [h]; exact h1
      · exact h2 j (by omega) (by omega)
    · intro h
      exact ⟨h i (by omega) (by omega), fun j h1 h2 => h j (by omega) (by omega)⟩
def badR (r : Int × Int) : Bool := !(isSet 8 r.1 && isSet 8 r.2)
def respOf (p q s : Int) : Bool := isSet 8 p && isSet 8 q && isSet 8 s && (!(bnot p s == 0) || bnot q s == 0)
theorem bne_bnot {p s : Int} (h : isSet 8 p = true) : (band p s != p) = !(bnot p s == 0) := by
  rw [isSet8] at h
  have h := of_decide_eq_true h
  have e := sub_iff (a := p) (b := s) (by omega) (by omega)
  simp only [bne]
  congr 1
  rw [Bool.eq_iff_iff, beq_iff_eq, beq_iff_eq, e]
theorem beq_bnot {p s : Int} (h : isSet 8 p = true) : (band p s == p) = (bnot p s == 0) := by
  have := bne_bnot (s := s) h
  simpa [bne] using this
def firstI {α : Type} (p : α → Bool) : List α → Int → Int
  | [], _ => -1
  | x :: r, i => bif p x then i else firstI p r (i + 1)
theorem firstI_iff {α : Type} (p : α → Bool) : ∀ (l : List α) (i : Int), 0 ≤ i → (decide (firstI p l i ≥ 0)) = l.any p
  | [], i, h => by simp [firstI]
  | x :: r, i, h => by
    cases hx : p x
    · simp only [firstI, hx, cond_false, List.any_cons, Bool.false_or]
      exact firstI_iff p r (i + 1) (by omega)
    · simp [firstI, hx]
      omega
theorem firstI_none {α : Type} (p : α → Bool) : ∀ (l : List α) (i : Int), l.any p = false → firstI p l i = -1
  | [], i, h => rfl
  | x :: r, i, h => by
    simp only [List.any_cons, Bool.or_eq_false_iff] at h
    simp only [firstI, h.1, cond_false]
    exact firstI_none p r (i + 1) h.2
def idxs {α : Type} (p : α → Bool) : List α → Int → List Int
  | [], _ => []
  | x :: r, i => bif p x then i :: idxs p r (i + 1) else idxs p r (i + 1)
def brk (a : List (Int × Int)) (s : Int) : List Int := idxs (fun r => !respOf r.1 r.2 s) a 0
theorem idxs_length {α : Type} (p : α → Bool) : ∀ (l : List α) (i : Int), (idxs p l i).length ≤ l.length
  | [], i => by simp [idxs]
  | x :: r, i => by
    have := idxs_length p r (i + 1)
    cases hx : p x <;> simp [idxs, hx] <;> omega
def bitI (s e : Int) : Bool := s.toNat.testBit e.toNat
def ordA (b : List Int) (a : Nat) : Bool := isSet b.length (b.getD a 0) && bitI (b.getD a 0) a
def ordBad (b : List Int) (a c : Nat) : Bool := bitI (b.getD a 0) c && ((band (b.getD c 0) (b.getD a 0) != b.getD c 0) || (decide ((a : Int) ≠ c) && bitI (b.getD c 0) a))
def ordRow (b : List Int) (a : Nat) : Bool := allB (fun c => !ordBad b a c) b.length 0
def isOrd (b : List Int) : Bool := decide (b.length ≤ 6) && (allB (ordA b) b.length 0 && allB (ordRow b) b.length 0)
theorem ordA_set {b : List Int} (h : allB (ordA b) b.length 0 = true) {a : Nat} (ha : a < b.length) : isSet b.length (b.getD a 0) = true := by
  have := (allB_iff _ _ _).1 h a (by omega) (by omega)
  unfold ordA at this
  exact (Bool.and_eq_true_iff.1 this).1
theorem isSet_bit {n s : Int} (h : isSet n s = true) {e : Nat} (he : n ≤ e) : bitI s e = false := by
  have hl := isSet_le h
  unfold isSet at h
  have h := of_decide_eq_true h
  unfold bitI
  refine Nat.testBit_lt_two_pow ?_
  have h1 : s.toNat < 2 ^ n.toNat := by
    have := h.2.2
    have e2 : ((2 ^ n.toNat : Nat) : Int) = (2 : Int) ^ n.toNat := by push_cast; rfl
    omega
  exact Nat.lt_of_lt_of_le h1 (Nat.pow_le_pow_right (by omega) (by omega))
theorem hasE_bit {s e : Int} (h : isSet 8 s = true) (h0 : 0 ≤ e) (h7 : e ≤ 7) : hasE s e = bitI s e := by
  unfold hasE bitI
  rw [h, dt (show 0 ≤ e ∧ e ≤ 7 from ⟨h0, h7⟩)]
  rfl
def elemsL (s : Int) : Nat → Nat → List Int
  | 0, _ => []
  | d + 1, i => bif hasE s i then (i : Int) :: elemsL s d (i + 1) else elemsL s d (i + 1)
def elemsF (s : Int) : List Int := elemsL s 8 0
theorem elemsL_length (s : Int) : ∀ (d i : Nat), (elemsL s d i).length ≤ d
  | 0, _ => Nat.le_refl 0
  | d + 1, i => by
    have := elemsL_length s d (i + 1)
    unfold elemsL
    cases hasE s i <;> simp <;> omega
theorem elemsL_any (s : Int) (p : Int → Bool) : ∀ (d i : Nat), (elemsL s d i).any p = !allB (fun e => !(hasE s e && p e)) d i
  | 0, _ => rfl
  | d + 1, i => by
    unfold elemsL allB
    cases h : hasE s i
    · rw [cond_false, elemsL_any s p d (i + 1)]; simp
    · rw [cond_true, List.any_cons, elemsL_any s p d (i + 1)]; simp
theorem elemsL_mem (s : Int) (x : Int) : ∀ (d i : Nat), x ∈ elemsL s d i → ∃ e : Nat, x = e ∧ i ≤ e ∧ e < i + d ∧ hasE s e = true
  | 0, _, h => by simp [elemsL] at h
  | d + 1, i, h => by
    unfold elemsL at h
    cases hE : hasE s i
    · rw [hE, cond_false] at h
      obtain ⟨e, h1, h2, h3, h4⟩ := elemsL_mem s x d (i + 1) h
      exact ⟨e, h1, by omega, by omega, h4⟩
    · rw [hE, cond_true] at h
      rcases List.mem_cons.1 h with h | h
      · exact ⟨i, h, by omega, by omega, hE⟩
      · obtain ⟨e, h1, h2, h3, h4⟩ := elemsL_mem s x d (i + 1) h
        exact ⟨e, h1, by omega, by omega, h4⟩
theorem elemsF_lt {n : Nat} {s x : Int} (h : isSet n s = true) (hx : x ∈ elemsF s) : 0 ≤ x ∧ x < n ∧ x ≤ 7 := by
  obtain ⟨e, h1, h2, h3, h4⟩ := elemsL_mem s x 8 0 hx
  subst h1
  rw [hasE_bit (isSet_8 h) (by omega) (by omega)] at h4
  refine ⟨by omega, ?_, by omega⟩
  rcases Nat.lt_or_ge e n with h5 | h5
  · omega
  · rw [isSet_bit h (by omega)] at h4
    cases h4
theorem allB_ext {f g : Nat → Bool} : ∀ (d i : Nat), (∀ j, i ≤ j → j < i + d → f j = g j) → allB f d i = allB g d i
  | 0, _, _ => rfl
  | d + 1, i, h => by
    rw [allB, allB, h i (by omega) (by omega), allB_ext d (i + 1) (fun j h1 h2 => h j (by omega) (by omega))]
theorem allB_cut {f : Nat → Bool} {d : Nat} : ∀ (n i : Nat), n ≤ d → (∀ j, i + n ≤ j → j < i + d → f j = true) → allB f d i = allB f n i := by
  intro n i hn h
  rw [Bool.eq_iff_iff, allB_iff, allB_iff]
  constructor
  · intro g j h1 h2; exact g j h1 (by omega)
  · intro g j h1 h2
    rcases Nat.lt_or_ge j (i + n) with h3 | h3
    · exact g j h1 h3
    · exact h j h3 h2
/-- A statement on a set's elements, and on the numbers below. -/
theorem elems_all {n : Nat} {s : Int} (h : isSet n s = true) (p : Int → Bool) : (elemsF s).any p = !allB (fun e => !(bitI s e && p e)) n 0 := by
  have hl := isSet_le h
  unfold elemsF
  rw [elemsL_any]
  congr 1
  rw [allB_cut n 0 (by omega)]
  · refine allB_ext n 0 (fun j h1 h2 => ?_)
    rw [hasE_bit (isSet_8 h) (by omega) (by omega)]
  · intro j h1 h2
    rw [hasE_bit (isSet_8 h) (by omega) (by omega), isSet_bit h (by omega)]
    rfl
def pairBad (b : List Int) (k : Nat) (s x : Int) : Bool := !(bnot (b.getD x.toNat 0) s == 0) || (decide (x ≠ k) && hasE (b.getD x.toNat 0) k)
theorem pairBad_row {b : List Int} (hl : b.length ≤ 6) (h : allB (ordA b) b.length 0 = true) {a : Nat} (ha : a < b.length) : (elemsF (b.getD a 0)).any (pairBad b a (b.getD a 0)) = !ordRow b a := by
  rw [elems_all (ordA_set h ha)]
  congr 1
  unfold ordRow
  refine allB_ext _ 0 (fun j h1 h2 => ?_)
  have hs := ordA_set h (show j < b.length by omega)
  have hr := isSet_le hs
  unfold ordBad pairBad
  rw [Int.toNat_natCast, hasE_bit (isSet_8 hs) (by omega) (by omega), ← bne_bnot (isSet_8 hs)]
  have e : decide ((j : Int) ≠ a) = decide ((a : Int) ≠ j) := decide_eq_decide.2 ⟨fun h => fun e => h e.symm, fun h => fun e => h e.symm⟩
  rw [e]
def abcB : ByteArray := ⟨#[97, 98, 99, 100, 101, 102, 103, 104]⟩
theorem abc_size (l h : Nat) : (abcB.extract l h).size ≤ 8 := by
  rw [ByteArray.size_extract]
  have : abcB.size = 8 := rfl
  omega
def addTx : List Int → ByteArray → ByteArray
  | [], acc => acc
  | e :: r, acc => addTx r (acc ++ abcB.extract e.toNat (IntKind.i64.wrap (e + 1)).toNat)
theorem addTx_size : ∀ (es : List Int) (acc : ByteArray), (addTx es acc).size ≤ acc.size + 8 * es.length
  | [], acc => by simp [addTx]
  | e :: r, acc => by
    have h := addTx_size r (acc ++ abcB.extract e.toNat (IntKind.i64.wrap (e + 1)).toNat)
    have h2 := abc_size e.toNat (IntKind.i64.wrap (e + 1)).toNat
    rw [ByteArray.size_append] at h
    rw [addTx, List.length_cons]
    omega
def setTx (s : Int) : ByteArray := bif isSet 8 s then (bif s == 0 then ⟨#[45]⟩ else addTx (elemsF s) ⟨#[]⟩) else ⟨#[]⟩
theorem setTx_size (s : Int) : (setTx s).size ≤ 64 := by
  unfold setTx
  cases isSet 8 s
  · exact Nat.zero_le _
  · rw [cond_true]
    cases s == 0
    · rw [cond_false]
      have h := addTx_size (elemsF s) ⟨#[]⟩
      have h2 : (elemsF s).length ≤ 8 := elemsL_length _ _ _
      have h3 : (⟨#[]⟩ : ByteArray).size = 0 := rfl
      omega
    · rw [cond_true]; decide
def setsTx (a : List Int) : ByteArray := bif a.all (isSet 8) then (bif (a.length : Int) == 0 then ⟨#[110, 111, 110, 101]⟩ else joinF (a.map setTx) ⟨#[44]⟩) else ⟨#[]⟩
theorem elems_rng {s e : Int} (h : e ∈ elemsF s) : 0 ≤ e ∧ e ≤ 7 := by
  obtain ⟨j, h1, h2, h3, h4⟩ := elemsL_mem s e 8 0 h
  omega
theorem abc_slice {e : Int} (h : 0 ≤ e ∧ e ≤ 7) : (decide (0 ≤ e) && (decide (e ≤ IntKind.i64.wrap (e + 1)) && decide (IntKind.i64.wrap (e + 1) ≤ 8))) = true := by
  rw [wrap64 (by omega) (by omega), dt h.1, dt (show e ≤ e + 1 by omega), dt (show e + 1 ≤ 8 by omega)]
  rfl
def okTxt (ys : List ByteArray) : Bool := ys.all (fun y => decide (y.size ≤ 1048576))
theorem okTxt_iff {ys : List ByteArray} : okTxt ys = true ↔ ∀ y ∈ ys, y.size ≤ 1048576 := by
  unfold okTxt
  simp only [List.all_eq_true, decide_eq_true_eq]
theorem strInts_len (s : ByteArray) : (strInts s).length = s.size := by
  unfold strInts
  rw [List.length_map, Array.length_toList]
  rfl
def bstr (l : List UInt8) : ByteArray := ⟨l.toArray⟩
theorem bstr_app (l r : List UInt8) : bstr l ++ bstr r = bstr (l ++ r) := by
  apply ByteArray.ext
  rw [ByteArray.data_append]
  simp [bstr]
theorem bstr_size (l : List UInt8) : (bstr l).size = l.length := rfl
def digs (u : Nat) : List UInt8 := if u = 0 then [] else Lib.decDigits u
theorem digs_step {u : Nat} (h : u ≠ 0) : digs u = digs (u / 10) ++ [UInt8.ofNat (48 + u % 10)] := by
  unfold digs
  rw [if_neg h, Lib.decDigits]
  split
  · rename_i h1
    rw [if_pos (by omega), Nat.mod_eq_of_lt h1]
    rfl
  · rename_i h1
    rw [if_neg (by omega)]
theorem digs_len : ∀ (d u : Nat), u < 10 ^ d → (digs u).length ≤ d
  | 0, u, h => by
    have : u = 0 := by simpa using h
    subst this
    simp [digs]
  | d + 1, u, h => by
    by_cases h0 : u = 0
    · subst h0; simp [digs]
    · rw [digs_step h0, List.length_append]
      have := digs_len d (u / 10) (by rw [Nat.pow_succ] at h; omega)
      simp only [List.length_singleton]
      omega
theorem tdiv_abs (n : Int) : (n.tdiv 10).natAbs = n.natAbs / 10 := by
  rw [Int.natAbs_tdiv]; rfl
theorem tmod_abs (n : Int) : (n.tmod 10).natAbs = n.natAbs % 10 := by
  rw [Int.natAbs_tmod]; rfl
theorem byte_of {x : Nat} (h : x < 10) : intsStr [IntKind.u8.wrap (48 + (x : Int))] = bstr [UInt8.ofNat (48 + x)] := by
  have : ∀ x : Fin 10, [UInt8.ofNat (IntKind.u8.wrap (48 + (x.val : Int))).toNat] = [UInt8.ofNat (48 + x.val)] := by decide +kernel
  unfold intsStr bstr
  rw [List.map_cons, List.map_nil, this ⟨x, h⟩]
theorem itoa_digs {n : Int} (h : n ≠ 0) : itoaB n = bif decide (n < 0) then bstr [45] ++ bstr (digs n.natAbs) else bstr (digs n.natAbs) := by
  have h0 : n.natAbs ≠ 0 := by omega
  unfold itoaB Lib.itoa digs
  rw [if_neg h0]
  by_cases hn : n < 0
  · rw [if_pos hn, decide_eq_true hn, cond_true, bstr_app]
    rfl
  · rw [if_neg hn, decide_eq_false hn, cond_false]
    have : n.toNat = n.natAbs := by omega
    rw [this]
    rfl
theorem itoa_zero : itoaB 0 = bstr [48] := by
  unfold itoaB Lib.itoa
  rw [if_neg (by decide), Lib.decDigits]
  rfl
theorem itoa_len {n : Int} (h0 : -9223372036854775808 ≤ n) (h1 : n ≤ 9223372036854775807) : (itoaB n).size ≤ 20 := by
  by_cases h : n = 0
  · subst h; rw [itoa_zero]; decide
  · rw [itoa_digs h]
    have hd := digs_len 19 n.natAbs (by omega)
    cases decide (n < 0)
    · rw [cond_false, bstr_size]; omega
    · rw [cond_true, bstr_app, bstr_size, List.length_append, List.length_singleton]; omega
theorem bstr_nil (s : ByteArray) : bstr [] ++ s = s := by
  apply ByteArray.ext
  rw [ByteArray.data_append]
  simp [bstr]
theorem digs_zero : digs 0 = [] := rfl
theorem digit_pos {x : Int} (h : 0 ≤ x.tmod 10) : intsStr [IntKind.u8.wrap (IntKind.i64.wrap (48 + x.tmod 10))] = bstr [UInt8.ofNat (48 + x.natAbs % 10)] := by
  have e := tmod_abs x
  have e2 : x.tmod 10 = ((x.natAbs % 10 : Nat) : Int) := by omega
  rw [e2, wrap64 (by omega) (by omega)]
  exact byte_of (Nat.mod_lt _ (by omega))
theorem digit_neg {x : Int} (h : ¬ 0 ≤ x.tmod 10) : intsStr [IntKind.u8.wrap (IntKind.i64.wrap (48 + IntKind.i64.wrap (0 - x.tmod 10)))] = bstr [UInt8.ofNat (48 + x.natAbs % 10)] := by
  have e := tmod_abs x
  have e2 : 0 - x.tmod 10 = ((x.natAbs % 10 : Nat) : Int) := by omega
  rw [e2, wrap64 (n := ((x.natAbs % 10 : Nat) : Int)) (by omega) (by omega), wrap64 (by omega) (by omega)]
  exact byte_of (Nat.mod_lt _ (by omega))
def rngB (a : List Int) : Bool := a.all (fun n => decide (-9223372036854775808 ≤ n ∧ n ≤ 9223372036854775807))
theorem rngB_at {a : List Int} (h : rngB a = true) {i : Nat} (hi : i < a.length) : -9223372036854775808 ≤ a.getD i 0 ∧ a.getD i 0 ≤ 9223372036854775807 := of_decide_eq_true (List.all_eq_true.1 h _ (mem_getD hi))
theorem rngB_of {a : List Int} (h : ∀ y ∈ a, (Lit.int .i64 y).wf = true) : rngB a = true := by
  unfold rngB
  rw [List.all_eq_true]
  intro y hy
  have := h y hy
  unfold Lit.wf at this
  simp only [Bool.and_eq_true, decide_eq_true_eq] at this
  exact dt this
def byteN (s : ByteArray) (i : Nat) : Int := ((s.data.toList.getD i 0).toNat : Int)
def atO (s : ByteArray) : Bool := match Lib.atoiAll s.data.toList with
  | .ok _ => true
  | _ => false
def atS (s : ByteArray) : Bool := match Lib.atoiAll s.data.toList with
  | .ok _ => false
  | .range => false
  | _ => true
def atN (s : ByteArray) : Int := match Lib.atoiAll s.data.toList with
  | .ok n => n
  | _ => 0
theorem atO_ok {s : ByteArray} (h : atO s = true) : Lib.atoiAll s.data.toList = .ok (atN s) := by
  unfold atO at h
  unfold atN
  split at h
  · rename_i n e
    rw [e]
  · cases h
theorem atS_ok {s : ByteArray} (h : atS s = true) : Lib.atoiAll s.data.toList = Lib.atoiAll [] := by
  unfold atS at h
  cases e : Lib.atoiAll s.data.toList <;> rw [e] at h
  all_goals first | rfl | cases h
theorem at_not {s : ByteArray} (h : atS s = true) : atO s = false := by
  have := atS_ok h
  unfold atO
  rw [this]
  rfl
/-- One of two contracts. -/
@[irreducible] def sel {α : Type} (b : Bool) (x y : α) : α := bif b then x else y
theorem sel_t {α : Type} {x y : α} : sel true x y = x := by unfold sel; rfl
theorem sel_f {α : Type} {x y : α} : sel false x y = y := by unfold sel; rfl
theorem bnd_t {α β : Type} {p : Prop} [Decidable p] {b : Bool} {x : α} {y : Option α} {k : α → Option β} {r : Option β} (hb : b = true) (h : p) (g : k x = r) : bnd (sel b (gd p x) y) k = r := by
  rw [hb, sel_t]
  exact bnd_g h g
theorem bnd_f {α β : Type} {p : Prop} [Decidable p] {b : Bool} {x : α} {y : Option α} {k : α → Option β} {r : Option β} (hb : b = false) (h : p) (g : k x = r) : bnd (sel b y (gd p x)) k = r := by
  rw [hb, sel_f]
  exact bnd_g h g
def rdI (s : ByteArray) (lo hi : Int) : Int × Bool := bif atO s && ((itoaB (atN s)).toList == s.toList && decide (lo ≤ atN s ∧ atN s ≤ hi)) then (atN s, true) else (0, false)
def psL (t : ByteArray) : Nat → Nat → Int × Bool
  | 0, _ => (0, false)
  | d + 1, i => bif (setTx (i : Int)).toList == t.toList then ((i : Int), true) else psL t d (i + 1)
def psI (t : ByteArray) : Int × Bool := psL t 256 0
def pzL : List ByteArray → List Int → Option (List Int)
  | [], acc => some acc
  | w :: r, acc => bif (psI w).2 then pzL r (acc ++ [(psI w).1]) else none
def noneB : ByteArray := ⟨#[110, 111, 110, 101]⟩
def pzI (t : ByteArray) : List Int × Bool := bif t.toList == noneB.toList then ([], true) else match pzL (splitsB t ⟨#[44]⟩) [] with
  | some l => (l, true)
  | none => ([], false)
def K_atoiX : List AV → List Ob → Option (AV × List Ob)
  | [.str s], [] => sel (atO s) (gd (s.size ≤ 1000) (.tup [.int .i64 (atN s), .nili], [])) (gd (s.size ≤ 1000 ∧ atS s = true) (.tup [.int .i64 0, .ifn], []))
  | _, _ => none
theorem ok_atoiX : FnOk Tryd.prog 49 K_atoiX := by
  refine ⟨⟨Tryd.f49, by kernel_rfl, by kernel_rfl, by kernel_rfl⟩, fun avs hin r hout hk C L vs hH hm hA => ?_⟩
  unfold K_atoiX at hk
  split at hk
  · rename_i s
    cases h : atO s
    · rw [h, sel_f] at hk
      obtain ⟨⟨h1, h2⟩, he⟩ := gd_o hk
      cases he
      exact atoi_bad (fun h => h) Tryd.layAtoi (by first | exact List.Mem.head _ | exact List.Mem.tail _ (List.Mem.head _)) (by omega) (atS_ok h2) hH hA
    · rw [h, sel_t] at hk
      obtain ⟨h1, he⟩ := gd_o hk
      cases he
      exact atoi_calls (fun h => h) Tryd.layAtoi (by omega) (atO_ok h) hH hA
  · cases hk

def K_itoaX : List AV → List Ob → Option (AV × List Ob)
  | [.int .i64 n], [] => gd (-9223372036854775808 ≤ n ∧ n ≤ 9223372036854775807) (.str (itoaB n), [])
  | _, _ => none
theorem ok_itoaX : FnOk Tryd.prog 61 K_itoaX := by
  refine ⟨⟨Tryd.f61, by kernel_rfl, by kernel_rfl, by kernel_rfl⟩, fun avs hin r hout hk C L vs hH hm hA => ?_⟩
  unfold K_itoaX at hk
  split at hk
  · obtain ⟨h1, he⟩ := gd_o hk
    cases he
    exact itoa_calls Tryd.layItoa (by first | exact List.Mem.head _ | exact List.Mem.tail _ (List.Mem.head _)) (by kernel_rfl) h1.1 h1.2 hH hA
  · cases hk

/- impl.FormatInt -/
def K_implFormatInt : List AV → List Ob → Option (AV × List Ob)
  | [.int .i64 n], [] => gd (-9223372036854775808 ≤ n ∧ n ≤ 9223372036854775807) (.str (itoaB n), [])
  | _, _ => none
@[reducible] def E_implFormatInt : Env := mkE (tb [(61, K_itoaX)]) (fun f => false) (fun r => ([], []))
theorem ev_implFormatInt (n : Int) (hp : -9223372036854775808 ≤ n ∧ n ≤ 9223372036854775807) : evF E_implFormatInt (1) Tryd.f50 [.int .i64 n] [] = some (.str (itoaB n), []) := by
  conv => lhs; whnf
  conv => lhs; arg 1; whnf
  refine bnd_g (by exact hp) ?_
  conv => lhs; whnf
theorem ok_implFormatInt : FnOk Tryd.prog 50 K_implFormatInt := by
  refine fn_ok (fn := Tryd.f50) (k := Tryd.f50.ntmps) (E := E_implFormatInt) (facts_of (List.forall_mem_cons.2 ⟨ok_itoaX, List.forall_mem_nil _⟩)) (by kernel_rfl) rfl (by decide +kernel) (by decide +kernel) ?_
  intro avs hin r h
  unfold K_implFormatInt at h
  split at h
  · obtain ⟨hp, rfl⟩ := gd_o h
    exact ⟨_, ev_implFormatInt _ hp, rfl⟩
  · cases h

/- impl.within -/
def K_within : List AV → List Ob → Option (AV × List Ob)
  | [.int .i64 n, .int .i64 l, .int .i64 h], [] => gd (True) (.bool (decide (l ≤ n ∧ n ≤ h)), [])
  | _, _ => none
@[reducible] def E_within : Env := mkE (tb []) (fun f => false) (fun r => ([], []))
theorem ev_within (n l h : Int) (hp : True) : evF E_within (1) Tryd.f26 [.int .i64 n, .int .i64 l, .int .i64 h] [] = some (.bool (decide (l ≤ n ∧ n ≤ h)), []) := by
  conv => lhs; whnf
  refine br_c (fun h1 => ?_) (fun h1 => ?_)
  · conv => lhs; whnf
    repeat ((first | with_reducible apply br_tt | with_reducible apply br_ff | with_reducible apply br_nf | with_reducible apply br_nt | with_reducible refine br_d ?_ (by kernel_rfl) | with_reducible apply br_t h1 | with_reducible apply br_f h1); conv => lhs; whnf)
    have := ofd h1
    simp [this]
  · conv => lhs; whnf
    repeat ((first | with_reducible apply br_tt | with_reducible apply br_ff | with_reducible apply br_nf | with_reducible apply br_nt | with_reducible refine br_d ?_ (by kernel_rfl) | with_reducible apply br_t h1 | with_reducible apply br_f h1); conv => lhs; whnf)
    have := ofn h1
    simp [this]
theorem ok_within : FnOk Tryd.prog 26 K_within := by
  refine fn_ok (fn := Tryd.f26) (k := Tryd.f26.ntmps) (E := E_within) (facts_of (List.forall_mem_nil _)) (by kernel_rfl) rfl (by decide +kernel) (by decide +kernel) ?_
  intro avs hin r h
  unfold K_within at h
  split at h
  · obtain ⟨hp, rfl⟩ := gd_o h
    exact ⟨_, ev_within _ _ _ hp, rfl⟩
  · cases h

/- impl.readInt -/
def K_readInt : List AV → List Ob → Option (AV × List Ob)
  | [.str s, .int .i64 lo, .int .i64 hi], [] => gd (s.size ≤ 1000 ∧ (atO s || atS s) = true) (.tup [.int .i64 (rdI s lo hi).1, .bool (rdI s lo hi).2], [])
  | _, _ => none
@[reducible] def E_readInt : Env := mkE (tb [(49, K_atoiX), (50, K_implFormatInt), (26, K_within)]) (fun f => false) (fun r => ([], []))
theorem ev_readInt (s : ByteArray) (lo hi : Int) (hp : s.size ≤ 1000 ∧ (atO s || atS s) = true) : evF E_readInt (1) Tryd.f37 [.str s, .int .i64 lo, .int .i64 hi] [] = some (.tup [.int .i64 (rdI s lo hi).1, .bool (rdI s lo hi).2], []) := by
  refine Or.elim (Classical.em (atO s = true)) (fun h => ?_) (fun h => ?_)
  · have hb := Lib.atoiAll_bounds (atO_ok h)
    conv => lhs; whnf
    conv => lhs; arg 1; whnf
    refine bnd_t h hp.1 ?_
    conv => lhs; whnf
    repeat ((first | with_reducible apply br_tt | with_reducible apply br_ff | with_reducible apply br_nf | with_reducible apply br_nt | with_reducible refine br_d ?_ (by kernel_rfl)); conv => lhs; whnf)
    conv => lhs; arg 1; whnf
    refine bnd_g (by omega) ?_
    conv => lhs; whnf
    repeat ((first | with_reducible apply br_tt | with_reducible apply br_ff | with_reducible apply br_nf | with_reducible apply br_nt | with_reducible refine br_d ?_ (by kernel_rfl)); conv => lhs; whnf)
    refine br_c (fun h2 => ?_) (fun h2 => ?_)
    · have h2' : (!((itoaB (atN s)).toList == s.toList)) = true := h2
      have e : rdI s lo hi = (0, false) := by
        unfold rdI
        rw [h, bnt h2']
        rfl
      conv => rhs; rw [e]
      conv => lhs; whnf
      repeat ((first | with_reducible apply br_tt | with_reducible apply br_ff | with_reducible apply br_nf | with_reducible apply br_nt | with_reducible refine br_d ?_ (by kernel_rfl) | with_reducible apply br_t h2 | with_reducible apply br_f h2); conv => lhs; whnf)
    · have h2' : (!((itoaB (atN s)).toList == s.toList)) = false := h2
      conv => lhs; whnf
      repeat ((first | with_reducible apply br_tt | with_reducible apply br_ff | with_reducible apply br_nf | with_reducible apply br_nt | with_reducible refine br_d ?_ (by kernel_rfl) | with_reducible apply br_t h2 | with_reducible apply br_f h2); conv => lhs; whnf)
      conv => lhs; arg 1; whnf
      refine bnd_g (by exact True.intro) ?_
      conv => lhs; whnf
      repeat ((first | with_reducible apply br_tt | with_reducible apply br_ff | with_reducible apply br_nf | with_reducible apply br_nt | with_reducible refine br_d ?_ (by kernel_rfl) | with_reducible apply br_t h2 | with_reducible apply br_f h2); conv => lhs; whnf)
      refine br_c (fun h3 => ?_) (fun h3 => ?_)
      · have h3' : (!decide (lo ≤ atN s ∧ atN s ≤ hi)) = true := h3
        have e : rdI s lo hi = (0, false) := by
          unfold rdI
          rw [h, bnf h2', bnt h3']
          rfl
        conv => rhs; rw [e]
        conv => lhs; whnf
      · have h3' : (!decide (lo ≤ atN s ∧ atN s ≤ hi)) = false := h3
        have e : rdI s lo hi = (atN s, true) := by
          unfold rdI
          rw [h, bnf h2', bnf h3']
          rfl
        conv => rhs; rw [e]
        conv => lhs; whnf
  · have h0 : atO s = false := by simpa using h
    have h1 : atS s = true := by
      have := hp.2
      rw [h0, Bool.false_or] at this
      exact this
    have e : rdI s lo hi = (0, false) := by
      unfold rdI
      rw [h0]
      rfl
    conv => rhs; rw [e]
    conv => lhs; whnf
    conv => lhs; arg 1; whnf
    refine bnd_f h0 ⟨hp.1, h1⟩ ?_
    conv => lhs; whnf
    repeat ((first | with_reducible apply br_tt | with_reducible apply br_ff | with_reducible apply br_nf | with_reducible apply br_nt | with_reducible refine br_d ?_ (by kernel_rfl)); conv => lhs; whnf)
theorem ok_readInt : FnOk Tryd.prog 37 K_readInt := by
  refine fn_ok (fn := Tryd.f37) (k := Tryd.f37.ntmps) (E := E_readInt) (facts_of (List.forall_mem_cons.2 ⟨ok_atoiX, List.forall_mem_cons.2 ⟨ok_implFormatInt, List.forall_mem_cons.2 ⟨ok_within, List.forall_mem_nil _⟩⟩⟩)) (by kernel_rfl) rfl (by decide +kernel) (by decide +kernel) ?_
  intro avs hin r h
  unfold K_readInt at h
  split at h
  · obtain ⟨hp, rfl⟩ := gd_o h
    exact ⟨_, ev_readInt _ _ _ hp, rfl⟩
  · cases h

/- impl.ParseNumber -/
def K_parseNumber : List AV → List Ob → Option (AV × List Ob)
  | [.str s], [] => gd (s.size ≤ 1000 ∧ (atO s || atS s) = true) (.tup [.int .i64 (rdI s 0 999999).1, .bool (rdI s 0 999999).2], [])
  | _, _ => none
@[reducible] def E_parseNumber : Env := mkE (tb [(37, K_readInt)]) (fun f => false) (fun r => ([], []))
theorem ev_parseNumber (s : ByteArray) (hp : s.size ≤ 1000 ∧ (atO s || atS s) = true) : evF E_parseNumber (1) Tryd.f23 [.str s] [] = some (.tup [.int .i64 (rdI s 0 999999).1, .bool (rdI s 0 999999).2], []) := by
  conv => lhs; whnf
  conv => lhs; arg 1; whnf
  refine bnd_g (by exact hp) ?_
  conv => lhs; whnf
theorem ok_parseNumber : FnOk Tryd.prog 23 K_parseNumber := by
  refine fn_ok (fn := Tryd.f23) (k := Tryd.f23.ntmps) (E := E_parseNumber) (facts_of (List.forall_mem_cons.2 ⟨ok_readInt, List.forall_mem_nil _⟩)) (by kernel_rfl) rfl (by decide +kernel) (by decide +kernel) ?_
  intro avs hin r h
  unfold K_parseNumber at h
  split at h
  · obtain ⟨hp, rfl⟩ := gd_o h
    exact ⟨_, ev_parseNumber _ hp, rfl⟩
  · cases h

/- impl.IsSet -/
def K_implIsSet : List AV → List Ob → Option (AV × List Ob)
  | [.int .i64 n, .int .i64 s], [] => gd (True) (.bool (isSet n s), [])
  | _, _ => none
@[reducible] def E_implIsSet : Env := mkE (tb [(26, K_within)]) (fun f => false) (fun r => ([], []))
theorem ev_implIsSet (n s : Int) (hp : True) : evF E_implIsSet (1) Tryd.f42 [.int .i64 n, .int .i64 s] [] = some (.bool (isSet n s), []) := by
  conv => lhs; whnf
  conv => lhs; arg 1; whnf
  refine bnd_g (by exact True.intro) ?_
  conv => lhs; whnf
  refine br_c (fun h => ?_) (fun h => ?_)
  · conv => lhs; whnf
    have h8 := ofd h
    repeat ((first | with_reducible apply br_tt | with_reducible apply br_ff | with_reducible apply br_nf | with_reducible apply br_nt | with_reducible refine br_d ?_ (by kernel_rfl) | with_reducible apply br_t h | with_reducible apply br_f h); conv => lhs; whnf)
    refine br_f (df (by omega)) ?_
    conv => lhs; whnf
    repeat ((first | with_reducible apply br_tt | with_reducible apply br_ff | with_reducible apply br_nf | with_reducible apply br_nt | with_reducible refine br_d ?_ (by kernel_rfl) | with_reducible apply br_t h | with_reducible apply br_f h); conv => lhs; whnf)
    conv => lhs; arg 1; whnf
    refine bnd_g (by exact True.intro) ?_
    conv => lhs; whnf
    repeat ((first | with_reducible apply br_tt | with_reducible apply br_ff | with_reducible apply br_nf | with_reducible apply br_nt | with_reducible refine br_d ?_ (by kernel_rfl) | with_reducible apply br_t h | with_reducible apply br_f h); conv => lhs; whnf)
    refine okB ?_
    unfold isSet
    refine decide_eq_decide.2 ?_
    rw [shl_set h8.1 h8.2]
    exact ⟨fun h => ⟨h8, h⟩, fun h => h.2⟩
  · conv => lhs; whnf
    repeat ((first | with_reducible apply br_tt | with_reducible apply br_ff | with_reducible apply br_nf | with_reducible apply br_nt | with_reducible refine br_d ?_ (by kernel_rfl) | with_reducible apply br_t h | with_reducible apply br_f h); conv => lhs; whnf)
    have h8 := ofn h
    simp [isSet, h8]
theorem ok_implIsSet : FnOk Tryd.prog 42 K_implIsSet := by
  refine fn_ok (fn := Tryd.f42) (k := Tryd.f42.ntmps) (E := E_implIsSet) (facts_of (List.forall_mem_cons.2 ⟨ok_within, List.forall_mem_nil _⟩)) (by kernel_rfl) rfl (by decide +kernel) (by decide +kernel) ?_
  intro avs hin r h
  unfold K_implIsSet at h
  split at h
  · obtain ⟨hp, rfl⟩ := gd_o h
    exact ⟨_, ev_implIsSet _ _ hp, rfl⟩
  · cases h

/- impl.isAnySet -/
def K_isAnySet : List AV → List Ob → Option (AV × List Ob)
  | [.int .i64 s], [] => gd (True) (.bool (isSet 8 s), [])
  | _, _ => none
@[reducible] def E_isAnySet : Env := mkE (tb [(42, K_implIsSet)]) (fun f => false) (fun r => ([], []))
theorem ev_isAnySet (s : Int) (hp : True) : evF E_isAnySet (1) Tryd.f65 [.int .i64 s] [] = some (.bool (isSet 8 s), []) := by
  conv => lhs; whnf
  conv => lhs; arg 1; whnf
  refine bnd_g (by exact True.intro) ?_
  conv => lhs; whnf
theorem ok_isAnySet : FnOk Tryd.prog 65 K_isAnySet := by
  refine fn_ok (fn := Tryd.f65) (k := Tryd.f65.ntmps) (E := E_isAnySet) (facts_of (List.forall_mem_cons.2 ⟨ok_implIsSet, List.forall_mem_nil _⟩)) (by kernel_rfl) rfl (by decide +kernel) (by decide +kernel) ?_
  intro avs hin r h
  unfold K_isAnySet at h
  split at h
  · obtain ⟨hp, rfl⟩ := gd_o h
    exact ⟨_, ev_isAnySet _ hp, rfl⟩
  · cases h

/- impl.HasElement -/
def K_hasElement : List AV → List Ob → Option (AV × List Ob)
  | [.int .i64 s, .int .i64 e], [] => gd (True) (.bool (hasE s e), [])
  | _, _ => none
@[reducible] def E_hasElement : Env := mkE (tb [(65, K_isAnySet), (26, K_within)]) (fun f => false) (fun r => ([], []))
theorem ev_hasElement (s e : Int) (hp : True) : evF E_hasElement (1) Tryd.f79 [.int .i64 s, .int .i64 e] [] = some (.bool (hasE s e), []) := by
  conv => lhs; whnf
  conv => lhs; arg 1; whnf
  refine bnd_g (by exact True.intro) ?_
  conv => lhs; whnf
  refine br_c (fun h => ?_) (fun h => ?_)
  · conv => lhs; whnf
    repeat ((first | with_reducible apply br_tt | with_reducible apply br_ff | with_reducible apply br_nf | with_reducible apply br_nt | with_reducible refine br_d ?_ (by kernel_rfl) | with_reducible apply br_t h | with_reducible apply br_f h); conv => lhs; whnf)
    conv => lhs; arg 1; whnf
    refine bnd_g (by exact True.intro) ?_
    conv => lhs; whnf
    repeat ((first | with_reducible apply br_tt | with_reducible apply br_ff | with_reducible apply br_nf | with_reducible apply br_nt | with_reducible refine br_d ?_ (by kernel_rfl) | with_reducible apply br_t h | with_reducible apply br_f h); conv => lhs; whnf)
    refine br_c (fun h2 => ?_) (fun h2 => ?_)
    · conv => lhs; whnf
      repeat ((first | with_reducible apply br_tt | with_reducible apply br_ff | with_reducible apply br_nf | with_reducible apply br_nt | with_reducible refine br_d ?_ (by kernel_rfl) | with_reducible apply br_t h | with_reducible apply br_f h | with_reducible apply br_t h2 | with_reducible apply br_f h2); conv => lhs; whnf)
      have h2' := ofd h2
      refine br_f (df (by omega)) ?_
      conv => lhs; whnf
      repeat ((first | with_reducible apply br_tt | with_reducible apply br_ff | with_reducible apply br_nf | with_reducible apply br_nt | with_reducible refine br_d ?_ (by kernel_rfl) | with_reducible apply br_t h | with_reducible apply br_f h | with_reducible apply br_t h2 | with_reducible apply br_f h2); conv => lhs; whnf)
      refine okB ?_
      have hs := isSet_le h
      unfold hasE
      rw [h, h2, Bool.true_and, Bool.true_and]
      exact bit_of (by omega) (by omega) (by omega) (by omega)
    · conv => lhs; whnf
      repeat ((first | with_reducible apply br_tt | with_reducible apply br_ff | with_reducible apply br_nf | with_reducible apply br_nt | with_reducible refine br_d ?_ (by kernel_rfl) | with_reducible apply br_t h | with_reducible apply br_f h | with_reducible apply br_t h2 | with_reducible apply br_f h2); conv => lhs; whnf)
      refine okB ?_
      unfold hasE
      rw [h, h2]
      rfl
  · conv => lhs; whnf
    repeat ((first | with_reducible apply br_tt | with_reducible apply br_ff | with_reducible apply br_nf | with_reducible apply br_nt | with_reducible refine br_d ?_ (by kernel_rfl) | with_reducible apply br_t h | with_reducible apply br_f h); conv => lhs; whnf)
    refine okB ?_
    unfold hasE
    rw [h]
    rfl
theorem ok_hasElement : FnOk Tryd.prog 79 K_hasElement := by
  refine fn_ok (fn := Tryd.f79) (k := Tryd.f79.ntmps) (E := E_hasElement) (facts_of (List.forall_mem_cons.2 ⟨ok_isAnySet, List.forall_mem_cons.2 ⟨ok_within, List.forall_mem_nil _⟩⟩)) (by kernel_rfl) rfl (by decide +kernel) (by decide +kernel) ?_
  intro avs hin r h
  unfold K_hasElement at h
  split at h
  · obtain ⟨hp, rfl⟩ := gd_o h
    exact ⟨_, ev_hasElement _ _ hp, rfl⟩
  · cases h

/- impl.ElementsOf -/
def K_elementsOf : List AV → List Ob → Option (AV × List Ob)
  | [.int .i64 s], [] => gd (True) (.own 0, [.row 3 (.int .i64) (elemsF s)])
  | _, _ => none
@[reducible] def E_elementsOf : Env := mkE (tb [(79, K_hasElement)]) (fun f => false) (fun r => bif r == 3 then ([0, 3, 6], [3]) else ([], []))
theorem lp_elementsOf (s : Int) (k : AX → S → Option (AV × List Ob)) (d : Nat) : ∀ (n i : Nat) (x : Int) (ys : List Int), 8 - i = d → i ≤ 8 → x = i → d < n → ys.length ≤ i →
    lpAt E_elementsOf (lp E_elementsOf 0 n) 0 (loopAt Tryd.f66 0) (mkS [0, 3, 6] [.int .i64 s, .own 0, .int .i64 x] [some (.row 3 (.int .i64) ys)]) k =
      k (.exit 0) (mkS [3] [.own 0] [some (.row 3 (.int .i64) (ys ++ elemsL s d i))]) := by
  induction d with
  | zero =>
    intro n i x ys hd hi hx hn hl
    subst hx
    rw [lpAt_def]
    conv => lhs; whnf
    refine br_f (df (by omega)) ?_
    conv => lhs; whnf
    rw [elemsL, List.append_nil]
  | succ d ih =>
    intro n i x ys hd hi hx hn hl
    obtain ⟨n, rfl⟩ : ∃ m, n = m + 1 := ⟨n - 1, by omega⟩
    subst hx
    rw [lpAt_def]
    conv => lhs; whnf
    refine br_t (dt (by omega)) ?_
    conv => lhs; whnf
    conv => lhs; arg 1; whnf
    refine bnd_g (by exact True.intro) ?_
    conv => lhs; whnf
    refine br_c (fun h => ?_) (fun h => ?_)
    · conv => lhs; whnf
      refine br_t (dt (by simp [room]; omega)) ?_
      conv => lhs; whnf
      rw [ih n (i + 1) _ _ (by omega) (by omega) (by rw [wrap64 (by omega) (by omega)]; simp) (by omega) (by simp; omega)]
      rw [elemsL, h, cond_true]
      simp
    · conv => lhs; whnf
      rw [ih n (i + 1) _ _ (by omega) (by omega) (by rw [wrap64 (by omega) (by omega)]; simp) (by omega) (by omega)]
      rw [elemsL, h, cond_false]
theorem ev_elementsOf (s : Int) (hp : True) : evF E_elementsOf (20) Tryd.f66 [.int .i64 s] [] = some (.own 0, [.row 3 (.int .i64) (elemsF s)]) := by
  conv => lhs; whnf
  refine (lp_elementsOf s _ 8 _ 0 0 _ rfl (by omega) rfl (by decide) (by simp)).trans ?_
  conv => lhs; whnf
  rfl
theorem ok_elementsOf : FnOk Tryd.prog 66 K_elementsOf := by
  refine fn_ok (fn := Tryd.f66) (k := Tryd.f66.ntmps) (E := E_elementsOf) (facts_of (List.forall_mem_cons.2 ⟨ok_hasElement, List.forall_mem_nil _⟩)) (by kernel_rfl) rfl (by decide +kernel) (by decide +kernel) ?_
  intro avs hin r h
  unfold K_elementsOf at h
  split at h
  · obtain ⟨hp, rfl⟩ := gd_o h
    exact ⟨_, ev_elementsOf _ hp, rfl⟩
  · cases h

/- impl.SetText -/
def K_implSetText : List AV → List Ob → Option (AV × List Ob)
  | [.int .i64 s], [] => gd (True) (.str (setTx s), [])
  | _, _ => none
@[reducible] def E_implSetText : Env := mkE (tb [(65, K_isAnySet), (66, K_elementsOf)]) (fun f => false) (fun r => bif r == 7 then ([3, 14, 15, 16], [3]) else ([], []))
theorem lp_implSetText (es : List Int) (he : es.length ≤ 8) (he2 : ∀ e ∈ es, 0 ≤ e ∧ e ≤ 7) (k : AX → S → Option (AV × List Ob)) (d : Nat) : ∀ (n i : Nat) (x : Int) (acc : ByteArray), es.length - i = d → i ≤ es.length → x = i → d < n → acc.size ≤ 8 * i →
    lpAt E_implSetText (lp E_implSetText 0 n) 0 (loopAt Tryd.f52 0) (mkS [3, 14, 15, 16] [.str acc, .own 0, .int .i64 es.length, .int .i64 x] [some (.row 3 (.int .i64) es)]) k =
      k (.exit 1) (mkS [3] [.str (addTx (es.drop i) acc)] []) := by
  induction d with
  | zero =>
    intro n i x acc hd hi hx hn hz
    subst hx
    rw [lpAt_def]
    conv => lhs; whnf
    refine br_f (df (by omega)) ?_
    conv => lhs; whnf
    rw [List.drop_of_length_le (by omega), addTx]
  | succ d ih =>
    intro n i x acc hd hi hx hn hz
    obtain ⟨n, rfl⟩ : ∃ m, n = m + 1 := ⟨n - 1, by omega⟩
    subst hx
    have hei := he2 _ (mem_getD (l := es) (i := i) (d := 0) (by omega))
    have hab := abc_size (es.getD i 0).toNat (IntKind.i64.wrap (es.getD i 0 + 1)).toNat
    rw [lpAt_def]
    conv => lhs; whnf
    refine br_t (dt (by omega)) ?_
    conv => lhs; whnf
    refine br_t (dt2 (by omega) (by omega)) ?_
    conv => lhs; whnf
    refine br_t (dt (by omega)) ?_
    conv => lhs; whnf
    refine br_t (by exact abc_slice hei) ?_
    conv => lhs; whnf
    refine br_t (by (refine dt ?_; change acc.size + (abcB.extract (es.getD i 0).toNat (IntKind.i64.wrap (es.getD i 0 + 1)).toNat).size ≤ 9223372036854775807; omega)) ?_
    conv => lhs; whnf
    refine Eq.trans (ih n (i + 1) _ _ (by omega) (by omega) (by rw [wrap64 (n := (i : Int) + 1) (by omega) (by omega)]; simp) (by omega) (by change (acc ++ abcB.extract (es.getD i 0).toNat (IntKind.i64.wrap (es.getD i 0 + 1)).toNat).size ≤ _; rw [ByteArray.size_append]; omega)) ?_
    rw [getD_drop (l := es) (i := i) (d := 0) (by omega), addTx]
    rfl
theorem ev_implSetText (s : Int) (hp : True) : evF E_implSetText (20) Tryd.f52 [.int .i64 s] [] = some (.str (setTx s), []) := by
  unfold setTx
  conv => lhs; whnf
  conv => lhs; arg 1; whnf
  refine bnd_g (by exact True.intro) ?_
  conv => lhs; whnf
  refine br_c (fun h => ?_) (fun h => ?_)
  · rw [bnt h]
    conv => lhs; whnf
    rfl
  · rw [bnf h]
    conv => lhs; whnf
    refine br_c (fun h2 => ?_) (fun h2 => ?_)
    · have h2' : (s == 0) = true := h2
      rw [h2']
      conv => lhs; whnf
      rfl
    · have h2' : (s == 0) = false := h2
      rw [h2']
      have hel : (elemsF s).length ≤ 8 := elemsL_length _ _ _
      conv => lhs; whnf
      conv => lhs; arg 1; whnf
      refine bnd_g (by exact True.intro) ?_
      conv => lhs; whnf
      refine (lp_implSetText (elemsF s) hel (fun e h => elems_rng h) _ _ _ 0 0 ⟨#[]⟩ rfl (Nat.zero_le _) rfl (by change _ < 19; omega) (Nat.le_refl _)).trans ?_
      conv => lhs; whnf
      rfl
theorem ok_implSetText : FnOk Tryd.prog 52 K_implSetText := by
  refine fn_ok (fn := Tryd.f52) (k := Tryd.f52.ntmps) (E := E_implSetText) (facts_of (List.forall_mem_cons.2 ⟨ok_isAnySet, List.forall_mem_cons.2 ⟨ok_elementsOf, List.forall_mem_nil _⟩⟩)) (by kernel_rfl) rfl (by decide +kernel) (by decide +kernel) ?_
  intro avs hin r h
  unfold K_implSetText at h
  split at h
  · obtain ⟨hp, rfl⟩ := gd_o h
    exact ⟨_, ev_implSetText _ hp, rfl⟩
  · cases h

/- impl.ParseSet -/
def K_implParseSet : List AV → List Ob → Option (AV × List Ob)
  | [.str t], [] => gd (True) (.tup [.int .i64 (psI t).1, .bool (psI t).2], [])
  | _, _ => none
@[reducible] def E_implParseSet : Env := mkE (tb [(52, K_implSetText)]) (fun f => false) (fun r => bif r == 2 then ([0, 5], [2, 3]) else ([], []))
theorem lp_implParseSet (t : ByteArray) (k : AX → S → Option (AV × List Ob)) (d : Nat) : ∀ (n i : Nat) (x : Int), 256 - i = d → i ≤ 256 → x = i → d < n →
    lpAt E_implParseSet (lp E_implParseSet 0 n) 0 (loopAt Tryd.f39 0) (mkS [0, 5] [.str t, .int .i64 x] []) k =
      if (psL t d i).2 = true then k .ret (mkS [2, 3] [.int .i64 (psL t d i).1, .bool true] []) else k (.exit 0) (mkS [2, 3] [.any, .any] []) := by
  induction d with
  | zero =>
    intro n i x hd hi hx hn
    subst hx
    rw [lpAt_def]
    conv => lhs; whnf
    refine br_f (df (by omega)) ?_
    conv => lhs; whnf
    rfl
  | succ d ih =>
    intro n i x hd hi hx hn
    obtain ⟨n, rfl⟩ : ∃ m, n = m + 1 := ⟨n - 1, by omega⟩
    subst hx
    rw [lpAt_def]
    conv => lhs; whnf
    refine br_t (dt (by omega)) ?_
    conv => lhs; whnf
    conv => lhs; arg 1; whnf
    refine bnd_g (by exact True.intro) ?_
    conv => lhs; whnf
    refine br_c (fun h => ?_) (fun h => ?_)
    · have h' : ((setTx (i : Int)).toList == t.toList) = true := h
      have e : psL t (d + 1) i = ((i : Int), true) := by rw [psL, h', cond_true]
      conv => rhs; rw [e]
      conv => lhs; whnf
      rw [if_pos rfl]
    · have h' : ((setTx (i : Int)).toList == t.toList) = false := h
      have e : psL t (d + 1) i = psL t d (i + 1) := by rw [psL, h', cond_false]
      conv => rhs; rw [e]
      conv => lhs; whnf
      exact ih n (i + 1) (IntKind.i64.wrap ((i : Int) + 1)) (by omega) (by omega) (by rw [wrap64 (by omega) (by omega)]; simp) (by omega)
theorem ev_implParseSet (t : ByteArray) (hp : True) : evF E_implParseSet (300) Tryd.f39 [.str t] [] = some (.tup [.int .i64 (psI t).1, .bool (psI t).2], []) := by
  conv => lhs; whnf
  refine (lp_implParseSet t _ 256 _ 0 0 rfl (by omega) rfl (by change _ < 299; omega)).trans ?_
  split
  · rename_i h
    have e : (psI t).2 = true := h
    conv => rhs; rw [e]
    conv => lhs; whnf
    rfl
  · rename_i h
    have h0 : (psL t 256 0).2 = false := by simpa using h
    have e : psI t = (0, false) := by
      have key : ∀ (d i : Nat), (psL t d i).2 = false → psL t d i = (0, false) := by
        intro d
        induction d with
        | zero => intro i _; rfl
        | succ d ih =>
          intro i hq
          rw [psL] at hq ⊢
          cases hc : (setTx (i : Int)).toList == t.toList
          · rw [hc, cond_false] at hq
            rw [cond_false]
            exact ih _ hq
          · rw [hc, cond_true] at hq
            cases hq
      exact key 256 0 h0
    conv => rhs; rw [e]
    conv => lhs; whnf
theorem ok_implParseSet : FnOk Tryd.prog 39 K_implParseSet := by
  refine fn_ok (fn := Tryd.f39) (k := Tryd.f39.ntmps) (E := E_implParseSet) (facts_of (List.forall_mem_cons.2 ⟨ok_implSetText, List.forall_mem_nil _⟩)) (by kernel_rfl) rfl (by decide +kernel) (by decide +kernel) ?_
  intro avs hin r h
  unfold K_implParseSet at h
  split at h
  · obtain ⟨hp, rfl⟩ := gd_o h
    exact ⟨_, ev_implParseSet _ hp, rfl⟩
  · cases h

def K_cutX : List AV → List Ob → Option (AV × List Ob)
  | [.str s, .str sep], [] => gd (s.size < 4294967281) (.tup [.str (cutB s sep).1, .str (cutB s sep).2.1, .bool (cutB s sep).2.2], [])
  | _, _ => none
theorem ok_cutX : FnOk Tryd.prog 22 K_cutX := by
  refine ⟨⟨Tryd.f22, by kernel_rfl, by kernel_rfl, by kernel_rfl⟩, fun avs hin r hout hk C L vs hH hm hA => ?_⟩
  unfold K_cutX at hk
  split at hk
  · obtain ⟨h1, he⟩ := gd_o hk
    cases he
    exact cut_calls (fun h => h) Tryd.layCut (by first | exact List.Mem.head _ | exact List.Mem.tail _ (List.Mem.head _)) h1 hH hA
  · cases hk

def K_splitX : List AV → List Ob → Option (AV × List Ob)
  | [.str s, .str sep], [] => gd (s.size < 4294967281 ∧ 1 ≤ sep.size) (.own 0, [.row 9 .str (splitsB s sep)])
  | _, _ => none
theorem ok_splitX : FnOk Tryd.prog 38 K_splitX := by
  refine ⟨⟨Tryd.f38, by kernel_rfl, by kernel_rfl, by kernel_rfl⟩, fun avs hin r hout hk C L vs hH hm hA => ?_⟩
  unfold K_splitX at hk
  split at hk
  · obtain ⟨⟨h1, h2⟩, he⟩ := gd_o hk
    cases he
    exact split_calls (fun h => h) Tryd.laySplit Tryd.hiSplit (by first | exact List.Mem.head _ | exact List.Mem.tail _ (List.Mem.head _)) h1 h2 hH hm hA
  · cases hk

end Go.Sym
