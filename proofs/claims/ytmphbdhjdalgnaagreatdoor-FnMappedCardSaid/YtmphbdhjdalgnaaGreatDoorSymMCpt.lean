/- Functions of the program, each told as a plain equation. -/
import Derived.Test.YtmphbdhjdalgnaaGreatDoorSymLayM
namespace Go.Sym
open Go.Proofs
set_option linter.unusedVariables false
set_option linter.unusedSimpArgs false
set_option maxRecDepth 100000
set_option maxHeartbeats 4000000

def isSet (n s : Int) : Bool := decide ((0 ≤ n ∧ n ≤ 8) ∧ (0 ≤ s ∧ s ≤ 2 ^ n.toNat - 1))
theorem shl_set {n : Int} (h0 : 0 ≤ n) (h8 : n ≤ 8) : IntKind.i64.wrap (IntKind.i64.wrap (1 * 2 ^ min n.toNat IntKind.i64.bits) - 1) = 2 ^ n.toNat - 1 := by
  have h : n = 0 ∨ n = 1 ∨ n = 2 ∨ n = 3 ∨ n = 4 ∨ n = 5 ∨ n = 6 ∨ n = 7 ∨ n = 8 := by omega
  rcases h with rfl | rfl | rfl | rfl | rfl | rfl | rfl | rfl | rfl <;> decide +kernel
theorem wrapu {n : Int} (h0 : 0 ≤ n) (h8 : n ≤ 8) : IntKind.u64.wrap n = n := by
  simp [IntKind.wrap, IntKind.bits, IntKind.signed]
  omega
theorem isSet8 (s : Int) : isSet 8 s = decide (0 ≤ s ∧ s ≤ 255) := by simp [isSet]
/-- The machine's and, and its and-not, on int. -/
def band (a b : Int) : Int := IntKind.i64.wrap (BitVec.ofInt IntKind.i64.bits a &&& BitVec.ofInt IntKind.i64.bits b).toNat
def bnot (a b : Int) : Int := IntKind.i64.wrap (BitVec.ofInt IntKind.i64.bits a &&& ~~~(BitVec.ofInt IntKind.i64.bits b)).toNat
def bor (a b : Int) : Int := IntKind.i64.wrap (BitVec.ofInt IntKind.i64.bits a ||| BitVec.ofInt IntKind.i64.bits b).toNat
theorem wrap_bv (x : BitVec 64) : IntKind.i64.wrap x.toNat = x.toInt := by
  simp [IntKind.wrap, IntKind.bits, IntKind.signed, BitVec.toInt]
  omega
theorem ofInt_toInt {a : Int} (h1 : -9223372036854775808 ≤ a) (h2 : a ≤ 9223372036854775807) : (BitVec.ofInt 64 a).toInt = a := by
  rw [BitVec.toInt_ofInt]
  simp [Int.bmod]
  omega
theorem bv_sub (x y : BitVec 64) : x &&& y = x ↔ x &&& ~~~y = 0#64 := by
  constructor
  · intro h
    apply BitVec.eq_of_getLsbD_eq
    intro i hi
    have h1 := congrArg (fun z => BitVec.getLsbD z i) h
    simp [hi] at h1 ⊢
    exact h1
  · intro h
    apply BitVec.eq_of_getLsbD_eq
    intro i hi
    have h1 := congrArg (fun z => BitVec.getLsbD z i) h
    simp [hi] at h1 ⊢
    exact h1
theorem sub_iff {a b : Int} (h1 : -9223372036854775808 ≤ a) (h2 : a ≤ 9223372036854775807) : band a b = a ↔ bnot a b = 0 := by
  unfold band bnot
  show IntKind.i64.wrap (BitVec.ofInt 64 a &&& BitVec.ofInt 64 b).toNat = a ↔ IntKind.i64.wrap (BitVec.ofInt 64 a &&& ~~~(BitVec.ofInt 64 b)).toNat = 0
  rw [wrap_bv, wrap_bv]
  conv => lhs; rhs; rw [← ofInt_toInt h1 h2]
  rw [BitVec.toInt_inj, ← BitVec.toInt_zero, BitVec.toInt_inj]
  exact bv_sub _ _
def isCtx (m : Int) (b : List Int) : Bool := decide (0 ≤ m ∧ m ≤ 6) && decide (b.length ≤ 8) && b.all (isSet m)
def badRow (m x : Int) : Bool := !isSet m x
def fullSet (n : Int) : Int := if 0 ≤ n ∧ n ≤ 8 then 2 ^ n.toNat - 1 else 0
theorem any_badRow (m : Int) (b : List Int) : (!b.any (badRow m)) = b.all (isSet m) := by
  simp [badRow, List.not_any_eq_all_not]
def hasE (s e : Int) : Bool := isSet 8 s && decide (0 ≤ e ∧ e ≤ 7) && s.toNat.testBit e.toNat
theorem bit_all : ∀ s : Fin 256, ∀ e : Fin 9, (band ((s.val : Int).fdiv (2 ^ min ((e.val : Int)).toNat IntKind.i64.bits)) 1 == 1) = s.val.testBit e.val := by decide +kernel
theorem bit_of {s e : Int} (h0 : 0 ≤ s) (h1 : s ≤ 255) (h2 : 0 ≤ e) (h3 : e ≤ 8) : (band (s.fdiv (2 ^ min e.toNat IntKind.i64.bits)) 1 == 1) = s.toNat.testBit e.toNat := by
  have := bit_all ⟨s.toNat, by omega⟩ ⟨e.toNat, by omega⟩
  simp only [Int.toNat_of_nonneg h0, Int.toNat_of_nonneg h2] at this
  exact this
theorem bv_rng (x : BitVec 64) : -9223372036854775808 ≤ x.toInt ∧ x.toInt ≤ 9223372036854775807 := by
  have h1 : x.toInt < 9223372036854775808 := x.toInt_lt
  have h2 : -9223372036854775808 ≤ x.toInt := x.le_toInt
  omega
theorem band_range (a b : Int) : -9223372036854775808 ≤ band a b ∧ band a b ≤ 9223372036854775807 := by
  unfold band
  rw [show IntKind.i64.wrap (BitVec.ofInt IntKind.i64.bits a &&& BitVec.ofInt IntKind.i64.bits b).toNat = (BitVec.ofInt 64 a &&& BitVec.ofInt 64 b).toInt from wrap_bv _]
  exact bv_rng _
theorem band_comm (a b : Int) : band a b = band b a := by
  unfold band
  rw [BitVec.and_comm]
def commonF (objs : Int) : List Int → Nat → Int → Int
  | [], _, acc => acc
  | x :: r, i, acc => commonF objs r (i + 1) (bif hasE objs i then band acc x else acc)
def Rng (x : Int) : Prop := -9223372036854775808 ≤ x ∧ x ≤ 9223372036854775807
theorem commonF_rng (s : Int) : ∀ (a : List Int) (i : Nat) (acc : Int), Rng acc → Rng (commonF s a i acc)
  | [], _, _, h => h
  | x :: r, i, acc, h => by
    unfold commonF
    refine commonF_rng s r (i + 1) _ ?_
    cases hasE s i
    · exact h
    · exact band_range acc x
theorem fullSet_rng (n : Int) : 0 ≤ fullSet n ∧ fullSet n ≤ 255 := by
  unfold fullSet
  split
  · rename_i h
    have h : n = 0 ∨ n = 1 ∨ n = 2 ∨ n = 3 ∨ n = 4 ∨ n = 5 ∨ n = 6 ∨ n = 7 ∨ n = 8 := by omega
    rcases h with rfl | rfl | rfl | rfl | rfl | rfl | rfl | rfl | rfl <;> decide
  · omega
def intentF (m : Int) (a : List Int) (s : Int) : Int := commonF s a 0 (fullSet m)
theorem intentF_rng (m : Int) (a : List Int) (s : Int) : Rng (intentF m a s) := by
  refine commonF_rng s a 0 _ ?_
  have := fullSet_rng m
  unfold Rng
  omega
theorem isSet_le {n s : Int} (h : isSet n s = true) : 0 ≤ n ∧ n ≤ 8 ∧ 0 ≤ s ∧ s ≤ 255 := by
  unfold isSet at h
  have h := of_decide_eq_true h
  have h8 : n = 0 ∨ n = 1 ∨ n = 2 ∨ n = 3 ∨ n = 4 ∨ n = 5 ∨ n = 6 ∨ n = 7 ∨ n = 8 := by omega
  rcases h8 with rfl | rfl | rfl | rfl | rfl | rfl | rfl | rfl | rfl <;> simp at h <;> omega
theorem isSet_8 {n s : Int} (h : isSet n s = true) : isSet 8 s = true := by
  have := isSet_le h
  rw [isSet8]
  exact decide_eq_true (by omega)
theorem isCtx_len {m : Int} {a : List Int} (h : isCtx m a = true) : a.length ≤ 8 ∧ 0 ≤ m ∧ m ≤ 6 ∧ ∀ x ∈ a, isSet m x = true := by
  unfold isCtx at h
  simp only [Bool.and_eq_true, decide_eq_true_eq, List.all_eq_true] at h
  exact ⟨h.1.2, h.1.1.1, h.1.1.2, h.2⟩
theorem shl1 {i : Nat} (h : i ≤ 8) : IntKind.i64.wrap (1 * 2 ^ min (i : Int).toNat IntKind.i64.bits) = ((2 ^ i : Nat) : Int) := by
  have h : i = 0 ∨ i = 1 ∨ i = 2 ∨ i = 3 ∨ i = 4 ∨ i = 5 ∨ i = 6 ∨ i = 7 ∨ i = 8 := by omega
  rcases h with rfl | rfl | rfl | rfl | rfl | rfl | rfl | rfl | rfl <;> decide
theorem shl1u {i : Nat} (h : i ≤ 8) : IntKind.i64.wrap (1 * 2 ^ min (IntKind.u64.wrap (i : Int)).toNat IntKind.i64.bits) = ((2 ^ i : Nat) : Int) := by
  rw [wrapu (by omega) (by omega)]
  exact shl1 h
def orF (p : Int → Bool) : Nat → Nat → Int → Int
  | 0, _, acc => acc
  | d + 1, i, acc => orF p d (i + 1) (bif p i then bor acc ((2 ^ i : Nat) : Int) else acc)
theorem orF_ext {p q : Int → Bool} : ∀ (d i : Nat) (acc : Int), (∀ j : Nat, i ≤ j → j < i + d → p j = q j) → orF p d i acc = orF q d i acc
  | 0, _, _, _ => rfl
  | d + 1, i, acc, h => by
    rw [orF, orF, h i (by omega) (by omega), orF_ext d (i + 1) _ (fun j h1 h2 => h j (by omega) (by omega))]
def bitAt (b : List Int) (e i : Int) : Bool := (b.getD i.toNat 0).toNat.testBit e.toNat
/-- The objects that have an attribute. -/
def colF (b : List Int) (e : Int) : Int := orF (bitAt b e) b.length 0 0
theorem ofInt_nat (x : Nat) : BitVec.ofInt 64 (x : Int) = BitVec.ofNat 64 x := by
  apply BitVec.eq_of_toNat_eq
  simp [BitVec.toNat_ofInt]
theorem bor_nat {x y : Nat} (hx : x < 256) (hy : y < 256) : bor (x : Int) (y : Int) = ((x ||| y : Nat) : Int) := by
  unfold bor
  have e : (BitVec.ofInt 64 (x : Int) ||| BitVec.ofInt 64 (y : Int)).toNat = x ||| y := by
    rw [BitVec.toNat_or, ofInt_nat, ofInt_nat, BitVec.toNat_ofNat, BitVec.toNat_ofNat, Nat.mod_eq_of_lt (by omega), Nat.mod_eq_of_lt (by omega)]
  have h : x ||| y < 2 ^ 8 := Nat.or_lt_two_pow (by omega) (by omega)
  rw [show (BitVec.ofInt IntKind.i64.bits (x : Int) ||| BitVec.ofInt IntKind.i64.bits (y : Int)).toNat = x ||| y from e]
  exact wrap64 (by omega) (by omega)
theorem bor_set {x y : Int} (hx : 0 ≤ x ∧ x ≤ 255) (hy : 0 ≤ y ∧ y ≤ 255) : 0 ≤ bor x y ∧ bor x y ≤ 255 := by
  obtain ⟨a, rfl⟩ : ∃ a : Nat, x = a := ⟨x.toNat, by omega⟩
  obtain ⟨b, rfl⟩ : ∃ b : Nat, y = b := ⟨y.toNat, by omega⟩
  rw [bor_nat (by omega) (by omega)]
  have h : a ||| b < 2 ^ 8 := Nat.or_lt_two_pow (by omega) (by omega)
  omega
theorem orF_set (p : Int → Bool) : ∀ (d i : Nat) (acc : Int), i + d ≤ 8 → 0 ≤ acc → acc ≤ 255 → 0 ≤ orF p d i acc ∧ orF p d i acc ≤ 255
  | 0, _, acc, _, h0, h1 => ⟨h0, h1⟩
  | d + 1, i, acc, h, h0, h1 => by
    unfold orF
    cases p i
    · exact orF_set p d (i + 1) acc (by omega) h0 h1
    · have hp : 2 ^ i ≤ 2 ^ 7 := Nat.pow_le_pow_right (by omega) (by omega)
      have hb := bor_set (x := acc) (y := ((2 ^ i : Nat) : Int)) ⟨h0, h1⟩ ⟨Int.natCast_nonneg _, Int.ofNat_le.2 (by omega : 2 ^ i ≤ 255)⟩
      exact orF_set p d (i + 1) _ (by omega) hb.1 hb.2
theorem colF_set (b : List Int) (e : Int) (h : b.length ≤ 8) : 0 ≤ colF b e ∧ colF b e ≤ 255 := orF_set _ _ _ _ (by omega) (by omega) (by omega)
def tzN (n : Nat) : Nat := if n = 0 then 64 else ((List.range 8).find? fun i => n.testBit i).getD 0
def tzF (s : Int) : Int := (tzN s.toNat : Int)
def bxor (a b : Int) : Int := IntKind.i64.wrap (BitVec.ofInt IntKind.i64.bits a ^^^ BitVec.ofInt IntKind.i64.bits b).toNat
theorem bxor_nat {x y : Nat} (hx : x < 256) (hy : y < 256) : bxor (x : Int) (y : Int) = ((x ^^^ y : Nat) : Int) := by
  unfold bxor
  have e : (BitVec.ofInt 64 (x : Int) ^^^ BitVec.ofInt 64 (y : Int)).toNat = x ^^^ y := by
    rw [BitVec.toNat_xor, ofInt_nat, ofInt_nat, BitVec.toNat_ofNat, BitVec.toNat_ofNat, Nat.mod_eq_of_lt (by omega), Nat.mod_eq_of_lt (by omega)]
  have h : x ^^^ y < 2 ^ 8 := Nat.xor_lt_two_pow (by omega) (by omega)
  rw [show (BitVec.ofInt IntKind.i64.bits (x : Int) ^^^ BitVec.ofInt IntKind.i64.bits (y : Int)).toNat = x ^^^ y from e]
  exact wrap64 (by omega) (by omega)
theorem xor_zero {a b : Nat} (e : a ^^^ b = 0) : a = b := by
  apply Nat.eq_of_testBit_eq
  intro i
  have h := congrArg (fun z => Nat.testBit z i) e
  simp only [Nat.testBit_xor, Nat.zero_testBit] at h
  cases ha : a.testBit i <;> cases hb : b.testBit i <;> simp_all
/-- Lectic order on small numbers. -/
def lecN (x y : Nat) : Bool := decide (x ≠ y) && y.testBit (tzN (x ^^^ y))
def lecB (s t : Int) : Bool := isSet 8 s && isSet 8 t && lecN s.toNat t.toNat
def lecC (s t : Int) : Int := if s = t then 0 else if lecB s t then -1 else 1
/-- The numbers below 2 ^ n in lectic order. -/
def brev (n k : Nat) : Nat := (List.range n).foldl (fun acc i => if k.testBit i then acc + 2 ^ (n - 1 - i) else acc) 0
def lecL (n : Nat) : List Nat := (List.range (2 ^ n)).map (brev n)
def LtAt (m s t : Nat) : Prop := (∀ i, i < m → s.testBit i = t.testBit i) ∧ s.testBit m = false ∧ t.testBit m = true
def ltAtB (m s t : Nat) : Bool := (List.range m).all (fun i => s.testBit i == t.testBit i) && (!s.testBit m && t.testBit m)
theorem ltAtB_iff (m s t : Nat) : ltAtB m s t = true ↔ LtAt m s t := by
  unfold ltAtB LtAt
  simp [List.all_eq_true]
/-- Lectic order, told by the place. -/
def lecLt (s t : Nat) : Prop := ∃ m, m < 6 ∧ LtAt m s t
theorem lecN_all : ∀ x y : Fin 64, lecN x.val y.val = (List.range 6).any (fun m => ltAtB m x.val y.val) := by decide +kernel
theorem lecN_iff {x y : Nat} (hx : x < 64) (hy : y < 64) : lecN x y = true ↔ lecLt x y := by
  have := lecN_all ⟨x, hx⟩ ⟨y, hy⟩
  rw [this, List.any_eq_true]
  unfold lecLt
  simp only [List.mem_range, ltAtB_iff]
def chainB : List Nat → Bool
  | [] => true
  | a :: r => r.all (lecN a) && chainB r
theorem chain_all : ∀ n : Fin 7, chainB (lecL n.val) = true ∧ (lecL n.val).all (fun x => decide (x < 2 ^ n.val)) = true ∧ (List.range (2 ^ n.val)).all (fun x => (lecL n.val).contains x) = true := by decide +kernel
theorem lecL_mem {n x : Nat} (hn : n ≤ 6) : x ∈ lecL n ↔ x < 2 ^ n := by
  obtain ⟨_, h2, h3⟩ := chain_all ⟨n, by omega⟩
  simp only [List.all_eq_true, decide_eq_true_eq, List.mem_range, List.contains_iff_mem] at h2 h3
  exact ⟨fun h => h2 x h, fun h => h3 x h⟩
theorem chainB_mid : ∀ (p : List Nat) (s : Nat) (q : List Nat), chainB (p ++ s :: q) = true → (∀ x ∈ p, lecN x s = true) ∧ (∀ x ∈ q, lecN s x = true) ∧ chainB q = true
  | [], s, q, h => by
    simp only [List.nil_append, chainB, Bool.and_eq_true, List.all_eq_true] at h
    exact ⟨fun x hx => (by cases hx), h.1, h.2⟩
  | a :: p, s, q, h => by
    simp only [List.cons_append, chainB, Bool.and_eq_true, List.all_eq_true] at h
    obtain ⟨h1, h2, h3⟩ := chainB_mid p s q h.2
    refine ⟨fun x hx => ?_, h2, h3⟩
    rcases List.mem_cons.1 hx with e | hx
    · rw [e]; exact h.1 s (by simp)
    · exact h1 x hx
/-- Subsets, as bits. -/
def SubN (x y : Nat) : Prop := ∀ i, x.testBit i = true → y.testBit i = true
theorem lec_irrefl {s t : Nat} (h : lecLt s t) (g : lecLt t s) : False := by
  obtain ⟨m, _, h1, h2, h3⟩ := h
  obtain ⟨k, _, g1, g2, g3⟩ := g
  rcases Nat.lt_trichotomy m k with h | h | h
  · rw [g1 m h] at h3; rw [h2] at h3; cases h3
  · subst h; rw [h3] at g2; cases g2
  · rw [h1 k h] at g3; rw [g2] at g3; cases g3
theorem sub_le {n s t : Nat} (hn : n ≤ 6) (hs : s < 2 ^ n) (ht : t < 2 ^ n) (h : SubN s t) : s = t ∨ lecLt s t := by
  by_cases he : s = t
  · exact .inl he
  · right
    have hx : s < 64 ∧ t < 64 := by
      have : 2 ^ n ≤ 2 ^ 6 := Nat.pow_le_pow_right (by omega) hn
      omega
    have key : ∀ x y : Fin 64, x.val ≠ y.val → lecN x.val y.val = true ∨ lecN y.val x.val = true := by decide +kernel
    rcases key ⟨s, hx.1⟩ ⟨t, hx.2⟩ he with k | k
    · exact (lecN_iff hx.1 hx.2).1 k
    · obtain ⟨m, _, _, k2, k3⟩ := (lecN_iff hx.2 hx.1).1 k
      have := h m k3
      rw [k2] at this
      cases this
/-- A closure on the numbers below 2 ^ n. -/
structure Clo (n : Nat) (cl : Nat → Nat) : Prop where
  lt : ∀ s, s < 2 ^ n → cl s < 2 ^ n
  ext : ∀ s, s < 2 ^ n → SubN s (cl s)
  mono : ∀ s t, s < 2 ^ n → t < 2 ^ n → SubN s t → SubN (cl s) (cl t)
  idem : ∀ s, s < 2 ^ n → cl (cl s) = cl s
def lowN (s m : Nat) : Nat := s % 2 ^ m
theorem lowN_bit (s m i : Nat) : (lowN s m).testBit i = (decide (i < m) && s.testBit i) := Nat.testBit_mod_two_pow s m i
def addN (s m : Nat) : Nat := lowN s m ||| 2 ^ m
theorem addN_bit (s m i : Nat) : (addN s m).testBit i = ((decide (i < m) && s.testBit i) || decide (i = m)) := by
  unfold addN
  rw [Nat.testBit_or, lowN_bit, Nat.testBit_two_pow]
  congr 1
  exact decide_eq_decide.2 ⟨fun h => h.symm, fun h => h.symm⟩
theorem addN_lt {n s m : Nat} (hm : m < n) : addN s m < 2 ^ n := by
  unfold addN lowN
  refine Nat.or_lt_two_pow ?_ (Nat.pow_lt_pow_right (by omega) hm)
  exact Nat.lt_of_lt_of_le (Nat.mod_lt _ (Nat.two_pow_pos m)) (Nat.pow_le_pow_right (by omega) (by omega))
/-- The next closed set, as the reference finds it: m + 1 places are left. -/
def nextN (cl : Nat → Nat) (s : Nat) : Nat → Option Nat
  | 0 => none
  | m + 1 => if s.testBit m then nextN cl s m else if lowN (cl (addN s m)) m = lowN s m then some (cl (addN s m)) else nextN cl s m
theorem low_eq {x y m : Nat} : lowN x m = lowN y m ↔ ∀ i, i < m → x.testBit i = y.testBit i := by
  constructor
  · intro h i hi
    have := congrArg (fun z => Nat.testBit z i) h
    simpa [lowN_bit, hi] using this
  · intro h
    apply Nat.eq_of_testBit_eq
    intro i
    rw [lowN_bit, lowN_bit]
    by_cases hi : i < m
    · simp [hi, h i hi]
    · simp [hi]
/-- A closed set beyond s passes the test at its place. -/
theorem passes {n : Nat} {cl : Nat → Nat} (hc : Clo n cl) {s t m : Nat} (hm : m < n) (ht : t < 2 ^ n) (hcl : cl t = t) (h : LtAt m s t) :
    s.testBit m = false ∧ lowN (cl (addN s m)) m = lowN s m ∧ SubN (cl (addN s m)) t := by
  obtain ⟨h1, h2, h3⟩ := h
  have hsub : SubN (addN s m) t := by
    intro i hi
    rw [addN_bit] at hi
    simp only [Bool.or_eq_true, Bool.and_eq_true, decide_eq_true_eq] at hi
    rcases hi with ⟨hi, hs⟩ | rfl
    · rw [← h1 i hi]; exact hs
    · exact h3
  have hcs : SubN (cl (addN s m)) t := by
    have := hc.mono _ _ (addN_lt hm) ht hsub
    rwa [hcl] at this
  refine ⟨h2, low_eq.2 fun i hi => ?_, hcs⟩
  cases hb : s.testBit i
  · cases hx : (cl (addN s m)).testBit i
    · rfl
    · have := hcs i hx
      rw [← h1 i hi, hb] at this
      cases this
  · have : (addN s m).testBit i = true := by rw [addN_bit]; simp [hi, hb]
    exact hc.ext _ (addN_lt hm) i this
/-- What the search finds is the least closed set beyond s, so far as its places go. -/
theorem next_spec {n : Nat} {cl : Nat → Nat} (hc : Clo n cl) (hn : n ≤ 6) (s : Nat) : ∀ m, m ≤ n →
    (nextN cl s m = none → ∀ t k, t < 2 ^ n → cl t = t → k < m → ¬ LtAt k s t) ∧
    (∀ x, nextN cl s m = some x → x < 2 ^ n ∧ cl x = x ∧ lecLt s x ∧ ∀ t k, t < 2 ^ n → cl t = t → k < m → LtAt k s t → x = t ∨ lecLt x t)
  | 0, _ => ⟨fun _ t k _ _ hk => by omega, fun x h => by simp [nextN] at h⟩
  | m + 1, hm => by
    obtain ⟨ih1, ih2⟩ := next_spec hc hn s m (by omega)
    unfold nextN
    by_cases hb : s.testBit m = true
    · rw [if_pos hb]
      refine ⟨fun h t k ht hcl hk hlt => ?_, fun x h => ?_⟩
      · rcases Nat.lt_or_ge k m with hk' | hk'
        · exact ih1 h t k ht hcl hk' hlt
        · have : k = m := by omega
          subst this
          rw [hlt.2.1] at hb; cases hb
      · obtain ⟨q1, q2, q3, q4⟩ := ih2 x h
        refine ⟨q1, q2, q3, fun t k ht hcl hk hlt => ?_⟩
        rcases Nat.lt_or_ge k m with hk' | hk'
        · exact q4 t k ht hcl hk' hlt
        · have : k = m := by omega
          subst this
          rw [hlt.2.1] at hb; cases hb
    · rw [if_neg hb]
      have hb : s.testBit m = false := by simpa using hb
      by_cases hp : lowN (cl (addN s m)) m = lowN s m
      · rw [if_pos hp]
        refine ⟨fun h => by (cases h), fun x h => ?_⟩
        cases h
        have hl := hc.lt _ (addN_lt (s := s) (show m < n by omega))
        have hmx : (cl (addN s m)).testBit m = true := hc.ext _ (addN_lt (by omega)) m (by rw [addN_bit]; simp)
        have hlow := low_eq.1 hp
        refine ⟨hl, hc.idem _ (addN_lt (by omega)), ⟨m, by omega, fun i hi => (hlow i hi).symm, hb, hmx⟩, fun t k ht hcl hk hlt => ?_⟩
        rcases Nat.lt_or_ge k m with hk' | hk'
        · right
          exact ⟨k, by omega, fun i hi => by rw [hlow i (by omega)]; exact hlt.1 i hi, by rw [hlow k hk']; exact hlt.2.1, hlt.2.2⟩
        · have : k = m := by omega
          subst this
          exact sub_le hn hl ht (passes hc (by omega) ht hcl hlt).2.2
      · rw [if_neg hp]
        have no : ∀ t, t < 2 ^ n → cl t = t → ¬ LtAt m s t := fun t ht hcl hlt => hp (passes hc (by omega) ht hcl hlt).2.1
        refine ⟨fun h t k ht hcl hk hlt => ?_, fun x h => ?_⟩
        · rcases Nat.lt_or_ge k m with hk' | hk'
          · exact ih1 h t k ht hcl hk' hlt
          · have : k = m := by omega
            subst this
            exact no t ht hcl hlt
        · obtain ⟨q1, q2, q3, q4⟩ := ih2 x h
          refine ⟨q1, q2, q3, fun t k ht hcl hk hlt => ?_⟩
          rcases Nat.lt_or_ge k m with hk' | hk'
          · exact q4 t k ht hcl hk' hlt
          · have : k = m := by omega
            subst this
            exact absurd hlt (no t ht hcl)
def isCl (cl : Nat → Nat) (s : Nat) : Bool := cl s == s
theorem lt_place {n s t : Nat} (ht : t < 2 ^ n) {m : Nat} (h : LtAt m s t) : m < n := by
  rcases Nat.lt_or_ge m n with h' | h'
  · exact h'
  · have := Nat.testBit_lt_two_pow (Nat.lt_of_lt_of_le ht (Nat.pow_le_pow_right (by omega) h'))
    rw [h.2.2] at this
    cases this
/-- The next closed set is the first closed one behind s in the lectic row. -/
theorem next_find {n : Nat} {cl : Nat → Nat} (hc : Clo n cl) (hn : n ≤ 6) {s : Nat} {p q : List Nat} (hL : lecL n = p ++ s :: q) : nextN cl s n = q.find? (isCl cl) := by
  obtain ⟨hch, _, _⟩ := chain_all ⟨n, by omega⟩
  rw [show lecL (⟨n, by omega⟩ : Fin 7).val = p ++ s :: q from hL] at hch
  obtain ⟨c1, c2, c3⟩ := chainB_mid p s q hch
  have h64 : ∀ x, x < 2 ^ n → x < 64 := fun x hx => Nat.lt_of_lt_of_le hx (Nat.pow_le_pow_right (by omega) hn : 2 ^ n ≤ 2 ^ 6)
  have hmem : ∀ x, x ∈ p ++ s :: q ↔ x < 2 ^ n := fun x => by rw [← hL]; exact lecL_mem hn
  have hs : s < 2 ^ n := (hmem s).1 (by simp)
  have hbeyond : ∀ x, x < 2 ^ n → lecLt s x → x ∈ q := by
    intro x hx hlt
    have := (hmem x).2 hx
    rcases List.mem_append.1 this with h | h
    · exact (lec_irrefl hlt ((lecN_iff (h64 _ hx) (h64 _ hs)).1 (c1 x h))).elim
    · rcases List.mem_cons.1 h with rfl | h
      · exact (lec_irrefl hlt hlt).elim
      · exact h
  have hq : ∀ x ∈ q, x < 2 ^ n ∧ lecLt s x := fun x hx => by
    have hx2 := (hmem x).1 (by simp [hx])
    exact ⟨hx2, (lecN_iff (h64 _ hs) (h64 _ hx2)).1 (c2 x hx)⟩
  obtain ⟨n1, n2⟩ := next_spec hc hn s n (Nat.le_refl n)
  cases hN : nextN cl s n with
  | none =>
    symm
    rw [List.find?_eq_none]
    intro x hx hcl
    obtain ⟨hx2, m, _, hm⟩ := hq x hx
    exact n1 hN x m hx2 (by simpa [isCl] using hcl) (lt_place hx2 hm) hm
  | some x =>
    obtain ⟨q1, q2, q3, q4⟩ := n2 x hN
    have hxq := hbeyond x q1 q3
    obtain ⟨u, v, huv⟩ := List.append_of_mem hxq
    rw [huv] at c3 hq ⊢
    obtain ⟨d1, _, _⟩ := chainB_mid u x v c3
    symm
    rw [List.find?_append]
    have hu : u.find? (isCl cl) = none := by
      rw [List.find?_eq_none]
      intro t ht hcl
      obtain ⟨ht2, m, hm6, hm⟩ := hq t (by simp [ht])
      have htx := (lecN_iff (h64 _ ht2) (h64 _ q1)).1 (d1 t ht)
      rcases q4 t m ht2 (by simpa [isCl] using hcl) (lt_place ht2 hm) hm with h | h
      · subst h; exact lec_irrefl htx htx
      · exact lec_irrefl htx h
    rw [hu]
    simp [isCl, q2]
def enumN (cl : Nat → Nat) (n : Nat) : Nat → Nat → List Nat
  | 0, _ => []
  | f + 1, s => s :: match nextN cl s n with
    | none => []
    | some x => enumN cl n f x
theorem enum_eq {n : Nat} {cl : Nat → Nat} (hc : Clo n cl) (hn : n ≤ 6) : ∀ (f : Nat) (p : List Nat) (s : Nat) (q : List Nat), lecL n = p ++ s :: q → q.length < f → enumN cl n f s = s :: q.filter (isCl cl)
  | 0, _, _, _, _, h => by omega
  | f + 1, p, s, q, hL, hf => by
    rw [enumN, next_find hc hn hL]
    congr 1
    cases hq : q.find? (isCl cl) with
    | none =>
      symm
      rw [List.filter_eq_nil_iff]
      intro x hx
      exact List.find?_eq_none.1 hq x hx
    | some x =>
      obtain ⟨hx, u, v, huv, hu⟩ := List.find?_eq_some_iff_append.1 hq
      subst huv
      simp only
      rw [enum_eq hc hn f (p ++ s :: u) x v (by rw [hL]; simp) (by simp at hf; omega)]
      rw [List.filter_append, List.filter_cons_of_pos hx]
      have : u.filter (isCl cl) = [] := by
        rw [List.filter_eq_nil_iff]
        intro y hy
        simpa using hu y hy
      rw [this]
      rfl
/-- The reference's row of closed sets is the lectic row's closed part. -/
theorem enum_all {n : Nat} {cl : Nat → Nat} (hc : Clo n cl) (hn : n ≤ 6) {f : Nat} (hf : 2 ^ n ≤ f) : enumN cl n f (cl 0) = (lecL n).filter (isCl cl) := by
  have h0 : 0 < 2 ^ n := Nat.two_pow_pos n
  have hs := hc.lt 0 h0
  have hcl : cl (cl 0) = cl 0 := hc.idem 0 h0
  obtain ⟨p, q, hL⟩ := List.append_of_mem ((lecL_mem hn).2 hs)
  obtain ⟨hch, _, _⟩ := chain_all ⟨n, by omega⟩
  rw [show lecL (⟨n, by omega⟩ : Fin 7).val = p ++ cl 0 :: q from hL] at hch
  obtain ⟨c1, _, _⟩ := chainB_mid p (cl 0) q hch
  have h64 : ∀ x, x < 2 ^ n → x < 64 := fun x hx => Nat.lt_of_lt_of_le hx (Nat.pow_le_pow_right (by omega) hn : 2 ^ n ≤ 2 ^ 6)
  have hlen : (lecL n).length = 2 ^ n := by unfold lecL; simp
  have hq : q.length < f := by
    rw [hL] at hlen
    simp at hlen
    omega
  rw [enum_eq hc hn f p (cl 0) q hL hq, hL, List.filter_append, List.filter_cons_of_pos (by simp [isCl, hcl])]
  have : p.filter (isCl cl) = [] := by
    rw [List.filter_eq_nil_iff]
    intro t ht hct
    have ht2 : t < 2 ^ n := (lecL_mem hn).1 (by rw [hL]; simp [ht])
    have hlt := (lecN_iff (h64 _ ht2) (h64 _ hs)).1 (c1 t ht)
    have hct : cl t = t := by simpa [isCl] using hct
    have hsub : SubN (cl 0) t := by
      have := hc.mono 0 t h0 ht2 (fun i hi => by simp at hi)
      rwa [hct] at this
    rcases sub_le hn hs ht2 hsub with h | h
    · rw [h] at hlt; exact lec_irrefl hlt hlt
    · exact lec_irrefl h hlt
  rw [this]
  rfl
def rangeI (n : Nat) : List Int := (List.range (2 ^ n)).map fun (x : Nat) => (x : Int)
def lecI (n : Nat) : List Int := (lecL n).map fun (x : Nat) => (x : Int)
def attrOk (m : Int) (b : List Int) (e : Int) : Bool := isCtx m b && decide (0 ≤ e ∧ e ≤ m - 1)
def badR (r : Int × Int) : Bool := !(isSet 8 r.1 && isSet 8 r.2)
def respOf (p q s : Int) : Bool := isSet 8 p && isSet 8 q && isSet 8 s && (!(bnot p s == 0) || bnot q s == 0)
theorem bne_bnot {p s : Int} (h : isSet 8 p = true) : (band p s != p) = !(bnot p s == 0) := by
  rw [isSet8] at h
  have h := of_decide_eq_true h
  have e := sub_iff (a := p) (b := s) (by omega) (by omega)
  simp only [bne]
  congr 1
  rw [Bool.eq_iff_iff, beq_iff_eq, beq_iff_eq, e]
theorem beq_bnot {p s : Int} (h : isSet 8 p = true) : (band p s == p) = (bnot p s == 0) := by
  have := bne_bnot (s := s) h
  simpa [bne] using this
def firstI {α : Type} (p : α → Bool) : List α → Int → Int
  | [], _ => -1
  | x :: r, i => bif p x then i else firstI p r (i + 1)
theorem firstI_iff {α : Type} (p : α → Bool) : ∀ (l : List α) (i : Int), 0 ≤ i → (decide (firstI p l i ≥ 0)) = l.any p
  | [], i, h => by simp [firstI]
  | x :: r, i, h => by
    cases hx : p x
    · simp only [firstI, hx, cond_false, List.any_cons, Bool.false_or]
      exact firstI_iff p r (i + 1) (by omega)
    · simp [firstI, hx]
      omega
theorem firstI_none {α : Type} (p : α → Bool) : ∀ (l : List α) (i : Int), l.any p = false → firstI p l i = -1
  | [], i, h => rfl
  | x :: r, i, h => by
    simp only [List.any_cons, Bool.or_eq_false_iff] at h
    simp only [firstI, h.1, cond_false]
    exact firstI_none p r (i + 1) h.2
def idxs {α : Type} (p : α → Bool) : List α → Int → List Int
  | [], _ => []
  | x :: r, i => bif p x then i :: idxs p r (i + 1) else idxs p r (i + 1)
def brk (a : List (Int × Int)) (s : Int) : List Int := idxs (fun r => !respOf r.1 r.2 s) a 0
theorem idxs_length {α : Type} (p : α → Bool) : ∀ (l : List α) (i : Int), (idxs p l i).length ≤ l.length
  | [], i => by simp [idxs]
  | x :: r, i => by
    have := idxs_length p r (i + 1)
    cases hx : p x <;> simp [idxs, hx] <;> omega
def colsL (b : List Int) : Nat → Nat → List Int
  | 0, _ => []
  | d + 1, i => colF b i :: colsL b d (i + 1)
theorem colsL_length (b : List Int) : ∀ (d i : Nat), (colsL b d i).length = d
  | 0, _ => rfl
  | d + 1, i => by rw [colsL, List.length_cons, colsL_length b d (i + 1)]
theorem colsL_get (b : List Int) : ∀ (d i j : Nat), j < d → (colsL b d i).getD j 0 = colF b ((i + j : Nat) : Int)
  | 0, _, _, h => by omega
  | d + 1, i, 0, _ => by rw [colsL]; rfl
  | d + 1, i, j + 1, h => by
    rw [colsL, List.getD_cons_succ, colsL_get b d (i + 1) j (by omega)]
    congr 2
    omega
def colsF (m : Int) (b : List Int) : List Int := colsL b m.toNat 0
def beyondF (s : Int) : List Int → Int → Int
  | [], acc => acc
  | t :: r, acc => beyondF s r (bif (t != s) && (bnot s t == 0) then band acc t else acc)
def reducF (m : Int) (b : List Int) (e : Int) : Bool := beyondF (colF b e) (colsF m b) (fullSet b.length) == colF b e
/-- f holds of i, .., i + d - 1. -/
def allB (f : Nat → Bool) : Nat → Nat → Bool
  | 0, _ => true
  | d + 1, i => f i && allB f d (i + 1)
theorem allB_iff (f : Nat → Bool) : ∀ (d i : Nat), allB f d i = true ↔ ∀ j, i ≤ j → j < i + d → f j = true
  | 0, i => by simp only [allB, true_iff]; intro j h1 h2; omega
  | d + 1, i => by
    rw [allB, Bool.and_eq_true, allB_iff f d (i + 1)]
    constructor
    · rintro ⟨h1, h2⟩ j h3 h4
      by_cases h : j = i
      · rw [h]; exact h1
      · exact h2 j (by omega) (by omega)
    · intro h
      exact ⟨h i (by omega) (by omega), fun j h1 h2 => h j (by omega) (by omega)⟩
def bitI (s e : Int) : Bool := s.toNat.testBit e.toNat
def ordA (b : List Int) (a : Nat) : Bool := isSet b.length (b.getD a 0) && bitI (b.getD a 0) a
def ordBad (b : List Int) (a c : Nat) : Bool := bitI (b.getD a 0) c && ((band (b.getD c 0) (b.getD a 0) != b.getD c 0) || (decide ((a : Int) ≠ c) && bitI (b.getD c 0) a))
def ordRow (b : List Int) (a : Nat) : Bool := allB (fun c => !ordBad b a c) b.length 0
def isOrd (b : List Int) : Bool := decide (b.length ≤ 6) && (allB (ordA b) b.length 0 && allB (ordRow b) b.length 0)
theorem ordA_set {b : List Int} (h : allB (ordA b) b.length 0 = true) {a : Nat} (ha : a < b.length) : isSet b.length (b.getD a 0) = true := by
  have := (allB_iff _ _ _).1 h a (by omega) (by omega)
  unfold ordA at this
  exact (Bool.and_eq_true_iff.1 this).1
theorem isSet_bit {n s : Int} (h : isSet n s = true) {e : Nat} (he : n ≤ e) : bitI s e = false := by
  have hl := isSet_le h
  unfold isSet at h
  have h := of_decide_eq_true h
  unfold bitI
  refine Nat.testBit_lt_two_pow ?_
  have h1 : s.toNat < 2 ^ n.toNat := by
    have := h.2.2
    have e2 : ((2 ^ n.toNat : Nat) : Int) = (2 : Int) ^ n.toNat := by push_cast; rfl
    omega
  exact Nat.lt_of_lt_of_le h1 (Nat.pow_le_pow_right (by omega) (by omega))
theorem hasE_bit {s e : Int} (h : isSet 8 s = true) (h0 : 0 ≤ e) (h7 : e ≤ 7) : hasE s e = bitI s e := by
  unfold hasE bitI
  rw [h, dt (show 0 ≤ e ∧ e ≤ 7 from ⟨h0, h7⟩)]
  rfl
def elemsL (s : Int) : Nat → Nat → List Int
  | 0, _ => []
  | d + 1, i => bif hasE s i then (i : Int) :: elemsL s d (i + 1) else elemsL s d (i + 1)
def elemsF (s : Int) : List Int := elemsL s 8 0
theorem elemsL_length (s : Int) : ∀ (d i : Nat), (elemsL s d i).length ≤ d
  | 0, _ => Nat.le_refl 0
  | d + 1, i => by
    have := elemsL_length s d (i + 1)
    unfold elemsL
    cases hasE s i <;> simp <;> omega
theorem elemsL_any (s : Int) (p : Int → Bool) : ∀ (d i : Nat), (elemsL s d i).any p = !allB (fun e => !(hasE s e && p e)) d i
  | 0, _ => rfl
  | d + 1, i => by
    unfold elemsL allB
    cases h : hasE s i
    · rw [cond_false, elemsL_any s p d (i + 1)]; simp
    · rw [cond_true, List.any_cons, elemsL_any s p d (i + 1)]; simp
theorem elemsL_mem (s : Int) (x : Int) : ∀ (d i : Nat), x ∈ elemsL s d i → ∃ e : Nat, x = e ∧ i ≤ e ∧ e < i + d ∧ hasE s e = true
  | 0, _, h => by simp [elemsL] at h
  | d + 1, i, h => by
    unfold elemsL at h
    cases hE : hasE s i
    · rw [hE, cond_false] at h
      obtain ⟨e, h1, h2, h3, h4⟩ := elemsL_mem s x d (i + 1) h
      exact ⟨e, h1, by omega, by omega, h4⟩
    · rw [hE, cond_true] at h
      rcases List.mem_cons.1 h with h | h
      · exact ⟨i, h, by omega, by omega, hE⟩
      · obtain ⟨e, h1, h2, h3, h4⟩ := elemsL_mem s x d (i + 1) h
        exact ⟨e, h1, by omega, by omega, h4⟩
theorem elemsF_lt {n : Nat} {s x : Int} (h : isSet n s = true) (hx : x ∈ elemsF s) : 0 ≤ x ∧ x < n ∧ x ≤ 7 := by
  obtain ⟨e, h1, h2, h3, h4⟩ := elemsL_mem s x 8 0 hx
  subst h1
  rw [hasE_bit (isSet_8 h) (by omega) (by omega)] at h4
  refine ⟨by omega, ?_, by omega⟩
  rcases Nat.lt_or_ge e n with h5 | h5
  · omega
  · rw [isSet_bit h (by omega)] at h4
    cases h4
theorem allB_ext {f g : Nat → Bool} : ∀ (d i : Nat), (∀ j, i ≤ j → j < i + d → f j = g j) → allB f d i = allB g d i
  | 0, _, _ => rfl
  | d + 1, i, h => by
    rw [allB, allB, h i (by omega) (by omega), allB_ext d (i + 1) (fun j h1 h2 => h j (by omega) (by omega))]
theorem allB_cut {f : Nat → Bool} {d : Nat} : ∀ (n i : Nat), n ≤ d → (∀ j, i + n ≤ j → j < i + d → f j = true) → allB f d i = allB f n i := by
  intro n i hn h
  rw [Bool.eq_iff_iff, allB_iff, allB_iff]
  constructor
  · intro g j h1 h2; exact g j h1 (by omega)
  · intro g j h1 h2
    rcases Nat.lt_or_ge j (i + n) with h3 | h3
    · exact g j h1 h3
    · exact h j h3 h2
/-- A statement on a set's elements, and on the numbers below. -/
theorem elems_all {n : Nat} {s : Int} (h : isSet n s = true) (p : Int → Bool) : (elemsF s).any p = !allB (fun e => !(bitI s e && p e)) n 0 := by
  have hl := isSet_le h
  unfold elemsF
  rw [elemsL_any]
  congr 1
  rw [allB_cut n 0 (by omega)]
  · refine allB_ext n 0 (fun j h1 h2 => ?_)
    rw [hasE_bit (isSet_8 h) (by omega) (by omega)]
  · intro j h1 h2
    rw [hasE_bit (isSet_8 h) (by omega) (by omega), isSet_bit h (by omega)]
    rfl
def pairBad (b : List Int) (k : Nat) (s x : Int) : Bool := !(bnot (b.getD x.toNat 0) s == 0) || (decide (x ≠ k) && hasE (b.getD x.toNat 0) k)
theorem pairBad_row {b : List Int} (hl : b.length ≤ 6) (h : allB (ordA b) b.length 0 = true) {a : Nat} (ha : a < b.length) : (elemsF (b.getD a 0)).any (pairBad b a (b.getD a 0)) = !ordRow b a := by
  rw [elems_all (ordA_set h ha)]
  congr 1
  unfold ordRow
  refine allB_ext _ 0 (fun j h1 h2 => ?_)
  have hs := ordA_set h (show j < b.length by omega)
  have hr := isSet_le hs
  unfold ordBad pairBad
  rw [Int.toNat_natCast, hasE_bit (isSet_8 hs) (by omega) (by omega), ← bne_bnot (isSet_8 hs)]
  have e : decide ((j : Int) ≠ a) = decide ((a : Int) ≠ j) := decide_eq_decide.2 ⟨fun h => fun e => h e.symm, fun h => fun e => h e.symm⟩
  rw [e]
def repAt (l : List Int) (i : Int) : Bool := (l.take i.toNat).any (fun y => l.getD i.toNat 0 == y)
def repF (l : List Int) : Int := orF (repAt l) l.length 0 0
theorem orF_bit (p : Int → Bool) : ∀ (d i : Nat) (acc : Int) (e : Nat), i + d ≤ 8 → 0 ≤ acc → acc ≤ 255 → (orF p d i acc).toNat.testBit e = (acc.toNat.testBit e || (decide (i ≤ e ∧ e < i + d) && p e))
  | 0, i, acc, e, _, _, _ => by
    rw [orF, df (by omega)]
    simp
  | d + 1, i, acc, e, h, h0, h1 => by
    have hp2 : 2 ^ i ≤ 2 ^ 7 := Nat.pow_le_pow_right (by omega) (by omega)
    have hb := bor_set (x := acc) (y := ((2 ^ i : Nat) : Int)) ⟨h0, h1⟩ ⟨Int.natCast_nonneg _, Int.ofNat_le.2 (by omega : 2 ^ i ≤ 255)⟩
    obtain ⟨q, rfl⟩ : ∃ q : Nat, acc = q := ⟨acc.toNat, by omega⟩
    have hor : bor (q : Int) ((2 ^ i : Nat) : Int) = ((q ||| 2 ^ i : Nat) : Int) := bor_nat (by omega) (by omega)
    rw [orF]
    cases hpi : p i
    · rw [cond_false, orF_bit p d (i + 1) _ e (by omega) h0 h1]
      congr 1
      by_cases he : e = i
      · subst he
        rw [hpi, Bool.and_false, Bool.and_false]
      · congr 1
        exact decide_eq_decide.2 (by omega)
    · rw [cond_true, orF_bit p d (i + 1) _ e (by omega) hb.1 hb.2, hor, Int.toNat_natCast, Int.toNat_natCast, Nat.testBit_or, Bool.or_assoc]
      congr 1
      by_cases he : e = i
      · subst he
        have h4 : decide (e ≤ e ∧ e < e + (d + 1)) = true := dt (by omega)
        rw [hpi, Nat.testBit_two_pow_self, h4, Bool.true_or]
        rfl
      · rw [Nat.testBit_two_pow_of_ne (fun h => he h.symm), Bool.false_or]
        congr 1
        exact decide_eq_decide.2 (by omega)
theorem hasE_orF (p : Int → Bool) {n : Nat} {e : Nat} (hn : n ≤ 8) (he : e < n) : hasE (orF p n 0 0) e = p e := by
  have hs := orF_set p n 0 0 (by omega) (by omega) (by omega)
  unfold hasE
  rw [isSet8, dt hs, dt (show 0 ≤ (e : Int) ∧ (e : Int) ≤ 7 by omega), Int.toNat_natCast, orF_bit p n 0 0 e (by omega) (by omega) (by omega), dt (by omega)]
  simp
theorem band_nat {x y : Nat} (hx : x < 256) (hy : y < 256) : band (x : Int) (y : Int) = ((x &&& y : Nat) : Int) := by
  unfold band
  have e : (BitVec.ofInt 64 (x : Int) &&& BitVec.ofInt 64 (y : Int)).toNat = x &&& y := by
    rw [BitVec.toNat_and, ofInt_nat, ofInt_nat, BitVec.toNat_ofNat, BitVec.toNat_ofNat, Nat.mod_eq_of_lt (by omega), Nat.mod_eq_of_lt (by omega)]
  have h : x &&& y ≤ x := Nat.and_le_left
  rw [show (BitVec.ofInt IntKind.i64.bits (x : Int) &&& BitVec.ofInt IntKind.i64.bits (y : Int)).toNat = x &&& y from e]
  exact wrap64 (by omega) (by omega)
theorem band_set {x y : Int} (hx : 0 ≤ x ∧ x ≤ 255) (hy : 0 ≤ y ∧ y ≤ 255) : 0 ≤ band x y ∧ band x y ≤ 255 ∧ (band x y).toNat = x.toNat &&& y.toNat := by
  obtain ⟨a, rfl⟩ : ∃ a : Nat, x = a := ⟨x.toNat, by omega⟩
  obtain ⟨b, rfl⟩ : ∃ b : Nat, y = b := ⟨y.toNat, by omega⟩
  rw [band_nat (by omega) (by omega)]
  have h : a &&& b ≤ a := Nat.and_le_left
  exact ⟨by omega, by omega, rfl⟩
def Small (a : List Int) : Prop := ∀ x ∈ a, 0 ≤ x ∧ x ≤ 255
theorem commonF_set (s : Int) : ∀ (a : List Int) (i : Nat) (acc : Int), Small a → 0 ≤ acc ∧ acc ≤ 255 → 0 ≤ commonF s a i acc ∧ commonF s a i acc ≤ 255 ∧
    ∀ e : Nat, (commonF s a i acc).toNat.testBit e = (acc.toNat.testBit e && allB (fun j => !hasE s ((i + j : Nat) : Int) || (a.getD j 0).toNat.testBit e) a.length 0)
  | [], i, acc, _, h => ⟨h.1, h.2, fun e => by simp [commonF, allB]⟩
  | x :: r, i, acc, hs, h => by
    have hx := hs x (by simp)
    have hb := band_set h hx
    have step : 0 ≤ (bif hasE s i then band acc x else acc) ∧ (bif hasE s i then band acc x else acc) ≤ 255 ∧ ∀ e : Nat, (bif hasE s i then band acc x else acc).toNat.testBit e = (acc.toNat.testBit e && (!hasE s i || x.toNat.testBit e)) := by
      cases hasE s i
      · exact ⟨h.1, h.2, fun e => by simp⟩
      · refine ⟨hb.1, hb.2.1, fun e => ?_⟩
        rw [cond_true, hb.2.2, Nat.testBit_and]
        simp
    obtain ⟨g1, g2, g3⟩ := commonF_set s r (i + 1) _ (fun y hy => hs y (by simp [hy])) ⟨step.1, step.2.1⟩
    rw [commonF]
    refine ⟨g1, g2, fun e => ?_⟩
    rw [g3 e, step.2.2 e, Bool.and_assoc]
    congr 1
    rw [List.length_cons, allB]
    congr 1
    have : allB (fun j => !hasE s ((i + j : Nat) : Int) || ((x :: r).getD j 0).toNat.testBit e) r.length (0 + 1) = allB (fun j => !hasE s ((i + 1 + j : Nat) : Int) || (r.getD j 0).toNat.testBit e) r.length 0 := by
      rw [Bool.eq_iff_iff, allB_iff, allB_iff]
      constructor
      · intro q j h1 h2
        have := q (j + 1) (by omega) (by omega)
        rw [List.getD_cons_succ] at this
        rw [← this]
        congr 4
        omega
      · intro q j h1 h2
        obtain ⟨j, rfl⟩ : ∃ k, j = k + 1 := ⟨j - 1, by omega⟩
        have := q j (by omega) (by omega)
        rw [List.getD_cons_succ]
        rw [← this]
        congr 4
        omega
    exact this.symm
theorem fullSet_bit {n : Int} (h0 : 0 ≤ n) (h8 : n ≤ 8) (e : Nat) : (fullSet n).toNat.testBit e = decide ((e : Int) < n) := by
  obtain ⟨k, rfl⟩ : ∃ k : Nat, n = k := ⟨n.toNat, by omega⟩
  have e1 : fullSet (k : Int) = ((2 ^ k - 1 : Nat) : Int) := by
    have h : k = 0 ∨ k = 1 ∨ k = 2 ∨ k = 3 ∨ k = 4 ∨ k = 5 ∨ k = 6 ∨ k = 7 ∨ k = 8 := by omega
    rcases h with rfl | rfl | rfl | rfl | rfl | rfl | rfl | rfl | rfl <;> decide
  rw [e1, Int.toNat_natCast, Nat.testBit_two_pow_sub_one]
  exact decide_eq_decide.2 (by omega)
/-- The objects that have all of a set. -/
def extAt (a : List Int) (s k : Int) : Bool := band (a.getD k.toNat 0) s == s
def extF (a : List Int) (s : Int) : Int := orF (extAt a s) a.length 0 0
def clN (m : Int) (a : List Int) (s : Nat) : Nat := (intentF m a (extF a s)).toNat
theorem sub_band {x s : Nat} (hx : x < 256) (hs : s < 256) : (band (x : Int) (s : Int) == (s : Int)) = true ↔ SubN s x := by
  rw [beq_iff_eq, band_nat hx hs]
  constructor
  · intro h i hi
    have h : x &&& s = s := by omega
    have := congrArg (fun z => Nat.testBit z i) h
    simp only [Nat.testBit_and, hi, Bool.and_true] at this
    exact this
  · intro h
    have : x &&& s = s := by
      apply Nat.eq_of_testBit_eq
      intro i
      rw [Nat.testBit_and]
      cases hb : s.testBit i
      · simp
      · simp [h i hb]
    rw [this]
theorem small_getD {a : List Int} (h : Small a) (k : Nat) : 0 ≤ a.getD k 0 ∧ a.getD k 0 ≤ 255 := by
  rw [List.getD_eq_getElem?_getD]
  cases hk : a[k]? with
  | none => simp
  | some x => exact h x (List.mem_of_getElem? hk)
theorem extF_spec {a : List Int} (hl : a.length ≤ 8) (hs : Small a) {s : Nat} (h : s < 256) : 0 ≤ extF a s ∧ extF a s ≤ 255 ∧ ∀ k : Nat, (extF a s).toNat.testBit k = true ↔ k < a.length ∧ SubN s (a.getD k 0).toNat := by
  have h1 := orF_set (extAt a s) a.length 0 0 (by omega) (by omega) (by omega)
  refine ⟨h1.1, h1.2, fun k => ?_⟩
  unfold extF
  rw [orF_bit _ _ _ _ _ (by omega) (by omega) (by omega)]
  simp only [Int.toNat_zero, Nat.zero_testBit, Bool.false_or, Nat.zero_add, Nat.zero_le, true_and, Bool.and_eq_true, decide_eq_true_eq]
  have hk := small_getD hs k
  unfold extAt
  rw [Int.toNat_natCast]
  have := sub_band (x := (a.getD k 0).toNat) (s := s) (by omega) h
  rw [Int.toNat_of_nonneg hk.1] at this
  rw [this]
/-- What is common to a set of objects. -/
theorem intentF_spec {m : Int} {a : List Int} (hm : 0 ≤ m ∧ m ≤ 8) (hl : a.length ≤ 8) (hs : Small a) {t : Int} (ht : isSet 8 t = true) : 0 ≤ intentF m a t ∧ intentF m a t ≤ 255 ∧
    ∀ e : Nat, (intentF m a t).toNat.testBit e = true ↔ (e : Int) < m ∧ ∀ k, k < a.length → t.toNat.testBit k = true → (a.getD k 0).toNat.testBit e = true := by
  have hf := fullSet_rng m
  obtain ⟨g1, g2, g3⟩ := commonF_set t a 0 (fullSet m) hs ⟨by omega, by omega⟩
  refine ⟨g1, g2, fun e => ?_⟩
  unfold intentF
  rw [g3 e, fullSet_bit hm.1 hm.2, Bool.and_eq_true, decide_eq_true_eq, allB_iff]
  constructor
  · rintro ⟨q1, q2⟩
    refine ⟨q1, fun k hk hb => ?_⟩
    have := q2 k (by omega) (by omega)
    rw [Nat.zero_add, hasE_bit ht (by omega) (by omega)] at this
    unfold bitI at this
    rw [Int.toNat_natCast, hb] at this
    simpa using this
  · rintro ⟨q1, q2⟩
    refine ⟨q1, fun k h1 h2 => ?_⟩
    rw [Nat.zero_add, hasE_bit ht (by omega) (by omega)]
    unfold bitI
    rw [Int.toNat_natCast]
    cases hb : t.toNat.testBit k
    · rfl
    · rw [q2 k (by omega) hb]; rfl
theorem ctx_small {m : Int} {a : List Int} (h : isCtx m a = true) : Small a := fun x hx => by
  have := isSet_le ((isCtx_len h).2.2.2 x hx)
  omega
theorem clN_bit {m : Int} {a : List Int} (h : isCtx m a = true) {s : Nat} (hs : s < 256) (e : Nat) : (clN m a s).testBit e = true ↔ (e : Int) < m ∧ ∀ k, k < a.length → SubN s (a.getD k 0).toNat → (a.getD k 0).toNat.testBit e = true := by
  have hl := isCtx_len h
  have hsm := ctx_small h
  obtain ⟨x1, x2, x3⟩ := extF_spec hl.1 hsm hs
  obtain ⟨_, _, i3⟩ := intentF_spec (m := m) ⟨hl.2.1, by omega⟩ hl.1 hsm (t := extF a s) (by rw [isSet8]; exact dt ⟨x1, x2⟩)
  unfold clN
  rw [i3 e]
  refine and_congr_right fun _ => ⟨fun g k hk hsub => g k hk ((x3 k).2 ⟨hk, hsub⟩), fun g k hk hb => g k hk ((x3 k).1 hb).2⟩
theorem cl_clo {m : Int} {a : List Int} (h : isCtx m a = true) : Clo m.toNat (clN m a) := by
  have hl := isCtx_len h
  have hp : ∀ s, s < 2 ^ m.toNat → s < 256 := fun s hs => by
    have : 2 ^ m.toNat ≤ 2 ^ 8 := Nat.pow_le_pow_right (by omega) (by omega)
    omega
  have hlt : ∀ s, s < 2 ^ m.toNat → clN m a s < 2 ^ m.toNat := by
    intro s hs
    refine Nat.lt_pow_two_of_testBit _ fun i hi => ?_
    cases hb : (clN m a s).testBit i
    · rfl
    · have := ((clN_bit h (hp s hs) i).1 hb).1
      omega
  have hext : ∀ s, s < 2 ^ m.toNat → SubN s (clN m a s) := by
    intro s hs i hi
    refine (clN_bit h (hp s hs) i).2 ⟨?_, fun k _ hsub => hsub i hi⟩
    rcases Nat.lt_or_ge i m.toNat with hi' | hi'
    · omega
    · rw [Nat.testBit_lt_two_pow (Nat.lt_of_lt_of_le hs (Nat.pow_le_pow_right (by omega) hi'))] at hi
      cases hi
  refine ⟨hlt, hext, fun s t hs ht hsub i hi => ?_, fun s hs => ?_⟩
  · obtain ⟨q1, q2⟩ := (clN_bit h (hp s hs) i).1 hi
    exact (clN_bit h (hp t ht) i).2 ⟨q1, fun k hk g => q2 k hk fun j hj => g j (hsub j hj)⟩
  · apply Nat.eq_of_testBit_eq
    intro i
    rw [Bool.eq_iff_iff, clN_bit h (hp _ (hlt s hs)), clN_bit h (hp s hs)]
    refine and_congr_right fun _ => ⟨fun g k hk hsub => g k hk fun j hj => ((clN_bit h (hp s hs) j).1 hj).2 k hk hsub, fun g k hk hsub => g k hk fun j hj => hsub j (hext s hs j hj)⟩
/-- The other way to a set's objects: by the columns. -/
theorem colF_bit {b : List Int} (hl : b.length ≤ 8) (e k : Nat) : (colF b e).toNat.testBit k = true ↔ k < b.length ∧ (b.getD k 0).toNat.testBit e = true := by
  unfold colF
  rw [orF_bit _ _ _ _ _ (by omega) (by omega) (by omega)]
  simp only [Int.toNat_zero, Nat.zero_testBit, Bool.false_or, Nat.zero_add, Nat.zero_le, true_and, Bool.and_eq_true, decide_eq_true_eq]
  unfold bitAt
  rw [Int.toNat_natCast, Int.toNat_natCast]
theorem ext_cols {m : Int} {a : List Int} (h : isCtx m a = true) {s : Nat} (hs : s < 2 ^ m.toNat) : commonF s (colsF m a) 0 (fullSet a.length) = extF a s := by
  have hl := isCtx_len h
  have hsm := ctx_small h
  have h256 : s < 256 := by
    have : 2 ^ m.toNat ≤ 2 ^ 8 := Nat.pow_le_pow_right (by omega) (by omega)
    omega
  have hset : isSet 8 (s : Int) = true := by rw [isSet8]; exact dt (by omega)
  have hlen : (colsF m a).length = m.toNat := colsL_length a _ _
  have hcs : Small (colsF m a) := by
    have : ∀ (d i : Nat), Small (colsL a d i) := by
      intro d
      induction d with
      | zero => intro i x hx; cases hx
      | succ d ih =>
        intro i x hx
        rcases List.mem_cons.1 hx with rfl | hx
        · exact colF_set a _ hl.1
        · exact ih (i + 1) x hx
    exact this _ _
  have hf := fullSet_rng (a.length : Int)
  obtain ⟨g1, g2, g3⟩ := commonF_set (s : Int) (colsF m a) 0 (fullSet a.length) hcs ⟨by omega, by omega⟩
  obtain ⟨x1, x2, x3⟩ := extF_spec hl.1 hsm h256
  have : (commonF s (colsF m a) 0 (fullSet a.length)).toNat = (extF a s).toNat := by
    apply Nat.eq_of_testBit_eq
    intro k
    rw [Bool.eq_iff_iff, x3 k, g3 k, fullSet_bit (by omega) (by omega), Bool.and_eq_true, decide_eq_true_eq, allB_iff]
    constructor
    · rintro ⟨q1, q2⟩
      have hk : k < a.length := by omega
      refine ⟨hk, fun e he => ?_⟩
      have hem : e < m.toNat := by
        rcases Nat.lt_or_ge e m.toNat with hi' | hi'
        · exact hi'
        · rw [Nat.testBit_lt_two_pow (Nat.lt_of_lt_of_le hs (Nat.pow_le_pow_right (by omega) hi'))] at he
          cases he
      have := q2 e (by omega) (by omega)
      rw [Nat.zero_add, hasE_bit hset (by omega) (by omega)] at this
      unfold bitI at this
      rw [Int.toNat_natCast, Int.toNat_natCast, he] at this
      unfold colsF at this
      rw [colsL_get a _ 0 e hem, Nat.zero_add] at this
      exact ((colF_bit hl.1 e k).1 (by simpa using this)).2
    · rintro ⟨q1, q2⟩
      refine ⟨by omega, fun e h1 h2 => ?_⟩
      rw [Nat.zero_add, hasE_bit hset (by omega) (by omega)]
      unfold bitI
      rw [Int.toNat_natCast, Int.toNat_natCast]
      cases hb : s.testBit e
      · rfl
      · unfold colsF
        rw [colsL_get a _ 0 e (by omega), Nat.zero_add, (colF_bit hl.1 e k).2 ⟨q1, q2 e hb⟩]
        rfl
  omega
def noAdj : List Int → Bool
  | a :: b :: r => a != b && noAdj (b :: r)
  | _ => true
theorem noAdj_get : ∀ (l : List Int), noAdj l = true → ∀ i, i + 1 < l.length → l.getD (i + 1) 0 ≠ l.getD i 0
  | [], _, i, h => by simp at h
  | [a], _, i, h => by simp at h
  | a :: b :: r, hn, i, h => by
    unfold noAdj at hn
    rw [Bool.and_eq_true] at hn
    cases i with
    | zero =>
      have := hn.1
      simp only [bne_iff_ne, ne_eq] at this
      exact fun e => this e.symm
    | succ i =>
      have := noAdj_get (b :: r) hn.2 i (by simpa using h)
      simpa using this
theorem isSet_nat {n s : Nat} (hn : n ≤ 6) (hs : s < 2 ^ n) : isSet (n : Int) (s : Int) = true := by
  unfold isSet
  refine decide_eq_true ⟨by omega, by omega, ?_⟩
  have e2 : ((2 ^ n : Nat) : Int) = (2 : Int) ^ n := by push_cast; rfl
  rw [Int.toNat_natCast, ← e2]
  omega
def closedI (m : Int) (a : List Int) (x : Int) : Bool := intentF m a (extF a x) == x
def pairI (a : List Int) (x : Int) : Int × Int := (extF a x, x)
def concF (m : Int) (a : List Int) : List (Int × Int) := bif isCtx m a then ((lecI m.toNat).filter (closedI m a)).map (pairI a) else []
theorem lec_all : ∀ n : Fin 7, noAdj (lecI n.val) = true ∧ (lecI n.val).length = 2 ^ n.val ∧ (rangeI n.val).length = 2 ^ n.val ∧ Nat.log2 (2 ^ n.val) = n.val ∧ (rangeI n.val).any (badRow 8) = false := by decide +kernel
theorem rangeI_snoc (k : Nat) : (List.range (k + 1)).map (fun (x : Nat) => (x : Int)) = (List.range k).map (fun (x : Nat) => (x : Int)) ++ [(k : Int)] := by
  rw [List.range_succ, List.map_append]
  rfl
theorem pow64 {n : Nat} (h : n ≤ 6) : 1 ≤ 2 ^ n ∧ 2 ^ n ≤ 64 := by
  have h1 := Nat.two_pow_pos n
  have h2 : 2 ^ n ≤ 2 ^ 6 := Nat.pow_le_pow_right (by omega) h
  omega
theorem lecI_isSet {m x : Int} (hm : 0 ≤ m ∧ m ≤ 6) (h : x ∈ lecI m.toNat) : isSet m x = true ∧ ∃ s : Nat, x = s ∧ s < 2 ^ m.toNat := by
  unfold lecI at h
  obtain ⟨s, hs, rfl⟩ := List.mem_map.1 h
  have hs := (lecL_mem (by omega)).1 hs
  refine ⟨?_, s, rfl, hs⟩
  unfold isSet
  refine dt ⟨by omega, by omega, ?_⟩
  have e2 : ((2 ^ m.toNat : Nat) : Int) = (2 : Int) ^ m.toNat := by push_cast; rfl
  rw [← e2]
  omega
theorem isSet_ex {m x : Int} (h : isSet m x = true) : ∃ s : Nat, x = s ∧ s < 2 ^ m.toNat := by
  unfold isSet at h
  have h := ofd h
  have e2 : ((2 ^ m.toNat : Nat) : Int) = (2 : Int) ^ m.toNat := by push_cast; rfl
  exact ⟨x.toNat, by omega, by omega⟩
theorem ext_isSet {a : List Int} (hl : a.length ≤ 8) (hs : Small a) {s : Nat} (h : s < 256) : isSet a.length (extF a s) = true := by
  obtain ⟨x1, x2, x3⟩ := extF_spec hl hs h
  have : (extF a s).toNat < 2 ^ a.length := by
    refine Nat.lt_pow_two_of_testBit _ fun i hi => ?_
    cases hb : (extF a s).toNat.testBit i
    · rfl
    · have := ((x3 i).1 hb).1
      omega
  unfold isSet
  refine dt ⟨by omega, by omega, ?_⟩
  have e2 : ((2 ^ a.length : Nat) : Int) = (2 : Int) ^ a.length := by push_cast; rfl
  rw [Int.toNat_natCast, ← e2]
  omega
/- impl.within -/
def K_within : List AV → List Ob → Option (AV × List Ob)
  | [.int .i64 n, .int .i64 l, .int .i64 h], [] => gd (True) (.bool (decide (l ≤ n ∧ n ≤ h)), [])
  | _, _ => none
@[reducible] def E_within : Env := mkE (tb []) (fun f => false) (fun r => ([], []))
theorem ev_within (n l h : Int) (hp : True) : evF E_within (1) Tryz.f46 [.int .i64 n, .int .i64 l, .int .i64 h] [] = some (.bool (decide (l ≤ n ∧ n ≤ h)), []) := by
  conv => lhs; whnf
  refine br_c (fun h1 => ?_) (fun h1 => ?_)
  · conv => lhs; whnf
    repeat ((first | with_reducible apply br_tt | with_reducible apply br_ff | with_reducible apply br_nf | with_reducible apply br_nt | with_reducible refine br_d ?_ (by kernel_rfl) | with_reducible apply br_t h1 | with_reducible apply br_f h1); conv => lhs; whnf)
    have := ofd h1
    simp [this]
  · conv => lhs; whnf
    repeat ((first | with_reducible apply br_tt | with_reducible apply br_ff | with_reducible apply br_nf | with_reducible apply br_nt | with_reducible refine br_d ?_ (by kernel_rfl) | with_reducible apply br_t h1 | with_reducible apply br_f h1); conv => lhs; whnf)
    have := ofn h1
    simp [this]
theorem ok_within : FnOk Tryz.prog 46 K_within := by
  refine fn_ok (fn := Tryz.f46) (k := Tryz.f46.ntmps) (E := E_within) (facts_of (List.forall_mem_nil _)) (by kernel_rfl) rfl (by decide +kernel) (by decide +kernel) ?_
  intro avs hin r h
  unfold K_within at h
  split at h
  · obtain ⟨hp, rfl⟩ := gd_o h
    exact ⟨_, ev_within _ _ _ hp, rfl⟩
  · cases h

/- impl.IsSet -/
def K_implIsSet : List AV → List Ob → Option (AV × List Ob)
  | [.int .i64 n, .int .i64 s], [] => gd (True) (.bool (isSet n s), [])
  | _, _ => none
@[reducible] def E_implIsSet : Env := mkE (tb [(46, K_within)]) (fun f => false) (fun r => ([], []))
theorem ev_implIsSet (n s : Int) (hp : True) : evF E_implIsSet (1) Tryz.f49 [.int .i64 n, .int .i64 s] [] = some (.bool (isSet n s), []) := by
  conv => lhs; whnf
  conv => lhs; arg 1; whnf
  refine bnd_g (by exact True.intro) ?_
  conv => lhs; whnf
  refine br_c (fun h => ?_) (fun h => ?_)
  · conv => lhs; whnf
    have h8 := ofd h
    repeat ((first | with_reducible apply br_tt | with_reducible apply br_ff | with_reducible apply br_nf | with_reducible apply br_nt | with_reducible refine br_d ?_ (by kernel_rfl) | with_reducible apply br_t h | with_reducible apply br_f h); conv => lhs; whnf)
    refine br_f (df (by omega)) ?_
    conv => lhs; whnf
    repeat ((first | with_reducible apply br_tt | with_reducible apply br_ff | with_reducible apply br_nf | with_reducible apply br_nt | with_reducible refine br_d ?_ (by kernel_rfl) | with_reducible apply br_t h | with_reducible apply br_f h); conv => lhs; whnf)
    conv => lhs; arg 1; whnf
    refine bnd_g (by exact True.intro) ?_
    conv => lhs; whnf
    repeat ((first | with_reducible apply br_tt | with_reducible apply br_ff | with_reducible apply br_nf | with_reducible apply br_nt | with_reducible refine br_d ?_ (by kernel_rfl) | with_reducible apply br_t h | with_reducible apply br_f h); conv => lhs; whnf)
    refine okB ?_
    unfold isSet
    refine decide_eq_decide.2 ?_
    rw [shl_set h8.1 h8.2]
    exact ⟨fun h => ⟨h8, h⟩, fun h => h.2⟩
  · conv => lhs; whnf
    repeat ((first | with_reducible apply br_tt | with_reducible apply br_ff | with_reducible apply br_nf | with_reducible apply br_nt | with_reducible refine br_d ?_ (by kernel_rfl) | with_reducible apply br_t h | with_reducible apply br_f h); conv => lhs; whnf)
    have h8 := ofn h
    simp [isSet, h8]
theorem ok_implIsSet : FnOk Tryz.prog 49 K_implIsSet := by
  refine fn_ok (fn := Tryz.f49) (k := Tryz.f49.ntmps) (E := E_implIsSet) (facts_of (List.forall_mem_cons.2 ⟨ok_within, List.forall_mem_nil _⟩)) (by kernel_rfl) rfl (by decide +kernel) (by decide +kernel) ?_
  intro avs hin r h
  unfold K_implIsSet at h
  split at h
  · obtain ⟨hp, rfl⟩ := gd_o h
    exact ⟨_, ev_implIsSet _ _ hp, rfl⟩
  · cases h

/- impl.IsContext$1 -/
def K_badRow1 : List AV → List Ob → Option (AV × List Ob)
  | [.int .i64 x, .vptr [.int .i64 m, .lst (.int .i64) b] 0], [] => gd (True) (.bool (badRow m x), [])
  | _, _ => none
@[reducible] def E_badRow1 : Env := mkE (tb [(49, K_implIsSet)]) (fun f => false) (fun r => ([], []))
theorem ev_badRow1 (x m : Int) (b : List Int) (hp : True) : evF E_badRow1 (1) Tryz.f48 [.int .i64 x, .vptr [.int .i64 m, .lst (.int .i64) b] 0] [] = some (.bool (badRow m x), []) := by
  conv => lhs; whnf
  conv => lhs; arg 1; whnf
  refine bnd_g (by exact True.intro) ?_
  conv => lhs; whnf
  rfl
theorem ok_badRow1 : FnOk Tryz.prog 48 K_badRow1 := by
  refine fn_ok (fn := Tryz.f48) (k := Tryz.f48.ntmps) (E := E_badRow1) (facts_of (List.forall_mem_cons.2 ⟨ok_implIsSet, List.forall_mem_nil _⟩)) (by kernel_rfl) rfl (by decide +kernel) (by decide +kernel) ?_
  intro avs hin r h
  unfold K_badRow1 at h
  split at h
  · obtain ⟨hp, rfl⟩ := gd_o h
    exact ⟨_, ev_badRow1 _ _ _ hp, rfl⟩
  · cases h

/- slices.IndexFunc[[]int,int] -/
def K_idx_badRow1 : List AV → List Ob → Option (AV × List Ob)
  | [.lst (.int .i64) a, .clo 48 [.vptr [.int .i64 m, .lst (.int .i64) b] 0]], [] => gd (a.length < 4611686018427387904 ∧ True) (.int .i64 (firstI (badRow m) a 0), [])
  | _, _ => none
@[reducible] def E_idx_badRow1 : Env := mkE (tb [(48, K_badRow1)]) (fun f => false) (fun r => bif r == 2 then ([0, 1, 7, 8], [4]) else ([], []))
theorem lp_idx_badRow1 (a : List Int) (m : Int) (b : List Int) (ht : True) (ha : a.length < 4611686018427387904) (k : AX → S → Option (AV × List Ob)) (d : Nat) : ∀ (n i : Nat) (x : Int), a.length - i = d → i ≤ a.length → x = i → d < n →
    lpAt E_idx_badRow1 (lp E_idx_badRow1 0 n) 0 (loopAt Tryz.f80 0) (mkS [0, 1, 7, 8] [.lst (.int .i64) a, .clo 48 [.vptr [.int .i64 m, .lst (.int .i64) b] 0], .int .i64 a.length, .int .i64 x] []) k =
      if (a.drop i).any (badRow m) then k .ret (mkS [4] [.int .i64 (firstI (badRow m) (a.drop i) i)] []) else k (.exit 0) (mkS [4] [.any] []) := by
  induction d with
  | zero =>
    intro n i x hd hi hx hn
    subst hx
    rw [lpAt_def]
    conv => lhs; whnf
    refine br_f (df (by omega)) ?_
    conv => lhs; whnf
    rw [List.drop_of_length_le (by omega)]
    simp
  | succ d ih =>
    intro n i x hd hi hx hn
    obtain ⟨n, rfl⟩ : ∃ m, n = m + 1 := ⟨n - 1, by omega⟩
    subst hx
    rw [lpAt_def]
    conv => lhs; whnf
    refine br_t (dt (by omega)) ?_
    conv => lhs; whnf
    refine br_t (dt2 (by omega) (by omega)) ?_
    conv => lhs; whnf
    conv => lhs; arg 1; whnf
    refine bnd_g (by exact True.intro) ?_
    conv => lhs; whnf
    rw [getD_drop (l := a) (i := i) (d := 0) (by omega)]
    refine br_c (fun h => ?_) (fun h => ?_)
    · have h' : (badRow m) (a.getD i 0) = true := h
      conv => lhs; whnf
      rw [if_pos (by rw [List.any_cons, h', Bool.true_or])]
      rw [firstI, h', cond_true]
    · have h' : (badRow m) (a.getD i 0) = false := h
      conv => lhs; whnf
      rw [ih n (i + 1) _ (by omega) (by omega) (by rw [wrap64 (by omega) (by omega)]; simp) (by omega)]
      rw [List.any_cons, h', Bool.false_or, firstI, h', cond_false]
      rfl
theorem ev_idx_badRow1 (a : List Int) (m : Int) (b : List Int) (hp : a.length < 4611686018427387904 ∧ True) : evF E_idx_badRow1 (a.length + 2) Tryz.f80 [.lst (.int .i64) a, .clo 48 [.vptr [.int .i64 m, .lst (.int .i64) b] 0]] [] = some (.int .i64 (firstI (badRow m) a 0), []) := by
  conv => lhs; whnf
  refine (lp_idx_badRow1 a m b hp.2 hp.1 _ a.length _ 0 0 rfl (by omega) rfl (by omega)).trans ?_
  simp only [List.drop_zero]
  split
  · conv => lhs; whnf
    rfl
  · rename_i he
    conv => lhs; whnf
    have : firstI (badRow m) a 0 = -1 := firstI_none (badRow m) a 0 (by simpa using he)
    rw [this]
theorem ok_idx_badRow1 : FnOk Tryz.prog 80 K_idx_badRow1 := by
  refine fn_ok (fn := Tryz.f80) (k := Tryz.f80.ntmps) (E := E_idx_badRow1) (facts_of (List.forall_mem_cons.2 ⟨ok_badRow1, List.forall_mem_nil _⟩)) (by kernel_rfl) rfl (by decide +kernel) (by decide +kernel) ?_
  intro avs hin r h
  unfold K_idx_badRow1 at h
  split at h
  · obtain ⟨hp, rfl⟩ := gd_o h
    exact ⟨_, ev_idx_badRow1 _ _ _ hp, rfl⟩
  · cases h

/- slices.ContainsFunc[[]int,int] -/
def K_has_badRow1 : List AV → List Ob → Option (AV × List Ob)
  | [.lst (.int .i64) a, .clo 48 [.vptr [.int .i64 m, .lst (.int .i64) b] 0]], [] => gd (a.length < 4611686018427387904 ∧ True) (.bool (a.any (badRow m)), [])
  | _, _ => none
@[reducible] def E_has_badRow1 : Env := mkE (tb [(80, K_idx_badRow1)]) (fun f => false) (fun r => ([], []))
theorem ev_has_badRow1 (a : List Int) (m : Int) (b : List Int) (hp : a.length < 4611686018427387904 ∧ True) : evF E_has_badRow1 (1) Tryz.f47 [.lst (.int .i64) a, .clo 48 [.vptr [.int .i64 m, .lst (.int .i64) b] 0]] [] = some (.bool (a.any (badRow m)), []) := by
  conv => lhs; whnf
  conv => lhs; arg 1; whnf
  refine bnd_g (by exact hp) ?_
  conv => lhs; whnf
  refine okB ?_
  exact firstI_iff (badRow m) a 0 (by omega)
theorem ok_has_badRow1 : FnOk Tryz.prog 47 K_has_badRow1 := by
  refine fn_ok (fn := Tryz.f47) (k := Tryz.f47.ntmps) (E := E_has_badRow1) (facts_of (List.forall_mem_cons.2 ⟨ok_idx_badRow1, List.forall_mem_nil _⟩)) (by kernel_rfl) rfl (by decide +kernel) (by decide +kernel) ?_
  intro avs hin r h
  unfold K_has_badRow1 at h
  split at h
  · obtain ⟨hp, rfl⟩ := gd_o h
    exact ⟨_, ev_has_badRow1 _ _ _ hp, rfl⟩
  · cases h

/- impl.IsContext -/
def K_implIsContext : List AV → List Ob → Option (AV × List Ob)
  | [.agg [.int .i64 m, .lst (.int .i64) a]], [] => gd (a.length < 4611686018427387904) (.bool (isCtx m a), [])
  | _, _ => none
@[reducible] def E_implIsContext : Env := mkE (tb [(46, K_within), (47, K_has_badRow1)]) (fun f => false) (fun r => ([], []))
theorem ev_implIsContext (m : Int) (a : List Int) (hp : a.length < 4611686018427387904) : evF E_implIsContext (1) Tryz.f20 [.agg [.int .i64 m, .lst (.int .i64) a]] [] = some (.bool (isCtx m a), []) := by
  conv => lhs; whnf
  conv => lhs; arg 1; whnf
  refine bnd_g (by exact True.intro) ?_
  conv => lhs; whnf
  refine br_c (fun h => ?_) (fun h => ?_)
  · conv => lhs; whnf
    repeat ((first | with_reducible apply br_tt | with_reducible apply br_ff | with_reducible apply br_nf | with_reducible apply br_nt | with_reducible refine br_d ?_ (by kernel_rfl) | with_reducible apply br_t h | with_reducible apply br_f h); conv => lhs; whnf)
    refine br_c (fun h2 => ?_) (fun h2 => ?_)
    · conv => lhs; whnf
      repeat ((first | with_reducible apply br_tt | with_reducible apply br_ff | with_reducible apply br_nf | with_reducible apply br_nt | with_reducible refine br_d ?_ (by kernel_rfl) | with_reducible apply br_t h | with_reducible apply br_f h | with_reducible apply br_t h2 | with_reducible apply br_f h2); conv => lhs; whnf)
      conv => lhs; arg 1; whnf
      refine bnd_g (by exact ⟨hp, True.intro⟩) ?_
      conv => lhs; whnf
      repeat ((first | with_reducible apply br_tt | with_reducible apply br_ff | with_reducible apply br_nf | with_reducible apply br_nt | with_reducible refine br_d ?_ (by kernel_rfl) | with_reducible apply br_t h | with_reducible apply br_f h | with_reducible apply br_t h2 | with_reducible apply br_f h2); conv => lhs; whnf)
      refine okB ?_
      unfold isCtx
      have := ofd h2
      rw [any_badRow, h, dt (by omega), Bool.true_and, Bool.true_and]
    · conv => lhs; whnf
      repeat ((first | with_reducible apply br_tt | with_reducible apply br_ff | with_reducible apply br_nf | with_reducible apply br_nt | with_reducible refine br_d ?_ (by kernel_rfl) | with_reducible apply br_t h | with_reducible apply br_f h | with_reducible apply br_t h2 | with_reducible apply br_f h2); conv => lhs; whnf)
      refine okB ?_
      unfold isCtx
      have := ofn h2
      rw [h, df (by omega), Bool.true_and, Bool.false_and]
  · conv => lhs; whnf
    repeat ((first | with_reducible apply br_tt | with_reducible apply br_ff | with_reducible apply br_nf | with_reducible apply br_nt | with_reducible refine br_d ?_ (by kernel_rfl) | with_reducible apply br_t h | with_reducible apply br_f h); conv => lhs; whnf)
    refine okB ?_
    unfold isCtx
    rw [h, Bool.false_and, Bool.false_and]
theorem ok_implIsContext : FnOk Tryz.prog 20 K_implIsContext := by
  refine fn_ok (fn := Tryz.f20) (k := Tryz.f20.ntmps) (E := E_implIsContext) (facts_of (List.forall_mem_cons.2 ⟨ok_within, List.forall_mem_cons.2 ⟨ok_has_badRow1, List.forall_mem_nil _⟩⟩)) (by kernel_rfl) rfl (by decide +kernel) (by decide +kernel) ?_
  intro avs hin r h
  unfold K_implIsContext at h
  split at h
  · obtain ⟨hp, rfl⟩ := gd_o h
    exact ⟨_, ev_implIsContext _ _ hp, rfl⟩
  · cases h

/- impl.isAnySet -/
def K_isAnySet : List AV → List Ob → Option (AV × List Ob)
  | [.int .i64 s], [] => gd (True) (.bool (isSet 8 s), [])
  | _, _ => none
@[reducible] def E_isAnySet : Env := mkE (tb [(49, K_implIsSet)]) (fun f => false) (fun r => ([], []))
theorem ev_isAnySet (s : Int) (hp : True) : evF E_isAnySet (1) Tryz.f99 [.int .i64 s] [] = some (.bool (isSet 8 s), []) := by
  conv => lhs; whnf
  conv => lhs; arg 1; whnf
  refine bnd_g (by exact True.intro) ?_
  conv => lhs; whnf
theorem ok_isAnySet : FnOk Tryz.prog 99 K_isAnySet := by
  refine fn_ok (fn := Tryz.f99) (k := Tryz.f99.ntmps) (E := E_isAnySet) (facts_of (List.forall_mem_cons.2 ⟨ok_implIsSet, List.forall_mem_nil _⟩)) (by kernel_rfl) rfl (by decide +kernel) (by decide +kernel) ?_
  intro avs hin r h
  unfold K_isAnySet at h
  split at h
  · obtain ⟨hp, rfl⟩ := gd_o h
    exact ⟨_, ev_isAnySet _ hp, rfl⟩
  · cases h

/- impl.SortLectic$1 -/
def K_badSet1 : List AV → List Ob → Option (AV × List Ob)
  | [.int .i64 x], [] => gd (True) (.bool (badRow 8 x), [])
  | _, _ => none
@[reducible] def E_badSet1 : Env := mkE (tb [(99, K_isAnySet)]) (fun f => false) (fun r => ([], []))
theorem ev_badSet1 (x : Int) (hp : True) : evF E_badSet1 (1) Tryz.f98 [.int .i64 x] [] = some (.bool (badRow 8 x), []) := by
  conv => lhs; whnf
  conv => lhs; arg 1; whnf
  refine bnd_g (by exact True.intro) ?_
  conv => lhs; whnf
  rfl
theorem ok_badSet1 : FnOk Tryz.prog 98 K_badSet1 := by
  refine fn_ok (fn := Tryz.f98) (k := Tryz.f98.ntmps) (E := E_badSet1) (facts_of (List.forall_mem_cons.2 ⟨ok_isAnySet, List.forall_mem_nil _⟩)) (by kernel_rfl) rfl (by decide +kernel) (by decide +kernel) ?_
  intro avs hin r h
  unfold K_badSet1 at h
  split at h
  · obtain ⟨hp, rfl⟩ := gd_o h
    exact ⟨_, ev_badSet1 _ hp, rfl⟩
  · cases h

/- slices.IndexFunc[[]int,int] -/
def K_idx_badSet1 : List AV → List Ob → Option (AV × List Ob)
  | [.lst (.int .i64) a, .clo 98 []], [] => gd (a.length < 4611686018427387904 ∧ True) (.int .i64 (firstI (badRow 8) a 0), [])
  | _, _ => none
@[reducible] def E_idx_badSet1 : Env := mkE (tb [(98, K_badSet1)]) (fun f => false) (fun r => bif r == 2 then ([0, 1, 7, 8], [4]) else ([], []))
theorem lp_idx_badSet1 (a : List Int)  (ht : True) (ha : a.length < 4611686018427387904) (k : AX → S → Option (AV × List Ob)) (d : Nat) : ∀ (n i : Nat) (x : Int), a.length - i = d → i ≤ a.length → x = i → d < n →
    lpAt E_idx_badSet1 (lp E_idx_badSet1 0 n) 0 (loopAt Tryz.f80 0) (mkS [0, 1, 7, 8] [.lst (.int .i64) a, .clo 98 [], .int .i64 a.length, .int .i64 x] []) k =
      if (a.drop i).any (badRow 8) then k .ret (mkS [4] [.int .i64 (firstI (badRow 8) (a.drop i) i)] []) else k (.exit 0) (mkS [4] [.any] []) := by
  induction d with
  | zero =>
    intro n i x hd hi hx hn
    subst hx
    rw [lpAt_def]
    conv => lhs; whnf
    refine br_f (df (by omega)) ?_
    conv => lhs; whnf
    rw [List.drop_of_length_le (by omega)]
    simp
  | succ d ih =>
    intro n i x hd hi hx hn
    obtain ⟨n, rfl⟩ : ∃ m, n = m + 1 := ⟨n - 1, by omega⟩
    subst hx
    rw [lpAt_def]
    conv => lhs; whnf
    refine br_t (dt (by omega)) ?_
    conv => lhs; whnf
    refine br_t (dt2 (by omega) (by omega)) ?_
    conv => lhs; whnf
    conv => lhs; arg 1; whnf
    refine bnd_g (by exact True.intro) ?_
    conv => lhs; whnf
    rw [getD_drop (l := a) (i := i) (d := 0) (by omega)]
    refine br_c (fun h => ?_) (fun h => ?_)
    · have h' : (badRow 8) (a.getD i 0) = true := h
      conv => lhs; whnf
      rw [if_pos (by rw [List.any_cons, h', Bool.true_or])]
      rw [firstI, h', cond_true]
    · have h' : (badRow 8) (a.getD i 0) = false := h
      conv => lhs; whnf
      rw [ih n (i + 1) _ (by omega) (by omega) (by rw [wrap64 (by omega) (by omega)]; simp) (by omega)]
      rw [List.any_cons, h', Bool.false_or, firstI, h', cond_false]
      rfl
theorem ev_idx_badSet1 (a : List Int) (hp : a.length < 4611686018427387904 ∧ True) : evF E_idx_badSet1 (a.length + 2) Tryz.f80 [.lst (.int .i64) a, .clo 98 []] [] = some (.int .i64 (firstI (badRow 8) a 0), []) := by
  conv => lhs; whnf
  refine (lp_idx_badSet1 a  hp.2 hp.1 _ a.length _ 0 0 rfl (by omega) rfl (by omega)).trans ?_
  simp only [List.drop_zero]
  split
  · conv => lhs; whnf
    rfl
  · rename_i he
    conv => lhs; whnf
    have : firstI (badRow 8) a 0 = -1 := firstI_none (badRow 8) a 0 (by simpa using he)
    rw [this]
theorem ok_idx_badSet1 : FnOk Tryz.prog 80 K_idx_badSet1 := by
  refine fn_ok (fn := Tryz.f80) (k := Tryz.f80.ntmps) (E := E_idx_badSet1) (facts_of (List.forall_mem_cons.2 ⟨ok_badSet1, List.forall_mem_nil _⟩)) (by kernel_rfl) rfl (by decide +kernel) (by decide +kernel) ?_
  intro avs hin r h
  unfold K_idx_badSet1 at h
  split at h
  · obtain ⟨hp, rfl⟩ := gd_o h
    exact ⟨_, ev_idx_badSet1 _ hp, rfl⟩
  · cases h

/- slices.ContainsFunc[[]int,int] -/
def K_has_badSet1 : List AV → List Ob → Option (AV × List Ob)
  | [.lst (.int .i64) a, .clo 98 []], [] => gd (a.length < 4611686018427387904 ∧ True) (.bool (a.any (badRow 8)), [])
  | _, _ => none
@[reducible] def E_has_badSet1 : Env := mkE (tb [(80, K_idx_badSet1)]) (fun f => false) (fun r => ([], []))
theorem ev_has_badSet1 (a : List Int) (hp : a.length < 4611686018427387904 ∧ True) : evF E_has_badSet1 (1) Tryz.f47 [.lst (.int .i64) a, .clo 98 []] [] = some (.bool (a.any (badRow 8)), []) := by
  conv => lhs; whnf
  conv => lhs; arg 1; whnf
  refine bnd_g (by exact hp) ?_
  conv => lhs; whnf
  refine okB ?_
  exact firstI_iff (badRow 8) a 0 (by omega)
theorem ok_has_badSet1 : FnOk Tryz.prog 47 K_has_badSet1 := by
  refine fn_ok (fn := Tryz.f47) (k := Tryz.f47.ntmps) (E := E_has_badSet1) (facts_of (List.forall_mem_cons.2 ⟨ok_idx_badSet1, List.forall_mem_nil _⟩)) (by kernel_rfl) rfl (by decide +kernel) (by decide +kernel) ?_
  intro avs hin r h
  unfold K_has_badSet1 at h
  split at h
  · obtain ⟨hp, rfl⟩ := gd_o h
    exact ⟨_, ev_has_badSet1 _ hp, rfl⟩
  · cases h

/- slices.Clone[[]int,int] -/
def K_cloneInt : List AV → List Ob → Option (AV × List Ob)
  | [.lst (.int .i64) a], [] => gd (a.length ≤ 1048576) (.own 0, [.row 3 (.int .i64) a])
  | _, _ => none
@[reducible] def E_cloneInt : Env := mkE (tb []) (fun f => false) (fun r => ([], []))
theorem ev_cloneInt (a : List Int) (hp : a.length ≤ 1048576) : evF E_cloneInt (1) Tryz.f24 [.lst (.int .i64) a] [] = some (.own 0, [.row 3 (.int .i64) a]) := by
  conv => lhs; whnf
  refine br_c (fun h => ?_) (fun h => ?_)
  · conv => lhs; whnf
    refine br_f (by rfl) ?_
    conv => lhs; whnf
    refine br_t (dt (by simp [room]; omega)) ?_
    conv => lhs; whnf
    simp
  · have h0 : a = [] := by
      have := ofn h
      cases a
      · rfl
      · simp at this
    subst h0
    conv => lhs; whnf
    refine both_i ?_ ?_
    · conv => lhs; whnf
    · conv => lhs; whnf
      refine br_t (dt (by simp [room])) ?_
      conv => lhs; whnf
      rfl
theorem ok_cloneInt : FnOk Tryz.prog 24 K_cloneInt := by
  refine fn_ok (fn := Tryz.f24) (k := Tryz.f24.ntmps) (E := E_cloneInt) (facts_of (List.forall_mem_nil _)) (by kernel_rfl) rfl (by decide +kernel) (by decide +kernel) ?_
  intro avs hin r h
  unfold K_cloneInt at h
  split at h
  · obtain ⟨hp, rfl⟩ := gd_o h
    exact ⟨_, ev_cloneInt _ hp, rfl⟩
  · cases h

/- math/bits.TrailingZeros64 -/
def K_tz64 : List AV → List Ob → Option (AV × List Ob)
  | [.int .u64 s], [] => gd (0 ≤ s ∧ s ≤ 255) (.int .i64 (tzF s), [])
  | _, _ => none
@[reducible] def E_tz64 : Env := mkE (tb []) (fun f => false) (fun r => ([], []))
theorem ev_tz64 (s : Int) (hp : 0 ≤ s ∧ s ≤ 255) : evF E_tz64 (1) Tryz.f127 [.int .u64 s] [] = some (.int .i64 (tzF s), []) := by
  have hn : ∃ n : Fin 256, s = ((n.val : Nat) : Int) := ⟨⟨s.toNat, by omega⟩, by dsimp only; omega⟩
  clear hp
  conv => lhs; whnf
  refine br_c (fun h => ?_) (fun h => ?_)
  · have h : s = 0 := by simpa using h
    subst h
    conv => lhs; whnf
    rfl
  · conv => lhs; whnf
    refine br_f (df (by omega)) ?_
    conv => lhs; whnf
    refine br_t (by clear h; obtain ⟨n, rfl⟩ := hn; revert n; decide +kernel) ?_
    conv => lhs; whnf
    refine br_t (by clear h; obtain ⟨n, rfl⟩ := hn; revert n; decide +kernel) ?_
    conv => lhs; whnf
    refine okI ?_
    have h : ¬ s = 0 := by simpa using h
    obtain ⟨n, rfl⟩ := hn
    revert n
    decide +kernel
theorem ok_tz64 : FnOk Tryz.prog 127 K_tz64 := by
  refine fn_ok (fn := Tryz.f127) (k := Tryz.f127.ntmps) (E := E_tz64) (facts_of (List.forall_mem_nil _)) (by kernel_rfl) rfl (by decide +kernel) (by decide +kernel) ?_
  intro avs hin r h
  unfold K_tz64 at h
  split at h
  · obtain ⟨hp, rfl⟩ := gd_o h
    exact ⟨_, ev_tz64 _ hp, rfl⟩
  · cases h

/- math/bits.TrailingZeros -/
def K_tz : List AV → List Ob → Option (AV × List Ob)
  | [.int .u64 s], [] => gd (0 ≤ s ∧ s ≤ 255) (.int .i64 (tzF s), [])
  | _, _ => none
@[reducible] def E_tz : Env := mkE (tb [(127, K_tz64)]) (fun f => false) (fun r => ([], []))
theorem ev_tz (s : Int) (hp : 0 ≤ s ∧ s ≤ 255) : evF E_tz (1) Tryz.f114 [.int .u64 s] [] = some (.int .i64 (tzF s), []) := by
  conv => lhs; whnf
  repeat ((first | with_reducible apply br_tt | with_reducible apply br_ff | with_reducible apply br_nf | with_reducible apply br_nt | with_reducible refine br_d ?_ (by kernel_rfl)); conv => lhs; whnf)
  conv => lhs; arg 1; whnf
  refine bnd_g (by exact hp) ?_
  conv => lhs; whnf
theorem ok_tz : FnOk Tryz.prog 114 K_tz := by
  refine fn_ok (fn := Tryz.f114) (k := Tryz.f114.ntmps) (E := E_tz) (facts_of (List.forall_mem_cons.2 ⟨ok_tz64, List.forall_mem_nil _⟩)) (by kernel_rfl) rfl (by decide +kernel) (by decide +kernel) ?_
  intro avs hin r h
  unfold K_tz at h
  split at h
  · obtain ⟨hp, rfl⟩ := gd_o h
    exact ⟨_, ev_tz _ hp, rfl⟩
  · cases h

/- impl.HasElement -/
def K_hasElement : List AV → List Ob → Option (AV × List Ob)
  | [.int .i64 s, .int .i64 e], [] => gd (True) (.bool (hasE s e), [])
  | _, _ => none
@[reducible] def E_hasElement : Env := mkE (tb [(99, K_isAnySet), (46, K_within)]) (fun f => false) (fun r => ([], []))
theorem ev_hasElement (s e : Int) (hp : True) : evF E_hasElement (1) Tryz.f105 [.int .i64 s, .int .i64 e] [] = some (.bool (hasE s e), []) := by
  conv => lhs; whnf
  conv => lhs; arg 1; whnf
  refine bnd_g (by exact True.intro) ?_
  conv => lhs; whnf
  refine br_c (fun h => ?_) (fun h => ?_)
  · conv => lhs; whnf
    repeat ((first | with_reducible apply br_tt | with_reducible apply br_ff | with_reducible apply br_nf | with_reducible apply br_nt | with_reducible refine br_d ?_ (by kernel_rfl) | with_reducible apply br_t h | with_reducible apply br_f h); conv => lhs; whnf)
    conv => lhs; arg 1; whnf
    refine bnd_g (by exact True.intro) ?_
    conv => lhs; whnf
    repeat ((first | with_reducible apply br_tt | with_reducible apply br_ff | with_reducible apply br_nf | with_reducible apply br_nt | with_reducible refine br_d ?_ (by kernel_rfl) | with_reducible apply br_t h | with_reducible apply br_f h); conv => lhs; whnf)
    refine br_c (fun h2 => ?_) (fun h2 => ?_)
    · conv => lhs; whnf
      repeat ((first | with_reducible apply br_tt | with_reducible apply br_ff | with_reducible apply br_nf | with_reducible apply br_nt | with_reducible refine br_d ?_ (by kernel_rfl) | with_reducible apply br_t h | with_reducible apply br_f h | with_reducible apply br_t h2 | with_reducible apply br_f h2); conv => lhs; whnf)
      have h2' := ofd h2
      refine br_f (df (by omega)) ?_
      conv => lhs; whnf
      repeat ((first | with_reducible apply br_tt | with_reducible apply br_ff | with_reducible apply br_nf | with_reducible apply br_nt | with_reducible refine br_d ?_ (by kernel_rfl) | with_reducible apply br_t h | with_reducible apply br_f h | with_reducible apply br_t h2 | with_reducible apply br_f h2); conv => lhs; whnf)
      refine okB ?_
      have hs := isSet_le h
      unfold hasE
      rw [h, h2, Bool.true_and, Bool.true_and]
      exact bit_of (by omega) (by omega) (by omega) (by omega)
    · conv => lhs; whnf
      repeat ((first | with_reducible apply br_tt | with_reducible apply br_ff | with_reducible apply br_nf | with_reducible apply br_nt | with_reducible refine br_d ?_ (by kernel_rfl) | with_reducible apply br_t h | with_reducible apply br_f h | with_reducible apply br_t h2 | with_reducible apply br_f h2); conv => lhs; whnf)
      refine okB ?_
      unfold hasE
      rw [h, h2]
      rfl
  · conv => lhs; whnf
    repeat ((first | with_reducible apply br_tt | with_reducible apply br_ff | with_reducible apply br_nf | with_reducible apply br_nt | with_reducible refine br_d ?_ (by kernel_rfl) | with_reducible apply br_t h | with_reducible apply br_f h); conv => lhs; whnf)
    refine okB ?_
    unfold hasE
    rw [h]
    rfl
theorem ok_hasElement : FnOk Tryz.prog 105 K_hasElement := by
  refine fn_ok (fn := Tryz.f105) (k := Tryz.f105.ntmps) (E := E_hasElement) (facts_of (List.forall_mem_cons.2 ⟨ok_isAnySet, List.forall_mem_cons.2 ⟨ok_within, List.forall_mem_nil _⟩⟩)) (by kernel_rfl) rfl (by decide +kernel) (by decide +kernel) ?_
  intro avs hin r h
  unfold K_hasElement at h
  split at h
  · obtain ⟨hp, rfl⟩ := gd_o h
    exact ⟨_, ev_hasElement _ _ hp, rfl⟩
  · cases h

/- impl.BeforeSet -/
def K_beforeSet : List AV → List Ob → Option (AV × List Ob)
  | [.int .i64 s, .int .i64 t], [] => gd (True) (.bool (lecB s t), [])
  | _, _ => none
@[reducible] def E_beforeSet : Env := mkE (tb [(99, K_isAnySet), (114, K_tz), (105, K_hasElement)]) (fun f => false) (fun r => ([], []))
theorem ev_beforeSet (s t : Int) (hp : True) : evF E_beforeSet (1) Tryz.f102 [.int .i64 s, .int .i64 t] [] = some (.bool (lecB s t), []) := by
  conv => lhs; whnf
  conv => lhs; arg 1; whnf
  refine bnd_g (by exact True.intro) ?_
  conv => lhs; whnf
  refine br_c (fun h => ?_) (fun h => ?_)
  · conv => lhs; whnf
    repeat ((first | with_reducible apply br_tt | with_reducible apply br_ff | with_reducible apply br_nf | with_reducible apply br_nt | with_reducible refine br_d ?_ (by kernel_rfl) | with_reducible apply br_t h | with_reducible apply br_f h); conv => lhs; whnf)
    refine okB ?_
    unfold lecB
    rw [bnt h]
    rfl
  · conv => lhs; whnf
    repeat ((first | with_reducible apply br_tt | with_reducible apply br_ff | with_reducible apply br_nf | with_reducible apply br_nt | with_reducible refine br_d ?_ (by kernel_rfl) | with_reducible apply br_t h | with_reducible apply br_f h); conv => lhs; whnf)
    conv => lhs; arg 1; whnf
    refine bnd_g (by exact True.intro) ?_
    conv => lhs; whnf
    repeat ((first | with_reducible apply br_tt | with_reducible apply br_ff | with_reducible apply br_nf | with_reducible apply br_nt | with_reducible refine br_d ?_ (by kernel_rfl) | with_reducible apply br_t h | with_reducible apply br_f h); conv => lhs; whnf)
    refine br_c (fun h2 => ?_) (fun h2 => ?_)
    · conv => lhs; whnf
      repeat ((first | with_reducible apply br_tt | with_reducible apply br_ff | with_reducible apply br_nf | with_reducible apply br_nt | with_reducible refine br_d ?_ (by kernel_rfl) | with_reducible apply br_t h2 | with_reducible apply br_f h2); conv => lhs; whnf)
      refine okB ?_
      unfold lecB
      rw [bnt h2, Bool.and_false]
      rfl
    · have hs := isSet_le (bnf h)
      have ht := isSet_le (bnf h2)
      conv => lhs; whnf
      repeat ((first | with_reducible apply br_tt | with_reducible apply br_ff | with_reducible apply br_nf | with_reducible apply br_nt | with_reducible refine br_d ?_ (by kernel_rfl) | with_reducible apply br_t h2 | with_reducible apply br_f h2); conv => lhs; whnf)
      refine br_c (fun h3 => ?_) (fun h3 => ?_)
      · conv => lhs; whnf
        refine okB ?_
        have h3 : s = t := by simpa using h3
        subst h3
        unfold lecB lecN
        rw [bnf h, df (by simp)]
        rfl
      · have h3 : ¬ s = t := by simpa using h3
        obtain ⟨a, rfl⟩ : ∃ a : Nat, s = a := ⟨s.toNat, by omega⟩
        obtain ⟨b, rfl⟩ : ∃ b : Nat, t = b := ⟨t.toNat, by omega⟩
        have hx := bxor_nat (x := a) (y := b) (by omega) (by omega)
        have hlt : a ^^^ b < 2 ^ 8 := Nat.xor_lt_two_pow (by omega) (by omega)
        have hw : IntKind.u64.wrap (bxor (a : Int) (b : Int)) = ((a ^^^ b : Nat) : Int) := by
          rw [hx]
          simp [IntKind.wrap, IntKind.bits, IntKind.signed]
          omega
        conv => lhs; whnf
        conv => lhs; arg 1; whnf
        refine bnd_g (by (show 0 ≤ IntKind.u64.wrap (bxor (a : Int) (b : Int)) ∧ IntKind.u64.wrap (bxor (a : Int) (b : Int)) ≤ 255; rw [hw]; omega)) ?_
        conv => lhs; whnf
        conv => lhs; arg 1; whnf
        refine bnd_g (by exact True.intro) ?_
        conv => lhs; whnf
        refine okB ?_
        change hasE (b : Int) (tzF (IntKind.u64.wrap (bxor (a : Int) (b : Int)))) = _
        rw [hw]
        unfold lecB lecN tzF
        rw [bnf h, bnf h2]
        simp only [Int.toNat_natCast]
        rw [dt (show a ≠ b from fun e => h3 (by rw [e]))]
        unfold hasE
        have hz : ∀ n : Fin 256, n.val ≠ 0 → tzN n.val ≤ 7 := by decide +kernel
        have hne : a ^^^ b ≠ 0 := fun e => h3 (by rw [xor_zero e])
        have hz := hz ⟨a ^^^ b, by omega⟩ hne
        rw [bnf h2, dt (show 0 ≤ ((tzN (a ^^^ b) : Nat) : Int) ∧ ((tzN (a ^^^ b) : Nat) : Int) ≤ 7 by dsimp only at hz; omega)]
        rfl
theorem ok_beforeSet : FnOk Tryz.prog 102 K_beforeSet := by
  refine fn_ok (fn := Tryz.f102) (k := Tryz.f102.ntmps) (E := E_beforeSet) (facts_of (List.forall_mem_cons.2 ⟨ok_isAnySet, List.forall_mem_cons.2 ⟨ok_tz, List.forall_mem_cons.2 ⟨ok_hasElement, List.forall_mem_nil _⟩⟩⟩)) (by kernel_rfl) rfl (by decide +kernel) (by decide +kernel) ?_
  intro avs hin r h
  unfold K_beforeSet at h
  split at h
  · obtain ⟨hp, rfl⟩ := gd_o h
    exact ⟨_, ev_beforeSet _ _ hp, rfl⟩
  · cases h

/- impl.SortLectic$2 -/
def K_lecCmp : List AV → List Ob → Option (AV × List Ob)
  | [.int .i64 s, .int .i64 t], [] => gd (True) (.int .i64 (lecC s t), [])
  | _, _ => none
@[reducible] def E_lecCmp : Env := mkE (tb [(102, K_beforeSet)]) (fun f => false) (fun r => ([], []))
theorem ev_lecCmp (s t : Int) (hp : True) : evF E_lecCmp (1) Tryz.f101 [.int .i64 s, .int .i64 t] [] = some (.int .i64 (lecC s t), []) := by
  conv => lhs; whnf
  refine br_c (fun h => ?_) (fun h => ?_)
  · have h : s = t := by simpa using h
    conv => lhs; whnf
    unfold lecC
    rw [if_pos h]
  · have h : ¬ s = t := by simpa using h
    conv => lhs; whnf
    conv => lhs; arg 1; whnf
    refine bnd_g (by exact True.intro) ?_
    conv => lhs; whnf
    refine br_c (fun h2 => ?_) (fun h2 => ?_)
    · conv => lhs; whnf
      unfold lecC
      rw [if_neg h, if_pos h2]
    · conv => lhs; whnf
      unfold lecC
      rw [if_neg h, if_neg (by rw [h2]; exact Bool.false_ne_true)]
theorem ok_lecCmp : FnOk Tryz.prog 101 K_lecCmp := by
  refine fn_ok (fn := Tryz.f101) (k := Tryz.f101.ntmps) (E := E_lecCmp) (facts_of (List.forall_mem_cons.2 ⟨ok_beforeSet, List.forall_mem_nil _⟩)) (by kernel_rfl) rfl (by decide +kernel) (by decide +kernel) ?_
  intro avs hin r h
  unfold K_lecCmp at h
  split at h
  · obtain ⟨hp, rfl⟩ := gd_o h
    exact ⟨_, ev_lecCmp _ _ hp, rfl⟩
  · cases h

def cfF (x y : Fin 64) : Int := lecC (x.val : Int) (y.val : Int)
def d0F (n : Nat) : Array (Fin 64) := ((List.range (2 ^ n)).map (Fin.ofNat 64)).toArray
def d1F (n : Nat) : Array (Fin 64) := ((lecL n).map (Fin.ofNat 64)).toArray
theorem ltF_all : ∀ x y : Fin 64, Go.Proofs.ltOf cfF x y = decide (brev 6 x.val < brev 6 y.val) := by decide +kernel
theorem brev_inj : ∀ x y : Fin 64, brev 6 x.val = brev 6 y.val → x = y := by decide +kernel
theorem swoF : Go.Sort.SWO (Go.Proofs.ltOf cfF) where
  irrefl x := by rw [ltF_all]; simp
  trans x y z h1 h2 := by rw [ltF_all] at *; simp at *; omega
  ntrans x y z h1 h2 := by rw [ltF_all] at *; simp at *; omega
theorem totF (x y : Fin 64) (h1 : Go.Proofs.ltOf cfF x y = false) (h2 : Go.Proofs.ltOf cfF y x = false) : x = y := by
  rw [ltF_all] at h1 h2
  simp at h1 h2
  exact brev_inj x y (by omega)
theorem dF_all : ∀ n : Fin 7, (d0F n.val).size = 2 ^ n.val ∧ (d1F n.val).size = 2 ^ n.val ∧ (d1F n.val).toList.isPerm (d0F n.val).toList = true ∧ intsF (d0F n.val) = rangeI n.val ∧ intsF (d1F n.val) = lecI n.val ∧
    (List.range (2 ^ n.val)).all (fun j => (List.range j).all fun i => !Go.Proofs.ltOf cfF (d1F n.val)[j]! (d1F n.val)[i]!) = true := by decide +kernel
def K_sortLec : List AV → List Ob → Option (AV × List Ob)
  | [.own 0, .clo 101 []], [.row 3 (.int .i64) a] => gd (a = rangeI (Nat.log2 a.length) ∧ Nat.log2 a.length ≤ 6) (.tup [], [.row 3 (.int .i64) (lecI (Nat.log2 a.length))])
  | _, _ => none
theorem ok_sortLec : FnOk Tryz.prog 100 K_sortLec := by
  refine ⟨⟨Tryz.f100, by kernel_rfl, by kernel_rfl, by kernel_rfl⟩, fun avs hin r hout hk C L vs hH hm hA => ?_⟩
  unfold K_sortLec at hk
  split at hk
  · rename_i a
    obtain ⟨⟨hp, hn⟩, he⟩ := gd_o hk
    cases he
    generalize Nat.log2 a.length = n at hp hn ⊢
    subst hp
    obtain ⟨s0, s1, hperm, i0, i1, hsort⟩ := dF_all ⟨n, by omega⟩
    simp only at s0 s1 hperm i0 i1 hsort
    have hpos : 0 < 2 ^ n := Nat.two_pow_pos n
    have h64 : 2 ^ n ≤ 2 ^ 6 := Nat.pow_le_pow_right (by omega) hn
    have eg : ∀ args w, (callFunc 101 args).run Tryz.prog w = .ok (.enter 101 args) w := enters_of Tryz.func101 (by kernel_rfl) rfl
    rw [← i0] at hH
    rw [← i1]
    refine sort_calls True.intro Tryz.sortLay eg ok_lecCmp cfF (fun x y => gd_s True.intro) swoF totF (d0 := d0F n) (d1 := d1F n) ⟨by rw [s1, s0], fun i hi => ?_, ?_⟩ (fun i j _ hij hj => ?_) (by rw [s0]; exact hpos) (by rw [s0]; omega) hH hA
    · rw [getElem!_neg _ i (by omega), getElem!_neg _ i (by omega)]
    · rw [← s1.trans s0.symm] 
      rw [Array.extract_size, s1.trans s0.symm, Array.extract_size]
      exact List.isPerm_iff.1 hperm
    · rw [s0] at hj
      have := List.all_eq_true.1 (List.all_eq_true.1 hsort j (List.mem_range.2 hj)) i (List.mem_range.2 hij)
      simpa using this
  · cases hk

/- slices.Compact[[]int,int] -/
def K_compactInt : List AV → List Ob → Option (AV × List Ob)
  | [.own 0], [.row 3 (.int .i64) a] => gd (a.length < 4611686018427387904 ∧ noAdj a = true) (.own 0, [.row 3 (.int .i64) a])
  | _, _ => none
@[reducible] def E_compactInt : Env := mkE (tb []) (fun f => false) (fun r => bif r == 4 then ([0, 3], [0, 2, 3]) else bif r == 9 then ([0, 3, 4, 5], [0, 3]) else ([], []))
theorem lp_compactInt (a : List Int) (ha : a.length < 4611686018427387904) (hn' : noAdj a = true) (k : AX → S → Option (AV × List Ob)) (d : Nat) : ∀ (n i : Nat) (x : Int), a.length - i = d → i ≤ a.length → 1 ≤ i → x = i → d < n →
    lpAt E_compactInt (lp E_compactInt 1 n) 1 (loopAt Tryz.f103 0) (mkS [0, 3] [.own 0, .int .i64 x] [some (.row 3 (.int .i64) a)]) k =
      k (.exit 0) (mkS [0, 2, 3] [.own 0, .any, .int .i64 a.length] [some (.row 3 (.int .i64) a)]) := by
  induction d with
  | zero =>
    intro n i x hd hi h1 hx hn
    subst hx
    rw [lpAt_def]
    conv => lhs; whnf
    refine br_f (df (by omega)) ?_
    conv => lhs; whnf
    have : i = a.length := by omega
    rw [this]
  | succ d ih =>
    intro n i x hd hi h1 hx hn
    obtain ⟨n, rfl⟩ : ∃ m, n = m + 1 := ⟨n - 1, by omega⟩
    subst hx
    obtain ⟨j, rfl⟩ : ∃ j, i = j + 1 := ⟨i - 1, by omega⟩
    have hw : IntKind.i64.wrap (((j + 1 : Nat) : Int) - 1) = (j : Int) := by rw [wrap64 (by omega) (by omega)]; omega
    have hne := noAdj_get a hn' j (by omega)
    rw [lpAt_def]
    conv => lhs; whnf
    refine br_t (dt (by omega)) ?_
    conv => lhs; whnf
    refine br_t (dt2 (by omega) (by omega)) ?_
    conv => lhs; whnf
    refine br_t (dt (by omega)) ?_
    conv => lhs; whnf
    refine br_t (dt2 (by rw [hw]; omega) (by rw [hw]; change (j : Int) < (a.length : Int); omega)) ?_
    conv => lhs; whnf
    refine br_t (dt (by rw [hw]; change (j : Int).toNat < a.length; omega)) ?_
    conv => lhs; whnf
    repeat ((first | with_reducible apply br_tt | with_reducible apply br_ff | with_reducible apply br_nf | with_reducible apply br_nt | with_reducible refine br_d ?_ (by kernel_rfl)); conv => lhs; whnf)
    refine br_f (by rw [hw]; simpa using hne) ?_
    conv => lhs; whnf
    rw [ih n (j + 1 + 1) _ (by omega) (by omega) (by omega) (by rw [wrap64 (by omega) (by omega)]; simp) (by omega)]
theorem ev_compactInt (a : List Int) (hp : a.length < 4611686018427387904 ∧ noAdj a = true) : evF E_compactInt (a.length + 2) Tryz.f103 [.own 0] [.row 3 (.int .i64) a] = some (.own 0, [.row 3 (.int .i64) a]) := by
  conv => lhs; whnf
  refine br_c (fun h => ?_) (fun h => ?_)
  · conv => lhs; whnf
  · have h := ofn h
    conv => lhs; whnf
    refine (lp_compactInt a hp.1 hp.2 _ (a.length - 1) _ 1 1 rfl (by omega) (by omega) rfl (by omega)).trans ?_
    conv => lhs; whnf
theorem ok_compactInt : FnOk Tryz.prog 103 K_compactInt := by
  refine fn_ok (fn := Tryz.f103) (k := Tryz.f103.ntmps) (E := E_compactInt) (facts_of (List.forall_mem_nil _)) (by kernel_rfl) rfl (by decide +kernel) (by decide +kernel) ?_
  intro avs hin r h
  unfold K_compactInt at h
  split at h
  · obtain ⟨hp, rfl⟩ := gd_o h
    exact ⟨_, ev_compactInt _ hp, rfl⟩
  · cases h

/- impl.SortLectic -/
def K_sortLectic : List AV → List Ob → Option (AV × List Ob)
  | [.lst (.int .i64) a], [] => gd (a = rangeI (Nat.log2 a.length) ∧ Nat.log2 a.length ≤ 6) (.own 0, [.row 3 (.int .i64) (lecI (Nat.log2 a.length))])
  | _, _ => none
@[reducible] def E_sortLectic : Env := mkE (tb [(47, K_has_badSet1), (24, K_cloneInt), (100, K_sortLec), (103, K_compactInt)]) (fun f => [100, 103].contains f) (fun r => ([], []))
theorem ev_sortLectic (a : List Int) (hp : a = rangeI (Nat.log2 a.length) ∧ Nat.log2 a.length ≤ 6) : evF E_sortLectic (1) Tryz.f74 [.lst (.int .i64) a] [] = some (.own 0, [.row 3 (.int .i64) (lecI (Nat.log2 a.length))]) := by
  have hp0 := hp
  obtain ⟨hp, hn⟩ := hp
  obtain ⟨h1, h2, h3, h4, h5⟩ := lec_all ⟨Nat.log2 a.length, by omega⟩
  simp only at h1 h2 h3 h4 h5
  have hpw := pow64 hn
  rw [← hp] at h3 h5
  conv => lhs; whnf
  conv => lhs; arg 1; whnf
  refine bnd_g (by exact ⟨by omega, True.intro⟩) ?_
  conv => lhs; whnf
  refine br_f (by exact h5) ?_
  conv => lhs; whnf
  conv => lhs; arg 1; whnf
  refine bnd_g (by omega) ?_
  conv => lhs; whnf
  conv => lhs; arg 1; whnf
  refine bnd_g (by exact hp0) ?_
  conv => lhs; whnf
  conv => lhs; arg 1; whnf
  refine bnd_g (by exact ⟨by rw [h2]; omega, h1⟩) ?_
  conv => lhs; whnf
theorem ok_sortLectic : FnOk Tryz.prog 74 K_sortLectic := by
  refine fn_ok (fn := Tryz.f74) (k := Tryz.f74.ntmps) (E := E_sortLectic) (facts_of (List.forall_mem_cons.2 ⟨ok_has_badSet1, List.forall_mem_cons.2 ⟨ok_cloneInt, List.forall_mem_cons.2 ⟨ok_sortLec, List.forall_mem_cons.2 ⟨ok_compactInt, List.forall_mem_nil _⟩⟩⟩⟩)) (by kernel_rfl) rfl (by decide +kernel) (by decide +kernel) ?_
  intro avs hin r h
  unfold K_sortLectic at h
  split at h
  · obtain ⟨hp, rfl⟩ := gd_o h
    exact ⟨_, ev_sortLectic _ hp, rfl⟩
  · cases h

/- impl.allSets -/
def K_allSets : List AV → List Ob → Option (AV × List Ob)
  | [.int .i64 n], [] => gd (0 ≤ n ∧ n ≤ 6) (.own 0, [.row 3 (.int .i64) (lecI n.toNat)])
  | _, _ => none
@[reducible] def E_allSets : Env := mkE (tb [(74, K_sortLectic)]) (fun f => false) (fun r => bif r == 3 then ([3, 7, 8], [3]) else ([], []))
theorem lp_allSets (N : Nat) (hN : N ≤ 64) (k : AX → S → Option (AV × List Ob)) (d : Nat) : ∀ (n i : Nat) (x : Int), N - i = d → i ≤ N → x = i → d < n →
    lpAt E_allSets (lp E_allSets 0 n) 0 (loopAt Tryz.f43 0) (mkS [3, 7, 8] [.own 0, .int .i64 (N : Int), .int .i64 x] [some (.row 3 (.int .i64) ((List.range i).map fun (x : Nat) => (x : Int)))]) k =
      k (.exit 0) (mkS [3] [.own 0] [some (.row 3 (.int .i64) ((List.range N).map fun (x : Nat) => (x : Int)))]) := by
  induction d with
  | zero =>
    intro n i x hd hi hx hn
    subst hx
    rw [lpAt_def]
    conv => lhs; whnf
    refine br_f (df (by omega)) ?_
    conv => lhs; whnf
    have : i = N := by omega
    rw [this]
  | succ d ih =>
    intro n i x hd hi hx hn
    obtain ⟨n, rfl⟩ : ∃ m, n = m + 1 := ⟨n - 1, by omega⟩
    subst hx
    rw [lpAt_def]
    conv => lhs; whnf
    refine br_t (dt (by omega)) ?_
    conv => lhs; whnf
    refine br_t (dt (by simp [room]; omega)) ?_
    conv => lhs; whnf
    have e := ih n (i + 1) _ (by omega) (by omega) rfl (by omega)
    rw [rangeI_snoc] at e
    rw [wrap64 (n := (i : Int) + 1) (by omega) (by omega)]
    exact e
theorem ev_allSets (n : Int) (hp : 0 ≤ n ∧ n ≤ 6) : evF E_allSets (100) Tryz.f43 [.int .i64 n] [] = some (.own 0, [.row 3 (.int .i64) (lecI n.toNat)]) := by
  obtain ⟨j, rfl⟩ : ∃ j : Nat, n = j := ⟨n.toNat, by omega⟩
  obtain ⟨h1, h2, h3, h4, h5⟩ := lec_all ⟨j, by omega⟩
  simp only at h1 h2 h3 h4 h5
  have hpw := pow64 (n := j) (by omega)
  conv => lhs; whnf
  refine br_f (df (by omega)) ?_
  conv => lhs; whnf
  rw [shl1 (by omega)]
  refine (lp_allSets (2 ^ j) hpw.2 _ (2 ^ j) _ 0 0 rfl (by omega) rfl (by change _ < 99; omega)).trans ?_
  have hlen : ((List.range (2 ^ j)).map fun (x : Nat) => (x : Int)).length = 2 ^ j := by simp
  conv => lhs; whnf
  conv => lhs; arg 1; whnf
  refine bnd_g (by (rw [hlen, h4]; exact ⟨rfl, by omega⟩)) ?_
  conv => lhs; whnf
  rw [hlen, h4]
  rfl
theorem ok_allSets : FnOk Tryz.prog 43 K_allSets := by
  refine fn_ok (fn := Tryz.f43) (k := Tryz.f43.ntmps) (E := E_allSets) (facts_of (List.forall_mem_cons.2 ⟨ok_sortLectic, List.forall_mem_nil _⟩)) (by kernel_rfl) rfl (by decide +kernel) (by decide +kernel) ?_
  intro avs hin r h
  unfold K_allSets at h
  split at h
  · obtain ⟨hp, rfl⟩ := gd_o h
    exact ⟨_, ev_allSets _ hp, rfl⟩
  · cases h

/- impl.areAttributes -/
def K_areAttributes : List AV → List Ob → Option (AV × List Ob)
  | [.agg [.int .i64 m, .lst (.int .i64) a], .int .i64 s], [] => gd (a.length < 4611686018427387904) (.bool (isCtx m a && isSet m s), [])
  | _, _ => none
@[reducible] def E_areAttributes : Env := mkE (tb [(20, K_implIsContext), (49, K_implIsSet)]) (fun f => false) (fun r => ([], []))
theorem ev_areAttributes (m : Int) (a : List Int) (s : Int) (hp : a.length < 4611686018427387904) : evF E_areAttributes (1) Tryz.f75 [.agg [.int .i64 m, .lst (.int .i64) a], .int .i64 s] [] = some (.bool (isCtx m a && isSet m s), []) := by
  conv => lhs; whnf
  conv => lhs; arg 1; whnf
  refine bnd_g (by exact hp) ?_
  conv => lhs; whnf
  refine br_c (fun h => ?_) (fun h => ?_)
  · conv => lhs; whnf
    repeat ((first | with_reducible apply br_tt | with_reducible apply br_ff | with_reducible apply br_nf | with_reducible apply br_nt | with_reducible refine br_d ?_ (by kernel_rfl) | with_reducible apply br_t h | with_reducible apply br_f h); conv => lhs; whnf)
    conv => lhs; arg 1; whnf
    refine bnd_g (by exact True.intro) ?_
    conv => lhs; whnf
    repeat ((first | with_reducible apply br_tt | with_reducible apply br_ff | with_reducible apply br_nf | with_reducible apply br_nt | with_reducible refine br_d ?_ (by kernel_rfl) | with_reducible apply br_t h | with_reducible apply br_f h); conv => lhs; whnf)
    rw [h, Bool.true_and]
  · conv => lhs; whnf
    repeat ((first | with_reducible apply br_tt | with_reducible apply br_ff | with_reducible apply br_nf | with_reducible apply br_nt | with_reducible refine br_d ?_ (by kernel_rfl) | with_reducible apply br_t h | with_reducible apply br_f h); conv => lhs; whnf)
    rw [h, Bool.false_and]
theorem ok_areAttributes : FnOk Tryz.prog 75 K_areAttributes := by
  refine fn_ok (fn := Tryz.f75) (k := Tryz.f75.ntmps) (E := E_areAttributes) (facts_of (List.forall_mem_cons.2 ⟨ok_implIsContext, List.forall_mem_cons.2 ⟨ok_implIsSet, List.forall_mem_nil _⟩⟩)) (by kernel_rfl) rfl (by decide +kernel) (by decide +kernel) ?_
  intro avs hin r h
  unfold K_areAttributes at h
  split at h
  · obtain ⟨hp, rfl⟩ := gd_o h
    exact ⟨_, ev_areAttributes _ _ _ hp, rfl⟩
  · cases h

def popF : Nat → Nat → Nat
  | 0, _ => 0
  | d + 1, s => s % 2 + popF d (s / 2)
def cntF (s : Int) : Int := if isSet 8 s then (popF 8 s.toNat : Int) else 0
theorem and1_all : ∀ s : Fin 256, band (s.val : Int) 1 = ((s.val % 2 : Nat) : Int) := by decide +kernel
theorem and1_of (s : Nat) (h : s < 256) : band (s : Int) 1 = ((s % 2 : Nat) : Int) := and1_all ⟨s, h⟩
theorem half_of (s : Nat) : ((s : Int).fdiv (2 ^ min (1 : Int).toNat IntKind.i64.bits)) = ((s / 2 : Nat) : Int) := by
  show (s : Int).fdiv 2 = _
  rw [Int.fdiv_eq_ediv_of_nonneg _ (by omega)]
  omega
theorem popF_le : ∀ (d s : Nat), popF d s ≤ d
  | 0, _ => Nat.le_refl 0
  | d + 1, s => by have := popF_le d (s / 2); unfold popF; omega
theorem bor_zero {q : Int} (h0 : 0 ≤ q) (h1 : q ≤ 255) : bor q 0 = q := by
  obtain ⟨a, rfl⟩ : ∃ a : Nat, q = a := ⟨q.toNat, by omega⟩
  rw [show (0 : Int) = ((0 : Nat) : Int) from rfl, bor_nat (by omega) (by omega), Nat.or_zero]
theorem colBit {s e : Int} (hs : 0 ≤ s ∧ s ≤ 255) (he : 0 ≤ e ∧ e ≤ 7) : band (s.fdiv (2 ^ min e.toNat IntKind.i64.bits)) 1 = bif s.toNat.testBit e.toNat then 1 else 0 := by
  obtain ⟨a, rfl⟩ : ∃ a : Nat, s = a := ⟨s.toNat, by omega⟩
  obtain ⟨b, rfl⟩ : ∃ b : Nat, e = b := ⟨e.toNat, by omega⟩
  have e1 : (a : Int).fdiv (2 ^ min (b : Int).toNat IntKind.i64.bits) = ((a / 2 ^ b : Nat) : Int) := by
    rw [Int.toNat_natCast, show min b IntKind.i64.bits = b from by simp [IntKind.bits]; omega]
    rw [Int.fdiv_eq_ediv_of_nonneg _ (by exact Int.pow_nonneg (by omega))]
    push_cast
    rfl
  have h : a / 2 ^ b < 256 := Nat.lt_of_le_of_lt (Nat.div_le_self _ _) (by omega)
  rw [e1, and1_of _ h, Int.toNat_natCast, Int.toNat_natCast, Nat.testBit_eq_decide_div_mod_eq]
  have h2 : a / 2 ^ b % 2 = 0 ∨ a / 2 ^ b % 2 = 1 := by omega
  rcases h2 with h2 | h2 <;> rw [h2] <;> rfl
theorem colStep {s e : Int} {i : Nat} {q : Int} (hs : 0 ≤ s ∧ s ≤ 255) (he : 0 ≤ e ∧ e ≤ 7) (hi : i < 8) (h0 : 0 ≤ q) (h1 : q ≤ 255) :
    bor q (IntKind.i64.wrap (band (s.fdiv (2 ^ min e.toNat IntKind.i64.bits)) 1 * 2 ^ min (i : Int).toNat IntKind.i64.bits)) = bif s.toNat.testBit e.toNat then bor q ((2 ^ i : Nat) : Int) else q := by
  rw [colBit hs he]
  cases s.toNat.testBit e.toNat
  · rw [cond_false, cond_false, Int.zero_mul]
    exact bor_zero h0 h1
  · rw [cond_true, cond_true, shl1 (by omega)]
/- impl.isAttribute -/
def K_isAttribute : List AV → List Ob → Option (AV × List Ob)
  | [.agg [.int .i64 m, .lst (.int .i64) b], .int .i64 e], [] => gd (b.length ≤ 1048576) (.bool (attrOk m b e), [])
  | _, _ => none
@[reducible] def E_isAttribute : Env := mkE (tb [(20, K_implIsContext), (46, K_within)]) (fun f => false) (fun r => ([], []))
theorem ev_isAttribute (m : Int) (b : List Int) (e : Int) (hp : b.length ≤ 1048576) : evF E_isAttribute (1) Tryz.f116 [.agg [.int .i64 m, .lst (.int .i64) b], .int .i64 e] [] = some (.bool (attrOk m b e), []) := by
  conv => lhs; whnf
  conv => lhs; arg 1; whnf
  refine bnd_g (by omega) ?_
  conv => lhs; whnf
  refine br_c (fun h => ?_) (fun h => ?_)
  · have hl := isCtx_len h
    conv => lhs; whnf
    repeat ((first | with_reducible apply br_tt | with_reducible apply br_ff | with_reducible apply br_nf | with_reducible apply br_nt | with_reducible refine br_d ?_ (by kernel_rfl) | with_reducible apply br_t h | with_reducible apply br_f h); conv => lhs; whnf)
    have hw : IntKind.i64.wrap (m - 1) = m - 1 := wrap64 (by omega) (by omega)
    conv => lhs; arg 1; whnf
    refine bnd_g (by exact True.intro) ?_
    conv => lhs; whnf
    repeat ((first | with_reducible apply br_tt | with_reducible apply br_ff | with_reducible apply br_nf | with_reducible apply br_nt | with_reducible refine br_d ?_ (by kernel_rfl) | with_reducible apply br_t h | with_reducible apply br_f h); conv => lhs; whnf)
    refine okB ?_
    unfold attrOk
    rw [h, Bool.true_and]
    exact decide_eq_decide.2 (by rw [hw])
  · conv => lhs; whnf
    repeat ((first | with_reducible apply br_tt | with_reducible apply br_ff | with_reducible apply br_nf | with_reducible apply br_nt | with_reducible refine br_d ?_ (by kernel_rfl) | with_reducible apply br_t h | with_reducible apply br_f h); conv => lhs; whnf)
    refine okB ?_
    unfold attrOk
    rw [h, Bool.false_and]
theorem ok_isAttribute : FnOk Tryz.prog 116 K_isAttribute := by
  refine fn_ok (fn := Tryz.f116) (k := Tryz.f116.ntmps) (E := E_isAttribute) (facts_of (List.forall_mem_cons.2 ⟨ok_implIsContext, List.forall_mem_cons.2 ⟨ok_within, List.forall_mem_nil _⟩⟩)) (by kernel_rfl) rfl (by decide +kernel) (by decide +kernel) ?_
  intro avs hin r h
  unfold K_isAttribute at h
  split at h
  · obtain ⟨hp, rfl⟩ := gd_o h
    exact ⟨_, ev_isAttribute _ _ _ hp, rfl⟩
  · cases h

/- impl.ColumnOf -/
def K_columnOf : List AV → List Ob → Option (AV × List Ob)
  | [.agg [.int .i64 m, .lst (.int .i64) b], .int .i64 e], [] => gd (b.length ≤ 1048576) (.int .i64 (bif attrOk m b e then colF b e else 0), [])
  | _, _ => none
@[reducible] def E_columnOf : Env := mkE (tb [(116, K_isAttribute)]) (fun f => false) (fun r => bif r == 5 then ([1, 5, 13, 14, 15], [5]) else ([], []))
theorem lp_columnOf (b : List Int) (m e : Int) (hb : b.length ≤ 8) (hs : ∀ x ∈ b, 0 ≤ x ∧ x ≤ 255) (he : 0 ≤ e ∧ e ≤ 7) (k : AX → S → Option (AV × List Ob)) (d : Nat) : ∀ (n i : Nat) (x q : Int), b.length - i = d → i ≤ b.length → x = i → d < n → 0 ≤ q → q ≤ 255 →
    lpAt E_columnOf (lp E_columnOf 0 n) 0 (loopAt Tryz.f106 0) (mkS [1, 5, 13, 14, 15] [.int .i64 e, .int .i64 q, .lst (.int .i64) b, .int .i64 b.length, .int .i64 x] []) k =
      k (.exit 0) (mkS [5] [.int .i64 (orF (bitAt b e) d i q)] []) := by
  induction d with
  | zero =>
    intro n i x q hd hi hx hn h0 h1
    subst hx
    rw [lpAt_def]
    conv => lhs; whnf
    refine br_f (df (by omega)) ?_
    conv => lhs; whnf
    rfl
  | succ d ih =>
    intro n i x q hd hi hx hn h0 h1
    obtain ⟨n, rfl⟩ : ∃ m, n = m + 1 := ⟨n - 1, by omega⟩
    subst hx
    have hsi := hs _ (mem_getD (d := 0) (show i < b.length by omega))
    have key := colStep (s := b.getD i 0) (e := e) (i := i) (q := q) hsi he (by omega) h0 h1
    have hq := orF_set (bitAt b e) 1 i q (by omega) h0 h1
    rw [lpAt_def]
    conv => lhs; whnf
    refine br_t (dt (by omega)) ?_
    conv => lhs; whnf
    refine br_t (dt2 (by omega) (by omega)) ?_
    conv => lhs; whnf
    refine br_f (df (by omega)) ?_
    conv => lhs; whnf
    refine br_f (df (by omega)) ?_
    conv => lhs; whnf
    have key2 : (bif (b.getD i 0).toNat.testBit e.toNat then bor q ((2 ^ i : Nat) : Int) else q) = orF (bitAt b e) 1 i q := rfl
    have key3 := key.trans key2
    rw [wrap64 (n := (i : Int) + 1) (by omega) (by omega)]
    refine (ih n (i + 1) _ _ (by omega) (by omega) (by simp) (by omega) ?_ ?_).trans ?_
    · exact Int.le_trans hq.1 (Int.le_of_eq key3.symm)
    · exact Int.le_trans (Int.le_of_eq key3) hq.2
    · exact congrArg (fun z => k (.exit 0) (mkS [5] [.int .i64 (orF (bitAt b e) d (i + 1) z)] [])) key3
theorem ev_columnOf (m : Int) (b : List Int) (e : Int) (hp : b.length ≤ 1048576) : evF E_columnOf (20) Tryz.f106 [.agg [.int .i64 m, .lst (.int .i64) b], .int .i64 e] [] = some (.int .i64 (bif attrOk m b e then colF b e else 0), []) := by
  conv => lhs; whnf
  conv => lhs; arg 1; whnf
  refine bnd_g (by exact hp) ?_
  conv => lhs; whnf
  refine br_c (fun h => ?_) (fun h => ?_)
  · conv => lhs; whnf
    rw [bnt h]
    rfl
  · have h' := bnf h
    unfold attrOk at h'
    have h2 := Bool.and_eq_true_iff.1 h'
    have hl := isCtx_len h2.1
    have hd := ofd h2.2
    conv => lhs; whnf
    refine (lp_columnOf b m e hl.1 (fun x hx => by have := isSet_le (hl.2.2.2 x hx); omega) (by omega) _ b.length _ 0 0 0 rfl (by omega) rfl (by change _ < 19; omega) (by omega) (by omega)).trans ?_
    conv => lhs; whnf
    rw [bnf h]
    rfl
theorem ok_columnOf : FnOk Tryz.prog 106 K_columnOf := by
  refine fn_ok (fn := Tryz.f106) (k := Tryz.f106.ntmps) (E := E_columnOf) (facts_of (List.forall_mem_cons.2 ⟨ok_isAttribute, List.forall_mem_nil _⟩)) (by kernel_rfl) rfl (by decide +kernel) (by decide +kernel) ?_
  intro avs hin r h
  unfold K_columnOf at h
  split at h
  · obtain ⟨hp, rfl⟩ := gd_o h
    exact ⟨_, ev_columnOf _ _ _ hp, rfl⟩
  · cases h

/- impl.columns -/
def K_columns : List AV → List Ob → Option (AV × List Ob)
  | [.agg [.int .i64 m, .lst (.int .i64) b]], [] => gd (isCtx m b = true) (.own 0, [.row 3 (.int .i64) (colsF m b)])
  | _, _ => none
@[reducible] def E_columns : Env := mkE (tb [(106, K_columnOf)]) (fun f => false) (fun r => bif r == 3 then ([1, 3, 7, 8], [3]) else ([], []))
theorem lp_columns (m : Int) (b : List Int) (hc : isCtx m b = true) (k : AX → S → Option (AV × List Ob)) (d : Nat) : ∀ (n i : Nat) (x : Int) (zs : List Int), m.toNat - i = d → i ≤ m.toNat → x = i → d < n → zs.length ≤ i →
    lpAt E_columns (lp E_columns 0 n) 0 (loopAt Tryz.f78 0) (mkS [1, 3, 7, 8] [.ptr 0 0, .own 1, .int .i64 m, .int .i64 x] [some (.box 26 [.int .i64 m, .lst (.int .i64) b]), some (.row 3 (.int .i64) zs)]) k =
      k (.exit 0) (mkS [3] [.own 0] [some (.row 3 (.int .i64) (zs ++ colsL b d i))]) := by
  have hl := isCtx_len hc
  induction d with
  | zero =>
    intro n i x zs hd hi hx hn hz
    subst hx
    rw [lpAt_def]
    conv => lhs; whnf
    refine br_f (df (by omega)) ?_
    conv => lhs; whnf
    rw [colsL, List.append_nil]
  | succ d ih =>
    intro n i x zs hd hi hx hn hz
    obtain ⟨n, rfl⟩ : ∃ m, n = m + 1 := ⟨n - 1, by omega⟩
    subst hx
    have ha : attrOk m b i = true := by
      unfold attrOk
      rw [hc, dt (by omega)]
      rfl
    rw [lpAt_def]
    conv => lhs; whnf
    refine br_t (dt (by omega)) ?_
    conv => lhs; whnf
    conv => lhs; arg 1; whnf
    refine bnd_g (by omega) ?_
    conv => lhs; whnf
    refine br_t (dt (by simp [room]; omega)) ?_
    conv => lhs; whnf
    rw [ih n (i + 1) _ _ (by omega) (by omega) (by rw [wrap64 (by omega) (by omega)]; simp) (by omega) (by simp; omega)]
    rw [colsL, ha, cond_true]
    simp
theorem ev_columns (m : Int) (b : List Int) (hp : isCtx m b = true) : evF E_columns (20) Tryz.f78 [.agg [.int .i64 m, .lst (.int .i64) b]] [] = some (.own 0, [.row 3 (.int .i64) (colsF m b)]) := by
  have hl := isCtx_len hp
  conv => lhs; whnf
  refine (lp_columns m b hp _ m.toNat _ 0 0 _ rfl (by omega) rfl (by change _ < 19; omega) (by simp)).trans ?_
  conv => lhs; whnf
  rfl
theorem ok_columns : FnOk Tryz.prog 78 K_columns := by
  refine fn_ok (fn := Tryz.f78) (k := Tryz.f78.ntmps) (E := E_columns) (facts_of (List.forall_mem_cons.2 ⟨ok_columnOf, List.forall_mem_nil _⟩)) (by kernel_rfl) rfl (by decide +kernel) (by decide +kernel) ?_
  intro avs hin r h
  unfold K_columns at h
  split at h
  · obtain ⟨hp, rfl⟩ := gd_o h
    exact ⟨_, ev_columns _ _ hp, rfl⟩
  · cases h

/- impl.FullSet -/
def K_implFullSet : List AV → List Ob → Option (AV × List Ob)
  | [.int .i64 n], [] => gd (True) (.int .i64 (fullSet n), [])
  | _, _ => none
@[reducible] def E_implFullSet : Env := mkE (tb [(46, K_within)]) (fun f => false) (fun r => ([], []))
theorem ev_implFullSet (n : Int) (hp : True) : evF E_implFullSet (1) Tryz.f79 [.int .i64 n] [] = some (.int .i64 (fullSet n), []) := by
  conv => lhs; whnf
  conv => lhs; arg 1; whnf
  refine bnd_g (by exact True.intro) ?_
  conv => lhs; whnf
  refine br_c (fun h => ?_) (fun h => ?_)
  · have h := ofnt h
    conv => lhs; whnf
    rw [fullSet, if_neg h]
  · have h := ofnf h
    conv => lhs; whnf
    refine br_f (df (by omega)) ?_
    conv => lhs; whnf
    refine okI ?_
    rw [fullSet, if_pos h]
    exact shl_set h.1 h.2
theorem ok_implFullSet : FnOk Tryz.prog 79 K_implFullSet := by
  refine fn_ok (fn := Tryz.f79) (k := Tryz.f79.ntmps) (E := E_implFullSet) (facts_of (List.forall_mem_cons.2 ⟨ok_within, List.forall_mem_nil _⟩)) (by kernel_rfl) rfl (by decide +kernel) (by decide +kernel) ?_
  intro avs hin r h
  unfold K_implFullSet at h
  split at h
  · obtain ⟨hp, rfl⟩ := gd_o h
    exact ⟨_, ev_implFullSet _ hp, rfl⟩
  · cases h

/- impl.common -/
def K_implCommon : List AV → List Ob → Option (AV × List Ob)
  | [.lst (.int .i64) a, .int .i64 s, .int .i64 q], [] => gd (a.length ≤ 1048576) (.int .i64 (commonF s a 0 q), [])
  | _, _ => none
@[reducible] def E_implCommon : Env := mkE (tb [(105, K_hasElement)]) (fun f => false) (fun r => bif r == 2 then ([1, 2, 9, 10, 11], [2]) else ([], []))
theorem lp_implCommon (a : List Int) (s : Int) (ha : a.length ≤ 1048576) (k : AX → S → Option (AV × List Ob)) (d : Nat) : ∀ (n i : Nat) (x q : Int), a.length - i = d → i ≤ a.length → x = i → d < n →
    lpAt E_implCommon (lp E_implCommon 0 n) 0 (loopAt Tryz.f77 0) (mkS [1, 2, 9, 10, 11] [.int .i64 s, .int .i64 q, .lst (.int .i64) a, .int .i64 a.length, .int .i64 x] []) k =
      k (.exit 0) (mkS [2] [.int .i64 (commonF s (a.drop i) i q)] []) := by
  induction d with
  | zero =>
    intro n i x q hd hi hx hn
    subst hx
    rw [lpAt_def]
    conv => lhs; whnf
    refine br_f (df (by omega)) ?_
    conv => lhs; whnf
    rw [List.drop_of_length_le (by omega), commonF]
  | succ d ih =>
    intro n i x q hd hi hx hn
    obtain ⟨n, rfl⟩ : ∃ m, n = m + 1 := ⟨n - 1, by omega⟩
    subst hx
    rw [lpAt_def]
    conv => lhs; whnf
    refine br_t (dt (by omega)) ?_
    conv => lhs; whnf
    refine br_t (dt2 (by omega) (by omega)) ?_
    conv => lhs; whnf
    conv => lhs; arg 1; whnf
    refine bnd_g (by exact True.intro) ?_
    conv => lhs; whnf
    rw [getD_drop (l := a) (i := i) (d := 0) (by omega)]
    refine br_c (fun h => ?_) (fun h => ?_)
    · conv => lhs; whnf
      rw [ih n (i + 1) _ _ (by omega) (by omega) (by rw [wrap64 (by omega) (by omega)]; simp) (by omega)]
      rw [commonF, h, cond_true]
      rfl
    · conv => lhs; whnf
      rw [ih n (i + 1) _ _ (by omega) (by omega) (by rw [wrap64 (by omega) (by omega)]; simp) (by omega)]
      rw [commonF, h, cond_false]
theorem ev_implCommon (a : List Int) (s q : Int) (hp : a.length ≤ 1048576) : evF E_implCommon (a.length + 2) Tryz.f77 [.lst (.int .i64) a, .int .i64 s, .int .i64 q] [] = some (.int .i64 (commonF s a 0 q), []) := by
  conv => lhs; whnf
  refine (lp_implCommon a s hp _ a.length _ 0 0 _ rfl (by omega) rfl (by omega)).trans ?_
  conv => lhs; whnf
  rfl
theorem ok_implCommon : FnOk Tryz.prog 77 K_implCommon := by
  refine fn_ok (fn := Tryz.f77) (k := Tryz.f77.ntmps) (E := E_implCommon) (facts_of (List.forall_mem_cons.2 ⟨ok_hasElement, List.forall_mem_nil _⟩)) (by kernel_rfl) rfl (by decide +kernel) (by decide +kernel) ?_
  intro avs hin r h
  unfold K_implCommon at h
  split at h
  · obtain ⟨hp, rfl⟩ := gd_o h
    exact ⟨_, ev_implCommon _ _ _ hp, rfl⟩
  · cases h

/- impl.ExtentOf -/
def K_implExtentOf : List AV → List Ob → Option (AV × List Ob)
  | [.agg [.int .i64 m, .lst (.int .i64) a], .int .i64 s], [] => gd (a.length ≤ 1048576) (.int .i64 (bif isCtx m a && isSet m s then extF a s else 0), [])
  | _, _ => none
@[reducible] def E_implExtentOf : Env := mkE (tb [(75, K_areAttributes), (78, K_columns), (79, K_implFullSet), (77, K_implCommon)]) (fun f => false) (fun r => ([], []))
theorem ev_implExtentOf (m : Int) (a : List Int) (s : Int) (hp : a.length ≤ 1048576) : evF E_implExtentOf (1) Tryz.f45 [.agg [.int .i64 m, .lst (.int .i64) a], .int .i64 s] [] = some (.int .i64 (bif isCtx m a && isSet m s then extF a s else 0), []) := by
  conv => lhs; whnf
  conv => lhs; arg 1; whnf
  refine bnd_g (by omega) ?_
  conv => lhs; whnf
  refine br_c (fun h => ?_) (fun h => ?_)
  · conv => lhs; whnf
    rw [bnt h]
    rfl
  · have h2 := Bool.and_eq_true_iff.1 (bnf h)
    obtain ⟨t, rfl, ht⟩ := isSet_ex h2.2
    have hl := isCtx_len h2.1
    have hcl : (colsF m a).length = m.toNat := colsL_length a _ _
    conv => lhs; whnf
    conv => lhs; arg 1; whnf
    refine bnd_g (by exact h2.1) ?_
    conv => lhs; whnf
    conv => lhs; arg 1; whnf
    refine bnd_g (by exact True.intro) ?_
    conv => lhs; whnf
    conv => lhs; arg 1; whnf
    refine bnd_g (by (rw [hcl]; omega)) ?_
    conv => lhs; whnf
    repeat ((first | with_reducible apply br_tt | with_reducible apply br_ff | with_reducible apply br_nf | with_reducible apply br_nt | with_reducible refine br_d ?_ (by kernel_rfl)); conv => lhs; whnf)
    rw [bnf h, cond_true]
    refine okI ?_
    exact ext_cols h2.1 ht
theorem ok_implExtentOf : FnOk Tryz.prog 45 K_implExtentOf := by
  refine fn_ok (fn := Tryz.f45) (k := Tryz.f45.ntmps) (E := E_implExtentOf) (facts_of (List.forall_mem_cons.2 ⟨ok_areAttributes, List.forall_mem_cons.2 ⟨ok_columns, List.forall_mem_cons.2 ⟨ok_implFullSet, List.forall_mem_cons.2 ⟨ok_implCommon, List.forall_mem_nil _⟩⟩⟩⟩)) (by kernel_rfl) rfl (by decide +kernel) (by decide +kernel) ?_
  intro avs hin r h
  unfold K_implExtentOf at h
  split at h
  · obtain ⟨hp, rfl⟩ := gd_o h
    exact ⟨_, ev_implExtentOf _ _ _ hp, rfl⟩
  · cases h

/- impl.areObjects -/
def K_areObjects : List AV → List Ob → Option (AV × List Ob)
  | [.agg [.int .i64 m, .lst (.int .i64) a], .int .i64 s], [] => gd (a.length < 4611686018427387904) (.bool (isCtx m a && isSet a.length s), [])
  | _, _ => none
@[reducible] def E_areObjects : Env := mkE (tb [(20, K_implIsContext), (49, K_implIsSet)]) (fun f => false) (fun r => ([], []))
theorem ev_areObjects (m : Int) (a : List Int) (s : Int) (hp : a.length < 4611686018427387904) : evF E_areObjects (1) Tryz.f115 [.agg [.int .i64 m, .lst (.int .i64) a], .int .i64 s] [] = some (.bool (isCtx m a && isSet a.length s), []) := by
  conv => lhs; whnf
  conv => lhs; arg 1; whnf
  refine bnd_g (by exact hp) ?_
  conv => lhs; whnf
  refine br_c (fun h => ?_) (fun h => ?_)
  · conv => lhs; whnf
    repeat ((first | with_reducible apply br_tt | with_reducible apply br_ff | with_reducible apply br_nf | with_reducible apply br_nt | with_reducible refine br_d ?_ (by kernel_rfl) | with_reducible apply br_t h | with_reducible apply br_f h); conv => lhs; whnf)
    conv => lhs; arg 1; whnf
    refine bnd_g (by exact True.intro) ?_
    conv => lhs; whnf
    repeat ((first | with_reducible apply br_tt | with_reducible apply br_ff | with_reducible apply br_nf | with_reducible apply br_nt | with_reducible refine br_d ?_ (by kernel_rfl) | with_reducible apply br_t h | with_reducible apply br_f h); conv => lhs; whnf)
    rw [h, Bool.true_and]
  · conv => lhs; whnf
    repeat ((first | with_reducible apply br_tt | with_reducible apply br_ff | with_reducible apply br_nf | with_reducible apply br_nt | with_reducible refine br_d ?_ (by kernel_rfl) | with_reducible apply br_t h | with_reducible apply br_f h); conv => lhs; whnf)
    rw [h, Bool.false_and]
theorem ok_areObjects : FnOk Tryz.prog 115 K_areObjects := by
  refine fn_ok (fn := Tryz.f115) (k := Tryz.f115.ntmps) (E := E_areObjects) (facts_of (List.forall_mem_cons.2 ⟨ok_implIsContext, List.forall_mem_cons.2 ⟨ok_implIsSet, List.forall_mem_nil _⟩⟩)) (by kernel_rfl) rfl (by decide +kernel) (by decide +kernel) ?_
  intro avs hin r h
  unfold K_areObjects at h
  split at h
  · obtain ⟨hp, rfl⟩ := gd_o h
    exact ⟨_, ev_areObjects _ _ _ hp, rfl⟩
  · cases h

/- impl.IntentOf -/
def K_intentOf : List AV → List Ob → Option (AV × List Ob)
  | [.agg [.int .i64 m, .lst (.int .i64) a], .int .i64 s], [] => gd (a.length ≤ 1048576) (.int .i64 (if isCtx m a && isSet a.length s then intentF m a s else 0), [])
  | _, _ => none
@[reducible] def E_intentOf : Env := mkE (tb [(115, K_areObjects), (79, K_implFullSet), (77, K_implCommon)]) (fun f => false) (fun r => ([], []))
theorem ev_intentOf (m : Int) (a : List Int) (s : Int) (hp : a.length ≤ 1048576) : evF E_intentOf (1) Tryz.f104 [.agg [.int .i64 m, .lst (.int .i64) a], .int .i64 s] [] = some (.int .i64 (if isCtx m a && isSet a.length s then intentF m a s else 0), []) := by
  conv => lhs; whnf
  conv => lhs; arg 1; whnf
  refine bnd_g (by omega) ?_
  conv => lhs; whnf
  refine br_c (fun h => ?_) (fun h => ?_)
  · conv => lhs; whnf
    have h : (isCtx m a && isSet a.length s) = false := bnt h
    rw [if_neg (by rw [h]; exact Bool.false_ne_true)]
  · have h : (isCtx m a && isSet a.length s) = true := bnf h
    conv => lhs; whnf
    conv => lhs; arg 1; whnf
    refine bnd_g (by exact True.intro) ?_
    conv => lhs; whnf
    conv => lhs; arg 1; whnf
    refine bnd_g (by exact hp) ?_
    conv => lhs; whnf
    repeat ((first | with_reducible apply br_tt | with_reducible apply br_ff | with_reducible apply br_nf | with_reducible apply br_nt | with_reducible refine br_d ?_ (by kernel_rfl)); conv => lhs; whnf)
    rw [if_pos h]
    rfl
theorem ok_intentOf : FnOk Tryz.prog 104 K_intentOf := by
  refine fn_ok (fn := Tryz.f104) (k := Tryz.f104.ntmps) (E := E_intentOf) (facts_of (List.forall_mem_cons.2 ⟨ok_areObjects, List.forall_mem_cons.2 ⟨ok_implFullSet, List.forall_mem_cons.2 ⟨ok_implCommon, List.forall_mem_nil _⟩⟩⟩)) (by kernel_rfl) rfl (by decide +kernel) (by decide +kernel) ?_
  intro avs hin r h
  unfold K_intentOf at h
  split at h
  · obtain ⟨hp, rfl⟩ := gd_o h
    exact ⟨_, ev_intentOf _ _ _ hp, rfl⟩
  · cases h

/- impl.ClosureOf -/
def K_implClosureOf : List AV → List Ob → Option (AV × List Ob)
  | [.agg [.int .i64 m, .lst (.int .i64) a], .int .i64 s], [] => gd (a.length ≤ 1048576) (.int .i64 (bif isCtx m a && isSet m s then intentF m a (extF a s) else 0), [])
  | _, _ => none
@[reducible] def E_implClosureOf : Env := mkE (tb [(75, K_areAttributes), (45, K_implExtentOf), (104, K_intentOf)]) (fun f => false) (fun r => ([], []))
theorem ev_implClosureOf (m : Int) (a : List Int) (s : Int) (hp : a.length ≤ 1048576) : evF E_implClosureOf (1) Tryz.f76 [.agg [.int .i64 m, .lst (.int .i64) a], .int .i64 s] [] = some (.int .i64 (bif isCtx m a && isSet m s then intentF m a (extF a s) else 0), []) := by
  conv => lhs; whnf
  conv => lhs; arg 1; whnf
  refine bnd_g (by omega) ?_
  conv => lhs; whnf
  refine br_c (fun h => ?_) (fun h => ?_)
  · conv => lhs; whnf
    rw [bnt h]
    rfl
  · have h2 := Bool.and_eq_true_iff.1 (bnf h)
    obtain ⟨t, rfl, ht⟩ := isSet_ex h2.2
    have hl := isCtx_len h2.1
    have hr := isSet_le h2.2
    conv => lhs; whnf
    conv => lhs; arg 1; whnf
    refine bnd_g (by omega) ?_
    conv => lhs; whnf
    conv => lhs; arg 1; whnf
    refine bnd_g (by omega) ?_
    conv => lhs; whnf
    repeat ((first | with_reducible apply br_tt | with_reducible apply br_ff | with_reducible apply br_nf | with_reducible apply br_nt | with_reducible refine br_d ?_ (by kernel_rfl)); conv => lhs; whnf)
    rw [bnf h, cond_true, if_pos (by rw [h2.1, ext_isSet hl.1 (ctx_small h2.1) (by omega)]; rfl)]
    rfl
theorem ok_implClosureOf : FnOk Tryz.prog 76 K_implClosureOf := by
  refine fn_ok (fn := Tryz.f76) (k := Tryz.f76.ntmps) (E := E_implClosureOf) (facts_of (List.forall_mem_cons.2 ⟨ok_areAttributes, List.forall_mem_cons.2 ⟨ok_implExtentOf, List.forall_mem_cons.2 ⟨ok_intentOf, List.forall_mem_nil _⟩⟩⟩)) (by kernel_rfl) rfl (by decide +kernel) (by decide +kernel) ?_
  intro avs hin r h
  unfold K_implClosureOf at h
  split at h
  · obtain ⟨hp, rfl⟩ := gd_o h
    exact ⟨_, ev_implClosureOf _ _ _ hp, rfl⟩
  · cases h

/- impl.IsClosed -/
def K_isClosed : List AV → List Ob → Option (AV × List Ob)
  | [.agg [.int .i64 m, .lst (.int .i64) a], .int .i64 s], [] => gd (a.length ≤ 1048576) (.bool ((isCtx m a && isSet m s) && closedI m a s), [])
  | _, _ => none
@[reducible] def E_isClosed : Env := mkE (tb [(75, K_areAttributes), (76, K_implClosureOf)]) (fun f => false) (fun r => ([], []))
theorem ev_isClosed (m : Int) (a : List Int) (s : Int) (hp : a.length ≤ 1048576) : evF E_isClosed (1) Tryz.f44 [.agg [.int .i64 m, .lst (.int .i64) a], .int .i64 s] [] = some (.bool ((isCtx m a && isSet m s) && closedI m a s), []) := by
  conv => lhs; whnf
  conv => lhs; arg 1; whnf
  refine bnd_g (by omega) ?_
  conv => lhs; whnf
  refine br_c (fun h => ?_) (fun h => ?_)
  · conv => lhs; whnf
    repeat ((first | with_reducible apply br_tt | with_reducible apply br_ff | with_reducible apply br_nf | with_reducible apply br_nt | with_reducible refine br_d ?_ (by kernel_rfl) | with_reducible apply br_t h | with_reducible apply br_f h); conv => lhs; whnf)
    conv => lhs; arg 1; whnf
    refine bnd_g (by omega) ?_
    conv => lhs; whnf
    repeat ((first | with_reducible apply br_tt | with_reducible apply br_ff | with_reducible apply br_nf | with_reducible apply br_nt | with_reducible refine br_d ?_ (by kernel_rfl) | with_reducible apply br_t h | with_reducible apply br_f h); conv => lhs; whnf)
    rw [h, cond_true, Bool.true_and]
    rfl
  · conv => lhs; whnf
    repeat ((first | with_reducible apply br_tt | with_reducible apply br_ff | with_reducible apply br_nf | with_reducible apply br_nt | with_reducible refine br_d ?_ (by kernel_rfl) | with_reducible apply br_t h | with_reducible apply br_f h); conv => lhs; whnf)
    rw [h, Bool.false_and]
theorem ok_isClosed : FnOk Tryz.prog 44 K_isClosed := by
  refine fn_ok (fn := Tryz.f44) (k := Tryz.f44.ntmps) (E := E_isClosed) (facts_of (List.forall_mem_cons.2 ⟨ok_areAttributes, List.forall_mem_cons.2 ⟨ok_implClosureOf, List.forall_mem_nil _⟩⟩)) (by kernel_rfl) rfl (by decide +kernel) (by decide +kernel) ?_
  intro avs hin r h
  unfold K_isClosed at h
  split at h
  · obtain ⟨hp, rfl⟩ := gd_o h
    exact ⟨_, ev_isClosed _ _ _ hp, rfl⟩
  · cases h

/- impl.Concepts -/
def K_implConcepts : List AV → List Ob → Option (AV × List Ob)
  | [.agg [.int .i64 m, .lst (.int .i64) a]], [] => gd (a.length ≤ 1048576) (.own 0, [.row 56 (.pair (.int .i64) (.int .i64)) (concF m a)])
  | _, _ => none
@[reducible] def E_implConcepts : Env := mkE (tb [(20, K_implIsContext), (43, K_allSets), (44, K_isClosed), (45, K_implExtentOf)]) (fun f => false) (fun r => bif r == 5 then ([1, 3, 12, 13, 14], [3]) else ([], []))
theorem lp_implConcepts (m : Int) (a : List Int) (hc : isCtx m a = true) (l : List Int) (hl : l.length ≤ 64) (hm : ∀ x ∈ l, isSet m x = true) (k : AX → S → Option (AV × List Ob)) (d : Nat) : ∀ (n i : Nat) (x : Int) (zs : List (Int × Int)), l.length - i = d → i ≤ l.length → x = i → d < n → zs.length ≤ i →
    lpAt E_implConcepts (lp E_implConcepts 0 n) 0 (loopAt Tryz.f19 0) (mkS [1, 3, 12, 13, 14] [.ptr 0 0, .own 1, .own 2, .int .i64 l.length, .int .i64 x] [some (.box 26 [.int .i64 m, .lst (.int .i64) a]), some (.row 56 (.pair (.int .i64) (.int .i64)) zs), some (.row 3 (.int .i64) l)]) k =
      k (.exit 0) (mkS [3] [.own 0] [some (.row 56 (.pair (.int .i64) (.int .i64)) (zs ++ ((l.drop i).filter (closedI m a)).map (pairI a)))]) := by
  have hlen := isCtx_len hc
  induction d with
  | zero =>
    intro n i x zs hd hi hx hn hz
    subst hx
    rw [lpAt_def]
    conv => lhs; whnf
    refine br_f (df (by omega)) ?_
    conv => lhs; whnf
    rw [List.drop_of_length_le (by omega)]
    simp
  | succ d ih =>
    intro n i x zs hd hi hx hn hz
    obtain ⟨n, rfl⟩ : ∃ m, n = m + 1 := ⟨n - 1, by omega⟩
    subst hx
    have hx := hm _ (mem_getD (d := 0) (show i < l.length by omega))
    rw [lpAt_def]
    conv => lhs; whnf
    refine br_t (dt (by omega)) ?_
    conv => lhs; whnf
    refine br_t (dt2 (by omega) (by omega)) ?_
    conv => lhs; whnf
    refine br_t (dt (by omega)) ?_
    conv => lhs; whnf
    conv => lhs; arg 1; whnf
    refine bnd_g (by omega) ?_
    conv => lhs; whnf
    rw [getD_drop (l := l) (i := i) (d := 0) (by omega)]
    refine br_c (fun h => ?_) (fun h => ?_)
    · have h' : closedI m a (l.getD i 0) = true := by
        have h : ((isCtx m a && isSet m (l.getD i 0)) && closedI m a (l.getD i 0)) = true := h
        rw [hc, hx] at h
        exact h
      conv => lhs; whnf
      conv => lhs; arg 1; whnf
      refine bnd_g (by omega) ?_
      conv => lhs; whnf
      refine br_t (dt (by simp [room]; omega)) ?_
      conv => lhs; whnf
      rw [ih n (i + 1) _ _ (by omega) (by omega) (by rw [wrap64 (n := (i : Int) + 1) (by omega) (by omega)]; simp) (by omega) (by simp; omega)]
      rw [List.filter_cons_of_pos h', List.map_cons]
      have e : (bif isCtx m a && isSet m (l.getD i 0) then extF a (l.getD i 0) else 0) = extF a (l.getD i 0) := by rw [hc, hx]; rfl
      have e2 : ((bif isCtx m a && isSet m (l.getD (i : Int).toNat (ET.int IntKind.i64).dft) then extF a (l.getD (i : Int).toNat (ET.int IntKind.i64).dft) else 0), l.getD (i : Int).toNat (ET.int IntKind.i64).dft) = pairI a (l.getD i 0) := congrArg (fun z => (z, l.getD i 0)) e
      simp only [List.append_assoc]
      congr 6
      exact congrArg (fun z => z :: List.map (pairI a) (List.filter (closedI m a) (List.drop (i + 1) l))) e2
    · have h' : closedI m a (l.getD i 0) = false := by
        have h : ((isCtx m a && isSet m (l.getD i 0)) && closedI m a (l.getD i 0)) = false := h
        rw [hc, hx] at h
        exact h
      conv => lhs; whnf
      rw [ih n (i + 1) _ _ (by omega) (by omega) (by rw [wrap64 (n := (i : Int) + 1) (by omega) (by omega)]; simp) (by omega) (by omega)]
      rw [List.filter_cons_of_neg (by rw [h']; exact Bool.false_ne_true)]
theorem ev_implConcepts (m : Int) (a : List Int) (hp : a.length ≤ 1048576) : evF E_implConcepts (100) Tryz.f19 [.agg [.int .i64 m, .lst (.int .i64) a]] [] = some (.own 0, [.row 56 (.pair (.int .i64) (.int .i64)) (concF m a)]) := by
  conv => lhs; whnf
  conv => lhs; arg 1; whnf
  refine bnd_g (by omega) ?_
  conv => lhs; whnf
  refine br_c (fun h => ?_) (fun h => ?_)
  · have hf : concF m a = [] := by
      unfold concF
      rw [bnt h]
      rfl
    rw [hf]
    conv => lhs; whnf
  · have hl := isCtx_len (bnf h)
    have hf : concF m a = ((lecI m.toNat).filter (closedI m a)).map (pairI a) := by
      unfold concF
      rw [bnf h]
      rfl
    obtain ⟨h1, h2, h3, h4, h5⟩ := lec_all ⟨m.toNat, by omega⟩
    simp only at h1 h2 h3 h4 h5
    have hpw := pow64 (n := m.toNat) (by omega)
    rw [hf]
    conv => lhs; whnf
    conv => lhs; arg 1; whnf
    refine bnd_g (by omega) ?_
    conv => lhs; whnf
    refine (lp_implConcepts m a (bnf h) (lecI m.toNat) (by rw [h2]; omega) (fun x hx => (lecI_isSet ⟨by omega, by omega⟩ hx).1) _ (lecI m.toNat).length _ 0 0 [] rfl (by omega) rfl (by rw [h2]; change _ < 99; omega) (by simp)).trans ?_
    conv => lhs; whnf
    rfl
theorem ok_implConcepts : FnOk Tryz.prog 19 K_implConcepts := by
  refine fn_ok (fn := Tryz.f19) (k := Tryz.f19.ntmps) (E := E_implConcepts) (facts_of (List.forall_mem_cons.2 ⟨ok_implIsContext, List.forall_mem_cons.2 ⟨ok_allSets, List.forall_mem_cons.2 ⟨ok_isClosed, List.forall_mem_cons.2 ⟨ok_implExtentOf, List.forall_mem_nil _⟩⟩⟩⟩)) (by kernel_rfl) rfl (by decide +kernel) (by decide +kernel) ?_
  intro avs hin r h
  unfold K_implConcepts at h
  split at h
  · obtain ⟨hp, rfl⟩ := gd_o h
    exact ⟨_, ev_implConcepts _ _ hp, rfl⟩
  · cases h

def nextX (m : Int) (b : List Int) (s : Int) : Int := match nextN (clN m b) s.toNat m.toNat with
  | none => 0
  | some x => (x : Int)
def nextOk (m : Int) (b : List Int) (s : Int) : Bool := (nextN (clN m b) s.toNat m.toNat).isSome
theorem band_low {s m : Nat} (hs : s < 256) (hm : m ≤ 8) : band (s : Int) (fullSet (m : Int)) = ((lowN s m : Nat) : Int) := by
  have e1 : fullSet (m : Int) = ((2 ^ m - 1 : Nat) : Int) := by
    have h : m = 0 ∨ m = 1 ∨ m = 2 ∨ m = 3 ∨ m = 4 ∨ m = 5 ∨ m = 6 ∨ m = 7 ∨ m = 8 := by omega
    rcases h with rfl | rfl | rfl | rfl | rfl | rfl | rfl | rfl | rfl <;> decide
  have hp : 2 ^ m ≤ 2 ^ 8 := Nat.pow_le_pow_right (by omega) hm
  rw [e1, band_nat hs (by omega), Nat.and_two_pow_sub_one_eq_mod]
  rfl
theorem bor_add {s m : Nat} (hs : s < 256) (hm : m ≤ 7) : bor ((lowN s m : Nat) : Int) ((2 ^ m : Nat) : Int) = ((addN s m : Nat) : Int) := by
  have hp : 2 ^ m ≤ 2 ^ 7 := Nat.pow_le_pow_right (by omega) hm
  have hl : lowN s m ≤ s := Nat.mod_le _ _
  rw [bor_nat (by omega) (by omega)]
  rfl
theorem clN_int {m : Int} {b : List Int} (h : isCtx m b = true) {s : Nat} (hs : s < 256) : intentF m b (extF b (s : Int)) = ((clN m b s : Nat) : Int) := by
  have hl := isCtx_len h
  have he := extF_spec hl.1 (ctx_small h) hs
  have hi := intentF_spec (m := m) ⟨hl.2.1, by omega⟩ hl.1 (ctx_small h) (t := extF b s) (by rw [isSet8]; exact dt ⟨he.1, he.2.1⟩)
  unfold clN
  omega
def rowN (a : List Int) (l : List Nat) : List (Int × Int) := l.map fun (s : Nat) => pairI a (s : Int)
theorem closed_is {m : Int} {a : List Int} (h : isCtx m a = true) {s : Nat} (hs : s < 256) : closedI m a (s : Int) = isCl (clN m a) s := by
  unfold closedI isCl
  rw [clN_int h hs, Bool.eq_iff_iff, beq_iff_eq, beq_iff_eq]
  omega
theorem concF_rows {m : Int} {a : List Int} (h : isCtx m a = true) : concF m a = rowN a ((lecL m.toNat).filter (isCl (clN m a))) := by
  have hl := isCtx_len h
  unfold concF rowN lecI
  rw [h, cond_true, List.filter_map, List.map_map]
  have : (lecL m.toNat).filter (closedI m a ∘ fun (x : Nat) => (x : Int)) = (lecL m.toNat).filter (isCl (clN m a)) := by
    refine List.filter_congr fun x hx => ?_
    have hx := (lecL_mem (n := m.toNat) (by omega)).1 hx
    have := pow64 (n := m.toNat) (by omega)
    exact closed_is h (by omega)
  rw [this]
  rfl
theorem concF_start {m : Int} {a : List Int} (h : isCtx m a = true) : ∃ p q, lecL m.toNat = p ++ clN m a 0 :: q ∧ concF m a = rowN a (clN m a 0 :: q.filter (isCl (clN m a))) := by
  have hl := isCtx_len h
  have hc := cl_clo h
  have h0 : 0 < 2 ^ m.toNat := Nat.two_pow_pos _
  obtain ⟨p, q, hL⟩ := List.append_of_mem ((lecL_mem (n := m.toNat) (by omega)).2 (hc.lt 0 h0))
  refine ⟨p, q, hL, ?_⟩
  have hlen : (lecL m.toNat).length = 2 ^ m.toNat := by unfold lecL; simp
  have hq : q.length < 2 ^ m.toNat := by
    rw [hL] at hlen
    simp at hlen
    omega
  rw [concF_rows h, ← enum_all hc (by omega) (Nat.le_refl _), enum_eq hc (by omega) _ p (clN m a 0) q hL hq]
/- spec.l1In -/
def K_l1In : List AV → List Ob → Option (AV × List Ob)
  | [.int .i64 n, .int .i64 l, .int .i64 h], [] => gd (True) (.bool (decide (l ≤ n ∧ n ≤ h)), [])
  | _, _ => none
@[reducible] def E_l1In : Env := mkE (tb []) (fun f => false) (fun r => ([], []))
theorem ev_l1In (n l h : Int) (hp : True) : evF E_l1In (1) Tryz.f65 [.int .i64 n, .int .i64 l, .int .i64 h] [] = some (.bool (decide (l ≤ n ∧ n ≤ h)), []) := by
  conv => lhs; whnf
  refine br_c (fun h1 => ?_) (fun h1 => ?_)
  · conv => lhs; whnf
    repeat ((first | with_reducible apply br_tt | with_reducible apply br_ff | with_reducible apply br_nf | with_reducible apply br_nt | with_reducible refine br_d ?_ (by kernel_rfl) | with_reducible apply br_t h1 | with_reducible apply br_f h1); conv => lhs; whnf)
    have := ofd h1
    simp [this]
  · conv => lhs; whnf
    repeat ((first | with_reducible apply br_tt | with_reducible apply br_ff | with_reducible apply br_nf | with_reducible apply br_nt | with_reducible refine br_d ?_ (by kernel_rfl) | with_reducible apply br_t h1 | with_reducible apply br_f h1); conv => lhs; whnf)
    have := ofn h1
    simp [this]
theorem ok_l1In : FnOk Tryz.prog 65 K_l1In := by
  refine fn_ok (fn := Tryz.f65) (k := Tryz.f65.ntmps) (E := E_l1In) (facts_of (List.forall_mem_nil _)) (by kernel_rfl) rfl (by decide +kernel) (by decide +kernel) ?_
  intro avs hin r h
  unfold K_l1In at h
  split at h
  · obtain ⟨hp, rfl⟩ := gd_o h
    exact ⟨_, ev_l1In _ _ _ hp, rfl⟩
  · cases h

/- spec.IsSet -/
def K_specIsSet : List AV → List Ob → Option (AV × List Ob)
  | [.int .i64 n, .int .i64 s], [] => gd (True) (.bool (isSet n s), [])
  | _, _ => none
@[reducible] def E_specIsSet : Env := mkE (tb [(65, K_l1In)]) (fun f => false) (fun r => ([], []))
theorem ev_specIsSet (n s : Int) (hp : True) : evF E_specIsSet (1) Tryz.f69 [.int .i64 n, .int .i64 s] [] = some (.bool (isSet n s), []) := by
  conv => lhs; whnf
  conv => lhs; arg 1; whnf
  refine bnd_g (by exact True.intro) ?_
  conv => lhs; whnf
  refine br_c (fun h => ?_) (fun h => ?_)
  · conv => lhs; whnf
    have h8 := ofd h
    repeat ((first | with_reducible apply br_tt | with_reducible apply br_ff | with_reducible apply br_nf | with_reducible apply br_nt | with_reducible refine br_d ?_ (by kernel_rfl) | with_reducible apply br_t h | with_reducible apply br_f h); conv => lhs; whnf)
    rw [wrapu h8.1 h8.2]
    refine br_f (df (by omega)) ?_
    conv => lhs; whnf
    repeat ((first | with_reducible apply br_tt | with_reducible apply br_ff | with_reducible apply br_nf | with_reducible apply br_nt | with_reducible refine br_d ?_ (by kernel_rfl) | with_reducible apply br_t h | with_reducible apply br_f h); conv => lhs; whnf)
    conv => lhs; arg 1; whnf
    refine bnd_g (by exact True.intro) ?_
    conv => lhs; whnf
    repeat ((first | with_reducible apply br_tt | with_reducible apply br_ff | with_reducible apply br_nf | with_reducible apply br_nt | with_reducible refine br_d ?_ (by kernel_rfl) | with_reducible apply br_t h | with_reducible apply br_f h); conv => lhs; whnf)
    refine okB ?_
    unfold isSet
    refine decide_eq_decide.2 ?_
    rw [shl_set h8.1 h8.2]
    exact ⟨fun h => ⟨h8, h⟩, fun h => h.2⟩
  · conv => lhs; whnf
    repeat ((first | with_reducible apply br_tt | with_reducible apply br_ff | with_reducible apply br_nf | with_reducible apply br_nt | with_reducible refine br_d ?_ (by kernel_rfl) | with_reducible apply br_t h | with_reducible apply br_f h); conv => lhs; whnf)
    have h8 := ofn h
    simp [isSet, h8]
theorem ok_specIsSet : FnOk Tryz.prog 69 K_specIsSet := by
  refine fn_ok (fn := Tryz.f69) (k := Tryz.f69.ntmps) (E := E_specIsSet) (facts_of (List.forall_mem_cons.2 ⟨ok_l1In, List.forall_mem_nil _⟩)) (by kernel_rfl) rfl (by decide +kernel) (by decide +kernel) ?_
  intro avs hin r h
  unfold K_specIsSet at h
  split at h
  · obtain ⟨hp, rfl⟩ := gd_o h
    exact ⟨_, ev_specIsSet _ _ hp, rfl⟩
  · cases h

/- spec.IsContext -/
def K_specIsContext : List AV → List Ob → Option (AV × List Ob)
  | [.agg [.int .i64 m, .lst (.int .i64) a]], [] => gd (a.length < 4611686018427387904) (.bool (isCtx m a), [])
  | _, _ => none
@[reducible] def E_specIsContext : Env := mkE (tb [(69, K_specIsSet), (65, K_l1In)]) (fun f => false) (fun r => bif r == 2 then ([1, 3], [1, 2]) else ([], []))
theorem lp_specIsContext (m : Int) (a : List Int) (ha : a.length < 4611686018427387904) (k : AX → S → Option (AV × List Ob)) (r : Option (AV × List Ob)) (hk : k .ret (mkS [1, 2] [.ptr 0 0, .bool false] [some (.box 26 [.int .i64 m, .lst (.int .i64) a])]) = r) (d : Nat) : ∀ (n i : Nat) (x : Int), a.length - i = d → i ≤ a.length → x = i → d < n →
    lpAt E_specIsContext (lp E_specIsContext 0 n) 0 (loopAt Tryz.f54 0) (mkS [1, 3] [.ptr 0 0, .int .i64 x] [some (.box 26 [.int .i64 m, .lst (.int .i64) a])]) k =
      if (a.drop i).all (isSet m) then k (.exit 0) (mkS [1, 2] [.ptr 0 0, .any] [some (.box 26 [.int .i64 m, .lst (.int .i64) a])]) else r := by
  induction d with
  | zero =>
    intro n i x hd hi hx hn
    subst hx
    rw [lpAt_def]
    conv => lhs; whnf
    refine br_f (df (by omega)) ?_
    conv => lhs; whnf
    rw [List.drop_of_length_le (by omega), if_pos (by rfl)]
  | succ d ih =>
    intro n i x hd hi hx hn
    obtain ⟨n, rfl⟩ : ∃ m, n = m + 1 := ⟨n - 1, by omega⟩
    subst hx
    rw [lpAt_def]
    conv => lhs; whnf
    refine br_t (dt (by omega)) ?_
    conv => lhs; whnf
    refine br_t (dt2 (by omega) (by omega)) ?_
    conv => lhs; whnf
    conv => lhs; arg 1; whnf
    refine bnd_g (by exact True.intro) ?_
    conv => lhs; whnf
    refine br_t (by kernel_rfl) ?_
    conv => lhs; whnf
    rw [getD_drop (l := a) (i := i) (d := 0) (by omega)]
    refine br_c (fun h => ?_) (fun h => ?_)
    · have h' : isSet m (a.getD i 0) = false := by simpa using h
      conv => lhs; whnf
      rw [if_neg (by rw [List.all_cons, h', Bool.false_and]; exact Bool.false_ne_true)]
      exact hk
    · have h' : isSet m (a.getD i 0) = true := by simpa using h
      conv => lhs; whnf
      rw [ih n (i + 1) _ (by omega) (by omega) (by rw [wrap64 (by omega) (by omega)]; simp) (by omega)]
      rw [List.all_cons, h', Bool.true_and]
theorem ev_specIsContext (m : Int) (a : List Int) (hp : a.length < 4611686018427387904) : evF E_specIsContext (a.length + 2) Tryz.f54 [.agg [.int .i64 m, .lst (.int .i64) a]] [] = some (.bool (isCtx m a), []) := by
  conv => lhs; whnf
  refine (lp_specIsContext m a hp _ _ rfl a.length _ 0 0 rfl (by omega) rfl (by omega)).trans ?_
  simp only [List.drop_zero]
  split
  · rename_i hA
    conv => lhs; whnf
    conv => lhs; arg 1; whnf
    refine bnd_g (by exact True.intro) ?_
    conv => lhs; whnf
    refine br_c (fun h => ?_) (fun h => ?_)
    · conv => lhs; whnf
      repeat ((first | with_reducible apply br_tt | with_reducible apply br_ff | with_reducible apply br_nf | with_reducible apply br_nt | with_reducible refine br_d ?_ (by kernel_rfl) | with_reducible apply br_t h | with_reducible apply br_f h); conv => lhs; whnf)
      refine okB ?_
      unfold isCtx
      rw [h, hA, Bool.true_and, Bool.and_true]
      exact decide_eq_decide.2 (by omega)
    · conv => lhs; whnf
      repeat ((first | with_reducible apply br_tt | with_reducible apply br_ff | with_reducible apply br_nf | with_reducible apply br_nt | with_reducible refine br_d ?_ (by kernel_rfl) | with_reducible apply br_t h | with_reducible apply br_f h); conv => lhs; whnf)
      refine okB ?_
      unfold isCtx
      rw [h, Bool.false_and, Bool.false_and]
  · rename_i hA
    conv => lhs; whnf
    refine okB ?_
    unfold isCtx
    rw [Bool.not_eq_true] at hA
    rw [hA, Bool.and_false]
theorem ok_specIsContext : FnOk Tryz.prog 54 K_specIsContext := by
  refine fn_ok (fn := Tryz.f54) (k := Tryz.f54.ntmps) (E := E_specIsContext) (facts_of (List.forall_mem_cons.2 ⟨ok_specIsSet, List.forall_mem_cons.2 ⟨ok_l1In, List.forall_mem_nil _⟩⟩)) (by kernel_rfl) rfl (by decide +kernel) (by decide +kernel) ?_
  intro avs hin r h
  unfold K_specIsContext at h
  split at h
  · obtain ⟨hp, rfl⟩ := gd_o h
    exact ⟨_, ev_specIsContext _ _ hp, rfl⟩
  · cases h

/- spec.l4Extent -/
def K_specExtent : List AV → List Ob → Option (AV × List Ob)
  | [.agg [.int .i64 m, .lst (.int .i64) b], .int .i64 s], [] => gd (b.length ≤ 8) (.int .i64 (extF b s), [])
  | _, _ => none
@[reducible] def E_specExtent : Env := mkE (tb []) (fun f => false) (fun r => bif r == 3 then ([1, 2, 5, 6], [5]) else ([], []))
theorem lp_specExtent (m : Int) (b : List Int) (s : Int) (hb : b.length ≤ 8) (k : AX → S → Option (AV × List Ob)) (d : Nat) : ∀ (n i : Nat) (x q : Int), b.length - i = d → i ≤ b.length → x = i → d < n →
    lpAt E_specExtent (lp E_specExtent 0 n) 0 (loopAt Tryz.f83 0) (mkS [1, 2, 5, 6] [.int .i64 s, .ptr 0 0, .int .i64 q, .int .i64 x] [some (.box 26 [.int .i64 m, .lst (.int .i64) b])]) k =
      k (.exit 0) (mkS [5] [.int .i64 (orF (extAt b s) d i q)] []) := by
  induction d with
  | zero =>
    intro n i x q hd hi hx hn
    subst hx
    rw [lpAt_def]
    conv => lhs; whnf
    refine br_f (df (by omega)) ?_
    conv => lhs; whnf
    rfl
  | succ d ih =>
    intro n i x q hd hi hx hn
    obtain ⟨n, rfl⟩ : ∃ m, n = m + 1 := ⟨n - 1, by omega⟩
    subst hx
    rw [lpAt_def]
    conv => lhs; whnf
    refine br_t (dt (by omega)) ?_
    conv => lhs; whnf
    refine br_t (dt2 (by omega) (by omega)) ?_
    conv => lhs; whnf
    refine br_c (fun h => ?_) (fun h => ?_)
    · have h' : extAt b s i = true := h
      conv => lhs; whnf
      refine br_f (by (rw [wrapu (n := (i : Int)) (by omega) (by omega)]; exact df (by omega))) ?_
      conv => lhs; whnf
      rw [shl1u (by omega)]
      rw [ih n (i + 1) _ _ (by omega) (by omega) (by rw [wrap64 (by omega) (by omega)]; simp) (by omega)]
      rw [orF, h', cond_true]
      rfl
    · have h' : extAt b s i = false := h
      conv => lhs; whnf
      rw [ih n (i + 1) _ _ (by omega) (by omega) (by rw [wrap64 (by omega) (by omega)]; simp) (by omega)]
      rw [orF, h', cond_false]
theorem ev_specExtent (m : Int) (b : List Int) (s : Int) (hp : b.length ≤ 8) : evF E_specExtent (20) Tryz.f83 [.agg [.int .i64 m, .lst (.int .i64) b], .int .i64 s] [] = some (.int .i64 (extF b s), []) := by
  conv => lhs; whnf
  refine (lp_specExtent m b s hp _ b.length _ 0 0 _ rfl (by omega) rfl (by change _ < 19; omega)).trans ?_
  conv => lhs; whnf
  rfl
theorem ok_specExtent : FnOk Tryz.prog 83 K_specExtent := by
  refine fn_ok (fn := Tryz.f83) (k := Tryz.f83.ntmps) (E := E_specExtent) (facts_of (List.forall_mem_nil _)) (by kernel_rfl) rfl (by decide +kernel) (by decide +kernel) ?_
  intro avs hin r h
  unfold K_specExtent at h
  split at h
  · obtain ⟨hp, rfl⟩ := gd_o h
    exact ⟨_, ev_specExtent _ _ _ hp, rfl⟩
  · cases h

/- spec.FullSet -/
def K_specFullSet : List AV → List Ob → Option (AV × List Ob)
  | [.int .i64 n], [] => gd (True) (.int .i64 (fullSet n), [])
  | _, _ => none
@[reducible] def E_specFullSet : Env := mkE (tb [(65, K_l1In)]) (fun f => false) (fun r => ([], []))
theorem ev_specFullSet (n : Int) (hp : True) : evF E_specFullSet (1) Tryz.f68 [.int .i64 n] [] = some (.int .i64 (fullSet n), []) := by
  conv => lhs; whnf
  conv => lhs; arg 1; whnf
  refine bnd_g (by exact True.intro) ?_
  conv => lhs; whnf
  refine br_c (fun h => ?_) (fun h => ?_)
  · have h := ofnt h
    conv => lhs; whnf
    rw [fullSet, if_neg h]
  · have h := ofnf h
    conv => lhs; whnf
    rw [wrapu h.1 h.2]
    refine br_f (df (by omega)) ?_
    conv => lhs; whnf
    refine okI ?_
    rw [fullSet, if_pos h]
    exact shl_set h.1 h.2
theorem ok_specFullSet : FnOk Tryz.prog 68 K_specFullSet := by
  refine fn_ok (fn := Tryz.f68) (k := Tryz.f68.ntmps) (E := E_specFullSet) (facts_of (List.forall_mem_cons.2 ⟨ok_l1In, List.forall_mem_nil _⟩)) (by kernel_rfl) rfl (by decide +kernel) (by decide +kernel) ?_
  intro avs hin r h
  unfold K_specFullSet at h
  split at h
  · obtain ⟨hp, rfl⟩ := gd_o h
    exact ⟨_, ev_specFullSet _ hp, rfl⟩
  · cases h

/- spec.l2Has -/
def K_l2Has : List AV → List Ob → Option (AV × List Ob)
  | [.int .i64 s, .int .i64 e], [] => gd ((0 ≤ s ∧ s ≤ 255) ∧ (0 ≤ e ∧ e ≤ 8)) (.bool (s.toNat.testBit e.toNat), [])
  | _, _ => none
@[reducible] def E_l2Has : Env := mkE (tb []) (fun f => false) (fun r => ([], []))
theorem ev_l2Has (s e : Int) (hp : (0 ≤ s ∧ s ≤ 255) ∧ (0 ≤ e ∧ e ≤ 8)) : evF E_l2Has (1) Tryz.f70 [.int .i64 s, .int .i64 e] [] = some (.bool (s.toNat.testBit e.toNat), []) := by
  obtain ⟨⟨h0, h1⟩, h2, h3⟩ := hp
  conv => lhs; whnf
  rw [wrapu h2 h3]
  refine br_f (df (by omega)) ?_
  conv => lhs; whnf
  exact okB (bit_of h0 h1 h2 h3)
theorem ok_l2Has : FnOk Tryz.prog 70 K_l2Has := by
  refine fn_ok (fn := Tryz.f70) (k := Tryz.f70.ntmps) (E := E_l2Has) (facts_of (List.forall_mem_nil _)) (by kernel_rfl) rfl (by decide +kernel) (by decide +kernel) ?_
  intro avs hin r h
  unfold K_l2Has at h
  split at h
  · obtain ⟨hp, rfl⟩ := gd_o h
    exact ⟨_, ev_l2Has _ _ hp, rfl⟩
  · cases h

/- spec.l4Intent -/
def K_specIntent : List AV → List Ob → Option (AV × List Ob)
  | [.agg [.int .i64 m, .lst (.int .i64) a], .int .i64 s], [] => gd (a.length ≤ 8 ∧ isSet 8 s = true) (.int .i64 (intentF m a s), [])
  | _, _ => none
@[reducible] def E_specIntent : Env := mkE (tb [(68, K_specFullSet), (70, K_l2Has)]) (fun f => false) (fun r => bif r == 3 then ([1, 2, 5, 6], [5]) else ([], []))
theorem lp_specIntent (m : Int) (a : List Int) (s : Int) (ha : a.length ≤ 8) (hs : isSet 8 s = true) (k : AX → S → Option (AV × List Ob)) (d : Nat) : ∀ (n i : Nat) (x q : Int), a.length - i = d → i ≤ a.length → x = i → d < n →
    lpAt E_specIntent (lp E_specIntent 0 n) 0 (loopAt Tryz.f82 0) (mkS [1, 2, 5, 6] [.int .i64 s, .ptr 0 0, .int .i64 q, .int .i64 x] [some (.box 26 [.int .i64 m, .lst (.int .i64) a])]) k =
      k (.exit 0) (mkS [5] [.int .i64 (commonF s (a.drop i) i q)] []) := by
  have hs' := isSet_le hs
  induction d with
  | zero =>
    intro n i x q hd hi hx hn
    subst hx
    rw [lpAt_def]
    conv => lhs; whnf
    refine br_f (df (by omega)) ?_
    conv => lhs; whnf
    rw [List.drop_of_length_le (by omega), commonF]
  | succ d ih =>
    intro n i x q hd hi hx hn
    obtain ⟨n, rfl⟩ : ∃ m, n = m + 1 := ⟨n - 1, by omega⟩
    subst hx
    rw [lpAt_def]
    conv => lhs; whnf
    refine br_t (dt (by omega)) ?_
    conv => lhs; whnf
    conv => lhs; arg 1; whnf
    refine bnd_g (by exact ⟨⟨by omega, by omega⟩, by omega, by omega⟩) ?_
    conv => lhs; whnf
    rw [getD_drop (l := a) (i := i) (d := 0) (by omega)]
    have hE : hasE s i = s.toNat.testBit (i : Int).toNat := by
      unfold hasE
      rw [hs, dt (show 0 ≤ (i : Int) ∧ (i : Int) ≤ 7 by omega)]
      rfl
    refine br_c (fun h => ?_) (fun h => ?_)
    · conv => lhs; whnf
      refine br_t (dt2 (by omega) (by omega)) ?_
      conv => lhs; whnf
      rw [ih n (i + 1) _ _ (by omega) (by omega) (by rw [wrap64 (by omega) (by omega)]; simp) (by omega)]
      rw [commonF, hE, h, cond_true]
      rfl
    · conv => lhs; whnf
      rw [ih n (i + 1) _ _ (by omega) (by omega) (by rw [wrap64 (by omega) (by omega)]; simp) (by omega)]
      rw [commonF, hE, h, cond_false]
theorem ev_specIntent (m : Int) (a : List Int) (s : Int) (hp : a.length ≤ 8 ∧ isSet 8 s = true) : evF E_specIntent (a.length + 2) Tryz.f82 [.agg [.int .i64 m, .lst (.int .i64) a], .int .i64 s] [] = some (.int .i64 (intentF m a s), []) := by
  conv => lhs; whnf
  conv => lhs; arg 1; whnf
  refine bnd_g (by exact True.intro) ?_
  conv => lhs; whnf
  refine (lp_specIntent m a s hp.1 hp.2 _ a.length _ 0 0 _ rfl (by omega) rfl (by omega)).trans ?_
  conv => lhs; whnf
  rfl
theorem ok_specIntent : FnOk Tryz.prog 82 K_specIntent := by
  refine fn_ok (fn := Tryz.f82) (k := Tryz.f82.ntmps) (E := E_specIntent) (facts_of (List.forall_mem_cons.2 ⟨ok_specFullSet, List.forall_mem_cons.2 ⟨ok_l2Has, List.forall_mem_nil _⟩⟩)) (by kernel_rfl) rfl (by decide +kernel) (by decide +kernel) ?_
  intro avs hin r h
  unfold K_specIntent at h
  split at h
  · obtain ⟨hp, rfl⟩ := gd_o h
    exact ⟨_, ev_specIntent _ _ _ hp, rfl⟩
  · cases h

/- spec.l4Closure -/
def K_specClosure : List AV → List Ob → Option (AV × List Ob)
  | [.agg [.int .i64 m, .lst (.int .i64) b], .int .i64 s], [] => gd (isCtx m b = true ∧ (0 ≤ s ∧ s ≤ 255)) (.int .i64 (intentF m b (extF b s)), [])
  | _, _ => none
@[reducible] def E_specClosure : Env := mkE (tb [(83, K_specExtent), (82, K_specIntent)]) (fun f => false) (fun r => ([], []))
theorem ev_specClosure (m : Int) (b : List Int) (s : Int) (hp : isCtx m b = true ∧ (0 ≤ s ∧ s ≤ 255)) : evF E_specClosure (1) Tryz.f55 [.agg [.int .i64 m, .lst (.int .i64) b], .int .i64 s] [] = some (.int .i64 (intentF m b (extF b s)), []) := by
  have hl := isCtx_len hp.1
  obtain ⟨t, rfl⟩ : ∃ t : Nat, s = t := ⟨s.toNat, by omega⟩
  have he := extF_spec hl.1 (ctx_small hp.1) (s := t) (by omega)
  conv => lhs; whnf
  conv => lhs; arg 1; whnf
  refine bnd_g (by exact hl.1) ?_
  conv => lhs; whnf
  conv => lhs; arg 1; whnf
  refine bnd_g (by exact ⟨hl.1, by rw [isSet8]; exact dt ⟨he.1, he.2.1⟩⟩) ?_
  conv => lhs; whnf
  repeat ((first | with_reducible apply br_tt | with_reducible apply br_ff | with_reducible apply br_nf | with_reducible apply br_nt | with_reducible refine br_d ?_ (by kernel_rfl)); conv => lhs; whnf)
theorem ok_specClosure : FnOk Tryz.prog 55 K_specClosure := by
  refine fn_ok (fn := Tryz.f55) (k := Tryz.f55.ntmps) (E := E_specClosure) (facts_of (List.forall_mem_cons.2 ⟨ok_specExtent, List.forall_mem_cons.2 ⟨ok_specIntent, List.forall_mem_nil _⟩⟩)) (by kernel_rfl) rfl (by decide +kernel) (by decide +kernel) ?_
  intro avs hin r h
  unfold K_specClosure at h
  split at h
  · obtain ⟨hp, rfl⟩ := gd_o h
    exact ⟨_, ev_specClosure _ _ _ hp, rfl⟩
  · cases h

/- spec.l5Concept -/
def K_specConcept : List AV → List Ob → Option (AV × List Ob)
  | [.agg [.int .i64 m, .lst (.int .i64) b], .int .i64 s], [] => gd (isCtx m b = true ∧ (0 ≤ s ∧ s ≤ 255)) (.agg [.int .i64 (extF b s), .int .i64 (intentF m b (extF b s))], [])
  | _, _ => none
@[reducible] def E_specConcept : Env := mkE (tb [(83, K_specExtent), (82, K_specIntent)]) (fun f => false) (fun r => ([], []))
theorem ev_specConcept (m : Int) (b : List Int) (s : Int) (hp : isCtx m b = true ∧ (0 ≤ s ∧ s ≤ 255)) : evF E_specConcept (1) Tryz.f56 [.agg [.int .i64 m, .lst (.int .i64) b], .int .i64 s] [] = some (.agg [.int .i64 (extF b s), .int .i64 (intentF m b (extF b s))], []) := by
  have hl := isCtx_len hp.1
  obtain ⟨t, rfl⟩ : ∃ t : Nat, s = t := ⟨s.toNat, by omega⟩
  have he := extF_spec hl.1 (ctx_small hp.1) (s := t) (by omega)
  conv => lhs; whnf
  conv => lhs; arg 1; whnf
  refine bnd_g (by exact hl.1) ?_
  conv => lhs; whnf
  conv => lhs; arg 1; whnf
  refine bnd_g (by exact ⟨hl.1, by rw [isSet8]; exact dt ⟨he.1, he.2.1⟩⟩) ?_
  conv => lhs; whnf
theorem ok_specConcept : FnOk Tryz.prog 56 K_specConcept := by
  refine fn_ok (fn := Tryz.f56) (k := Tryz.f56.ntmps) (E := E_specConcept) (facts_of (List.forall_mem_cons.2 ⟨ok_specExtent, List.forall_mem_cons.2 ⟨ok_specIntent, List.forall_mem_nil _⟩⟩)) (by kernel_rfl) rfl (by decide +kernel) (by decide +kernel) ?_
  intro avs hin r h
  unfold K_specConcept at h
  split at h
  · obtain ⟨hp, rfl⟩ := gd_o h
    exact ⟨_, ev_specConcept _ _ _ hp, rfl⟩
  · cases h

/- spec.l5Next -/
def K_specNext : List AV → List Ob → Option (AV × List Ob)
  | [.agg [.int .i64 m, .lst (.int .i64) b], .int .i64 s], [] => gd (isCtx m b = true ∧ isSet m s = true) (.tup [.int .i64 (nextX m b s), .bool (nextOk m b s)], [])
  | _, _ => none
@[reducible] def E_specNext : Env := mkE (tb [(70, K_l2Has), (68, K_specFullSet), (55, K_specClosure)]) (fun f => false) (fun r => bif r == 2 then ([1, 2, 6], [1, 2, 4, 5, 6]) else ([], []))
theorem lp_specNext (m : Int) (b : List Int) (hc : isCtx m b = true) (s : Nat) (hs : s < 2 ^ m.toNat) (k : AX → S → Option (AV × List Ob)) (r : Nat → Option (AV × List Ob)) (hk : ∀ (y : Nat) (q : Int), k .ret (mkS [1, 2, 4, 5, 6] [.int .i64 (s : Int), .ptr 0 0, .int .i64 (y : Int), .bool true, .int .i64 q] [some (.box 26 [.int .i64 m, .lst (.int .i64) b])]) = r y) (d : Nat) : ∀ (n : Nat) (x : Int), (d : Int) ≤ m → x = (d : Int) - 1 → d < n →
    lpAt E_specNext (lp E_specNext 0 n) 0 (loopAt Tryz.f57 0) (mkS [1, 2, 6] [.int .i64 (s : Int), .ptr 0 0, .int .i64 x] [some (.box 26 [.int .i64 m, .lst (.int .i64) b])]) k =
      match nextN (clN m b) s d with
      | none => k (.exit 0) (mkS [1, 2, 4, 5, 6] [.int .i64 (s : Int), .ptr 0 0, .any, .any, .int .i64 (-1)] [some (.box 26 [.int .i64 m, .lst (.int .i64) b])])
      | some y => r y := by
  have hl := isCtx_len hc
  have h256 : s < 256 := by
    have : 2 ^ m.toNat ≤ 2 ^ 8 := Nat.pow_le_pow_right (by omega) (by omega)
    omega
  induction d with
  | zero =>
    intro n x hd hx hn
    subst hx
    rw [lpAt_def]
    conv => lhs; whnf
    refine br_f (df (by omega)) ?_
    conv => lhs; whnf
    rw [nextN]
    rfl
  | succ d ih =>
    intro n x hd hx hn
    obtain ⟨n, rfl⟩ : ∃ m, n = m + 1 := ⟨n - 1, by omega⟩
    have hx : x = (d : Int) := by omega
    subst hx
    rw [lpAt_def]
    conv => lhs; whnf
    refine br_t (dt (by omega)) ?_
    conv => lhs; whnf
    conv => lhs; arg 1; whnf
    refine bnd_g (by exact ⟨⟨by omega, by omega⟩, by omega, by omega⟩) ?_
    conv => lhs; whnf
    have hw : IntKind.i64.wrap ((d : Int) - 1) = (d : Int) - 1 := wrap64 (by omega) (by omega)
    have hX : bor (band (s : Int) (fullSet (d : Int))) (IntKind.i64.wrap (1 * 2 ^ min (IntKind.u64.wrap (d : Int)).toNat IntKind.i64.bits)) = ((addN s d : Nat) : Int) := by
      rw [band_low h256 (by omega), shl1u (by omega), bor_add h256 (by omega)]
    have hA : addN s d < 2 ^ m.toNat := addN_lt (by omega)
    have hp8 : 2 ^ m.toNat ≤ 2 ^ 6 := Nat.pow_le_pow_right (by omega) (by omega)
    have hcl := (cl_clo hc).lt _ hA
    refine br_c (fun h => ?_) (fun h => ?_)
    · have h' : s.testBit d = true := h
      conv => lhs; whnf
      rw [hw, ih n _ (by omega) rfl (by omega)]
      rw [nextN, if_pos h']
    · have h' : s.testBit d = false := h
      conv => lhs; whnf
      conv => lhs; arg 1; whnf
      refine bnd_g (by exact True.intro) ?_
      conv => lhs; whnf
      refine br_f (by (rw [wrapu (n := (d : Int)) (by omega) (by omega)]; exact df (by omega))) ?_
      conv => lhs; whnf
      conv => lhs; arg 1; whnf
      refine bnd_g (by (change isCtx m b = true ∧ (0 ≤ bor (band (s : Int) (fullSet (d : Int))) (IntKind.i64.wrap (1 * 2 ^ min (IntKind.u64.wrap (d : Int)).toNat IntKind.i64.bits)) ∧ bor (band (s : Int) (fullSet (d : Int))) (IntKind.i64.wrap (1 * 2 ^ min (IntKind.u64.wrap (d : Int)).toNat IntKind.i64.bits)) ≤ 255); rw [hX]; exact ⟨hc, by omega, by omega⟩)) ?_
      conv => lhs; whnf
      conv => lhs; arg 1; whnf
      refine bnd_g (by exact True.intro) ?_
      conv => lhs; whnf
      have hcond : (band (intentF m b (extF b (bor (band (s : Int) (fullSet (d : Int))) (IntKind.i64.wrap (1 * 2 ^ min (IntKind.u64.wrap (d : Int)).toNat IntKind.i64.bits))))) (fullSet (d : Int)) == band (s : Int) (fullSet (d : Int))) = decide (lowN (clN m b (addN s d)) d = lowN s d) := by
        rw [hX, clN_int hc (by omega), band_low (by omega) (by omega), band_low h256 (by omega)]
        rw [Bool.eq_iff_iff, beq_iff_eq, decide_eq_true_eq]
        omega
      refine br_c (fun h2 => ?_) (fun h2 => ?_)
      · have h2' : lowN (clN m b (addN s d)) d = lowN s d := ofd (hcond.symm.trans h2)
        conv => lhs; whnf
        rw [nextN, if_neg (by rw [h']; exact Bool.false_ne_true), if_pos h2']
        have e : intentF m b (extF b (bor (band (s : Int) (fullSet (d : Int))) (IntKind.i64.wrap (1 * 2 ^ min (IntKind.u64.wrap (d : Int)).toNat IntKind.i64.bits)))) = ((clN m b (addN s d) : Nat) : Int) := by rw [hX, clN_int hc (by omega)]
        refine Eq.trans (congrArg (fun z => k .ret (mkS [1, 2, 4, 5, 6] [.int .i64 (s : Int), .ptr 0 0, .int .i64 z, .bool true, .int .i64 (d : Int)] [some (.box 26 [.int .i64 m, .lst (.int .i64) b])])) e) ?_
        exact hk _ _
      · have h2' : ¬ lowN (clN m b (addN s d)) d = lowN s d := ofn (hcond.symm.trans h2)
        conv => lhs; whnf
        rw [hw, ih n _ (by omega) rfl (by omega)]
        rw [nextN, if_neg (by rw [h']; exact Bool.false_ne_true), if_neg h2']
theorem ev_specNext (m : Int) (b : List Int) (s : Int) (hp : isCtx m b = true ∧ isSet m s = true) : evF E_specNext (20) Tryz.f57 [.agg [.int .i64 m, .lst (.int .i64) b], .int .i64 s] [] = some (.tup [.int .i64 (nextX m b s), .bool (nextOk m b s)], []) := by
  have hl := isCtx_len hp.1
  obtain ⟨t, rfl, ht⟩ := isSet_ex hp.2
  have hw : IntKind.i64.wrap (m - 1) = m - 1 := wrap64 (by omega) (by omega)
  conv => lhs; whnf
  rw [hw]
  refine (lp_specNext m b hp.1 t ht _ _ (fun _ _ => rfl) m.toNat _ _ (by omega) (by omega) (by change _ < 19; omega)).trans ?_
  unfold nextX nextOk
  rw [Int.toNat_natCast]
  cases nextN (clN m b) t m.toNat with
  | none =>
    conv => lhs; whnf
    rfl
  | some y =>
    conv => lhs; whnf
    rfl
theorem ok_specNext : FnOk Tryz.prog 57 K_specNext := by
  refine fn_ok (fn := Tryz.f57) (k := Tryz.f57.ntmps) (E := E_specNext) (facts_of (List.forall_mem_cons.2 ⟨ok_l2Has, List.forall_mem_cons.2 ⟨ok_specFullSet, List.forall_mem_cons.2 ⟨ok_specClosure, List.forall_mem_nil _⟩⟩⟩)) (by kernel_rfl) rfl (by decide +kernel) (by decide +kernel) ?_
  intro avs hin r h
  unfold K_specNext at h
  split at h
  · obtain ⟨hp, rfl⟩ := gd_o h
    exact ⟨_, ev_specNext _ _ _ hp, rfl⟩
  · cases h

/- spec.Concepts -/
def K_specConcepts : List AV → List Ob → Option (AV × List Ob)
  | [.agg [.int .i64 m, .lst (.int .i64) a]], [] => gd (a.length ≤ 1048576) (.own 0, [.row 56 (.pair (.int .i64) (.int .i64)) (concF m a)])
  | _, _ => none
@[reducible] def E_specConcepts : Env := mkE (tb [(54, K_specIsContext), (55, K_specClosure), (56, K_specConcept), (57, K_specNext)]) (fun f => false) (fun r => bif r == 5 then ([1, 3, 4], [2]) else ([], []))
theorem lp_specConcepts (m : Int) (a : List Int) (hc : isCtx m a = true) (k : AX → S → Option (AV × List Ob)) (d : Nat) : ∀ (n : Nat) (p : List Nat) (s : Nat) (q : List Nat) (zs : List (Int × Int)), q.length ≤ d → d < n → lecL m.toNat = p ++ s :: q → clN m a s = s → zs.length + d ≤ 200 →
    lpAt E_specConcepts (lp E_specConcepts 0 n) 0 (loopAt Tryz.f26 0) (mkS [1, 3, 4] [.ptr 0 0, .own 1, .int .i64 (s : Int)] [some (.box 26 [.int .i64 m, .lst (.int .i64) a]), some (.row 56 (.pair (.int .i64) (.int .i64)) zs)]) k =
      k .ret (mkS [2] [.own 0] [some (.row 56 (.pair (.int .i64) (.int .i64)) (zs ++ rowN a (s :: q.filter (isCl (clN m a)))))]) := by
  have hl := isCtx_len hc
  have hclo := cl_clo hc
  have hpw := pow64 (n := m.toNat) (by omega)
  induction d with
  | zero =>
    intro n p s q zs hq hn hL hs hz
    have hq0 : q = [] := List.eq_nil_of_length_eq_zero (by omega)
    have hs2 : s < 2 ^ m.toNat := (lecL_mem (n := m.toNat) (by omega)).1 (by rw [hL]; simp)
    have hset : isSet m (s : Int) = true := by
      have := isSet_nat (n := m.toNat) (by omega) hs2
      rwa [Int.toNat_of_nonneg hl.2.1] at this
    have hnx := next_find hclo (by omega) hL
    have hf : q.find? (isCl (clN m a)) = none := by rw [hq0]; rfl
    have hok : nextOk m a (s : Int) = false := by
      unfold nextOk
      rw [Int.toNat_natCast, hnx, hf]
      rfl
    have hpair : (extF a (s : Int), intentF m a (extF a (s : Int))) = pairI a (s : Int) := by
      unfold pairI
      rw [clN_int hc (by omega), hs]
    rw [lpAt_def]
    conv => lhs; whnf
    conv => lhs; arg 1; whnf
    refine bnd_g (by exact ⟨hc, by omega, by omega⟩) ?_
    conv => lhs; whnf
    refine br_t (dt (by simp [room]; omega)) ?_
    conv => lhs; whnf
    conv => lhs; arg 1; whnf
    refine bnd_g (by exact ⟨hc, hset⟩) ?_
    conv => lhs; whnf
    refine br_t (by (rw [hok]; rfl)) ?_
    conv => lhs; whnf
    subst hq0
    exact congrArg (fun z => k .ret (mkS [2] [.own 0] [some (.row 56 (.pair (.int .i64) (.int .i64)) (zs ++ [z]))])) hpair
  | succ d ih =>
    intro n p s q zs hq hn hL hs hz
    obtain ⟨n, rfl⟩ : ∃ m, n = m + 1 := ⟨n - 1, by omega⟩
    have hs2 : s < 2 ^ m.toNat := (lecL_mem (n := m.toNat) (by omega)).1 (by rw [hL]; simp)
    have hset : isSet m (s : Int) = true := by
      have := isSet_nat (n := m.toNat) (by omega) hs2
      rwa [Int.toNat_of_nonneg hl.2.1] at this
    have hnx := next_find hclo (by omega) hL
    have hpair : (extF a (s : Int), intentF m a (extF a (s : Int))) = pairI a (s : Int) := by
      unfold pairI
      rw [clN_int hc (by omega), hs]
    rw [lpAt_def]
    conv => lhs; whnf
    conv => lhs; arg 1; whnf
    refine bnd_g (by exact ⟨hc, by omega, by omega⟩) ?_
    conv => lhs; whnf
    refine br_t (dt (by simp [room]; omega)) ?_
    conv => lhs; whnf
    conv => lhs; arg 1; whnf
    refine bnd_g (by exact ⟨hc, hset⟩) ?_
    conv => lhs; whnf
    cases hf : q.find? (isCl (clN m a)) with
    | none =>
      have hok : nextOk m a (s : Int) = false := by
        unfold nextOk
        rw [Int.toNat_natCast, hnx, hf]
        rfl
      have hq0 : q.filter (isCl (clN m a)) = [] := by
        rw [List.filter_eq_nil_iff]
        intro x hx
        exact List.find?_eq_none.1 hf x hx
      refine br_t (by (rw [hok]; rfl)) ?_
      conv => lhs; whnf
      rw [hq0]
      exact congrArg (fun z => k .ret (mkS [2] [.own 0] [some (.row 56 (.pair (.int .i64) (.int .i64)) (zs ++ [z]))])) hpair
    | some x =>
      have hok : nextOk m a (s : Int) = true := by
        unfold nextOk
        rw [Int.toNat_natCast, hnx, hf]
        rfl
      have hxv : nextX m a (s : Int) = (x : Int) := by
        unfold nextX
        rw [Int.toNat_natCast, hnx, hf]
      obtain ⟨hx, u, v, huv, hu⟩ := List.find?_eq_some_iff_append.1 hf
      have hu0 : u.filter (isCl (clN m a)) = [] := by
        rw [List.filter_eq_nil_iff]
        intro y hy
        simpa using hu y hy
      refine br_f (by (rw [hok]; rfl)) ?_
      conv => lhs; whnf
      rw [hxv]
      subst huv
      refine (ih n (p ++ s :: u) x v _ (by simp at hq; omega) (by omega) (by rw [hL]; simp) (by simpa [isCl] using hx) (by simp; omega)).trans ?_
      rw [List.filter_append, List.filter_cons_of_pos hx, hu0, List.nil_append]
      have e : ∀ z : Int × Int, z = pairI a (s : Int) → (zs ++ [z]) ++ rowN a (x :: v.filter (isCl (clN m a))) = zs ++ rowN a (s :: x :: v.filter (isCl (clN m a))) := by
        rintro z rfl
        simp [rowN]
      exact congrArg (fun z => k .ret (mkS [2] [.own 0] [some (.row 56 (.pair (.int .i64) (.int .i64)) z)])) (e _ hpair)
theorem ev_specConcepts (m : Int) (a : List Int) (hp : a.length ≤ 1048576) : evF E_specConcepts (100) Tryz.f26 [.agg [.int .i64 m, .lst (.int .i64) a]] [] = some (.own 0, [.row 56 (.pair (.int .i64) (.int .i64)) (concF m a)]) := by
  conv => lhs; whnf
  conv => lhs; arg 1; whnf
  refine bnd_g (by omega) ?_
  conv => lhs; whnf
  refine br_c (fun h => ?_) (fun h => ?_)
  · have hf : concF m a = [] := by
      unfold concF
      rw [bnt h]
      rfl
    rw [hf]
    conv => lhs; whnf
  · have hc := bnf h
    have hl := isCtx_len hc
    obtain ⟨p, q, hL, hf⟩ := concF_start hc
    have hlen : (lecL m.toNat).length = 2 ^ m.toNat := by unfold lecL; simp
    have hpw := pow64 (n := m.toNat) (by omega)
    have hq : q.length ≤ 64 := by
      rw [hL] at hlen
      simp at hlen
      omega
    have e0 : intentF m a (extF a 0) = ((clN m a 0 : Nat) : Int) := clN_int hc (s := 0) (by omega)
    rw [hf]
    conv => lhs; whnf
    conv => lhs; arg 1; whnf
    refine bnd_g (by exact ⟨hc, by omega, by omega⟩) ?_
    conv => lhs; whnf
    rw [e0]
    refine (lp_specConcepts m a hc _ 64 _ p (clN m a 0) q [] hq (by decide) hL ((cl_clo hc).idem 0 (by omega)) (by simp)).trans ?_
    conv => lhs; whnf
    rfl
theorem ok_specConcepts : FnOk Tryz.prog 26 K_specConcepts := by
  refine fn_ok (fn := Tryz.f26) (k := Tryz.f26.ntmps) (E := E_specConcepts) (facts_of (List.forall_mem_cons.2 ⟨ok_specIsContext, List.forall_mem_cons.2 ⟨ok_specClosure, List.forall_mem_cons.2 ⟨ok_specConcept, List.forall_mem_cons.2 ⟨ok_specNext, List.forall_mem_nil _⟩⟩⟩⟩)) (by kernel_rfl) rfl (by decide +kernel) (by decide +kernel) ?_
  intro avs hin r h
  unfold K_specConcepts at h
  split at h
  · obtain ⟨hp, rfl⟩ := gd_o h
    exact ⟨_, ev_specConcepts _ _ hp, rfl⟩
  · cases h

end Go.Sym
