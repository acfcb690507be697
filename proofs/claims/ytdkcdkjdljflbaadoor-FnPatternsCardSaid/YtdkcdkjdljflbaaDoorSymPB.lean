/- Functions of the program, each told as a plain equation. -/
import Derived.Test.YtdkcdkjdljflbaaDoorSymPA
namespace Go.Sym
open Go.Proofs
set_option linter.unusedVariables false
set_option linter.unusedSimpArgs false
set_option maxRecDepth 100000
set_option maxHeartbeats 4000000

def isSet (n s : Int) : Bool := decide ((0 ≤ n ∧ n ≤ 8) ∧ (0 ≤ s ∧ s ≤ 2 ^ n.toNat - 1))
theorem shl_set {n : Int} (h0 : 0 ≤ n) (h8 : n ≤ 8) : IntKind.i64.wrap (IntKind.i64.wrap (1 * 2 ^ min n.toNat IntKind.i64.bits) - 1) = 2 ^ n.toNat - 1 := by
  have h : n = 0 ∨ n = 1 ∨ n = 2 ∨ n = 3 ∨ n = 4 ∨ n = 5 ∨ n = 6 ∨ n = 7 ∨ n = 8 := by omega
  rcases h with rfl | rfl | rfl | rfl | rfl | rfl | rfl | rfl | rfl <;> decide +kernel
theorem wrapu {n : Int} (h0 : 0 ≤ n) (h8 : n ≤ 8) : IntKind.u64.wrap n = n := by
  simp [IntKind.wrap, IntKind.bits, IntKind.signed]
  omega
theorem isSet8 (s : Int) : isSet 8 s = decide (0 ≤ s ∧ s ≤ 255) := by simp [isSet]
/-- The machine's and, and its and-not, on int. -/
def band (a b : Int) : Int := IntKind.i64.wrap (BitVec.ofInt IntKind.i64.bits a &&& BitVec.ofInt IntKind.i64.bits b).toNat
def bnot (a b : Int) : Int := IntKind.i64.wrap (BitVec.ofInt IntKind.i64.bits a &&& ~~~(BitVec.ofInt IntKind.i64.bits b)).toNat
def bor (a b : Int) : Int := IntKind.i64.wrap (BitVec.ofInt IntKind.i64.bits a ||| BitVec.ofInt IntKind.i64.bits b).toNat
theorem wrap_bv (x : BitVec 64) : IntKind.i64.wrap x.toNat = x.toInt := by
  simp [IntKind.wrap, IntKind.bits, IntKind.signed, BitVec.toInt]
  omega
theorem ofInt_toInt {a : Int} (h1 : -9223372036854775808 ≤ a) (h2 : a ≤ 9223372036854775807) : (BitVec.ofInt 64 a).toInt = a := by
  rw [BitVec.toInt_ofInt]
  simp [Int.bmod]
  omega
theorem bv_sub (x y : BitVec 64) : x &&& y = x ↔ x &&& ~~~y = 0#64 := by
  constructor
  · intro h
    apply BitVec.eq_of_getLsbD_eq
    intro i hi
    have h1 := congrArg (fun z => BitVec.getLsbD z i) h
    simp [hi] at h1 ⊢
    exact h1
  · intro h
    apply BitVec.eq_of_getLsbD_eq
    intro i hi
    have h1 := congrArg (fun z => BitVec.getLsbD z i) h
    simp [hi] at h1 ⊢
    exact h1
theorem sub_iff {a b : Int} (h1 : -9223372036854775808 ≤ a) (h2 : a ≤ 9223372036854775807) : band a b = a ↔ bnot a b = 0 := by
  unfold band bnot
  show IntKind.i64.wrap (BitVec.ofInt 64 a &&& BitVec.ofInt 64 b).toNat = a ↔ IntKind.i64.wrap (BitVec.ofInt 64 a &&& ~~~(BitVec.ofInt 64 b)).toNat = 0
  rw [wrap_bv, wrap_bv]
  conv => lhs; rhs; rw [← ofInt_toInt h1 h2]
  rw [BitVec.toInt_inj, ← BitVec.toInt_zero, BitVec.toInt_inj]
  exact bv_sub _ _
theorem shl1 {i : Nat} (h : i ≤ 8) : IntKind.i64.wrap (1 * 2 ^ min (i : Int).toNat IntKind.i64.bits) = ((2 ^ i : Nat) : Int) := by
  have h : i = 0 ∨ i = 1 ∨ i = 2 ∨ i = 3 ∨ i = 4 ∨ i = 5 ∨ i = 6 ∨ i = 7 ∨ i = 8 := by omega
  rcases h with rfl | rfl | rfl | rfl | rfl | rfl | rfl | rfl | rfl <;> decide
theorem shl1u {i : Nat} (h : i ≤ 8) : IntKind.i64.wrap (1 * 2 ^ min (IntKind.u64.wrap (i : Int)).toNat IntKind.i64.bits) = ((2 ^ i : Nat) : Int) := by
  rw [wrapu (by omega) (by omega)]
  exact shl1 h
def orF (p : Int → Bool) : Nat → Nat → Int → Int
  | 0, _, acc => acc
  | d + 1, i, acc => orF p d (i + 1) (bif p i then bor acc ((2 ^ i : Nat) : Int) else acc)
theorem orF_ext {p q : Int → Bool} : ∀ (d i : Nat) (acc : Int), (∀ j : Nat, i ≤ j → j < i + d → p j = q j) → orF p d i acc = orF q d i acc
  | 0, _, _, _ => rfl
  | d + 1, i, acc, h => by
    rw [orF, orF, h i (by omega) (by omega), orF_ext d (i + 1) _ (fun j h1 h2 => h j (by omega) (by omega))]
abbrev Cu := Int × Int
def curH (h : Int) : Int := IntKind.i64.wrap (IntKind.i64.wrap (h * 6364136223846793005) + 1442695040888963407)
def curX (h : Int) : Int := IntKind.i64.wrap ↑(BitVec.ofInt IntKind.i64.bits (IntKind.i64.wrap ↑(BitVec.ofInt IntKind.i64.bits ((curH h).fdiv (2 ^ min (Int.toNat 33) IntKind.i64.bits)) ^^^ BitVec.ofInt IntKind.i64.bits ((curH h).fdiv (2 ^ min (Int.toNat 45) IntKind.i64.bits))).toNat) &&& BitVec.ofInt IntKind.i64.bits 255).toNat
def curV (b : List Int) (c : Cu) : Int := if c.1 < b.length then band (IntKind.i64.wrap (curX c.2 + IntKind.i64.wrap (b.getD c.1.toNat 0))) 255 else curX c.2
def nx (b : List Int) (c : Cu) : Cu := (if c.1 < b.length then c.1 + 1 else c.1, curH c.2)
abbrev CuOk (b : List Int) (i : Int) : Prop := 0 ≤ i ∧ i ≤ b.length ∧ b.length ≤ 1048576
theorem nx_ok {b : List Int} {c : Cu} (h : CuOk b c.1) : CuOk b (nx b c).1 := by
  unfold nx
  dsimp only
  split
  · exact ⟨by omega, by omega, h.2.2⟩
  · exact h
theorem band_byte (x : Int) : 0 ≤ band x 255 ∧ band x 255 ≤ 255 := by
  unfold band
  have h : (BitVec.ofInt IntKind.i64.bits x &&& BitVec.ofInt IntKind.i64.bits 255).toNat ≤ 255 := by
    rw [BitVec.toNat_and]
    exact Nat.and_le_right
  rw [wrap64 (by omega) (by omega)]
  omega
theorem curV_rng (b : List Int) (c : Cu) : 0 ≤ curV b c ∧ curV b c ≤ 255 := by
  unfold curV
  split
  · exact band_byte _
  · exact band_byte _
def be (b : List Int) (c : Cu) (n : Int) : Int := (curV b c).tmod n
theorem be_rng (b : List Int) (c : Cu) {n : Int} (h : 0 < n) : 0 ≤ be b c n ∧ be b c n < n := by
  have := curV_rng b c
  unfold be
  exact ⟨Int.tmod_nonneg _ this.1, Int.tmod_lt_of_pos _ h⟩
def shlI (n : Int) : Int := IntKind.i64.wrap (1 * 2 ^ min n.toNat IntKind.i64.bits)
theorem shlI_nat {n : Nat} (h : n ≤ 8) : shlI (n : Int) = ((2 ^ n : Nat) : Int) := shl1 (by omega)
theorem shlI_rng {n : Int} (h0 : 0 ≤ n) (h8 : n ≤ 8) : 1 ≤ shlI n ∧ shlI n ≤ 256 := by
  obtain ⟨k, rfl⟩ : ∃ k : Nat, n = k := ⟨n.toNat, by omega⟩
  have h8 : 2 ^ k ≤ 2 ^ 8 := Nat.pow_le_pow_right (by omega) (by omega)
  have hp := Nat.two_pow_pos k
  rw [shlI_nat (by omega)]
  omega
def pick4 (x y z w : Int) (b : List Int) (c : Cu) : Int := [x, y, z, w].getD (be b c 4).toNat 0
/-- A set, mostly, and the cursor behind it. -/
def bent2 (b : List Int) (c : Cu) : Int := bif be b c 8 == 0 then pick4 (-1) 256 1000 (-9223372036854775808) b (nx b c) else be b (nx b c) 256
def mkRows (b : List Int) (m : Int) : Nat → Cu → List Int × Cu
  | 0, c => ([], c)
  | d + 1, c => bif be b c 2 == 0 then
      (be b (nx b c) (shlI m) :: (mkRows b m d (nx b (nx b c))).1, (mkRows b m d (nx b (nx b c))).2)
    else (bor (be b (nx b c) (shlI m)) (be b (nx b (nx b c)) (shlI m)) :: (mkRows b m d (nx b (nx b (nx b c)))).1, (mkRows b m d (nx b (nx b (nx b c)))).2)
theorem mkRows_ok {b : List Int} {m : Int} : ∀ (d : Nat) (c : Cu), CuOk b c.1 → (mkRows b m d c).1.length = d ∧ CuOk b (mkRows b m d c).2.1
  | 0, c, h => ⟨rfl, h⟩
  | d + 1, c, h => by
    have h1 := mkRows_ok (m := m) d (nx b (nx b c)) (nx_ok (nx_ok h))
    have h2 := mkRows_ok (m := m) d (nx b (nx b (nx b c))) (nx_ok (nx_ok (nx_ok h)))
    unfold mkRows
    cases be b c 2 == 0
    · exact ⟨by rw [cond_false, List.length_cons, h2.1], h2.2⟩
    · exact ⟨by rw [cond_true, List.length_cons, h1.1], h1.2⟩
def make3 (b : List Int) (m o : Int) (c : Cu) : List Int × Cu := mkRows b m (be b c (o + 1)).toNat (nx b c)
theorem make3_ok {b : List Int} {m o : Int} {c : Cu} (h : CuOk b c.1) (ho : 0 ≤ o) : ((make3 b m o c).1.length : Int) ≤ o ∧ CuOk b (make3 b m o c).2.1 := by
  have h1 := mkRows_ok (m := m) (be b c (o + 1)).toNat (nx b c) (nx_ok h)
  have h2 := be_rng b c (n := o + 1) (by omega)
  unfold make3
  exact ⟨by omega, h1.2⟩
def draw3m (b : List Int) (c : Cu) : Int := ([0, 1, 2, 3, 3, 4, 4, 5, 5] : List Int).getD (be b c 9).toNat 0
theorem draw3m_rng (b : List Int) (c : Cu) : 0 ≤ draw3m b c ∧ draw3m b c ≤ 5 := by
  have h := be_rng b c (n := 9) (by omega)
  unfold draw3m
  obtain ⟨k, hk⟩ : ∃ k : Nat, be b c 9 = k := ⟨(be b c 9).toNat, by omega⟩
  rw [hk] at h ⊢
  have : ∀ k : Fin 9, 0 ≤ ([0, 1, 2, 3, 3, 4, 4, 5, 5] : List Int).getD ((k.val : Int)).toNat 0 ∧ ([0, 1, 2, 3, 3, 4, 4, 5, 5] : List Int).getD ((k.val : Int)).toNat 0 ≤ 5 := by decide
  exact this ⟨k, by omega⟩
/-- A context: attributes, rows, and the cursor behind it. -/
def draw3 (b : List Int) (c : Cu) : Int × List Int × Cu := (draw3m b c, make3 b (draw3m b c) 6 (nx b c))
theorem draw3_ok {b : List Int} {c : Cu} (h : CuOk b c.1) : (0 ≤ (draw3 b c).1 ∧ (draw3 b c).1 ≤ 5) ∧ (draw3 b c).2.1.length ≤ 6 ∧ CuOk b (draw3 b c).2.2.1 := by
  have h1 := make3_ok (b := b) (m := draw3m b c) (o := 6) (nx_ok h) (by omega)
  exact ⟨draw3m_rng b c, by have := h1.1; unfold draw3; dsimp only; omega, h1.2⟩
def pad9 (a : List Int) : List Int := a ++ List.replicate (9 - a.length) 0
def bent3' (b : List Int) (x : Int × List Int × Cu) : Int × List Int × Cu :=
  bif be b x.2.2 14 == 0 then (pick4 (-1) 0 2 7 b (nx b x.2.2), x.2.1, nx b (nx b x.2.2))
  else bif be b x.2.2 14 == 1 then (x.1, x.2.1 ++ [bent2 b (nx b x.2.2)], nx b (nx b (nx b x.2.2)))
  else bif be b x.2.2 14 == 2 then (x.1, pad9 x.2.1, nx b x.2.2) else (x.1, x.2.1, nx b x.2.2)
def bent3 (b : List Int) (c : Cu) : Int × List Int × Cu := bent3' b (draw3 b c)
theorem bent3_ok {b : List Int} {c : Cu} (h : CuOk b c.1) : (bent3 b c).2.1.length ≤ 9 ∧ CuOk b (bent3 b c).2.2.1 := by
  obtain ⟨h1, h2, h3⟩ := draw3_ok h
  unfold bent3
  generalize draw3 b c = x at h1 h2 h3
  unfold bent3'
  have n1 := nx_ok h3
  have n2 := nx_ok n1
  have n3 := nx_ok n2
  cases be b x.2.2 14 == 0
  · cases be b x.2.2 14 == 1
    · cases be b x.2.2 14 == 2
      · exact ⟨by simp only [cond_false]; omega, n1⟩
      · refine ⟨?_, n1⟩
        simp only [cond_false, cond_true, pad9, List.length_append, List.length_replicate]
        omega
    · refine ⟨?_, n3⟩
      simp only [cond_false, cond_true, List.length_append, List.length_singleton]
      omega
  · exact ⟨by simp only [cond_true]; omega, n2⟩
def newL (b : List Int) : Nat → Nat → Int → Int
  | 0, _, h => h
  | d + 1, i, h => newL b d (i + 1) (band (IntKind.i64.wrap (IntKind.i64.wrap (IntKind.i64.wrap (h * 131) + IntKind.i64.wrap (b.getD i 0)) + 7)) 1073741823)
def newC (b : List Int) : Cu := (0, newL b (min b.length 4000) 0 (IntKind.i64.wrap (26583 + b.length)))
theorem newC_ok {b : List Int} (h : b.length ≤ 1048576) : CuOk b (newC b).1 := ⟨Int.le_refl 0, Int.natCast_nonneg _, h⟩
/-- A context with a set of its attributes, mostly. -/
def att4 (b : List Int) (c : Cu) : Int × List Int × Int :=
  bif be b (nx b (draw3 b c).2.2) 16 == 0 then ((bent3 b (nx b (nx b (draw3 b c).2.2))).1, (bent3 b (nx b (nx b (draw3 b c).2.2))).2.1, be b (draw3 b c).2.2 (shlI (draw3 b c).1))
  else bif be b (nx b (draw3 b c).2.2) 16 == 1 then ((draw3 b c).1, (draw3 b c).2.1, bent2 b (nx b (nx b (draw3 b c).2.2)))
  else ((draw3 b c).1, (draw3 b c).2.1, be b (draw3 b c).2.2 (shlI (draw3 b c).1))
theorem att4_len {b : List Int} {c : Cu} (h : CuOk b c.1) : (att4 b c).2.1.length ≤ 9 := by
  obtain ⟨h1, h2, h3⟩ := draw3_ok h
  have h4 := bent3_ok (b := b) (c := nx b (nx b (draw3 b c).2.2)) (nx_ok (nx_ok h3))
  unfold att4
  cases be b (nx b (draw3 b c).2.2) 16 == 0
  · cases be b (nx b (draw3 b c).2.2) 16 == 1
    · simp only [cond_false]; omega
    · simp only [cond_false, cond_true]; omega
  · simp only [cond_true]; exact h4.1
def badR (r : Int × Int) : Bool := !(isSet 8 r.1 && isSet 8 r.2)
def respOf (p q s : Int) : Bool := isSet 8 p && isSet 8 q && isSet 8 s && (!(bnot p s == 0) || bnot q s == 0)
theorem bne_bnot {p s : Int} (h : isSet 8 p = true) : (band p s != p) = !(bnot p s == 0) := by
  rw [isSet8] at h
  have h := of_decide_eq_true h
  have e := sub_iff (a := p) (b := s) (by omega) (by omega)
  simp only [bne]
  congr 1
  rw [Bool.eq_iff_iff, beq_iff_eq, beq_iff_eq, e]
theorem beq_bnot {p s : Int} (h : isSet 8 p = true) : (band p s == p) = (bnot p s == 0) := by
  have := bne_bnot (s := s) h
  simpa [bne] using this
def firstI {α : Type} (p : α → Bool) : List α → Int → Int
  | [], _ => -1
  | x :: r, i => bif p x then i else firstI p r (i + 1)
theorem firstI_iff {α : Type} (p : α → Bool) : ∀ (l : List α) (i : Int), 0 ≤ i → (decide (firstI p l i ≥ 0)) = l.any p
  | [], i, h => by simp [firstI]
  | x :: r, i, h => by
    cases hx : p x
    · simp only [firstI, hx, cond_false, List.any_cons, Bool.false_or]
      exact firstI_iff p r (i + 1) (by omega)
    · simp [firstI, hx]
      omega
theorem firstI_none {α : Type} (p : α → Bool) : ∀ (l : List α) (i : Int), l.any p = false → firstI p l i = -1
  | [], i, h => rfl
  | x :: r, i, h => by
    simp only [List.any_cons, Bool.or_eq_false_iff] at h
    simp only [firstI, h.1, cond_false]
    exact firstI_none p r (i + 1) h.2
def idxs {α : Type} (p : α → Bool) : List α → Int → List Int
  | [], _ => []
  | x :: r, i => bif p x then i :: idxs p r (i + 1) else idxs p r (i + 1)
def brk (a : List (Int × Int)) (s : Int) : List Int := idxs (fun r => !respOf r.1 r.2 s) a 0
theorem idxs_length {α : Type} (p : α → Bool) : ∀ (l : List α) (i : Int), (idxs p l i).length ≤ l.length
  | [], i => by simp [idxs]
  | x :: r, i => by
    have := idxs_length p r (i + 1)
    cases hx : p x <;> simp [idxs, hx] <;> omega
def okNum (n : Int) : Bool := decide (0 ≤ n ∧ n ≤ 9)
def badNum (n : Int) : Bool := !okNum n
def okPt (w : Nat) (x : List Int) : Bool := decide (x.length = w) && x.all okNum
def arePts (a : List (List Int)) : Bool := decide (1 ≤ a.length ∧ a.length ≤ 8) && (decide ((a.getD 0 []).length ≤ 3) && a.all (okPt (a.getD 0 []).length))
def badPt (a : List (List Int)) (x : List Int) : Bool := decide (x.length ≠ (a.getD 0 []).length) || decide (3 < x.length) || x.any badNum
theorem arePts_parts {a : List (List Int)} (h : arePts a = true) : (1 ≤ a.length ∧ a.length ≤ 8) ∧ (a.getD 0 []).length ≤ 3 ∧ ∀ x ∈ a, x.length = (a.getD 0 []).length := by
  unfold arePts at h
  simp only [Bool.and_eq_true, decide_eq_true_eq, List.all_eq_true] at h
  refine ⟨h.1, h.2.1, fun x hx => ?_⟩
  have := h.2.2 x hx
  unfold okPt at this
  simp only [Bool.and_eq_true, decide_eq_true_eq] at this
  exact this.1
theorem any_badPt {a : List (List Int)} (h : 1 ≤ a.length) : a.any (badPt a) = !(decide ((a.getD 0 []).length ≤ 3) && a.all (okPt (a.getD 0 []).length)) := by
  suffices hs : (!a.any (badPt a)) = (decide ((a.getD 0 []).length ≤ 3) && a.all (okPt (a.getD 0 []).length)) by rw [← hs, Bool.not_not]
  rw [Bool.eq_iff_iff]
  simp only [Bool.not_eq_true', List.any_eq_false, Bool.and_eq_true, List.all_eq_true, decide_eq_true_eq]
  constructor
  · intro g
    have g0 := g _ (mem_getD (d := []) (show 0 < a.length by omega))
    unfold badPt at g0
    simp only [Bool.or_eq_true, decide_eq_true_eq, not_or] at g0
    refine ⟨by omega, fun x hx => ?_⟩
    have g1 := g x hx
    unfold badPt at g1
    simp only [Bool.or_eq_true, decide_eq_true_eq, not_or] at g1
    unfold okPt
    rw [dt (by omega), Bool.true_and, List.all_eq_true]
    intro n hn
    have g2 := g1.2
    rw [Bool.not_eq_true, List.any_eq_false] at g2
    have := g2 n hn
    unfold badNum at this
    simpa using this
  · rintro ⟨g1, g2⟩ x hx
    have g3 := g2 x hx
    unfold okPt at g3
    simp only [Bool.and_eq_true, decide_eq_true_eq, List.all_eq_true] at g3
    unfold badPt
    simp only [Bool.or_eq_true, decide_eq_true_eq, not_or]
    refine ⟨⟨by omega, by omega⟩, ?_⟩
    rw [Bool.not_eq_true, List.any_eq_false]
    intro n hn
    unfold badNum
    simp [g3.2 n hn]
def isCtx (m : Int) (b : List Int) : Bool := decide (0 ≤ m ∧ m ≤ 6) && decide (b.length ≤ 8) && b.all (isSet m)
def badRow (m x : Int) : Bool := !isSet m x
def fullSet (n : Int) : Int := if 0 ≤ n ∧ n ≤ 8 then 2 ^ n.toNat - 1 else 0
theorem any_badRow (m : Int) (b : List Int) : (!b.any (badRow m)) = b.all (isSet m) := by
  simp [badRow, List.not_any_eq_all_not]
def hasE (s e : Int) : Bool := isSet 8 s && decide (0 ≤ e ∧ e ≤ 7) && s.toNat.testBit e.toNat
theorem bit_all : ∀ s : Fin 256, ∀ e : Fin 9, (band ((s.val : Int).fdiv (2 ^ min ((e.val : Int)).toNat IntKind.i64.bits)) 1 == 1) = s.val.testBit e.val := by decide +kernel
theorem bit_of {s e : Int} (h0 : 0 ≤ s) (h1 : s ≤ 255) (h2 : 0 ≤ e) (h3 : e ≤ 8) : (band (s.fdiv (2 ^ min e.toNat IntKind.i64.bits)) 1 == 1) = s.toNat.testBit e.toNat := by
  have := bit_all ⟨s.toNat, by omega⟩ ⟨e.toNat, by omega⟩
  simp only [Int.toNat_of_nonneg h0, Int.toNat_of_nonneg h2] at this
  exact this
theorem bv_rng (x : BitVec 64) : -9223372036854775808 ≤ x.toInt ∧ x.toInt ≤ 9223372036854775807 := by
  have h1 : x.toInt < 9223372036854775808 := x.toInt_lt
  have h2 : -9223372036854775808 ≤ x.toInt := x.le_toInt
  omega
theorem band_range (a b : Int) : -9223372036854775808 ≤ band a b ∧ band a b ≤ 9223372036854775807 := by
  unfold band
  rw [show IntKind.i64.wrap (BitVec.ofInt IntKind.i64.bits a &&& BitVec.ofInt IntKind.i64.bits b).toNat = (BitVec.ofInt 64 a &&& BitVec.ofInt 64 b).toInt from wrap_bv _]
  exact bv_rng _
theorem band_comm (a b : Int) : band a b = band b a := by
  unfold band
  rw [BitVec.and_comm]
def commonF (objs : Int) : List Int → Nat → Int → Int
  | [], _, acc => acc
  | x :: r, i, acc => commonF objs r (i + 1) (bif hasE objs i then band acc x else acc)
def Rng (x : Int) : Prop := -9223372036854775808 ≤ x ∧ x ≤ 9223372036854775807
theorem commonF_rng (s : Int) : ∀ (a : List Int) (i : Nat) (acc : Int), Rng acc → Rng (commonF s a i acc)
  | [], _, _, h => h
  | x :: r, i, acc, h => by
    unfold commonF
    refine commonF_rng s r (i + 1) _ ?_
    cases hasE s i
    · exact h
    · exact band_range acc x
theorem fullSet_rng (n : Int) : 0 ≤ fullSet n ∧ fullSet n ≤ 255 := by
  unfold fullSet
  split
  · rename_i h
    have h : n = 0 ∨ n = 1 ∨ n = 2 ∨ n = 3 ∨ n = 4 ∨ n = 5 ∨ n = 6 ∨ n = 7 ∨ n = 8 := by omega
    rcases h with rfl | rfl | rfl | rfl | rfl | rfl | rfl | rfl | rfl <;> decide
  · omega
def intentF (m : Int) (a : List Int) (s : Int) : Int := commonF s a 0 (fullSet m)
theorem intentF_rng (m : Int) (a : List Int) (s : Int) : Rng (intentF m a s) := by
  refine commonF_rng s a 0 _ ?_
  have := fullSet_rng m
  unfold Rng
  omega
theorem isSet_le {n s : Int} (h : isSet n s = true) : 0 ≤ n ∧ n ≤ 8 ∧ 0 ≤ s ∧ s ≤ 255 := by
  unfold isSet at h
  have h := of_decide_eq_true h
  have h8 : n = 0 ∨ n = 1 ∨ n = 2 ∨ n = 3 ∨ n = 4 ∨ n = 5 ∨ n = 6 ∨ n = 7 ∨ n = 8 := by omega
  rcases h8 with rfl | rfl | rfl | rfl | rfl | rfl | rfl | rfl | rfl <;> simp at h <;> omega
theorem isSet_8 {n s : Int} (h : isSet n s = true) : isSet 8 s = true := by
  have := isSet_le h
  rw [isSet8]
  exact decide_eq_true (by omega)
theorem isCtx_len {m : Int} {a : List Int} (h : isCtx m a = true) : a.length ≤ 8 ∧ 0 ≤ m ∧ m ≤ 6 ∧ ∀ x ∈ a, isSet m x = true := by
  unfold isCtx at h
  simp only [Bool.and_eq_true, decide_eq_true_eq, List.all_eq_true] at h
  exact ⟨h.1.2, h.1.1.1, h.1.1.2, h.2⟩
/-- f holds of i, .., i + d - 1. -/
def allB (f : Nat → Bool) : Nat → Nat → Bool
  | 0, _ => true
  | d + 1, i => f i && allB f d (i + 1)
theorem allB_iff (f : Nat → Bool) : ∀ (d i : Nat), allB f d i = true ↔ ∀ j, i ≤ j → j < i + d → f j = true
  | 0, i => by simp only [allB, true_iff]; intro j h1 h2; omega
  | d + 1, i => by
    rw [allB, Bool.and_eq_true, allB_iff f d (i + 1)]
    constructor
    · rintro ⟨h1, h2⟩ j h3 h4
      by_cases h : j = i
      · rw [h]; exact h1
      · exact h2 j (by omega) (by omega)
    · intro h
      exact ⟨h i (by omega) (by omega), fun j h1 h2 => h j (by omega) (by omega)⟩
def bitI (s e : Int) : Bool := s.toNat.testBit e.toNat
def ordA (b : List Int) (a : Nat) : Bool := isSet b.length (b.getD a 0) && bitI (b.getD a 0) a
def ordBad (b : List Int) (a c : Nat) : Bool := bitI (b.getD a 0) c && ((band (b.getD c 0) (b.getD a 0) != b.getD c 0) || (decide ((a : Int) ≠ c) && bitI (b.getD c 0) a))
def ordRow (b : List Int) (a : Nat) : Bool := allB (fun c => !ordBad b a c) b.length 0
def isOrd (b : List Int) : Bool := decide (b.length ≤ 6) && (allB (ordA b) b.length 0 && allB (ordRow b) b.length 0)
theorem ordA_set {b : List Int} (h : allB (ordA b) b.length 0 = true) {a : Nat} (ha : a < b.length) : isSet b.length (b.getD a 0) = true := by
  have := (allB_iff _ _ _).1 h a (by omega) (by omega)
  unfold ordA at this
  exact (Bool.and_eq_true_iff.1 this).1
theorem isSet_bit {n s : Int} (h : isSet n s = true) {e : Nat} (he : n ≤ e) : bitI s e = false := by
  have hl := isSet_le h
  unfold isSet at h
  have h := of_decide_eq_true h
  unfold bitI
  refine Nat.testBit_lt_two_pow ?_
  have h1 : s.toNat < 2 ^ n.toNat := by
    have := h.2.2
    have e2 : ((2 ^ n.toNat : Nat) : Int) = (2 : Int) ^ n.toNat := by push_cast; rfl
    omega
  exact Nat.lt_of_lt_of_le h1 (Nat.pow_le_pow_right (by omega) (by omega))
theorem hasE_bit {s e : Int} (h : isSet 8 s = true) (h0 : 0 ≤ e) (h7 : e ≤ 7) : hasE s e = bitI s e := by
  unfold hasE bitI
  rw [h, dt (show 0 ≤ e ∧ e ≤ 7 from ⟨h0, h7⟩)]
  rfl
def elemsL (s : Int) : Nat → Nat → List Int
  | 0, _ => []
  | d + 1, i => bif hasE s i then (i : Int) :: elemsL s d (i + 1) else elemsL s d (i + 1)
def elemsF (s : Int) : List Int := elemsL s 8 0
theorem elemsL_length (s : Int) : ∀ (d i : Nat), (elemsL s d i).length ≤ d
  | 0, _ => Nat.le_refl 0
  | d + 1, i => by
    have := elemsL_length s d (i + 1)
    unfold elemsL
    cases hasE s i <;> simp <;> omega
theorem elemsL_any (s : Int) (p : Int → Bool) : ∀ (d i : Nat), (elemsL s d i).any p = !allB (fun e => !(hasE s e && p e)) d i
  | 0, _ => rfl
  | d + 1, i => by
    unfold elemsL allB
    cases h : hasE s i
    · rw [cond_false, elemsL_any s p d (i + 1)]; simp
    · rw [cond_true, List.any_cons, elemsL_any s p d (i + 1)]; simp
theorem elemsL_mem (s : Int) (x : Int) : ∀ (d i : Nat), x ∈ elemsL s d i → ∃ e : Nat, x = e ∧ i ≤ e ∧ e < i + d ∧ hasE s e = true
  | 0, _, h => by simp [elemsL] at h
  | d + 1, i, h => by
    unfold elemsL at h
    cases hE : hasE s i
    · rw [hE, cond_false] at h
      obtain ⟨e, h1, h2, h3, h4⟩ := elemsL_mem s x d (i + 1) h
      exact ⟨e, h1, by omega, by omega, h4⟩
    · rw [hE, cond_true] at h
      rcases List.mem_cons.1 h with h | h
      · exact ⟨i, h, by omega, by omega, hE⟩
      · obtain ⟨e, h1, h2, h3, h4⟩ := elemsL_mem s x d (i + 1) h
        exact ⟨e, h1, by omega, by omega, h4⟩
theorem elemsF_lt {n : Nat} {s x : Int} (h : isSet n s = true) (hx : x ∈ elemsF s) : 0 ≤ x ∧ x < n ∧ x ≤ 7 := by
  obtain ⟨e, h1, h2, h3, h4⟩ := elemsL_mem s x 8 0 hx
  subst h1
  rw [hasE_bit (isSet_8 h) (by omega) (by omega)] at h4
  refine ⟨by omega, ?_, by omega⟩
  rcases Nat.lt_or_ge e n with h5 | h5
  · omega
  · rw [isSet_bit h (by omega)] at h4
    cases h4
theorem allB_ext {f g : Nat → Bool} : ∀ (d i : Nat), (∀ j, i ≤ j → j < i + d → f j = g j) → allB f d i = allB g d i
  | 0, _, _ => rfl
  | d + 1, i, h => by
    rw [allB, allB, h i (by omega) (by omega), allB_ext d (i + 1) (fun j h1 h2 => h j (by omega) (by omega))]
theorem allB_cut {f : Nat → Bool} {d : Nat} : ∀ (n i : Nat), n ≤ d → (∀ j, i + n ≤ j → j < i + d → f j = true) → allB f d i = allB f n i := by
  intro n i hn h
  rw [Bool.eq_iff_iff, allB_iff, allB_iff]
  constructor
  · intro g j h1 h2; exact g j h1 (by omega)
  · intro g j h1 h2
    rcases Nat.lt_or_ge j (i + n) with h3 | h3
    · exact g j h1 h3
    · exact h j h3 h2
/-- A statement on a set's elements, and on the numbers below. -/
theorem elems_all {n : Nat} {s : Int} (h : isSet n s = true) (p : Int → Bool) : (elemsF s).any p = !allB (fun e => !(bitI s e && p e)) n 0 := by
  have hl := isSet_le h
  unfold elemsF
  rw [elemsL_any]
  congr 1
  rw [allB_cut n 0 (by omega)]
  · refine allB_ext n 0 (fun j h1 h2 => ?_)
    rw [hasE_bit (isSet_8 h) (by omega) (by omega)]
  · intro j h1 h2
    rw [hasE_bit (isSet_8 h) (by omega) (by omega), isSet_bit h (by omega)]
    rfl
def pairBad (b : List Int) (k : Nat) (s x : Int) : Bool := !(bnot (b.getD x.toNat 0) s == 0) || (decide (x ≠ k) && hasE (b.getD x.toNat 0) k)
theorem pairBad_row {b : List Int} (hl : b.length ≤ 6) (h : allB (ordA b) b.length 0 = true) {a : Nat} (ha : a < b.length) : (elemsF (b.getD a 0)).any (pairBad b a (b.getD a 0)) = !ordRow b a := by
  rw [elems_all (ordA_set h ha)]
  congr 1
  unfold ordRow
  refine allB_ext _ 0 (fun j h1 h2 => ?_)
  have hs := ordA_set h (show j < b.length by omega)
  have hr := isSet_le hs
  unfold ordBad pairBad
  rw [Int.toNat_natCast, hasE_bit (isSet_8 hs) (by omega) (by omega), ← bne_bnot (isSet_8 hs)]
  have e : decide ((j : Int) ≠ a) = decide ((a : Int) ≠ j) := decide_eq_decide.2 ⟨fun h => fun e => h e.symm, fun h => fun e => h e.symm⟩
  rw [e]
def iotaI : Int → Nat → List Int
  | _, 0 => []
  | k, n + 1 => k :: iotaI (k + 1) n
@[simp] theorem iotaI_length : ∀ (n : Nat) (k : Int), (iotaI k n).length = n
  | 0, _ => rfl
  | n + 1, k => by simp [iotaI, iotaI_length n]
def held (a : List Int) (k : Int) : Int := if a = iotaI k a.length then k + a.length else -1
theorem held_iota (k : Int) (n : Nat) : held (iotaI k n) k = k + n := by simp [held]
theorem take_set_succ {α : Type} {ys : List α} {i : Nat} {v : α} (h : i < ys.length) : (ys.set i v).take (i + 1) = ys.take i ++ [v] := by
  rw [List.take_succ_eq_append_getElem (by simpa using h), List.take_set_of_le (by omega)]
  simp
theorem getD_set_self {α : Type} {ys : List α} {i : Nat} {v d : α} (h : i < ys.length) : (ys.set i v).getD i d = v := by
  simp [List.getD, h]
def mixL (f : Int → Int → Int) : List Int → List Int → List Int
  | [], x => x
  | y :: ys, x => List.zipWith f (y :: ys) x
def hullStep (f : Int → Int → Int) (a : List (List Int)) (ys : List Int) (g : Int) : List Int := mixL f ys (a.getD g.toNat [])
def hullG (f : Int → Int → Int) (a : List (List Int)) (l : List Int) (ys : List Int) : List Int := l.foldl (hullStep f a) ys
def hullL (f : Int → Int → Int) (a : List (List Int)) (s : Int) : List Int := hullG f a (elemsF s) []
def hullF (a : List (List Int)) (s : Int) : List Int × List Int × Bool :=
  bif (arePts a && !(s == 0)) && isSet a.length s then (hullL min a s, hullL max a s, true) else ([], [], false)
abbrev tk (y : List Int) (i : Nat) : List Int := List.take i y ++ [y.getD i 0]
theorem tk_len {y : List Int} {i : Nat} (h : i < y.length) : (tk y i).length = i + 1 := by simp [tk]; omega
theorem tk_at {y : List Int} {i : Nat} (h : i < y.length) : (tk y i).getD i 0 = y.getD i 0 := by
  unfold tk
  rw [List.getD_eq_getElem?_getD, List.getElem?_append_right (by rw [List.length_take]; omega), List.length_take, Nat.min_eq_left (by omega)]
  simp
theorem tk_set {y : List Int} {i : Nat} (h : i < y.length) : (tk y i).set i (y.getD i 0) = y.take (i + 1) := by
  have e : tk y i = y.take (i + 1) := by
    unfold tk
    rw [List.take_succ_eq_append_getElem h]
    simp [List.getD_eq_getElem?_getD, List.getElem?_eq_getElem h]
  have g := tk_at h
  rw [e] at g ⊢
  apply List.ext_getElem?
  intro j
  rw [List.getElem?_set]
  split
  · rename_i hj
    subst hj
    rw [if_pos (by rw [List.length_take]; omega), ← g, List.getD_eq_getElem?_getD]
    rw [List.getElem?_eq_getElem (by rw [List.length_take]; omega)]
    rfl
  · rfl
theorem zip_set {f : Int → Int → Int} {l y : List Int} {i : Nat} (hl : l.length = y.length) (h : i < y.length) :
    (l.set i (f (l.getD i 0) (y.getD i 0))).take (i + 1) ++ List.zipWith f ((l.set i (f (l.getD i 0) (y.getD i 0))).drop (i + 1)) (y.drop (i + 1)) = l.take i ++ List.zipWith f (l.drop i) (y.drop i) := by
  rw [take_set_succ (by omega), List.drop_set_of_lt (by omega), getD_drop (l := l) (i := i) (d := 0) (by omega), getD_drop (l := y) (i := i) (d := 0) h, List.zipWith_cons_cons, List.append_assoc]
  rfl
theorem elems_first {n : Nat} (hn : n ≤ 8) {s : Int} (h : isSet n s = true) (h0 : s ≠ 0) : ∃ g l, elemsF s = g :: l ∧ (∀ x ∈ elemsF s, 0 ≤ x ∧ x < n ∧ x ≤ 7) := by
  have hm := fun x (hx : x ∈ elemsF s) => elemsF_lt h hx
  cases he : elemsF s with
  | nil =>
    exfalso
    apply h0
    have h8 := isSet_8 h
    have hr := isSet_le h8
    have hall : ∀ e : Nat, s.toNat.testBit e = false := by
      intro e
      rcases Nat.lt_or_ge e 8 with q | q
      · have ha := elemsL_any s (fun x => x == (e : Int)) 8 0
        unfold elemsF at he
        rw [he] at ha
        have hb : allB (fun j => !(hasE s j && ((j : Int) == (e : Int)))) 8 0 = true := by
          have : ([] : List Int).any (fun x => x == (e : Int)) = false := rfl
          rw [this] at ha
          rw [← Bool.not_eq_false']
          exact ha.symm
        have := (allB_iff _ _ _).1 hb e (by omega) (by omega)
        rw [beq_self_eq_true, Bool.and_true, Bool.not_eq_true', hasE_bit h8 (by omega) (by omega)] at this
        exact this
      · exact Nat.testBit_lt_two_pow (Nat.lt_of_lt_of_le (show s.toNat < 2 ^ 8 by omega) (Nat.pow_le_pow_right (by omega) q))
    have : s.toNat = 0 := Nat.eq_of_testBit_eq fun e => by rw [hall e, Nat.zero_testBit]
    omega
  | cons g l => exact ⟨g, l, rfl, by rw [← he]; exact hm⟩
theorem mixL_zip (f : Int → Int → Int) {ys x : List Int} (h : ys.length = x.length) : mixL f ys x = List.zipWith f ys x := by
  cases ys with
  | nil => cases x with
    | nil => rfl
    | cons => cases h
  | cons => rfl
theorem mixL_len (f : Int → Int → Int) {ys x : List Int} {w : Nat} (hx : x.length = w) (hy : ys = [] ∨ ys.length = w) : (mixL f ys x).length = w := by
  cases ys with
  | nil => exact hx
  | cons y ys =>
    rcases hy with hy | hy
    · cases hy
    · show (List.zipWith f (y :: ys) x).length = w
      rw [List.length_zipWith, hx, hy, Nat.min_self]
theorem hullG_len (f : Int → Int → Int) {a : List (List Int)} {w : Nat} : ∀ (l : List Int) (ys : List Int), (∀ g ∈ l, (a.getD g.toNat []).length = w) → (ys = [] ∨ ys.length = w) → hullG f a l ys = [] ∨ (hullG f a l ys).length = w
  | [], ys, _, hy => hy
  | g :: l, ys, hg, hy => hullG_len f l _ (fun g hg' => hg g (by simp [hg'])) (Or.inr (mixL_len f (hg g (by simp)) hy))
theorem zip_self {f : Int → Int → Int} (hf : ∀ n, f n n = n) : ∀ x : List Int, List.zipWith f x x = x
  | [] => rfl
  | n :: x => by rw [List.zipWith_cons_cons, hf, zip_self hf x]
theorem hull_first (f : Int → Int → Int) (hf : ∀ n, f n n = n) (a : List (List Int)) {g : Int} {l : List Int} : hullG f a (g :: l) (a.getD g.toNat []) = hullG f a (g :: l) [] := by
  unfold hullG
  rw [List.foldl_cons, List.foldl_cons]
  congr 1
  unfold hullStep
  generalize a.getD g.toNat [] = x
  cases x with
  | nil => rfl
  | cons y ys => exact zip_self hf (y :: ys)
theorem elemsL_cut (s : Int) : ∀ (d c i : Nat), (∀ j : Nat, i + d ≤ j → j < i + d + c → hasE s (j : Int) = false) → elemsL s (d + c) i = elemsL s d i
  | 0, 0, i, _ => rfl
  | 0, c + 1, i, h => by
    have := elemsL_cut s 0 c (i + 1) fun j h1 h2 => h j (by omega) (by omega)
    rw [Nat.zero_add] at this ⊢
    unfold elemsL
    rw [h i (by omega) (by omega), this]
    rfl
  | d + 1, c, i, h => by
    have := elemsL_cut s d c (i + 1) fun j h1 h2 => h j (by omega) (by omega)
    rw [show d + 1 + c = (d + c) + 1 by omega]
    unfold elemsL
    rw [this]
theorem elems_set {n : Nat} (hn : n ≤ 8) {s : Int} (h : isSet n s = true) : elemsF s = elemsL s n 0 := by
  unfold elemsF
  obtain ⟨c, hc⟩ : ∃ c, 8 = n + c := ⟨8 - n, by omega⟩
  rw [hc]
  refine elemsL_cut s n c 0 fun j h1 h2 => ?_
  rw [hasE_bit (isSet_8 h) (by omega) (by omega)]
  exact isSet_bit h (by omega)
theorem hullF_len {a : List (List Int)} (s : Int) : (hullF a s).1.length ≤ 3 ∧ (hullF a s).2.1.length ≤ 3 := by
  unfold hullF
  cases h : ((arePts a && !(s == 0)) && isSet a.length s)
  · exact ⟨by simp, by simp⟩
  · rw [Bool.and_eq_true, Bool.and_eq_true] at h
    have hp' := arePts_parts h.1.1
    have hm : ∀ g ∈ elemsF s, (a.getD g.toNat []).length = (a.getD 0 []).length := fun g hg => by
      have := elemsF_lt h.2 hg
      exact hp'.2.2 _ (mem_getD (by omega))
    have key : ∀ f, (hullL f a s).length ≤ 3 := by
      intro f
      unfold hullL
      rcases hullG_len f (elemsF s) [] hm (Or.inl rfl) with q | q
      · rw [q]; simp
      · rw [q]; exact hp'.2.1
    exact ⟨key min, key max⟩
def rowP (b : List Int) : Nat → Cu → List Int × Cu
  | 0, c => ([], c)
  | d + 1, c => (be b c 5 :: (rowP b d (nx b c)).1, (rowP b d (nx b c)).2)
def rowsP (b : List Int) (w : Nat) : Nat → Cu → List (List Int) × Cu
  | 0, c => ([], c)
  | d + 1, c => ((rowP b w c).1 :: (rowsP b w d (rowP b w c).2).1, (rowsP b w d (rowP b w c).2).2)
theorem rowP_ok {b : List Int} : ∀ (d : Nat) (c : Cu), CuOk b c.1 → (rowP b d c).1.length = d ∧ CuOk b (rowP b d c).2.1
  | 0, c, h => ⟨rfl, h⟩
  | d + 1, c, h => by
    have h1 := rowP_ok d (nx b c) (nx_ok h)
    unfold rowP
    exact ⟨by rw [List.length_cons, h1.1], h1.2⟩
theorem rowP_rng {b : List Int} : ∀ (d : Nat) (c : Cu), ∀ x ∈ (rowP b d c).1, 0 ≤ x ∧ x ≤ 9
  | 0, c, x, h => by cases h
  | d + 1, c, x, h => by
    unfold rowP at h
    rcases List.mem_cons.1 h with rfl | h
    · have := be_rng b c (n := 5) (by omega); omega
    · exact rowP_rng d (nx b c) x h
theorem rowsP_ok {b : List Int} {w : Nat} : ∀ (d : Nat) (c : Cu), CuOk b c.1 → ((rowsP b w d c).1.length = d ∧ ∀ r ∈ (rowsP b w d c).1, r.length = w ∧ ∀ x ∈ r, 0 ≤ x ∧ x ≤ 9) ∧ CuOk b (rowsP b w d c).2.1
  | 0, c, h => ⟨⟨rfl, fun r hr => by cases hr⟩, h⟩
  | d + 1, c, h => by
    have h0 := rowP_ok (b := b) w c h
    have h1 := rowsP_ok (w := w) d (rowP b w c).2 h0.2
    unfold rowsP
    refine ⟨⟨by rw [List.length_cons, h1.1.1], fun r hr => ?_⟩, h1.2⟩
    rcases List.mem_cons.1 hr with rfl | hr
    · exact ⟨h0.1, rowP_rng w c⟩
    · exact h1.1.2 r hr
def pick3 (x y z : Int) (b : List Int) (c : Cu) : Int := [x, y, z].getD (be b c 3).toNat 0
theorem pick3_rng (b : List Int) (c : Cu) : -1 ≤ pick3 (-1) 10 9 b c ∧ pick3 (-1) 10 9 b c ≤ 10 := by
  have h := be_rng b c (n := 3) (by omega)
  unfold pick3
  obtain ⟨k, hk⟩ : ∃ k : Nat, be b c 3 = k := ⟨(be b c 3).toNat, by omega⟩
  rw [hk] at h ⊢
  have : ∀ k : Fin 3, -1 ≤ ([-1, 10, 9] : List Int).getD ((k.val : Int)).toNat 0 ∧ ([-1, 10, 9] : List Int).getD ((k.val : Int)).toNat 0 ≤ 10 := by decide
  exact this ⟨k, by omega⟩
def nP (b : List Int) (c : Cu) : Int := 1 + be b c 5
def wP (b : List Int) (c : Cu) : Int := 1 + be b (nx b c) 3
def baseP (b : List Int) (c : Cu) : List (List Int) × Cu := rowsP b (wP b c).toNat (nP b c).toNat (nx b (nx b c))
def bendP (b : List Int) (x : List (List Int) × Cu) : List (List Int) × Cu :=
  bif be b x.2 14 == 0 then (x.1 ++ [[1]], nx b x.2)
  else bif be b x.2 14 == 1 then (x.1.set 0 ((x.1.getD 0 []).set 0 (pick3 (-1) 10 9 b (nx b x.2))), nx b (nx b x.2))
  else bif be b x.2 14 == 2 then ([], nx b x.2) else (x.1, nx b x.2)
def drawP (b : List Int) (c : Cu) : List (List Int) × Cu := bendP b (baseP b c)
theorem baseP_ok {b : List Int} {c : Cu} (h : CuOk b c.1) : ((1 ≤ (baseP b c).1.length ∧ (baseP b c).1.length ≤ 5) ∧ ∀ r ∈ (baseP b c).1, (1 ≤ r.length ∧ r.length ≤ 3) ∧ ∀ x ∈ r, 0 ≤ x ∧ x ≤ 9) ∧ CuOk b (baseP b c).2.1 := by
  have h1 := be_rng b c (n := 5) (by omega)
  have h2 := be_rng b (nx b c) (n := 3) (by omega)
  obtain ⟨⟨g1, g2⟩, g3⟩ := rowsP_ok (b := b) (w := (wP b c).toNat) (nP b c).toNat (nx b (nx b c)) (nx_ok (nx_ok h))
  have hn : 1 ≤ nP b c ∧ nP b c ≤ 5 := by unfold nP; omega
  have hw : 1 ≤ wP b c ∧ wP b c ≤ 3 := by unfold wP; omega
  unfold baseP
  refine ⟨⟨by omega, fun r hr => ?_⟩, g3⟩
  have := g2 r hr
  exact ⟨by omega, this.2⟩
theorem drawP_ok {b : List Int} {c : Cu} (h : CuOk b c.1) : ((drawP b c).1.length ≤ 6 ∧ ∀ r ∈ (drawP b c).1, r.length ≤ 3 ∧ ∀ x ∈ r, -1 ≤ x ∧ x ≤ 10) ∧ CuOk b (drawP b c).2.1 := by
  obtain ⟨⟨h1, h2⟩, h3⟩ := baseP_ok h
  unfold drawP
  generalize baseP b c = x at h1 h2 h3
  have n1 := nx_ok h3
  have n2 := nx_ok n1
  have hr : ∀ r ∈ x.1, r.length ≤ 3 ∧ ∀ y ∈ r, -1 ≤ y ∧ y ≤ 10 := fun r hr => by
    obtain ⟨q1, q2⟩ := h2 r hr
    exact ⟨by omega, fun y hy => by have := q2 y hy; omega⟩
  unfold bendP
  cases be b x.2 14 == 0
  · cases be b x.2 14 == 1
    · cases be b x.2 14 == 2
      · exact ⟨⟨by simp only [cond_false]; omega, hr⟩, n1⟩
      · exact ⟨⟨by simp only [cond_false, cond_true]; simp, fun r hr => by cases hr⟩, n1⟩
    · refine ⟨⟨by simp only [cond_false, cond_true, List.length_set]; omega, fun r hr' => ?_⟩, n2⟩
      simp only [cond_false, cond_true] at hr'
      rcases List.mem_or_eq_of_mem_set hr' with hr' | rfl
      · exact hr r hr'
      · have h0 := hr _ (mem_getD (l := x.1) (d := []) (show 0 < x.1.length by omega))
        refine ⟨by rw [List.length_set]; exact h0.1, fun y hy => ?_⟩
        rcases List.mem_or_eq_of_mem_set hy with hy | rfl
        · exact h0.2 y hy
        · exact pick3_rng b _
  · refine ⟨⟨by simp only [cond_true, List.length_append, List.length_singleton]; omega, fun r hr' => ?_⟩, n1⟩
    simp only [cond_true] at hr'
    rcases List.mem_append.1 hr' with hr' | hr'
    · exact hr r hr'
    · rw [List.mem_singleton.1 hr']
      exact ⟨by simp, fun y hy => by rw [List.mem_singleton.1 hy]; omega⟩
/- spec.l1Byte -/
def K_l1Byte : List AV → List Ob → Option (AV × List Ob)
  | [.ptr 0 0], [.box 91 [.lst (.int .u8) b, .int .i64 i, .int .i64 h]] => gd (CuOk b i) (.int .i64 (curV b (i, h)), [.box 91 [.lst (.int .u8) b, .int .i64 (nx b (i, h)).1, .int .i64 (nx b (i, h)).2]])
  | _, _ => none
@[reducible] def E_l1Byte : Env := mkE (tb []) (fun f => false) (fun r => ([], []))
theorem ev_l1Byte (b : List Int) (i h : Int) (hp : CuOk b i) : evF E_l1Byte (1) Tryd.f80 [.ptr 0 0] [.box 91 [.lst (.int .u8) b, .int .i64 i, .int .i64 h]] = some (.int .i64 (curV b (i, h)), [.box 91 [.lst (.int .u8) b, .int .i64 (nx b (i, h)).1, .int .i64 (nx b (i, h)).2]]) := by
  have h1 := hp.1
  have h2 := hp.2.1
  have h3 := hp.2.2
  conv => lhs; whnf
  refine br_f (df (by omega)) ?_
  conv => lhs; whnf
  refine br_f (df (by omega)) ?_
  conv => lhs; whnf
  refine br_t (by kernel_rfl) ?_
  conv => lhs; whnf
  refine br_t (by kernel_rfl) ?_
  conv => lhs; whnf
  refine br_c (fun hc => ?_) (fun hc => ?_)
  · have h' := ofd hc
    conv => lhs; whnf
    refine br_t (dt2 (by omega) (by omega)) ?_
    conv => lhs; whnf
    refine br_t (by kernel_rfl) ?_
    conv => lhs; whnf
    have e1 : nx b (i, h) = (i + 1, curH h) := by unfold nx; rw [if_pos h']
    have e2 : curV b (i, h) = band (IntKind.i64.wrap (curX h + IntKind.i64.wrap (b.getD i.toNat 0))) 255 := if_pos h'
    rw [e1, e2, wrap64 (n := i + 1) (by omega) (by omega)]
    rfl
  · have h' := ofn hc
    conv => lhs; whnf
    have e1 : nx b (i, h) = (i, curH h) := by unfold nx; rw [if_neg h']
    have e2 : curV b (i, h) = curX h := if_neg h'
    rw [e1, e2]
    rfl
theorem ok_l1Byte : FnOk Tryd.prog 80 K_l1Byte := by
  refine fn_ok (fn := Tryd.f80) (k := Tryd.f80.ntmps) (E := E_l1Byte) (facts_of (List.forall_mem_nil _)) (by kernel_rfl) rfl (by decide +kernel) (by decide +kernel) ?_
  intro avs hin r h
  unfold K_l1Byte at h
  split at h
  · obtain ⟨hp, rfl⟩ := gd_o h
    exact ⟨_, ev_l1Byte _ _ _ hp, rfl⟩
  · cases h

/- spec.l1Below -/
def K_l1Below : List AV → List Ob → Option (AV × List Ob)
  | [.ptr 0 0, .int .i64 n], [.box 91 [.lst (.int .u8) b, .int .i64 i, .int .i64 h]] => gd (CuOk b i ∧ 1 ≤ n ∧ n ≤ 256) (.int .i64 (be b (i, h) n), [.box 91 [.lst (.int .u8) b, .int .i64 (nx b (i, h)).1, .int .i64 (nx b (i, h)).2]])
  | _, _ => none
@[reducible] def E_l1Below : Env := mkE (tb [(80, K_l1Byte)]) (fun f => [80].contains f) (fun r => ([], []))
theorem ev_l1Below (b : List Int) (i h : Int) (n : Int) (hp : CuOk b i ∧ 1 ≤ n ∧ n ≤ 256) : evF E_l1Below (1) Tryd.f42 [.ptr 0 0, .int .i64 n] [.box 91 [.lst (.int .u8) b, .int .i64 i, .int .i64 h]] = some (.int .i64 (be b (i, h) n), [.box 91 [.lst (.int .u8) b, .int .i64 (nx b (i, h)).1, .int .i64 (nx b (i, h)).2]]) := by
  have h1 := hp.2.1
  have h2 := hp.2.2
  have hr := be_rng b (i, h) (n := n) (by omega)
  conv => lhs; whnf
  refine br_f (df (by omega)) ?_
  conv => lhs; whnf
  refine br_t (dt (by omega)) ?_
  conv => lhs; whnf
  conv => lhs; arg 1; whnf
  refine bnd_g (by exact hp.1) ?_
  conv => lhs; whnf
  refine br_f (df (by omega)) ?_
  conv => lhs; whnf
  rfl
theorem ok_l1Below : FnOk Tryd.prog 42 K_l1Below := by
  refine fn_ok (fn := Tryd.f42) (k := Tryd.f42.ntmps) (E := E_l1Below) (facts_of (List.forall_mem_cons.2 ⟨ok_l1Byte, List.forall_mem_nil _⟩)) (by kernel_rfl) rfl (by decide +kernel) (by decide +kernel) ?_
  intro avs hin r h
  unfold K_l1Below at h
  split at h
  · obtain ⟨hp, rfl⟩ := gd_o h
    exact ⟨_, ev_l1Below _ _ _ _ hp, rfl⟩
  · cases h

/- spec.l1PickInt -/
def K_l1PickInt : List AV → List Ob → Option (AV × List Ob)
  | [.ptr 0 0, .own 1], [.box 91 [.lst (.int .u8) b, .int .i64 i, .int .i64 h], .row 3 (.int .i64) l] => gd (CuOk b i ∧ 1 ≤ l.length ∧ l.length ≤ 256) (.int .i64 (l.getD (be b (i, h) (l.length : Int)).toNat 0), [.box 91 [.lst (.int .u8) b, .int .i64 (nx b (i, h)).1, .int .i64 (nx b (i, h)).2], .row 3 (.int .i64) l])
  | _, _ => none
@[reducible] def E_l1PickInt : Env := mkE (tb [(42, K_l1Below)]) (fun f => [42].contains f) (fun r => ([], []))
theorem ev_l1PickInt (b : List Int) (i h : Int) (l : List Int) (hp : CuOk b i ∧ 1 ≤ l.length ∧ l.length ≤ 256) : evF E_l1PickInt (1) Tryd.f79 [.ptr 0 0, .own 1] [.box 91 [.lst (.int .u8) b, .int .i64 i, .int .i64 h], .row 3 (.int .i64) l] = some (.int .i64 (l.getD (be b (i, h) (l.length : Int)).toNat 0), [.box 91 [.lst (.int .u8) b, .int .i64 (nx b (i, h)).1, .int .i64 (nx b (i, h)).2], .row 3 (.int .i64) l]) := by
  have hr := be_rng b (i, h) (n := (l.length : Int)) (by omega)
  conv => lhs; whnf
  conv => lhs; arg 1; whnf
  refine bnd_g (by exact ⟨hp.1, by omega, by omega⟩) ?_
  conv => lhs; whnf
  refine br_t (dt2 (by omega) (by omega)) ?_
  conv => lhs; whnf
  refine br_t (dt (by omega)) ?_
  conv => lhs; whnf
  rfl
theorem ok_l1PickInt : FnOk Tryd.prog 79 K_l1PickInt := by
  refine fn_ok (fn := Tryd.f79) (k := Tryd.f79.ntmps) (E := E_l1PickInt) (facts_of (List.forall_mem_cons.2 ⟨ok_l1Below, List.forall_mem_nil _⟩)) (by kernel_rfl) rfl (by decide +kernel) (by decide +kernel) ?_
  intro avs hin r h
  unfold K_l1PickInt at h
  split at h
  · obtain ⟨hp, rfl⟩ := gd_o h
    exact ⟨_, ev_l1PickInt _ _ _ _ hp, rfl⟩
  · cases h

/- spec.l24Draw -/
def K_l24Draw : List AV → List Ob → Option (AV × List Ob)
  | [.ptr 0 0], [.box 91 [.lst (.int .u8) b, .int .i64 i, .int .i64 h]] => gd (CuOk b i) (.own 1, [.box 91 [.lst (.int .u8) b, .int .i64 (drawP b (i, h)).2.1, .int .i64 (drawP b (i, h)).2.2], .nest 27 3 (.int .i64) (drawP b (i, h)).1 none])
  | _, _ => none
@[reducible] def E_l24Draw : Env := mkE (tb [(42, K_l1Below), (79, K_l1PickInt)]) (fun f => [42, 79].contains f) (fun r => bif r == 5 then ([0, 3, 4, 5, 6], [0, 3, 4, 5, 6, 7]) else bif r == 9 then ([0, 3, 4, 5, 6, 7, 8], [0, 3, 4, 5, 6, 7]) else ([], []))
theorem lq_l24Draw (b : List Int) (N W K : Int) (hW : 0 ≤ W ∧ W ≤ 3) (yss : List (List Int)) (k : AX → S → Option (AV × List Ob)) (d : Nat) : ∀ (n i : Nat) (x i0 h0 : Int) (ys : List Int), W.toNat - i = d → i ≤ W.toNat → x = i → d < n → CuOk b i0 → ys.length ≤ i →
    lpAt E_l24Draw (lp E_l24Draw 1 n) 1 (loopAt Tryd.f41 1) (mkS [0, 3, 4, 5, 6, 7, 8] [.ptr 0 0, .own 1, .int .i64 N, .int .i64 W, .int .i64 K, .own 2, .int .i64 x] [some (.box 91 [.lst (.int .u8) b, .int .i64 i0, .int .i64 h0]), some (.nest 27 3 (.int .i64) yss none), some (.row 3 (.int .i64) ys)]) k =
      k (.exit 2) (mkS [0, 3, 4, 5, 6, 7] [.ptr 0 0, .own 1, .int .i64 N, .int .i64 W, .int .i64 K, .own 2] [some (.box 91 [.lst (.int .u8) b, .int .i64 (rowP b d (i0, h0)).2.1, .int .i64 (rowP b d (i0, h0)).2.2]), some (.nest 27 3 (.int .i64) yss none), some (.row 3 (.int .i64) (ys ++ (rowP b d (i0, h0)).1))]) := by
  induction d with
  | zero =>
    intro n i x i0 h0 ys hd hi hx hn hc hz
    subst hx
    rw [lpAt_def]
    conv => lhs; whnf
    refine br_f (df (by omega)) ?_
    conv => lhs; whnf
    rw [rowP, List.append_nil]
  | succ d ih =>
    intro n i x i0 h0 ys hd hi hx hn hc hz
    obtain ⟨n, rfl⟩ : ∃ m, n = m + 1 := ⟨n - 1, by omega⟩
    subst hx
    rw [lpAt_def]
    conv => lhs; whnf
    refine br_t (dt (by omega)) ?_
    conv => lhs; whnf
    conv => lhs; arg 1; whnf
    refine bnd_g (by exact ⟨hc, by omega, by omega⟩) ?_
    conv => lhs; whnf
    refine br_t (dt (by simp [room]; omega)) ?_
    conv => lhs; whnf
    refine (ih n (i + 1) (IntKind.i64.wrap ((i : Int) + 1)) _ _ _ (by omega) (by omega) (by rw [wrap64 (n := (i : Int) + 1) (by omega) (by omega)]; simp) (by omega) (nx_ok (c := (i0, h0)) hc) (by simp; omega)).trans ?_
    rw [rowP, List.append_assoc]
    rfl
theorem lp_l24Draw (b : List Int) (N W : Int) (hN : 0 ≤ N ∧ N ≤ 5) (hW : 0 ≤ W ∧ W ≤ 3) (k : AX → S → Option (AV × List Ob)) (d : Nat) : ∀ (n i : Nat) (x i0 h0 : Int) (yss : List (List Int)), N.toNat - i = d → i ≤ N.toNat → x = i → d + 10 < n → CuOk b i0 → yss.length ≤ i →
    lpAt E_l24Draw (lp E_l24Draw 1 n) 1 (loopAt Tryd.f41 0) (mkS [0, 3, 4, 5, 6] [.ptr 0 0, .own 1, .int .i64 N, .int .i64 W, .int .i64 x] [some (.box 91 [.lst (.int .u8) b, .int .i64 i0, .int .i64 h0]), some (.nest 27 3 (.int .i64) yss none)]) k =
      k (.exit 0) (mkS [0, 3, 4, 5, 6, 7] [.ptr 0 0, .own 1, .int .i64 N, .int .i64 W, .int .i64 N, .any] [some (.box 91 [.lst (.int .u8) b, .int .i64 (rowsP b W.toNat d (i0, h0)).2.1, .int .i64 (rowsP b W.toNat d (i0, h0)).2.2]), some (.nest 27 3 (.int .i64) (yss ++ (rowsP b W.toNat d (i0, h0)).1) none)]) := by
  induction d with
  | zero =>
    intro n i x i0 h0 yss hd hi hx hn hc hz
    have e : x = N := by omega
    subst e
    rw [lpAt_def]
    conv => lhs; whnf
    refine br_f (df (by omega)) ?_
    conv => lhs; whnf
    rw [rowsP, List.append_nil]
  | succ d ih =>
    intro n i x i0 h0 yss hd hi hx hn hc hz
    obtain ⟨n, rfl⟩ : ∃ m, n = m + 1 := ⟨n - 1, by omega⟩
    subst hx
    have hr := rowP_ok (b := b) W.toNat (i0, h0) hc
    rw [lpAt_def]
    conv => lhs; whnf
    refine br_t (dt (by omega)) ?_
    conv => lhs; whnf
    refine (lq_l24Draw b N W (i : Int) hW yss _ W.toNat _ 0 0 i0 h0 [] rfl (by omega) rfl (by omega) hc (by simp)).trans ?_
    conv => lhs; whnf
    refine br_t (dt (by simp [room]; omega)) ?_
    conv => lhs; whnf
    refine (ih n (i + 1) (IntKind.i64.wrap ((i : Int) + 1)) _ _ _ (by omega) (by omega) (by rw [wrap64 (n := (i : Int) + 1) (by omega) (by omega)]; simp) (by omega) hr.2 (by simp; omega)).trans ?_
    rw [rowsP, List.append_assoc]
    rfl
theorem ev_l24Draw (b : List Int) (i h : Int) (hp : CuOk b i) : evF E_l24Draw (40) Tryd.f41 [.ptr 0 0] [.box 91 [.lst (.int .u8) b, .int .i64 i, .int .i64 h]] = some (.own 1, [.box 91 [.lst (.int .u8) b, .int .i64 (drawP b (i, h)).2.1, .int .i64 (drawP b (i, h)).2.2], .nest 27 3 (.int .i64) (drawP b (i, h)).1 none]) := by
  have n1 := nx_ok (c := (i, h)) hp
  have n2 := nx_ok n1
  have h1 := be_rng b (i, h) (n := 5) (by omega)
  have h2 := be_rng b (nx b (i, h)) (n := 3) (by omega)
  have w1 : IntKind.i64.wrap (1 + be b (i, h) 5) = nP b (i, h) := wrap64 (by omega) (by omega)
  have w2 : IntKind.i64.wrap (1 + be b (nx b (i, h)) 3) = wP b (i, h) := wrap64 (by omega) (by omega)
  have hb := baseP_ok (b := b) (c := (i, h)) hp
  have hN : 0 ≤ nP b (i, h) ∧ nP b (i, h) ≤ 5 := by unfold nP; omega
  have hW : 0 ≤ wP b (i, h) ∧ wP b (i, h) ≤ 3 := by unfold wP; omega
  have n3 := hb.2
  have n4 := nx_ok n3
  conv => lhs; whnf
  conv => lhs; arg 1; whnf
  refine bnd_g (by exact ⟨hp, by omega, by omega⟩) ?_
  conv => lhs; whnf
  conv => lhs; arg 1; whnf
  refine bnd_g (by exact ⟨n1, by omega, by omega⟩) ?_
  conv => lhs; whnf
  refine (lp_l24Draw b (IntKind.i64.wrap (1 + be b (i, h) 5)) (IntKind.i64.wrap (1 + be b (nx b (i, h)) 3)) (by rw [w1]; exact hN) (by rw [w2]; exact hW) _ (IntKind.i64.wrap (1 + be b (i, h) 5)).toNat _ 0 0 (nx b (nx b (i, h))).1 (nx b (nx b (i, h))).2 [] rfl (Nat.zero_le _) rfl (by rw [w1]; change _ < 39; omega) n2 (by simp)).trans ?_
  have hbase : baseP b (i, h) = (rowsP b (IntKind.i64.wrap (1 + be b (nx b (i, h)) 3)).toNat (IntKind.i64.wrap (1 + be b (i, h) 5)).toNat ((nx b (nx b (i, h))).1, (nx b (nx b (i, h))).2)) := by unfold baseP; rw [w1, w2]
  have n3' : CuOk b (rowsP b (IntKind.i64.wrap (1 + be b (nx b (i, h)) 3)).toNat (IntKind.i64.wrap (1 + be b (i, h) 5)).toNat ((nx b (nx b (i, h))).1, (nx b (nx b (i, h))).2)).2.1 := by rw [← hbase]; exact n3
  have n4' : CuOk b (nx b (rowsP b (IntKind.i64.wrap (1 + be b (nx b (i, h)) 3)).toNat (IntKind.i64.wrap (1 + be b (i, h) 5)).toNat ((nx b (nx b (i, h))).1, (nx b (nx b (i, h))).2)).2).1 := nx_ok n3'
  have hlen : 1 ≤ (rowsP b (IntKind.i64.wrap (1 + be b (nx b (i, h)) 3)).toNat (IntKind.i64.wrap (1 + be b (i, h) 5)).toNat ((nx b (nx b (i, h))).1, (nx b (nx b (i, h))).2)).1.length ∧ (rowsP b (IntKind.i64.wrap (1 + be b (nx b (i, h)) 3)).toNat (IntKind.i64.wrap (1 + be b (i, h) 5)).toNat ((nx b (nx b (i, h))).1, (nx b (nx b (i, h))).2)).1.length ≤ 5 := by rw [← hbase]; exact hb.1.1
  have hrow : 1 ≤ ((rowsP b (IntKind.i64.wrap (1 + be b (nx b (i, h)) 3)).toNat (IntKind.i64.wrap (1 + be b (i, h) 5)).toNat ((nx b (nx b (i, h))).1, (nx b (nx b (i, h))).2)).1.getD 0 []).length := by
    have := (hb.1.2 _ (mem_getD (l := (baseP b (i, h)).1) (d := []) (show 0 < (baseP b (i, h)).1.length by have := hb.1.1; omega))).1.1
    rw [hbase] at this
    exact this
  conv => lhs; whnf
  conv => lhs; arg 1; whnf
  refine bnd_g (by exact ⟨n3', by omega, by omega⟩) ?_
  conv => lhs; whnf
  refine br_c (fun g => ?_) (fun g => ?_)
  · have g' : (be b (rowsP b (IntKind.i64.wrap (1 + be b (nx b (i, h)) 3)).toNat (IntKind.i64.wrap (1 + be b (i, h) 5)).toNat ((nx b (nx b (i, h))).1, (nx b (nx b (i, h))).2)).2 14 == 0) = true := g
    have e : drawP b (i, h) = ((rowsP b (IntKind.i64.wrap (1 + be b (nx b (i, h)) 3)).toNat (IntKind.i64.wrap (1 + be b (i, h) 5)).toNat ((nx b (nx b (i, h))).1, (nx b (nx b (i, h))).2)).1 ++ [[1]], nx b (rowsP b (IntKind.i64.wrap (1 + be b (nx b (i, h)) 3)).toNat (IntKind.i64.wrap (1 + be b (i, h) 5)).toNat ((nx b (nx b (i, h))).1, (nx b (nx b (i, h))).2)).2) := by unfold drawP bendP; rw [hbase, g']; rfl
    conv => rhs; rw [e]
    conv => lhs; whnf
    refine br_t (dt (by rw [List.nil_append]; change ((rowsP b (IntKind.i64.wrap (1 + be b (nx b (i, h)) 3)).toNat (IntKind.i64.wrap (1 + be b (i, h) 5)).toNat ((nx b (nx b (i, h))).1, (nx b (nx b (i, h))).2)).1.length + 1) * 24 ≤ room; unfold room; omega)) ?_
    conv => lhs; whnf
    all_goals rfl
  · have g' : (be b (rowsP b (IntKind.i64.wrap (1 + be b (nx b (i, h)) 3)).toNat (IntKind.i64.wrap (1 + be b (i, h) 5)).toNat ((nx b (nx b (i, h))).1, (nx b (nx b (i, h))).2)).2 14 == 0) = false := g
    conv => lhs; whnf
    refine br_c (fun g2 => ?_) (fun g2 => ?_)
    · have g2' : (be b (rowsP b (IntKind.i64.wrap (1 + be b (nx b (i, h)) 3)).toNat (IntKind.i64.wrap (1 + be b (i, h) 5)).toNat ((nx b (nx b (i, h))).1, (nx b (nx b (i, h))).2)).2 14 == 1) = true := g2
      have e : drawP b (i, h) = ((rowsP b (IntKind.i64.wrap (1 + be b (nx b (i, h)) 3)).toNat (IntKind.i64.wrap (1 + be b (i, h) 5)).toNat ((nx b (nx b (i, h))).1, (nx b (nx b (i, h))).2)).1.set 0 (((rowsP b (IntKind.i64.wrap (1 + be b (nx b (i, h)) 3)).toNat (IntKind.i64.wrap (1 + be b (i, h) 5)).toNat ((nx b (nx b (i, h))).1, (nx b (nx b (i, h))).2)).1.getD 0 []).set 0 (pick3 (-1) 10 9 b (nx b (rowsP b (IntKind.i64.wrap (1 + be b (nx b (i, h)) 3)).toNat (IntKind.i64.wrap (1 + be b (i, h) 5)).toNat ((nx b (nx b (i, h))).1, (nx b (nx b (i, h))).2)).2))), nx b (nx b (rowsP b (IntKind.i64.wrap (1 + be b (nx b (i, h)) 3)).toNat (IntKind.i64.wrap (1 + be b (i, h) 5)).toNat ((nx b (nx b (i, h))).1, (nx b (nx b (i, h))).2)).2)) := by unfold drawP bendP; rw [hbase, g', g2']; rfl
      conv => rhs; rw [e]
      conv => lhs; whnf
      refine br_t (dt2 (by omega) (by rw [List.nil_append]; omega)) ?_
      conv => lhs; whnf
      refine br_t (by exact decide_eq_true rfl) ?_
      conv => lhs; whnf
      conv => lhs; arg 1; whnf
      refine bnd_g (by exact ⟨n4', by simp, by simp⟩) ?_
      conv => lhs; whnf
      refine br_t (dt2 (by omega) (by change ((0 : Int) < ((([] ++ (rowsP b (IntKind.i64.wrap (1 + be b (nx b (i, h)) 3)).toNat (IntKind.i64.wrap (1 + be b (i, h) 5)).toNat ((nx b (nx b (i, h))).1, (nx b (nx b (i, h))).2)).1).getD 0 []).length : Int)); rw [List.nil_append]; omega)) ?_
      conv => lhs; whnf
      refine br_t (dt (by change 0 < (([] ++ (rowsP b (IntKind.i64.wrap (1 + be b (nx b (i, h)) 3)).toNat (IntKind.i64.wrap (1 + be b (i, h) 5)).toNat ((nx b (nx b (i, h))).1, (nx b (nx b (i, h))).2)).1).getD 0 []).length; rw [List.nil_append]; omega)) ?_
      conv => lhs; whnf
      refine br_t (by kernel_rfl) ?_
      conv => lhs; whnf
      all_goals rfl
    · have g2' : (be b (rowsP b (IntKind.i64.wrap (1 + be b (nx b (i, h)) 3)).toNat (IntKind.i64.wrap (1 + be b (i, h) 5)).toNat ((nx b (nx b (i, h))).1, (nx b (nx b (i, h))).2)).2 14 == 1) = false := g2
      conv => lhs; whnf
      refine br_c (fun g3 => ?_) (fun g3 => ?_)
      · have g3' : (be b (rowsP b (IntKind.i64.wrap (1 + be b (nx b (i, h)) 3)).toNat (IntKind.i64.wrap (1 + be b (i, h) 5)).toNat ((nx b (nx b (i, h))).1, (nx b (nx b (i, h))).2)).2 14 == 2) = true := g3
        have e : drawP b (i, h) = ([], nx b (rowsP b (IntKind.i64.wrap (1 + be b (nx b (i, h)) 3)).toNat (IntKind.i64.wrap (1 + be b (i, h) 5)).toNat ((nx b (nx b (i, h))).1, (nx b (nx b (i, h))).2)).2) := by unfold drawP bendP; rw [hbase, g', g2', g3']; rfl
        conv => rhs; rw [e]
        conv => lhs; whnf
        all_goals rfl
      · have g3' : (be b (rowsP b (IntKind.i64.wrap (1 + be b (nx b (i, h)) 3)).toNat (IntKind.i64.wrap (1 + be b (i, h) 5)).toNat ((nx b (nx b (i, h))).1, (nx b (nx b (i, h))).2)).2 14 == 2) = false := g3
        have e : drawP b (i, h) = ((rowsP b (IntKind.i64.wrap (1 + be b (nx b (i, h)) 3)).toNat (IntKind.i64.wrap (1 + be b (i, h) 5)).toNat ((nx b (nx b (i, h))).1, (nx b (nx b (i, h))).2)).1, nx b (rowsP b (IntKind.i64.wrap (1 + be b (nx b (i, h)) 3)).toNat (IntKind.i64.wrap (1 + be b (i, h) 5)).toNat ((nx b (nx b (i, h))).1, (nx b (nx b (i, h))).2)).2) := by unfold drawP bendP; rw [hbase, g', g2', g3']; rfl
        conv => rhs; rw [e]
        conv => lhs; whnf
        all_goals rfl
theorem ok_l24Draw : FnOk Tryd.prog 41 K_l24Draw := by
  refine fn_ok (fn := Tryd.f41) (k := Tryd.f41.ntmps) (E := E_l24Draw) (facts_of (List.forall_mem_cons.2 ⟨ok_l1Below, List.forall_mem_cons.2 ⟨ok_l1PickInt, List.forall_mem_nil _⟩⟩)) (by kernel_rfl) rfl (by decide +kernel) (by decide +kernel) ?_
  intro avs hin r h
  unfold K_l24Draw at h
  split at h
  · obtain ⟨hp, rfl⟩ := gd_o h
    exact ⟨_, ev_l24Draw _ _ _ hp, rfl⟩
  · cases h

def PH (b : List Int) : List (List Int) × Cu := drawP b (newC b)
def NP (b : List Int) : Int := shlI ((PH b).1.length : Int)
/-- What is drawn for HullOf, FittingPoints, IsWider, PatternText. -/
def hullS (b : List Int) : Int := be b (PH b).2 (NP b + 1)
def fitX (b : List Int) : List Int × List Int × Bool := hullF (PH b).1 (be b (PH b).2 (NP b))
def fitHi (b : List Int) : List Int := bif decide (((fitX b).1.length : Int) > 0) && (be b (nx b (PH b).2) 3 == 0) then (fitX b).2.1.set 0 ((fitX b).2.1.getD 0 0 + be b (nx b (nx b (PH b).2)) 3 - 1) else (fitX b).2.1
def widY (b : List Int) : List Int × List Int × Bool := hullF (PH b).1 (be b (nx b (PH b).2) (NP b))
def txtLo (b : List Int) : List Int := bif be b (newC b) 8 == 0 then (fitX b).1 ++ [1] else (fitX b).1
theorem hullL_vals {f : Int → Int → Int} (hf : ∀ x y, f x y = x ∨ f x y = y) {a : List (List Int)} {p : Int → Prop} (h : ∀ r ∈ a, ∀ x ∈ r, p x) : ∀ (l ys : List Int), (∀ x ∈ ys, p x) → ∀ x ∈ hullG f a l ys, p x
  | [], ys, hy, x, hx => hy x hx
  | g :: l, ys, hy, x, hx => by
    refine hullL_vals hf h l (hullStep f a ys g) (fun z hz => ?_) x hx
    have hrow : ∀ x ∈ a.getD g.toNat [], p x := fun x hx => by
      rcases Nat.lt_or_ge g.toNat a.length with q | q
      · exact h _ (mem_getD q) x hx
      · rw [List.getD_eq_getElem?_getD, List.getElem?_eq_none q] at hx
        cases hx
    unfold hullStep at hz
    generalize a.getD g.toNat [] = r at hz hrow
    cases ys with
    | nil => exact hrow z hz
    | cons y ys =>
      obtain ⟨i, hi, rfl⟩ := List.mem_iff_getElem.1 hz
      have hi' : i < (List.zipWith f (y :: ys) r).length := hi
      rw [List.length_zipWith] at hi'
      have e : (mixL f (y :: ys) r)[i] = f (y :: ys)[i] r[i] := List.getElem_zipWith
      rw [e]
      rcases hf (y :: ys)[i] r[i] with q | q
      · rw [q]; exact hy _ (List.getElem_mem _)
      · rw [q]; exact hrow _ (List.getElem_mem _)
theorem hullF_vals {a : List (List Int)} (h : ∀ r ∈ a, ∀ x ∈ r, -1 ≤ x ∧ x ≤ 10) (s : Int) : (∀ x ∈ (hullF a s).1, -1 ≤ x ∧ x ≤ 10) ∧ (∀ x ∈ (hullF a s).2.1, -1 ≤ x ∧ x ≤ 10) := by
  unfold hullF
  cases ((arePts a && !(s == 0)) && isSet a.length s)
  · simp
  · exact ⟨hullL_vals (fun x y => by omega) h _ [] (fun x hx => by cases hx), hullL_vals (fun x y => by omega) h _ [] (fun x hx => by cases hx)⟩
theorem rngB_small {a : List Int} (h : ∀ x ∈ a, -1 ≤ x ∧ x ≤ 10) : rngB a = true := by
  unfold rngB
  rw [List.all_eq_true]
  intro x hx
  have := h x hx
  exact decide_eq_true (by omega)
theorem PH_ok {b : List Int} (h : b.length ≤ 1048576) : ((PH b).1.length ≤ 6 ∧ ∀ r ∈ (PH b).1, r.length ≤ 3 ∧ ∀ x ∈ r, -1 ≤ x ∧ x ≤ 10) ∧ CuOk b (PH b).2.1 := drawP_ok (newC_ok h)
theorem NP_rng {b : List Int} (h : b.length ≤ 1048576) : 1 ≤ NP b ∧ NP b ≤ 64 := by
  have h1 := (PH_ok h).1.1
  unfold NP
  rw [shlI_nat (by omega)]
  have h6 : 2 ^ (PH b).1.length ≤ 2 ^ 6 := Nat.pow_le_pow_right (by omega) (by omega)
  have hp := Nat.two_pow_pos (PH b).1.length
  omega
/- spec.l1New -/
def K_l1New : List AV → List Ob → Option (AV × List Ob)
  | [.lst (.int .u8) b], [] => gd (b.length ≤ 1048576) (.ptr 0 0, [.box 91 [.lst (.int .u8) b, .int .i64 (newC b).1, .int .i64 (newC b).2]])
  | _, _ => none
@[reducible] def E_l1New : Env := mkE (tb []) (fun f => false) (fun r => bif r == 3 then ([0, 3, 4], [0, 3]) else ([], []))
theorem lp_l1New (b : List Int) (hb : b.length ≤ 1048576) (k : AX → S → Option (AV × List Ob)) (d : Nat) : ∀ (n i : Nat) (x h : Int), min b.length 4000 - i = d → i ≤ min b.length 4000 → x = i → d < n →
    lpAt E_l1New (lp E_l1New 0 n) 0 (loopAt Tryd.f40 0) (mkS [0, 3, 4] [.lst (.int .u8) b, .int .i64 h, .int .i64 x] []) k =
      k (.exit 0) (mkS [0, 3] [.lst (.int .u8) b, .int .i64 (newL b d i h)] []) := by
  induction d with
  | zero =>
    intro n i x h hd hi hx hn
    subst hx
    rw [lpAt_def]
    conv => lhs; whnf
    refine br_c (fun g => ?_) (fun g => ?_)
    · have g' := ofd g
      conv => lhs; whnf
      repeat ((first | with_reducible apply br_tt | with_reducible apply br_ff | with_reducible apply br_nf | with_reducible apply br_nt | with_reducible refine br_d ?_ (by kernel_rfl) | with_reducible apply br_t g | with_reducible apply br_f g); conv => lhs; whnf)
      refine br_f (df (by omega)) ?_
      conv => lhs; whnf
      all_goals rfl
    · conv => lhs; whnf
      repeat ((first | with_reducible apply br_tt | with_reducible apply br_ff | with_reducible apply br_nf | with_reducible apply br_nt | with_reducible refine br_d ?_ (by kernel_rfl) | with_reducible apply br_t g | with_reducible apply br_f g); conv => lhs; whnf)
      all_goals rfl
  | succ d ih =>
    intro n i x h hd hi hx hn
    obtain ⟨n, rfl⟩ : ∃ m, n = m + 1 := ⟨n - 1, by omega⟩
    subst hx
    rw [lpAt_def]
    have g : decide ((i : Int) < (b.length : Int)) = true := dt (by omega)
    conv => lhs; whnf
    repeat ((first | with_reducible apply br_tt | with_reducible apply br_ff | with_reducible apply br_nf | with_reducible apply br_nt | with_reducible refine br_d ?_ (by kernel_rfl) | with_reducible apply br_t g | with_reducible apply br_f g); conv => lhs; whnf)
    refine br_t (dt (by omega)) ?_
    conv => lhs; whnf
    refine br_t (dt2 (by omega) (by omega)) ?_
    conv => lhs; whnf
    refine Eq.trans (b := lpAt E_l1New (lp E_l1New 0 n) 0 (loopAt Tryd.f40 0) (mkS [0, 3, 4] [.lst (.int .u8) b, .int .i64 (band (IntKind.i64.wrap (IntKind.i64.wrap (IntKind.i64.wrap (h * 131) + IntKind.i64.wrap (b.getD i 0)) + 7)) 1073741823), .int .i64 (IntKind.i64.wrap ((i : Int) + 1))] []) k) rfl ?_
    exact ih n (i + 1) (IntKind.i64.wrap ((i : Int) + 1)) _ (by omega) (by omega) (by rw [wrap64 (n := (i : Int) + 1) (by omega) (by omega)]; simp) (by omega)
theorem ev_l1New (b : List Int) (hp : b.length ≤ 1048576) : evF E_l1New (4010) Tryd.f40 [.lst (.int .u8) b] [] = some (.ptr 0 0, [.box 91 [.lst (.int .u8) b, .int .i64 (newC b).1, .int .i64 (newC b).2]]) := by
  conv => lhs; whnf
  refine (lp_l1New b hp _ (min b.length 4000) _ 0 0 _ rfl (Nat.zero_le _) rfl (by change _ < 4009; omega)).trans ?_
  conv => lhs; whnf
  rfl
theorem ok_l1New : FnOk Tryd.prog 40 K_l1New := by
  refine fn_ok (fn := Tryd.f40) (k := Tryd.f40.ntmps) (E := E_l1New) (facts_of (List.forall_mem_nil _)) (by kernel_rfl) rfl (by decide +kernel) (by decide +kernel) ?_
  intro avs hin r h
  unfold K_l1New at h
  split at h
  · obtain ⟨hp, rfl⟩ := gd_o h
    exact ⟨_, ev_l1New _ hp, rfl⟩
  · cases h

/- spec.DrawHullOf -/
def K_drawHullOf : List AV → List Ob → Option (AV × List Ob)
  | [.lst (.int .u8) b], [] => gd (b.length ≤ 1048576) (.tup [.own 0, .int .i64 (hullS b)], [.nest 27 3 (.int .i64) (PH b).1 none])
  | _, _ => none
@[reducible] def E_drawHullOf : Env := mkE (tb [(40, K_l1New), (41, K_l24Draw), (42, K_l1Below)]) (fun f => [41, 42].contains f) (fun r => ([], []))
theorem ev_drawHullOf (b : List Int) (hp : b.length ≤ 1048576) : evF E_drawHullOf (1) Tryd.f6 [.lst (.int .u8) b] [] = some (.tup [.own 0, .int .i64 (hullS b)], [.nest 27 3 (.int .i64) (PH b).1 none]) := by
  have n0 := newC_ok hp
  have hd := PH_ok hp
  have hn := NP_rng hp
  have hu := wrapu (n := ((PH b).1.length : Int)) (by omega) (by omega)
  have hw : IntKind.i64.wrap (NP b + 1) = NP b + 1 := wrap64 (by omega) (by omega)
  have h0 : ¬ ((PH b).1.length : Int) < 0 := by omega
  have w5 : 1 ≤ IntKind.i64.wrap (NP b + 1) ∧ IntKind.i64.wrap (NP b + 1) ≤ 256 := by rw [hw]; omega
  conv => lhs; whnf
  conv => lhs; arg 1; whnf
  refine bnd_g (by exact hp) ?_
  conv => lhs; whnf
  conv => lhs; arg 1; whnf
  refine bnd_g (by exact n0) ?_
  conv => lhs; whnf
  rw [show IntKind.u64.wrap ((drawP b ((newC b).1, (newC b).2)).1.length : Int) = ((PH b).1.length : Int) from hu]
  refine br_f (df h0) ?_
  conv => lhs; whnf
  conv => lhs; arg 1; whnf
  refine bnd_g (by exact ⟨hd.2, w5.1, w5.2⟩) ?_
  conv => lhs; whnf
  conv => rhs; unfold hullS; rw [← hw]
  all_goals rfl
theorem ok_drawHullOf : FnOk Tryd.prog 6 K_drawHullOf := by
  refine fn_ok (fn := Tryd.f6) (k := Tryd.f6.ntmps) (E := E_drawHullOf) (facts_of (List.forall_mem_cons.2 ⟨ok_l1New, List.forall_mem_cons.2 ⟨ok_l24Draw, List.forall_mem_cons.2 ⟨ok_l1Below, List.forall_mem_nil _⟩⟩⟩)) (by kernel_rfl) rfl (by decide +kernel) (by decide +kernel) ?_
  intro avs hin r h
  unfold K_drawHullOf at h
  split at h
  · obtain ⟨hp, rfl⟩ := gd_o h
    exact ⟨_, ev_drawHullOf _ hp, rfl⟩
  · cases h

/- spec.DrawPatternExtents -/
def K_drawPatternExtents : List AV → List Ob → Option (AV × List Ob)
  | [.lst (.int .u8) b], [] => gd (b.length ≤ 1048576) (.own 0, [.nest 27 3 (.int .i64) (PH b).1 none])
  | _, _ => none
@[reducible] def E_drawPatternExtents : Env := mkE (tb [(40, K_l1New), (41, K_l24Draw)]) (fun f => [41].contains f) (fun r => ([], []))
theorem ev_drawPatternExtents (b : List Int) (hp : b.length ≤ 1048576) : evF E_drawPatternExtents (1) Tryd.f12 [.lst (.int .u8) b] [] = some (.own 0, [.nest 27 3 (.int .i64) (PH b).1 none]) := by
  conv => lhs; whnf
  conv => lhs; arg 1; whnf
  refine bnd_g (by exact hp) ?_
  conv => lhs; whnf
  conv => lhs; arg 1; whnf
  refine bnd_g (by exact newC_ok hp) ?_
  conv => lhs; whnf
  all_goals rfl
theorem ok_drawPatternExtents : FnOk Tryd.prog 12 K_drawPatternExtents := by
  refine fn_ok (fn := Tryd.f12) (k := Tryd.f12.ntmps) (E := E_drawPatternExtents) (facts_of (List.forall_mem_cons.2 ⟨ok_l1New, List.forall_mem_cons.2 ⟨ok_l24Draw, List.forall_mem_nil _⟩⟩)) (by kernel_rfl) rfl (by decide +kernel) (by decide +kernel) ?_
  intro avs hin r h
  unfold K_drawPatternExtents at h
  split at h
  · obtain ⟨hp, rfl⟩ := gd_o h
    exact ⟨_, ev_drawPatternExtents _ hp, rfl⟩
  · cases h

def fitAt (y lo hi : List Int) (j : Nat) : Bool := decide (lo.getD j 0 ≤ y.getD j 0 ∧ y.getD j 0 ≤ hi.getD j 0)
def fits (y lo hi : List Int) : Bool := allB (fitAt y lo hi) y.length 0
def fitP (a : List (List Int)) (lo hi : List Int) (g : Int) : Bool := fits (a.getD g.toNat []) lo hi
def fitF (a : List (List Int)) (lo hi : List Int) : Int :=
  bif arePts a && decide (lo.length = (a.getD 0 []).length) && decide (hi.length = (a.getD 0 []).length) then orF (fitP a lo hi) a.length 0 0 else 0
def patAt (a : List (List Int)) (s : Int) : Bool := fitF a (hullL min a s) (hullL max a s) == s
def extL (a : List (List Int)) : Nat → Int → List Int
  | 0, _ => []
  | d + 1, i => bif patAt a i then i :: extL a d (i + 1) else extL a d (i + 1)
def patE (a : List (List Int)) : List Int := bif arePts a then 0 :: extL a (2 ^ a.length - 1) 1 else []
theorem extL_len (a : List (List Int)) : ∀ (d : Nat) (i : Int), (extL a d i).length ≤ d
  | 0, _ => Nat.le_refl 0
  | d + 1, i => by
    have := extL_len a d (i + 1)
    unfold extL
    cases patAt a i <;> simp <;> omega
theorem patE_len (a : List (List Int)) : (patE a).length ≤ 256 := by
  unfold patE
  cases h : arePts a
  · simp
  · have hp := arePts_parts h
    have := extL_len a (2 ^ a.length - 1) 1
    have h8 : 2 ^ a.length ≤ 2 ^ 8 := Nat.pow_le_pow_right (by omega) hp.1.2
    rw [cond_true, List.length_cons]
    omega
theorem hullL_len {a : List (List Int)} (h : arePts a = true) {s : Int} (hs : isSet a.length s = true) (f : Int → Int → Int) : (hullL f a s).length ≤ 3 := by
  have hp' := arePts_parts h
  have hm : ∀ g ∈ elemsF s, (a.getD g.toNat []).length = (a.getD 0 []).length := fun g hg => by
    have := elemsF_lt hs hg
    exact hp'.2.2 _ (mem_getD (by omega))
  unfold hullL
  rcases hullG_len f (elemsF s) [] hm (Or.inl rfl) with q | q
  · rw [q]; simp
  · rw [q]; exact hp'.2.1
theorem full_len {n : Nat} (h : n ≤ 8) : fullSet (n : Int) = ((2 ^ n - 1 : Nat) : Int) ∧ 2 ^ n ≤ 256 ∧ 0 < 2 ^ n := by
  have h8 : 2 ^ n ≤ 2 ^ 8 := Nat.pow_le_pow_right (by omega) h
  have hp := Nat.two_pow_pos n
  unfold fullSet
  rw [if_pos (by omega), Int.toNat_natCast]
  have e2 : ((2 ^ n : Nat) : Int) = (2 : Int) ^ n := by push_cast; rfl
  omega
theorem set_lt {n i : Nat} (h : n ≤ 8) (hi : i < 2 ^ n) : isSet (n : Int) (i : Int) = true := by
  unfold isSet
  rw [Int.toNat_natCast]
  have e2 : ((2 ^ n : Nat) : Int) = (2 : Int) ^ n := by push_cast; rfl
  exact dt ⟨by omega, by omega, by omega⟩
def widerAt (a b c d : List Int) (j : Nat) : Bool := !(decide (a.getD j 0 > c.getD j 0) || decide (b.getD j 0 < d.getD j 0))
def isWider (a b c d : List Int) : Bool := b.length == a.length && c.length == a.length && d.length == a.length && allB (widerAt a b c d) a.length 0
@[irreducible] def subB (s t : Int) : Bool := (isSet 8 s && isSet 8 t) && (band s t == s)
theorem subB_no {s t : Int} (h : (band s t == s) = false) : subB s t = false := by
  unfold subB
  rw [h, Bool.and_false]
theorem subB_eq (s t : Int) : subB s t = ((isSet 8 s && isSet 8 t) && (band s t == s)) := by
  unfold subB
  rfl
def bitAt (b : List Int) (e i : Int) : Bool := (b.getD i.toNat 0).toNat.testBit e.toNat
/-- The objects that have an attribute. -/
def colF (b : List Int) (e : Int) : Int := orF (bitAt b e) b.length 0 0
theorem ofInt_nat (x : Nat) : BitVec.ofInt 64 (x : Int) = BitVec.ofNat 64 x := by
  apply BitVec.eq_of_toNat_eq
  simp [BitVec.toNat_ofInt]
theorem bor_nat {x y : Nat} (hx : x < 256) (hy : y < 256) : bor (x : Int) (y : Int) = ((x ||| y : Nat) : Int) := by
  unfold bor
  have e : (BitVec.ofInt 64 (x : Int) ||| BitVec.ofInt 64 (y : Int)).toNat = x ||| y := by
    rw [BitVec.toNat_or, ofInt_nat, ofInt_nat, BitVec.toNat_ofNat, BitVec.toNat_ofNat, Nat.mod_eq_of_lt (by omega), Nat.mod_eq_of_lt (by omega)]
  have h : x ||| y < 2 ^ 8 := Nat.or_lt_two_pow (by omega) (by omega)
  rw [show (BitVec.ofInt IntKind.i64.bits (x : Int) ||| BitVec.ofInt IntKind.i64.bits (y : Int)).toNat = x ||| y from e]
  exact wrap64 (by omega) (by omega)
theorem bor_set {x y : Int} (hx : 0 ≤ x ∧ x ≤ 255) (hy : 0 ≤ y ∧ y ≤ 255) : 0 ≤ bor x y ∧ bor x y ≤ 255 := by
  obtain ⟨a, rfl⟩ : ∃ a : Nat, x = a := ⟨x.toNat, by omega⟩
  obtain ⟨b, rfl⟩ : ∃ b : Nat, y = b := ⟨y.toNat, by omega⟩
  rw [bor_nat (by omega) (by omega)]
  have h : a ||| b < 2 ^ 8 := Nat.or_lt_two_pow (by omega) (by omega)
  omega
theorem orF_set (p : Int → Bool) : ∀ (d i : Nat) (acc : Int), i + d ≤ 8 → 0 ≤ acc → acc ≤ 255 → 0 ≤ orF p d i acc ∧ orF p d i acc ≤ 255
  | 0, _, acc, _, h0, h1 => ⟨h0, h1⟩
  | d + 1, i, acc, h, h0, h1 => by
    unfold orF
    cases p i
    · exact orF_set p d (i + 1) acc (by omega) h0 h1
    · have hp : 2 ^ i ≤ 2 ^ 7 := Nat.pow_le_pow_right (by omega) (by omega)
      have hb := bor_set (x := acc) (y := ((2 ^ i : Nat) : Int)) ⟨h0, h1⟩ ⟨Int.natCast_nonneg _, Int.ofNat_le.2 (by omega : 2 ^ i ≤ 255)⟩
      exact orF_set p d (i + 1) _ (by omega) hb.1 hb.2
theorem colF_set (b : List Int) (e : Int) (h : b.length ≤ 8) : 0 ≤ colF b e ∧ colF b e ≤ 255 := orF_set _ _ _ _ (by omega) (by omega) (by omega)
def tzN (n : Nat) : Nat := if n = 0 then 64 else ((List.range 8).find? fun i => n.testBit i).getD 0
def tzF (s : Int) : Int := (tzN s.toNat : Int)
def bxor (a b : Int) : Int := IntKind.i64.wrap (BitVec.ofInt IntKind.i64.bits a ^^^ BitVec.ofInt IntKind.i64.bits b).toNat
theorem bxor_nat {x y : Nat} (hx : x < 256) (hy : y < 256) : bxor (x : Int) (y : Int) = ((x ^^^ y : Nat) : Int) := by
  unfold bxor
  have e : (BitVec.ofInt 64 (x : Int) ^^^ BitVec.ofInt 64 (y : Int)).toNat = x ^^^ y := by
    rw [BitVec.toNat_xor, ofInt_nat, ofInt_nat, BitVec.toNat_ofNat, BitVec.toNat_ofNat, Nat.mod_eq_of_lt (by omega), Nat.mod_eq_of_lt (by omega)]
  have h : x ^^^ y < 2 ^ 8 := Nat.xor_lt_two_pow (by omega) (by omega)
  rw [show (BitVec.ofInt IntKind.i64.bits (x : Int) ^^^ BitVec.ofInt IntKind.i64.bits (y : Int)).toNat = x ^^^ y from e]
  exact wrap64 (by omega) (by omega)
theorem xor_zero {a b : Nat} (e : a ^^^ b = 0) : a = b := by
  apply Nat.eq_of_testBit_eq
  intro i
  have h := congrArg (fun z => Nat.testBit z i) e
  simp only [Nat.testBit_xor, Nat.zero_testBit] at h
  cases ha : a.testBit i <;> cases hb : b.testBit i <;> simp_all
/-- Lectic order on small numbers. -/
def lecN (x y : Nat) : Bool := decide (x ≠ y) && y.testBit (tzN (x ^^^ y))
def lecB (s t : Int) : Bool := isSet 8 s && isSet 8 t && lecN s.toNat t.toNat
def lecC (s t : Int) : Int := if s = t then 0 else if lecB s t then -1 else 1
/-- The numbers below 2 ^ n in lectic order. -/
def brev (n k : Nat) : Nat := (List.range n).foldl (fun acc i => if k.testBit i then acc + 2 ^ (n - 1 - i) else acc) 0
def lecL (n : Nat) : List Nat := (List.range (2 ^ n)).map (brev n)
def LtAt (m s t : Nat) : Prop := (∀ i, i < m → s.testBit i = t.testBit i) ∧ s.testBit m = false ∧ t.testBit m = true
def ltAtB (m s t : Nat) : Bool := (List.range m).all (fun i => s.testBit i == t.testBit i) && (!s.testBit m && t.testBit m)
theorem ltAtB_iff (m s t : Nat) : ltAtB m s t = true ↔ LtAt m s t := by
  unfold ltAtB LtAt
  simp [List.all_eq_true]
/-- Lectic order, told by the place. -/
def lecLt (s t : Nat) : Prop := ∃ m, m < 6 ∧ LtAt m s t
theorem lecN_all : ∀ x y : Fin 64, lecN x.val y.val = (List.range 6).any (fun m => ltAtB m x.val y.val) := by decide +kernel
theorem lecN_iff {x y : Nat} (hx : x < 64) (hy : y < 64) : lecN x y = true ↔ lecLt x y := by
  have := lecN_all ⟨x, hx⟩ ⟨y, hy⟩
  rw [this, List.any_eq_true]
  unfold lecLt
  simp only [List.mem_range, ltAtB_iff]
def chainB : List Nat → Bool
  | [] => true
  | a :: r => r.all (lecN a) && chainB r
theorem chain_all : ∀ n : Fin 7, chainB (lecL n.val) = true ∧ (lecL n.val).all (fun x => decide (x < 2 ^ n.val)) = true ∧ (List.range (2 ^ n.val)).all (fun x => (lecL n.val).contains x) = true := by decide +kernel
theorem lecL_mem {n x : Nat} (hn : n ≤ 6) : x ∈ lecL n ↔ x < 2 ^ n := by
  obtain ⟨_, h2, h3⟩ := chain_all ⟨n, by omega⟩
  simp only [List.all_eq_true, decide_eq_true_eq, List.mem_range, List.contains_iff_mem] at h2 h3
  exact ⟨fun h => h2 x h, fun h => h3 x h⟩
theorem chainB_mid : ∀ (p : List Nat) (s : Nat) (q : List Nat), chainB (p ++ s :: q) = true → (∀ x ∈ p, lecN x s = true) ∧ (∀ x ∈ q, lecN s x = true) ∧ chainB q = true
  | [], s, q, h => by
    simp only [List.nil_append, chainB, Bool.and_eq_true, List.all_eq_true] at h
    exact ⟨fun x hx => (by cases hx), h.1, h.2⟩
  | a :: p, s, q, h => by
    simp only [List.cons_append, chainB, Bool.and_eq_true, List.all_eq_true] at h
    obtain ⟨h1, h2, h3⟩ := chainB_mid p s q h.2
    refine ⟨fun x hx => ?_, h2, h3⟩
    rcases List.mem_cons.1 hx with e | hx
    · rw [e]; exact h.1 s (by simp)
    · exact h1 x hx
/-- Subsets, as bits. -/
def SubN (x y : Nat) : Prop := ∀ i, x.testBit i = true → y.testBit i = true
theorem lec_irrefl {s t : Nat} (h : lecLt s t) (g : lecLt t s) : False := by
  obtain ⟨m, _, h1, h2, h3⟩ := h
  obtain ⟨k, _, g1, g2, g3⟩ := g
  rcases Nat.lt_trichotomy m k with h | h | h
  · rw [g1 m h] at h3; rw [h2] at h3; cases h3
  · subst h; rw [h3] at g2; cases g2
  · rw [h1 k h] at g3; rw [g2] at g3; cases g3
theorem sub_le {n s t : Nat} (hn : n ≤ 6) (hs : s < 2 ^ n) (ht : t < 2 ^ n) (h : SubN s t) : s = t ∨ lecLt s t := by
  by_cases he : s = t
  · exact .inl he
  · right
    have hx : s < 64 ∧ t < 64 := by
      have : 2 ^ n ≤ 2 ^ 6 := Nat.pow_le_pow_right (by omega) hn
      omega
    have key : ∀ x y : Fin 64, x.val ≠ y.val → lecN x.val y.val = true ∨ lecN y.val x.val = true := by decide +kernel
    rcases key ⟨s, hx.1⟩ ⟨t, hx.2⟩ he with k | k
    · exact (lecN_iff hx.1 hx.2).1 k
    · obtain ⟨m, _, _, k2, k3⟩ := (lecN_iff hx.2 hx.1).1 k
      have := h m k3
      rw [k2] at this
      cases this
/-- A closure on the numbers below 2 ^ n. -/
structure Clo (n : Nat) (cl : Nat → Nat) : Prop where
  lt : ∀ s, s < 2 ^ n → cl s < 2 ^ n
  ext : ∀ s, s < 2 ^ n → SubN s (cl s)
  mono : ∀ s t, s < 2 ^ n → t < 2 ^ n → SubN s t → SubN (cl s) (cl t)
  idem : ∀ s, s < 2 ^ n → cl (cl s) = cl s
def lowN (s m : Nat) : Nat := s % 2 ^ m
theorem lowN_bit (s m i : Nat) : (lowN s m).testBit i = (decide (i < m) && s.testBit i) := Nat.testBit_mod_two_pow s m i
def addN (s m : Nat) : Nat := lowN s m ||| 2 ^ m
theorem addN_bit (s m i : Nat) : (addN s m).testBit i = ((decide (i < m) && s.testBit i) || decide (i = m)) := by
  unfold addN
  rw [Nat.testBit_or, lowN_bit, Nat.testBit_two_pow]
  congr 1
  exact decide_eq_decide.2 ⟨fun h => h.symm, fun h => h.symm⟩
theorem addN_lt {n s m : Nat} (hm : m < n) : addN s m < 2 ^ n := by
  unfold addN lowN
  refine Nat.or_lt_two_pow ?_ (Nat.pow_lt_pow_right (by omega) hm)
  exact Nat.lt_of_lt_of_le (Nat.mod_lt _ (Nat.two_pow_pos m)) (Nat.pow_le_pow_right (by omega) (by omega))
/-- The next closed set, as the reference finds it: m + 1 places are left. -/
def nextN (cl : Nat → Nat) (s : Nat) : Nat → Option Nat
  | 0 => none
  | m + 1 => if s.testBit m then nextN cl s m else if lowN (cl (addN s m)) m = lowN s m then some (cl (addN s m)) else nextN cl s m
theorem low_eq {x y m : Nat} : lowN x m = lowN y m ↔ ∀ i, i < m → x.testBit i = y.testBit i := by
  constructor
  · intro h i hi
    have := congrArg (fun z => Nat.testBit z i) h
    simpa [lowN_bit, hi] using this
  · intro h
    apply Nat.eq_of_testBit_eq
    intro i
    rw [lowN_bit, lowN_bit]
    by_cases hi : i < m
    · simp [hi, h i hi]
    · simp [hi]
/-- A closed set beyond s passes the test at its place. -/
theorem passes {n : Nat} {cl : Nat → Nat} (hc : Clo n cl) {s t m : Nat} (hm : m < n) (ht : t < 2 ^ n) (hcl : cl t = t) (h : LtAt m s t) :
    s.testBit m = false ∧ lowN (cl (addN s m)) m = lowN s m ∧ SubN (cl (addN s m)) t := by
  obtain ⟨h1, h2, h3⟩ := h
  have hsub : SubN (addN s m) t := by
    intro i hi
    rw [addN_bit] at hi
    simp only [Bool.or_eq_true, Bool.and_eq_true, decide_eq_true_eq] at hi
    rcases hi with ⟨hi, hs⟩ | rfl
    · rw [← h1 i hi]; exact hs
    · exact h3
  have hcs : SubN (cl (addN s m)) t := by
    have := hc.mono _ _ (addN_lt hm) ht hsub
    rwa [hcl] at this
  refine ⟨h2, low_eq.2 fun i hi => ?_, hcs⟩
  cases hb : s.testBit i
  · cases hx : (cl (addN s m)).testBit i
    · rfl
    · have := hcs i hx
      rw [← h1 i hi, hb] at this
      cases this
  · have : (addN s m).testBit i = true := by rw [addN_bit]; simp [hi, hb]
    exact hc.ext _ (addN_lt hm) i this
/-- What the search finds is the least closed set beyond s, so far as its places go. -/
theorem next_spec {n : Nat} {cl : Nat → Nat} (hc : Clo n cl) (hn : n ≤ 6) (s : Nat) : ∀ m, m ≤ n →
    (nextN cl s m = none → ∀ t k, t < 2 ^ n → cl t = t → k < m → ¬ LtAt k s t) ∧
    (∀ x, nextN cl s m = some x → x < 2 ^ n ∧ cl x = x ∧ lecLt s x ∧ ∀ t k, t < 2 ^ n → cl t = t → k < m → LtAt k s t → x = t ∨ lecLt x t)
  | 0, _ => ⟨fun _ t k _ _ hk => by omega, fun x h => by simp [nextN] at h⟩
  | m + 1, hm => by
    obtain ⟨ih1, ih2⟩ := next_spec hc hn s m (by omega)
    unfold nextN
    by_cases hb : s.testBit m = true
    · rw [if_pos hb]
      refine ⟨fun h t k ht hcl hk hlt => ?_, fun x h => ?_⟩
      · rcases Nat.lt_or_ge k m with hk' | hk'
        · exact ih1 h t k ht hcl hk' hlt
        · have : k = m := by omega
          subst this
          rw [hlt.2.1] at hb; cases hb
      · obtain ⟨q1, q2, q3, q4⟩ := ih2 x h
        refine ⟨q1, q2, q3, fun t k ht hcl hk hlt => ?_⟩
        rcases Nat.lt_or_ge k m with hk' | hk'
        · exact q4 t k ht hcl hk' hlt
        · have : k = m := by omega
          subst this
          rw [hlt.2.1] at hb; cases hb
    · rw [if_neg hb]
      have hb : s.testBit m = false := by simpa using hb
      by_cases hp : lowN (cl (addN s m)) m = lowN s m
      · rw [if_pos hp]
        refine ⟨fun h => by (cases h), fun x h => ?_⟩
        cases h
        have hl := hc.lt _ (addN_lt (s := s) (show m < n by omega))
        have hmx : (cl (addN s m)).testBit m = true := hc.ext _ (addN_lt (by omega)) m (by rw [addN_bit]; simp)
        have hlow := low_eq.1 hp
        refine ⟨hl, hc.idem _ (addN_lt (by omega)), ⟨m, by omega, fun i hi => (hlow i hi).symm, hb, hmx⟩, fun t k ht hcl hk hlt => ?_⟩
        rcases Nat.lt_or_ge k m with hk' | hk'
        · right
          exact ⟨k, by omega, fun i hi => by rw [hlow i (by omega)]; exact hlt.1 i hi, by rw [hlow k hk']; exact hlt.2.1, hlt.2.2⟩
        · have : k = m := by omega
          subst this
          exact sub_le hn hl ht (passes hc (by omega) ht hcl hlt).2.2
      · rw [if_neg hp]
        have no : ∀ t, t < 2 ^ n → cl t = t → ¬ LtAt m s t := fun t ht hcl hlt => hp (passes hc (by omega) ht hcl hlt).2.1
        refine ⟨fun h t k ht hcl hk hlt => ?_, fun x h => ?_⟩
        · rcases Nat.lt_or_ge k m with hk' | hk'
          · exact ih1 h t k ht hcl hk' hlt
          · have : k = m := by omega
            subst this
            exact no t ht hcl hlt
        · obtain ⟨q1, q2, q3, q4⟩ := ih2 x h
          refine ⟨q1, q2, q3, fun t k ht hcl hk hlt => ?_⟩
          rcases Nat.lt_or_ge k m with hk' | hk'
          · exact q4 t k ht hcl hk' hlt
          · have : k = m := by omega
            subst this
            exact absurd hlt (no t ht hcl)
def isCl (cl : Nat → Nat) (s : Nat) : Bool := cl s == s
theorem lt_place {n s t : Nat} (ht : t < 2 ^ n) {m : Nat} (h : LtAt m s t) : m < n := by
  rcases Nat.lt_or_ge m n with h' | h'
  · exact h'
  · have := Nat.testBit_lt_two_pow (Nat.lt_of_lt_of_le ht (Nat.pow_le_pow_right (by omega) h'))
    rw [h.2.2] at this
    cases this
/-- The next closed set is the first closed one behind s in the lectic row. -/
theorem next_find {n : Nat} {cl : Nat → Nat} (hc : Clo n cl) (hn : n ≤ 6) {s : Nat} {p q : List Nat} (hL : lecL n = p ++ s :: q) : nextN cl s n = q.find? (isCl cl) := by
  obtain ⟨hch, _, _⟩ := chain_all ⟨n, by omega⟩
  rw [show lecL (⟨n, by omega⟩ : Fin 7).val = p ++ s :: q from hL] at hch
  obtain ⟨c1, c2, c3⟩ := chainB_mid p s q hch
  have h64 : ∀ x, x < 2 ^ n → x < 64 := fun x hx => Nat.lt_of_lt_of_le hx (Nat.pow_le_pow_right (by omega) hn : 2 ^ n ≤ 2 ^ 6)
  have hmem : ∀ x, x ∈ p ++ s :: q ↔ x < 2 ^ n := fun x => by rw [← hL]; exact lecL_mem hn
  have hs : s < 2 ^ n := (hmem s).1 (by simp)
  have hbeyond : ∀ x, x < 2 ^ n → lecLt s x → x ∈ q := by
    intro x hx hlt
    have := (hmem x).2 hx
    rcases List.mem_append.1 this with h | h
    · exact (lec_irrefl hlt ((lecN_iff (h64 _ hx) (h64 _ hs)).1 (c1 x h))).elim
    · rcases List.mem_cons.1 h with rfl | h
      · exact (lec_irrefl hlt hlt).elim
      · exact h
  have hq : ∀ x ∈ q, x < 2 ^ n ∧ lecLt s x := fun x hx => by
    have hx2 := (hmem x).1 (by simp [hx])
    exact ⟨hx2, (lecN_iff (h64 _ hs) (h64 _ hx2)).1 (c2 x hx)⟩
  obtain ⟨n1, n2⟩ := next_spec hc hn s n (Nat.le_refl n)
  cases hN : nextN cl s n with
  | none =>
    symm
    rw [List.find?_eq_none]
    intro x hx hcl
    obtain ⟨hx2, m, _, hm⟩ := hq x hx
    exact n1 hN x m hx2 (by simpa [isCl] using hcl) (lt_place hx2 hm) hm
  | some x =>
    obtain ⟨q1, q2, q3, q4⟩ := n2 x hN
    have hxq := hbeyond x q1 q3
    obtain ⟨u, v, huv⟩ := List.append_of_mem hxq
    rw [huv] at c3 hq ⊢
    obtain ⟨d1, _, _⟩ := chainB_mid u x v c3
    symm
    rw [List.find?_append]
    have hu : u.find? (isCl cl) = none := by
      rw [List.find?_eq_none]
      intro t ht hcl
      obtain ⟨ht2, m, hm6, hm⟩ := hq t (by simp [ht])
      have htx := (lecN_iff (h64 _ ht2) (h64 _ q1)).1 (d1 t ht)
      rcases q4 t m ht2 (by simpa [isCl] using hcl) (lt_place ht2 hm) hm with h | h
      · subst h; exact lec_irrefl htx htx
      · exact lec_irrefl htx h
    rw [hu]
    simp [isCl, q2]
def enumN (cl : Nat → Nat) (n : Nat) : Nat → Nat → List Nat
  | 0, _ => []
  | f + 1, s => s :: match nextN cl s n with
    | none => []
    | some x => enumN cl n f x
theorem enum_eq {n : Nat} {cl : Nat → Nat} (hc : Clo n cl) (hn : n ≤ 6) : ∀ (f : Nat) (p : List Nat) (s : Nat) (q : List Nat), lecL n = p ++ s :: q → q.length < f → enumN cl n f s = s :: q.filter (isCl cl)
  | 0, _, _, _, _, h => by omega
  | f + 1, p, s, q, hL, hf => by
    rw [enumN, next_find hc hn hL]
    congr 1
    cases hq : q.find? (isCl cl) with
    | none =>
      symm
      rw [List.filter_eq_nil_iff]
      intro x hx
      exact List.find?_eq_none.1 hq x hx
    | some x =>
      obtain ⟨hx, u, v, huv, hu⟩ := List.find?_eq_some_iff_append.1 hq
      subst huv
      simp only
      rw [enum_eq hc hn f (p ++ s :: u) x v (by rw [hL]; simp) (by simp at hf; omega)]
      rw [List.filter_append, List.filter_cons_of_pos hx]
      have : u.filter (isCl cl) = [] := by
        rw [List.filter_eq_nil_iff]
        intro y hy
        simpa using hu y hy
      rw [this]
      rfl
/-- The reference's row of closed sets is the lectic row's closed part. -/
theorem enum_all {n : Nat} {cl : Nat → Nat} (hc : Clo n cl) (hn : n ≤ 6) {f : Nat} (hf : 2 ^ n ≤ f) : enumN cl n f (cl 0) = (lecL n).filter (isCl cl) := by
  have h0 : 0 < 2 ^ n := Nat.two_pow_pos n
  have hs := hc.lt 0 h0
  have hcl : cl (cl 0) = cl 0 := hc.idem 0 h0
  obtain ⟨p, q, hL⟩ := List.append_of_mem ((lecL_mem hn).2 hs)
  obtain ⟨hch, _, _⟩ := chain_all ⟨n, by omega⟩
  rw [show lecL (⟨n, by omega⟩ : Fin 7).val = p ++ cl 0 :: q from hL] at hch
  obtain ⟨c1, _, _⟩ := chainB_mid p (cl 0) q hch
  have h64 : ∀ x, x < 2 ^ n → x < 64 := fun x hx => Nat.lt_of_lt_of_le hx (Nat.pow_le_pow_right (by omega) hn : 2 ^ n ≤ 2 ^ 6)
  have hlen : (lecL n).length = 2 ^ n := by unfold lecL; simp
  have hq : q.length < f := by
    rw [hL] at hlen
    simp at hlen
    omega
  rw [enum_eq hc hn f p (cl 0) q hL hq, hL, List.filter_append, List.filter_cons_of_pos (by simp [isCl, hcl])]
  have : p.filter (isCl cl) = [] := by
    rw [List.filter_eq_nil_iff]
    intro t ht hct
    have ht2 : t < 2 ^ n := (lecL_mem hn).1 (by rw [hL]; simp [ht])
    have hlt := (lecN_iff (h64 _ ht2) (h64 _ hs)).1 (c1 t ht)
    have hct : cl t = t := by simpa [isCl] using hct
    have hsub : SubN (cl 0) t := by
      have := hc.mono 0 t h0 ht2 (fun i hi => by simp at hi)
      rwa [hct] at this
    rcases sub_le hn hs ht2 hsub with h | h
    · rw [h] at hlt; exact lec_irrefl hlt hlt
    · exact lec_irrefl h hlt
  rw [this]
  rfl
def rangeI (n : Nat) : List Int := (List.range (2 ^ n)).map fun (x : Nat) => (x : Int)
def lecI (n : Nat) : List Int := (lecL n).map fun (x : Nat) => (x : Int)
def attrOk (m : Int) (b : List Int) (e : Int) : Bool := isCtx m b && decide (0 ≤ e ∧ e ≤ m - 1)
def colsL (b : List Int) : Nat → Nat → List Int
  | 0, _ => []
  | d + 1, i => colF b i :: colsL b d (i + 1)
theorem colsL_length (b : List Int) : ∀ (d i : Nat), (colsL b d i).length = d
  | 0, _ => rfl
  | d + 1, i => by rw [colsL, List.length_cons, colsL_length b d (i + 1)]
theorem colsL_get (b : List Int) : ∀ (d i j : Nat), j < d → (colsL b d i).getD j 0 = colF b ((i + j : Nat) : Int)
  | 0, _, _, h => by omega
  | d + 1, i, 0, _ => by rw [colsL]; rfl
  | d + 1, i, j + 1, h => by
    rw [colsL, List.getD_cons_succ, colsL_get b d (i + 1) j (by omega)]
    congr 2
    omega
def colsF (m : Int) (b : List Int) : List Int := colsL b m.toNat 0
def beyondF (s : Int) : List Int → Int → Int
  | [], acc => acc
  | t :: r, acc => beyondF s r (bif (t != s) && (bnot s t == 0) then band acc t else acc)
def reducF (m : Int) (b : List Int) (e : Int) : Bool := beyondF (colF b e) (colsF m b) (fullSet b.length) == colF b e
def repAt (l : List Int) (i : Int) : Bool := (l.take i.toNat).any (fun y => l.getD i.toNat 0 == y)
def repF (l : List Int) : Int := orF (repAt l) l.length 0 0
theorem orF_bit (p : Int → Bool) : ∀ (d i : Nat) (acc : Int) (e : Nat), i + d ≤ 8 → 0 ≤ acc → acc ≤ 255 → (orF p d i acc).toNat.testBit e = (acc.toNat.testBit e || (decide (i ≤ e ∧ e < i + d) && p e))
  | 0, i, acc, e, _, _, _ => by
    rw [orF, df (by omega)]
    simp
  | d + 1, i, acc, e, h, h0, h1 => by
    have hp2 : 2 ^ i ≤ 2 ^ 7 := Nat.pow_le_pow_right (by omega) (by omega)
    have hb := bor_set (x := acc) (y := ((2 ^ i : Nat) : Int)) ⟨h0, h1⟩ ⟨Int.natCast_nonneg _, Int.ofNat_le.2 (by omega : 2 ^ i ≤ 255)⟩
    obtain ⟨q, rfl⟩ : ∃ q : Nat, acc = q := ⟨acc.toNat, by omega⟩
    have hor : bor (q : Int) ((2 ^ i : Nat) : Int) = ((q ||| 2 ^ i : Nat) : Int) := bor_nat (by omega) (by omega)
    rw [orF]
    cases hpi : p i
    · rw [cond_false, orF_bit p d (i + 1) _ e (by omega) h0 h1]
      congr 1
      by_cases he : e = i
      · subst he
        rw [hpi, Bool.and_false, Bool.and_false]
      · congr 1
        exact decide_eq_decide.2 (by omega)
    · rw [cond_true, orF_bit p d (i + 1) _ e (by omega) hb.1 hb.2, hor, Int.toNat_natCast, Int.toNat_natCast, Nat.testBit_or, Bool.or_assoc]
      congr 1
      by_cases he : e = i
      · subst he
        have h4 : decide (e ≤ e ∧ e < e + (d + 1)) = true := dt (by omega)
        rw [hpi, Nat.testBit_two_pow_self, h4, Bool.true_or]
        rfl
      · rw [Nat.testBit_two_pow_of_ne (fun h => he h.symm), Bool.false_or]
        congr 1
        exact decide_eq_decide.2 (by omega)
theorem hasE_orF (p : Int → Bool) {n : Nat} {e : Nat} (hn : n ≤ 8) (he : e < n) : hasE (orF p n 0 0) e = p e := by
  have hs := orF_set p n 0 0 (by omega) (by omega) (by omega)
  unfold hasE
  rw [isSet8, dt hs, dt (show 0 ≤ (e : Int) ∧ (e : Int) ≤ 7 by omega), Int.toNat_natCast, orF_bit p n 0 0 e (by omega) (by omega) (by omega), dt (by omega)]
  simp
theorem band_nat {x y : Nat} (hx : x < 256) (hy : y < 256) : band (x : Int) (y : Int) = ((x &&& y : Nat) : Int) := by
  unfold band
  have e : (BitVec.ofInt 64 (x : Int) &&& BitVec.ofInt 64 (y : Int)).toNat = x &&& y := by
    rw [BitVec.toNat_and, ofInt_nat, ofInt_nat, BitVec.toNat_ofNat, BitVec.toNat_ofNat, Nat.mod_eq_of_lt (by omega), Nat.mod_eq_of_lt (by omega)]
  have h : x &&& y ≤ x := Nat.and_le_left
  rw [show (BitVec.ofInt IntKind.i64.bits (x : Int) &&& BitVec.ofInt IntKind.i64.bits (y : Int)).toNat = x &&& y from e]
  exact wrap64 (by omega) (by omega)
theorem band_set {x y : Int} (hx : 0 ≤ x ∧ x ≤ 255) (hy : 0 ≤ y ∧ y ≤ 255) : 0 ≤ band x y ∧ band x y ≤ 255 ∧ (band x y).toNat = x.toNat &&& y.toNat := by
  obtain ⟨a, rfl⟩ : ∃ a : Nat, x = a := ⟨x.toNat, by omega⟩
  obtain ⟨b, rfl⟩ : ∃ b : Nat, y = b := ⟨y.toNat, by omega⟩
  rw [band_nat (by omega) (by omega)]
  have h : a &&& b ≤ a := Nat.and_le_left
  exact ⟨by omega, by omega, rfl⟩
def Small (a : List Int) : Prop := ∀ x ∈ a, 0 ≤ x ∧ x ≤ 255
theorem commonF_set (s : Int) : ∀ (a : List Int) (i : Nat) (acc : Int), Small a → 0 ≤ acc ∧ acc ≤ 255 → 0 ≤ commonF s a i acc ∧ commonF s a i acc ≤ 255 ∧
    ∀ e : Nat, (commonF s a i acc).toNat.testBit e = (acc.toNat.testBit e && allB (fun j => !hasE s ((i + j : Nat) : Int) || (a.getD j 0).toNat.testBit e) a.length 0)
  | [], i, acc, _, h => ⟨h.1, h.2, fun e => by simp [commonF, allB]⟩
  | x :: r, i, acc, hs, h => by
    have hx := hs x (by simp)
    have hb := band_set h hx
    have step : 0 ≤ (bif hasE s i then band acc x else acc) ∧ (bif hasE s i then band acc x else acc) ≤ 255 ∧ ∀ e : Nat, (bif hasE s i then band acc x else acc).toNat.testBit e = (acc.toNat.testBit e && (!hasE s i || x.toNat.testBit e)) := by
      cases hasE s i
      · exact ⟨h.1, h.2, fun e => by simp⟩
      · refine ⟨hb.1, hb.2.1, fun e => ?_⟩
        rw [cond_true, hb.2.2, Nat.testBit_and]
        simp
    obtain ⟨g1, g2, g3⟩ := commonF_set s r (i + 1) _ (fun y hy => hs y (by simp [hy])) ⟨step.1, step.2.1⟩
    rw [commonF]
    refine ⟨g1, g2, fun e => ?_⟩
    rw [g3 e, step.2.2 e, Bool.and_assoc]
    congr 1
    rw [List.length_cons, allB]
    congr 1
    have : allB (fun j => !hasE s ((i + j : Nat) : Int) || ((x :: r).getD j 0).toNat.testBit e) r.length (0 + 1) = allB (fun j => !hasE s ((i + 1 + j : Nat) : Int) || (r.getD j 0).toNat.testBit e) r.length 0 := by
      rw [Bool.eq_iff_iff, allB_iff, allB_iff]
      constructor
      · intro q j h1 h2
        have := q (j + 1) (by omega) (by omega)
        rw [List.getD_cons_succ] at this
        rw [← this]
        congr 4
        omega
      · intro q j h1 h2
        obtain ⟨j, rfl⟩ : ∃ k, j = k + 1 := ⟨j - 1, by omega⟩
        have := q j (by omega) (by omega)
        rw [List.getD_cons_succ]
        rw [← this]
        congr 4
        omega
    exact this.symm
theorem fullSet_bit {n : Int} (h0 : 0 ≤ n) (h8 : n ≤ 8) (e : Nat) : (fullSet n).toNat.testBit e = decide ((e : Int) < n) := by
  obtain ⟨k, rfl⟩ : ∃ k : Nat, n = k := ⟨n.toNat, by omega⟩
  have e1 : fullSet (k : Int) = ((2 ^ k - 1 : Nat) : Int) := by
    have h : k = 0 ∨ k = 1 ∨ k = 2 ∨ k = 3 ∨ k = 4 ∨ k = 5 ∨ k = 6 ∨ k = 7 ∨ k = 8 := by omega
    rcases h with rfl | rfl | rfl | rfl | rfl | rfl | rfl | rfl | rfl <;> decide
  rw [e1, Int.toNat_natCast, Nat.testBit_two_pow_sub_one]
  exact decide_eq_decide.2 (by omega)
/-- The objects that have all of a set. -/
def extAt (a : List Int) (s k : Int) : Bool := band (a.getD k.toNat 0) s == s
def extF (a : List Int) (s : Int) : Int := orF (extAt a s) a.length 0 0
def clN (m : Int) (a : List Int) (s : Nat) : Nat := (intentF m a (extF a s)).toNat
theorem sub_band {x s : Nat} (hx : x < 256) (hs : s < 256) : (band (x : Int) (s : Int) == (s : Int)) = true ↔ SubN s x := by
  rw [beq_iff_eq, band_nat hx hs]
  constructor
  · intro h i hi
    have h : x &&& s = s := by omega
    have := congrArg (fun z => Nat.testBit z i) h
    simp only [Nat.testBit_and, hi, Bool.and_true] at this
    exact this
  · intro h
    have : x &&& s = s := by
      apply Nat.eq_of_testBit_eq
      intro i
      rw [Nat.testBit_and]
      cases hb : s.testBit i
      · simp
      · simp [h i hb]
    rw [this]
theorem small_getD {a : List Int} (h : Small a) (k : Nat) : 0 ≤ a.getD k 0 ∧ a.getD k 0 ≤ 255 := by
  rw [List.getD_eq_getElem?_getD]
  cases hk : a[k]? with
  | none => simp
  | some x => exact h x (List.mem_of_getElem? hk)
theorem extF_spec {a : List Int} (hl : a.length ≤ 8) (hs : Small a) {s : Nat} (h : s < 256) : 0 ≤ extF a s ∧ extF a s ≤ 255 ∧ ∀ k : Nat, (extF a s).toNat.testBit k = true ↔ k < a.length ∧ SubN s (a.getD k 0).toNat := by
  have h1 := orF_set (extAt a s) a.length 0 0 (by omega) (by omega) (by omega)
  refine ⟨h1.1, h1.2, fun k => ?_⟩
  unfold extF
  rw [orF_bit _ _ _ _ _ (by omega) (by omega) (by omega)]
  simp only [Int.toNat_zero, Nat.zero_testBit, Bool.false_or, Nat.zero_add, Nat.zero_le, true_and, Bool.and_eq_true, decide_eq_true_eq]
  have hk := small_getD hs k
  unfold extAt
  rw [Int.toNat_natCast]
  have := sub_band (x := (a.getD k 0).toNat) (s := s) (by omega) h
  rw [Int.toNat_of_nonneg hk.1] at this
  rw [this]
/-- What is common to a set of objects. -/
theorem intentF_spec {m : Int} {a : List Int} (hm : 0 ≤ m ∧ m ≤ 8) (hl : a.length ≤ 8) (hs : Small a) {t : Int} (ht : isSet 8 t = true) : 0 ≤ intentF m a t ∧ intentF m a t ≤ 255 ∧
    ∀ e : Nat, (intentF m a t).toNat.testBit e = true ↔ (e : Int) < m ∧ ∀ k, k < a.length → t.toNat.testBit k = true → (a.getD k 0).toNat.testBit e = true := by
  have hf := fullSet_rng m
  obtain ⟨g1, g2, g3⟩ := commonF_set t a 0 (fullSet m) hs ⟨by omega, by omega⟩
  refine ⟨g1, g2, fun e => ?_⟩
  unfold intentF
  rw [g3 e, fullSet_bit hm.1 hm.2, Bool.and_eq_true, decide_eq_true_eq, allB_iff]
  constructor
  · rintro ⟨q1, q2⟩
    refine ⟨q1, fun k hk hb => ?_⟩
    have := q2 k (by omega) (by omega)
    rw [Nat.zero_add, hasE_bit ht (by omega) (by omega)] at this
    unfold bitI at this
    rw [Int.toNat_natCast, hb] at this
    simpa using this
  · rintro ⟨q1, q2⟩
    refine ⟨q1, fun k h1 h2 => ?_⟩
    rw [Nat.zero_add, hasE_bit ht (by omega) (by omega)]
    unfold bitI
    rw [Int.toNat_natCast]
    cases hb : t.toNat.testBit k
    · rfl
    · rw [q2 k (by omega) hb]; rfl
theorem ctx_small {m : Int} {a : List Int} (h : isCtx m a = true) : Small a := fun x hx => by
  have := isSet_le ((isCtx_len h).2.2.2 x hx)
  omega
theorem clN_bit {m : Int} {a : List Int} (h : isCtx m a = true) {s : Nat} (hs : s < 256) (e : Nat) : (clN m a s).testBit e = true ↔ (e : Int) < m ∧ ∀ k, k < a.length → SubN s (a.getD k 0).toNat → (a.getD k 0).toNat.testBit e = true := by
  have hl := isCtx_len h
  have hsm := ctx_small h
  obtain ⟨x1, x2, x3⟩ := extF_spec hl.1 hsm hs
  obtain ⟨_, _, i3⟩ := intentF_spec (m := m) ⟨hl.2.1, by omega⟩ hl.1 hsm (t := extF a s) (by rw [isSet8]; exact dt ⟨x1, x2⟩)
  unfold clN
  rw [i3 e]
  refine and_congr_right fun _ => ⟨fun g k hk hsub => g k hk ((x3 k).2 ⟨hk, hsub⟩), fun g k hk hb => g k hk ((x3 k).1 hb).2⟩
theorem cl_clo {m : Int} {a : List Int} (h : isCtx m a = true) : Clo m.toNat (clN m a) := by
  have hl := isCtx_len h
  have hp : ∀ s, s < 2 ^ m.toNat → s < 256 := fun s hs => by
    have : 2 ^ m.toNat ≤ 2 ^ 8 := Nat.pow_le_pow_right (by omega) (by omega)
    omega
  have hlt : ∀ s, s < 2 ^ m.toNat → clN m a s < 2 ^ m.toNat := by
    intro s hs
    refine Nat.lt_pow_two_of_testBit _ fun i hi => ?_
    cases hb : (clN m a s).testBit i
    · rfl
    · have := ((clN_bit h (hp s hs) i).1 hb).1
      omega
  have hext : ∀ s, s < 2 ^ m.toNat → SubN s (clN m a s) := by
    intro s hs i hi
    refine (clN_bit h (hp s hs) i).2 ⟨?_, fun k _ hsub => hsub i hi⟩
    rcases Nat.lt_or_ge i m.toNat with hi' | hi'
    · omega
    · rw [Nat.testBit_lt_two_pow (Nat.lt_of_lt_of_le hs (Nat.pow_le_pow_right (by omega) hi'))] at hi
      cases hi
  refine ⟨hlt, hext, fun s t hs ht hsub i hi => ?_, fun s hs => ?_⟩
  · obtain ⟨q1, q2⟩ := (clN_bit h (hp s hs) i).1 hi
    exact (clN_bit h (hp t ht) i).2 ⟨q1, fun k hk g => q2 k hk fun j hj => g j (hsub j hj)⟩
  · apply Nat.eq_of_testBit_eq
    intro i
    rw [Bool.eq_iff_iff, clN_bit h (hp _ (hlt s hs)), clN_bit h (hp s hs)]
    refine and_congr_right fun _ => ⟨fun g k hk hsub => g k hk fun j hj => ((clN_bit h (hp s hs) j).1 hj).2 k hk hsub, fun g k hk hsub => g k hk fun j hj => hsub j (hext s hs j hj)⟩
/-- The other way to a set's objects: by the columns. -/
theorem colF_bit {b : List Int} (hl : b.length ≤ 8) (e k : Nat) : (colF b e).toNat.testBit k = true ↔ k < b.length ∧ (b.getD k 0).toNat.testBit e = true := by
  unfold colF
  rw [orF_bit _ _ _ _ _ (by omega) (by omega) (by omega)]
  simp only [Int.toNat_zero, Nat.zero_testBit, Bool.false_or, Nat.zero_add, Nat.zero_le, true_and, Bool.and_eq_true, decide_eq_true_eq]
  unfold bitAt
  rw [Int.toNat_natCast, Int.toNat_natCast]
theorem ext_cols {m : Int} {a : List Int} (h : isCtx m a = true) {s : Nat} (hs : s < 2 ^ m.toNat) : commonF s (colsF m a) 0 (fullSet a.length) = extF a s := by
  have hl := isCtx_len h
  have hsm := ctx_small h
  have h256 : s < 256 := by
    have : 2 ^ m.toNat ≤ 2 ^ 8 := Nat.pow_le_pow_right (by omega) (by omega)
    omega
  have hset : isSet 8 (s : Int) = true := by rw [isSet8]; exact dt (by omega)
  have hlen : (colsF m a).length = m.toNat := colsL_length a _ _
  have hcs : Small (colsF m a) := by
    have : ∀ (d i : Nat), Small (colsL a d i) := by
      intro d
      induction d with
      | zero => intro i x hx; cases hx
      | succ d ih =>
        intro i x hx
        rcases List.mem_cons.1 hx with rfl | hx
        · exact colF_set a _ hl.1
        · exact ih (i + 1) x hx
    exact this _ _
  have hf := fullSet_rng (a.length : Int)
  obtain ⟨g1, g2, g3⟩ := commonF_set (s : Int) (colsF m a) 0 (fullSet a.length) hcs ⟨by omega, by omega⟩
  obtain ⟨x1, x2, x3⟩ := extF_spec hl.1 hsm h256
  have : (commonF s (colsF m a) 0 (fullSet a.length)).toNat = (extF a s).toNat := by
    apply Nat.eq_of_testBit_eq
    intro k
    rw [Bool.eq_iff_iff, x3 k, g3 k, fullSet_bit (by omega) (by omega), Bool.and_eq_true, decide_eq_true_eq, allB_iff]
    constructor
    · rintro ⟨q1, q2⟩
      have hk : k < a.length := by omega
      refine ⟨hk, fun e he => ?_⟩
      have hem : e < m.toNat := by
        rcases Nat.lt_or_ge e m.toNat with hi' | hi'
        · exact hi'
        · rw [Nat.testBit_lt_two_pow (Nat.lt_of_lt_of_le hs (Nat.pow_le_pow_right (by omega) hi'))] at he
          cases he
      have := q2 e (by omega) (by omega)
      rw [Nat.zero_add, hasE_bit hset (by omega) (by omega)] at this
      unfold bitI at this
      rw [Int.toNat_natCast, Int.toNat_natCast, he] at this
      unfold colsF at this
      rw [colsL_get a _ 0 e hem, Nat.zero_add] at this
      exact ((colF_bit hl.1 e k).1 (by simpa using this)).2
    · rintro ⟨q1, q2⟩
      refine ⟨by omega, fun e h1 h2 => ?_⟩
      rw [Nat.zero_add, hasE_bit hset (by omega) (by omega)]
      unfold bitI
      rw [Int.toNat_natCast, Int.toNat_natCast]
      cases hb : s.testBit e
      · rfl
      · unfold colsF
        rw [colsL_get a _ 0 e (by omega), Nat.zero_add, (colF_bit hl.1 e k).2 ⟨q1, q2 e hb⟩]
        rfl
  omega
theorem sub_nat0 {x s : Nat} (hx : x < 256) (hs : s < 256) : (band (s : Int) (x : Int) == (s : Int)) = true ↔ SubN s x := by
  rw [band_comm, sub_band hx hs]
theorem zw_getD (f : Int → Int → Int) {ys x : List Int} {j : Nat} (h1 : j < ys.length) (h2 : j < x.length) : (List.zipWith f ys x).getD j 0 = f (ys.getD j 0) (x.getD j 0) := by
  rw [List.getD_eq_getElem?_getD, List.getD_eq_getElem?_getD, List.getD_eq_getElem?_getD, List.getElem?_eq_getElem (by rw [List.length_zipWith]; omega), List.getElem?_eq_getElem h1, List.getElem?_eq_getElem h2]
  simp
abbrev rowI (a : List (List Int)) (g : Int) : List Int := a.getD g.toNat []
theorem hullG_spec {f : Int → Int → Int} {R : Int → Int → Prop} (ht : ∀ x y z, R x y → R y z → R x z) (h1 : ∀ x y, R (f x y) x) (h2 : ∀ x y, R (f x y) y) (h3 : ∀ x y, f x y = x ∨ f x y = y) {a : List (List Int)} {w : Nat} :
    ∀ (l ys G : List Int), (∀ g ∈ l, (rowI a g).length = w) → ys.length = w → (∀ j, j < w → (∀ g ∈ G, R (ys.getD j 0) ((rowI a g).getD j 0)) ∧ ∃ g ∈ G, ys.getD j 0 = (rowI a g).getD j 0) →
      (hullG f a l ys).length = w ∧ ∀ j, j < w → (∀ g ∈ G ++ l, R ((hullG f a l ys).getD j 0) ((rowI a g).getD j 0)) ∧ ∃ g ∈ G ++ l, (hullG f a l ys).getD j 0 = (rowI a g).getD j 0
  | [], ys, G, _, hy, hG => by
    rw [List.append_nil]
    exact ⟨hy, hG⟩
  | g :: l, ys, G, hl, hy, hG => by
    have hg := hl g (by simp)
    have e : hullStep f a ys g = List.zipWith f ys (rowI a g) := mixL_zip f (by rw [hy, hg])
    have ih := hullG_spec ht h1 h2 h3 l (hullStep f a ys g) (G ++ [g]) (fun g' hg' => hl g' (by simp [hg'])) (by rw [e, List.length_zipWith]; omega) (fun j hj => by
      have hz := zw_getD f (ys := ys) (x := rowI a g) (j := j) (by omega) (by omega)
      rw [e, hz]
      obtain ⟨q1, q2⟩ := hG j hj
      refine ⟨fun g' hg' => ?_, ?_⟩
      · rcases List.mem_append.1 hg' with hg' | hg'
        · exact ht _ _ _ (h1 _ _) (q1 g' hg')
        · rw [List.mem_singleton.1 hg']
          exact h2 _ _
      · rcases h3 (ys.getD j 0) ((rowI a g).getD j 0) with h | h
        · obtain ⟨g', hg', he⟩ := q2
          exact ⟨g', List.mem_append_left _ hg', h.trans he⟩
        · exact ⟨g, List.mem_append_right _ (by simp), h⟩)
    rw [List.append_assoc] at ih
    exact ih
theorem hullL_spec {f : Int → Int → Int} {R : Int → Int → Prop} (hr : ∀ x, R x x) (ht : ∀ x y z, R x y → R y z → R x z) (h1 : ∀ x y, R (f x y) x) (h2 : ∀ x y, R (f x y) y) (h3 : ∀ x y, f x y = x ∨ f x y = y) {a : List (List Int)} (hA : arePts a = true) {s : Int} (hs : isSet a.length s = true) (h0 : s ≠ 0) :
    (hullL f a s).length = (a.getD 0 []).length ∧ ∀ j, j < (a.getD 0 []).length → (∀ g ∈ elemsF s, R ((hullL f a s).getD j 0) ((rowI a g).getD j 0)) ∧ ∃ g ∈ elemsF s, (hullL f a s).getD j 0 = (rowI a g).getD j 0 := by
  have hp := arePts_parts hA
  obtain ⟨g, l, he, hm⟩ := elems_first hp.1.2 hs h0
  have hrow : ∀ g ∈ elemsF s, (rowI a g).length = (a.getD 0 []).length := fun g hg => by
    have := hm g hg
    exact hp.2.2 _ (mem_getD (by omega))
  unfold hullL
  rw [he] at hrow ⊢
  have := hullG_spec ht h1 h2 h3 l (rowI a g) [g] (fun x hx => hrow x (by simp [hx])) (hrow g (by simp)) (fun j _ => ⟨fun x hx => by rw [List.mem_singleton.1 hx]; exact hr _, g, by simp, rfl⟩)
  exact this
theorem elems_in {s : Int} {k : Nat} (hk : k < 8) (h : hasE s (k : Int) = true) : (k : Int) ∈ elemsF s := by
  have ha := elemsL_any s (fun x => x == (k : Int)) 8 0
  have hb : allB (fun e => !(hasE s e && ((e : Int) == (k : Int)))) 8 0 = false := by
    rw [← Bool.not_eq_true]
    intro hc
    have := (allB_iff _ _ _).1 hc k (by omega) (by omega)
    rw [h, beq_self_eq_true] at this
    cases this
  rw [hb, Bool.not_false] at ha
  obtain ⟨y, hy, he⟩ := List.any_eq_true.1 ha
  rw [← eq_of_beq he]
  exact hy
theorem fits_iff (y lo hi : List Int) : fits y lo hi = true ↔ ∀ j, j < y.length → lo.getD j 0 ≤ y.getD j 0 ∧ y.getD j 0 ≤ hi.getD j 0 := by
  unfold fits
  rw [allB_iff]
  constructor
  · intro h j hj
    have := h j (by omega) (by omega)
    unfold fitAt at this
    exact of_decide_eq_true this
  · intro h j _ hj
    unfold fitAt
    exact decide_eq_true (h j (by omega))
theorem fit_bit {a : List (List Int)} (hA : arePts a = true) {lo hi : List Int} (hl : lo.length = (a.getD 0 []).length) (hh : hi.length = (a.getD 0 []).length) :
    (0 ≤ fitF a lo hi ∧ fitF a lo hi ≤ 255) ∧ ∀ k : Nat, (fitF a lo hi).toNat.testBit k = true ↔ k < a.length ∧ fits (a.getD k []) lo hi = true := by
  have hp := arePts_parts hA
  have e : fitF a lo hi = orF (fitP a lo hi) a.length 0 0 := by
    unfold fitF
    rw [hA, dt hl, dt hh]
    rfl
  rw [e]
  refine ⟨orF_set (fitP a lo hi) a.length 0 0 (by omega) (by omega) (by omega), fun k => ?_⟩
  rw [orF_bit _ _ _ _ _ (by omega) (by omega) (by omega)]
  simp only [Int.toNat_zero, Nat.zero_testBit, Bool.false_or, Nat.zero_add, Nat.zero_le, true_and, Bool.and_eq_true, decide_eq_true_eq]
  unfold fitP
  rw [Int.toNat_natCast]
theorem fit_parts {a : List (List Int)} {lo hi : List Int} (h : fitF a lo hi ≠ 0) : arePts a = true ∧ lo.length = (a.getD 0 []).length ∧ hi.length = (a.getD 0 []).length := by
  unfold fitF at h
  cases hc : (arePts a && decide (lo.length = (a.getD 0 []).length) && decide (hi.length = (a.getD 0 []).length))
  · rw [hc] at h; exact absurd rfl h
  · rw [Bool.and_eq_true, Bool.and_eq_true, decide_eq_true_eq, decide_eq_true_eq] at hc
    exact ⟨hc.1.1, hc.1.2, hc.2⟩
theorem fit_isSet {a : List (List Int)} (hA : arePts a = true) {lo hi : List Int} (hl : lo.length = (a.getD 0 []).length) (hh : hi.length = (a.getD 0 []).length) : isSet a.length (fitF a lo hi) = true := by
  obtain ⟨h1, h2⟩ := fit_bit hA hl hh
  have hp := arePts_parts hA
  obtain ⟨v, hv⟩ : ∃ v : Nat, fitF a lo hi = v := ⟨(fitF a lo hi).toNat, by omega⟩
  rw [hv] at h1 h2 ⊢
  have hlt : v < 2 ^ a.length := by
    refine Nat.lt_pow_two_of_testBit _ fun i hi => ?_
    cases hb : v.testBit i
    · rfl
    · have := ((h2 i).1 (by rw [Int.toNat_natCast]; exact hb)).1
      omega
  exact set_lt hp.1.2 hlt
abbrev loH (a : List (List Int)) (s : Int) : List Int := hullL min a s
abbrev hiH (a : List (List Int)) (s : Int) : List Int := hullL max a s
theorem lo_spec {a : List (List Int)} (hA : arePts a = true) {s : Int} (hs : isSet a.length s = true) (h0 : s ≠ 0) :
    (loH a s).length = (a.getD 0 []).length ∧ ∀ j, j < (a.getD 0 []).length → (∀ g ∈ elemsF s, (loH a s).getD j 0 ≤ (rowI a g).getD j 0) ∧ ∃ g ∈ elemsF s, (loH a s).getD j 0 = (rowI a g).getD j 0 :=
  hullL_spec (f := min) (R := (· ≤ ·)) (fun x => Int.le_refl x) (fun _ _ _ => Int.le_trans) (fun x y => by omega) (fun x y => by omega) (fun x y => by omega) hA hs h0
theorem hi_spec {a : List (List Int)} (hA : arePts a = true) {s : Int} (hs : isSet a.length s = true) (h0 : s ≠ 0) :
    (hiH a s).length = (a.getD 0 []).length ∧ ∀ j, j < (a.getD 0 []).length → (∀ g ∈ elemsF s, (rowI a g).getD j 0 ≤ (hiH a s).getD j 0) ∧ ∃ g ∈ elemsF s, (hiH a s).getD j 0 = (rowI a g).getD j 0 :=
  hullL_spec (f := max) (R := fun x y => y ≤ x) (fun x => Int.le_refl x) (fun _ _ _ h1 h2 => Int.le_trans h2 h1) (fun x y => by omega) (fun x y => by omega) (fun x y => by omega) hA hs h0
theorem hullF_same (a : List (List Int)) (s : Int) : (hullF a s).1.length = (hullF a s).2.1.length := by
  unfold hullF
  cases h : ((arePts a && !(s == 0)) && isSet a.length s)
  · rfl
  · rw [Bool.and_eq_true, Bool.and_eq_true, Bool.not_eq_true'] at h
    have h0 : s ≠ 0 := beq_eq_false_iff_ne.1 h.1.2
    exact (lo_spec h.1.1 h.2 h0).1.trans (hi_spec h.1.1 h.2 h0).1.symm
theorem set_bit {n : Nat} (hn : n ≤ 8) {s : Int} (hs : isSet n s = true) {k : Nat} (h : s.toNat.testBit k = true) : k < n ∧ hasE s (k : Int) = true := by
  have hk : k < n := by
    rcases Nat.lt_or_ge k n with q | q
    · exact q
    · have := isSet_bit hs (e := k) (by omega)
      unfold bitI at this
      rw [Int.toNat_natCast, h] at this
      cases this
  refine ⟨hk, ?_⟩
  rw [hasE_bit (isSet_8 hs) (by omega) (by omega)]
  unfold bitI
  rw [Int.toNat_natCast]
  exact h
/-- A set's points fit its hull. -/
theorem hull_fits {a : List (List Int)} (hA : arePts a = true) {s : Int} (hs : isSet a.length s = true) (h0 : s ≠ 0) {k : Nat} (h : s.toNat.testBit k = true) : (fitF a (loH a s) (hiH a s)).toNat.testBit k = true := by
  have hp := arePts_parts hA
  obtain ⟨l1, l2⟩ := lo_spec hA hs h0
  obtain ⟨u1, u2⟩ := hi_spec hA hs h0
  obtain ⟨hk, hE⟩ := set_bit hp.1.2 hs h
  have hm := elems_in (by omega) hE
  refine ((fit_bit hA l1 u1).2 k).2 ⟨hk, (fits_iff _ _ _).2 fun j hj => ?_⟩
  have hw := hp.2.2 _ (mem_getD (d := []) hk)
  have q1 := (l2 j (by omega)).1 _ hm
  have q2 := (u2 j (by omega)).1 _ hm
  unfold rowI at q1 q2
  rw [Int.toNat_natCast] at q1 q2
  exact ⟨q1, q2⟩
/-- A hull lies in what all its points fit. -/
theorem hull_in {a : List (List Int)} (hA : arePts a = true) {s : Int} (hs : isSet a.length s = true) (h0 : s ≠ 0) {lo hi : List Int} (h : ∀ k : Nat, s.toNat.testBit k = true → fits (a.getD k []) lo hi = true) :
    ∀ j, j < (a.getD 0 []).length → lo.getD j 0 ≤ (loH a s).getD j 0 ∧ (hiH a s).getD j 0 ≤ hi.getD j 0 := by
  have hp := arePts_parts hA
  have key : ∀ g ∈ elemsF s, ∀ j, j < (a.getD 0 []).length → lo.getD j 0 ≤ (rowI a g).getD j 0 ∧ (rowI a g).getD j 0 ≤ hi.getD j 0 := by
    intro g hg j hj
    obtain ⟨e, rfl, _, h2, h3⟩ := elemsL_mem s g 8 0 hg
    have hlt := elemsF_lt hs hg
    have hb : s.toNat.testBit e = true := by
      rw [hasE_bit (isSet_8 hs) (by omega) (by omega)] at h3
      unfold bitI at h3
      rw [Int.toNat_natCast] at h3
      exact h3
    have hw := hp.2.2 _ (mem_getD (d := []) (show e < a.length by omega))
    have := (fits_iff _ _ _).1 (h e hb) j (by omega)
    unfold rowI
    rw [Int.toNat_natCast]
    exact this
  obtain ⟨l1, l2⟩ := lo_spec hA hs h0
  obtain ⟨u1, u2⟩ := hi_spec hA hs h0
  intro j hj
  obtain ⟨g, hg, e1⟩ := (l2 j hj).2
  obtain ⟨g', hg', e2⟩ := (u2 j hj).2
  unfold loH hiH
  rw [e1, e2]
  exact ⟨(key g hg j hj).1, (key g' hg' j hj).2⟩
theorem fits_mono {y lo hi lo' hi' : List Int} (h : ∀ j, j < y.length → lo.getD j 0 ≤ lo'.getD j 0 ∧ hi'.getD j 0 ≤ hi.getD j 0) (hf : fits y lo' hi' = true) : fits y lo hi = true := by
  refine (fits_iff _ _ _).2 fun j hj => ?_
  have := (fits_iff _ _ _).1 hf j hj
  have := h j hj
  omega
theorem hull_sub {a : List (List Int)} {s : Int} (hA : arePts a = true) (hs : isSet a.length s = true) (h0 : s ≠ 0) : subB s (fitF a (loH a s) (hiH a s)) = true := by
  obtain ⟨l1, _⟩ := lo_spec hA hs h0
  obtain ⟨u1, _⟩ := hi_spec hA hs h0
  have h8 := isSet_8 hs
  have f8 := isSet_8 (fit_isSet hA l1 u1)
  have r1 := isSet_le h8
  have r2 := isSet_le f8
  rw [subB_eq, h8, f8, Bool.and_self, Bool.true_and]
  obtain ⟨x, hx⟩ : ∃ x : Nat, s = x := ⟨s.toNat, by omega⟩
  obtain ⟨y, hy⟩ : ∃ y : Nat, fitF a (loH a s) (hiH a s) = y := ⟨(fitF a (loH a s) (hiH a s)).toNat, by omega⟩
  have hf := fun k => hull_fits hA hs h0 (k := k)
  rw [hy] at hf r2 ⊢
  rw [hx] at hf r1 ⊢
  refine (sub_nat0 (by omega) (by omega)).2 fun i hi => ?_
  have := hf i
  rw [Int.toNat_natCast, Int.toNat_natCast] at this
  exact this hi
theorem wider_self {lo hi : List Int} (h : hi.length = lo.length) : isWider lo hi lo hi = true := by
  unfold isWider
  rw [h]
  simp only [beq_self_eq_true, Bool.true_and]
  rw [allB_iff]
  intro j _ _
  unfold widerAt
  simp
theorem fit_hull {a : List (List Int)} {lo hi : List Int} (h : fitF a lo hi ≠ 0) :
    isWider lo hi (loH a (fitF a lo hi)) (hiH a (fitF a lo hi)) = true ∧ fitF a (loH a (fitF a lo hi)) (hiH a (fitF a lo hi)) = fitF a lo hi := by
  obtain ⟨hA, hl, hh⟩ := fit_parts h
  have hs := fit_isSet hA hl hh
  obtain ⟨b1, b2⟩ := fit_bit hA hl hh
  obtain ⟨l1, _⟩ := lo_spec hA hs h
  obtain ⟨u1, _⟩ := hi_spec hA hs h
  have hp := arePts_parts hA
  have hin := hull_in hA hs h (lo := lo) (hi := hi) fun k hk => ((b2 k).1 hk).2
  constructor
  · unfold isWider
    unfold loH hiH at *
    rw [hh, l1, u1, hl]
    simp only [beq_self_eq_true, Bool.true_and]
    rw [allB_iff]
    intro j _ hj
    have := hin j (by omega)
    unfold widerAt
    rw [df (by omega), df (by omega)]
    rfl
  · obtain ⟨c1, c2⟩ := fit_bit hA (lo := loH a (fitF a lo hi)) (hi := hiH a (fitF a lo hi)) l1 u1
    have : (fitF a (loH a (fitF a lo hi)) (hiH a (fitF a lo hi))).toNat = (fitF a lo hi).toNat := by
      apply Nat.eq_of_testBit_eq
      intro k
      rw [Bool.eq_iff_iff]
      constructor
      · intro hk
        obtain ⟨k1, k2⟩ := (c2 k).1 hk
        have hw := hp.2.2 _ (mem_getD (d := []) k1)
        exact (b2 k).2 ⟨k1, fits_mono (fun j hj => hin j (by omega)) k2⟩
      · exact fun hk => hull_fits hA hs h hk
    omega
theorem extL_mem (a : List (List Int)) : ∀ (d : Nat) (i s : Int), s ∈ extL a d i ↔ (i ≤ s ∧ s < i + d) ∧ patAt a s = true
  | 0, i, s => by
    rw [extL]
    constructor
    · intro h; cases h
    · intro h; omega
  | d + 1, i, s => by
    rw [extL]
    cases hp : patAt a i
    · rw [cond_false, extL_mem a d (i + 1) s]
      constructor
      · rintro ⟨q1, q2⟩
        exact ⟨by omega, q2⟩
      · rintro ⟨q1, q2⟩
        refine ⟨?_, q2⟩
        rcases Int.lt_or_le i s with g | g
        · omega
        · have : s = i := by omega
          rw [this, hp] at q2
          cases q2
    · rw [cond_true, List.mem_cons, extL_mem a d (i + 1) s]
      constructor
      · rintro (rfl | ⟨q1, q2⟩)
        · exact ⟨by omega, hp⟩
        · exact ⟨by omega, q2⟩
      · rintro ⟨q1, q2⟩
        rcases Int.lt_or_le i s with g | g
        · exact Or.inr ⟨by omega, q2⟩
        · exact Or.inl (by omega)
theorem pat_meet {a : List (List Int)} {s t : Int} (hs : s ∈ patE a) (ht : t ∈ patE a) : (patE a).any (fun y => y == band s t) = true := by
  unfold patE at hs ht ⊢
  cases hA : arePts a with
  | false => rw [hA] at hs; cases hs
  | true =>
    rw [hA, cond_true] at hs ht
    rw [cond_true]
    have hp := arePts_parts hA
    have hf := full_len hp.1.2
    have hmem : ∀ s ∈ (0 :: extL a (2 ^ a.length - 1) 1), s = 0 ∨ (isSet a.length s = true ∧ s ≠ 0 ∧ patAt a s = true) := by
      intro s hs
      rcases List.mem_cons.1 hs with h | h
      · exact Or.inl h
      · obtain ⟨q1, q2⟩ := (extL_mem a _ _ s).1 h
        obtain ⟨x, rfl⟩ : ∃ x : Nat, s = x := ⟨s.toNat, by omega⟩
        exact Or.inr ⟨set_lt hp.1.2 (by omega), by omega, q2⟩
    have hzero : (0 :: extL a (2 ^ a.length - 1) 1).any (fun y => y == (0 : Int)) = true := List.any_eq_true.2 ⟨0, by simp, by simp⟩
    have z1 : ∀ x : Int, band 0 x = 0 := fun x => by
      unfold band
      simp
      rfl
    rcases hmem s hs with rfl | ⟨s1, s2, s3⟩
    · rw [z1]; exact hzero
    · rcases hmem t ht with rfl | ⟨t1, t2, t3⟩
      · rw [band_comm, z1]; exact hzero
      · rcases Classical.em (band s t = 0) with hz | hz
        · rw [hz]; exact hzero
        · have rs := isSet_le s1
          have rt := isSet_le t1
          obtain ⟨x, hx⟩ : ∃ x : Nat, s = x := ⟨s.toNat, by omega⟩
          obtain ⟨y, hy⟩ : ∃ y : Nat, t = y := ⟨t.toNat, by omega⟩
          have hb : band s t = ((x &&& y : Nat) : Int) := by rw [hx, hy]; exact band_nat (by omega) (by omega)
          have hle : x &&& y ≤ x := Nat.and_le_left
          have hxl : x < 2 ^ a.length := by
            have := s1
            unfold isSet at this
            have := (of_decide_eq_true this).2
            rw [hx, Int.toNat_natCast] at this
            have e2 : ((2 ^ a.length : Nat) : Int) = (2 : Int) ^ a.length := by push_cast; rfl
            omega
          have us : isSet a.length (band s t) = true := by rw [hb]; exact set_lt hp.1.2 (by omega)
          obtain ⟨l1, _⟩ := lo_spec hA us hz
          obtain ⟨u1, _⟩ := hi_spec hA us hz
          obtain ⟨c1, c2⟩ := fit_bit hA (lo := loH a (band s t)) (hi := hiH a (band s t)) l1 u1
          have part : ∀ v : Int, isSet a.length v = true → v ≠ 0 → patAt a v = true → (∀ k : Nat, (band s t).toNat.testBit k = true → v.toNat.testBit k = true) → ∀ k : Nat, (fitF a (loH a (band s t)) (hiH a (band s t))).toNat.testBit k = true → v.toNat.testBit k = true := by
            intro v v1 v2 v3 hsub k hk
            obtain ⟨lv, _⟩ := lo_spec hA v1 v2
            obtain ⟨uv, _⟩ := hi_spec hA v1 v2
            have hv : fitF a (loH a v) (hiH a v) = v := eq_of_beq v3
            obtain ⟨d1, d2⟩ := fit_bit hA (lo := loH a v) (hi := hiH a v) lv uv
            obtain ⟨k1, k2⟩ := (c2 k).1 hk
            have hin := hull_in hA us hz (lo := loH a v) (hi := hiH a v) fun k' hk' => by
              have := hull_fits hA v1 v2 (hsub k' hk')
              exact ((d2 k').1 this).2
            have hw := hp.2.2 _ (mem_getD (d := []) k1)
            have := (d2 k).2 ⟨k1, fits_mono (fun j hj => hin j (by omega)) k2⟩
            rwa [hv] at this
          have hub : ∀ k : Nat, (band s t).toNat.testBit k = (s.toNat.testBit k && t.toNat.testBit k) := by
            intro k
            rw [hb, Int.toNat_natCast, Nat.testBit_and, hx, hy, Int.toNat_natCast, Int.toNat_natCast]
          have p1 := part s s1 s2 s3 fun k hk => by rw [hub, Bool.and_eq_true] at hk; exact hk.1
          have p2 := part t t1 t2 t3 fun k hk => by rw [hub, Bool.and_eq_true] at hk; exact hk.2
          have heq : fitF a (loH a (band s t)) (hiH a (band s t)) = band s t := by
            have : (fitF a (loH a (band s t)) (hiH a (band s t))).toNat = (band s t).toNat := by
              apply Nat.eq_of_testBit_eq
              intro k
              rw [Bool.eq_iff_iff]
              constructor
              · intro hk
                rw [hub, p1 k hk, p2 k hk]
                rfl
              · exact fun hk => hull_fits hA us hz hk
            have := isSet_le us
            omega
          refine List.any_eq_true.2 ⟨band s t, List.mem_cons_of_mem _ ((extL_mem a _ _ _).2 ⟨?_, ?_⟩), beq_self_eq_true _⟩
          · have := isSet_le us
            omega
          · unfold patAt
            rw [heq]
            exact beq_self_eq_true _
theorem hullF_ok {a : List (List Int)} {s : Int} (h : (hullF a s).2.2 = true) : subB s (fitF a (hullF a s).1 (hullF a s).2.1) = true ∧ isWider (hullF a s).1 (hullF a s).2.1 (hullF a s).1 (hullF a s).2.1 = true := by
  refine ⟨?_, wider_self (hullF_same a s).symm⟩
  unfold hullF at h ⊢
  cases hc : ((arePts a && !(s == 0)) && isSet a.length s)
  · rw [hc] at h; cases h
  · rw [cond_true]
    rw [Bool.and_eq_true, Bool.and_eq_true, Bool.not_eq_true'] at hc
    exact hull_sub hc.1.1 hc.2 (beq_eq_false_iff_ne.1 hc.1.2)
theorem hullF_fit {a : List (List Int)} {lo hi : List Int} (h : fitF a lo hi ≠ 0) : (hullF a (fitF a lo hi)).2.2 = true ∧ isWider lo hi (hullF a (fitF a lo hi)).1 (hullF a (fitF a lo hi)).2.1 = true ∧ fitF a (hullF a (fitF a lo hi)).1 (hullF a (fitF a lo hi)).2.1 = fitF a lo hi := by
  obtain ⟨hA, hl, hh⟩ := fit_parts h
  have hs := fit_isSet hA hl hh
  have e : hullF a (fitF a lo hi) = (loH a (fitF a lo hi), hiH a (fitF a lo hi), true) := by
    unfold hullF
    rw [hA, hs, show (fitF a lo hi == 0) = false from beq_eq_false_iff_ne.2 h]
    rfl
  obtain ⟨q1, q2⟩ := fit_hull h
  rw [e]
  exact ⟨rfl, q1, q2⟩
/- spec.l1In -/
def K_l1In : List AV → List Ob → Option (AV × List Ob)
  | [.int .i64 n, .int .i64 l, .int .i64 h], [] => gd (True) (.bool (decide (l ≤ n ∧ n ≤ h)), [])
  | _, _ => none
@[reducible] def E_l1In : Env := mkE (tb []) (fun f => false) (fun r => ([], []))
theorem ev_l1In (n l h : Int) (hp : True) : evF E_l1In (1) Tryd.f52 [.int .i64 n, .int .i64 l, .int .i64 h] [] = some (.bool (decide (l ≤ n ∧ n ≤ h)), []) := by
  conv => lhs; whnf
  refine br_c (fun h1 => ?_) (fun h1 => ?_)
  · conv => lhs; whnf
    repeat ((first | with_reducible apply br_tt | with_reducible apply br_ff | with_reducible apply br_nf | with_reducible apply br_nt | with_reducible refine br_d ?_ (by kernel_rfl) | with_reducible apply br_t h1 | with_reducible apply br_f h1); conv => lhs; whnf)
    have := ofd h1
    simp [this]
  · conv => lhs; whnf
    repeat ((first | with_reducible apply br_tt | with_reducible apply br_ff | with_reducible apply br_nf | with_reducible apply br_nt | with_reducible refine br_d ?_ (by kernel_rfl) | with_reducible apply br_t h1 | with_reducible apply br_f h1); conv => lhs; whnf)
    have := ofn h1
    simp [this]
theorem ok_l1In : FnOk Tryd.prog 52 K_l1In := by
  refine fn_ok (fn := Tryd.f52) (k := Tryd.f52.ntmps) (E := E_l1In) (facts_of (List.forall_mem_nil _)) (by kernel_rfl) rfl (by decide +kernel) (by decide +kernel) ?_
  intro avs hin r h
  unfold K_l1In at h
  split at h
  · obtain ⟨hp, rfl⟩ := gd_o h
    exact ⟨_, ev_l1In _ _ _ hp, rfl⟩
  · cases h

/- spec.ArePoints -/
def K_specArePoints : List AV → List Ob → Option (AV × List Ob)
  | [.lst (.lst (.int .i64)) a], [] => gd (a.length ≤ 1048576 ∧ ∀ x ∈ a, x.length ≤ 1048576) (.bool (arePts a), [])
  | _, _ => none
@[reducible] def E_specArePoints : Env := mkE (tb [(52, K_l1In)]) (fun f => false) (fun r => bif r == 2 then ([0, 3], [0, 2, 3]) else bif r == 7 then ([0, 3, 4], [0, 2, 3]) else ([], []))
theorem lq_specArePoints (a : List (List Int)) (g : Nat) (hg : g < a.length) (y : List Int) (hy : a.getD g [] = y) (hl : y.length ≤ 1048576) (k : AX → S → Option (AV × List Ob)) (r : Option (AV × List Ob)) (hk : k .ret (mkS [0, 2, 3] [.lst (.lst (.int .i64)) a, .bool false, .int .i64 (g : Int)] []) = r) (d : Nat) : ∀ (n i : Nat) (x : Int), y.length - i = d → i ≤ y.length → x = i → d < n →
    lpAt E_specArePoints (lp E_specArePoints 0 n) 0 (loopAt Tryd.f24 1) (mkS [0, 3, 4] [.lst (.lst (.int .i64)) a, .int .i64 (g : Int), .int .i64 x] []) k =
      if (y.drop i).all okNum then k (.exit 2) (mkS [0, 2, 3] [.lst (.lst (.int .i64)) a, .any, .int .i64 (g : Int)] []) else r := by
  subst hy
  induction d with
  | zero =>
    intro n i x hd hi hx hn
    subst hx
    rw [lpAt_def]
    conv => lhs; whnf
    refine br_t (dt2 (by omega) (by omega)) ?_
    conv => lhs; whnf
    refine br_f (df (by change ¬ ((i : Int) < ((a.getD g []).length : Int)); omega)) ?_
    conv => lhs; whnf
    rw [List.drop_of_length_le (by omega), if_pos (by rfl)]
  | succ d ih =>
    intro n i x hd hi hx hn
    obtain ⟨n, rfl⟩ : ∃ m, n = m + 1 := ⟨n - 1, by omega⟩
    subst hx
    rw [lpAt_def]
    conv => lhs; whnf
    refine br_t (dt2 (by omega) (by omega)) ?_
    conv => lhs; whnf
    refine br_t (dt (by change ((i : Int) < ((a.getD g []).length : Int)); omega)) ?_
    conv => lhs; whnf
    refine br_t (dt2 (by omega) (by omega)) ?_
    conv => lhs; whnf
    refine br_t (dt2 (by omega) (by change ((i : Int) < ((a.getD g []).length : Int)); omega)) ?_
    conv => lhs; whnf
    conv => lhs; arg 1; whnf
    refine bnd_g (by exact True.intro) ?_
    conv => lhs; whnf
    rw [getD_drop (l := a.getD g []) (i := i) (d := 0) (by omega)]
    refine br_c (fun h => ?_) (fun h => ?_)
    · have h' : okNum ((a.getD g []).getD i 0) = false := bnt h
      conv => lhs; whnf
      rw [if_neg (by rw [List.all_cons, h', Bool.false_and]; exact Bool.false_ne_true)]
      exact hk
    · have h' : okNum ((a.getD g []).getD i 0) = true := bnf h
      conv => lhs; whnf
      rw [ih n (i + 1) _ (by omega) (by omega) (by rw [wrap64 (by omega) (by omega)]; simp) (by omega)]
      rw [List.all_cons, h', Bool.true_and]

theorem lp_specArePoints (a : List (List Int)) (ha : a.length ≤ 1048576) (hm : ∀ x ∈ a, x.length ≤ 1048576) (k : AX → S → Option (AV × List Ob)) (r : Option (AV × List Ob)) (hk : ∀ g : Int, k .ret (mkS [0, 2, 3] [.lst (.lst (.int .i64)) a, .bool false, .int .i64 g] []) = r) (d : Nat) : ∀ (n i : Nat) (x : Int), a.length - i = d → i ≤ a.length → x = i → d + 1048580 < n →
    lpAt E_specArePoints (lp E_specArePoints 0 n) 0 (loopAt Tryd.f24 0) (mkS [0, 3] [.lst (.lst (.int .i64)) a, .int .i64 x] []) k =
      if (a.drop i).all (okPt (a.getD 0 []).length) then k (.exit 0) (mkS [0, 2, 3] [.lst (.lst (.int .i64)) a, .any, .int .i64 (a.length : Int)] []) else r := by
  induction d with
  | zero =>
    intro n i x hd hi hx hn
    subst hx
    rw [lpAt_def]
    conv => lhs; whnf
    refine br_f (df (by omega)) ?_
    conv => lhs; whnf
    have : i = a.length := by omega
    rw [List.drop_of_length_le (by omega), if_pos (by rfl), this]
  | succ d ih =>
    intro n i x hd hi hx hn
    obtain ⟨n, rfl⟩ : ∃ m, n = m + 1 := ⟨n - 1, by omega⟩
    subst hx
    have hl := hm _ (mem_getD (d := []) (show i < a.length by omega))
    rw [lpAt_def]
    conv => lhs; whnf
    refine br_t (dt (by omega)) ?_
    conv => lhs; whnf
    refine br_t (dt2 (by omega) (by omega)) ?_
    conv => lhs; whnf
    refine br_t (dt2 (by omega) (by change (0 : Int) < (a.length : Int); omega)) ?_
    conv => lhs; whnf
    refine br_t (by kernel_rfl) ?_
    conv => lhs; whnf
    rw [getD_drop (l := a) (i := i) (d := []) (by omega)]
    refine br_c (fun h => ?_) (fun h => ?_)
    · have h' : ¬ (a.getD i []).length = (a.getD 0 []).length := by
        intro e
        have h2 : (((a.getD i []).length : Int) != ((a.getD 0 []).length : Int)) = true := h
        rw [e] at h2
        simp at h2
      conv => lhs; whnf
      rw [if_neg (by rw [List.all_cons]; unfold okPt; rw [df h']; exact Bool.false_ne_true)]
      exact hk _
    · have h' : (a.getD i []).length = (a.getD 0 []).length := by
        have h2 : (((a.getD i []).length : Int) != ((a.getD 0 []).length : Int)) = false := h
        simp only [bne_eq_false_iff_eq] at h2
        omega
      conv => lhs; whnf
      refine (lq_specArePoints a i (by omega) _ rfl hl _ _ rfl (a.getD i []).length _ 0 0 rfl (by omega) rfl (by omega)).trans ?_
      rw [List.drop_zero]
      split
      · rename_i h2
        conv => lhs; whnf
        rw [ih n (i + 1) _ (by omega) (by omega) (by rw [wrap64 (by omega) (by omega)]; simp) (by omega)]
        have e : okPt (a.getD 0 []).length (a.getD i []) = true := by
          unfold okPt
          rw [dt h', h2]
          rfl
        rw [List.all_cons, e, Bool.true_and]
      · rename_i h2
        conv => lhs; whnf
        have e : okPt (a.getD 0 []).length (a.getD i []) = false := by
          unfold okPt
          rw [Bool.not_eq_true] at h2
          rw [h2, Bool.and_false]
        rw [if_neg (by rw [List.all_cons, e]; exact Bool.false_ne_true)]
        exact hk _
theorem ev_specArePoints (a : List (List Int)) (hp : a.length ≤ 1048576 ∧ ∀ x ∈ a, x.length ≤ 1048576) : evF E_specArePoints (4000000) Tryd.f24 [.lst (.lst (.int .i64)) a] [] = some (.bool (arePts a), []) := by
  conv => lhs; whnf
  refine (lp_specArePoints a hp.1 hp.2 _ _ (fun _ => rfl) a.length _ 0 0 rfl (by omega) rfl (by have := hp.1; change a.length + 1048580 < 3999999; omega)).trans ?_
  rw [List.drop_zero]
  split
  · rename_i h2
    conv => lhs; whnf
    conv => lhs; arg 1; whnf
    refine bnd_g (by exact True.intro) ?_
    conv => lhs; whnf
    refine br_c (fun h => ?_) (fun h => ?_)
    · have h' := ofd h
      conv => lhs; whnf
      repeat ((first | with_reducible apply br_tt | with_reducible apply br_ff | with_reducible apply br_nf | with_reducible apply br_nt | with_reducible refine br_d ?_ (by kernel_rfl) | with_reducible apply br_t h | with_reducible apply br_f h); conv => lhs; whnf)
      refine br_t (dt2 (by omega) (by change (0 : Int) < (a.length : Int); omega)) ?_
      conv => lhs; whnf
      repeat ((first | with_reducible apply br_tt | with_reducible apply br_ff | with_reducible apply br_nf | with_reducible apply br_nt | with_reducible refine br_d ?_ (by kernel_rfl) | with_reducible apply br_t h | with_reducible apply br_f h); conv => lhs; whnf)
      refine okB ?_
      unfold arePts
      rw [h2, show decide (1 ≤ a.length ∧ a.length ≤ 8) = true from dt (by omega), Bool.true_and, Bool.and_true]
      exact decide_eq_decide.2 (by change ((a.getD 0 []).length : Int) ≤ 3 ↔ _; omega)
    · have h' := ofn h
      conv => lhs; whnf
      repeat ((first | with_reducible apply br_tt | with_reducible apply br_ff | with_reducible apply br_nf | with_reducible apply br_nt | with_reducible refine br_d ?_ (by kernel_rfl) | with_reducible apply br_t h | with_reducible apply br_f h); conv => lhs; whnf)
      refine okB ?_
      unfold arePts
      rw [df (by omega), Bool.false_and]
  · rename_i h2
    conv => lhs; whnf
    refine okB ?_
    unfold arePts
    rw [Bool.not_eq_true] at h2
    rw [h2, Bool.and_false, Bool.and_false]
theorem ok_specArePoints : FnOk Tryd.prog 24 K_specArePoints := by
  refine fn_ok (fn := Tryd.f24) (k := Tryd.f24.ntmps) (E := E_specArePoints) (facts_of (List.forall_mem_cons.2 ⟨ok_l1In, List.forall_mem_nil _⟩)) (by kernel_rfl) rfl (by decide +kernel) (by decide +kernel) ?_
  intro avs hin r h
  unfold K_specArePoints at h
  split at h
  · obtain ⟨hp, rfl⟩ := gd_o h
    exact ⟨_, ev_specArePoints _ hp, rfl⟩
  · cases h

/- spec.IsSet -/
def K_specIsSet : List AV → List Ob → Option (AV × List Ob)
  | [.int .i64 n, .int .i64 s], [] => gd (True) (.bool (isSet n s), [])
  | _, _ => none
@[reducible] def E_specIsSet : Env := mkE (tb [(52, K_l1In)]) (fun f => false) (fun r => ([], []))
theorem ev_specIsSet (n s : Int) (hp : True) : evF E_specIsSet (1) Tryd.f46 [.int .i64 n, .int .i64 s] [] = some (.bool (isSet n s), []) := by
  conv => lhs; whnf
  conv => lhs; arg 1; whnf
  refine bnd_g (by exact True.intro) ?_
  conv => lhs; whnf
  refine br_c (fun h => ?_) (fun h => ?_)
  · conv => lhs; whnf
    have h8 := ofd h
    repeat ((first | with_reducible apply br_tt | with_reducible apply br_ff | with_reducible apply br_nf | with_reducible apply br_nt | with_reducible refine br_d ?_ (by kernel_rfl) | with_reducible apply br_t h | with_reducible apply br_f h); conv => lhs; whnf)
    rw [wrapu h8.1 h8.2]
    refine br_f (df (by omega)) ?_
    conv => lhs; whnf
    repeat ((first | with_reducible apply br_tt | with_reducible apply br_ff | with_reducible apply br_nf | with_reducible apply br_nt | with_reducible refine br_d ?_ (by kernel_rfl) | with_reducible apply br_t h | with_reducible apply br_f h); conv => lhs; whnf)
    conv => lhs; arg 1; whnf
    refine bnd_g (by exact True.intro) ?_
    conv => lhs; whnf
    repeat ((first | with_reducible apply br_tt | with_reducible apply br_ff | with_reducible apply br_nf | with_reducible apply br_nt | with_reducible refine br_d ?_ (by kernel_rfl) | with_reducible apply br_t h | with_reducible apply br_f h); conv => lhs; whnf)
    refine okB ?_
    unfold isSet
    refine decide_eq_decide.2 ?_
    rw [shl_set h8.1 h8.2]
    exact ⟨fun h => ⟨h8, h⟩, fun h => h.2⟩
  · conv => lhs; whnf
    repeat ((first | with_reducible apply br_tt | with_reducible apply br_ff | with_reducible apply br_nf | with_reducible apply br_nt | with_reducible refine br_d ?_ (by kernel_rfl) | with_reducible apply br_t h | with_reducible apply br_f h); conv => lhs; whnf)
    have h8 := ofn h
    simp [isSet, h8]
theorem ok_specIsSet : FnOk Tryd.prog 46 K_specIsSet := by
  refine fn_ok (fn := Tryd.f46) (k := Tryd.f46.ntmps) (E := E_specIsSet) (facts_of (List.forall_mem_cons.2 ⟨ok_l1In, List.forall_mem_nil _⟩)) (by kernel_rfl) rfl (by decide +kernel) (by decide +kernel) ?_
  intro avs hin r h
  unfold K_specIsSet at h
  split at h
  · obtain ⟨hp, rfl⟩ := gd_o h
    exact ⟨_, ev_specIsSet _ _ hp, rfl⟩
  · cases h

/- spec.l2Has -/
def K_l2Has : List AV → List Ob → Option (AV × List Ob)
  | [.int .i64 s, .int .i64 e], [] => gd ((0 ≤ s ∧ s ≤ 255) ∧ (0 ≤ e ∧ e ≤ 8)) (.bool (s.toNat.testBit e.toNat), [])
  | _, _ => none
@[reducible] def E_l2Has : Env := mkE (tb []) (fun f => false) (fun r => ([], []))
theorem ev_l2Has (s e : Int) (hp : (0 ≤ s ∧ s ≤ 255) ∧ (0 ≤ e ∧ e ≤ 8)) : evF E_l2Has (1) Tryd.f74 [.int .i64 s, .int .i64 e] [] = some (.bool (s.toNat.testBit e.toNat), []) := by
  obtain ⟨⟨h0, h1⟩, h2, h3⟩ := hp
  conv => lhs; whnf
  rw [wrapu h2 h3]
  refine br_f (df (by omega)) ?_
  conv => lhs; whnf
  exact okB (bit_of h0 h1 h2 h3)
theorem ok_l2Has : FnOk Tryd.prog 74 K_l2Has := by
  refine fn_ok (fn := Tryd.f74) (k := Tryd.f74.ntmps) (E := E_l2Has) (facts_of (List.forall_mem_nil _)) (by kernel_rfl) rfl (by decide +kernel) (by decide +kernel) ?_
  intro avs hin r h
  unfold K_l2Has at h
  split at h
  · obtain ⟨hp, rfl⟩ := gd_o h
    exact ⟨_, ev_l2Has _ _ hp, rfl⟩
  · cases h

/- spec.l1Min -/
def K_l1Min : List AV → List Ob → Option (AV × List Ob)
  | [.int .i64 a, .int .i64 b], [] => gd (True) (.int .i64 (min a b), [])
  | _, _ => none
@[reducible] def E_l1Min : Env := mkE (tb []) (fun f => false) (fun r => ([], []))
theorem ev_l1Min (a b : Int) (hp : True) : evF E_l1Min (1) Tryd.f81 [.int .i64 a, .int .i64 b] [] = some (.int .i64 (min a b), []) := by
  conv => lhs; whnf
  refine br_c (fun h => ?_) (fun h => ?_)
  · conv => lhs; whnf
    have h := ofd h
    refine okI ?_
    omega
  · conv => lhs; whnf
    have h := ofn h
    refine okI ?_
    omega
theorem ok_l1Min : FnOk Tryd.prog 81 K_l1Min := by
  refine fn_ok (fn := Tryd.f81) (k := Tryd.f81.ntmps) (E := E_l1Min) (facts_of (List.forall_mem_nil _)) (by kernel_rfl) rfl (by decide +kernel) (by decide +kernel) ?_
  intro avs hin r h
  unfold K_l1Min at h
  split at h
  · obtain ⟨hp, rfl⟩ := gd_o h
    exact ⟨_, ev_l1Min _ _ hp, rfl⟩
  · cases h

/- spec.l1Max -/
def K_l1Max : List AV → List Ob → Option (AV × List Ob)
  | [.int .i64 a, .int .i64 b], [] => gd (True) (.int .i64 (max a b), [])
  | _, _ => none
@[reducible] def E_l1Max : Env := mkE (tb []) (fun f => false) (fun r => ([], []))
theorem ev_l1Max (a b : Int) (hp : True) : evF E_l1Max (1) Tryd.f82 [.int .i64 a, .int .i64 b] [] = some (.int .i64 (max a b), []) := by
  conv => lhs; whnf
  refine br_c (fun h => ?_) (fun h => ?_)
  · conv => lhs; whnf
    have h := ofd h
    refine okI ?_
    omega
  · conv => lhs; whnf
    have h := ofn h
    refine okI ?_
    omega
theorem ok_l1Max : FnOk Tryd.prog 82 K_l1Max := by
  refine fn_ok (fn := Tryd.f82) (k := Tryd.f82.ntmps) (E := E_l1Max) (facts_of (List.forall_mem_nil _)) (by kernel_rfl) rfl (by decide +kernel) (by decide +kernel) ?_
  intro avs hin r h
  unfold K_l1Max at h
  split at h
  · obtain ⟨hp, rfl⟩ := gd_o h
    exact ⟨_, ev_l1Max _ _ hp, rfl⟩
  · cases h

/- spec.l24Hull -/
def K_l24Hull : List AV → List Ob → Option (AV × List Ob)
  | [.lst (.lst (.int .i64)) a, .int .i64 s], [] => gd (arePts a = true ∧ isSet a.length s = true) (.agg [.own 0, .own 1], [.row 3 (.int .i64) (hullL min a s), .row 3 (.int .i64) (hullL max a s)])
  | _, _ => none
@[reducible] def E_l24Hull : Env := mkE (tb [(74, K_l2Has), (81, K_l1Min), (82, K_l1Max)]) (fun f => false) (fun r => bif r == 3 then ([0, 1, 4, 5, 6], [0, 1, 4, 5, 6]) else bif r == 7 then ([0, 1, 4, 5, 6, 7], [0, 1, 4, 5, 6]) else ([], []))
theorem la_l24Hull (a : List (List Int)) (s : Int) (g : Nat) (hg : g < a.length) (y : List Int) (hy : a.getD g [] = y) (h3 : y.length ≤ 3) (k : AX → S → Option (AV × List Ob)) (d : Nat) : ∀ (n i : Nat) (x : Int) (lo hi : List Int), y.length - i = d → i ≤ y.length → x = i → d < n → lo = y.take i → hi = y.take i →
    lpAt E_l24Hull (lp E_l24Hull 0 n) 0 (loopAt Tryd.f47 1) (mkS [0, 1, 4, 5, 6, 7] [.lst (.lst (.int .i64)) a, .int .i64 s, .ptr 0 0, .ptr 3 0, .int .i64 (g : Int), .int .i64 x] [some (.box 29 [.own 1, .own 2]), some (.row 3 (.int .i64) []), some (.row 3 (.int .i64) []), some (.box 29 [.own 4, .own 5]), some (.row 3 (.int .i64) lo), some (.row 3 (.int .i64) hi)]) k =
      k (.exit 2) (mkS [0, 1, 4, 5, 6] [.lst (.lst (.int .i64)) a, .int .i64 s, .ptr 0 0, .ptr 3 0, .int .i64 (g : Int)] [some (.box 29 [.own 1, .own 2]), some (.row 3 (.int .i64) []), some (.row 3 (.int .i64) []), some (.box 29 [.own 4, .own 5]), some (.row 3 (.int .i64) y), some (.row 3 (.int .i64) y)]) := by
  subst hy
  induction d with
  | zero =>
    intro n i x lo hi hd hi' hx hn hlo hhi
    subst hx hlo hhi
    rw [lpAt_def]
    conv => lhs; whnf
    refine br_t (dt2 (by omega) (by omega)) ?_
    conv => lhs; whnf
    refine br_f (df (by change ¬ ((i : Int) < ((a.getD g []).length : Int)); omega)) ?_
    conv => lhs; whnf
    rw [List.take_of_length_le (by omega)]
  | succ d ih =>
    intro n i x lo hi hd hi' hx hn hlo hhi
    obtain ⟨n, rfl⟩ : ∃ m, n = m + 1 := ⟨n - 1, by omega⟩
    subst hx hlo hhi
    have hz := tk_len (y := a.getD g []) (i := i) (by omega)
    rw [lpAt_def]
    conv => lhs; whnf
    refine br_t (dt2 (by omega) (by omega)) ?_
    conv => lhs; whnf
    refine br_t (dt (by change ((i : Int) < ((a.getD g []).length : Int)); omega)) ?_
    conv => lhs; whnf
    refine br_t (dt (by change (((List.take i (a.getD g [])).length : Int) ≤ (i : Int)); rw [List.length_take]; omega)) ?_
    conv => lhs; whnf
    refine br_t (dt2 (by omega) (by omega)) ?_
    conv => lhs; whnf
    refine br_t (dt2 (by omega) (by change ((i : Int) < ((a.getD g []).length : Int)); omega)) ?_
    conv => lhs; whnf
    refine br_t (dt (by simp [room]; omega)) ?_
    conv => lhs; whnf
    refine br_t (by kernel_rfl) ?_
    conv => lhs; whnf
    refine br_t (dt2 (by omega) (by omega)) ?_
    conv => lhs; whnf
    refine br_t (dt2 (by omega) (by change ((i : Int) < ((a.getD g []).length : Int)); omega)) ?_
    conv => lhs; whnf
    refine br_t (dt (by simp [room]; omega)) ?_
    conv => lhs; whnf
    refine br_t (by kernel_rfl) ?_
    conv => lhs; whnf
    refine br_t (dt2 (by omega) (by change ((i : Int) < ((tk (a.getD g []) i).length : Int)); rw [hz]; omega)) ?_
    conv => lhs; whnf
    refine br_t (dt (by change i < (tk (a.getD g []) i).length; rw [hz]; omega)) ?_
    conv => lhs; whnf
    refine br_t (dt2 (by omega) (by omega)) ?_
    conv => lhs; whnf
    refine br_t (dt2 (by omega) (by change ((i : Int) < ((a.getD g []).length : Int)); omega)) ?_
    conv => lhs; whnf
    conv => lhs; arg 1; whnf
    refine bnd_g (by exact True.intro) ?_
    conv => lhs; whnf
    refine br_t (dt2 (by omega) (by change ((i : Int) < ((tk (a.getD g []) i).length : Int)); rw [hz]; omega)) ?_
    conv => lhs; whnf
    refine br_t (dt (by change i < (tk (a.getD g []) i).length; rw [hz]; omega)) ?_
    conv => lhs; whnf
    refine br_t (by kernel_rfl) ?_
    conv => lhs; whnf
    refine br_t (dt2 (by omega) (by change ((i : Int) < ((tk (a.getD g []) i).length : Int)); rw [hz]; omega)) ?_
    conv => lhs; whnf
    refine br_t (dt (by change i < (tk (a.getD g []) i).length; rw [hz]; omega)) ?_
    conv => lhs; whnf
    refine br_t (dt2 (by omega) (by omega)) ?_
    conv => lhs; whnf
    refine br_t (dt2 (by omega) (by change ((i : Int) < ((a.getD g []).length : Int)); omega)) ?_
    conv => lhs; whnf
    conv => lhs; arg 1; whnf
    refine bnd_g (by exact True.intro) ?_
    conv => lhs; whnf
    refine br_t (dt2 (by omega) (by change ((i : Int) < ((tk (a.getD g []) i).length : Int)); rw [hz]; omega)) ?_
    conv => lhs; whnf
    refine br_t (dt (by change i < (tk (a.getD g []) i).length; rw [hz]; omega)) ?_
    conv => lhs; whnf
    refine br_t (by kernel_rfl) ?_
    conv => lhs; whnf
    have e1 : ∀ f : Int → Int → Int, (∀ n, f n n = n) → (tk (a.getD g []) i).set i (f ((tk (a.getD g []) i).getD i 0) ((a.getD g []).getD i 0)) = (a.getD g []).take (i + 1) := by
      intro f hf
      rw [tk_at (by omega), hf]
      exact tk_set (by omega)
    exact ih n (i + 1) (IntKind.i64.wrap ((i : Int) + 1)) _ _ (by omega) (by omega) (by rw [wrap64 (n := (i : Int) + 1) (by omega) (by omega)]; simp) (by omega) (e1 min (fun n => by omega)) (e1 max (fun n => by omega))
theorem lb_l24Hull (a : List (List Int)) (s : Int) (g : Nat) (hg : g < a.length) (y : List Int) (hy : a.getD g [] = y) (h3 : y.length ≤ 3) (k : AX → S → Option (AV × List Ob)) (d : Nat) : ∀ (n i : Nat) (x : Int) (lo hi : List Int), y.length - i = d → i ≤ y.length → x = i → d < n → lo.length = y.length → hi.length = y.length →
    lpAt E_l24Hull (lp E_l24Hull 0 n) 0 (loopAt Tryd.f47 1) (mkS [0, 1, 4, 5, 6, 7] [.lst (.lst (.int .i64)) a, .int .i64 s, .ptr 0 0, .ptr 3 0, .int .i64 (g : Int), .int .i64 x] [some (.box 29 [.own 1, .own 2]), some (.row 3 (.int .i64) []), some (.row 3 (.int .i64) []), some (.box 29 [.own 4, .own 5]), some (.row 3 (.int .i64) lo), some (.row 3 (.int .i64) hi)]) k =
      k (.exit 2) (mkS [0, 1, 4, 5, 6] [.lst (.lst (.int .i64)) a, .int .i64 s, .ptr 0 0, .ptr 3 0, .int .i64 (g : Int)] [some (.box 29 [.own 1, .own 2]), some (.row 3 (.int .i64) []), some (.row 3 (.int .i64) []), some (.box 29 [.own 4, .own 5]), some (.row 3 (.int .i64) (lo.take i ++ List.zipWith min (lo.drop i) (y.drop i))), some (.row 3 (.int .i64) (hi.take i ++ List.zipWith max (hi.drop i) (y.drop i)))]) := by
  subst hy
  induction d with
  | zero =>
    intro n i x lo hi hd hi' hx hn hlo hhi
    subst hx
    rw [lpAt_def]
    conv => lhs; whnf
    refine br_t (dt2 (by omega) (by omega)) ?_
    conv => lhs; whnf
    refine br_f (df (by change ¬ ((i : Int) < ((a.getD g []).length : Int)); omega)) ?_
    conv => lhs; whnf
    rw [List.take_of_length_le (by omega), List.take_of_length_le (by omega), List.drop_of_length_le (by omega), List.drop_of_length_le (by omega)]
    simp
  | succ d ih =>
    intro n i x lo hi hd hi' hx hn hlo hhi
    obtain ⟨n, rfl⟩ : ∃ m, n = m + 1 := ⟨n - 1, by omega⟩
    subst hx
    rw [lpAt_def]
    conv => lhs; whnf
    refine br_t (dt2 (by omega) (by omega)) ?_
    conv => lhs; whnf
    refine br_t (dt (by change ((i : Int) < ((a.getD g []).length : Int)); omega)) ?_
    conv => lhs; whnf
    refine br_f (df (by change ¬ ((lo.length : Int) ≤ (i : Int)); omega)) ?_
    conv => lhs; whnf
    refine br_t (dt2 (by omega) (by omega)) ?_
    conv => lhs; whnf
    refine br_t (dt (by change i < lo.length; omega)) ?_
    conv => lhs; whnf
    refine br_t (dt2 (by omega) (by omega)) ?_
    conv => lhs; whnf
    refine br_t (dt2 (by omega) (by change ((i : Int) < ((a.getD g []).length : Int)); omega)) ?_
    conv => lhs; whnf
    conv => lhs; arg 1; whnf
    refine bnd_g (by exact True.intro) ?_
    conv => lhs; whnf
    refine br_t (dt2 (by omega) (by omega)) ?_
    conv => lhs; whnf
    refine br_t (dt (by change i < lo.length; omega)) ?_
    conv => lhs; whnf
    refine br_t (by kernel_rfl) ?_
    conv => lhs; whnf
    refine br_t (dt2 (by omega) (by omega)) ?_
    conv => lhs; whnf
    refine br_t (dt (by change i < hi.length; omega)) ?_
    conv => lhs; whnf
    refine br_t (dt2 (by omega) (by omega)) ?_
    conv => lhs; whnf
    refine br_t (dt2 (by omega) (by change ((i : Int) < ((a.getD g []).length : Int)); omega)) ?_
    conv => lhs; whnf
    conv => lhs; arg 1; whnf
    refine bnd_g (by exact True.intro) ?_
    conv => lhs; whnf
    refine br_t (dt2 (by omega) (by omega)) ?_
    conv => lhs; whnf
    refine br_t (dt (by change i < hi.length; omega)) ?_
    conv => lhs; whnf
    refine br_t (by kernel_rfl) ?_
    conv => lhs; whnf
    refine (ih n (i + 1) (IntKind.i64.wrap ((i : Int) + 1)) _ _ (by omega) (by omega) (by rw [wrap64 (n := (i : Int) + 1) (by omega) (by omega)]; simp) (by omega) (by simp [hlo]) (by simp [hhi])).trans ?_
    have e1 := zip_set (f := min) (l := lo) (y := a.getD g []) (i := i) hlo (by omega)
    have e2 := zip_set (f := max) (l := hi) (y := a.getD g []) (i := i) hhi (by omega)
    rw [← e1, ← e2]
    rfl
theorem lp_l24Hull (a : List (List Int)) (h8 : a.length ≤ 8) (w : Nat) (hw : ∀ x ∈ a, x.length = w) (h3 : w ≤ 3) (s : Int) (hs : 0 ≤ s ∧ s ≤ 255) (h8s : isSet 8 s = true) (k : AX → S → Option (AV × List Ob)) (d : Nat) : ∀ (n i : Nat) (x : Int) (lo hi : List Int), a.length - i = d → i ≤ a.length → x = i → d + 10 < n → (lo = [] ∧ hi = []) ∨ (lo.length = w ∧ hi.length = w) →
    lpAt E_l24Hull (lp E_l24Hull 0 n) 0 (loopAt Tryd.f47 0) (mkS [0, 1, 4, 5, 6] [.lst (.lst (.int .i64)) a, .int .i64 s, .ptr 0 0, .ptr 3 0, .int .i64 x] [some (.box 29 [.own 1, .own 2]), some (.row 3 (.int .i64) []), some (.row 3 (.int .i64) []), some (.box 29 [.own 4, .own 5]), some (.row 3 (.int .i64) lo), some (.row 3 (.int .i64) hi)]) k =
      k (.exit 0) (mkS [0, 1, 4, 5, 6] [.lst (.lst (.int .i64)) a, .int .i64 s, .ptr 0 0, .ptr 3 0, .int .i64 (a.length : Int)] [some (.box 29 [.own 1, .own 2]), some (.row 3 (.int .i64) []), some (.row 3 (.int .i64) []), some (.box 29 [.own 4, .own 5]), some (.row 3 (.int .i64) (hullG min a (elemsL s d i) lo)), some (.row 3 (.int .i64) (hullG max a (elemsL s d i) hi))]) := by
  induction d with
  | zero =>
    intro n i x lo hi hd hi' hx hn hz
    subst hx
    rw [lpAt_def]
    conv => lhs; whnf
    refine br_f (df (by omega)) ?_
    conv => lhs; whnf
    have : i = a.length := by omega
    rw [this]
    rfl
  | succ d ih =>
    intro n i x lo hi hd hi' hx hn hz
    obtain ⟨n, rfl⟩ : ∃ m, n = m + 1 := ⟨n - 1, by omega⟩
    subst hx
    have hwi := hw _ (mem_getD (d := []) (show i < a.length by omega))
    have hE := hasE_bit h8s (e := (i : Int)) (by omega) (by omega)
    unfold bitI at hE
    rw [lpAt_def]
    conv => lhs; whnf
    refine br_t (dt (by omega)) ?_
    conv => lhs; whnf
    conv => lhs; arg 1; whnf
    refine bnd_g (by exact ⟨by omega, by omega⟩) ?_
    conv => lhs; whnf
    refine br_c (fun h => ?_) (fun h => ?_)
    · have h' : hasE s (i : Int) = false := by rw [hE]; exact bnt h
      conv => lhs; whnf
      refine (ih n (i + 1) (IntKind.i64.wrap ((i : Int) + 1)) _ _ (by omega) (by omega) (by rw [wrap64 (n := (i : Int) + 1) (by omega) (by omega)]; simp) (by omega) hz).trans ?_
      rw [elemsL, h']
      rfl
    · have h' : hasE s (i : Int) = true := by rw [hE]; exact bnf h
      conv => lhs; whnf
      refine Or.elim hz (fun hz => ?_) (fun hz => ?_)
      · have z1 := hz.1
        have z2 := hz.2
        subst z1
        subst z2
        refine (la_l24Hull a s i (by omega) _ rfl (by omega) _ (a.getD i []).length _ 0 0 [] [] rfl (by omega) rfl (by omega) rfl rfl).trans ?_
        conv => lhs; whnf
        refine (ih n (i + 1) (IntKind.i64.wrap ((i : Int) + 1)) _ _ (by omega) (by omega) (by rw [wrap64 (n := (i : Int) + 1) (by omega) (by omega)]; simp) (by omega) (Or.inr ⟨hwi, hwi⟩)).trans ?_
        rw [elemsL, h']
        rfl
      · have q1 : (lo.take 0 ++ List.zipWith min (lo.drop 0) ((a.getD i []).drop 0)).length = w := by rw [List.take_zero, List.drop_zero, List.drop_zero, List.nil_append, List.length_zipWith]; omega
        have q2 : (hi.take 0 ++ List.zipWith max (hi.drop 0) ((a.getD i []).drop 0)).length = w := by rw [List.take_zero, List.drop_zero, List.drop_zero, List.nil_append, List.length_zipWith]; omega
        refine (lb_l24Hull a s i (by omega) _ rfl (by omega) _ (a.getD i []).length _ 0 0 _ _ rfl (by omega) rfl (by omega) (by omega) (by omega)).trans ?_
        conv => lhs; whnf
        refine (ih n (i + 1) (IntKind.i64.wrap ((i : Int) + 1)) _ _ (by omega) (by omega) (by rw [wrap64 (n := (i : Int) + 1) (by omega) (by omega)]; simp) (by omega) (Or.inr ⟨q1, q2⟩)).trans ?_
        have e1 : hullStep min a lo (i : Int) = lo.take 0 ++ List.zipWith min (lo.drop 0) ((a.getD i []).drop 0) := mixL_zip min (by change lo.length = (a.getD i []).length; omega)
        have e2 : hullStep max a hi (i : Int) = hi.take 0 ++ List.zipWith max (hi.drop 0) ((a.getD i []).drop 0) := mixL_zip max (by change hi.length = (a.getD i []).length; omega)
        rw [elemsL, h', ← e1, ← e2]
        rfl
theorem ev_l24Hull (a : List (List Int)) (s : Int) (hp : arePts a = true ∧ isSet a.length s = true) : evF E_l24Hull (100) Tryd.f47 [.lst (.lst (.int .i64)) a, .int .i64 s] [] = some (.agg [.own 0, .own 1], [.row 3 (.int .i64) (hullL min a s), .row 3 (.int .i64) (hullL max a s)]) := by
  have hp' := arePts_parts hp.1
  have hr := isSet_le hp.2
  conv => lhs; whnf
  refine (lp_l24Hull a hp'.1.2 _ hp'.2.2 hp'.2.1 s ⟨hr.2.2.1, hr.2.2.2⟩ (isSet_8 hp.2) _ a.length _ 0 0 [] [] rfl (by omega) rfl (by change _ < 99; omega) (Or.inl ⟨rfl, rfl⟩)).trans ?_
  conv => lhs; whnf
  unfold hullL
  rw [elems_set hp'.1.2 hp.2]
theorem ok_l24Hull : FnOk Tryd.prog 47 K_l24Hull := by
  refine fn_ok (fn := Tryd.f47) (k := Tryd.f47.ntmps) (E := E_l24Hull) (facts_of (List.forall_mem_cons.2 ⟨ok_l2Has, List.forall_mem_cons.2 ⟨ok_l1Min, List.forall_mem_cons.2 ⟨ok_l1Max, List.forall_mem_nil _⟩⟩⟩)) (by kernel_rfl) rfl (by decide +kernel) (by decide +kernel) ?_
  intro avs hin r h
  unfold K_l24Hull at h
  split at h
  · obtain ⟨hp, rfl⟩ := gd_o h
    exact ⟨_, ev_l24Hull _ _ hp, rfl⟩
  · cases h

/- spec.HullOf -/
def K_specHullOf : List AV → List Ob → Option (AV × List Ob)
  | [.lst (.lst (.int .i64)) a, .int .i64 s], [] => gd (a.length ≤ 1048576 ∧ ∀ x ∈ a, x.length ≤ 1048576) (.tup [.agg [.own 0, .own 1], .bool (hullF a s).2.2], [.row 3 (.int .i64) (hullF a s).1, .row 3 (.int .i64) (hullF a s).2.1])
  | _, _ => none
@[reducible] def E_specHullOf : Env := mkE (tb [(24, K_specArePoints), (46, K_specIsSet), (47, K_l24Hull)]) (fun f => false) (fun r => ([], []))
theorem ev_specHullOf (a : List (List Int)) (s : Int) (hp : a.length ≤ 1048576 ∧ ∀ x ∈ a, x.length ≤ 1048576) : evF E_specHullOf (1) Tryd.f8 [.lst (.lst (.int .i64)) a, .int .i64 s] [] = some (.tup [.agg [.own 0, .own 1], .bool (hullF a s).2.2], [.row 3 (.int .i64) (hullF a s).1, .row 3 (.int .i64) (hullF a s).2.1]) := by
  conv => lhs; whnf
  conv => lhs; arg 1; whnf
  refine bnd_g (by exact hp) ?_
  conv => lhs; whnf
  refine br_c (fun h => ?_) (fun h => ?_)
  · have hf : hullF a s = ([], [], false) := by unfold hullF; rw [bnt h]; rfl
    rw [hf]
    conv => lhs; whnf
    repeat ((first | with_reducible apply br_tt | with_reducible apply br_ff | with_reducible apply br_nf | with_reducible apply br_nt | with_reducible refine br_d ?_ (by kernel_rfl) | with_reducible apply br_t h | with_reducible apply br_f h); conv => lhs; whnf)
  · conv => lhs; whnf
    repeat ((first | with_reducible apply br_tt | with_reducible apply br_ff | with_reducible apply br_nf | with_reducible apply br_nt | with_reducible refine br_d ?_ (by kernel_rfl) | with_reducible apply br_t h | with_reducible apply br_f h); conv => lhs; whnf)
    refine br_c (fun h2 => ?_) (fun h2 => ?_)
    · have hf : hullF a s = ([], [], false) := by unfold hullF; rw [bnf h, h2]; rfl
      rw [hf]
      conv => lhs; whnf
      repeat ((first | with_reducible apply br_tt | with_reducible apply br_ff | with_reducible apply br_nf | with_reducible apply br_nt | with_reducible refine br_d ?_ (by kernel_rfl) | with_reducible apply br_t h | with_reducible apply br_f h | with_reducible apply br_t h2 | with_reducible apply br_f h2); conv => lhs; whnf)
    · conv => lhs; whnf
      repeat ((first | with_reducible apply br_tt | with_reducible apply br_ff | with_reducible apply br_nf | with_reducible apply br_nt | with_reducible refine br_d ?_ (by kernel_rfl) | with_reducible apply br_t h | with_reducible apply br_f h | with_reducible apply br_t h2 | with_reducible apply br_f h2); conv => lhs; whnf)
      conv => lhs; arg 1; whnf
      refine bnd_g (by exact True.intro) ?_
      conv => lhs; whnf
      repeat ((first | with_reducible apply br_tt | with_reducible apply br_ff | with_reducible apply br_nf | with_reducible apply br_nt | with_reducible refine br_d ?_ (by kernel_rfl) | with_reducible apply br_t h | with_reducible apply br_f h | with_reducible apply br_t h2 | with_reducible apply br_f h2); conv => lhs; whnf)
      refine br_c (fun h3 => ?_) (fun h3 => ?_)
      · have hf : hullF a s = ([], [], false) := by unfold hullF; rw [bnf h, h2, bnt h3]; rfl
        rw [hf]
        conv => lhs; whnf
        repeat ((first | with_reducible apply br_tt | with_reducible apply br_ff | with_reducible apply br_nf | with_reducible apply br_nt | with_reducible refine br_d ?_ (by kernel_rfl) | with_reducible apply br_t h | with_reducible apply br_f h | with_reducible apply br_t h2 | with_reducible apply br_f h2 | with_reducible apply br_t h3 | with_reducible apply br_f h3); conv => lhs; whnf)
      · have hf : hullF a s = (hullL min a s, hullL max a s, true) := by unfold hullF; rw [bnf h, h2, bnf h3]; rfl
        rw [hf]
        conv => lhs; whnf
        repeat ((first | with_reducible apply br_tt | with_reducible apply br_ff | with_reducible apply br_nf | with_reducible apply br_nt | with_reducible refine br_d ?_ (by kernel_rfl) | with_reducible apply br_t h | with_reducible apply br_f h | with_reducible apply br_t h2 | with_reducible apply br_f h2 | with_reducible apply br_t h3 | with_reducible apply br_f h3); conv => lhs; whnf)
        conv => lhs; arg 1; whnf
        refine bnd_g (by exact ⟨bnf h, bnf h3⟩) ?_
        conv => lhs; whnf
        repeat ((first | with_reducible apply br_tt | with_reducible apply br_ff | with_reducible apply br_nf | with_reducible apply br_nt | with_reducible refine br_d ?_ (by kernel_rfl)); conv => lhs; whnf)
theorem ok_specHullOf : FnOk Tryd.prog 8 K_specHullOf := by
  refine fn_ok (fn := Tryd.f8) (k := Tryd.f8.ntmps) (E := E_specHullOf) (facts_of (List.forall_mem_cons.2 ⟨ok_specArePoints, List.forall_mem_cons.2 ⟨ok_specIsSet, List.forall_mem_cons.2 ⟨ok_l24Hull, List.forall_mem_nil _⟩⟩⟩)) (by kernel_rfl) rfl (by decide +kernel) (by decide +kernel) ?_
  intro avs hin r h
  unfold K_specHullOf at h
  split at h
  · obtain ⟨hp, rfl⟩ := gd_o h
    exact ⟨_, ev_specHullOf _ _ hp, rfl⟩
  · cases h

/- spec.l1Once -/
def K_l1Once : List AV → List Ob → Option (AV × List Ob)
  | [.ptr 0 0, .int .i64 n], [.box 91 [.lst (.int .u8) b, .int .i64 i, .int .i64 h]] => gd (CuOk b i ∧ 1 ≤ n ∧ n ≤ 256) (.bool (be b (i, h) n == 0), [.box 91 [.lst (.int .u8) b, .int .i64 (nx b (i, h)).1, .int .i64 (nx b (i, h)).2]])
  | _, _ => none
@[reducible] def E_l1Once : Env := mkE (tb [(42, K_l1Below)]) (fun f => [42].contains f) (fun r => ([], []))
theorem ev_l1Once (b : List Int) (i h : Int) (n : Int) (hp : CuOk b i ∧ 1 ≤ n ∧ n ≤ 256) : evF E_l1Once (1) Tryd.f48 [.ptr 0 0, .int .i64 n] [.box 91 [.lst (.int .u8) b, .int .i64 i, .int .i64 h]] = some (.bool (be b (i, h) n == 0), [.box 91 [.lst (.int .u8) b, .int .i64 (nx b (i, h)).1, .int .i64 (nx b (i, h)).2]]) := by
  conv => lhs; whnf
  conv => lhs; arg 1; whnf
  refine bnd_g (by exact hp) ?_
  conv => lhs; whnf
theorem ok_l1Once : FnOk Tryd.prog 48 K_l1Once := by
  refine fn_ok (fn := Tryd.f48) (k := Tryd.f48.ntmps) (E := E_l1Once) (facts_of (List.forall_mem_cons.2 ⟨ok_l1Below, List.forall_mem_nil _⟩)) (by kernel_rfl) rfl (by decide +kernel) (by decide +kernel) ?_
  intro avs hin r h
  unfold K_l1Once at h
  split at h
  · obtain ⟨hp, rfl⟩ := gd_o h
    exact ⟨_, ev_l1Once _ _ _ _ hp, rfl⟩
  · cases h

/- spec.DrawFittingPoints -/
def K_drawFittingPoints : List AV → List Ob → Option (AV × List Ob)
  | [.lst (.int .u8) b], [] => gd (b.length ≤ 1048576) (.tup [.own 0, .agg [.own 1, .own 2]], [.nest 27 3 (.int .i64) (PH b).1 none, .row 3 (.int .i64) (fitX b).1, .row 3 (.int .i64) (fitHi b)])
  | _, _ => none
@[reducible] def E_drawFittingPoints : Env := mkE (tb [(40, K_l1New), (8, K_specHullOf), (41, K_l24Draw), (42, K_l1Below), (48, K_l1Once)]) (fun f => [41, 42, 48].contains f) (fun r => ([], []))
theorem ev_drawFittingPoints (b : List Int) (hp : b.length ≤ 1048576) : evF E_drawFittingPoints (1) Tryd.f9 [.lst (.int .u8) b] [] = some (.tup [.own 0, .agg [.own 1, .own 2]], [.nest 27 3 (.int .i64) (PH b).1 none, .row 3 (.int .i64) (fitX b).1, .row 3 (.int .i64) (fitHi b)]) := by
  have n0 := newC_ok hp
  have hd := PH_ok hp
  have hn := NP_rng hp
  have hu := wrapu (n := ((PH b).1.length : Int)) (by omega) (by omega)
  have h0 : ¬ ((PH b).1.length : Int) < 0 := by omega
  have w5 : 1 ≤ NP b ∧ NP b ≤ 256 := by omega
  have n1 := nx_ok hd.2
  have n2 := nx_ok n1
  have hrows : ∀ r ∈ (PH b).1, r.length ≤ 1048576 := fun r hr => by have := (hd.1.2 r hr).1; omega
  have hxl := hullF_len (a := (PH b).1) (be b (PH b).2 (NP b))
  conv => lhs; whnf
  conv => lhs; arg 1; whnf
  refine bnd_g (by exact hp) ?_
  conv => lhs; whnf
  conv => lhs; arg 1; whnf
  refine bnd_g (by exact n0) ?_
  conv => lhs; whnf
  rw [show IntKind.u64.wrap ((drawP b ((newC b).1, (newC b).2)).1.length : Int) = ((PH b).1.length : Int) from hu]
  refine br_f (df h0) ?_
  conv => lhs; whnf
  conv => lhs; arg 1; whnf
  refine bnd_g (by exact ⟨hd.2, w5.1, w5.2⟩) ?_
  conv => lhs; whnf
  conv => lhs; arg 1; whnf
  refine bnd_g (by exact ⟨by change (PH b).1.length ≤ 1048576; omega, hrows⟩) ?_
  conv => lhs; whnf
  have hel := hullF_same (PH b).1 (be b (PH b).2 (NP b))
  have hvl := (hullF_vals (fun r hr => (hd.1.2 r hr).2) (be b (PH b).2 (NP b))).2
  refine br_c (fun g1 => ?_) (fun g1 => ?_)
  · have g1' : decide (((fitX b).1.length : Int) > 0) = true := g1
    have hl0 : 0 < (fitX b).2.1.length := by
      have := ofd g1'
      have : (fitX b).1.length = (fitX b).2.1.length := hel
      omega
    have hv0 := hvl _ (mem_getD (d := 0) hl0)
    have r3 := be_rng b (nx b (nx b (PH b).2)) (n := 3) (by omega)
    conv => lhs; whnf
    repeat ((first | with_reducible apply br_tt | with_reducible apply br_ff | with_reducible apply br_nf | with_reducible apply br_nt | with_reducible refine br_d ?_ (by kernel_rfl) | with_reducible apply br_t g1 | with_reducible apply br_f g1); conv => lhs; whnf)
    conv => lhs; arg 1; whnf
    refine bnd_g (by exact ⟨n1, by omega, by omega⟩) ?_
    conv => lhs; whnf
    repeat ((first | with_reducible apply br_tt | with_reducible apply br_ff | with_reducible apply br_nf | with_reducible apply br_nt | with_reducible refine br_d ?_ (by kernel_rfl) | with_reducible apply br_t g1 | with_reducible apply br_f g1); conv => lhs; whnf)
    refine br_c (fun g2 => ?_) (fun g2 => ?_)
    · have g2' : (be b (nx b (PH b).2) 3 == 0) = true := g2
      have e : fitHi b = (fitX b).2.1.set 0 ((fitX b).2.1.getD 0 0 + be b (nx b (nx b (PH b).2)) 3 - 1) := by unfold fitHi; rw [g1', g2']; rfl
      conv => rhs; rw [e]
      conv => lhs; whnf
      refine br_t (dt2 (by omega) (by change ((0 : Int) < ((fitX b).2.1.length : Int)); omega)) ?_
      conv => lhs; whnf
      refine br_t (dt (by change 0 < (fitX b).2.1.length; omega)) ?_
      conv => lhs; whnf
      conv => lhs; arg 1; whnf
      refine bnd_g (by exact ⟨n2, by omega, by omega⟩) ?_
      conv => lhs; whnf
      refine br_t (dt2 (by omega) (by change ((0 : Int) < ((fitX b).2.1.length : Int)); omega)) ?_
      conv => lhs; whnf
      refine br_t (dt (by change 0 < (fitX b).2.1.length; omega)) ?_
      conv => lhs; whnf
      refine br_t (by kernel_rfl) ?_
      conv => lhs; whnf
      refine br_t (by kernel_rfl) ?_
      conv => lhs; whnf
      have z : IntKind.i64.wrap (IntKind.i64.wrap ((fitX b).2.1.getD 0 0 + be b (nx b (nx b (PH b).2)) 3) - 1) = (fitX b).2.1.getD 0 0 + be b (nx b (nx b (PH b).2)) 3 - 1 := by
        have hv1 : -1 ≤ (fitX b).2.1.getD 0 0 ∧ (fitX b).2.1.getD 0 0 ≤ 10 := hv0
        rw [wrap64 (n := (fitX b).2.1.getD 0 0 + be b (nx b (nx b (PH b).2)) 3) (by omega) (by omega), wrap64 (by omega) (by omega)]
      conv => rhs; rw [← z]; unfold fitX NP PH shlI
      all_goals rfl
    · have g2' : (be b (nx b (PH b).2) 3 == 0) = false := g2
      have e : fitHi b = (fitX b).2.1 := by unfold fitHi; rw [g2', Bool.and_false]; rfl
      conv => rhs; rw [e]
      conv => lhs; whnf
      refine br_t (by kernel_rfl) ?_
      conv => lhs; whnf
      conv => rhs; unfold fitX NP PH shlI
      all_goals rfl
  · have g1' : decide (((fitX b).1.length : Int) > 0) = false := g1
    have e : fitHi b = (fitX b).2.1 := by unfold fitHi; rw [g1', Bool.false_and]; rfl
    conv => rhs; rw [e]
    conv => lhs; whnf
    repeat ((first | with_reducible apply br_tt | with_reducible apply br_ff | with_reducible apply br_nf | with_reducible apply br_nt | with_reducible refine br_d ?_ (by kernel_rfl) | with_reducible apply br_t g1 | with_reducible apply br_f g1); conv => lhs; whnf)
    conv => rhs; unfold fitX NP PH shlI
    all_goals rfl
theorem ok_drawFittingPoints : FnOk Tryd.prog 9 K_drawFittingPoints := by
  refine fn_ok (fn := Tryd.f9) (k := Tryd.f9.ntmps) (E := E_drawFittingPoints) (facts_of (List.forall_mem_cons.2 ⟨ok_l1New, List.forall_mem_cons.2 ⟨ok_specHullOf, List.forall_mem_cons.2 ⟨ok_l24Draw, List.forall_mem_cons.2 ⟨ok_l1Below, List.forall_mem_cons.2 ⟨ok_l1Once, List.forall_mem_nil _⟩⟩⟩⟩⟩)) (by kernel_rfl) rfl (by decide +kernel) (by decide +kernel) ?_
  intro avs hin r h
  unfold K_drawFittingPoints at h
  split at h
  · obtain ⟨hp, rfl⟩ := gd_o h
    exact ⟨_, ev_drawFittingPoints _ hp, rfl⟩
  · cases h

/- laws.sameInts -/
def K_sameInts : List AV → List Ob → Option (AV × List Ob)
  | [.lst (.int .i64) a, .lst (.int .i64) b], [] => gd (a.length < 4611686018427387904 ∧ b.length < 4611686018427387904) (.bool (decide (a = b)), [])
  | _, _ => none
@[reducible] def E_sameInts : Env := mkE (tb []) (fun f => false) (fun r => bif r == 4 then ([0, 1, 5], [4]) else ([], []))
theorem lp_sameInts (a b : List Int) (hl : a.length = b.length) (ha : a.length < 4611686018427387904) (k : AX → S → Option (AV × List Ob)) (d : Nat) : ∀ (n i : Nat) (x : Int), a.length - i = d → i ≤ a.length → x = i → d < n →
    lpAt E_sameInts (lp E_sameInts 0 n) 0 (loopAt Tryd.f19 0) (mkS [0, 1, 5] [.lst (.int .i64) a, .lst (.int .i64) b, .int .i64 x] []) k =
      if a.drop i = b.drop i then k (.exit 0) (mkS [4] [.any] []) else k .ret (mkS [4] [.bool false] []) := by
  induction d with
  | zero =>
    intro n i x hd hi hx hn
    subst hx
    rw [lpAt_def]
    conv => lhs; whnf
    refine br_f (df (by omega)) ?_
    conv => lhs; whnf
    rw [if_pos (by rw [List.drop_of_length_le (by omega), List.drop_of_length_le (by omega)])]
  | succ d ih =>
    intro n i x hd hi hx hn
    obtain ⟨n, rfl⟩ : ∃ m, n = m + 1 := ⟨n - 1, by omega⟩
    subst hx
    rw [lpAt_def]
    conv => lhs; whnf
    refine br_t (dt (by omega)) ?_
    conv => lhs; whnf
    refine br_t (dt2 (by omega) (by omega)) ?_
    conv => lhs; whnf
    refine br_t (dt2 (by omega) (by omega)) ?_
    conv => lhs; whnf
    rw [getD_drop (l := a) (i := i) (d := 0) (by omega), getD_drop (l := b) (i := i) (d := 0) (by omega)]
    refine br_t (by kernel_rfl) ?_
    conv => lhs; whnf
    refine br_c (fun h => ?_) (fun h => ?_)
    · conv => lhs; whnf
      rw [if_neg]
      intro he
      have := (List.cons.inj he).1
      simp at h
      exact h this
    · conv => lhs; whnf
      rw [ih n (i + 1) _ (by omega) (by omega) (by rw [wrap64 (by omega) (by omega)]; simp) (by omega)]
      simp at h
      rw [List.getD_eq_getElem?_getD, List.getD_eq_getElem?_getD, h]
      simp
theorem ev_sameInts (a b : List Int) (hp : a.length < 4611686018427387904 ∧ b.length < 4611686018427387904) : evF E_sameInts (a.length + 2) Tryd.f19 [.lst (.int .i64) a, .lst (.int .i64) b] [] = some (.bool (decide (a = b)), []) := by
  conv => lhs; whnf
  refine br_c (fun h => ?_) (fun h => ?_)
  · conv => lhs; whnf
    have : a ≠ b := by
      rintro rfl
      simp at h
    simp [this]
  · conv => lhs; whnf
    have hl : a.length = b.length := by simp at h; omega
    refine (lp_sameInts a b hl hp.1 _ _ _ 0 0 rfl (by omega) rfl (by omega)).trans ?_
    simp only [List.drop_zero]
    split
    · rename_i he
      conv => lhs; whnf
      simp [he]
    · rename_i he
      conv => lhs; whnf
      simp [he]
theorem ok_sameInts : FnOk Tryd.prog 19 K_sameInts := by
  refine fn_ok (fn := Tryd.f19) (k := Tryd.f19.ntmps) (E := E_sameInts) (facts_of (List.forall_mem_nil _)) (by kernel_rfl) rfl (by decide +kernel) (by decide +kernel) ?_
  intro avs hin r h
  unfold K_sameInts at h
  split at h
  · obtain ⟨hp, rfl⟩ := gd_o h
    exact ⟨_, ev_sameInts _ _ hp, rfl⟩
  · cases h

/- laws.samePattern -/
def K_samePattern : List AV → List Ob → Option (AV × List Ob)
  | [.agg [.lst (.int .i64) a, .lst (.int .i64) b], .agg [.lst (.int .i64) a', .lst (.int .i64) b']], [] => gd ((a.length < 4611686018427387904 ∧ b.length < 4611686018427387904) ∧ a' = a ∧ b' = b) (.bool true, [])
  | _, _ => none
@[reducible] def E_samePattern : Env := mkE (tb [(19, K_sameInts)]) (fun f => false) (fun r => ([], []))
theorem ev_samePattern (a b a' b' : List Int) (hp : (a.length < 4611686018427387904 ∧ b.length < 4611686018427387904) ∧ a' = a ∧ b' = b) : evF E_samePattern (1) Tryd.f15 [.agg [.lst (.int .i64) a, .lst (.int .i64) b], .agg [.lst (.int .i64) a', .lst (.int .i64) b']] [] = some (.bool true, []) := by
  obtain ⟨⟨h1, h2⟩, rfl, rfl⟩ := hp
  have q1 : decide (a' = a') = true := decide_eq_true rfl
  conv => lhs; whnf
  conv => lhs; arg 1; whnf
  refine bnd_g (by exact ⟨h1, h1⟩) ?_
  conv => lhs; whnf
  repeat ((first | with_reducible apply br_tt | with_reducible apply br_ff | with_reducible apply br_nf | with_reducible apply br_nt | with_reducible refine br_d ?_ (by kernel_rfl) | with_reducible apply br_t q1 | with_reducible apply br_f q1); conv => lhs; whnf)
  conv => lhs; arg 1; whnf
  refine bnd_g (by exact ⟨h2, h2⟩) ?_
  conv => lhs; whnf
  repeat ((first | with_reducible apply br_tt | with_reducible apply br_ff | with_reducible apply br_nf | with_reducible apply br_nt | with_reducible refine br_d ?_ (by kernel_rfl) | with_reducible apply br_t q1 | with_reducible apply br_f q1); conv => lhs; whnf)
  all_goals (simp; done)
theorem ok_samePattern : FnOk Tryd.prog 15 K_samePattern := by
  refine fn_ok (fn := Tryd.f15) (k := Tryd.f15.ntmps) (E := E_samePattern) (facts_of (List.forall_mem_cons.2 ⟨ok_sameInts, List.forall_mem_nil _⟩)) (by kernel_rfl) rfl (by decide +kernel) (by decide +kernel) ?_
  intro avs hin r h
  unfold K_samePattern at h
  split at h
  · obtain ⟨hp, rfl⟩ := gd_o h
    exact ⟨_, ev_samePattern _ _ _ _ hp, rfl⟩
  · cases h

/- laws.big -/
def K_bigL : List AV → List Ob → Option (AV × List Ob)
  | [.lst (.int .u8) b], [] => gd (True) (.bool (decide ((b.length : Int) > 1048576)), [])
  | _, _ => none
@[reducible] def E_bigL : Env := mkE (tb []) (fun f => false) (fun r => ([], []))
theorem ev_bigL (b : List Int) (hp : True) : evF E_bigL (1) Tryd.f5 [.lst (.int .u8) b] [] = some (.bool (decide ((b.length : Int) > 1048576)), []) := by
  conv => lhs; whnf
theorem ok_bigL : FnOk Tryd.prog 5 K_bigL := by
  refine fn_ok (fn := Tryd.f5) (k := Tryd.f5.ntmps) (E := E_bigL) (facts_of (List.forall_mem_nil _)) (by kernel_rfl) rfl (by decide +kernel) (by decide +kernel) ?_
  intro avs hin r h
  unfold K_bigL at h
  split at h
  · obtain ⟨hp, rfl⟩ := gd_o h
    exact ⟨_, ev_bigL _ hp, rfl⟩
  · cases h

end Go.Sym
