/- Functions of the program, each told as a plain equation. -/
import Derived.Test.YtiihfodcocihjaaSymLayB
namespace Go.Sym
open Go.Proofs
set_option linter.unusedVariables false
set_option linter.unusedSimpArgs false
set_option maxRecDepth 100000
set_option maxHeartbeats 4000000

/-- From here on the count of draws is not told. -/
instance softDm : Dm := ⟨False⟩
def szI (n left : Int) : Int := if left < n then -1 else left - n
theorem szI_ok {n left : Int} (h : ¬ szI n left < 0) : szI n left = left - n ∧ n ≤ left := by
  unfold szI at h ⊢
  split at h
  · omega
  · rename_i h5; exact ⟨if_neg h5, by omega⟩
/- laws.szIntS -/
def K_szIntS : List AV → List Ob → Option (AV × List Ob)
  | [.lst (.int .i64) a, .int .i64 left], [] => gd (0 ≤ left ∧ left ≤ 1048576 ∧ a.length ≤ maxLen) (.int .i64 (szI a.length left), [])
  | _, _ => none
@[reducible] def E_szIntS : Env := mkE (tb []) (fun f => false) (fun r => ([], []))
theorem ev_szIntS (a : List Int) (left : Int) (hp : 0 ≤ left ∧ left ≤ 1048576 ∧ a.length ≤ maxLen) : evF E_szIntS (1) Try.f41 [.lst (.int .i64) a, .int .i64 left] [] = some (.int .i64 (szI a.length left), []) := by
  obtain ⟨h0, h1, h2⟩ := hp
  have hm := maxLen_eq
  have hw : IntKind.i64.wrap (left - a.length) = left - a.length := wrap64 (by omega) (by omega)
  conv => lhs; whnf
  refine br_c (fun h => ?_) (fun h => ?_)
  · conv => lhs; whnf
    have h := ofd h
    rw [hw] at h
    rw [szI, if_pos (by omega)]
  · conv => lhs; whnf
    have h := ofn h
    rw [hw] at h
    rw [szI, if_neg (by omega), hw]
theorem ok_szIntS : FnOk Try.prog 41 K_szIntS := by
  refine fn_ok (fn := Try.f41) (k := Try.f41.ntmps) (E := E_szIntS) (facts_of (List.forall_mem_nil _)) (by kernel_rfl) rfl (by decide +kernel) (by decide +kernel) ?_
  intro avs hin r h
  unfold K_szIntS at h
  split at h
  · obtain ⟨hp, rfl⟩ := gd_o h
    exact ⟨_, ev_szIntS _ _ hp, rfl⟩
  · cases h

/- laws.szOrder -/
def K_szOrder : List AV → List Ob → Option (AV × List Ob)
  | [.agg [.lst (.int .i64) a], .int .i64 left], [] => gd (0 ≤ left ∧ left ≤ 1048576 ∧ a.length ≤ maxLen) (.int .i64 (szI a.length left), [])
  | _, _ => none
@[reducible] def E_szOrder : Env := mkE (tb [(41, K_szIntS)]) (fun f => false) (fun r => ([], []))
theorem ev_szOrder (a : List Int) (left : Int) (hp : 0 ≤ left ∧ left ≤ 1048576 ∧ a.length ≤ maxLen) : evF E_szOrder (1) Try.f9 [.agg [.lst (.int .i64) a], .int .i64 left] [] = some (.int .i64 (szI a.length left), []) := by
  obtain ⟨h0, h1, h2⟩ := hp
  conv => lhs; whnf
  conv => lhs; arg 1; whnf
  refine bnd_g (by exact ⟨h0, h1, h2⟩) ?_
  conv => lhs; whnf
  refine br_c (fun h => ?_) (fun h => ?_)
  · conv => lhs; whnf
    have h := ofd h
    unfold szI at h ⊢
    split at h
    · rw [if_pos (by omega)]
    · omega
  · conv => lhs; whnf
theorem ok_szOrder : FnOk Try.prog 9 K_szOrder := by
  refine fn_ok (fn := Try.f9) (k := Try.f9.ntmps) (E := E_szOrder) (facts_of (List.forall_mem_cons.2 ⟨ok_szIntS, List.forall_mem_nil _⟩)) (by kernel_rfl) rfl (by decide +kernel) (by decide +kernel) ?_
  intro avs hin r h
  unfold K_szOrder at h
  split at h
  · obtain ⟨hp, rfl⟩ := gd_o h
    exact ⟨_, ev_szOrder _ _ hp, rfl⟩
  · cases h

/- laws.toIntS -/
def K_toIntS : List AV → List Ob → Option (AV × List Ob)
  | [.lst (.int .i64) a], [] => gd (a.length ≤ 1048576) (.own 0, [.row 3 (.int .i64) a])
  | _, _ => none
@[reducible] def E_toIntS : Env := mkE (tb []) (fun f => false) (fun r => bif r == 3 then ([0, 3, 4], [3]) else ([], []))
theorem lp_toIntS (a : List Int) (ha : a.length ≤ 1048576) (k : AX → S → Option (AV × List Ob)) (d : Nat) : ∀ (n i : Nat) (x : Int) (ys : List Int), a.length - i = d → i ≤ a.length → x = i → d < n → ys.length = a.length → ys.take i = a.take i →
    lpAt E_toIntS (lp E_toIntS 0 n) 0 (loopAt Try.f43 0) (mkS [0, 3, 4] [.lst (.int .i64) a, .own 0, .int .i64 x] [some (.row 3 (.int .i64) ys)]) k =
      k (.exit 0) (mkS [3] [.own 0] [some (.row 3 (.int .i64) a)]) := by
  induction d with
  | zero =>
    intro n i x ys hd hi hx hn hl ht
    subst hx
    rw [lpAt_def]
    conv => lhs; whnf
    refine br_f (df (by omega)) ?_
    conv => lhs; whnf
    have : ys = a := by rw [List.take_of_length_le (by omega), List.take_of_length_le (by omega)] at ht; exact ht
    rw [this]
  | succ d ih =>
    intro n i x ys hd hi hx hn hl ht
    obtain ⟨n, rfl⟩ : ∃ m, n = m + 1 := ⟨n - 1, by omega⟩
    subst hx
    rw [lpAt_def]
    conv => lhs; whnf
    refine br_t (dt (by omega)) ?_
    conv => lhs; whnf
    refine br_t (dt2 (by omega) (by omega)) ?_
    conv => lhs; whnf
    refine br_t (dt2 (by omega) (by omega)) ?_
    conv => lhs; whnf
    refine br_t (dt (by omega)) ?_
    conv => lhs; whnf
    refine ih n (i + 1) _ _ (by omega) (by omega) (by rw [wrap64 (by omega) (by omega)]; simp) (by omega) (by simp [hl]) ?_
    have hlt : i < a.length := by omega
    simp only [Int.toNat_natCast]
    rw [List.take_succ_eq_append_getElem (by simp; omega), List.take_succ_eq_append_getElem hlt, List.take_set_of_le (by omega), ht]
    simp [hlt]
theorem ev_toIntS (a : List Int) (hp : a.length ≤ 1048576) : evF E_toIntS (a.length + 2) Try.f43 [.lst (.int .i64) a] [] = some (.own 0, [.row 3 (.int .i64) a]) := by
  conv => lhs; whnf
  refine br_t (mk_ok (by dsimp only; omega)) ?_
  conv => lhs; whnf
  refine (lp_toIntS a hp _ _ _ 0 0 _ rfl (by omega) rfl (by omega) (by simp) (by simp)).trans ?_
  conv => lhs; whnf
theorem ok_toIntS : FnOk Try.prog 43 K_toIntS := by
  refine fn_ok (fn := Try.f43) (k := Try.f43.ntmps) (E := E_toIntS) (facts_of (List.forall_mem_nil _)) (by kernel_rfl) rfl (by decide +kernel) (by decide +kernel) ?_
  intro avs hin r h
  unfold K_toIntS at h
  split at h
  · obtain ⟨hp, rfl⟩ := gd_o h
    exact ⟨_, ev_toIntS _ hp, rfl⟩
  · cases h

/- laws.toOrder -/
def K_toOrder : List AV → List Ob → Option (AV × List Ob)
  | [.agg [.lst (.int .i64) a]], [] => gd (a.length ≤ 1048576) (.agg [.own 0], [.row 3 (.int .i64) a])
  | _, _ => none
@[reducible] def E_toOrder : Env := mkE (tb [(43, K_toIntS)]) (fun f => false) (fun r => ([], []))
theorem ev_toOrder (a : List Int) (hp : a.length ≤ 1048576) : evF E_toOrder (1) Try.f11 [.agg [.lst (.int .i64) a]] [] = some (.agg [.own 0], [.row 3 (.int .i64) a]) := by
  conv => lhs; whnf
  conv => lhs; arg 1; whnf
  refine bnd_g (by exact hp) ?_
  conv => lhs; whnf
theorem ok_toOrder : FnOk Try.prog 11 K_toOrder := by
  refine fn_ok (fn := Try.f11) (k := Try.f11.ntmps) (E := E_toOrder) (facts_of (List.forall_mem_cons.2 ⟨ok_toIntS, List.forall_mem_nil _⟩)) (by kernel_rfl) rfl (by decide +kernel) (by decide +kernel) ?_
  intro avs hin r h
  unfold K_toOrder at h
  split at h
  · obtain ⟨hp, rfl⟩ := gd_o h
    exact ⟨_, ev_toOrder _ hp, rfl⟩
  · cases h

def isSet (n s : Int) : Bool := decide ((0 ≤ n ∧ n ≤ 8) ∧ (0 ≤ s ∧ s ≤ 2 ^ n.toNat - 1))
theorem shl_set {n : Int} (h0 : 0 ≤ n) (h8 : n ≤ 8) : IntKind.i64.wrap (IntKind.i64.wrap (1 * 2 ^ min n.toNat IntKind.i64.bits) - 1) = 2 ^ n.toNat - 1 := by
  have h : n = 0 ∨ n = 1 ∨ n = 2 ∨ n = 3 ∨ n = 4 ∨ n = 5 ∨ n = 6 ∨ n = 7 ∨ n = 8 := by omega
  rcases h with rfl | rfl | rfl | rfl | rfl | rfl | rfl | rfl | rfl <;> decide +kernel
theorem wrapu {n : Int} (h0 : 0 ≤ n) (h8 : n ≤ 8) : IntKind.u64.wrap n = n := by
  simp [IntKind.wrap, IntKind.bits, IntKind.signed]
  omega
theorem isSet8 (s : Int) : isSet 8 s = decide (0 ≤ s ∧ s ≤ 255) := by simp [isSet]
/-- The machine's and, and its and-not, on int. -/
def band (a b : Int) : Int := IntKind.i64.wrap (BitVec.ofInt IntKind.i64.bits a &&& BitVec.ofInt IntKind.i64.bits b).toNat
def bnot (a b : Int) : Int := IntKind.i64.wrap (BitVec.ofInt IntKind.i64.bits a &&& ~~~(BitVec.ofInt IntKind.i64.bits b)).toNat
def bor (a b : Int) : Int := IntKind.i64.wrap (BitVec.ofInt IntKind.i64.bits a ||| BitVec.ofInt IntKind.i64.bits b).toNat
theorem wrap_bv (x : BitVec 64) : IntKind.i64.wrap x.toNat = x.toInt := by
  simp [IntKind.wrap, IntKind.bits, IntKind.signed, BitVec.toInt]
  omega
theorem ofInt_toInt {a : Int} (h1 : -9223372036854775808 ≤ a) (h2 : a ≤ 9223372036854775807) : (BitVec.ofInt 64 a).toInt = a := by
  rw [BitVec.toInt_ofInt]
  simp [Int.bmod]
  omega
theorem bv_sub (x y : BitVec 64) : x &&& y = x ↔ x &&& ~~~y = 0#64 := by
  constructor
  · intro h
    apply BitVec.eq_of_getLsbD_eq
    intro i hi
    have h1 := congrArg (fun z => BitVec.getLsbD z i) h
    simp [hi] at h1 ⊢
    exact h1
  · intro h
    apply BitVec.eq_of_getLsbD_eq
    intro i hi
    have h1 := congrArg (fun z => BitVec.getLsbD z i) h
    simp [hi] at h1 ⊢
    exact h1
theorem sub_iff {a b : Int} (h1 : -9223372036854775808 ≤ a) (h2 : a ≤ 9223372036854775807) : band a b = a ↔ bnot a b = 0 := by
  unfold band bnot
  show IntKind.i64.wrap (BitVec.ofInt 64 a &&& BitVec.ofInt 64 b).toNat = a ↔ IntKind.i64.wrap (BitVec.ofInt 64 a &&& ~~~(BitVec.ofInt 64 b)).toNat = 0
  rw [wrap_bv, wrap_bv]
  conv => lhs; rhs; rw [← ofInt_toInt h1 h2]
  rw [BitVec.toInt_inj, ← BitVec.toInt_zero, BitVec.toInt_inj]
  exact bv_sub _ _
def isCtx (m : Int) (b : List Int) : Bool := decide (0 ≤ m ∧ m ≤ 6) && decide (b.length ≤ 8) && b.all (isSet m)
def badRow (m x : Int) : Bool := !isSet m x
def fullSet (n : Int) : Int := if 0 ≤ n ∧ n ≤ 8 then 2 ^ n.toNat - 1 else 0
theorem any_badRow (m : Int) (b : List Int) : (!b.any (badRow m)) = b.all (isSet m) := by
  simp [badRow, List.not_any_eq_all_not]
def hasE (s e : Int) : Bool := isSet 8 s && decide (0 ≤ e ∧ e ≤ 7) && s.toNat.testBit e.toNat
theorem bit_all : ∀ s : Fin 256, ∀ e : Fin 9, (band ((s.val : Int).fdiv (2 ^ min ((e.val : Int)).toNat IntKind.i64.bits)) 1 == 1) = s.val.testBit e.val := by decide +kernel
theorem bit_of {s e : Int} (h0 : 0 ≤ s) (h1 : s ≤ 255) (h2 : 0 ≤ e) (h3 : e ≤ 8) : (band (s.fdiv (2 ^ min e.toNat IntKind.i64.bits)) 1 == 1) = s.toNat.testBit e.toNat := by
  have := bit_all ⟨s.toNat, by omega⟩ ⟨e.toNat, by omega⟩
  simp only [Int.toNat_of_nonneg h0, Int.toNat_of_nonneg h2] at this
  exact this
theorem bv_rng (x : BitVec 64) : -9223372036854775808 ≤ x.toInt ∧ x.toInt ≤ 9223372036854775807 := by
  have h1 : x.toInt < 9223372036854775808 := x.toInt_lt
  have h2 : -9223372036854775808 ≤ x.toInt := x.le_toInt
  omega
theorem band_range (a b : Int) : -9223372036854775808 ≤ band a b ∧ band a b ≤ 9223372036854775807 := by
  unfold band
  rw [show IntKind.i64.wrap (BitVec.ofInt IntKind.i64.bits a &&& BitVec.ofInt IntKind.i64.bits b).toNat = (BitVec.ofInt 64 a &&& BitVec.ofInt 64 b).toInt from wrap_bv _]
  exact bv_rng _
theorem band_comm (a b : Int) : band a b = band b a := by
  unfold band
  rw [BitVec.and_comm]
def commonF (objs : Int) : List Int → Nat → Int → Int
  | [], _, acc => acc
  | x :: r, i, acc => commonF objs r (i + 1) (bif hasE objs i then band acc x else acc)
def Rng (x : Int) : Prop := -9223372036854775808 ≤ x ∧ x ≤ 9223372036854775807
theorem commonF_rng (s : Int) : ∀ (a : List Int) (i : Nat) (acc : Int), Rng acc → Rng (commonF s a i acc)
  | [], _, _, h => h
  | x :: r, i, acc, h => by
    unfold commonF
    refine commonF_rng s r (i + 1) _ ?_
    cases hasE s i
    · exact h
    · exact band_range acc x
theorem fullSet_rng (n : Int) : 0 ≤ fullSet n ∧ fullSet n ≤ 255 := by
  unfold fullSet
  split
  · rename_i h
    have h : n = 0 ∨ n = 1 ∨ n = 2 ∨ n = 3 ∨ n = 4 ∨ n = 5 ∨ n = 6 ∨ n = 7 ∨ n = 8 := by omega
    rcases h with rfl | rfl | rfl | rfl | rfl | rfl | rfl | rfl | rfl <;> decide
  · omega
def intentF (m : Int) (a : List Int) (s : Int) : Int := commonF s a 0 (fullSet m)
theorem intentF_rng (m : Int) (a : List Int) (s : Int) : Rng (intentF m a s) := by
  refine commonF_rng s a 0 _ ?_
  have := fullSet_rng m
  unfold Rng
  omega
theorem isSet_le {n s : Int} (h : isSet n s = true) : 0 ≤ n ∧ n ≤ 8 ∧ 0 ≤ s ∧ s ≤ 255 := by
  unfold isSet at h
  have h := of_decide_eq_true h
  have h8 : n = 0 ∨ n = 1 ∨ n = 2 ∨ n = 3 ∨ n = 4 ∨ n = 5 ∨ n = 6 ∨ n = 7 ∨ n = 8 := by omega
  rcases h8 with rfl | rfl | rfl | rfl | rfl | rfl | rfl | rfl | rfl <;> simp at h <;> omega
theorem isSet_8 {n s : Int} (h : isSet n s = true) : isSet 8 s = true := by
  have := isSet_le h
  rw [isSet8]
  exact decide_eq_true (by omega)
theorem isCtx_len {m : Int} {a : List Int} (h : isCtx m a = true) : a.length ≤ 8 ∧ 0 ≤ m ∧ m ≤ 6 ∧ ∀ x ∈ a, isSet m x = true := by
  unfold isCtx at h
  simp only [Bool.and_eq_true, decide_eq_true_eq, List.all_eq_true] at h
  exact ⟨h.1.2, h.1.1.1, h.1.1.2, h.2⟩
/-- f holds of i, .., i + d - 1. -/
def allB (f : Nat → Bool) : Nat → Nat → Bool
  | 0, _ => true
  | d + 1, i => f i && allB f d (i + 1)
theorem allB_iff (f : Nat → Bool) : ∀ (d i : Nat), allB f d i = true ↔ ∀ j, i ≤ j → j < i + d → f j = true
  | 0, i => by simp only [allB, true_iff]; intro j h1 h2; omega
  | d + 1, i => by
    rw [allB, Bool.and_eq_true, allB_iff f d (i + 1)]
    constructor
    · rintro ⟨h1, h2⟩ j h3 h4
      by_cases h : j = i
      · rw [h]; exact h1
      · exact h2 j (by omega) (by omega)
    · intro h
      exact ⟨h i (by omega) (by omega), fun j h1 h2 => h j (by omega) (by omega)⟩
def badR (r : Int × Int) : Bool := !(isSet 8 r.1 && isSet 8 r.2)
def respOf (p q s : Int) : Bool := isSet 8 p && isSet 8 q && isSet 8 s && (!(bnot p s == 0) || bnot q s == 0)
theorem bne_bnot {p s : Int} (h : isSet 8 p = true) : (band p s != p) = !(bnot p s == 0) := by
  rw [isSet8] at h
  have h := of_decide_eq_true h
  have e := sub_iff (a := p) (b := s) (by omega) (by omega)
  simp only [bne]
  congr 1
  rw [Bool.eq_iff_iff, beq_iff_eq, beq_iff_eq, e]
theorem beq_bnot {p s : Int} (h : isSet 8 p = true) : (band p s == p) = (bnot p s == 0) := by
  have := bne_bnot (s := s) h
  simpa [bne] using this
def firstI {α : Type} (p : α → Bool) : List α → Int → Int
  | [], _ => -1
  | x :: r, i => bif p x then i else firstI p r (i + 1)
theorem firstI_iff {α : Type} (p : α → Bool) : ∀ (l : List α) (i : Int), 0 ≤ i → (decide (firstI p l i ≥ 0)) = l.any p
  | [], i, h => by simp [firstI]
  | x :: r, i, h => by
    cases hx : p x
    · simp only [firstI, hx, cond_false, List.any_cons, Bool.false_or]
      exact firstI_iff p r (i + 1) (by omega)
    · simp [firstI, hx]
      omega
theorem firstI_none {α : Type} (p : α → Bool) : ∀ (l : List α) (i : Int), l.any p = false → firstI p l i = -1
  | [], i, h => rfl
  | x :: r, i, h => by
    simp only [List.any_cons, Bool.or_eq_false_iff] at h
    simp only [firstI, h.1, cond_false]
    exact firstI_none p r (i + 1) h.2
def idxs {α : Type} (p : α → Bool) : List α → Int → List Int
  | [], _ => []
  | x :: r, i => bif p x then i :: idxs p r (i + 1) else idxs p r (i + 1)
def brk (a : List (Int × Int)) (s : Int) : List Int := idxs (fun r => !respOf r.1 r.2 s) a 0
theorem idxs_length {α : Type} (p : α → Bool) : ∀ (l : List α) (i : Int), (idxs p l i).length ≤ l.length
  | [], i => by simp [idxs]
  | x :: r, i => by
    have := idxs_length p r (i + 1)
    cases hx : p x <;> simp [idxs, hx] <;> omega
def bitI (s e : Int) : Bool := s.toNat.testBit e.toNat
def ordA (b : List Int) (a : Nat) : Bool := isSet b.length (b.getD a 0) && bitI (b.getD a 0) a
def ordBad (b : List Int) (a c : Nat) : Bool := bitI (b.getD a 0) c && ((band (b.getD c 0) (b.getD a 0) != b.getD c 0) || (decide ((a : Int) ≠ c) && bitI (b.getD c 0) a))
def ordRow (b : List Int) (a : Nat) : Bool := allB (fun c => !ordBad b a c) b.length 0
def isOrd (b : List Int) : Bool := decide (b.length ≤ 6) && (allB (ordA b) b.length 0 && allB (ordRow b) b.length 0)
theorem ordA_set {b : List Int} (h : allB (ordA b) b.length 0 = true) {a : Nat} (ha : a < b.length) : isSet b.length (b.getD a 0) = true := by
  have := (allB_iff _ _ _).1 h a (by omega) (by omega)
  unfold ordA at this
  exact (Bool.and_eq_true_iff.1 this).1
theorem isSet_bit {n s : Int} (h : isSet n s = true) {e : Nat} (he : n ≤ e) : bitI s e = false := by
  have hl := isSet_le h
  unfold isSet at h
  have h := of_decide_eq_true h
  unfold bitI
  refine Nat.testBit_lt_two_pow ?_
  have h1 : s.toNat < 2 ^ n.toNat := by
    have := h.2.2
    have e2 : ((2 ^ n.toNat : Nat) : Int) = (2 : Int) ^ n.toNat := by push_cast; rfl
    omega
  exact Nat.lt_of_lt_of_le h1 (Nat.pow_le_pow_right (by omega) (by omega))
theorem hasE_bit {s e : Int} (h : isSet 8 s = true) (h0 : 0 ≤ e) (h7 : e ≤ 7) : hasE s e = bitI s e := by
  unfold hasE bitI
  rw [h, dt (show 0 ≤ e ∧ e ≤ 7 from ⟨h0, h7⟩)]
  rfl
def elemsL (s : Int) : Nat → Nat → List Int
  | 0, _ => []
  | d + 1, i => bif hasE s i then (i : Int) :: elemsL s d (i + 1) else elemsL s d (i + 1)
def elemsF (s : Int) : List Int := elemsL s 8 0
theorem elemsL_length (s : Int) : ∀ (d i : Nat), (elemsL s d i).length ≤ d
  | 0, _ => Nat.le_refl 0
  | d + 1, i => by
    have := elemsL_length s d (i + 1)
    unfold elemsL
    cases hasE s i <;> simp <;> omega
theorem elemsL_any (s : Int) (p : Int → Bool) : ∀ (d i : Nat), (elemsL s d i).any p = !allB (fun e => !(hasE s e && p e)) d i
  | 0, _ => rfl
  | d + 1, i => by
    unfold elemsL allB
    cases h : hasE s i
    · rw [cond_false, elemsL_any s p d (i + 1)]; simp
    · rw [cond_true, List.any_cons, elemsL_any s p d (i + 1)]; simp
theorem elemsL_mem (s : Int) (x : Int) : ∀ (d i : Nat), x ∈ elemsL s d i → ∃ e : Nat, x = e ∧ i ≤ e ∧ e < i + d ∧ hasE s e = true
  | 0, _, h => by simp [elemsL] at h
  | d + 1, i, h => by
    unfold elemsL at h
    cases hE : hasE s i
    · rw [hE, cond_false] at h
      obtain ⟨e, h1, h2, h3, h4⟩ := elemsL_mem s x d (i + 1) h
      exact ⟨e, h1, by omega, by omega, h4⟩
    · rw [hE, cond_true] at h
      rcases List.mem_cons.1 h with h | h
      · exact ⟨i, h, by omega, by omega, hE⟩
      · obtain ⟨e, h1, h2, h3, h4⟩ := elemsL_mem s x d (i + 1) h
        exact ⟨e, h1, by omega, by omega, h4⟩
theorem elemsF_lt {n : Nat} {s x : Int} (h : isSet n s = true) (hx : x ∈ elemsF s) : 0 ≤ x ∧ x < n ∧ x ≤ 7 := by
  obtain ⟨e, h1, h2, h3, h4⟩ := elemsL_mem s x 8 0 hx
  subst h1
  rw [hasE_bit (isSet_8 h) (by omega) (by omega)] at h4
  refine ⟨by omega, ?_, by omega⟩
  rcases Nat.lt_or_ge e n with h5 | h5
  · omega
  · rw [isSet_bit h (by omega)] at h4
    cases h4
theorem allB_ext {f g : Nat → Bool} : ∀ (d i : Nat), (∀ j, i ≤ j → j < i + d → f j = g j) → allB f d i = allB g d i
  | 0, _, _ => rfl
  | d + 1, i, h => by
    rw [allB, allB, h i (by omega) (by omega), allB_ext d (i + 1) (fun j h1 h2 => h j (by omega) (by omega))]
theorem allB_cut {f : Nat → Bool} {d : Nat} : ∀ (n i : Nat), n ≤ d → (∀ j, i + n ≤ j → j < i + d → f j = true) → allB f d i = allB f n i := by
  intro n i hn h
  rw [Bool.eq_iff_iff, allB_iff, allB_iff]
  constructor
  · intro g j h1 h2; exact g j h1 (by omega)
  · intro g j h1 h2
    rcases Nat.lt_or_ge j (i + n) with h3 | h3
    · exact g j h1 h3
    · exact h j h3 h2
/-- A statement on a set's elements, and on the numbers below. -/
theorem elems_all {n : Nat} {s : Int} (h : isSet n s = true) (p : Int → Bool) : (elemsF s).any p = !allB (fun e => !(bitI s e && p e)) n 0 := by
  have hl := isSet_le h
  unfold elemsF
  rw [elemsL_any]
  congr 1
  rw [allB_cut n 0 (by omega)]
  · refine allB_ext n 0 (fun j h1 h2 => ?_)
    rw [hasE_bit (isSet_8 h) (by omega) (by omega)]
  · intro j h1 h2
    rw [hasE_bit (isSet_8 h) (by omega) (by omega), isSet_bit h (by omega)]
    rfl
def pairBad (b : List Int) (k : Nat) (s x : Int) : Bool := !(bnot (b.getD x.toNat 0) s == 0) || (decide (x ≠ k) && hasE (b.getD x.toNat 0) k)
theorem pairBad_row {b : List Int} (hl : b.length ≤ 6) (h : allB (ordA b) b.length 0 = true) {a : Nat} (ha : a < b.length) : (elemsF (b.getD a 0)).any (pairBad b a (b.getD a 0)) = !ordRow b a := by
  rw [elems_all (ordA_set h ha)]
  congr 1
  unfold ordRow
  refine allB_ext _ 0 (fun j h1 h2 => ?_)
  have hs := ordA_set h (show j < b.length by omega)
  have hr := isSet_le hs
  unfold ordBad pairBad
  rw [Int.toNat_natCast, hasE_bit (isSet_8 hs) (by omega) (by omega), ← bne_bnot (isSet_8 hs)]
  have e : decide ((j : Int) ≠ a) = decide ((a : Int) ≠ j) := decide_eq_decide.2 ⟨fun h => fun e => h e.symm, fun h => fun e => h e.symm⟩
  rw [e]
def abcB : ByteArray := ⟨#[97, 98, 99, 100, 101, 102, 103, 104]⟩
theorem abc_size (l h : Nat) : (abcB.extract l h).size ≤ 8 := by
  rw [ByteArray.size_extract]
  have : abcB.size = 8 := rfl
  omega
def addTx : List Int → ByteArray → ByteArray
  | [], acc => acc
  | e :: r, acc => addTx r (acc ++ abcB.extract e.toNat (IntKind.i64.wrap (e + 1)).toNat)
theorem addTx_size : ∀ (es : List Int) (acc : ByteArray), (addTx es acc).size ≤ acc.size + 8 * es.length
  | [], acc => by simp [addTx]
  | e :: r, acc => by
    have h := addTx_size r (acc ++ abcB.extract e.toNat (IntKind.i64.wrap (e + 1)).toNat)
    have h2 := abc_size e.toNat (IntKind.i64.wrap (e + 1)).toNat
    rw [ByteArray.size_append] at h
    rw [addTx, List.length_cons]
    omega
def setTx (s : Int) : ByteArray := bif isSet 8 s then (bif s == 0 then ⟨#[45]⟩ else addTx (elemsF s) ⟨#[]⟩) else ⟨#[]⟩
theorem setTx_size (s : Int) : (setTx s).size ≤ 64 := by
  unfold setTx
  cases isSet 8 s
  · exact Nat.zero_le _
  · rw [cond_true]
    cases s == 0
    · rw [cond_false]
      have h := addTx_size (elemsF s) ⟨#[]⟩
      have h2 : (elemsF s).length ≤ 8 := elemsL_length _ _ _
      have h3 : (⟨#[]⟩ : ByteArray).size = 0 := rfl
      omega
    · rw [cond_true]; decide
def setsTx (a : List Int) : ByteArray := bif a.all (isSet 8) then (bif (a.length : Int) == 0 then ⟨#[110, 111, 110, 101]⟩ else joinF (a.map setTx) ⟨#[44]⟩) else ⟨#[]⟩
theorem elems_rng {s e : Int} (h : e ∈ elemsF s) : 0 ≤ e ∧ e ≤ 7 := by
  obtain ⟨j, h1, h2, h3, h4⟩ := elemsL_mem s e 8 0 h
  omega
theorem abc_slice {e : Int} (h : 0 ≤ e ∧ e ≤ 7) : (decide (0 ≤ e) && (decide (e ≤ IntKind.i64.wrap (e + 1)) && decide (IntKind.i64.wrap (e + 1) ≤ 8))) = true := by
  rw [wrap64 (by omega) (by omega), dt h.1, dt (show e ≤ e + 1 by omega), dt (show e + 1 ≤ 8 by omega)]
  rfl
def ordTx (a : List Int) : ByteArray := bif isOrd a then setsTx a else ⟨#[]⟩
/- spec.l1In -/
def K_l1In : List AV → List Ob → Option (AV × List Ob)
  | [.int .i64 n, .int .i64 l, .int .i64 h], [] => gd (True) (.bool (decide (l ≤ n ∧ n ≤ h)), [])
  | _, _ => none
@[reducible] def E_l1In : Env := mkE (tb []) (fun f => false) (fun r => ([], []))
theorem ev_l1In (n l h : Int) (hp : True) : evF E_l1In (1) Try.f48 [.int .i64 n, .int .i64 l, .int .i64 h] [] = some (.bool (decide (l ≤ n ∧ n ≤ h)), []) := by
  conv => lhs; whnf
  refine br_c (fun h1 => ?_) (fun h1 => ?_)
  · conv => lhs; whnf
    repeat ((first | with_reducible apply br_tt | with_reducible apply br_ff | with_reducible apply br_nf | with_reducible apply br_nt | with_reducible refine br_d ?_ (by kernel_rfl) | with_reducible apply br_t h1 | with_reducible apply br_f h1); conv => lhs; whnf)
    have := ofd h1
    simp [this]
  · conv => lhs; whnf
    repeat ((first | with_reducible apply br_tt | with_reducible apply br_ff | with_reducible apply br_nf | with_reducible apply br_nt | with_reducible refine br_d ?_ (by kernel_rfl) | with_reducible apply br_t h1 | with_reducible apply br_f h1); conv => lhs; whnf)
    have := ofn h1
    simp [this]
theorem ok_l1In : FnOk Try.prog 48 K_l1In := by
  refine fn_ok (fn := Try.f48) (k := Try.f48.ntmps) (E := E_l1In) (facts_of (List.forall_mem_nil _)) (by kernel_rfl) rfl (by decide +kernel) (by decide +kernel) ?_
  intro avs hin r h
  unfold K_l1In at h
  split at h
  · obtain ⟨hp, rfl⟩ := gd_o h
    exact ⟨_, ev_l1In _ _ _ hp, rfl⟩
  · cases h

/- spec.IsSet -/
def K_specIsSet : List AV → List Ob → Option (AV × List Ob)
  | [.int .i64 n, .int .i64 s], [] => gd (True) (.bool (isSet n s), [])
  | _, _ => none
@[reducible] def E_specIsSet : Env := mkE (tb [(48, K_l1In)]) (fun f => false) (fun r => ([], []))
theorem ev_specIsSet (n s : Int) (hp : True) : evF E_specIsSet (1) Try.f59 [.int .i64 n, .int .i64 s] [] = some (.bool (isSet n s), []) := by
  conv => lhs; whnf
  conv => lhs; arg 1; whnf
  refine bnd_g (by exact True.intro) ?_
  conv => lhs; whnf
  refine br_c (fun h => ?_) (fun h => ?_)
  · conv => lhs; whnf
    have h8 := ofd h
    repeat ((first | with_reducible apply br_tt | with_reducible apply br_ff | with_reducible apply br_nf | with_reducible apply br_nt | with_reducible refine br_d ?_ (by kernel_rfl) | with_reducible apply br_t h | with_reducible apply br_f h); conv => lhs; whnf)
    rw [wrapu h8.1 h8.2]
    refine br_f (df (by omega)) ?_
    conv => lhs; whnf
    repeat ((first | with_reducible apply br_tt | with_reducible apply br_ff | with_reducible apply br_nf | with_reducible apply br_nt | with_reducible refine br_d ?_ (by kernel_rfl) | with_reducible apply br_t h | with_reducible apply br_f h); conv => lhs; whnf)
    conv => lhs; arg 1; whnf
    refine bnd_g (by exact True.intro) ?_
    conv => lhs; whnf
    repeat ((first | with_reducible apply br_tt | with_reducible apply br_ff | with_reducible apply br_nf | with_reducible apply br_nt | with_reducible refine br_d ?_ (by kernel_rfl) | with_reducible apply br_t h | with_reducible apply br_f h); conv => lhs; whnf)
    refine okB ?_
    unfold isSet
    refine decide_eq_decide.2 ?_
    rw [shl_set h8.1 h8.2]
    exact ⟨fun h => ⟨h8, h⟩, fun h => h.2⟩
  · conv => lhs; whnf
    repeat ((first | with_reducible apply br_tt | with_reducible apply br_ff | with_reducible apply br_nf | with_reducible apply br_nt | with_reducible refine br_d ?_ (by kernel_rfl) | with_reducible apply br_t h | with_reducible apply br_f h); conv => lhs; whnf)
    have h8 := ofn h
    simp [isSet, h8]
theorem ok_specIsSet : FnOk Try.prog 59 K_specIsSet := by
  refine fn_ok (fn := Try.f59) (k := Try.f59.ntmps) (E := E_specIsSet) (facts_of (List.forall_mem_cons.2 ⟨ok_l1In, List.forall_mem_nil _⟩)) (by kernel_rfl) rfl (by decide +kernel) (by decide +kernel) ?_
  intro avs hin r h
  unfold K_specIsSet at h
  split at h
  · obtain ⟨hp, rfl⟩ := gd_o h
    exact ⟨_, ev_specIsSet _ _ hp, rfl⟩
  · cases h

/- spec.l2Has -/
def K_l2Has : List AV → List Ob → Option (AV × List Ob)
  | [.int .i64 s, .int .i64 e], [] => gd ((0 ≤ s ∧ s ≤ 255) ∧ (0 ≤ e ∧ e ≤ 8)) (.bool (s.toNat.testBit e.toNat), [])
  | _, _ => none
@[reducible] def E_l2Has : Env := mkE (tb []) (fun f => false) (fun r => ([], []))
theorem ev_l2Has (s e : Int) (hp : (0 ≤ s ∧ s ≤ 255) ∧ (0 ≤ e ∧ e ≤ 8)) : evF E_l2Has (1) Try.f72 [.int .i64 s, .int .i64 e] [] = some (.bool (s.toNat.testBit e.toNat), []) := by
  obtain ⟨⟨h0, h1⟩, h2, h3⟩ := hp
  conv => lhs; whnf
  rw [wrapu h2 h3]
  refine br_f (df (by omega)) ?_
  conv => lhs; whnf
  exact okB (bit_of h0 h1 h2 h3)
theorem ok_l2Has : FnOk Try.prog 72 K_l2Has := by
  refine fn_ok (fn := Try.f72) (k := Try.f72.ntmps) (E := E_l2Has) (facts_of (List.forall_mem_nil _)) (by kernel_rfl) rfl (by decide +kernel) (by decide +kernel) ?_
  intro avs hin r h
  unfold K_l2Has at h
  split at h
  · obtain ⟨hp, rfl⟩ := gd_o h
    exact ⟨_, ev_l2Has _ _ hp, rfl⟩
  · cases h

/- spec.IsOrder -/
def K_specIsOrder : List AV → List Ob → Option (AV × List Ob)
  | [.agg [.lst (.int .i64) b]], [] => gd (b.length < 4611686018427387904) (.bool (isOrd b), [])
  | _, _ => none
@[reducible] def E_specIsOrder : Env := mkE (tb [(59, K_specIsSet), (72, K_l2Has)]) (fun f => false) (fun r => bif r == 5 then ([1, 3, 4], [1, 2, 3]) else bif r == 10 then ([1, 3, 5], [1, 2, 3, 5]) else bif r == 13 then ([1, 3, 5, 6], [1, 2, 3, 5]) else ([], []))
theorem lp_specIsOrder (b : List Int) (hb : b.length ≤ 6) (k : AX → S → Option (AV × List Ob)) (r : Option (AV × List Ob)) (hk : k .ret (mkS [1, 2, 3] [.ptr 0 0, .bool false, .int .i64 b.length] [some (.box 30 [.lst (.int .i64) b])]) = r) (d : Nat) : ∀ (n i : Nat) (x : Int), b.length - i = d → i ≤ b.length → x = i → d < n →
    lpAt E_specIsOrder (lp E_specIsOrder 0 n) 0 (loopAt Try.f68 0) (mkS [1, 3, 4] [.ptr 0 0, .int .i64 b.length, .int .i64 x] [some (.box 30 [.lst (.int .i64) b])]) k =
      if allB (ordA b) d i then k (.exit 0) (mkS [1, 2, 3] [.ptr 0 0, .any, .int .i64 b.length] [some (.box 30 [.lst (.int .i64) b])]) else r := by
  induction d with
  | zero =>
    intro n i x hd hi hx hn
    subst hx
    rw [lpAt_def]
    conv => lhs; whnf
    refine br_f (df (by omega)) ?_
    conv => lhs; whnf
    rfl
  | succ d ih =>
    intro n i x hd hi hx hn
    obtain ⟨n, rfl⟩ : ∃ m, n = m + 1 := ⟨n - 1, by omega⟩
    subst hx
    rw [lpAt_def]
    conv => lhs; whnf
    refine br_t (dt (by omega)) ?_
    conv => lhs; whnf
    refine br_t (dt2 (by omega) (by omega)) ?_
    conv => lhs; whnf
    conv => lhs; arg 1; whnf
    refine bnd_g (by exact True.intro) ?_
    conv => lhs; whnf
    refine br_c (fun h => ?_) (fun h => ?_)
    · have h' : isSet b.length (b.getD i 0) = false := bnt h
      conv => lhs; whnf
      repeat ((first | with_reducible apply br_tt | with_reducible apply br_ff | with_reducible apply br_nf | with_reducible apply br_nt | with_reducible refine br_d ?_ (by kernel_rfl) | with_reducible apply br_t h | with_reducible apply br_f h | with_reducible refine br_t (dt2 (by omega) (by omega)) ?_); conv => lhs; whnf)
      have e : ordA b i = false := by
        unfold ordA
        rw [h']
        rfl
      rw [if_neg (by rw [allB, e]; exact Bool.false_ne_true)]
      exact hk
    · have h' : isSet b.length (b.getD i 0) = true := bnf h
      have hl := isSet_le h'
      conv => lhs; whnf
      repeat ((first | with_reducible apply br_tt | with_reducible apply br_ff | with_reducible apply br_nf | with_reducible apply br_nt | with_reducible refine br_d ?_ (by kernel_rfl) | with_reducible apply br_t h | with_reducible apply br_f h | with_reducible refine br_t (dt2 (by omega) (by omega)) ?_); conv => lhs; whnf)
      conv => lhs; arg 1; whnf
      refine bnd_g (by exact ⟨⟨hl.2.2.1, hl.2.2.2⟩, by omega, by omega⟩) ?_
      conv => lhs; whnf
      repeat ((first | with_reducible apply br_tt | with_reducible apply br_ff | with_reducible apply br_nf | with_reducible apply br_nt | with_reducible refine br_d ?_ (by kernel_rfl) | with_reducible apply br_t h | with_reducible apply br_f h | with_reducible refine br_t (dt2 (by omega) (by omega)) ?_); conv => lhs; whnf)
      refine br_c (fun h2 => ?_) (fun h2 => ?_)
      · conv => lhs; whnf
        have e : ordA b i = false := by
          unfold ordA
          rw [show bitI (b.getD i 0) i = false from bnt h2, Bool.and_false]
        rw [if_neg (by rw [allB, e]; exact Bool.false_ne_true)]
        exact hk
      · conv => lhs; whnf
        rw [ih n (i + 1) _ (by omega) (by omega) (by rw [wrap64 (by omega) (by omega)]; simp) (by omega)]
        have e : ordA b i = true := by
          unfold ordA
          rw [h', show bitI (b.getD i 0) i = true from bnf h2]
          rfl
        rw [allB, e, Bool.true_and]

theorem lq_specIsOrder (b : List Int) (hb : b.length ≤ 6) (hA : allB (ordA b) b.length 0 = true) (a : Nat) (ha : a < b.length) (k : AX → S → Option (AV × List Ob)) (r : Option (AV × List Ob)) (hk : k .ret (mkS [1, 2, 3, 5] [.ptr 0 0, .bool false, .int .i64 b.length, .int .i64 (a : Int)] [some (.box 30 [.lst (.int .i64) b])]) = r) (d : Nat) : ∀ (n i : Nat) (x : Int), b.length - i = d → i ≤ b.length → x = i → d < n →
    lpAt E_specIsOrder (lp E_specIsOrder 0 n) 0 (loopAt Try.f68 2) (mkS [1, 3, 5, 6] [.ptr 0 0, .int .i64 b.length, .int .i64 (a : Int), .int .i64 x] [some (.box 30 [.lst (.int .i64) b])]) k =
      if allB (fun c => !ordBad b a c) d i then k (.exit 4) (mkS [1, 2, 3, 5] [.ptr 0 0, .any, .int .i64 b.length, .int .i64 (a : Int)] [some (.box 30 [.lst (.int .i64) b])]) else r := by
  have hsa := isSet_le (ordA_set hA ha)
  induction d with
  | zero =>
    intro n i x hd hi hx hn
    subst hx
    rw [lpAt_def]
    conv => lhs; whnf
    refine br_f (df (by omega)) ?_
    conv => lhs; whnf
    rfl
  | succ d ih =>
    intro n i x hd hi hx hn
    obtain ⟨n, rfl⟩ : ∃ m, n = m + 1 := ⟨n - 1, by omega⟩
    subst hx
    have hsi := isSet_le (ordA_set hA (show i < b.length by omega))
    have bad : ordBad b a i = true → (if allB (fun c => !ordBad b a c) (d + 1) i then k (.exit 4) (mkS [1, 2, 3, 5] [.ptr 0 0, .any, .int .i64 b.length, .int .i64 (a : Int)] [some (.box 30 [.lst (.int .i64) b])]) else r) = r := by
      intro h
      rw [allB, h]
      rfl
    have good : ordBad b a i = false → allB (fun c => !ordBad b a c) (d + 1) i = allB (fun c => !ordBad b a c) d (i + 1) := by
      intro h
      rw [allB, h]
      rfl
    rw [lpAt_def]
    conv => lhs; whnf
    refine br_t (dt (by omega)) ?_
    conv => lhs; whnf
    repeat ((first | with_reducible apply br_tt | with_reducible apply br_ff | with_reducible apply br_nf | with_reducible apply br_nt | with_reducible refine br_d ?_ (by kernel_rfl) | with_reducible refine br_t (dt2 (by omega) (by omega)) ?_); conv => lhs; whnf)
    conv => lhs; arg 1; whnf
    refine bnd_g (by exact ⟨⟨hsa.2.2.1, hsa.2.2.2⟩, by omega, by omega⟩) ?_
    conv => lhs; whnf
    refine br_c (fun h => ?_) (fun h => ?_)
    · conv => lhs; whnf
      repeat ((first | with_reducible apply br_tt | with_reducible apply br_ff | with_reducible apply br_nf | with_reducible apply br_nt | with_reducible refine br_d ?_ (by kernel_rfl) | with_reducible apply br_t h | with_reducible apply br_f h | with_reducible refine br_t (dt2 (by omega) (by omega)) ?_); conv => lhs; whnf)
      refine br_c (fun h2 => ?_) (fun h2 => ?_)
      · conv => lhs; whnf
        repeat ((first | with_reducible apply br_tt | with_reducible apply br_ff | with_reducible apply br_nf | with_reducible apply br_nt | with_reducible refine br_d ?_ (by kernel_rfl) | with_reducible apply br_t h | with_reducible apply br_f h | with_reducible apply br_t h2 | with_reducible apply br_f h2 | with_reducible refine br_t (dt2 (by omega) (by omega)) ?_); conv => lhs; whnf)
        rw [bad (by unfold ordBad; rw [show bitI (b.getD a 0) i = true from h, show (band (b.getD i 0) (b.getD a 0) != b.getD i 0) = true from h2]; rfl)]
        exact hk
      · conv => lhs; whnf
        repeat ((first | with_reducible apply br_tt | with_reducible apply br_ff | with_reducible apply br_nf | with_reducible apply br_nt | with_reducible refine br_d ?_ (by kernel_rfl) | with_reducible apply br_t h | with_reducible apply br_f h | with_reducible apply br_t h2 | with_reducible apply br_f h2 | with_reducible refine br_t (dt2 (by omega) (by omega)) ?_); conv => lhs; whnf)
        refine br_c (fun h3 => ?_) (fun h3 => ?_)
        · conv => lhs; whnf
          repeat ((first | with_reducible apply br_tt | with_reducible apply br_ff | with_reducible apply br_nf | with_reducible apply br_nt | with_reducible refine br_d ?_ (by kernel_rfl) | with_reducible apply br_t h | with_reducible apply br_f h | with_reducible apply br_t h2 | with_reducible apply br_f h2 | with_reducible apply br_t h3 | with_reducible apply br_f h3 | with_reducible refine br_t (dt2 (by omega) (by omega)) ?_); conv => lhs; whnf)
          conv => lhs; arg 1; whnf
          refine bnd_g (by exact ⟨⟨hsi.2.2.1, hsi.2.2.2⟩, by omega, by omega⟩) ?_
          conv => lhs; whnf
          repeat ((first | with_reducible apply br_tt | with_reducible apply br_ff | with_reducible apply br_nf | with_reducible apply br_nt | with_reducible refine br_d ?_ (by kernel_rfl) | with_reducible apply br_t h | with_reducible apply br_f h | with_reducible apply br_t h2 | with_reducible apply br_f h2 | with_reducible apply br_t h3 | with_reducible apply br_f h3 | with_reducible refine br_t (dt2 (by omega) (by omega)) ?_); conv => lhs; whnf)
          have e3 : decide ((a : Int) ≠ (i : Int)) = true := by simpa using h3
          refine br_c (fun h4 => ?_) (fun h4 => ?_)
          · conv => lhs; whnf
            rw [bad (by unfold ordBad; rw [show bitI (b.getD a 0) i = true from h, show (band (b.getD i 0) (b.getD a 0) != b.getD i 0) = false from h2, e3, show bitI (b.getD i 0) a = true from h4]; rfl)]
            exact hk
          · conv => lhs; whnf
            rw [ih n (i + 1) _ (by omega) (by omega) (by rw [wrap64 (by omega) (by omega)]; simp) (by omega)]
            rw [good (by unfold ordBad; rw [show bitI (b.getD a 0) i = true from h, show (band (b.getD i 0) (b.getD a 0) != b.getD i 0) = false from h2, e3, show bitI (b.getD i 0) a = false from h4]; rfl)]
        · conv => lhs; whnf
          repeat ((first | with_reducible apply br_tt | with_reducible apply br_ff | with_reducible apply br_nf | with_reducible apply br_nt | with_reducible refine br_d ?_ (by kernel_rfl) | with_reducible apply br_t h | with_reducible apply br_f h | with_reducible apply br_t h2 | with_reducible apply br_f h2 | with_reducible apply br_t h3 | with_reducible apply br_f h3 | with_reducible refine br_t (dt2 (by omega) (by omega)) ?_); conv => lhs; whnf)
          have e3 : decide ((a : Int) ≠ (i : Int)) = false := by simpa using h3
          rw [ih n (i + 1) _ (by omega) (by omega) (by rw [wrap64 (by omega) (by omega)]; simp) (by omega)]
          rw [good (by unfold ordBad; rw [show bitI (b.getD a 0) i = true from h, show (band (b.getD i 0) (b.getD a 0) != b.getD i 0) = false from h2, e3]; rfl)]
    · conv => lhs; whnf
      repeat ((first | with_reducible apply br_tt | with_reducible apply br_ff | with_reducible apply br_nf | with_reducible apply br_nt | with_reducible refine br_d ?_ (by kernel_rfl) | with_reducible apply br_t h | with_reducible apply br_f h | with_reducible refine br_t (dt2 (by omega) (by omega)) ?_); conv => lhs; whnf)
      rw [ih n (i + 1) _ (by omega) (by omega) (by rw [wrap64 (by omega) (by omega)]; simp) (by omega)]
      rw [good (by unfold ordBad; rw [show bitI (b.getD a 0) i = false from h]; rfl)]

theorem lo_specIsOrder (b : List Int) (hb : b.length ≤ 6) (hA : allB (ordA b) b.length 0 = true) (k : AX → S → Option (AV × List Ob)) (r : Option (AV × List Ob)) (hk : ∀ a : Int, k .ret (mkS [1, 2, 3, 5] [.ptr 0 0, .bool false, .int .i64 b.length, .int .i64 a] [some (.box 30 [.lst (.int .i64) b])]) = r) (d : Nat) : ∀ (n i : Nat) (x : Int), b.length - i = d → i ≤ b.length → x = i → d + 10 < n →
    lpAt E_specIsOrder (lp E_specIsOrder 0 n) 0 (loopAt Try.f68 1) (mkS [1, 3, 5] [.ptr 0 0, .int .i64 b.length, .int .i64 x] [some (.box 30 [.lst (.int .i64) b])]) k =
      if allB (ordRow b) d i then k (.exit 2) (mkS [1, 2, 3, 5] [.ptr 0 0, .any, .int .i64 b.length, .int .i64 (b.length : Int)] [some (.box 30 [.lst (.int .i64) b])]) else r := by
  induction d with
  | zero =>
    intro n i x hd hi hx hn
    subst hx
    rw [lpAt_def]
    conv => lhs; whnf
    refine br_f (df (by omega)) ?_
    conv => lhs; whnf
    have : i = b.length := by omega
    rw [this]
    rfl
  | succ d ih =>
    intro n i x hd hi hx hn
    obtain ⟨n, rfl⟩ : ∃ m, n = m + 1 := ⟨n - 1, by omega⟩
    subst hx
    rw [lpAt_def]
    conv => lhs; whnf
    refine br_t (dt (by omega)) ?_
    conv => lhs; whnf
    refine (lq_specIsOrder b hb hA i (by omega) _ _ rfl b.length _ 0 0 rfl (by omega) rfl (by omega)).trans ?_
    split
    · rename_i h
      conv => lhs; whnf
      rw [ih n (i + 1) _ (by omega) (by omega) (by rw [wrap64 (by omega) (by omega)]; simp) (by omega)]
      have e : ordRow b i = true := h
      rw [allB, e, Bool.true_and]
    · rename_i h
      conv => lhs; whnf
      have e : ordRow b i = false := by
        unfold ordRow
        exact Bool.not_eq_true _ ▸ h
      rw [if_neg (by rw [allB, e]; exact Bool.false_ne_true)]
      exact hk _
theorem ev_specIsOrder (b : List Int) (hp : b.length < 4611686018427387904) : evF E_specIsOrder (20) Try.f68 [.agg [.lst (.int .i64) b]] [] = some (.bool (isOrd b), []) := by
  conv => lhs; whnf
  refine br_c (fun h => ?_) (fun h => ?_)
  · conv => lhs; whnf
    have h := ofd h
    refine okB ?_
    unfold isOrd
    rw [df (by omega)]
    rfl
  · conv => lhs; whnf
    have h := ofn h
    have hb : b.length ≤ 6 := by omega
    refine (lp_specIsOrder b hb _ _ rfl b.length _ 0 0 rfl (by omega) rfl (by change b.length < 19; omega)).trans ?_
    split
    · rename_i hA
      conv => lhs; whnf
      refine (lo_specIsOrder b hb hA _ _ (fun _ => rfl) b.length _ 0 0 rfl (by omega) rfl (by change b.length + 10 < 19; omega)).trans ?_
      split
      · rename_i hB
        conv => lhs; whnf
        refine okB ?_
        unfold isOrd
        rw [hA, hB, dt hb]
        rfl
      · rename_i hB
        conv => lhs; whnf
        refine okB ?_
        unfold isOrd
        rw [Bool.not_eq_true] at hB
        rw [hB, Bool.and_false, Bool.and_false]
    · rename_i hA
      conv => lhs; whnf
      refine okB ?_
      unfold isOrd
      rw [Bool.not_eq_true] at hA
      rw [hA, Bool.false_and, Bool.and_false]
theorem ok_specIsOrder : FnOk Try.prog 68 K_specIsOrder := by
  refine fn_ok (fn := Try.f68) (k := Try.f68.ntmps) (E := E_specIsOrder) (facts_of (List.forall_mem_cons.2 ⟨ok_specIsSet, List.forall_mem_cons.2 ⟨ok_l2Has, List.forall_mem_nil _⟩⟩)) (by kernel_rfl) rfl (by decide +kernel) (by decide +kernel) ?_
  intro avs hin r h
  unfold K_specIsOrder at h
  split at h
  · obtain ⟨hp, rfl⟩ := gd_o h
    exact ⟨_, ev_specIsOrder _ hp, rfl⟩
  · cases h

def okTxt (ys : List ByteArray) : Bool := ys.all (fun y => decide (y.size ≤ 1048576))
theorem okTxt_iff {ys : List ByteArray} : okTxt ys = true ↔ ∀ y ∈ ys, y.size ≤ 1048576 := by
  unfold okTxt
  simp only [List.all_eq_true, decide_eq_true_eq]
theorem strInts_len (s : ByteArray) : (strInts s).length = s.size := by
  unfold strInts
  rw [List.length_map, Array.length_toList]
  rfl
theorem setTx_ok (a : List Int) : okTxt (a.map setTx) = true := by
  rw [okTxt_iff]
  intro y hy
  obtain ⟨s, _, rfl⟩ := List.mem_map.1 hy
  have := setTx_size s
  omega
/- spec.l2Sets -/
def K_l2Sets : List AV → List Ob → Option (AV × List Ob)
  | [.lst (.int .i64) a], [] => gd (a.length ≤ 1048576) (.bool (a.all (isSet 8)), [])
  | _, _ => none
@[reducible] def E_l2Sets : Env := mkE (tb [(59, K_specIsSet)]) (fun f => false) (fun r => bif r == 2 then ([0, 3], [2]) else ([], []))
theorem lp_l2Sets (a : List Int) (ha : a.length ≤ 1048576) (k : AX → S → Option (AV × List Ob)) (d : Nat) : ∀ (n i : Nat) (x : Int), a.length - i = d → i ≤ a.length → x = i → d < n →
    lpAt E_l2Sets (lp E_l2Sets 0 n) 0 (loopAt Try.f89 0) (mkS [0, 3] [.lst (.int .i64) a, .int .i64 x] []) k =
      if (a.drop i).all (isSet 8) then k (.exit 0) (mkS [2] [.any] []) else k .ret (mkS [2] [.bool false] []) := by
  induction d with
  | zero =>
    intro n i x hd hi hx hn
    subst hx
    rw [lpAt_def]
    conv => lhs; whnf
    refine br_f (df (by omega)) ?_
    conv => lhs; whnf
    rw [List.drop_of_length_le (by omega)]
    simp
  | succ d ih =>
    intro n i x hd hi hx hn
    obtain ⟨n, rfl⟩ : ∃ m, n = m + 1 := ⟨n - 1, by omega⟩
    subst hx
    rw [lpAt_def]
    conv => lhs; whnf
    refine br_t (dt (by omega)) ?_
    conv => lhs; whnf
    refine br_t (dt2 (by omega) (by omega)) ?_
    conv => lhs; whnf
    conv => lhs; arg 1; whnf
    refine bnd_g (by exact True.intro) ?_
    conv => lhs; whnf
    rw [getD_drop (l := a) (i := i) (d := 0) (by omega), List.all_cons]
    refine br_c (fun h => ?_) (fun h => ?_)
    · have h' : isSet 8 (a.getD i 0) = false := bnt h
      conv => lhs; whnf
      rw [h', Bool.false_and, if_neg (by simp)]
    · have h' : isSet 8 (a.getD i 0) = true := bnf h
      conv => lhs; whnf
      refine Eq.trans (ih n (i + 1) _ (by omega) (by omega) (by rw [wrap64 (n := (i : Int) + 1) (by omega) (by omega)]; simp) (by omega)) ?_
      rw [h', Bool.true_and]
theorem ev_l2Sets (a : List Int) (hp : a.length ≤ 1048576) : evF E_l2Sets (a.length + 2) Try.f89 [.lst (.int .i64) a] [] = some (.bool (a.all (isSet 8)), []) := by
  conv => lhs; whnf
  refine (lp_l2Sets a hp _ a.length _ 0 0 rfl (Nat.zero_le _) rfl (by omega)).trans ?_
  rw [List.drop_zero]
  split
  · rename_i h
    conv => lhs; whnf
    rw [h]
  · rename_i h
    conv => lhs; whnf
    rw [Bool.not_eq_true] at h
    rw [h]
theorem ok_l2Sets : FnOk Try.prog 89 K_l2Sets := by
  refine fn_ok (fn := Try.f89) (k := Try.f89.ntmps) (E := E_l2Sets) (facts_of (List.forall_mem_cons.2 ⟨ok_specIsSet, List.forall_mem_nil _⟩)) (by kernel_rfl) rfl (by decide +kernel) (by decide +kernel) ?_
  intro avs hin r h
  unfold K_l2Sets at h
  split at h
  · obtain ⟨hp, rfl⟩ := gd_o h
    exact ⟨_, ev_l2Sets _ hp, rfl⟩
  · cases h

/- spec.HasElement -/
def K_specHasElement : List AV → List Ob → Option (AV × List Ob)
  | [.int .i64 s, .int .i64 e], [] => gd (True) (.bool (hasE s e), [])
  | _, _ => none
@[reducible] def E_specHasElement : Env := mkE (tb [(59, K_specIsSet), (48, K_l1In), (72, K_l2Has)]) (fun f => false) (fun r => ([], []))
theorem ev_specHasElement (s e : Int) (hp : True) : evF E_specHasElement (1) Try.f105 [.int .i64 s, .int .i64 e] [] = some (.bool (hasE s e), []) := by
  conv => lhs; whnf
  conv => lhs; arg 1; whnf
  refine bnd_g (by exact True.intro) ?_
  conv => lhs; whnf
  refine br_c (fun h => ?_) (fun h => ?_)
  · conv => lhs; whnf
    repeat ((first | with_reducible apply br_tt | with_reducible apply br_ff | with_reducible apply br_nf | with_reducible apply br_nt | with_reducible refine br_d ?_ (by kernel_rfl) | with_reducible apply br_t h | with_reducible apply br_f h); conv => lhs; whnf)
    conv => lhs; arg 1; whnf
    refine bnd_g (by exact True.intro) ?_
    conv => lhs; whnf
    repeat ((first | with_reducible apply br_tt | with_reducible apply br_ff | with_reducible apply br_nf | with_reducible apply br_nt | with_reducible refine br_d ?_ (by kernel_rfl) | with_reducible apply br_t h | with_reducible apply br_f h); conv => lhs; whnf)
    have hs := isSet_le h
    refine br_c (fun h2 => ?_) (fun h2 => ?_)
    · conv => lhs; whnf
      repeat ((first | with_reducible apply br_tt | with_reducible apply br_ff | with_reducible apply br_nf | with_reducible apply br_nt | with_reducible refine br_d ?_ (by kernel_rfl) | with_reducible apply br_t h | with_reducible apply br_f h | with_reducible apply br_t h2 | with_reducible apply br_f h2); conv => lhs; whnf)
      have h2' := ofd h2
      conv => lhs; arg 1; whnf
      refine bnd_g (by exact ⟨by omega, by omega⟩) ?_
      conv => lhs; whnf
      repeat ((first | with_reducible apply br_tt | with_reducible apply br_ff | with_reducible apply br_nf | with_reducible apply br_nt | with_reducible refine br_d ?_ (by kernel_rfl) | with_reducible apply br_t h | with_reducible apply br_f h | with_reducible apply br_t h2 | with_reducible apply br_f h2); conv => lhs; whnf)
      refine okB ?_
      unfold hasE
      rw [h, h2, Bool.true_and, Bool.true_and]
    · conv => lhs; whnf
      repeat ((first | with_reducible apply br_tt | with_reducible apply br_ff | with_reducible apply br_nf | with_reducible apply br_nt | with_reducible refine br_d ?_ (by kernel_rfl) | with_reducible apply br_t h | with_reducible apply br_f h | with_reducible apply br_t h2 | with_reducible apply br_f h2); conv => lhs; whnf)
      refine okB ?_
      unfold hasE
      rw [h, h2]
      rfl
  · conv => lhs; whnf
    repeat ((first | with_reducible apply br_tt | with_reducible apply br_ff | with_reducible apply br_nf | with_reducible apply br_nt | with_reducible refine br_d ?_ (by kernel_rfl) | with_reducible apply br_t h | with_reducible apply br_f h); conv => lhs; whnf)
    refine okB ?_
    unfold hasE
    rw [h, Bool.false_and, Bool.false_and]
theorem ok_specHasElement : FnOk Try.prog 105 K_specHasElement := by
  refine fn_ok (fn := Try.f105) (k := Try.f105.ntmps) (E := E_specHasElement) (facts_of (List.forall_mem_cons.2 ⟨ok_specIsSet, List.forall_mem_cons.2 ⟨ok_l1In, List.forall_mem_cons.2 ⟨ok_l2Has, List.forall_mem_nil _⟩⟩⟩)) (by kernel_rfl) rfl (by decide +kernel) (by decide +kernel) ?_
  intro avs hin r h
  unfold K_specHasElement at h
  split at h
  · obtain ⟨hp, rfl⟩ := gd_o h
    exact ⟨_, ev_specHasElement _ _ hp, rfl⟩
  · cases h

/- spec.ElementsOf -/
def K_specElementsOf : List AV → List Ob → Option (AV × List Ob)
  | [.int .i64 s], [] => gd (True) (.own 0, [.row 3 (.int .i64) (elemsF s)])
  | _, _ => none
@[reducible] def E_specElementsOf : Env := mkE (tb [(105, K_specHasElement)]) (fun f => false) (fun r => bif r == 3 then ([0, 3, 4], [3]) else ([], []))
theorem lp_specElementsOf (s : Int) (k : AX → S → Option (AV × List Ob)) (d : Nat) : ∀ (n i : Nat) (x : Int) (ys : List Int), 8 - i = d → i ≤ 8 → x = i → d < n → ys.length ≤ i →
    lpAt E_specElementsOf (lp E_specElementsOf 0 n) 0 (loopAt Try.f103 0) (mkS [0, 3, 4] [.int .i64 s, .own 0, .int .i64 x] [some (.row 3 (.int .i64) ys)]) k =
      k (.exit 0) (mkS [3] [.own 0] [some (.row 3 (.int .i64) (ys ++ elemsL s d i))]) := by
  induction d with
  | zero =>
    intro n i x ys hd hi hx hn hl
    subst hx
    rw [lpAt_def]
    conv => lhs; whnf
    refine br_f (df (by omega)) ?_
    conv => lhs; whnf
    rw [elemsL, List.append_nil]
  | succ d ih =>
    intro n i x ys hd hi hx hn hl
    obtain ⟨n, rfl⟩ : ∃ m, n = m + 1 := ⟨n - 1, by omega⟩
    subst hx
    rw [lpAt_def]
    conv => lhs; whnf
    refine br_t (dt (by omega)) ?_
    conv => lhs; whnf
    conv => lhs; arg 1; whnf
    refine bnd_g (by exact True.intro) ?_
    conv => lhs; whnf
    refine br_c (fun h => ?_) (fun h => ?_)
    · conv => lhs; whnf
      refine br_t (dt (by simp [room]; omega)) ?_
      conv => lhs; whnf
      rw [ih n (i + 1) _ _ (by omega) (by omega) (by rw [wrap64 (n := (i : Int) + 1) (by omega) (by omega)]; simp) (by omega) (by simp; omega)]
      have h' : hasE s (i : Int) = true := h
      rw [elemsL, h', cond_true, List.append_assoc]
      rfl
    · conv => lhs; whnf
      rw [ih n (i + 1) _ _ (by omega) (by omega) (by rw [wrap64 (n := (i : Int) + 1) (by omega) (by omega)]; simp) (by omega) (by omega)]
      have h' : hasE s (i : Int) = false := h
      rw [elemsL, h', cond_false]
theorem ev_specElementsOf (s : Int) (hp : True) : evF E_specElementsOf (12) Try.f103 [.int .i64 s] [] = some (.own 0, [.row 3 (.int .i64) (elemsF s)]) := by
  conv => lhs; whnf
  refine (lp_specElementsOf s _ 8 _ 0 0 [] rfl (by omega) rfl (by change _ < 11; omega) (by simp)).trans ?_
  conv => lhs; whnf
  rfl
theorem ok_specElementsOf : FnOk Try.prog 103 K_specElementsOf := by
  refine fn_ok (fn := Try.f103) (k := Try.f103.ntmps) (E := E_specElementsOf) (facts_of (List.forall_mem_cons.2 ⟨ok_specHasElement, List.forall_mem_nil _⟩)) (by kernel_rfl) rfl (by decide +kernel) (by decide +kernel) ?_
  intro avs hin r h
  unfold K_specElementsOf at h
  split at h
  · obtain ⟨hp, rfl⟩ := gd_o h
    exact ⟨_, ev_specElementsOf _ hp, rfl⟩
  · cases h

/- spec.SetText -/
def K_specSetText : List AV → List Ob → Option (AV × List Ob)
  | [.int .i64 s], [] => gd (True) (.str (setTx s), [])
  | _, _ => none
@[reducible] def E_specSetText : Env := mkE (tb [(59, K_specIsSet), (103, K_specElementsOf)]) (fun f => false) (fun r => bif r == 8 then ([3, 4, 5], [3]) else ([], []))
theorem lp_specSetText (es : List Int) (he : es.length ≤ 8) (he2 : ∀ e ∈ es, 0 ≤ e ∧ e ≤ 7) (k : AX → S → Option (AV × List Ob)) (d : Nat) : ∀ (n i : Nat) (x : Int) (acc : ByteArray), es.length - i = d → i ≤ es.length → x = i → d < n → acc.size ≤ 8 * i →
    lpAt E_specSetText (lp E_specSetText 0 n) 0 (loopAt Try.f90 0) (mkS [3, 4, 5] [.str acc, .own 0, .int .i64 x] [some (.row 3 (.int .i64) es)]) k =
      k (.exit 0) (mkS [3] [.str (addTx (es.drop i) acc)] []) := by
  induction d with
  | zero =>
    intro n i x acc hd hi hx hn hz
    subst hx
    rw [lpAt_def]
    conv => lhs; whnf
    refine br_f (df (by omega)) ?_
    conv => lhs; whnf
    rw [List.drop_of_length_le (by omega), addTx]
  | succ d ih =>
    intro n i x acc hd hi hx hn hz
    obtain ⟨n, rfl⟩ : ∃ m, n = m + 1 := ⟨n - 1, by omega⟩
    subst hx
    have hei := he2 _ (mem_getD (l := es) (i := i) (d := 0) (by omega))
    have hab := abc_size (es.getD i 0).toNat (IntKind.i64.wrap (es.getD i 0 + 1)).toNat
    rw [lpAt_def]
    conv => lhs; whnf
    refine br_t (dt (by omega)) ?_
    conv => lhs; whnf
    refine br_t (dt2 (by omega) (by omega)) ?_
    conv => lhs; whnf
    refine br_t (dt (by omega)) ?_
    conv => lhs; whnf
    refine br_t (dt2 (by omega) (by omega)) ?_
    conv => lhs; whnf
    refine br_t (dt (by omega)) ?_
    conv => lhs; whnf
    refine br_t (by exact abc_slice hei) ?_
    conv => lhs; whnf
    refine br_t (by (refine dt ?_; change acc.size + (abcB.extract (es.getD i 0).toNat (IntKind.i64.wrap (es.getD i 0 + 1)).toNat).size ≤ 9223372036854775807; omega)) ?_
    conv => lhs; whnf
    repeat ((first | with_reducible apply br_tt | with_reducible apply br_ff | with_reducible apply br_nf | with_reducible apply br_nt | with_reducible refine br_d ?_ (by kernel_rfl)); conv => lhs; whnf)
    refine Eq.trans (ih n (i + 1) _ _ (by omega) (by omega) (by rw [wrap64 (n := (i : Int) + 1) (by omega) (by omega)]; simp) (by omega) (by change (acc ++ abcB.extract (es.getD i 0).toNat (IntKind.i64.wrap (es.getD i 0 + 1)).toNat).size ≤ _; rw [ByteArray.size_append]; omega)) ?_
    rw [getD_drop (l := es) (i := i) (d := 0) (by omega), addTx]
    rfl
theorem ev_specSetText (s : Int) (hp : True) : evF E_specSetText (20) Try.f90 [.int .i64 s] [] = some (.str (setTx s), []) := by
  unfold setTx
  conv => lhs; whnf
  conv => lhs; arg 1; whnf
  refine bnd_g (by exact True.intro) ?_
  conv => lhs; whnf
  refine br_c (fun h => ?_) (fun h => ?_)
  · rw [bnt h]
    conv => lhs; whnf
    rfl
  · rw [bnf h]
    conv => lhs; whnf
    refine br_c (fun h2 => ?_) (fun h2 => ?_)
    · have h2' : (s == 0) = true := h2
      rw [h2']
      conv => lhs; whnf
      rfl
    · have h2' : (s == 0) = false := h2
      rw [h2']
      have hel : (elemsF s).length ≤ 8 := elemsL_length _ _ _
      conv => lhs; whnf
      conv => lhs; arg 1; whnf
      refine bnd_g (by exact True.intro) ?_
      conv => lhs; whnf
      refine (lp_specSetText (elemsF s) hel (fun e h => elems_rng h) _ _ _ 0 0 ⟨#[]⟩ rfl (Nat.zero_le _) rfl (by change _ < 19; omega) (Nat.le_refl _)).trans ?_
      conv => lhs; whnf
      rfl
theorem ok_specSetText : FnOk Try.prog 90 K_specSetText := by
  refine fn_ok (fn := Try.f90) (k := Try.f90.ntmps) (E := E_specSetText) (facts_of (List.forall_mem_cons.2 ⟨ok_specIsSet, List.forall_mem_cons.2 ⟨ok_specElementsOf, List.forall_mem_nil _⟩⟩)) (by kernel_rfl) rfl (by decide +kernel) (by decide +kernel) ?_
  intro avs hin r h
  unfold K_specSetText at h
  split at h
  · obtain ⟨hp, rfl⟩ := gd_o h
    exact ⟨_, ev_specSetText _ hp, rfl⟩
  · cases h

/- spec.Join -/
def K_specJoin : List AV → List Ob → Option (AV × List Ob)
  | [.lst .str ys, .str sep], [] => gd (ys.length ≤ 1048576 ∧ okTxt ys = true ∧ sep.size ≤ 16) (.str (joinF ys sep), [])
  | _, _ => none
@[reducible] def E_specJoin : Env := mkE (tb []) (fun f => false) (fun r => bif r == 3 then ([0, 1, 5, 6], [4, 5]) else ([], []))
theorem lp_specJoin (ys : List ByteArray) (sep : ByteArray) (hl : ys.length ≤ 1048576) (hy : ∀ y ∈ ys, y.size ≤ 1048576) (hs : sep.size ≤ 16) (k : AX → S → Option (AV × List Ob)) (r : Option (AV × List Ob)) (hk : ∀ zs, k .ret (mkS [4, 5] [.str ⟨#[]⟩, .own 0] [some (.row 5 (.int .u8) zs)]) = r) (d : Nat) : ∀ (n i : Nat) (x : Int) (zs : List Int), ys.length - i = d → i ≤ ys.length → x = i → d < n → zs.length ≤ 1048576 →
    lpAt E_specJoin (lp E_specJoin 0 n) 0 (loopAt Try.f91 0) (mkS [0, 1, 5, 6] [.lst .str ys, .str sep, .own 0, .int .i64 x] [some (.row 5 (.int .u8) zs)]) k =
      if (zs ++ restI sep i (ys.drop i)).length ≤ 1048576 then k (.exit 0) (mkS [4, 5] [.any, .own 0] [some (.row 5 (.int .u8) (zs ++ restI sep i (ys.drop i)))]) else r := by
  induction d with
  | zero =>
    intro n i x zs hd hi hx hn hz
    subst hx
    rw [lpAt_def]
    conv => lhs; whnf
    refine br_f (df (by omega)) ?_
    conv => lhs; whnf
    rw [List.drop_of_length_le (by omega), restI, List.append_nil, if_pos hz]
  | succ d ih =>
    intro n i x zs hd hi hx hn hz
    obtain ⟨n, rfl⟩ : ∃ m, n = m + 1 := ⟨n - 1, by omega⟩
    subst hx
    have hyi := hy _ (mem_getD (l := ys) (i := i) (d := ByteArray.empty) (by omega))
    have l1 := strInts_len (ys.getD i ByteArray.empty)
    have l2 := strInts_len sep
    rw [getD_drop (l := ys) (i := i) (d := ByteArray.empty) (by omega), restI, lpAt_def]
    conv => lhs; whnf
    refine br_t (dt (by omega)) ?_
    conv => lhs; whnf
    refine br_c (fun h => ?_) (fun h => ?_)
    · have h' := ofd h
      have h' : 0 < i := by omega
      conv => lhs; whnf
      refine br_t (dt (by change (zs.length + (strInts sep).length) * 1 ≤ 140737488355328; omega)) ?_
      conv => lhs; whnf
      refine br_t (dt2 (by omega) (by omega)) ?_
      conv => lhs; whnf
      refine br_t (dt (by change ((zs ++ strInts sep).length + (strInts (ys.getD i ByteArray.empty)).length) * 1 ≤ 140737488355328; rw [List.length_append]; omega)) ?_
      conv => lhs; whnf
      rw [if_pos h']
      refine br_c (fun h2 => ?_) (fun h2 => ?_)
      · have h2' := ofd h2
        have h2' : (((zs ++ strInts sep) ++ strInts (ys.getD i ByteArray.empty)).length : Int) > 1048576 := h2'
        conv => lhs; whnf
        rw [if_neg (by simp only [List.length_append] at h2' ⊢; omega)]
        exact hk _
      · have h2' := ofn h2
        have h2' : ¬ (((zs ++ strInts sep) ++ strInts (ys.getD i ByteArray.empty)).length : Int) > 1048576 := h2'
        conv => lhs; whnf
        refine Eq.trans (ih n (i + 1) _ _ (by omega) (by omega) (by rw [wrap64 (n := (i : Int) + 1) (by omega) (by omega)]; simp) (by omega) (by omega)) ?_
        simp only [List.append_assoc]
        rfl
    · have h' := ofn h
      have h' : ¬ 0 < i := by omega
      conv => lhs; whnf
      refine br_t (dt2 (by omega) (by omega)) ?_
      conv => lhs; whnf
      refine br_t (dt (by change (zs.length + (strInts (ys.getD i ByteArray.empty)).length) * 1 ≤ 140737488355328; omega)) ?_
      conv => lhs; whnf
      rw [if_neg h', List.nil_append]
      refine br_c (fun h2 => ?_) (fun h2 => ?_)
      · have h2' := ofd h2
        have h2' : ((zs ++ strInts (ys.getD i ByteArray.empty)).length : Int) > 1048576 := h2'
        conv => lhs; whnf
        rw [if_neg (by simp only [List.length_append] at h2' ⊢; omega)]
        exact hk _
      · have h2' := ofn h2
        have h2' : ¬ ((zs ++ strInts (ys.getD i ByteArray.empty)).length : Int) > 1048576 := h2'
        conv => lhs; whnf
        refine Eq.trans (ih n (i + 1) _ _ (by omega) (by omega) (by rw [wrap64 (n := (i : Int) + 1) (by omega) (by omega)]; simp) (by omega) (by omega)) ?_
        simp only [List.append_assoc]
        rfl
theorem ev_specJoin (ys : List ByteArray) (sep : ByteArray) (hp : ys.length ≤ 1048576 ∧ okTxt ys = true ∧ sep.size ≤ 16) : evF E_specJoin (ys.length + 2) Try.f91 [.lst .str ys, .str sep] [] = some (.str (joinF ys sep), []) := by
  obtain ⟨h1, h2, h3⟩ := hp
  have hy := okTxt_iff.1 h2
  conv => lhs; whnf
  refine (lp_specJoin ys sep h1 hy h3 _ _ (fun zs => rfl) ys.length _ 0 0 [] rfl (Nat.zero_le _) rfl (by omega) (by simp)).trans ?_
  rw [List.nil_append, List.drop_zero, restI_len]
  unfold joinF
  split
  · conv => lhs; whnf
    rw [intsStr_join]
  · rfl
theorem ok_specJoin : FnOk Try.prog 91 K_specJoin := by
  refine fn_ok (fn := Try.f91) (k := Try.f91.ntmps) (E := E_specJoin) (facts_of (List.forall_mem_nil _)) (by kernel_rfl) rfl (by decide +kernel) (by decide +kernel) ?_
  intro avs hin r h
  unfold K_specJoin at h
  split at h
  · obtain ⟨hp, rfl⟩ := gd_o h
    exact ⟨_, ev_specJoin _ _ hp, rfl⟩
  · cases h

/- spec.SetsText -/
def K_specSetsText : List AV → List Ob → Option (AV × List Ob)
  | [.lst (.int .i64) a], [] => gd (a.length ≤ 1048576) (.str (setsTx a), [])
  | _, _ => none
@[reducible] def E_specSetsText : Env := mkE (tb [(89, K_l2Sets), (90, K_specSetText), (91, K_specJoin)]) (fun f => false) (fun r => bif r == 7 then ([0, 3, 4], [3]) else ([], []))
theorem lp_specSetsText (a : List Int) (ha : a.length ≤ 1048576) (k : AX → S → Option (AV × List Ob)) (d : Nat) : ∀ (n i : Nat) (x : Int) (zs : List ByteArray), a.length - i = d → i ≤ a.length → x = i → d < n → zs.length ≤ i →
    lpAt E_specSetsText (lp E_specSetsText 0 n) 0 (loopAt Try.f69 0) (mkS [0, 3, 4] [.lst (.int .i64) a, .own 0, .int .i64 x] [some (.row 9 .str zs)]) k =
      k (.exit 0) (mkS [3] [.own 0] [some (.row 9 .str (zs ++ (a.drop i).map setTx))]) := by
  induction d with
  | zero =>
    intro n i x zs hd hi hx hn hz
    subst hx
    rw [lpAt_def]
    conv => lhs; whnf
    refine br_f (df (by omega)) ?_
    conv => lhs; whnf
    rw [List.drop_of_length_le (by omega)]
    simp
  | succ d ih =>
    intro n i x zs hd hi hx hn hz
    obtain ⟨n, rfl⟩ : ∃ m, n = m + 1 := ⟨n - 1, by omega⟩
    subst hx
    rw [lpAt_def]
    conv => lhs; whnf
    refine br_t (dt (by omega)) ?_
    conv => lhs; whnf
    refine br_t (dt2 (by omega) (by omega)) ?_
    conv => lhs; whnf
    conv => lhs; arg 1; whnf
    refine bnd_g (by exact True.intro) ?_
    conv => lhs; whnf
    refine br_t (dt (by simp [room]; omega)) ?_
    conv => lhs; whnf
    repeat ((first | with_reducible apply br_tt | with_reducible apply br_ff | with_reducible apply br_nf | with_reducible apply br_nt | with_reducible refine br_d ?_ (by kernel_rfl)); conv => lhs; whnf)
    rw [getD_drop (l := a) (i := i) (d := 0) (by omega), List.map_cons]
    refine Eq.trans (ih n (i + 1) _ _ (by omega) (by omega) (by rw [wrap64 (n := (i : Int) + 1) (by omega) (by omega)]; simp) (by omega) (by simp; omega)) ?_
    simp only [List.append_assoc]
    rfl
theorem ev_specSetsText (a : List Int) (hp : a.length ≤ 1048576) : evF E_specSetsText (a.length + 2) Try.f69 [.lst (.int .i64) a] [] = some (.str (setsTx a), []) := by
  have hlen : (a.map setTx).length = a.length := List.length_map _
  unfold setsTx
  conv => lhs; whnf
  conv => lhs; arg 1; whnf
  refine bnd_g (by exact hp) ?_
  conv => lhs; whnf
  refine br_c (fun h => ?_) (fun h => ?_)
  · rw [bnt h]
    conv => lhs; whnf
    rfl
  · rw [bnf h]
    conv => lhs; whnf
    refine br_c (fun h2 => ?_) (fun h2 => ?_)
    · have h' : ((a.length : Int) == 0) = true := h2
      rw [h']
      conv => lhs; whnf
      rfl
    · have h' : ((a.length : Int) == 0) = false := h2
      rw [h']
      conv => lhs; whnf
      refine (lp_specSetsText a hp _ a.length _ 0 0 [] rfl (Nat.zero_le _) rfl (by omega) (by simp)).trans ?_
      rw [List.drop_zero, List.nil_append]
      conv => lhs; whnf
      conv => lhs; arg 1; whnf
      refine bnd_g (by exact ⟨by omega, setTx_ok a, by decide⟩) ?_
      conv => lhs; whnf
      rfl
theorem ok_specSetsText : FnOk Try.prog 69 K_specSetsText := by
  refine fn_ok (fn := Try.f69) (k := Try.f69.ntmps) (E := E_specSetsText) (facts_of (List.forall_mem_cons.2 ⟨ok_l2Sets, List.forall_mem_cons.2 ⟨ok_specSetText, List.forall_mem_cons.2 ⟨ok_specJoin, List.forall_mem_nil _⟩⟩⟩)) (by kernel_rfl) rfl (by decide +kernel) (by decide +kernel) ?_
  intro avs hin r h
  unfold K_specSetsText at h
  split at h
  · obtain ⟨hp, rfl⟩ := gd_o h
    exact ⟨_, ev_specSetsText _ hp, rfl⟩
  · cases h

/- spec.OrderText -/
def K_specOrderText : List AV → List Ob → Option (AV × List Ob)
  | [.agg [.lst (.int .i64) a]], [] => gd (a.length ≤ 1048576) (.str (ordTx a), [])
  | _, _ => none
@[reducible] def E_specOrderText : Env := mkE (tb [(68, K_specIsOrder), (69, K_specSetsText)]) (fun f => false) (fun r => ([], []))
theorem ev_specOrderText (a : List Int) (hp : a.length ≤ 1048576) : evF E_specOrderText (1) Try.f39 [.agg [.lst (.int .i64) a]] [] = some (.str (ordTx a), []) := by
  unfold ordTx
  conv => lhs; whnf
  conv => lhs; arg 1; whnf
  refine bnd_g (by omega) ?_
  conv => lhs; whnf
  refine br_c (fun h => ?_) (fun h => ?_)
  · rw [bnt h]
    conv => lhs; whnf
    rfl
  · rw [bnf h]
    conv => lhs; whnf
    conv => lhs; arg 1; whnf
    refine bnd_g (by exact hp) ?_
    conv => lhs; whnf
    rfl
theorem ok_specOrderText : FnOk Try.prog 39 K_specOrderText := by
  refine fn_ok (fn := Try.f39) (k := Try.f39.ntmps) (E := E_specOrderText) (facts_of (List.forall_mem_cons.2 ⟨ok_specIsOrder, List.forall_mem_cons.2 ⟨ok_specSetsText, List.forall_mem_nil _⟩⟩)) (by kernel_rfl) rfl (by decide +kernel) (by decide +kernel) ?_
  intro avs hin r h
  unfold K_specOrderText at h
  split at h
  · obtain ⟨hp, rfl⟩ := gd_o h
    exact ⟨_, ev_specOrderText _ hp, rfl⟩
  · cases h

/- impl.within -/
def K_within : List AV → List Ob → Option (AV × List Ob)
  | [.int .i64 n, .int .i64 l, .int .i64 h], [] => gd (True) (.bool (decide (l ≤ n ∧ n ≤ h)), [])
  | _, _ => none
@[reducible] def E_within : Env := mkE (tb []) (fun f => false) (fun r => ([], []))
theorem ev_within (n l h : Int) (hp : True) : evF E_within (1) Try.f76 [.int .i64 n, .int .i64 l, .int .i64 h] [] = some (.bool (decide (l ≤ n ∧ n ≤ h)), []) := by
  conv => lhs; whnf
  refine br_c (fun h1 => ?_) (fun h1 => ?_)
  · conv => lhs; whnf
    repeat ((first | with_reducible apply br_tt | with_reducible apply br_ff | with_reducible apply br_nf | with_reducible apply br_nt | with_reducible refine br_d ?_ (by kernel_rfl) | with_reducible apply br_t h1 | with_reducible apply br_f h1); conv => lhs; whnf)
    have := ofd h1
    simp [this]
  · conv => lhs; whnf
    repeat ((first | with_reducible apply br_tt | with_reducible apply br_ff | with_reducible apply br_nf | with_reducible apply br_nt | with_reducible refine br_d ?_ (by kernel_rfl) | with_reducible apply br_t h1 | with_reducible apply br_f h1); conv => lhs; whnf)
    have := ofn h1
    simp [this]
theorem ok_within : FnOk Try.prog 76 K_within := by
  refine fn_ok (fn := Try.f76) (k := Try.f76.ntmps) (E := E_within) (facts_of (List.forall_mem_nil _)) (by kernel_rfl) rfl (by decide +kernel) (by decide +kernel) ?_
  intro avs hin r h
  unfold K_within at h
  split at h
  · obtain ⟨hp, rfl⟩ := gd_o h
    exact ⟨_, ev_within _ _ _ hp, rfl⟩
  · cases h

/- impl.IsSet -/
def K_implIsSet : List AV → List Ob → Option (AV × List Ob)
  | [.int .i64 n, .int .i64 s], [] => gd (True) (.bool (isSet n s), [])
  | _, _ => none
@[reducible] def E_implIsSet : Env := mkE (tb [(76, K_within)]) (fun f => false) (fun r => ([], []))
theorem ev_implIsSet (n s : Int) (hp : True) : evF E_implIsSet (1) Try.f62 [.int .i64 n, .int .i64 s] [] = some (.bool (isSet n s), []) := by
  conv => lhs; whnf
  conv => lhs; arg 1; whnf
  refine bnd_g (by exact True.intro) ?_
  conv => lhs; whnf
  refine br_c (fun h => ?_) (fun h => ?_)
  · conv => lhs; whnf
    have h8 := ofd h
    repeat ((first | with_reducible apply br_tt | with_reducible apply br_ff | with_reducible apply br_nf | with_reducible apply br_nt | with_reducible refine br_d ?_ (by kernel_rfl) | with_reducible apply br_t h | with_reducible apply br_f h); conv => lhs; whnf)
    refine br_f (df (by omega)) ?_
    conv => lhs; whnf
    repeat ((first | with_reducible apply br_tt | with_reducible apply br_ff | with_reducible apply br_nf | with_reducible apply br_nt | with_reducible refine br_d ?_ (by kernel_rfl) | with_reducible apply br_t h | with_reducible apply br_f h); conv => lhs; whnf)
    conv => lhs; arg 1; whnf
    refine bnd_g (by exact True.intro) ?_
    conv => lhs; whnf
    repeat ((first | with_reducible apply br_tt | with_reducible apply br_ff | with_reducible apply br_nf | with_reducible apply br_nt | with_reducible refine br_d ?_ (by kernel_rfl) | with_reducible apply br_t h | with_reducible apply br_f h); conv => lhs; whnf)
    refine okB ?_
    unfold isSet
    refine decide_eq_decide.2 ?_
    rw [shl_set h8.1 h8.2]
    exact ⟨fun h => ⟨h8, h⟩, fun h => h.2⟩
  · conv => lhs; whnf
    repeat ((first | with_reducible apply br_tt | with_reducible apply br_ff | with_reducible apply br_nf | with_reducible apply br_nt | with_reducible refine br_d ?_ (by kernel_rfl) | with_reducible apply br_t h | with_reducible apply br_f h); conv => lhs; whnf)
    have h8 := ofn h
    simp [isSet, h8]
theorem ok_implIsSet : FnOk Try.prog 62 K_implIsSet := by
  refine fn_ok (fn := Try.f62) (k := Try.f62.ntmps) (E := E_implIsSet) (facts_of (List.forall_mem_cons.2 ⟨ok_within, List.forall_mem_nil _⟩)) (by kernel_rfl) rfl (by decide +kernel) (by decide +kernel) ?_
  intro avs hin r h
  unfold K_implIsSet at h
  split at h
  · obtain ⟨hp, rfl⟩ := gd_o h
    exact ⟨_, ev_implIsSet _ _ hp, rfl⟩
  · cases h

/- impl.isAnySet -/
def K_isAnySet : List AV → List Ob → Option (AV × List Ob)
  | [.int .i64 s], [] => gd (True) (.bool (isSet 8 s), [])
  | _, _ => none
@[reducible] def E_isAnySet : Env := mkE (tb [(62, K_implIsSet)]) (fun f => false) (fun r => ([], []))
theorem ev_isAnySet (s : Int) (hp : True) : evF E_isAnySet (1) Try.f75 [.int .i64 s] [] = some (.bool (isSet 8 s), []) := by
  conv => lhs; whnf
  conv => lhs; arg 1; whnf
  refine bnd_g (by exact True.intro) ?_
  conv => lhs; whnf
theorem ok_isAnySet : FnOk Try.prog 75 K_isAnySet := by
  refine fn_ok (fn := Try.f75) (k := Try.f75.ntmps) (E := E_isAnySet) (facts_of (List.forall_mem_cons.2 ⟨ok_implIsSet, List.forall_mem_nil _⟩)) (by kernel_rfl) rfl (by decide +kernel) (by decide +kernel) ?_
  intro avs hin r h
  unfold K_isAnySet at h
  split at h
  · obtain ⟨hp, rfl⟩ := gd_o h
    exact ⟨_, ev_isAnySet _ hp, rfl⟩
  · cases h

/- impl.HasElement -/
def K_hasElement : List AV → List Ob → Option (AV × List Ob)
  | [.int .i64 s, .int .i64 e], [] => gd (True) (.bool (hasE s e), [])
  | _, _ => none
@[reducible] def E_hasElement : Env := mkE (tb [(75, K_isAnySet), (76, K_within)]) (fun f => false) (fun r => ([], []))
theorem ev_hasElement (s e : Int) (hp : True) : evF E_hasElement (1) Try.f46 [.int .i64 s, .int .i64 e] [] = some (.bool (hasE s e), []) := by
  conv => lhs; whnf
  conv => lhs; arg 1; whnf
  refine bnd_g (by exact True.intro) ?_
  conv => lhs; whnf
  refine br_c (fun h => ?_) (fun h => ?_)
  · conv => lhs; whnf
    repeat ((first | with_reducible apply br_tt | with_reducible apply br_ff | with_reducible apply br_nf | with_reducible apply br_nt | with_reducible refine br_d ?_ (by kernel_rfl) | with_reducible apply br_t h | with_reducible apply br_f h); conv => lhs; whnf)
    conv => lhs; arg 1; whnf
    refine bnd_g (by exact True.intro) ?_
    conv => lhs; whnf
    repeat ((first | with_reducible apply br_tt | with_reducible apply br_ff | with_reducible apply br_nf | with_reducible apply br_nt | with_reducible refine br_d ?_ (by kernel_rfl) | with_reducible apply br_t h | with_reducible apply br_f h); conv => lhs; whnf)
    refine br_c (fun h2 => ?_) (fun h2 => ?_)
    · conv => lhs; whnf
      repeat ((first | with_reducible apply br_tt | with_reducible apply br_ff | with_reducible apply br_nf | with_reducible apply br_nt | with_reducible refine br_d ?_ (by kernel_rfl) | with_reducible apply br_t h | with_reducible apply br_f h | with_reducible apply br_t h2 | with_reducible apply br_f h2); conv => lhs; whnf)
      have h2' := ofd h2
      refine br_f (df (by omega)) ?_
      conv => lhs; whnf
      repeat ((first | with_reducible apply br_tt | with_reducible apply br_ff | with_reducible apply br_nf | with_reducible apply br_nt | with_reducible refine br_d ?_ (by kernel_rfl) | with_reducible apply br_t h | with_reducible apply br_f h | with_reducible apply br_t h2 | with_reducible apply br_f h2); conv => lhs; whnf)
      refine okB ?_
      have hs := isSet_le h
      unfold hasE
      rw [h, h2, Bool.true_and, Bool.true_and]
      exact bit_of (by omega) (by omega) (by omega) (by omega)
    · conv => lhs; whnf
      repeat ((first | with_reducible apply br_tt | with_reducible apply br_ff | with_reducible apply br_nf | with_reducible apply br_nt | with_reducible refine br_d ?_ (by kernel_rfl) | with_reducible apply br_t h | with_reducible apply br_f h | with_reducible apply br_t h2 | with_reducible apply br_f h2); conv => lhs; whnf)
      refine okB ?_
      unfold hasE
      rw [h, h2]
      rfl
  · conv => lhs; whnf
    repeat ((first | with_reducible apply br_tt | with_reducible apply br_ff | with_reducible apply br_nf | with_reducible apply br_nt | with_reducible refine br_d ?_ (by kernel_rfl) | with_reducible apply br_t h | with_reducible apply br_f h); conv => lhs; whnf)
    refine okB ?_
    unfold hasE
    rw [h]
    rfl
theorem ok_hasElement : FnOk Try.prog 46 K_hasElement := by
  refine fn_ok (fn := Try.f46) (k := Try.f46.ntmps) (E := E_hasElement) (facts_of (List.forall_mem_cons.2 ⟨ok_isAnySet, List.forall_mem_cons.2 ⟨ok_within, List.forall_mem_nil _⟩⟩)) (by kernel_rfl) rfl (by decide +kernel) (by decide +kernel) ?_
  intro avs hin r h
  unfold K_hasElement at h
  split at h
  · obtain ⟨hp, rfl⟩ := gd_o h
    exact ⟨_, ev_hasElement _ _ hp, rfl⟩
  · cases h

/- impl.ElementsOf -/
def K_elementsOf : List AV → List Ob → Option (AV × List Ob)
  | [.int .i64 s], [] => gd (True) (.own 0, [.row 3 (.int .i64) (elemsF s)])
  | _, _ => none
@[reducible] def E_elementsOf : Env := mkE (tb [(46, K_hasElement)]) (fun f => false) (fun r => bif r == 3 then ([0, 3, 6], [3]) else ([], []))
theorem lp_elementsOf (s : Int) (k : AX → S → Option (AV × List Ob)) (d : Nat) : ∀ (n i : Nat) (x : Int) (ys : List Int), 8 - i = d → i ≤ 8 → x = i → d < n → ys.length ≤ i →
    lpAt E_elementsOf (lp E_elementsOf 0 n) 0 (loopAt Try.f63 0) (mkS [0, 3, 6] [.int .i64 s, .own 0, .int .i64 x] [some (.row 3 (.int .i64) ys)]) k =
      k (.exit 0) (mkS [3] [.own 0] [some (.row 3 (.int .i64) (ys ++ elemsL s d i))]) := by
  induction d with
  | zero =>
    intro n i x ys hd hi hx hn hl
    subst hx
    rw [lpAt_def]
    conv => lhs; whnf
    refine br_f (df (by omega)) ?_
    conv => lhs; whnf
    rw [elemsL, List.append_nil]
  | succ d ih =>
    intro n i x ys hd hi hx hn hl
    obtain ⟨n, rfl⟩ : ∃ m, n = m + 1 := ⟨n - 1, by omega⟩
    subst hx
    rw [lpAt_def]
    conv => lhs; whnf
    refine br_t (dt (by omega)) ?_
    conv => lhs; whnf
    conv => lhs; arg 1; whnf
    refine bnd_g (by exact True.intro) ?_
    conv => lhs; whnf
    refine br_c (fun h => ?_) (fun h => ?_)
    · conv => lhs; whnf
      refine br_t (dt (by simp [room]; omega)) ?_
      conv => lhs; whnf
      rw [ih n (i + 1) _ _ (by omega) (by omega) (by rw [wrap64 (by omega) (by omega)]; simp) (by omega) (by simp; omega)]
      rw [elemsL, h, cond_true]
      simp
    · conv => lhs; whnf
      rw [ih n (i + 1) _ _ (by omega) (by omega) (by rw [wrap64 (by omega) (by omega)]; simp) (by omega) (by omega)]
      rw [elemsL, h, cond_false]
theorem ev_elementsOf (s : Int) (hp : True) : evF E_elementsOf (20) Try.f63 [.int .i64 s] [] = some (.own 0, [.row 3 (.int .i64) (elemsF s)]) := by
  conv => lhs; whnf
  refine (lp_elementsOf s _ 8 _ 0 0 _ rfl (by omega) rfl (by decide) (by simp)).trans ?_
  conv => lhs; whnf
  rfl
theorem ok_elementsOf : FnOk Try.prog 63 K_elementsOf := by
  refine fn_ok (fn := Try.f63) (k := Try.f63.ntmps) (E := E_elementsOf) (facts_of (List.forall_mem_cons.2 ⟨ok_hasElement, List.forall_mem_nil _⟩)) (by kernel_rfl) rfl (by decide +kernel) (by decide +kernel) ?_
  intro avs hin r h
  unfold K_elementsOf at h
  split at h
  · obtain ⟨hp, rfl⟩ := gd_o h
    exact ⟨_, ev_elementsOf _ hp, rfl⟩
  · cases h

/- impl.inSet -/
def K_inSet : List AV → List Ob → Option (AV × List Ob)
  | [.int .i64 a, .int .i64 b], [] => gd (True) (.bool (bnot a b == 0), [])
  | _, _ => none
@[reducible] def E_inSet : Env := mkE (tb []) (fun f => false) (fun r => ([], []))
theorem ev_inSet (a b : Int) (hp : True) : evF E_inSet (1) Try.f92 [.int .i64 a, .int .i64 b] [] = some (.bool (bnot a b == 0), []) := by
  conv => lhs; whnf
  rfl
theorem ok_inSet : FnOk Try.prog 92 K_inSet := by
  refine fn_ok (fn := Try.f92) (k := Try.f92.ntmps) (E := E_inSet) (facts_of (List.forall_mem_nil _)) (by kernel_rfl) rfl (by decide +kernel) (by decide +kernel) ?_
  intro avs hin r h
  unfold K_inSet at h
  split at h
  · obtain ⟨hp, rfl⟩ := gd_o h
    exact ⟨_, ev_inSet _ _ hp, rfl⟩
  · cases h

/- impl.IsOrder -/
def K_implIsOrder : List AV → List Ob → Option (AV × List Ob)
  | [.agg [.lst (.int .i64) b]], [] => gd (b.length < 4611686018427387904) (.bool (isOrd b), [])
  | _, _ => none
@[reducible] def E_implIsOrder : Env := mkE (tb [(62, K_implIsSet), (46, K_hasElement), (63, K_elementsOf), (92, K_inSet)]) (fun f => false) (fun r => bif r == 5 then ([1, 3, 16, 17, 18], [1, 2]) else bif r == 11 then ([1, 35, 36, 37], [1, 2, 35, 36, 37]) else bif r == 14 then ([1, 6, 7, 35, 36, 37, 43, 44, 45], [1, 2, 35, 36, 37]) else ([], []))
theorem lp_implIsOrder (b : List Int) (hb : b.length ≤ 6) (k : AX → S → Option (AV × List Ob)) (r : Option (AV × List Ob)) (hk : k .ret (mkS [1, 2] [.ptr 0 0, .bool false] [some (.box 30 [.lst (.int .i64) b])]) = r) (d : Nat) : ∀ (n i : Nat) (x : Int), b.length - i = d → i ≤ b.length → x = i → d < n →
    lpAt E_implIsOrder (lp E_implIsOrder 0 n) 0 (loopAt Try.f70 0) (mkS [1, 3, 16, 17, 18] [.ptr 0 0, .int .i64 b.length, .lst (.int .i64) b, .int .i64 b.length, .int .i64 x] [some (.box 30 [.lst (.int .i64) b])]) k =
      if allB (ordA b) d i then k (.exit 0) (mkS [1, 2] [.ptr 0 0, .any] [some (.box 30 [.lst (.int .i64) b])]) else r := by
  induction d with
  | zero =>
    intro n i x hd hi hx hn
    subst hx
    rw [lpAt_def]
    conv => lhs; whnf
    refine br_f (df (by omega)) ?_
    conv => lhs; whnf
    rfl
  | succ d ih =>
    intro n i x hd hi hx hn
    obtain ⟨n, rfl⟩ : ∃ m, n = m + 1 := ⟨n - 1, by omega⟩
    subst hx
    rw [lpAt_def]
    conv => lhs; whnf
    refine br_t (dt (by omega)) ?_
    conv => lhs; whnf
    refine br_t (dt2 (by omega) (by omega)) ?_
    conv => lhs; whnf
    conv => lhs; arg 1; whnf
    refine bnd_g (by exact True.intro) ?_
    conv => lhs; whnf
    refine br_c (fun h => ?_) (fun h => ?_)
    · have h' : isSet b.length (b.getD i 0) = false := bnt h
      conv => lhs; whnf
      repeat ((first | with_reducible apply br_tt | with_reducible apply br_ff | with_reducible apply br_nf | with_reducible apply br_nt | with_reducible refine br_d ?_ (by kernel_rfl) | with_reducible apply br_t h | with_reducible apply br_f h | with_reducible refine br_t (dt2 (by omega) (by omega)) ?_); conv => lhs; whnf)
      have e : ordA b i = false := by
        unfold ordA
        rw [h']
        rfl
      rw [if_neg (by rw [allB, e]; exact Bool.false_ne_true)]
      exact hk
    · have h' : isSet b.length (b.getD i 0) = true := bnf h
      have hl := isSet_le h'
      have hE : hasE (b.getD i 0) i = bitI (b.getD i 0) i := hasE_bit (isSet_8 h') (by omega) (by omega)
      conv => lhs; whnf
      repeat ((first | with_reducible apply br_tt | with_reducible apply br_ff | with_reducible apply br_nf | with_reducible apply br_nt | with_reducible refine br_d ?_ (by kernel_rfl) | with_reducible apply br_t h | with_reducible apply br_f h | with_reducible refine br_t (dt2 (by omega) (by omega)) ?_); conv => lhs; whnf)
      conv => lhs; arg 1; whnf
      refine bnd_g (by exact True.intro) ?_
      conv => lhs; whnf
      repeat ((first | with_reducible apply br_tt | with_reducible apply br_ff | with_reducible apply br_nf | with_reducible apply br_nt | with_reducible refine br_d ?_ (by kernel_rfl) | with_reducible apply br_t h | with_reducible apply br_f h | with_reducible refine br_t (dt2 (by omega) (by omega)) ?_); conv => lhs; whnf)
      refine br_c (fun h2 => ?_) (fun h2 => ?_)
      · conv => lhs; whnf
        have e : ordA b i = false := by
          unfold ordA
          rw [← hE, show hasE (b.getD i 0) i = false from bnt h2, Bool.and_false]
        rw [if_neg (by rw [allB, e]; exact Bool.false_ne_true)]
        exact hk
      · conv => lhs; whnf
        rw [ih n (i + 1) _ (by omega) (by omega) (by rw [wrap64 (by omega) (by omega)]; simp) (by omega)]
        have e : ordA b i = true := by
          unfold ordA
          rw [h', ← hE, show hasE (b.getD i 0) i = true from bnf h2]
          rfl
        rw [allB, e, Bool.true_and]

theorem lq_implIsOrder (b : List Int) (hb : b.length ≤ 6) (a : Nat) (ha : a < b.length) (s : Int) (l : List Int) (hl : l.length ≤ 8) (hm : ∀ x ∈ l, 0 ≤ x ∧ x < b.length ∧ x ≤ 7) (k : AX → S → Option (AV × List Ob)) (r : Option (AV × List Ob))
    (hk : k .ret (mkS [1, 2, 35, 36, 37] [.ptr 0 0, .bool false, .lst (.int .i64) b, .int .i64 b.length, .int .i64 (a : Int)] [some (.box 30 [.lst (.int .i64) b])]) = r) (d : Nat) : ∀ (n i : Nat) (x : Int), l.length - i = d → i ≤ l.length → x = i → d < n →
    lpAt E_implIsOrder (lp E_implIsOrder 0 n) 0 (loopAt Try.f70 2) (mkS [1, 6, 7, 35, 36, 37, 43, 44, 45] [.ptr 0 0, .int .i64 (a : Int), .int .i64 s, .lst (.int .i64) b, .int .i64 b.length, .int .i64 (a : Int), .own 1, .int .i64 l.length, .int .i64 x] [some (.box 30 [.lst (.int .i64) b]), some (.row 3 (.int .i64) l)]) k =
      if (l.drop i).any (pairBad b a s) then r else k (.exit 4) (mkS [1, 2, 35, 36, 37] [.ptr 0 0, .any, .lst (.int .i64) b, .int .i64 b.length, .int .i64 (a : Int)] [some (.box 30 [.lst (.int .i64) b])]) := by
  induction d with
  | zero =>
    intro n i x hd hi hx hn
    subst hx
    rw [lpAt_def]
    conv => lhs; whnf
    refine br_f (df (by omega)) ?_
    conv => lhs; whnf
    rw [List.drop_of_length_le (by omega)]
    rfl
  | succ d ih =>
    intro n i x hd hi hx hn
    obtain ⟨n, rfl⟩ : ∃ m, n = m + 1 := ⟨n - 1, by omega⟩
    subst hx
    have hx := hm _ (mem_getD (d := 0) (show i < l.length by omega))
    rw [lpAt_def]
    conv => lhs; whnf
    refine br_t (dt (by omega)) ?_
    conv => lhs; whnf
    repeat ((first | with_reducible apply br_tt | with_reducible apply br_ff | with_reducible apply br_nf | with_reducible apply br_nt | with_reducible refine br_d ?_ (by kernel_rfl) | with_reducible refine br_t (dt2 (by omega) (by omega)) ?_); conv => lhs; whnf)
    refine br_t (dt (by omega)) ?_
    conv => lhs; whnf
    refine br_t (dt2 hx.1 hx.2.1) ?_
    conv => lhs; whnf
    conv => lhs; arg 1; whnf
    refine bnd_g (by exact True.intro) ?_
    conv => lhs; whnf
    rw [getD_drop (l := l) (i := i) (d := 0) (by omega)]
    have bad : pairBad b a s (l.getD i 0) = true → (if (l.getD i 0 :: l.drop (i + 1)).any (pairBad b a s) then r else k (.exit 4) (mkS [1, 2, 35, 36, 37] [.ptr 0 0, .any, .lst (.int .i64) b, .int .i64 b.length, .int .i64 (a : Int)] [some (.box 30 [.lst (.int .i64) b])])) = r := by
      intro h
      rw [List.any_cons, h]
      rfl
    have good : pairBad b a s (l.getD i 0) = false → (l.getD i 0 :: l.drop (i + 1)).any (pairBad b a s) = (l.drop (i + 1)).any (pairBad b a s) := by
      intro h
      rw [List.any_cons, h]
      rfl
    refine br_c (fun h => ?_) (fun h => ?_)
    · conv => lhs; whnf
      repeat ((first | with_reducible apply br_tt | with_reducible apply br_ff | with_reducible apply br_nf | with_reducible apply br_nt | with_reducible refine br_d ?_ (by kernel_rfl) | with_reducible apply br_t h | with_reducible apply br_f h | with_reducible refine br_t (dt2 (by omega) (by omega)) ?_); conv => lhs; whnf)
      rw [bad (by unfold pairBad; rw [show (!(bnot (b.getD (l.getD i 0).toNat 0) s == 0)) = true from h]; rfl)]
      exact hk
    · conv => lhs; whnf
      repeat ((first | with_reducible apply br_tt | with_reducible apply br_ff | with_reducible apply br_nf | with_reducible apply br_nt | with_reducible refine br_d ?_ (by kernel_rfl) | with_reducible apply br_t h | with_reducible apply br_f h | with_reducible refine br_t (dt2 (by omega) (by omega)) ?_); conv => lhs; whnf)
      refine br_c (fun h2 => ?_) (fun h2 => ?_)
      · conv => lhs; whnf
        repeat ((first | with_reducible apply br_tt | with_reducible apply br_ff | with_reducible apply br_nf | with_reducible apply br_nt | with_reducible refine br_d ?_ (by kernel_rfl) | with_reducible apply br_t h | with_reducible apply br_f h | with_reducible apply br_t h2 | with_reducible apply br_f h2 | with_reducible refine br_t (dt2 (by omega) (by omega)) ?_); conv => lhs; whnf)
        refine br_t (dt2 hx.1 hx.2.1) ?_
        conv => lhs; whnf
        repeat ((first | with_reducible apply br_tt | with_reducible apply br_ff | with_reducible apply br_nf | with_reducible apply br_nt | with_reducible refine br_d ?_ (by kernel_rfl) | with_reducible apply br_t h | with_reducible apply br_f h | with_reducible apply br_t h2 | with_reducible apply br_f h2 | with_reducible refine br_t (dt2 (by omega) (by omega)) ?_); conv => lhs; whnf)
        conv => lhs; arg 1; whnf
        refine bnd_g (by exact True.intro) ?_
        conv => lhs; whnf
        repeat ((first | with_reducible apply br_tt | with_reducible apply br_ff | with_reducible apply br_nf | with_reducible apply br_nt | with_reducible refine br_d ?_ (by kernel_rfl) | with_reducible apply br_t h | with_reducible apply br_f h | with_reducible apply br_t h2 | with_reducible apply br_f h2 | with_reducible refine br_t (dt2 (by omega) (by omega)) ?_); conv => lhs; whnf)
        have e2 : decide (l.getD i 0 ≠ (a : Int)) = true := by simpa using h2
        refine br_c (fun h3 => ?_) (fun h3 => ?_)
        · conv => lhs; whnf
          rw [bad (by unfold pairBad; rw [e2, show hasE (b.getD (l.getD i 0).toNat 0) a = true from h3, Bool.true_and, Bool.or_true])]
          exact hk
        · conv => lhs; whnf
          rw [ih n (i + 1) _ (by omega) (by omega) (by rw [wrap64 (by omega) (by omega)]; simp) (by omega)]
          rw [good (by unfold pairBad; rw [e2, show hasE (b.getD (l.getD i 0).toNat 0) a = false from h3, show (!(bnot (b.getD (l.getD i 0).toNat 0) s == 0)) = false from h]; rfl)]
      · conv => lhs; whnf
        repeat ((first | with_reducible apply br_tt | with_reducible apply br_ff | with_reducible apply br_nf | with_reducible apply br_nt | with_reducible refine br_d ?_ (by kernel_rfl) | with_reducible apply br_t h | with_reducible apply br_f h | with_reducible apply br_t h2 | with_reducible apply br_f h2 | with_reducible refine br_t (dt2 (by omega) (by omega)) ?_); conv => lhs; whnf)
        have e2 : decide (l.getD i 0 ≠ (a : Int)) = false := by simpa using h2
        rw [ih n (i + 1) _ (by omega) (by omega) (by rw [wrap64 (by omega) (by omega)]; simp) (by omega)]
        rw [good (by unfold pairBad; rw [e2, show (!(bnot (b.getD (l.getD i 0).toNat 0) s == 0)) = false from h]; rfl)]

theorem lo_implIsOrder (b : List Int) (hb : b.length ≤ 6) (hA : allB (ordA b) b.length 0 = true) (k : AX → S → Option (AV × List Ob)) (r : Option (AV × List Ob)) (hk : ∀ a : Int, k .ret (mkS [1, 2, 35, 36, 37] [.ptr 0 0, .bool false, .lst (.int .i64) b, .int .i64 b.length, .int .i64 a] [some (.box 30 [.lst (.int .i64) b])]) = r) (d : Nat) : ∀ (n i : Nat) (x : Int), b.length - i = d → i ≤ b.length → x = i → d + 10 < n →
    lpAt E_implIsOrder (lp E_implIsOrder 0 n) 0 (loopAt Try.f70 1) (mkS [1, 35, 36, 37] [.ptr 0 0, .lst (.int .i64) b, .int .i64 b.length, .int .i64 x] [some (.box 30 [.lst (.int .i64) b])]) k =
      if allB (ordRow b) d i then k (.exit 2) (mkS [1, 2, 35, 36, 37] [.ptr 0 0, .any, .lst (.int .i64) b, .int .i64 b.length, .int .i64 (b.length : Int)] [some (.box 30 [.lst (.int .i64) b])]) else r := by
  induction d with
  | zero =>
    intro n i x hd hi hx hn
    subst hx
    rw [lpAt_def]
    conv => lhs; whnf
    refine br_f (df (by omega)) ?_
    conv => lhs; whnf
    have : i = b.length := by omega
    rw [this]
    rfl
  | succ d ih =>
    intro n i x hd hi hx hn
    obtain ⟨n, rfl⟩ : ∃ m, n = m + 1 := ⟨n - 1, by omega⟩
    subst hx
    have hs := ordA_set hA (show i < b.length by omega)
    have hr := pairBad_row hb hA (show i < b.length by omega)
    have hlen : (elemsF (b.getD i 0)).length ≤ 8 := elemsL_length _ _ _
    rw [lpAt_def]
    conv => lhs; whnf
    refine br_t (dt (by omega)) ?_
    conv => lhs; whnf
    refine br_t (dt2 (by omega) (by omega)) ?_
    conv => lhs; whnf
    conv => lhs; arg 1; whnf
    refine bnd_g (by exact True.intro) ?_
    conv => lhs; whnf
    refine (lq_implIsOrder b hb i (by omega) (b.getD i 0) (elemsF (b.getD i 0)) hlen (fun x hx => elemsF_lt hs hx) _ _ rfl (elemsF (b.getD i 0)).length _ 0 0 rfl (by omega) rfl (by omega)).trans ?_
    rw [List.drop_zero, hr]
    split
    · rename_i h
      conv => lhs; whnf
      have e : ordRow b i = false := bnt h
      rw [if_neg (by rw [allB, e]; exact Bool.false_ne_true)]
      exact hk _
    · rename_i h
      conv => lhs; whnf
      rw [ih n (i + 1) _ (by omega) (by omega) (by rw [wrap64 (by omega) (by omega)]; simp) (by omega)]
      have e : ordRow b i = true := by
        rw [Bool.not_eq_true] at h
        exact bnf h
      rw [allB, e, Bool.true_and]
theorem ev_implIsOrder (b : List Int) (hp : b.length < 4611686018427387904) : evF E_implIsOrder (20) Try.f70 [.agg [.lst (.int .i64) b]] [] = some (.bool (isOrd b), []) := by
  conv => lhs; whnf
  refine br_c (fun h => ?_) (fun h => ?_)
  · conv => lhs; whnf
    have h := ofd h
    refine okB ?_
    unfold isOrd
    rw [df (by omega)]
    rfl
  · conv => lhs; whnf
    have h := ofn h
    have hb : b.length ≤ 6 := by omega
    refine (lp_implIsOrder b hb _ _ rfl b.length _ 0 0 rfl (by omega) rfl (by change b.length < 19; omega)).trans ?_
    split
    · rename_i hA
      conv => lhs; whnf
      refine (lo_implIsOrder b hb hA _ _ (fun _ => rfl) b.length _ 0 0 rfl (by omega) rfl (by change b.length + 10 < 19; omega)).trans ?_
      split
      · rename_i hB
        conv => lhs; whnf
        refine okB ?_
        unfold isOrd
        rw [hA, hB, dt hb]
        rfl
      · rename_i hB
        conv => lhs; whnf
        refine okB ?_
        unfold isOrd
        rw [Bool.not_eq_true] at hB
        rw [hB, Bool.and_false, Bool.and_false]
    · rename_i hA
      conv => lhs; whnf
      refine okB ?_
      unfold isOrd
      rw [Bool.not_eq_true] at hA
      rw [hA, Bool.false_and, Bool.and_false]
theorem ok_implIsOrder : FnOk Try.prog 70 K_implIsOrder := by
  refine fn_ok (fn := Try.f70) (k := Try.f70.ntmps) (E := E_implIsOrder) (facts_of (List.forall_mem_cons.2 ⟨ok_implIsSet, List.forall_mem_cons.2 ⟨ok_hasElement, List.forall_mem_cons.2 ⟨ok_elementsOf, List.forall_mem_cons.2 ⟨ok_inSet, List.forall_mem_nil _⟩⟩⟩⟩)) (by kernel_rfl) rfl (by decide +kernel) (by decide +kernel) ?_
  intro avs hin r h
  unfold K_implIsOrder at h
  split at h
  · obtain ⟨hp, rfl⟩ := gd_o h
    exact ⟨_, ev_implIsOrder _ hp, rfl⟩
  · cases h

/- impl.SetText -/
def K_implSetText : List AV → List Ob → Option (AV × List Ob)
  | [.int .i64 s], [] => gd (True) (.str (setTx s), [])
  | _, _ => none
@[reducible] def E_implSetText : Env := mkE (tb [(75, K_isAnySet), (63, K_elementsOf)]) (fun f => false) (fun r => bif r == 7 then ([3, 14, 15, 16], [3]) else ([], []))
theorem lp_implSetText (es : List Int) (he : es.length ≤ 8) (he2 : ∀ e ∈ es, 0 ≤ e ∧ e ≤ 7) (k : AX → S → Option (AV × List Ob)) (d : Nat) : ∀ (n i : Nat) (x : Int) (acc : ByteArray), es.length - i = d → i ≤ es.length → x = i → d < n → acc.size ≤ 8 * i →
    lpAt E_implSetText (lp E_implSetText 0 n) 0 (loopAt Try.f93 0) (mkS [3, 14, 15, 16] [.str acc, .own 0, .int .i64 es.length, .int .i64 x] [some (.row 3 (.int .i64) es)]) k =
      k (.exit 1) (mkS [3] [.str (addTx (es.drop i) acc)] []) := by
  induction d with
  | zero =>
    intro n i x acc hd hi hx hn hz
    subst hx
    rw [lpAt_def]
    conv => lhs; whnf
    refine br_f (df (by omega)) ?_
    conv => lhs; whnf
    rw [List.drop_of_length_le (by omega), addTx]
  | succ d ih =>
    intro n i x acc hd hi hx hn hz
    obtain ⟨n, rfl⟩ : ∃ m, n = m + 1 := ⟨n - 1, by omega⟩
    subst hx
    have hei := he2 _ (mem_getD (l := es) (i := i) (d := 0) (by omega))
    have hab := abc_size (es.getD i 0).toNat (IntKind.i64.wrap (es.getD i 0 + 1)).toNat
    rw [lpAt_def]
    conv => lhs; whnf
    refine br_t (dt (by omega)) ?_
    conv => lhs; whnf
    refine br_t (dt2 (by omega) (by omega)) ?_
    conv => lhs; whnf
    refine br_t (dt (by omega)) ?_
    conv => lhs; whnf
    refine br_t (by exact abc_slice hei) ?_
    conv => lhs; whnf
    refine br_t (by (refine dt ?_; change acc.size + (abcB.extract (es.getD i 0).toNat (IntKind.i64.wrap (es.getD i 0 + 1)).toNat).size ≤ 9223372036854775807; omega)) ?_
    conv => lhs; whnf
    refine Eq.trans (ih n (i + 1) _ _ (by omega) (by omega) (by rw [wrap64 (n := (i : Int) + 1) (by omega) (by omega)]; simp) (by omega) (by change (acc ++ abcB.extract (es.getD i 0).toNat (IntKind.i64.wrap (es.getD i 0 + 1)).toNat).size ≤ _; rw [ByteArray.size_append]; omega)) ?_
    rw [getD_drop (l := es) (i := i) (d := 0) (by omega), addTx]
    rfl
theorem ev_implSetText (s : Int) (hp : True) : evF E_implSetText (20) Try.f93 [.int .i64 s] [] = some (.str (setTx s), []) := by
  unfold setTx
  conv => lhs; whnf
  conv => lhs; arg 1; whnf
  refine bnd_g (by exact True.intro) ?_
  conv => lhs; whnf
  refine br_c (fun h => ?_) (fun h => ?_)
  · rw [bnt h]
    conv => lhs; whnf
    rfl
  · rw [bnf h]
    conv => lhs; whnf
    refine br_c (fun h2 => ?_) (fun h2 => ?_)
    · have h2' : (s == 0) = true := h2
      rw [h2']
      conv => lhs; whnf
      rfl
    · have h2' : (s == 0) = false := h2
      rw [h2']
      have hel : (elemsF s).length ≤ 8 := elemsL_length _ _ _
      conv => lhs; whnf
      conv => lhs; arg 1; whnf
      refine bnd_g (by exact True.intro) ?_
      conv => lhs; whnf
      refine (lp_implSetText (elemsF s) hel (fun e h => elems_rng h) _ _ _ 0 0 ⟨#[]⟩ rfl (Nat.zero_le _) rfl (by change _ < 19; omega) (Nat.le_refl _)).trans ?_
      conv => lhs; whnf
      rfl
theorem ok_implSetText : FnOk Try.prog 93 K_implSetText := by
  refine fn_ok (fn := Try.f93) (k := Try.f93.ntmps) (E := E_implSetText) (facts_of (List.forall_mem_cons.2 ⟨ok_isAnySet, List.forall_mem_cons.2 ⟨ok_elementsOf, List.forall_mem_nil _⟩⟩)) (by kernel_rfl) rfl (by decide +kernel) (by decide +kernel) ?_
  intro avs hin r h
  unfold K_implSetText at h
  split at h
  · obtain ⟨hp, rfl⟩ := gd_o h
    exact ⟨_, ev_implSetText _ hp, rfl⟩
  · cases h

def K_joinS : List AV → List Ob → Option (AV × List Ob)
  | [.lst .str ys, .str sep], [] => gd (ys.length ≤ 140737488355328 ∧ (joinB ys sep).size ≤ 140737488355328) (.str (joinB ys sep), [])
  | _, _ => none
theorem ok_joinS : FnOk Try.prog 104 K_joinS := by
  refine ⟨⟨Try.f104, by kernel_rfl, by kernel_rfl, by kernel_rfl⟩, fun avs hin r hout hk C L vs hH hm hA => ?_⟩
  unfold K_joinS at hk
  split at hk
  · obtain ⟨⟨h1, h2⟩, he⟩ := gd_o hk
    cases he
    exact join_calls (fun h => h) Try.layJoin Try.extraJoin hH hA h1 h2
  · cases hk

/- impl.Join -/
def K_implJoin : List AV → List Ob → Option (AV × List Ob)
  | [.lst .str ys, .str sep], [] => gd (ys.length ≤ 1048576 ∧ okTxt ys = true ∧ sep.size ≤ 16) (.str (joinF ys sep), [])
  | _, _ => none
@[reducible] def E_implJoin : Env := mkE (tb [(104, K_joinS)]) (fun f => false) (fun r => bif r == 3 then ([0, 1, 5, 15, 16, 17], [0, 1, 5]) else ([], []))
theorem lp_implJoin (ys : List ByteArray) (sep : ByteArray) (hl : ys.length ≤ 1048576) (hy : ∀ y ∈ ys, y.size ≤ 1048576) (k : AX → S → Option (AV × List Ob)) (d : Nat) : ∀ (n i : Nat) (x q : Int), ys.length - i = d → i ≤ ys.length → x = i → d < n → 0 ≤ q → q ≤ 16777216 + i * 1048576 →
    lpAt E_implJoin (lp E_implJoin 0 n) 0 (loopAt Try.f94 0) (mkS [0, 1, 5, 15, 16, 17] [.lst .str ys, .str sep, .int .i64 q, .lst .str ys, .int .i64 ys.length, .int .i64 x] []) k =
      k (.exit 0) (mkS [0, 1, 5] [.lst .str ys, .str sep, .int .i64 (lenS (ys.drop i) q)] []) := by
  induction d with
  | zero =>
    intro n i x q hd hi hx hn hq hq'
    subst hx
    rw [lpAt_def]
    conv => lhs; whnf
    refine br_f (df (by omega)) ?_
    conv => lhs; whnf
    rw [List.drop_of_length_le (by omega), lenS]
  | succ d ih =>
    intro n i x q hd hi hx hn hq hq'
    obtain ⟨n, rfl⟩ : ∃ m, n = m + 1 := ⟨n - 1, by omega⟩
    subst hx
    have hyi := hy _ (mem_getD (l := ys) (i := i) (d := ByteArray.empty) (by omega))
    have hw : IntKind.i64.wrap (q + ((ys.getD i ByteArray.empty).size : Int)) = q + ((ys.getD i ByteArray.empty).size : Int) := wrap64 (by omega) (by omega)
    rw [lpAt_def]
    conv => lhs; whnf
    refine br_t (dt (by omega)) ?_
    conv => lhs; whnf
    refine br_t (dt2 (by omega) (by omega)) ?_
    conv => lhs; whnf
    refine Eq.trans (ih n (i + 1) _ _ (by omega) (by omega) (by rw [wrap64 (n := (i : Int) + 1) (by omega) (by omega)]; simp) (by omega) (by change 0 ≤ IntKind.i64.wrap (q + ((ys.getD i ByteArray.empty).size : Int)); rw [hw]; omega) (by change IntKind.i64.wrap (q + ((ys.getD i ByteArray.empty).size : Int)) ≤ _; rw [hw]; push_cast; omega)) ?_
    have e : lenS (ys.drop i) q = lenS (ys.drop (i + 1)) (IntKind.i64.wrap (q + ((ys.getD i ByteArray.empty).size : Int))) := by rw [hw, getD_drop (l := ys) (i := i) (d := ByteArray.empty) (by omega), lenS]
    rw [e]
    rfl
theorem ev_implJoin (ys : List ByteArray) (sep : ByteArray) (hp : ys.length ≤ 1048576 ∧ okTxt ys = true ∧ sep.size ≤ 16) : evF E_implJoin (ys.length + 2) Try.f94 [.lst .str ys, .str sep] [] = some (.str (joinF ys sep), []) := by
  obtain ⟨h1, h2, h3⟩ := hp
  have hy := okTxt_iff.1 h2
  have hs := join_size ys sep
  have hm : 0 ≤ max ((ys.length : Int) - 1) 0 * (sep.size : Int) ∧ max ((ys.length : Int) - 1) 0 * (sep.size : Int) ≤ 16777216 := by
    have e : max ((ys.length : Int) - 1) 0 ≤ 1048576 := by omega
    have e0 : 0 ≤ max ((ys.length : Int) - 1) 0 := by omega
    refine ⟨Int.mul_nonneg e0 (by omega), ?_⟩
    have := Int.mul_le_mul e (show (sep.size : Int) ≤ 16 by omega) (by omega) (by omega)
    omega
  have hle := lenS_le 1048576 ys (max ((ys.length : Int) - 1) 0 * (sep.size : Int)) hy
  have hw : IntKind.i64.wrap (max (IntKind.i64.wrap ((ys.length : Int) - 1)) 0 * (sep.size : Int)) = max ((ys.length : Int) - 1) 0 * (sep.size : Int) := by
    rw [wrap64 (n := (ys.length : Int) - 1) (by omega) (by omega)]
    exact wrap64 (by omega) (by omega)
  conv => lhs; whnf
  refine (lp_implJoin ys sep h1 hy _ ys.length _ 0 0 _ rfl (Nat.zero_le _) rfl (by omega) (by change 0 ≤ IntKind.i64.wrap (max (IntKind.i64.wrap ((ys.length : Int) - 1)) 0 * (sep.size : Int)); rw [hw]; exact hm.1) (by change IntKind.i64.wrap (max (IntKind.i64.wrap ((ys.length : Int) - 1)) 0 * (sep.size : Int)) ≤ _; rw [hw]; omega)).trans ?_
  have e1 : lenS (ys.drop 0) (IntKind.i64.wrap (max (IntKind.i64.wrap ((ys.length : Int) - 1)) 0 * (sep.size : Int))) = ((joinB ys sep).size : Int) := by rw [hw, List.drop_zero, hs]
  conv => lhs; whnf
  unfold joinF
  refine br_c (fun h => ?_) (fun h => ?_)
  · have h' := ofd h
    have h' : lenS (ys.drop 0) (IntKind.i64.wrap (max (IntKind.i64.wrap ((ys.length : Int) - 1)) 0 * (sep.size : Int))) > 1048576 := h'
    conv => lhs; whnf
    rw [if_neg (by omega)]
  · have h' := ofn h
    have h' : ¬ lenS (ys.drop 0) (IntKind.i64.wrap (max (IntKind.i64.wrap ((ys.length : Int) - 1)) 0 * (sep.size : Int))) > 1048576 := h'
    conv => lhs; whnf
    conv => lhs; arg 1; whnf
    refine bnd_g (by exact ⟨by omega, by omega⟩) ?_
    conv => lhs; whnf
    rw [if_pos (by omega)]
theorem ok_implJoin : FnOk Try.prog 94 K_implJoin := by
  refine fn_ok (fn := Try.f94) (k := Try.f94.ntmps) (E := E_implJoin) (facts_of (List.forall_mem_cons.2 ⟨ok_joinS, List.forall_mem_nil _⟩)) (by kernel_rfl) rfl (by decide +kernel) (by decide +kernel) ?_
  intro avs hin r h
  unfold K_implJoin at h
  split at h
  · obtain ⟨hp, rfl⟩ := gd_o h
    exact ⟨_, ev_implJoin _ _ hp, rfl⟩
  · cases h

/- impl.SetsText -/
def K_implSetsText : List AV → List Ob → Option (AV × List Ob)
  | [.lst (.int .i64) a], [] => gd (a.length ≤ 1048576) (.str (setsTx a), [])
  | _, _ => none
@[reducible] def E_implSetsText : Env := mkE (tb [(75, K_isAnySet), (93, K_implSetText), (94, K_implJoin)]) (fun f => false) (fun r => bif r == 5 then ([3, 10, 11, 12], [2, 3]) else ([], []))
theorem lp_implSetsText (a : List Int) (ha : a.length ≤ 1048576) (k : AX → S → Option (AV × List Ob)) (r : Option (AV × List Ob)) (hk : ∀ zs, k .ret (mkS [2, 3] [.str ⟨#[]⟩, .own 0] [some (.row 9 .str zs)]) = r) (d : Nat) : ∀ (n i : Nat) (x : Int) (zs : List ByteArray), a.length - i = d → i ≤ a.length → x = i → d < n → zs.length ≤ i →
    lpAt E_implSetsText (lp E_implSetsText 0 n) 0 (loopAt Try.f71 0) (mkS [3, 10, 11, 12] [.own 0, .lst (.int .i64) a, .int .i64 a.length, .int .i64 x] [some (.row 9 .str zs)]) k =
      if (a.drop i).all (isSet 8) then k (.exit 0) (mkS [2, 3] [.any, .own 0] [some (.row 9 .str (zs ++ (a.drop i).map setTx))]) else r := by
  induction d with
  | zero =>
    intro n i x zs hd hi hx hn hz
    subst hx
    rw [lpAt_def]
    conv => lhs; whnf
    refine br_f (df (by omega)) ?_
    conv => lhs; whnf
    rw [List.drop_of_length_le (by omega)]
    simp
  | succ d ih =>
    intro n i x zs hd hi hx hn hz
    obtain ⟨n, rfl⟩ : ∃ m, n = m + 1 := ⟨n - 1, by omega⟩
    subst hx
    rw [lpAt_def]
    conv => lhs; whnf
    refine br_t (dt (by omega)) ?_
    conv => lhs; whnf
    refine br_t (dt2 (by omega) (by omega)) ?_
    conv => lhs; whnf
    conv => lhs; arg 1; whnf
    refine bnd_g (by exact True.intro) ?_
    conv => lhs; whnf
    rw [getD_drop (l := a) (i := i) (d := 0) (by omega), List.all_cons, List.map_cons]
    refine br_c (fun h => ?_) (fun h => ?_)
    · have h' : isSet 8 (a.getD i 0) = false := bnt h
      conv => lhs; whnf
      rw [h', Bool.false_and, if_neg (by simp)]
      exact hk _
    · have h' : isSet 8 (a.getD i 0) = true := bnf h
      conv => lhs; whnf
      conv => lhs; arg 1; whnf
      refine bnd_g (by exact True.intro) ?_
      conv => lhs; whnf
      refine br_t (dt (by simp [room]; omega)) ?_
      conv => lhs; whnf
      refine Eq.trans (ih n (i + 1) _ _ (by omega) (by omega) (by rw [wrap64 (n := (i : Int) + 1) (by omega) (by omega)]; simp) (by omega) (by simp; omega)) ?_
      rw [h', Bool.true_and]
      simp only [List.append_assoc]
      rfl
theorem ev_implSetsText (a : List Int) (hp : a.length ≤ 1048576) : evF E_implSetsText (a.length + 2) Try.f71 [.lst (.int .i64) a] [] = some (.str (setsTx a), []) := by
  unfold setsTx
  conv => lhs; whnf
  refine br_c (fun h => ?_) (fun h => ?_)
  · have h' : ((a.length : Int) == 0) = true := h
    have h0 : a = [] := by
      have : (a.length : Int) = 0 := by simpa using h'
      exact List.eq_nil_of_length_eq_zero (by omega)
    subst h0
    conv => lhs; whnf
    rfl
  · have h' : ((a.length : Int) == 0) = false := h
    conv => lhs; whnf
    refine (lp_implSetsText a hp _ _ (fun zs => rfl) a.length _ 0 0 [] rfl (Nat.zero_le _) rfl (by omega) (by simp)).trans ?_
    rw [List.drop_zero, List.nil_append, h']
    split
    · rename_i hs
      have hlen : (a.map setTx).length = a.length := List.length_map _
      conv => lhs; whnf
      conv => lhs; arg 1; whnf
      refine bnd_g (by exact ⟨by omega, setTx_ok a, by decide⟩) ?_
      conv => lhs; whnf
      rw [hs]
      rfl
    · rename_i hs
      rw [Bool.not_eq_true] at hs
      rw [hs]
      rfl
theorem ok_implSetsText : FnOk Try.prog 71 K_implSetsText := by
  refine fn_ok (fn := Try.f71) (k := Try.f71.ntmps) (E := E_implSetsText) (facts_of (List.forall_mem_cons.2 ⟨ok_isAnySet, List.forall_mem_cons.2 ⟨ok_implSetText, List.forall_mem_cons.2 ⟨ok_implJoin, List.forall_mem_nil _⟩⟩⟩)) (by kernel_rfl) rfl (by decide +kernel) (by decide +kernel) ?_
  intro avs hin r h
  unfold K_implSetsText at h
  split at h
  · obtain ⟨hp, rfl⟩ := gd_o h
    exact ⟨_, ev_implSetsText _ hp, rfl⟩
  · cases h

/- impl.OrderText -/
def K_implOrderText : List AV → List Ob → Option (AV × List Ob)
  | [.agg [.lst (.int .i64) a]], [] => gd (a.length ≤ 1048576) (.str (ordTx a), [])
  | _, _ => none
@[reducible] def E_implOrderText : Env := mkE (tb [(70, K_implIsOrder), (71, K_implSetsText)]) (fun f => false) (fun r => ([], []))
theorem ev_implOrderText (a : List Int) (hp : a.length ≤ 1048576) : evF E_implOrderText (1) Try.f40 [.agg [.lst (.int .i64) a]] [] = some (.str (ordTx a), []) := by
  unfold ordTx
  conv => lhs; whnf
  conv => lhs; arg 1; whnf
  refine bnd_g (by omega) ?_
  conv => lhs; whnf
  refine br_c (fun h => ?_) (fun h => ?_)
  · rw [bnt h]
    conv => lhs; whnf
    rfl
  · rw [bnf h]
    conv => lhs; whnf
    conv => lhs; arg 1; whnf
    refine bnd_g (by exact hp) ?_
    conv => lhs; whnf
    rfl
theorem ok_implOrderText : FnOk Try.prog 40 K_implOrderText := by
  refine fn_ok (fn := Try.f40) (k := Try.f40.ntmps) (E := E_implOrderText) (facts_of (List.forall_mem_cons.2 ⟨ok_implIsOrder, List.forall_mem_cons.2 ⟨ok_implSetsText, List.forall_mem_nil _⟩⟩)) (by kernel_rfl) rfl (by decide +kernel) (by decide +kernel) ?_
  intro avs hin r h
  unfold K_implOrderText at h
  split at h
  · obtain ⟨hp, rfl⟩ := gd_o h
    exact ⟨_, ev_implOrderText _ hp, rfl⟩
  · cases h

/- laws.eqIntS -/
def K_eqIntS : List AV → List Ob → Option (AV × List Ob)
  | [.lst (.int .i64) a, .lst (.int .i64) b], [] => gd (a.length < 4611686018427387904 ∧ b.length < 4611686018427387904) (.bool (decide (a = b)), [])
  | _, _ => none
@[reducible] def E_eqIntS : Env := mkE (tb []) (fun f => false) (fun r => bif r == 4 then ([0, 1, 5], [4]) else ([], []))
theorem lp_eqIntS (a b : List Int) (hl : a.length = b.length) (ha : a.length < 4611686018427387904) (k : AX → S → Option (AV × List Ob)) (d : Nat) : ∀ (n i : Nat) (x : Int), a.length - i = d → i ≤ a.length → x = i → d < n →
    lpAt E_eqIntS (lp E_eqIntS 0 n) 0 (loopAt Try.f22 0) (mkS [0, 1, 5] [.lst (.int .i64) a, .lst (.int .i64) b, .int .i64 x] []) k =
      if a.drop i = b.drop i then k (.exit 0) (mkS [4] [.any] []) else k .ret (mkS [4] [.bool false] []) := by
  induction d with
  | zero =>
    intro n i x hd hi hx hn
    subst hx
    rw [lpAt_def]
    conv => lhs; whnf
    refine br_f (df (by omega)) ?_
    conv => lhs; whnf
    rw [if_pos (by rw [List.drop_of_length_le (by omega), List.drop_of_length_le (by omega)])]
  | succ d ih =>
    intro n i x hd hi hx hn
    obtain ⟨n, rfl⟩ : ∃ m, n = m + 1 := ⟨n - 1, by omega⟩
    subst hx
    rw [lpAt_def]
    conv => lhs; whnf
    refine br_t (dt (by omega)) ?_
    conv => lhs; whnf
    refine br_t (dt2 (by omega) (by omega)) ?_
    conv => lhs; whnf
    refine br_t (dt2 (by omega) (by omega)) ?_
    conv => lhs; whnf
    rw [getD_drop (l := a) (i := i) (d := 0) (by omega), getD_drop (l := b) (i := i) (d := 0) (by omega)]
    refine br_t (by kernel_rfl) ?_
    conv => lhs; whnf
    refine br_c (fun h => ?_) (fun h => ?_)
    · conv => lhs; whnf
      rw [if_neg]
      intro he
      have := (List.cons.inj he).1
      simp at h
      exact h this
    · conv => lhs; whnf
      rw [ih n (i + 1) _ (by omega) (by omega) (by rw [wrap64 (by omega) (by omega)]; simp) (by omega)]
      simp at h
      simp [h]
theorem ev_eqIntS (a b : List Int) (hp : a.length < 4611686018427387904 ∧ b.length < 4611686018427387904) : evF E_eqIntS (a.length + 2) Try.f22 [.lst (.int .i64) a, .lst (.int .i64) b] [] = some (.bool (decide (a = b)), []) := by
  conv => lhs; whnf
  refine br_c (fun h => ?_) (fun h => ?_)
  · conv => lhs; whnf
    have : a ≠ b := by
      rintro rfl
      simp at h
    simp [this]
  · conv => lhs; whnf
    have hl : a.length = b.length := by simp at h; omega
    refine (lp_eqIntS a b hl hp.1 _ _ _ 0 0 rfl (by omega) rfl (by omega)).trans ?_
    simp only [List.drop_zero]
    split
    · rename_i he
      conv => lhs; whnf
      simp [he]
    · rename_i he
      conv => lhs; whnf
      simp [he]
theorem ok_eqIntS : FnOk Try.prog 22 K_eqIntS := by
  refine fn_ok (fn := Try.f22) (k := Try.f22.ntmps) (E := E_eqIntS) (facts_of (List.forall_mem_nil _)) (by kernel_rfl) rfl (by decide +kernel) (by decide +kernel) ?_
  intro avs hin r h
  unfold K_eqIntS at h
  split at h
  · obtain ⟨hp, rfl⟩ := gd_o h
    exact ⟨_, ev_eqIntS _ _ hp, rfl⟩
  · cases h

/- laws.eqOrder -/
def K_eqOrder : List AV → List Ob → Option (AV × List Ob)
  | [.agg [.lst (.int .i64) a], .agg [.lst (.int .i64) a']], [] => gd (a.length < 4611686018427387904 ∧ a'.length < 4611686018427387904) (.bool (decide (a = a')), [])
  | _, _ => none
@[reducible] def E_eqOrder : Env := mkE (tb [(22, K_eqIntS)]) (fun f => false) (fun r => ([], []))
theorem ev_eqOrder (a : List Int) (a' : List Int) (hp : a.length < 4611686018427387904 ∧ a'.length < 4611686018427387904) : evF E_eqOrder (1) Try.f14 [.agg [.lst (.int .i64) a], .agg [.lst (.int .i64) a']] [] = some (.bool (decide (a = a')), []) := by
  conv => lhs; whnf
  conv => lhs; arg 1; whnf
  refine bnd_g (by exact hp) ?_
  conv => lhs; whnf
  refine br_c (fun h' => ?_) (fun h' => ?_)
  · conv => lhs; whnf
    simp at h'
    simp [h']
  · conv => lhs; whnf
    simp at h'
    simp [h']
theorem ok_eqOrder : FnOk Try.prog 14 K_eqOrder := by
  refine fn_ok (fn := Try.f14) (k := Try.f14.ntmps) (E := E_eqOrder) (facts_of (List.forall_mem_cons.2 ⟨ok_eqIntS, List.forall_mem_nil _⟩)) (by kernel_rfl) rfl (by decide +kernel) (by decide +kernel) ?_
  intro avs hin r h
  unfold K_eqOrder at h
  split at h
  · obtain ⟨hp, rfl⟩ := gd_o h
    exact ⟨_, ev_eqOrder _ _ hp, rfl⟩
  · cases h

/- laws.FnExactOrderText -/
def K_lawOrderText : List AV → List Ob → Option (AV × List Ob)
  | [.agg [.lst (.int .i64) a]], [] => gd (a.length ≤ maxLen) (.bool true, [])
  | _, _ => none
@[reducible] def E_lawOrderText : Env := mkE (tb [(9, K_szOrder), (11, K_toOrder), (39, K_specOrderText), (40, K_implOrderText), (14, K_eqOrder)]) (fun f => false) (fun r => ([], []))
theorem ev_lawOrderText (a : List Int) (hp : a.length ≤ maxLen) : evF E_lawOrderText (1) Try.f8 [.agg [.lst (.int .i64) a]] [] = some (.bool true, []) := by
  conv => lhs; whnf
  conv => lhs; arg 1; whnf
  refine bnd_g (by exact ⟨by omega, by omega, hp⟩) ?_
  conv => lhs; whnf
  refine br_c (fun h1 => ?_) (fun h1 => ?_)
  · conv => lhs; whnf
  · conv => lhs; whnf
    obtain ⟨e1, l1⟩ := szI_ok (ofn h1)
    conv => lhs; arg 1; whnf
    refine bnd_g (by omega) ?_
    conv => lhs; whnf
    conv => lhs; arg 1; whnf
    refine bnd_g (by omega) ?_
    conv => lhs; whnf
    conv => lhs; arg 1; whnf
    refine bnd_g (by omega) ?_
    conv => lhs; whnf
    conv => lhs; arg 1; whnf
    refine bnd_g (by omega) ?_
    conv => lhs; whnf
    repeat ((first | with_reducible apply br_tt | with_reducible apply br_ff | with_reducible apply br_nf | with_reducible apply br_nt | with_reducible refine br_d ?_ (by kernel_rfl) | with_reducible refine br_f (by simp; done) ?_); conv => lhs; whnf)
    conv => lhs; arg 1; whnf
    refine bnd_g (by omega) ?_
    conv => lhs; whnf
    conv => lhs; arg 1; whnf
    refine bnd_g (by exact ⟨by omega, by omega⟩) ?_
    conv => lhs; whnf
    repeat ((first | with_reducible apply br_tt | with_reducible apply br_ff | with_reducible apply br_nf | with_reducible apply br_nt | with_reducible refine br_d ?_ (by kernel_rfl) | with_reducible refine br_f (by simp; done) ?_); conv => lhs; whnf)
theorem ok_lawOrderText : FnOk Try.prog 8 K_lawOrderText := by
  refine fn_ok (fn := Try.f8) (k := Try.f8.ntmps) (E := E_lawOrderText) (facts_of (List.forall_mem_cons.2 ⟨ok_szOrder, List.forall_mem_cons.2 ⟨ok_toOrder, List.forall_mem_cons.2 ⟨ok_specOrderText, List.forall_mem_cons.2 ⟨ok_implOrderText, List.forall_mem_cons.2 ⟨ok_eqOrder, List.forall_mem_nil _⟩⟩⟩⟩⟩)) (by kernel_rfl) rfl (by decide +kernel) (by decide +kernel) ?_
  intro avs hin r h
  unfold K_lawOrderText at h
  split at h
  · obtain ⟨hp, rfl⟩ := gd_o h
    exact ⟨_, ev_lawOrderText _ hp, rfl⟩
  · cases h

end Go.Sym
