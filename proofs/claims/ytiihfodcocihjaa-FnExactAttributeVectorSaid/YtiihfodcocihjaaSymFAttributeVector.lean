/- Functions of the program, each told as a plain equation. -/
import Derived.Test.YtiihfodcocihjaaSymX
namespace Go.Sym
open Go.Proofs
set_option linter.unusedVariables false
set_option linter.unusedSimpArgs false
set_option maxRecDepth 100000
set_option maxHeartbeats 4000000

def szI (n left : Int) : Int := if left < n then -1 else left - n
theorem szI_ok {n left : Int} (h : ¬ szI n left < 0) : szI n left = left - n ∧ n ≤ left := by
  unfold szI at h ⊢
  split at h
  · omega
  · rename_i h5; exact ⟨if_neg h5, by omega⟩
/- laws.szIntS -/
def K_szIntS : List AV → List Ob → Option (AV × List Ob)
  | [.lst (.int .i64) a, .int .i64 left], [] => gd (0 ≤ left ∧ left ≤ 1048576 ∧ a.length ≤ maxLen) (.int .i64 (szI a.length left), [])
  | _, _ => none
@[reducible] def E_szIntS : Env := mkE (tb []) (fun f => false) (fun r => ([], []))
theorem ev_szIntS (a : List Int) (left : Int) (hp : 0 ≤ left ∧ left ≤ 1048576 ∧ a.length ≤ maxLen) : evF E_szIntS (1) Try.f41 [.lst (.int .i64) a, .int .i64 left] [] = some (.int .i64 (szI a.length left), []) := by
  obtain ⟨h0, h1, h2⟩ := hp
  have hm := maxLen_eq
  have hw : IntKind.i64.wrap (left - a.length) = left - a.length := wrap64 (by omega) (by omega)
  conv => lhs; whnf
  refine br_c (fun h => ?_) (fun h => ?_)
  · conv => lhs; whnf
    have h := ofd h
    rw [hw] at h
    rw [szI, if_pos (by omega)]
  · conv => lhs; whnf
    have h := ofn h
    rw [hw] at h
    rw [szI, if_neg (by omega), hw]
theorem ok_szIntS : FnOk Try.prog 41 K_szIntS := by
  refine fn_ok (fn := Try.f41) (k := Try.f41.ntmps) (E := E_szIntS) (facts_of (List.forall_mem_nil _)) (by kernel_rfl) rfl (by decide +kernel) (by decide +kernel) ?_
  intro avs hin r h
  unfold K_szIntS at h
  split at h
  · obtain ⟨hp, rfl⟩ := gd_o h
    exact ⟨_, ev_szIntS _ _ hp, rfl⟩
  · cases h

/- laws.szContext -/
def K_szContext : List AV → List Ob → Option (AV × List Ob)
  | [.agg [.int .i64 m, .lst (.int .i64) a], .int .i64 left], [] => gd (0 ≤ left ∧ left ≤ 1048576 ∧ a.length ≤ maxLen) (.int .i64 (szI a.length left), [])
  | _, _ => none
@[reducible] def E_szContext : Env := mkE (tb [(41, K_szIntS)]) (fun f => false) (fun r => ([], []))
theorem ev_szContext (m : Int) (a : List Int) (left : Int) (hp : 0 ≤ left ∧ left ≤ 1048576 ∧ a.length ≤ maxLen) : evF E_szContext (1) Try.f18 [.agg [.int .i64 m, .lst (.int .i64) a], .int .i64 left] [] = some (.int .i64 (szI a.length left), []) := by
  obtain ⟨h0, h1, h2⟩ := hp
  conv => lhs; whnf
  conv => lhs; arg 1; whnf
  refine bnd_g (by exact ⟨h0, h1, h2⟩) ?_
  conv => lhs; whnf
  refine br_c (fun h => ?_) (fun h => ?_)
  · conv => lhs; whnf
    have h := ofd h
    unfold szI at h ⊢
    split at h
    · rw [if_pos (by omega)]
    · omega
  · conv => lhs; whnf
theorem ok_szContext : FnOk Try.prog 18 K_szContext := by
  refine fn_ok (fn := Try.f18) (k := Try.f18.ntmps) (E := E_szContext) (facts_of (List.forall_mem_cons.2 ⟨ok_szIntS, List.forall_mem_nil _⟩)) (by kernel_rfl) rfl (by decide +kernel) (by decide +kernel) ?_
  intro avs hin r h
  unfold K_szContext at h
  split at h
  · obtain ⟨hp, rfl⟩ := gd_o h
    exact ⟨_, ev_szContext _ _ _ hp, rfl⟩
  · cases h

/- laws.toIntS -/
def K_toIntS : List AV → List Ob → Option (AV × List Ob)
  | [.lst (.int .i64) a], [] => gd (a.length ≤ 1048576) (.own 0, [.row 3 (.int .i64) a])
  | _, _ => none
@[reducible] def E_toIntS : Env := mkE (tb []) (fun f => false) (fun r => bif r == 3 then ([0, 3, 4], [3]) else ([], []))
theorem lp_toIntS (a : List Int) (ha : a.length ≤ 1048576) (k : AX → S → Option (AV × List Ob)) (d : Nat) : ∀ (n i : Nat) (x : Int) (ys : List Int), a.length - i = d → i ≤ a.length → x = i → d < n → ys.length = a.length → ys.take i = a.take i →
    lpAt E_toIntS (lp E_toIntS 0 n) 0 (loopAt Try.f43 0) (mkS [0, 3, 4] [.lst (.int .i64) a, .own 0, .int .i64 x] [some (.row 3 (.int .i64) ys)]) k =
      k (.exit 0) (mkS [3] [.own 0] [some (.row 3 (.int .i64) a)]) := by
  induction d with
  | zero =>
    intro n i x ys hd hi hx hn hl ht
    subst hx
    rw [lpAt_def]
    conv => lhs; whnf
    refine br_f (df (by omega)) ?_
    conv => lhs; whnf
    have : ys = a := by rw [List.take_of_length_le (by omega), List.take_of_length_le (by omega)] at ht; exact ht
    rw [this]
  | succ d ih =>
    intro n i x ys hd hi hx hn hl ht
    obtain ⟨n, rfl⟩ : ∃ m, n = m + 1 := ⟨n - 1, by omega⟩
    subst hx
    rw [lpAt_def]
    conv => lhs; whnf
    refine br_t (dt (by omega)) ?_
    conv => lhs; whnf
    refine br_t (dt2 (by omega) (by omega)) ?_
    conv => lhs; whnf
    refine br_t (dt2 (by omega) (by omega)) ?_
    conv => lhs; whnf
    refine br_t (dt (by omega)) ?_
    conv => lhs; whnf
    refine ih n (i + 1) _ _ (by omega) (by omega) (by rw [wrap64 (by omega) (by omega)]; simp) (by omega) (by simp [hl]) ?_
    have hlt : i < a.length := by omega
    simp only [Int.toNat_natCast]
    rw [List.take_succ_eq_append_getElem (by simp; omega), List.take_succ_eq_append_getElem hlt, List.take_set_of_le (by omega), ht]
    simp [hlt]
theorem ev_toIntS (a : List Int) (hp : a.length ≤ 1048576) : evF E_toIntS (a.length + 2) Try.f43 [.lst (.int .i64) a] [] = some (.own 0, [.row 3 (.int .i64) a]) := by
  conv => lhs; whnf
  refine br_t (mk_ok (by dsimp only; omega)) ?_
  conv => lhs; whnf
  refine (lp_toIntS a hp _ _ _ 0 0 _ rfl (by omega) rfl (by omega) (by simp) (by simp)).trans ?_
  conv => lhs; whnf
theorem ok_toIntS : FnOk Try.prog 43 K_toIntS := by
  refine fn_ok (fn := Try.f43) (k := Try.f43.ntmps) (E := E_toIntS) (facts_of (List.forall_mem_nil _)) (by kernel_rfl) rfl (by decide +kernel) (by decide +kernel) ?_
  intro avs hin r h
  unfold K_toIntS at h
  split at h
  · obtain ⟨hp, rfl⟩ := gd_o h
    exact ⟨_, ev_toIntS _ hp, rfl⟩
  · cases h

/- laws.toContext -/
def K_toContext : List AV → List Ob → Option (AV × List Ob)
  | [.agg [.int .i64 m, .lst (.int .i64) a]], [] => gd (a.length ≤ 1048576) (.agg [.int .i64 m, .own 0], [.row 3 (.int .i64) a])
  | _, _ => none
@[reducible] def E_toContext : Env := mkE (tb [(43, K_toIntS)]) (fun f => false) (fun r => ([], []))
theorem ev_toContext (m : Int) (a : List Int) (hp : a.length ≤ 1048576) : evF E_toContext (1) Try.f20 [.agg [.int .i64 m, .lst (.int .i64) a]] [] = some (.agg [.int .i64 m, .own 0], [.row 3 (.int .i64) a]) := by
  conv => lhs; whnf
  conv => lhs; arg 1; whnf
  refine bnd_g (by exact hp) ?_
  conv => lhs; whnf
theorem ok_toContext : FnOk Try.prog 20 K_toContext := by
  refine fn_ok (fn := Try.f20) (k := Try.f20.ntmps) (E := E_toContext) (facts_of (List.forall_mem_cons.2 ⟨ok_toIntS, List.forall_mem_nil _⟩)) (by kernel_rfl) rfl (by decide +kernel) (by decide +kernel) ?_
  intro avs hin r h
  unfold K_toContext at h
  split at h
  · obtain ⟨hp, rfl⟩ := gd_o h
    exact ⟨_, ev_toContext _ _ hp, rfl⟩
  · cases h

def isSet (n s : Int) : Bool := decide ((0 ≤ n ∧ n ≤ 8) ∧ (0 ≤ s ∧ s ≤ 2 ^ n.toNat - 1))
theorem shl_set {n : Int} (h0 : 0 ≤ n) (h8 : n ≤ 8) : IntKind.i64.wrap (IntKind.i64.wrap (1 * 2 ^ min n.toNat IntKind.i64.bits) - 1) = 2 ^ n.toNat - 1 := by
  have h : n = 0 ∨ n = 1 ∨ n = 2 ∨ n = 3 ∨ n = 4 ∨ n = 5 ∨ n = 6 ∨ n = 7 ∨ n = 8 := by omega
  rcases h with rfl | rfl | rfl | rfl | rfl | rfl | rfl | rfl | rfl <;> decide +kernel
theorem wrapu {n : Int} (h0 : 0 ≤ n) (h8 : n ≤ 8) : IntKind.u64.wrap n = n := by
  simp [IntKind.wrap, IntKind.bits, IntKind.signed]
  omega
theorem isSet8 (s : Int) : isSet 8 s = decide (0 ≤ s ∧ s ≤ 255) := by simp [isSet]
/-- The machine's and, and its and-not, on int. -/
def band (a b : Int) : Int := IntKind.i64.wrap (BitVec.ofInt IntKind.i64.bits a &&& BitVec.ofInt IntKind.i64.bits b).toNat
def bnot (a b : Int) : Int := IntKind.i64.wrap (BitVec.ofInt IntKind.i64.bits a &&& ~~~(BitVec.ofInt IntKind.i64.bits b)).toNat
def bor (a b : Int) : Int := IntKind.i64.wrap (BitVec.ofInt IntKind.i64.bits a ||| BitVec.ofInt IntKind.i64.bits b).toNat
theorem wrap_bv (x : BitVec 64) : IntKind.i64.wrap x.toNat = x.toInt := by
  simp [IntKind.wrap, IntKind.bits, IntKind.signed, BitVec.toInt]
  omega
theorem ofInt_toInt {a : Int} (h1 : -9223372036854775808 ≤ a) (h2 : a ≤ 9223372036854775807) : (BitVec.ofInt 64 a).toInt = a := by
  rw [BitVec.toInt_ofInt]
  simp [Int.bmod]
  omega
theorem bv_sub (x y : BitVec 64) : x &&& y = x ↔ x &&& ~~~y = 0#64 := by
  constructor
  · intro h
    apply BitVec.eq_of_getLsbD_eq
    intro i hi
    have h1 := congrArg (fun z => BitVec.getLsbD z i) h
    simp [hi] at h1 ⊢
    exact h1
  · intro h
    apply BitVec.eq_of_getLsbD_eq
    intro i hi
    have h1 := congrArg (fun z => BitVec.getLsbD z i) h
    simp [hi] at h1 ⊢
    exact h1
theorem sub_iff {a b : Int} (h1 : -9223372036854775808 ≤ a) (h2 : a ≤ 9223372036854775807) : band a b = a ↔ bnot a b = 0 := by
  unfold band bnot
  show IntKind.i64.wrap (BitVec.ofInt 64 a &&& BitVec.ofInt 64 b).toNat = a ↔ IntKind.i64.wrap (BitVec.ofInt 64 a &&& ~~~(BitVec.ofInt 64 b)).toNat = 0
  rw [wrap_bv, wrap_bv]
  conv => lhs; rhs; rw [← ofInt_toInt h1 h2]
  rw [BitVec.toInt_inj, ← BitVec.toInt_zero, BitVec.toInt_inj]
  exact bv_sub _ _
def isCtx (m : Int) (b : List Int) : Bool := decide (0 ≤ m ∧ m ≤ 6) && decide (b.length ≤ 8) && b.all (isSet m)
def badRow (m x : Int) : Bool := !isSet m x
def fullSet (n : Int) : Int := if 0 ≤ n ∧ n ≤ 8 then 2 ^ n.toNat - 1 else 0
theorem any_badRow (m : Int) (b : List Int) : (!b.any (badRow m)) = b.all (isSet m) := by
  simp [badRow, List.not_any_eq_all_not]
def hasE (s e : Int) : Bool := isSet 8 s && decide (0 ≤ e ∧ e ≤ 7) && s.toNat.testBit e.toNat
theorem bit_all : ∀ s : Fin 256, ∀ e : Fin 9, (band ((s.val : Int).fdiv (2 ^ min ((e.val : Int)).toNat IntKind.i64.bits)) 1 == 1) = s.val.testBit e.val := by decide +kernel
theorem bit_of {s e : Int} (h0 : 0 ≤ s) (h1 : s ≤ 255) (h2 : 0 ≤ e) (h3 : e ≤ 8) : (band (s.fdiv (2 ^ min e.toNat IntKind.i64.bits)) 1 == 1) = s.toNat.testBit e.toNat := by
  have := bit_all ⟨s.toNat, by omega⟩ ⟨e.toNat, by omega⟩
  simp only [Int.toNat_of_nonneg h0, Int.toNat_of_nonneg h2] at this
  exact this
theorem bv_rng (x : BitVec 64) : -9223372036854775808 ≤ x.toInt ∧ x.toInt ≤ 9223372036854775807 := by
  have h1 : x.toInt < 9223372036854775808 := x.toInt_lt
  have h2 : -9223372036854775808 ≤ x.toInt := x.le_toInt
  omega
theorem band_range (a b : Int) : -9223372036854775808 ≤ band a b ∧ band a b ≤ 9223372036854775807 := by
  unfold band
  rw [show IntKind.i64.wrap (BitVec.ofInt IntKind.i64.bits a &&& BitVec.ofInt IntKind.i64.bits b).toNat = (BitVec.ofInt 64 a &&& BitVec.ofInt 64 b).toInt from wrap_bv _]
  exact bv_rng _
theorem band_comm (a b : Int) : band a b = band b a := by
  unfold band
  rw [BitVec.and_comm]
def commonF (objs : Int) : List Int → Nat → Int → Int
  | [], _, acc => acc
  | x :: r, i, acc => commonF objs r (i + 1) (bif hasE objs i then band acc x else acc)
def Rng (x : Int) : Prop := -9223372036854775808 ≤ x ∧ x ≤ 9223372036854775807
theorem commonF_rng (s : Int) : ∀ (a : List Int) (i : Nat) (acc : Int), Rng acc → Rng (commonF s a i acc)
  | [], _, _, h => h
  | x :: r, i, acc, h => by
    unfold commonF
    refine commonF_rng s r (i + 1) _ ?_
    cases hasE s i
    · exact h
    · exact band_range acc x
theorem fullSet_rng (n : Int) : 0 ≤ fullSet n ∧ fullSet n ≤ 255 := by
  unfold fullSet
  split
  · rename_i h
    have h : n = 0 ∨ n = 1 ∨ n = 2 ∨ n = 3 ∨ n = 4 ∨ n = 5 ∨ n = 6 ∨ n = 7 ∨ n = 8 := by omega
    rcases h with rfl | rfl | rfl | rfl | rfl | rfl | rfl | rfl | rfl <;> decide
  · omega
def intentF (m : Int) (a : List Int) (s : Int) : Int := commonF s a 0 (fullSet m)
theorem intentF_rng (m : Int) (a : List Int) (s : Int) : Rng (intentF m a s) := by
  refine commonF_rng s a 0 _ ?_
  have := fullSet_rng m
  unfold Rng
  omega
theorem isSet_le {n s : Int} (h : isSet n s = true) : 0 ≤ n ∧ n ≤ 8 ∧ 0 ≤ s ∧ s ≤ 255 := by
  unfold isSet at h
  have h := of_decide_eq_true h
  have h8 : n = 0 ∨ n = 1 ∨ n = 2 ∨ n = 3 ∨ n = 4 ∨ n = 5 ∨ n = 6 ∨ n = 7 ∨ n = 8 := by omega
  rcases h8 with rfl | rfl | rfl | rfl | rfl | rfl | rfl | rfl | rfl <;> simp at h <;> omega
theorem isSet_8 {n s : Int} (h : isSet n s = true) : isSet 8 s = true := by
  have := isSet_le h
  rw [isSet8]
  exact decide_eq_true (by omega)
theorem isCtx_len {m : Int} {a : List Int} (h : isCtx m a = true) : a.length ≤ 8 ∧ 0 ≤ m ∧ m ≤ 6 ∧ ∀ x ∈ a, isSet m x = true := by
  unfold isCtx at h
  simp only [Bool.and_eq_true, decide_eq_true_eq, List.all_eq_true] at h
  exact ⟨h.1.2, h.1.1.1, h.1.1.2, h.2⟩
theorem shl1 {i : Nat} (h : i ≤ 8) : IntKind.i64.wrap (1 * 2 ^ min (i : Int).toNat IntKind.i64.bits) = ((2 ^ i : Nat) : Int) := by
  have h : i = 0 ∨ i = 1 ∨ i = 2 ∨ i = 3 ∨ i = 4 ∨ i = 5 ∨ i = 6 ∨ i = 7 ∨ i = 8 := by omega
  rcases h with rfl | rfl | rfl | rfl | rfl | rfl | rfl | rfl | rfl <;> decide
theorem shl1u {i : Nat} (h : i ≤ 8) : IntKind.i64.wrap (1 * 2 ^ min (IntKind.u64.wrap (i : Int)).toNat IntKind.i64.bits) = ((2 ^ i : Nat) : Int) := by
  rw [wrapu (by omega) (by omega)]
  exact shl1 h
def orF (p : Int → Bool) : Nat → Nat → Int → Int
  | 0, _, acc => acc
  | d + 1, i, acc => orF p d (i + 1) (bif p i then bor acc ((2 ^ i : Nat) : Int) else acc)
theorem orF_ext {p q : Int → Bool} : ∀ (d i : Nat) (acc : Int), (∀ j : Nat, i ≤ j → j < i + d → p j = q j) → orF p d i acc = orF q d i acc
  | 0, _, _, _ => rfl
  | d + 1, i, acc, h => by
    rw [orF, orF, h i (by omega) (by omega), orF_ext d (i + 1) _ (fun j h1 h2 => h j (by omega) (by omega))]
def bitAt (b : List Int) (e i : Int) : Bool := (b.getD i.toNat 0).toNat.testBit e.toNat
/-- The objects that have an attribute. -/
def colF (b : List Int) (e : Int) : Int := orF (bitAt b e) b.length 0 0
theorem ofInt_nat (x : Nat) : BitVec.ofInt 64 (x : Int) = BitVec.ofNat 64 x := by
  apply BitVec.eq_of_toNat_eq
  simp [BitVec.toNat_ofInt]
theorem bor_nat {x y : Nat} (hx : x < 256) (hy : y < 256) : bor (x : Int) (y : Int) = ((x ||| y : Nat) : Int) := by
  unfold bor
  have e : (BitVec.ofInt 64 (x : Int) ||| BitVec.ofInt 64 (y : Int)).toNat = x ||| y := by
    rw [BitVec.toNat_or, ofInt_nat, ofInt_nat, BitVec.toNat_ofNat, BitVec.toNat_ofNat, Nat.mod_eq_of_lt (by omega), Nat.mod_eq_of_lt (by omega)]
  have h : x ||| y < 2 ^ 8 := Nat.or_lt_two_pow (by omega) (by omega)
  rw [show (BitVec.ofInt IntKind.i64.bits (x : Int) ||| BitVec.ofInt IntKind.i64.bits (y : Int)).toNat = x ||| y from e]
  exact wrap64 (by omega) (by omega)
theorem bor_set {x y : Int} (hx : 0 ≤ x ∧ x ≤ 255) (hy : 0 ≤ y ∧ y ≤ 255) : 0 ≤ bor x y ∧ bor x y ≤ 255 := by
  obtain ⟨a, rfl⟩ : ∃ a : Nat, x = a := ⟨x.toNat, by omega⟩
  obtain ⟨b, rfl⟩ : ∃ b : Nat, y = b := ⟨y.toNat, by omega⟩
  rw [bor_nat (by omega) (by omega)]
  have h : a ||| b < 2 ^ 8 := Nat.or_lt_two_pow (by omega) (by omega)
  omega
theorem orF_set (p : Int → Bool) : ∀ (d i : Nat) (acc : Int), i + d ≤ 8 → 0 ≤ acc → acc ≤ 255 → 0 ≤ orF p d i acc ∧ orF p d i acc ≤ 255
  | 0, _, acc, _, h0, h1 => ⟨h0, h1⟩
  | d + 1, i, acc, h, h0, h1 => by
    unfold orF
    cases p i
    · exact orF_set p d (i + 1) acc (by omega) h0 h1
    · have hp : 2 ^ i ≤ 2 ^ 7 := Nat.pow_le_pow_right (by omega) (by omega)
      have hb := bor_set (x := acc) (y := ((2 ^ i : Nat) : Int)) ⟨h0, h1⟩ ⟨Int.natCast_nonneg _, Int.ofNat_le.2 (by omega : 2 ^ i ≤ 255)⟩
      exact orF_set p d (i + 1) _ (by omega) hb.1 hb.2
theorem colF_set (b : List Int) (e : Int) (h : b.length ≤ 8) : 0 ≤ colF b e ∧ colF b e ≤ 255 := orF_set _ _ _ _ (by omega) (by omega) (by omega)
def attrOk (m : Int) (b : List Int) (e : Int) : Bool := isCtx m b && decide (0 ≤ e ∧ e ≤ m - 1)
def badR (r : Int × Int) : Bool := !(isSet 8 r.1 && isSet 8 r.2)
def respOf (p q s : Int) : Bool := isSet 8 p && isSet 8 q && isSet 8 s && (!(bnot p s == 0) || bnot q s == 0)
theorem bne_bnot {p s : Int} (h : isSet 8 p = true) : (band p s != p) = !(bnot p s == 0) := by
  rw [isSet8] at h
  have h := of_decide_eq_true h
  have e := sub_iff (a := p) (b := s) (by omega) (by omega)
  simp only [bne]
  congr 1
  rw [Bool.eq_iff_iff, beq_iff_eq, beq_iff_eq, e]
theorem beq_bnot {p s : Int} (h : isSet 8 p = true) : (band p s == p) = (bnot p s == 0) := by
  have := bne_bnot (s := s) h
  simpa [bne] using this
def firstI {α : Type} (p : α → Bool) : List α → Int → Int
  | [], _ => -1
  | x :: r, i => bif p x then i else firstI p r (i + 1)
theorem firstI_iff {α : Type} (p : α → Bool) : ∀ (l : List α) (i : Int), 0 ≤ i → (decide (firstI p l i ≥ 0)) = l.any p
  | [], i, h => by simp [firstI]
  | x :: r, i, h => by
    cases hx : p x
    · simp only [firstI, hx, cond_false, List.any_cons, Bool.false_or]
      exact firstI_iff p r (i + 1) (by omega)
    · simp [firstI, hx]
      omega
theorem firstI_none {α : Type} (p : α → Bool) : ∀ (l : List α) (i : Int), l.any p = false → firstI p l i = -1
  | [], i, h => rfl
  | x :: r, i, h => by
    simp only [List.any_cons, Bool.or_eq_false_iff] at h
    simp only [firstI, h.1, cond_false]
    exact firstI_none p r (i + 1) h.2
def idxs {α : Type} (p : α → Bool) : List α → Int → List Int
  | [], _ => []
  | x :: r, i => bif p x then i :: idxs p r (i + 1) else idxs p r (i + 1)
def brk (a : List (Int × Int)) (s : Int) : List Int := idxs (fun r => !respOf r.1 r.2 s) a 0
theorem idxs_length {α : Type} (p : α → Bool) : ∀ (l : List α) (i : Int), (idxs p l i).length ≤ l.length
  | [], i => by simp [idxs]
  | x :: r, i => by
    have := idxs_length p r (i + 1)
    cases hx : p x <;> simp [idxs, hx] <;> omega
def colsL (b : List Int) : Nat → Nat → List Int
  | 0, _ => []
  | d + 1, i => colF b i :: colsL b d (i + 1)
theorem colsL_length (b : List Int) : ∀ (d i : Nat), (colsL b d i).length = d
  | 0, _ => rfl
  | d + 1, i => by rw [colsL, List.length_cons, colsL_length b d (i + 1)]
theorem colsL_get (b : List Int) : ∀ (d i j : Nat), j < d → (colsL b d i).getD j 0 = colF b ((i + j : Nat) : Int)
  | 0, _, _, h => by omega
  | d + 1, i, 0, _ => by rw [colsL]; rfl
  | d + 1, i, j + 1, h => by
    rw [colsL, List.getD_cons_succ, colsL_get b d (i + 1) j (by omega)]
    congr 2
    omega
def colsF (m : Int) (b : List Int) : List Int := colsL b m.toNat 0
def beyondF (s : Int) : List Int → Int → Int
  | [], acc => acc
  | t :: r, acc => beyondF s r (bif (t != s) && (bnot s t == 0) then band acc t else acc)
def reducF (m : Int) (b : List Int) (e : Int) : Bool := beyondF (colF b e) (colsF m b) (fullSet b.length) == colF b e
def repAt (l : List Int) (i : Int) : Bool := (l.take i.toNat).any (fun y => l.getD i.toNat 0 == y)
def repF (l : List Int) : Int := orF (repAt l) l.length 0 0
theorem orF_bit (p : Int → Bool) : ∀ (d i : Nat) (acc : Int) (e : Nat), i + d ≤ 8 → 0 ≤ acc → acc ≤ 255 → (orF p d i acc).toNat.testBit e = (acc.toNat.testBit e || (decide (i ≤ e ∧ e < i + d) && p e))
  | 0, i, acc, e, _, _, _ => by
    rw [orF, df (by omega)]
    simp
  | d + 1, i, acc, e, h, h0, h1 => by
    have hp2 : 2 ^ i ≤ 2 ^ 7 := Nat.pow_le_pow_right (by omega) (by omega)
    have hb := bor_set (x := acc) (y := ((2 ^ i : Nat) : Int)) ⟨h0, h1⟩ ⟨Int.natCast_nonneg _, Int.ofNat_le.2 (by omega : 2 ^ i ≤ 255)⟩
    obtain ⟨q, rfl⟩ : ∃ q : Nat, acc = q := ⟨acc.toNat, by omega⟩
    have hor : bor (q : Int) ((2 ^ i : Nat) : Int) = ((q ||| 2 ^ i : Nat) : Int) := bor_nat (by omega) (by omega)
    rw [orF]
    cases hpi : p i
    · rw [cond_false, orF_bit p d (i + 1) _ e (by omega) h0 h1]
      congr 1
      by_cases he : e = i
      · subst he
        rw [hpi, Bool.and_false, Bool.and_false]
      · congr 1
        exact decide_eq_decide.2 (by omega)
    · rw [cond_true, orF_bit p d (i + 1) _ e (by omega) hb.1 hb.2, hor, Int.toNat_natCast, Int.toNat_natCast, Nat.testBit_or, Bool.or_assoc]
      congr 1
      by_cases he : e = i
      · subst he
        have h4 : decide (e ≤ e ∧ e < e + (d + 1)) = true := dt (by omega)
        rw [hpi, Nat.testBit_two_pow_self, h4, Bool.true_or]
        rfl
      · rw [Nat.testBit_two_pow_of_ne (fun h => he h.symm), Bool.false_or]
        congr 1
        exact decide_eq_decide.2 (by omega)
theorem hasE_orF (p : Int → Bool) {n : Nat} {e : Nat} (hn : n ≤ 8) (he : e < n) : hasE (orF p n 0 0) e = p e := by
  have hs := orF_set p n 0 0 (by omega) (by omega) (by omega)
  unfold hasE
  rw [isSet8, dt hs, dt (show 0 ≤ (e : Int) ∧ (e : Int) ≤ 7 by omega), Int.toNat_natCast, orF_bit p n 0 0 e (by omega) (by omega) (by omega), dt (by omega)]
  simp
/-- f holds of i, .., i + d - 1. -/
def allB (f : Nat → Bool) : Nat → Nat → Bool
  | 0, _ => true
  | d + 1, i => f i && allB f d (i + 1)
theorem allB_iff (f : Nat → Bool) : ∀ (d i : Nat), allB f d i = true ↔ ∀ j, i ≤ j → j < i + d → f j = true
  | 0, i => by simp only [allB, true_iff]; intro j h1 h2; omega
  | d + 1, i => by
    rw [allB, Bool.and_eq_true, allB_iff f d (i + 1)]
    constructor
    · rintro ⟨h1, h2⟩ j h3 h4
      by_cases h : j = i
      · rw [h]; exact h1
      · exact h2 j (by omega) (by omega)
    · intro h
      exact ⟨h i (by omega) (by omega), fun j h1 h2 => h j (by omega) (by omega)⟩
def bitI (s e : Int) : Bool := s.toNat.testBit e.toNat
def ordA (b : List Int) (a : Nat) : Bool := isSet b.length (b.getD a 0) && bitI (b.getD a 0) a
def ordBad (b : List Int) (a c : Nat) : Bool := bitI (b.getD a 0) c && ((band (b.getD c 0) (b.getD a 0) != b.getD c 0) || (decide ((a : Int) ≠ c) && bitI (b.getD c 0) a))
def ordRow (b : List Int) (a : Nat) : Bool := allB (fun c => !ordBad b a c) b.length 0
def isOrd (b : List Int) : Bool := decide (b.length ≤ 6) && (allB (ordA b) b.length 0 && allB (ordRow b) b.length 0)
theorem ordA_set {b : List Int} (h : allB (ordA b) b.length 0 = true) {a : Nat} (ha : a < b.length) : isSet b.length (b.getD a 0) = true := by
  have := (allB_iff _ _ _).1 h a (by omega) (by omega)
  unfold ordA at this
  exact (Bool.and_eq_true_iff.1 this).1
theorem isSet_bit {n s : Int} (h : isSet n s = true) {e : Nat} (he : n ≤ e) : bitI s e = false := by
  have hl := isSet_le h
  unfold isSet at h
  have h := of_decide_eq_true h
  unfold bitI
  refine Nat.testBit_lt_two_pow ?_
  have h1 : s.toNat < 2 ^ n.toNat := by
    have := h.2.2
    have e2 : ((2 ^ n.toNat : Nat) : Int) = (2 : Int) ^ n.toNat := by push_cast; rfl
    omega
  exact Nat.lt_of_lt_of_le h1 (Nat.pow_le_pow_right (by omega) (by omega))
theorem hasE_bit {s e : Int} (h : isSet 8 s = true) (h0 : 0 ≤ e) (h7 : e ≤ 7) : hasE s e = bitI s e := by
  unfold hasE bitI
  rw [h, dt (show 0 ≤ e ∧ e ≤ 7 from ⟨h0, h7⟩)]
  rfl
def elemsL (s : Int) : Nat → Nat → List Int
  | 0, _ => []
  | d + 1, i => bif hasE s i then (i : Int) :: elemsL s d (i + 1) else elemsL s d (i + 1)
def elemsF (s : Int) : List Int := elemsL s 8 0
theorem elemsL_length (s : Int) : ∀ (d i : Nat), (elemsL s d i).length ≤ d
  | 0, _ => Nat.le_refl 0
  | d + 1, i => by
    have := elemsL_length s d (i + 1)
    unfold elemsL
    cases hasE s i <;> simp <;> omega
theorem elemsL_any (s : Int) (p : Int → Bool) : ∀ (d i : Nat), (elemsL s d i).any p = !allB (fun e => !(hasE s e && p e)) d i
  | 0, _ => rfl
  | d + 1, i => by
    unfold elemsL allB
    cases h : hasE s i
    · rw [cond_false, elemsL_any s p d (i + 1)]; simp
    · rw [cond_true, List.any_cons, elemsL_any s p d (i + 1)]; simp
theorem elemsL_mem (s : Int) (x : Int) : ∀ (d i : Nat), x ∈ elemsL s d i → ∃ e : Nat, x = e ∧ i ≤ e ∧ e < i + d ∧ hasE s e = true
  | 0, _, h => by simp [elemsL] at h
  | d + 1, i, h => by
    unfold elemsL at h
    cases hE : hasE s i
    · rw [hE, cond_false] at h
      obtain ⟨e, h1, h2, h3, h4⟩ := elemsL_mem s x d (i + 1) h
      exact ⟨e, h1, by omega, by omega, h4⟩
    · rw [hE, cond_true] at h
      rcases List.mem_cons.1 h with h | h
      · exact ⟨i, h, by omega, by omega, hE⟩
      · obtain ⟨e, h1, h2, h3, h4⟩ := elemsL_mem s x d (i + 1) h
        exact ⟨e, h1, by omega, by omega, h4⟩
theorem elemsF_lt {n : Nat} {s x : Int} (h : isSet n s = true) (hx : x ∈ elemsF s) : 0 ≤ x ∧ x < n ∧ x ≤ 7 := by
  obtain ⟨e, h1, h2, h3, h4⟩ := elemsL_mem s x 8 0 hx
  subst h1
  rw [hasE_bit (isSet_8 h) (by omega) (by omega)] at h4
  refine ⟨by omega, ?_, by omega⟩
  rcases Nat.lt_or_ge e n with h5 | h5
  · omega
  · rw [isSet_bit h (by omega)] at h4
    cases h4
theorem allB_ext {f g : Nat → Bool} : ∀ (d i : Nat), (∀ j, i ≤ j → j < i + d → f j = g j) → allB f d i = allB g d i
  | 0, _, _ => rfl
  | d + 1, i, h => by
    rw [allB, allB, h i (by omega) (by omega), allB_ext d (i + 1) (fun j h1 h2 => h j (by omega) (by omega))]
theorem allB_cut {f : Nat → Bool} {d : Nat} : ∀ (n i : Nat), n ≤ d → (∀ j, i + n ≤ j → j < i + d → f j = true) → allB f d i = allB f n i := by
  intro n i hn h
  rw [Bool.eq_iff_iff, allB_iff, allB_iff]
  constructor
  · intro g j h1 h2; exact g j h1 (by omega)
  · intro g j h1 h2
    rcases Nat.lt_or_ge j (i + n) with h3 | h3
    · exact g j h1 h3
    · exact h j h3 h2
/-- A statement on a set's elements, and on the numbers below. -/
theorem elems_all {n : Nat} {s : Int} (h : isSet n s = true) (p : Int → Bool) : (elemsF s).any p = !allB (fun e => !(bitI s e && p e)) n 0 := by
  have hl := isSet_le h
  unfold elemsF
  rw [elemsL_any]
  congr 1
  rw [allB_cut n 0 (by omega)]
  · refine allB_ext n 0 (fun j h1 h2 => ?_)
    rw [hasE_bit (isSet_8 h) (by omega) (by omega)]
  · intro j h1 h2
    rw [hasE_bit (isSet_8 h) (by omega) (by omega), isSet_bit h (by omega)]
    rfl
def pairBad (b : List Int) (k : Nat) (s x : Int) : Bool := !(bnot (b.getD x.toNat 0) s == 0) || (decide (x ≠ k) && hasE (b.getD x.toNat 0) k)
theorem pairBad_row {b : List Int} (hl : b.length ≤ 6) (h : allB (ordA b) b.length 0 = true) {a : Nat} (ha : a < b.length) : (elemsF (b.getD a 0)).any (pairBad b a (b.getD a 0)) = !ordRow b a := by
  rw [elems_all (ordA_set h ha)]
  congr 1
  unfold ordRow
  refine allB_ext _ 0 (fun j h1 h2 => ?_)
  have hs := ordA_set h (show j < b.length by omega)
  have hr := isSet_le hs
  unfold ordBad pairBad
  rw [Int.toNat_natCast, hasE_bit (isSet_8 hs) (by omega) (by omega), ← bne_bnot (isSet_8 hs)]
  have e : decide ((j : Int) ≠ a) = decide ((a : Int) ≠ j) := decide_eq_decide.2 ⟨fun h => fun e => h e.symm, fun h => fun e => h e.symm⟩
  rw [e]
def dupF (b : List Int) (e : Int) : Bool := !allB (fun j => !(colF b j == colF b e)) e.toNat 0
theorem any_take (l : List Int) (p : Int → Bool) : ∀ (e : Nat), e ≤ l.length → (l.take e).any p = !allB (fun j => !p (l.getD j 0)) e 0 := by
  intro e he
  rw [Bool.eq_iff_iff, List.any_eq_true, Bool.not_eq_true', ← Bool.not_eq_true, allB_iff]
  constructor
  · rintro ⟨x, hx, hp⟩ h
    obtain ⟨j, hj, rfl⟩ := List.mem_take_iff_getElem.1 hx
    have h1 := h j (by omega) (by omega)
    have h2 : l.getD j 0 = l[j] := by rw [List.getD_eq_getElem?_getD, List.getElem?_eq_getElem (by omega)]; rfl
    rw [h2, hp] at h1
    cases h1
  · intro h
    have h := Classical.not_forall.1 h
    obtain ⟨j, hj⟩ := h
    have hj := Classical.not_imp.1 hj
    have hj2 := Classical.not_imp.1 hj.2
    have h2 : l.getD j 0 = l[j]'(by omega) := by rw [List.getD_eq_getElem?_getD, List.getElem?_eq_getElem (by omega)]; rfl
    refine ⟨l[j]'(by omega), List.mem_take_iff_getElem.2 ⟨j, by omega, rfl⟩, ?_⟩
    rw [← h2]
    simpa using hj2.2
theorem rep_dup {m : Int} {b : List Int} {e : Int} (h : attrOk m b e = true) : hasE (repF (colsF m b)) e = dupF b e := by
  unfold attrOk at h
  have h2 := Bool.and_eq_true_iff.1 h
  have hl := isCtx_len h2.1
  have hd := ofd h2.2
  obtain ⟨n, rfl⟩ : ∃ n : Nat, e = n := ⟨e.toNat, by omega⟩
  have hlen : (colsF m b).length = m.toNat := colsL_length b _ _
  unfold repF
  rw [hasE_orF _ (by rw [hlen]; omega) (by rw [hlen]; omega)]
  unfold repAt dupF
  rw [Int.toNat_natCast, any_take _ _ _ (by rw [hlen]; omega)]
  congr 1
  refine allB_ext _ 0 (fun j h1 h2 => ?_)
  unfold colsF
  rw [colsL_get b _ 0 n (by omega), colsL_get b _ 0 j (by omega), Nat.zero_add, Nat.zero_add]
  congr 1
  rw [Bool.eq_iff_iff, beq_iff_eq, beq_iff_eq]
  exact ⟨fun h => h.symm, fun h => h.symm⟩
def vecF (m : Int) (b : List Int) (e : Int) : Int × Int × Bool := bif attrOk m b e then (bif dupF b e || reducF m b e then (0, 0, true) else (2 * e + 1 - m, 1, true)) else (0, 0, false)
/- spec.l1In -/
def K_l1In : List AV → List Ob → Option (AV × List Ob)
  | [.int .i64 n, .int .i64 l, .int .i64 h], [] => gd (True) (.bool (decide (l ≤ n ∧ n ≤ h)), [])
  | _, _ => none
@[reducible] def E_l1In : Env := mkE (tb []) (fun f => false) (fun r => ([], []))
theorem ev_l1In (n l h : Int) (hp : True) : evF E_l1In (1) Try.f48 [.int .i64 n, .int .i64 l, .int .i64 h] [] = some (.bool (decide (l ≤ n ∧ n ≤ h)), []) := by
  conv => lhs; whnf
  refine br_c (fun h1 => ?_) (fun h1 => ?_)
  · conv => lhs; whnf
    repeat ((first | with_reducible apply br_tt | with_reducible apply br_ff | with_reducible apply br_nf | with_reducible apply br_nt | with_reducible refine br_d ?_ (by kernel_rfl) | with_reducible apply br_t h1 | with_reducible apply br_f h1); conv => lhs; whnf)
    have := ofd h1
    simp [this]
  · conv => lhs; whnf
    repeat ((first | with_reducible apply br_tt | with_reducible apply br_ff | with_reducible apply br_nf | with_reducible apply br_nt | with_reducible refine br_d ?_ (by kernel_rfl) | with_reducible apply br_t h1 | with_reducible apply br_f h1); conv => lhs; whnf)
    have := ofn h1
    simp [this]
theorem ok_l1In : FnOk Try.prog 48 K_l1In := by
  refine fn_ok (fn := Try.f48) (k := Try.f48.ntmps) (E := E_l1In) (facts_of (List.forall_mem_nil _)) (by kernel_rfl) rfl (by decide +kernel) (by decide +kernel) ?_
  intro avs hin r h
  unfold K_l1In at h
  split at h
  · obtain ⟨hp, rfl⟩ := gd_o h
    exact ⟨_, ev_l1In _ _ _ hp, rfl⟩
  · cases h

/- spec.IsSet -/
def K_specIsSet : List AV → List Ob → Option (AV × List Ob)
  | [.int .i64 n, .int .i64 s], [] => gd (True) (.bool (isSet n s), [])
  | _, _ => none
@[reducible] def E_specIsSet : Env := mkE (tb [(48, K_l1In)]) (fun f => false) (fun r => ([], []))
theorem ev_specIsSet (n s : Int) (hp : True) : evF E_specIsSet (1) Try.f59 [.int .i64 n, .int .i64 s] [] = some (.bool (isSet n s), []) := by
  conv => lhs; whnf
  conv => lhs; arg 1; whnf
  refine bnd_g (by exact True.intro) ?_
  conv => lhs; whnf
  refine br_c (fun h => ?_) (fun h => ?_)
  · conv => lhs; whnf
    have h8 := ofd h
    repeat ((first | with_reducible apply br_tt | with_reducible apply br_ff | with_reducible apply br_nf | with_reducible apply br_nt | with_reducible refine br_d ?_ (by kernel_rfl) | with_reducible apply br_t h | with_reducible apply br_f h); conv => lhs; whnf)
    rw [wrapu h8.1 h8.2]
    refine br_f (df (by omega)) ?_
    conv => lhs; whnf
    repeat ((first | with_reducible apply br_tt | with_reducible apply br_ff | with_reducible apply br_nf | with_reducible apply br_nt | with_reducible refine br_d ?_ (by kernel_rfl) | with_reducible apply br_t h | with_reducible apply br_f h); conv => lhs; whnf)
    conv => lhs; arg 1; whnf
    refine bnd_g (by exact True.intro) ?_
    conv => lhs; whnf
    repeat ((first | with_reducible apply br_tt | with_reducible apply br_ff | with_reducible apply br_nf | with_reducible apply br_nt | with_reducible refine br_d ?_ (by kernel_rfl) | with_reducible apply br_t h | with_reducible apply br_f h); conv => lhs; whnf)
    refine okB ?_
    unfold isSet
    refine decide_eq_decide.2 ?_
    rw [shl_set h8.1 h8.2]
    exact ⟨fun h => ⟨h8, h⟩, fun h => h.2⟩
  · conv => lhs; whnf
    repeat ((first | with_reducible apply br_tt | with_reducible apply br_ff | with_reducible apply br_nf | with_reducible apply br_nt | with_reducible refine br_d ?_ (by kernel_rfl) | with_reducible apply br_t h | with_reducible apply br_f h); conv => lhs; whnf)
    have h8 := ofn h
    simp [isSet, h8]
theorem ok_specIsSet : FnOk Try.prog 59 K_specIsSet := by
  refine fn_ok (fn := Try.f59) (k := Try.f59.ntmps) (E := E_specIsSet) (facts_of (List.forall_mem_cons.2 ⟨ok_l1In, List.forall_mem_nil _⟩)) (by kernel_rfl) rfl (by decide +kernel) (by decide +kernel) ?_
  intro avs hin r h
  unfold K_specIsSet at h
  split at h
  · obtain ⟨hp, rfl⟩ := gd_o h
    exact ⟨_, ev_specIsSet _ _ hp, rfl⟩
  · cases h

/- spec.IsContext -/
def K_specIsContext : List AV → List Ob → Option (AV × List Ob)
  | [.agg [.int .i64 m, .lst (.int .i64) a]], [] => gd (a.length < 4611686018427387904) (.bool (isCtx m a), [])
  | _, _ => none
@[reducible] def E_specIsContext : Env := mkE (tb [(59, K_specIsSet), (48, K_l1In)]) (fun f => false) (fun r => bif r == 2 then ([1, 3], [1, 2]) else ([], []))
theorem lp_specIsContext (m : Int) (a : List Int) (ha : a.length < 4611686018427387904) (k : AX → S → Option (AV × List Ob)) (r : Option (AV × List Ob)) (hk : k .ret (mkS [1, 2] [.ptr 0 0, .bool false] [some (.box 27 [.int .i64 m, .lst (.int .i64) a])]) = r) (d : Nat) : ∀ (n i : Nat) (x : Int), a.length - i = d → i ≤ a.length → x = i → d < n →
    lpAt E_specIsContext (lp E_specIsContext 0 n) 0 (loopAt Try.f47 0) (mkS [1, 3] [.ptr 0 0, .int .i64 x] [some (.box 27 [.int .i64 m, .lst (.int .i64) a])]) k =
      if (a.drop i).all (isSet m) then k (.exit 0) (mkS [1, 2] [.ptr 0 0, .any] [some (.box 27 [.int .i64 m, .lst (.int .i64) a])]) else r := by
  induction d with
  | zero =>
    intro n i x hd hi hx hn
    subst hx
    rw [lpAt_def]
    conv => lhs; whnf
    refine br_f (df (by omega)) ?_
    conv => lhs; whnf
    rw [List.drop_of_length_le (by omega), if_pos (by rfl)]
  | succ d ih =>
    intro n i x hd hi hx hn
    obtain ⟨n, rfl⟩ : ∃ m, n = m + 1 := ⟨n - 1, by omega⟩
    subst hx
    rw [lpAt_def]
    conv => lhs; whnf
    refine br_t (dt (by omega)) ?_
    conv => lhs; whnf
    refine br_t (dt2 (by omega) (by omega)) ?_
    conv => lhs; whnf
    conv => lhs; arg 1; whnf
    refine bnd_g (by exact True.intro) ?_
    conv => lhs; whnf
    refine br_t (by kernel_rfl) ?_
    conv => lhs; whnf
    rw [getD_drop (l := a) (i := i) (d := 0) (by omega)]
    refine br_c (fun h => ?_) (fun h => ?_)
    · have h' : isSet m (a.getD i 0) = false := by simpa using h
      conv => lhs; whnf
      rw [if_neg (by rw [List.all_cons, h', Bool.false_and]; exact Bool.false_ne_true)]
      exact hk
    · have h' : isSet m (a.getD i 0) = true := by simpa using h
      conv => lhs; whnf
      rw [ih n (i + 1) _ (by omega) (by omega) (by rw [wrap64 (by omega) (by omega)]; simp) (by omega)]
      rw [List.all_cons, h', Bool.true_and]
theorem ev_specIsContext (m : Int) (a : List Int) (hp : a.length < 4611686018427387904) : evF E_specIsContext (a.length + 2) Try.f47 [.agg [.int .i64 m, .lst (.int .i64) a]] [] = some (.bool (isCtx m a), []) := by
  conv => lhs; whnf
  refine (lp_specIsContext m a hp _ _ rfl a.length _ 0 0 rfl (by omega) rfl (by omega)).trans ?_
  simp only [List.drop_zero]
  split
  · rename_i hA
    conv => lhs; whnf
    conv => lhs; arg 1; whnf
    refine bnd_g (by exact True.intro) ?_
    conv => lhs; whnf
    refine br_c (fun h => ?_) (fun h => ?_)
    · conv => lhs; whnf
      repeat ((first | with_reducible apply br_tt | with_reducible apply br_ff | with_reducible apply br_nf | with_reducible apply br_nt | with_reducible refine br_d ?_ (by kernel_rfl) | with_reducible apply br_t h | with_reducible apply br_f h); conv => lhs; whnf)
      refine okB ?_
      unfold isCtx
      rw [h, hA, Bool.true_and, Bool.and_true]
      exact decide_eq_decide.2 (by omega)
    · conv => lhs; whnf
      repeat ((first | with_reducible apply br_tt | with_reducible apply br_ff | with_reducible apply br_nf | with_reducible apply br_nt | with_reducible refine br_d ?_ (by kernel_rfl) | with_reducible apply br_t h | with_reducible apply br_f h); conv => lhs; whnf)
      refine okB ?_
      unfold isCtx
      rw [h, Bool.false_and, Bool.false_and]
  · rename_i hA
    conv => lhs; whnf
    refine okB ?_
    unfold isCtx
    rw [Bool.not_eq_true] at hA
    rw [hA, Bool.and_false]
theorem ok_specIsContext : FnOk Try.prog 47 K_specIsContext := by
  refine fn_ok (fn := Try.f47) (k := Try.f47.ntmps) (E := E_specIsContext) (facts_of (List.forall_mem_cons.2 ⟨ok_specIsSet, List.forall_mem_cons.2 ⟨ok_l1In, List.forall_mem_nil _⟩⟩)) (by kernel_rfl) rfl (by decide +kernel) (by decide +kernel) ?_
  intro avs hin r h
  unfold K_specIsContext at h
  split at h
  · obtain ⟨hp, rfl⟩ := gd_o h
    exact ⟨_, ev_specIsContext _ _ hp, rfl⟩
  · cases h

/- spec.l2Has -/
def K_l2Has : List AV → List Ob → Option (AV × List Ob)
  | [.int .i64 s, .int .i64 e], [] => gd ((0 ≤ s ∧ s ≤ 255) ∧ (0 ≤ e ∧ e ≤ 8)) (.bool (s.toNat.testBit e.toNat), [])
  | _, _ => none
@[reducible] def E_l2Has : Env := mkE (tb []) (fun f => false) (fun r => ([], []))
theorem ev_l2Has (s e : Int) (hp : (0 ≤ s ∧ s ≤ 255) ∧ (0 ≤ e ∧ e ≤ 8)) : evF E_l2Has (1) Try.f72 [.int .i64 s, .int .i64 e] [] = some (.bool (s.toNat.testBit e.toNat), []) := by
  obtain ⟨⟨h0, h1⟩, h2, h3⟩ := hp
  conv => lhs; whnf
  rw [wrapu h2 h3]
  refine br_f (df (by omega)) ?_
  conv => lhs; whnf
  exact okB (bit_of h0 h1 h2 h3)
theorem ok_l2Has : FnOk Try.prog 72 K_l2Has := by
  refine fn_ok (fn := Try.f72) (k := Try.f72.ntmps) (E := E_l2Has) (facts_of (List.forall_mem_nil _)) (by kernel_rfl) rfl (by decide +kernel) (by decide +kernel) ?_
  intro avs hin r h
  unfold K_l2Has at h
  split at h
  · obtain ⟨hp, rfl⟩ := gd_o h
    exact ⟨_, ev_l2Has _ _ hp, rfl⟩
  · cases h

/- spec.l3Column -/
def K_l3Column : List AV → List Ob → Option (AV × List Ob)
  | [.agg [.int .i64 m, .lst (.int .i64) b], .int .i64 e], [] => gd ((0 ≤ e ∧ e ≤ 8) ∧ b.length ≤ 8 ∧ ∀ x ∈ b, 0 ≤ x ∧ x ≤ 255) (.int .i64 (colF b e), [])
  | _, _ => none
@[reducible] def E_l3Column : Env := mkE (tb [(72, K_l2Has)]) (fun f => false) (fun r => bif r == 3 then ([1, 2, 5, 6], [5]) else ([], []))
theorem lp_l3Column (m : Int) (b : List Int) (e : Int) (hb : b.length ≤ 8) (hs : ∀ x ∈ b, 0 ≤ x ∧ x ≤ 255) (he : 0 ≤ e ∧ e ≤ 8) (k : AX → S → Option (AV × List Ob)) (d : Nat) : ∀ (n i : Nat) (x q : Int), b.length - i = d → i ≤ b.length → x = i → d < n →
    lpAt E_l3Column (lp E_l3Column 0 n) 0 (loopAt Try.f52 0) (mkS [1, 2, 5, 6] [.int .i64 e, .ptr 0 0, .int .i64 q, .int .i64 x] [some (.box 27 [.int .i64 m, .lst (.int .i64) b])]) k =
      k (.exit 0) (mkS [5] [.int .i64 (orF (bitAt b e) d i q)] []) := by
  induction d with
  | zero =>
    intro n i x q hd hi hx hn
    subst hx
    rw [lpAt_def]
    conv => lhs; whnf
    refine br_f (df (by omega)) ?_
    conv => lhs; whnf
    rfl
  | succ d ih =>
    intro n i x q hd hi hx hn
    obtain ⟨n, rfl⟩ : ∃ m, n = m + 1 := ⟨n - 1, by omega⟩
    subst hx
    rw [lpAt_def]
    conv => lhs; whnf
    refine br_t (dt (by omega)) ?_
    conv => lhs; whnf
    refine br_t (dt2 (by omega) (by omega)) ?_
    conv => lhs; whnf
    conv => lhs; arg 1; whnf
    refine bnd_g (by exact ⟨hs _ (mem_getD (by omega)), he⟩) ?_
    conv => lhs; whnf
    refine br_c (fun h => ?_) (fun h => ?_)
    · have h' : bitAt b e i = true := h
      conv => lhs; whnf
      refine br_f (by (rw [wrapu (n := (i : Int)) (by omega) (by omega)]; exact df (by omega))) ?_
      conv => lhs; whnf
      rw [shl1u (by omega)]
      rw [ih n (i + 1) _ _ (by omega) (by omega) (by rw [wrap64 (by omega) (by omega)]; simp) (by omega)]
      rw [orF, h', cond_true]
      rfl
    · have h' : bitAt b e i = false := h
      conv => lhs; whnf
      rw [ih n (i + 1) _ _ (by omega) (by omega) (by rw [wrap64 (by omega) (by omega)]; simp) (by omega)]
      rw [orF, h', cond_false]
theorem ev_l3Column (m : Int) (b : List Int) (e : Int) (hp : (0 ≤ e ∧ e ≤ 8) ∧ b.length ≤ 8 ∧ ∀ x ∈ b, 0 ≤ x ∧ x ≤ 255) : evF E_l3Column (20) Try.f52 [.agg [.int .i64 m, .lst (.int .i64) b], .int .i64 e] [] = some (.int .i64 (colF b e), []) := by
  conv => lhs; whnf
  refine (lp_l3Column m b e hp.2.1 hp.2.2 hp.1 _ b.length _ 0 0 _ rfl (by omega) rfl (by have := hp.2.1; change _ < 19; omega)).trans ?_
  conv => lhs; whnf
  rfl
theorem ok_l3Column : FnOk Try.prog 52 K_l3Column := by
  refine fn_ok (fn := Try.f52) (k := Try.f52.ntmps) (E := E_l3Column) (facts_of (List.forall_mem_cons.2 ⟨ok_l2Has, List.forall_mem_nil _⟩)) (by kernel_rfl) rfl (by decide +kernel) (by decide +kernel) ?_
  intro avs hin r h
  unfold K_l3Column at h
  split at h
  · obtain ⟨hp, rfl⟩ := gd_o h
    exact ⟨_, ev_l3Column _ _ _ hp, rfl⟩
  · cases h

/- spec.FullSet -/
def K_specFullSet : List AV → List Ob → Option (AV × List Ob)
  | [.int .i64 n], [] => gd (True) (.int .i64 (fullSet n), [])
  | _, _ => none
@[reducible] def E_specFullSet : Env := mkE (tb [(48, K_l1In)]) (fun f => false) (fun r => ([], []))
theorem ev_specFullSet (n : Int) (hp : True) : evF E_specFullSet (1) Try.f65 [.int .i64 n] [] = some (.int .i64 (fullSet n), []) := by
  conv => lhs; whnf
  conv => lhs; arg 1; whnf
  refine bnd_g (by exact True.intro) ?_
  conv => lhs; whnf
  refine br_c (fun h => ?_) (fun h => ?_)
  · have h := ofnt h
    conv => lhs; whnf
    rw [fullSet, if_neg h]
  · have h := ofnf h
    conv => lhs; whnf
    rw [wrapu h.1 h.2]
    refine br_f (df (by omega)) ?_
    conv => lhs; whnf
    refine okI ?_
    rw [fullSet, if_pos h]
    exact shl_set h.1 h.2
theorem ok_specFullSet : FnOk Try.prog 65 K_specFullSet := by
  refine fn_ok (fn := Try.f65) (k := Try.f65.ntmps) (E := E_specFullSet) (facts_of (List.forall_mem_cons.2 ⟨ok_l1In, List.forall_mem_nil _⟩)) (by kernel_rfl) rfl (by decide +kernel) (by decide +kernel) ?_
  intro avs hin r h
  unfold K_specFullSet at h
  split at h
  · obtain ⟨hp, rfl⟩ := gd_o h
    exact ⟨_, ev_specFullSet _ hp, rfl⟩
  · cases h

/- spec.IsReducibleAttribute -/
def K_specIsReducible : List AV → List Ob → Option (AV × List Ob)
  | [.agg [.int .i64 m, .lst (.int .i64) b], .int .i64 e], [] => gd (b.length ≤ 1048576) (.bool (attrOk m b e && reducF m b e), [])
  | _, _ => none
@[reducible] def E_specIsReducible : Env := mkE (tb [(47, K_specIsContext), (48, K_l1In), (52, K_l3Column), (65, K_specFullSet)]) (fun f => false) (fun r => bif r == 6 then ([2, 5, 6, 7], [5, 6]) else ([], []))
theorem lp_specIsReducible (m : Int) (b : List Int) (hc : isCtx m b = true) (own : Int) (ho : 0 ≤ own ∧ own ≤ 255) (k : AX → S → Option (AV × List Ob)) (d : Nat) : ∀ (n i : Nat) (x q : Int), m.toNat - i = d → i ≤ m.toNat → x = i → d < n →
    lpAt E_specIsReducible (lp E_specIsReducible 0 n) 0 (loopAt Try.f53 0) (mkS [2, 5, 6, 7] [.ptr 0 0, .int .i64 own, .int .i64 q, .int .i64 x] [some (.box 27 [.int .i64 m, .lst (.int .i64) b])]) k =
      k (.exit 0) (mkS [5, 6] [.int .i64 own, .int .i64 (beyondF own (colsL b d i) q)] []) := by
  have hl := isCtx_len hc
  have hS : ∀ x ∈ b, 0 ≤ x ∧ x ≤ 255 := fun x hx => by have := isSet_le (hl.2.2.2 x hx); omega
  have hs : isSet 8 own = true := by rw [isSet8]; exact dt ho
  induction d with
  | zero =>
    intro n i x q hd hi hx hn
    subst hx
    rw [lpAt_def]
    conv => lhs; whnf
    refine br_f (df (by omega)) ?_
    conv => lhs; whnf
    rfl
  | succ d ih =>
    intro n i x q hd hi hx hn
    obtain ⟨n, rfl⟩ : ∃ m, n = m + 1 := ⟨n - 1, by omega⟩
    subst hx
    have e0 : (band (colF b i) own == own) = (bnot own (colF b i) == 0) := by rw [band_comm]; exact beq_bnot hs
    rw [lpAt_def]
    conv => lhs; whnf
    refine br_t (dt (by omega)) ?_
    conv => lhs; whnf
    conv => lhs; arg 1; whnf
    refine bnd_g (by exact ⟨by omega, hl.1, hS⟩) ?_
    conv => lhs; whnf
    refine br_c (fun h => ?_) (fun h => ?_)
    · have h' : (colF b i != own) = true := h
      conv => lhs; whnf
      repeat ((first | with_reducible apply br_tt | with_reducible apply br_ff | with_reducible apply br_nf | with_reducible apply br_nt | with_reducible refine br_d ?_ (by kernel_rfl) | with_reducible apply br_t h | with_reducible apply br_f h); conv => lhs; whnf)
      refine br_c (fun h2 => ?_) (fun h2 => ?_)
      · have h2' : (bnot own (colF b i) == 0) = true := e0 ▸ h2
        conv => lhs; whnf
        rw [ih n (i + 1) _ _ (by omega) (by omega) (by rw [wrap64 (by omega) (by omega)]; simp) (by omega)]
        rw [colsL, beyondF, h', h2']
        rfl
      · have h2' : (bnot own (colF b i) == 0) = false := e0 ▸ h2
        conv => lhs; whnf
        rw [ih n (i + 1) _ _ (by omega) (by omega) (by rw [wrap64 (by omega) (by omega)]; simp) (by omega)]
        rw [colsL, beyondF, h', h2']
        rfl
    · have h' : (colF b i != own) = false := h
      conv => lhs; whnf
      repeat ((first | with_reducible apply br_tt | with_reducible apply br_ff | with_reducible apply br_nf | with_reducible apply br_nt | with_reducible refine br_d ?_ (by kernel_rfl) | with_reducible apply br_t h | with_reducible apply br_f h); conv => lhs; whnf)
      rw [ih n (i + 1) _ _ (by omega) (by omega) (by rw [wrap64 (by omega) (by omega)]; simp) (by omega)]
      rw [colsL, beyondF, h']
      rfl
theorem ev_specIsReducible (m : Int) (b : List Int) (e : Int) (hp : b.length ≤ 1048576) : evF E_specIsReducible (20) Try.f53 [.agg [.int .i64 m, .lst (.int .i64) b], .int .i64 e] [] = some (.bool (attrOk m b e && reducF m b e), []) := by
  conv => lhs; whnf
  conv => lhs; arg 1; whnf
  refine bnd_g (by omega) ?_
  conv => lhs; whnf
  refine br_c (fun h => ?_) (fun h => ?_)
  · conv => lhs; whnf
    repeat ((first | with_reducible apply br_tt | with_reducible apply br_ff | with_reducible apply br_nf | with_reducible apply br_nt | with_reducible refine br_d ?_ (by kernel_rfl) | with_reducible apply br_t h | with_reducible apply br_f h); conv => lhs; whnf)
    refine okB ?_
    unfold attrOk
    rw [bnt h]
    rfl
  · have hl := isCtx_len (bnf h)
    have hw : IntKind.i64.wrap (m - 1) = m - 1 := wrap64 (by omega) (by omega)
    conv => lhs; whnf
    repeat ((first | with_reducible apply br_tt | with_reducible apply br_ff | with_reducible apply br_nf | with_reducible apply br_nt | with_reducible refine br_d ?_ (by kernel_rfl) | with_reducible apply br_t h | with_reducible apply br_f h); conv => lhs; whnf)
    conv => lhs; arg 1; whnf
    refine bnd_g (by exact True.intro) ?_
    conv => lhs; whnf
    repeat ((first | with_reducible apply br_tt | with_reducible apply br_ff | with_reducible apply br_nf | with_reducible apply br_nt | with_reducible refine br_d ?_ (by kernel_rfl) | with_reducible apply br_t h | with_reducible apply br_f h); conv => lhs; whnf)
    refine br_c (fun h2 => ?_) (fun h2 => ?_)
    · have h2' := ofnt h2
      rw [hw] at h2'
      conv => lhs; whnf
      refine okB ?_
      unfold attrOk
      rw [df h2', Bool.and_false]
      rfl
    · have h2' := ofnf h2
      rw [hw] at h2'
      have hs : ∀ x ∈ b, 0 ≤ x ∧ x ≤ 255 := fun x hx => by have := isSet_le (hl.2.2.2 x hx); omega
      have hcs := colF_set b e hl.1
      conv => lhs; whnf
      conv => lhs; arg 1; whnf
      refine bnd_g (by exact ⟨by omega, hl.1, hs⟩) ?_
      conv => lhs; whnf
      conv => lhs; arg 1; whnf
      refine bnd_g (by exact True.intro) ?_
      conv => lhs; whnf
      refine (lp_specIsReducible m b (bnf h) (colF b e) hcs _ m.toNat _ 0 0 _ rfl (by omega) rfl (by change _ < 19; omega)).trans ?_
      conv => lhs; whnf
      refine okB ?_
      unfold attrOk
      rw [bnf h, dt h2']
      rfl
theorem ok_specIsReducible : FnOk Try.prog 53 K_specIsReducible := by
  refine fn_ok (fn := Try.f53) (k := Try.f53.ntmps) (E := E_specIsReducible) (facts_of (List.forall_mem_cons.2 ⟨ok_specIsContext, List.forall_mem_cons.2 ⟨ok_l1In, List.forall_mem_cons.2 ⟨ok_l3Column, List.forall_mem_cons.2 ⟨ok_specFullSet, List.forall_mem_nil _⟩⟩⟩⟩)) (by kernel_rfl) rfl (by decide +kernel) (by decide +kernel) ?_
  intro avs hin r h
  unfold K_specIsReducible at h
  split at h
  · obtain ⟨hp, rfl⟩ := gd_o h
    exact ⟨_, ev_specIsReducible _ _ _ hp, rfl⟩
  · cases h

/- spec.AttributeVector -/
def K_specAttributeVector : List AV → List Ob → Option (AV × List Ob)
  | [.agg [.int .i64 m, .lst (.int .i64) b], .int .i64 e], [] => gd (b.length ≤ 1048576) (.tup [.agg [.int .i64 (vecF m b e).1, .int .i64 (vecF m b e).2.1], .bool (vecF m b e).2.2], [])
  | _, _ => none
@[reducible] def E_specAttributeVector : Env := mkE (tb [(47, K_specIsContext), (48, K_l1In), (52, K_l3Column), (53, K_specIsReducible)]) (fun f => false) (fun r => bif r == 4 then ([1, 2, 4, 6], [1, 2, 4, 5]) else ([], []))
theorem lp_specAttributeVector (m : Int) (b : List Int) (hc : isCtx m b = true) (e : Int) (he : 0 ≤ e ∧ e ≤ m - 1) (k : AX → S → Option (AV × List Ob)) (r : Option (AV × List Ob)) (hk : k .ret (mkS [1, 2, 4, 5] [.int .i64 e, .ptr 0 0, .ptr 1 0, .bool true] [some (.box 27 [.int .i64 m, .lst (.int .i64) b]), some (.box 45 [.int .i64 0, .int .i64 0])]) = r) (d : Nat) : ∀ (n i : Nat) (x : Int), e.toNat - i = d → i ≤ e.toNat → x = i → d < n →
    lpAt E_specAttributeVector (lp E_specAttributeVector 0 n) 0 (loopAt Try.f25 0) (mkS [1, 2, 4, 6] [.int .i64 e, .ptr 0 0, .ptr 1 0, .int .i64 x] [some (.box 27 [.int .i64 m, .lst (.int .i64) b]), some (.box 45 [.int .i64 0, .int .i64 0])]) k =
      if allB (fun j => !(colF b j == colF b e)) d i then k (.exit 0) (mkS [1, 2, 4, 5] [.int .i64 e, .ptr 0 0, .ptr 1 0, .any] [some (.box 27 [.int .i64 m, .lst (.int .i64) b]), some (.box 45 [.int .i64 0, .int .i64 0])]) else r := by
  have hl := isCtx_len hc
  have hS : ∀ x ∈ b, 0 ≤ x ∧ x ≤ 255 := fun x hx => by have := isSet_le (hl.2.2.2 x hx); omega
  induction d with
  | zero =>
    intro n i x hd hi hx hn
    subst hx
    rw [lpAt_def]
    conv => lhs; whnf
    refine br_f (df (by omega)) ?_
    conv => lhs; whnf
    rfl
  | succ d ih =>
    intro n i x hd hi hx hn
    obtain ⟨n, rfl⟩ : ∃ m, n = m + 1 := ⟨n - 1, by omega⟩
    subst hx
    rw [lpAt_def]
    conv => lhs; whnf
    refine br_t (dt (by omega)) ?_
    conv => lhs; whnf
    conv => lhs; arg 1; whnf
    refine bnd_g (by exact ⟨by omega, hl.1, hS⟩) ?_
    conv => lhs; whnf
    conv => lhs; arg 1; whnf
    refine bnd_g (by exact ⟨by omega, hl.1, hS⟩) ?_
    conv => lhs; whnf
    refine br_t (by kernel_rfl) ?_
    conv => lhs; whnf
    refine br_c (fun h => ?_) (fun h => ?_)
    · have h' : (colF b i == colF b e) = true := h
      conv => lhs; whnf
      rw [if_neg (by rw [allB, h']; exact Bool.false_ne_true)]
      exact hk
    · have h' : (colF b i == colF b e) = false := h
      conv => lhs; whnf
      rw [ih n (i + 1) _ (by omega) (by omega) (by rw [wrap64 (by omega) (by omega)]; simp) (by omega)]
      rw [allB, h', Bool.not_false, Bool.true_and]
theorem ev_specAttributeVector (m : Int) (b : List Int) (e : Int) (hp : b.length ≤ 1048576) : evF E_specAttributeVector (20) Try.f25 [.agg [.int .i64 m, .lst (.int .i64) b], .int .i64 e] [] = some (.tup [.agg [.int .i64 (vecF m b e).1, .int .i64 (vecF m b e).2.1], .bool (vecF m b e).2.2], []) := by
  conv => lhs; whnf
  conv => lhs; arg 1; whnf
  refine bnd_g (by omega) ?_
  conv => lhs; whnf
  refine br_c (fun h => ?_) (fun h => ?_)
  · have hf : vecF m b e = (0, 0, false) := by
      unfold vecF attrOk
      rw [bnt h]
      rfl
    rw [hf]
    conv => lhs; whnf
    repeat ((first | with_reducible apply br_tt | with_reducible apply br_ff | with_reducible apply br_nf | with_reducible apply br_nt | with_reducible refine br_d ?_ (by kernel_rfl) | with_reducible apply br_t h | with_reducible apply br_f h); conv => lhs; whnf)
  · have hl := isCtx_len (bnf h)
    have hw : IntKind.i64.wrap (m - 1) = m - 1 := wrap64 (by omega) (by omega)
    conv => lhs; whnf
    repeat ((first | with_reducible apply br_tt | with_reducible apply br_ff | with_reducible apply br_nf | with_reducible apply br_nt | with_reducible refine br_d ?_ (by kernel_rfl) | with_reducible apply br_t h | with_reducible apply br_f h); conv => lhs; whnf)
    conv => lhs; arg 1; whnf
    refine bnd_g (by exact True.intro) ?_
    conv => lhs; whnf
    repeat ((first | with_reducible apply br_tt | with_reducible apply br_ff | with_reducible apply br_nf | with_reducible apply br_nt | with_reducible refine br_d ?_ (by kernel_rfl) | with_reducible apply br_t h | with_reducible apply br_f h); conv => lhs; whnf)
    refine br_c (fun h2 => ?_) (fun h2 => ?_)
    · have h2' := ofnt h2
      rw [hw] at h2'
      have hf : vecF m b e = (0, 0, false) := by
        unfold vecF attrOk
        rw [df h2', Bool.and_false]
        rfl
      rw [hf]
      conv => lhs; whnf
    · have h2' := ofnf h2
      rw [hw] at h2'
      have hA : attrOk m b e = true := by
        unfold attrOk
        rw [bnf h, dt h2']
        rfl
      conv => lhs; whnf
      refine (lp_specAttributeVector m b (bnf h) e h2' _ _ rfl e.toNat _ 0 0 rfl (by omega) rfl (by change _ < 19; omega)).trans ?_
      split
      · rename_i h3
        conv => lhs; whnf
        conv => lhs; arg 1; whnf
        refine bnd_g (by exact hp) ?_
        conv => lhs; whnf
        refine br_c (fun h4 => ?_) (fun h4 => ?_)
        · rw [hA, Bool.true_and] at h4
          have hf : vecF m b e = (0, 0, true) := by
            unfold vecF
            rw [hA, h4, Bool.or_true]
            rfl
          rw [hf]
          conv => lhs; whnf
        · rw [hA, Bool.true_and] at h4
          have hf : vecF m b e = (2 * e + 1 - m, 1, true) := by
            unfold vecF dupF
            rw [hA, h4, h3]
            rfl
          rw [hf]
          conv => lhs; whnf
          rw [wrap64 (n := 2 * e) (by omega) (by omega), wrap64 (n := 2 * e + 1) (by omega) (by omega), wrap64 (n := 2 * e + 1 - m) (by omega) (by omega)]
      · rename_i h3
        have hf : vecF m b e = (0, 0, true) := by
          unfold vecF dupF
          rw [Bool.not_eq_true] at h3
          rw [hA, h3]
          rfl
        rw [hf]
        conv => lhs; whnf
theorem ok_specAttributeVector : FnOk Try.prog 25 K_specAttributeVector := by
  refine fn_ok (fn := Try.f25) (k := Try.f25.ntmps) (E := E_specAttributeVector) (facts_of (List.forall_mem_cons.2 ⟨ok_specIsContext, List.forall_mem_cons.2 ⟨ok_l1In, List.forall_mem_cons.2 ⟨ok_l3Column, List.forall_mem_cons.2 ⟨ok_specIsReducible, List.forall_mem_nil _⟩⟩⟩⟩)) (by kernel_rfl) rfl (by decide +kernel) (by decide +kernel) ?_
  intro avs hin r h
  unfold K_specAttributeVector at h
  split at h
  · obtain ⟨hp, rfl⟩ := gd_o h
    exact ⟨_, ev_specAttributeVector _ _ _ hp, rfl⟩
  · cases h

/- impl.within -/
def K_within : List AV → List Ob → Option (AV × List Ob)
  | [.int .i64 n, .int .i64 l, .int .i64 h], [] => gd (True) (.bool (decide (l ≤ n ∧ n ≤ h)), [])
  | _, _ => none
@[reducible] def E_within : Env := mkE (tb []) (fun f => false) (fun r => ([], []))
theorem ev_within (n l h : Int) (hp : True) : evF E_within (1) Try.f76 [.int .i64 n, .int .i64 l, .int .i64 h] [] = some (.bool (decide (l ≤ n ∧ n ≤ h)), []) := by
  conv => lhs; whnf
  refine br_c (fun h1 => ?_) (fun h1 => ?_)
  · conv => lhs; whnf
    repeat ((first | with_reducible apply br_tt | with_reducible apply br_ff | with_reducible apply br_nf | with_reducible apply br_nt | with_reducible refine br_d ?_ (by kernel_rfl) | with_reducible apply br_t h1 | with_reducible apply br_f h1); conv => lhs; whnf)
    have := ofd h1
    simp [this]
  · conv => lhs; whnf
    repeat ((first | with_reducible apply br_tt | with_reducible apply br_ff | with_reducible apply br_nf | with_reducible apply br_nt | with_reducible refine br_d ?_ (by kernel_rfl) | with_reducible apply br_t h1 | with_reducible apply br_f h1); conv => lhs; whnf)
    have := ofn h1
    simp [this]
theorem ok_within : FnOk Try.prog 76 K_within := by
  refine fn_ok (fn := Try.f76) (k := Try.f76.ntmps) (E := E_within) (facts_of (List.forall_mem_nil _)) (by kernel_rfl) rfl (by decide +kernel) (by decide +kernel) ?_
  intro avs hin r h
  unfold K_within at h
  split at h
  · obtain ⟨hp, rfl⟩ := gd_o h
    exact ⟨_, ev_within _ _ _ hp, rfl⟩
  · cases h

/- impl.IsSet -/
def K_implIsSet : List AV → List Ob → Option (AV × List Ob)
  | [.int .i64 n, .int .i64 s], [] => gd (True) (.bool (isSet n s), [])
  | _, _ => none
@[reducible] def E_implIsSet : Env := mkE (tb [(76, K_within)]) (fun f => false) (fun r => ([], []))
theorem ev_implIsSet (n s : Int) (hp : True) : evF E_implIsSet (1) Try.f62 [.int .i64 n, .int .i64 s] [] = some (.bool (isSet n s), []) := by
  conv => lhs; whnf
  conv => lhs; arg 1; whnf
  refine bnd_g (by exact True.intro) ?_
  conv => lhs; whnf
  refine br_c (fun h => ?_) (fun h => ?_)
  · conv => lhs; whnf
    have h8 := ofd h
    repeat ((first | with_reducible apply br_tt | with_reducible apply br_ff | with_reducible apply br_nf | with_reducible apply br_nt | with_reducible refine br_d ?_ (by kernel_rfl) | with_reducible apply br_t h | with_reducible apply br_f h); conv => lhs; whnf)
    refine br_f (df (by omega)) ?_
    conv => lhs; whnf
    repeat ((first | with_reducible apply br_tt | with_reducible apply br_ff | with_reducible apply br_nf | with_reducible apply br_nt | with_reducible refine br_d ?_ (by kernel_rfl) | with_reducible apply br_t h | with_reducible apply br_f h); conv => lhs; whnf)
    conv => lhs; arg 1; whnf
    refine bnd_g (by exact True.intro) ?_
    conv => lhs; whnf
    repeat ((first | with_reducible apply br_tt | with_reducible apply br_ff | with_reducible apply br_nf | with_reducible apply br_nt | with_reducible refine br_d ?_ (by kernel_rfl) | with_reducible apply br_t h | with_reducible apply br_f h); conv => lhs; whnf)
    refine okB ?_
    unfold isSet
    refine decide_eq_decide.2 ?_
    rw [shl_set h8.1 h8.2]
    exact ⟨fun h => ⟨h8, h⟩, fun h => h.2⟩
  · conv => lhs; whnf
    repeat ((first | with_reducible apply br_tt | with_reducible apply br_ff | with_reducible apply br_nf | with_reducible apply br_nt | with_reducible refine br_d ?_ (by kernel_rfl) | with_reducible apply br_t h | with_reducible apply br_f h); conv => lhs; whnf)
    have h8 := ofn h
    simp [isSet, h8]
theorem ok_implIsSet : FnOk Try.prog 62 K_implIsSet := by
  refine fn_ok (fn := Try.f62) (k := Try.f62.ntmps) (E := E_implIsSet) (facts_of (List.forall_mem_cons.2 ⟨ok_within, List.forall_mem_nil _⟩)) (by kernel_rfl) rfl (by decide +kernel) (by decide +kernel) ?_
  intro avs hin r h
  unfold K_implIsSet at h
  split at h
  · obtain ⟨hp, rfl⟩ := gd_o h
    exact ⟨_, ev_implIsSet _ _ hp, rfl⟩
  · cases h

/- impl.IsContext$1 -/
def K_badRow1 : List AV → List Ob → Option (AV × List Ob)
  | [.int .i64 x, .vptr [.int .i64 m, .lst (.int .i64) b] 0], [] => gd (True) (.bool (badRow m x), [])
  | _, _ => none
@[reducible] def E_badRow1 : Env := mkE (tb [(62, K_implIsSet)]) (fun f => false) (fun r => ([], []))
theorem ev_badRow1 (x m : Int) (b : List Int) (hp : True) : evF E_badRow1 (1) Try.f95 [.int .i64 x, .vptr [.int .i64 m, .lst (.int .i64) b] 0] [] = some (.bool (badRow m x), []) := by
  conv => lhs; whnf
  conv => lhs; arg 1; whnf
  refine bnd_g (by exact True.intro) ?_
  conv => lhs; whnf
  rfl
theorem ok_badRow1 : FnOk Try.prog 95 K_badRow1 := by
  refine fn_ok (fn := Try.f95) (k := Try.f95.ntmps) (E := E_badRow1) (facts_of (List.forall_mem_cons.2 ⟨ok_implIsSet, List.forall_mem_nil _⟩)) (by kernel_rfl) rfl (by decide +kernel) (by decide +kernel) ?_
  intro avs hin r h
  unfold K_badRow1 at h
  split at h
  · obtain ⟨hp, rfl⟩ := gd_o h
    exact ⟨_, ev_badRow1 _ _ _ hp, rfl⟩
  · cases h

/- slices.IndexFunc[[]int,int] -/
def K_idx_badRow1 : List AV → List Ob → Option (AV × List Ob)
  | [.lst (.int .i64) a, .clo 95 [.vptr [.int .i64 m, .lst (.int .i64) b] 0]], [] => gd (a.length < 4611686018427387904 ∧ True) (.int .i64 (firstI (badRow m) a 0), [])
  | _, _ => none
@[reducible] def E_idx_badRow1 : Env := mkE (tb [(95, K_badRow1)]) (fun f => false) (fun r => bif r == 2 then ([0, 1, 7, 8], [4]) else ([], []))
theorem lp_idx_badRow1 (a : List Int) (m : Int) (b : List Int) (ht : True) (ha : a.length < 4611686018427387904) (k : AX → S → Option (AV × List Ob)) (d : Nat) : ∀ (n i : Nat) (x : Int), a.length - i = d → i ≤ a.length → x = i → d < n →
    lpAt E_idx_badRow1 (lp E_idx_badRow1 0 n) 0 (loopAt Try.f102 0) (mkS [0, 1, 7, 8] [.lst (.int .i64) a, .clo 95 [.vptr [.int .i64 m, .lst (.int .i64) b] 0], .int .i64 a.length, .int .i64 x] []) k =
      if (a.drop i).any (badRow m) then k .ret (mkS [4] [.int .i64 (firstI (badRow m) (a.drop i) i)] []) else k (.exit 0) (mkS [4] [.any] []) := by
  induction d with
  | zero =>
    intro n i x hd hi hx hn
    subst hx
    rw [lpAt_def]
    conv => lhs; whnf
    refine br_f (df (by omega)) ?_
    conv => lhs; whnf
    rw [List.drop_of_length_le (by omega)]
    simp
  | succ d ih =>
    intro n i x hd hi hx hn
    obtain ⟨n, rfl⟩ : ∃ m, n = m + 1 := ⟨n - 1, by omega⟩
    subst hx
    rw [lpAt_def]
    conv => lhs; whnf
    refine br_t (dt (by omega)) ?_
    conv => lhs; whnf
    refine br_t (dt2 (by omega) (by omega)) ?_
    conv => lhs; whnf
    conv => lhs; arg 1; whnf
    refine bnd_g (by exact True.intro) ?_
    conv => lhs; whnf
    rw [getD_drop (l := a) (i := i) (d := 0) (by omega)]
    refine br_c (fun h => ?_) (fun h => ?_)
    · have h' : (badRow m) (a.getD i 0) = true := h
      conv => lhs; whnf
      rw [if_pos (by rw [List.any_cons, h', Bool.true_or])]
      rw [firstI, h', cond_true]
    · have h' : (badRow m) (a.getD i 0) = false := h
      conv => lhs; whnf
      rw [ih n (i + 1) _ (by omega) (by omega) (by rw [wrap64 (by omega) (by omega)]; simp) (by omega)]
      rw [List.any_cons, h', Bool.false_or, firstI, h', cond_false]
      rfl
theorem ev_idx_badRow1 (a : List Int) (m : Int) (b : List Int) (hp : a.length < 4611686018427387904 ∧ True) : evF E_idx_badRow1 (a.length + 2) Try.f102 [.lst (.int .i64) a, .clo 95 [.vptr [.int .i64 m, .lst (.int .i64) b] 0]] [] = some (.int .i64 (firstI (badRow m) a 0), []) := by
  conv => lhs; whnf
  refine (lp_idx_badRow1 a m b hp.2 hp.1 _ a.length _ 0 0 rfl (by omega) rfl (by omega)).trans ?_
  simp only [List.drop_zero]
  split
  · conv => lhs; whnf
    rfl
  · rename_i he
    conv => lhs; whnf
    have : firstI (badRow m) a 0 = -1 := firstI_none (badRow m) a 0 (by simpa using he)
    rw [this]
theorem ok_idx_badRow1 : FnOk Try.prog 102 K_idx_badRow1 := by
  refine fn_ok (fn := Try.f102) (k := Try.f102.ntmps) (E := E_idx_badRow1) (facts_of (List.forall_mem_cons.2 ⟨ok_badRow1, List.forall_mem_nil _⟩)) (by kernel_rfl) rfl (by decide +kernel) (by decide +kernel) ?_
  intro avs hin r h
  unfold K_idx_badRow1 at h
  split at h
  · obtain ⟨hp, rfl⟩ := gd_o h
    exact ⟨_, ev_idx_badRow1 _ _ _ hp, rfl⟩
  · cases h

/- slices.ContainsFunc[[]int,int] -/
def K_has_badRow1 : List AV → List Ob → Option (AV × List Ob)
  | [.lst (.int .i64) a, .clo 95 [.vptr [.int .i64 m, .lst (.int .i64) b] 0]], [] => gd (a.length < 4611686018427387904 ∧ True) (.bool (a.any (badRow m)), [])
  | _, _ => none
@[reducible] def E_has_badRow1 : Env := mkE (tb [(102, K_idx_badRow1)]) (fun f => false) (fun r => ([], []))
theorem ev_has_badRow1 (a : List Int) (m : Int) (b : List Int) (hp : a.length < 4611686018427387904 ∧ True) : evF E_has_badRow1 (1) Try.f86 [.lst (.int .i64) a, .clo 95 [.vptr [.int .i64 m, .lst (.int .i64) b] 0]] [] = some (.bool (a.any (badRow m)), []) := by
  conv => lhs; whnf
  conv => lhs; arg 1; whnf
  refine bnd_g (by exact hp) ?_
  conv => lhs; whnf
  refine okB ?_
  exact firstI_iff (badRow m) a 0 (by omega)
theorem ok_has_badRow1 : FnOk Try.prog 86 K_has_badRow1 := by
  refine fn_ok (fn := Try.f86) (k := Try.f86.ntmps) (E := E_has_badRow1) (facts_of (List.forall_mem_cons.2 ⟨ok_idx_badRow1, List.forall_mem_nil _⟩)) (by kernel_rfl) rfl (by decide +kernel) (by decide +kernel) ?_
  intro avs hin r h
  unfold K_has_badRow1 at h
  split at h
  · obtain ⟨hp, rfl⟩ := gd_o h
    exact ⟨_, ev_has_badRow1 _ _ _ hp, rfl⟩
  · cases h

/- impl.IsContext -/
def K_implIsContext : List AV → List Ob → Option (AV × List Ob)
  | [.agg [.int .i64 m, .lst (.int .i64) a]], [] => gd (a.length < 4611686018427387904) (.bool (isCtx m a), [])
  | _, _ => none
@[reducible] def E_implIsContext : Env := mkE (tb [(76, K_within), (86, K_has_badRow1)]) (fun f => false) (fun r => ([], []))
theorem ev_implIsContext (m : Int) (a : List Int) (hp : a.length < 4611686018427387904) : evF E_implIsContext (1) Try.f77 [.agg [.int .i64 m, .lst (.int .i64) a]] [] = some (.bool (isCtx m a), []) := by
  conv => lhs; whnf
  conv => lhs; arg 1; whnf
  refine bnd_g (by exact True.intro) ?_
  conv => lhs; whnf
  refine br_c (fun h => ?_) (fun h => ?_)
  · conv => lhs; whnf
    repeat ((first | with_reducible apply br_tt | with_reducible apply br_ff | with_reducible apply br_nf | with_reducible apply br_nt | with_reducible refine br_d ?_ (by kernel_rfl) | with_reducible apply br_t h | with_reducible apply br_f h); conv => lhs; whnf)
    refine br_c (fun h2 => ?_) (fun h2 => ?_)
    · conv => lhs; whnf
      repeat ((first | with_reducible apply br_tt | with_reducible apply br_ff | with_reducible apply br_nf | with_reducible apply br_nt | with_reducible refine br_d ?_ (by kernel_rfl) | with_reducible apply br_t h | with_reducible apply br_f h | with_reducible apply br_t h2 | with_reducible apply br_f h2); conv => lhs; whnf)
      conv => lhs; arg 1; whnf
      refine bnd_g (by exact ⟨hp, True.intro⟩) ?_
      conv => lhs; whnf
      repeat ((first | with_reducible apply br_tt | with_reducible apply br_ff | with_reducible apply br_nf | with_reducible apply br_nt | with_reducible refine br_d ?_ (by kernel_rfl) | with_reducible apply br_t h | with_reducible apply br_f h | with_reducible apply br_t h2 | with_reducible apply br_f h2); conv => lhs; whnf)
      refine okB ?_
      unfold isCtx
      have := ofd h2
      rw [any_badRow, h, dt (by omega), Bool.true_and, Bool.true_and]
    · conv => lhs; whnf
      repeat ((first | with_reducible apply br_tt | with_reducible apply br_ff | with_reducible apply br_nf | with_reducible apply br_nt | with_reducible refine br_d ?_ (by kernel_rfl) | with_reducible apply br_t h | with_reducible apply br_f h | with_reducible apply br_t h2 | with_reducible apply br_f h2); conv => lhs; whnf)
      refine okB ?_
      unfold isCtx
      have := ofn h2
      rw [h, df (by omega), Bool.true_and, Bool.false_and]
  · conv => lhs; whnf
    repeat ((first | with_reducible apply br_tt | with_reducible apply br_ff | with_reducible apply br_nf | with_reducible apply br_nt | with_reducible refine br_d ?_ (by kernel_rfl) | with_reducible apply br_t h | with_reducible apply br_f h); conv => lhs; whnf)
    refine okB ?_
    unfold isCtx
    rw [h, Bool.false_and, Bool.false_and]
theorem ok_implIsContext : FnOk Try.prog 77 K_implIsContext := by
  refine fn_ok (fn := Try.f77) (k := Try.f77.ntmps) (E := E_implIsContext) (facts_of (List.forall_mem_cons.2 ⟨ok_within, List.forall_mem_cons.2 ⟨ok_has_badRow1, List.forall_mem_nil _⟩⟩)) (by kernel_rfl) rfl (by decide +kernel) (by decide +kernel) ?_
  intro avs hin r h
  unfold K_implIsContext at h
  split at h
  · obtain ⟨hp, rfl⟩ := gd_o h
    exact ⟨_, ev_implIsContext _ _ hp, rfl⟩
  · cases h

/- impl.isAttribute -/
def K_isAttribute : List AV → List Ob → Option (AV × List Ob)
  | [.agg [.int .i64 m, .lst (.int .i64) b], .int .i64 e], [] => gd (b.length ≤ 1048576) (.bool (attrOk m b e), [])
  | _, _ => none
@[reducible] def E_isAttribute : Env := mkE (tb [(77, K_implIsContext), (76, K_within)]) (fun f => false) (fun r => ([], []))
theorem ev_isAttribute (m : Int) (b : List Int) (e : Int) (hp : b.length ≤ 1048576) : evF E_isAttribute (1) Try.f54 [.agg [.int .i64 m, .lst (.int .i64) b], .int .i64 e] [] = some (.bool (attrOk m b e), []) := by
  conv => lhs; whnf
  conv => lhs; arg 1; whnf
  refine bnd_g (by omega) ?_
  conv => lhs; whnf
  refine br_c (fun h => ?_) (fun h => ?_)
  · have hl := isCtx_len h
    conv => lhs; whnf
    repeat ((first | with_reducible apply br_tt | with_reducible apply br_ff | with_reducible apply br_nf | with_reducible apply br_nt | with_reducible refine br_d ?_ (by kernel_rfl) | with_reducible apply br_t h | with_reducible apply br_f h); conv => lhs; whnf)
    have hw : IntKind.i64.wrap (m - 1) = m - 1 := wrap64 (by omega) (by omega)
    conv => lhs; arg 1; whnf
    refine bnd_g (by exact True.intro) ?_
    conv => lhs; whnf
    repeat ((first | with_reducible apply br_tt | with_reducible apply br_ff | with_reducible apply br_nf | with_reducible apply br_nt | with_reducible refine br_d ?_ (by kernel_rfl) | with_reducible apply br_t h | with_reducible apply br_f h); conv => lhs; whnf)
    refine okB ?_
    unfold attrOk
    rw [h, Bool.true_and]
    exact decide_eq_decide.2 (by rw [hw])
  · conv => lhs; whnf
    repeat ((first | with_reducible apply br_tt | with_reducible apply br_ff | with_reducible apply br_nf | with_reducible apply br_nt | with_reducible refine br_d ?_ (by kernel_rfl) | with_reducible apply br_t h | with_reducible apply br_f h); conv => lhs; whnf)
    refine okB ?_
    unfold attrOk
    rw [h, Bool.false_and]
theorem ok_isAttribute : FnOk Try.prog 54 K_isAttribute := by
  refine fn_ok (fn := Try.f54) (k := Try.f54.ntmps) (E := E_isAttribute) (facts_of (List.forall_mem_cons.2 ⟨ok_implIsContext, List.forall_mem_cons.2 ⟨ok_within, List.forall_mem_nil _⟩⟩)) (by kernel_rfl) rfl (by decide +kernel) (by decide +kernel) ?_
  intro avs hin r h
  unfold K_isAttribute at h
  split at h
  · obtain ⟨hp, rfl⟩ := gd_o h
    exact ⟨_, ev_isAttribute _ _ _ hp, rfl⟩
  · cases h

def popF : Nat → Nat → Nat
  | 0, _ => 0
  | d + 1, s => s % 2 + popF d (s / 2)
def cntF (s : Int) : Int := if isSet 8 s then (popF 8 s.toNat : Int) else 0
theorem and1_all : ∀ s : Fin 256, band (s.val : Int) 1 = ((s.val % 2 : Nat) : Int) := by decide +kernel
theorem and1_of (s : Nat) (h : s < 256) : band (s : Int) 1 = ((s % 2 : Nat) : Int) := and1_all ⟨s, h⟩
theorem half_of (s : Nat) : ((s : Int).fdiv (2 ^ min (1 : Int).toNat IntKind.i64.bits)) = ((s / 2 : Nat) : Int) := by
  show (s : Int).fdiv 2 = _
  rw [Int.fdiv_eq_ediv_of_nonneg _ (by omega)]
  omega
theorem popF_le : ∀ (d s : Nat), popF d s ≤ d
  | 0, _ => Nat.le_refl 0
  | d + 1, s => by have := popF_le d (s / 2); unfold popF; omega
theorem bor_zero {q : Int} (h0 : 0 ≤ q) (h1 : q ≤ 255) : bor q 0 = q := by
  obtain ⟨a, rfl⟩ : ∃ a : Nat, q = a := ⟨q.toNat, by omega⟩
  rw [show (0 : Int) = ((0 : Nat) : Int) from rfl, bor_nat (by omega) (by omega), Nat.or_zero]
theorem colBit {s e : Int} (hs : 0 ≤ s ∧ s ≤ 255) (he : 0 ≤ e ∧ e ≤ 7) : band (s.fdiv (2 ^ min e.toNat IntKind.i64.bits)) 1 = bif s.toNat.testBit e.toNat then 1 else 0 := by
  obtain ⟨a, rfl⟩ : ∃ a : Nat, s = a := ⟨s.toNat, by omega⟩
  obtain ⟨b, rfl⟩ : ∃ b : Nat, e = b := ⟨e.toNat, by omega⟩
  have e1 : (a : Int).fdiv (2 ^ min (b : Int).toNat IntKind.i64.bits) = ((a / 2 ^ b : Nat) : Int) := by
    rw [Int.toNat_natCast, show min b IntKind.i64.bits = b from by simp [IntKind.bits]; omega]
    rw [Int.fdiv_eq_ediv_of_nonneg _ (by exact Int.pow_nonneg (by omega))]
    push_cast
    rfl
  have h : a / 2 ^ b < 256 := Nat.lt_of_le_of_lt (Nat.div_le_self _ _) (by omega)
  rw [e1, and1_of _ h, Int.toNat_natCast, Int.toNat_natCast, Nat.testBit_eq_decide_div_mod_eq]
  have h2 : a / 2 ^ b % 2 = 0 ∨ a / 2 ^ b % 2 = 1 := by omega
  rcases h2 with h2 | h2 <;> rw [h2] <;> rfl
theorem colStep {s e : Int} {i : Nat} {q : Int} (hs : 0 ≤ s ∧ s ≤ 255) (he : 0 ≤ e ∧ e ≤ 7) (hi : i < 8) (h0 : 0 ≤ q) (h1 : q ≤ 255) :
    bor q (IntKind.i64.wrap (band (s.fdiv (2 ^ min e.toNat IntKind.i64.bits)) 1 * 2 ^ min (i : Int).toNat IntKind.i64.bits)) = bif s.toNat.testBit e.toNat then bor q ((2 ^ i : Nat) : Int) else q := by
  rw [colBit hs he]
  cases s.toNat.testBit e.toNat
  · rw [cond_false, cond_false, Int.zero_mul]
    exact bor_zero h0 h1
  · rw [cond_true, cond_true, shl1 (by omega)]
/- impl.ColumnOf -/
def K_columnOf : List AV → List Ob → Option (AV × List Ob)
  | [.agg [.int .i64 m, .lst (.int .i64) b], .int .i64 e], [] => gd (b.length ≤ 1048576) (.int .i64 (bif attrOk m b e then colF b e else 0), [])
  | _, _ => none
@[reducible] def E_columnOf : Env := mkE (tb [(54, K_isAttribute)]) (fun f => false) (fun r => bif r == 5 then ([1, 5, 13, 14, 15], [5]) else ([], []))
theorem lp_columnOf (b : List Int) (m e : Int) (hb : b.length ≤ 8) (hs : ∀ x ∈ b, 0 ≤ x ∧ x ≤ 255) (he : 0 ≤ e ∧ e ≤ 7) (k : AX → S → Option (AV × List Ob)) (d : Nat) : ∀ (n i : Nat) (x q : Int), b.length - i = d → i ≤ b.length → x = i → d < n → 0 ≤ q → q ≤ 255 →
    lpAt E_columnOf (lp E_columnOf 0 n) 0 (loopAt Try.f81 0) (mkS [1, 5, 13, 14, 15] [.int .i64 e, .int .i64 q, .lst (.int .i64) b, .int .i64 b.length, .int .i64 x] []) k =
      k (.exit 0) (mkS [5] [.int .i64 (orF (bitAt b e) d i q)] []) := by
  induction d with
  | zero =>
    intro n i x q hd hi hx hn h0 h1
    subst hx
    rw [lpAt_def]
    conv => lhs; whnf
    refine br_f (df (by omega)) ?_
    conv => lhs; whnf
    rfl
  | succ d ih =>
    intro n i x q hd hi hx hn h0 h1
    obtain ⟨n, rfl⟩ : ∃ m, n = m + 1 := ⟨n - 1, by omega⟩
    subst hx
    have hsi := hs _ (mem_getD (d := 0) (show i < b.length by omega))
    have key := colStep (s := b.getD i 0) (e := e) (i := i) (q := q) hsi he (by omega) h0 h1
    have hq := orF_set (bitAt b e) 1 i q (by omega) h0 h1
    rw [lpAt_def]
    conv => lhs; whnf
    refine br_t (dt (by omega)) ?_
    conv => lhs; whnf
    refine br_t (dt2 (by omega) (by omega)) ?_
    conv => lhs; whnf
    refine br_f (df (by omega)) ?_
    conv => lhs; whnf
    refine br_f (df (by omega)) ?_
    conv => lhs; whnf
    have key2 : (bif (b.getD i 0).toNat.testBit e.toNat then bor q ((2 ^ i : Nat) : Int) else q) = orF (bitAt b e) 1 i q := rfl
    have key3 := key.trans key2
    rw [wrap64 (n := (i : Int) + 1) (by omega) (by omega)]
    refine (ih n (i + 1) _ _ (by omega) (by omega) (by simp) (by omega) ?_ ?_).trans ?_
    · exact Int.le_trans hq.1 (Int.le_of_eq key3.symm)
    · exact Int.le_trans (Int.le_of_eq key3) hq.2
    · exact congrArg (fun z => k (.exit 0) (mkS [5] [.int .i64 (orF (bitAt b e) d (i + 1) z)] [])) key3
theorem ev_columnOf (m : Int) (b : List Int) (e : Int) (hp : b.length ≤ 1048576) : evF E_columnOf (20) Try.f81 [.agg [.int .i64 m, .lst (.int .i64) b], .int .i64 e] [] = some (.int .i64 (bif attrOk m b e then colF b e else 0), []) := by
  conv => lhs; whnf
  conv => lhs; arg 1; whnf
  refine bnd_g (by exact hp) ?_
  conv => lhs; whnf
  refine br_c (fun h => ?_) (fun h => ?_)
  · conv => lhs; whnf
    rw [bnt h]
    rfl
  · have h' := bnf h
    unfold attrOk at h'
    have h2 := Bool.and_eq_true_iff.1 h'
    have hl := isCtx_len h2.1
    have hd := ofd h2.2
    conv => lhs; whnf
    refine (lp_columnOf b m e hl.1 (fun x hx => by have := isSet_le (hl.2.2.2 x hx); omega) (by omega) _ b.length _ 0 0 0 rfl (by omega) rfl (by change _ < 19; omega) (by omega) (by omega)).trans ?_
    conv => lhs; whnf
    rw [bnf h]
    rfl
theorem ok_columnOf : FnOk Try.prog 81 K_columnOf := by
  refine fn_ok (fn := Try.f81) (k := Try.f81.ntmps) (E := E_columnOf) (facts_of (List.forall_mem_cons.2 ⟨ok_isAttribute, List.forall_mem_nil _⟩)) (by kernel_rfl) rfl (by decide +kernel) (by decide +kernel) ?_
  intro avs hin r h
  unfold K_columnOf at h
  split at h
  · obtain ⟨hp, rfl⟩ := gd_o h
    exact ⟨_, ev_columnOf _ _ _ hp, rfl⟩
  · cases h

/- impl.columns -/
def K_columns : List AV → List Ob → Option (AV × List Ob)
  | [.agg [.int .i64 m, .lst (.int .i64) b]], [] => gd (isCtx m b = true) (.own 0, [.row 3 (.int .i64) (colsF m b)])
  | _, _ => none
@[reducible] def E_columns : Env := mkE (tb [(81, K_columnOf)]) (fun f => false) (fun r => bif r == 3 then ([1, 3, 7, 8], [3]) else ([], []))
theorem lp_columns (m : Int) (b : List Int) (hc : isCtx m b = true) (k : AX → S → Option (AV × List Ob)) (d : Nat) : ∀ (n i : Nat) (x : Int) (zs : List Int), m.toNat - i = d → i ≤ m.toNat → x = i → d < n → zs.length ≤ i →
    lpAt E_columns (lp E_columns 0 n) 0 (loopAt Try.f57 0) (mkS [1, 3, 7, 8] [.ptr 0 0, .own 1, .int .i64 m, .int .i64 x] [some (.box 27 [.int .i64 m, .lst (.int .i64) b]), some (.row 3 (.int .i64) zs)]) k =
      k (.exit 0) (mkS [3] [.own 0] [some (.row 3 (.int .i64) (zs ++ colsL b d i))]) := by
  have hl := isCtx_len hc
  induction d with
  | zero =>
    intro n i x zs hd hi hx hn hz
    subst hx
    rw [lpAt_def]
    conv => lhs; whnf
    refine br_f (df (by omega)) ?_
    conv => lhs; whnf
    rw [colsL, List.append_nil]
  | succ d ih =>
    intro n i x zs hd hi hx hn hz
    obtain ⟨n, rfl⟩ : ∃ m, n = m + 1 := ⟨n - 1, by omega⟩
    subst hx
    have ha : attrOk m b i = true := by
      unfold attrOk
      rw [hc, dt (by omega)]
      rfl
    rw [lpAt_def]
    conv => lhs; whnf
    refine br_t (dt (by omega)) ?_
    conv => lhs; whnf
    conv => lhs; arg 1; whnf
    refine bnd_g (by omega) ?_
    conv => lhs; whnf
    refine br_t (dt (by simp [room]; omega)) ?_
    conv => lhs; whnf
    rw [ih n (i + 1) _ _ (by omega) (by omega) (by rw [wrap64 (by omega) (by omega)]; simp) (by omega) (by simp; omega)]
    rw [colsL, ha, cond_true]
    simp
theorem ev_columns (m : Int) (b : List Int) (hp : isCtx m b = true) : evF E_columns (20) Try.f57 [.agg [.int .i64 m, .lst (.int .i64) b]] [] = some (.own 0, [.row 3 (.int .i64) (colsF m b)]) := by
  have hl := isCtx_len hp
  conv => lhs; whnf
  refine (lp_columns m b hp _ m.toNat _ 0 0 _ rfl (by omega) rfl (by change _ < 19; omega) (by simp)).trans ?_
  conv => lhs; whnf
  rfl
theorem ok_columns : FnOk Try.prog 57 K_columns := by
  refine fn_ok (fn := Try.f57) (k := Try.f57.ntmps) (E := E_columns) (facts_of (List.forall_mem_cons.2 ⟨ok_columnOf, List.forall_mem_nil _⟩)) (by kernel_rfl) rfl (by decide +kernel) (by decide +kernel) ?_
  intro avs hin r h
  unfold K_columns at h
  split at h
  · obtain ⟨hp, rfl⟩ := gd_o h
    exact ⟨_, ev_columns _ _ hp, rfl⟩
  · cases h

/- impl.FullSet -/
def K_implFullSet : List AV → List Ob → Option (AV × List Ob)
  | [.int .i64 n], [] => gd (True) (.int .i64 (fullSet n), [])
  | _, _ => none
@[reducible] def E_implFullSet : Env := mkE (tb [(76, K_within)]) (fun f => false) (fun r => ([], []))
theorem ev_implFullSet (n : Int) (hp : True) : evF E_implFullSet (1) Try.f99 [.int .i64 n] [] = some (.int .i64 (fullSet n), []) := by
  conv => lhs; whnf
  conv => lhs; arg 1; whnf
  refine bnd_g (by exact True.intro) ?_
  conv => lhs; whnf
  refine br_c (fun h => ?_) (fun h => ?_)
  · have h := ofnt h
    conv => lhs; whnf
    rw [fullSet, if_neg h]
  · have h := ofnf h
    conv => lhs; whnf
    refine br_f (df (by omega)) ?_
    conv => lhs; whnf
    refine okI ?_
    rw [fullSet, if_pos h]
    exact shl_set h.1 h.2
theorem ok_implFullSet : FnOk Try.prog 99 K_implFullSet := by
  refine fn_ok (fn := Try.f99) (k := Try.f99.ntmps) (E := E_implFullSet) (facts_of (List.forall_mem_cons.2 ⟨ok_within, List.forall_mem_nil _⟩)) (by kernel_rfl) rfl (by decide +kernel) (by decide +kernel) ?_
  intro avs hin r h
  unfold K_implFullSet at h
  split at h
  · obtain ⟨hp, rfl⟩ := gd_o h
    exact ⟨_, ev_implFullSet _ hp, rfl⟩
  · cases h

/- impl.inSet -/
def K_inSet : List AV → List Ob → Option (AV × List Ob)
  | [.int .i64 a, .int .i64 b], [] => gd (True) (.bool (bnot a b == 0), [])
  | _, _ => none
@[reducible] def E_inSet : Env := mkE (tb []) (fun f => false) (fun r => ([], []))
theorem ev_inSet (a b : Int) (hp : True) : evF E_inSet (1) Try.f92 [.int .i64 a, .int .i64 b] [] = some (.bool (bnot a b == 0), []) := by
  conv => lhs; whnf
  rfl
theorem ok_inSet : FnOk Try.prog 92 K_inSet := by
  refine fn_ok (fn := Try.f92) (k := Try.f92.ntmps) (E := E_inSet) (facts_of (List.forall_mem_nil _)) (by kernel_rfl) rfl (by decide +kernel) (by decide +kernel) ?_
  intro avs hin r h
  unfold K_inSet at h
  split at h
  · obtain ⟨hp, rfl⟩ := gd_o h
    exact ⟨_, ev_inSet _ _ hp, rfl⟩
  · cases h

/- impl.beyond -/
def K_beyond : List AV → List Ob → Option (AV × List Ob)
  | [.lst (.int .i64) l, .int .i64 s, .int .i64 q], [] => gd (l.length ≤ 1048576) (.int .i64 (beyondF s l q), [])
  | _, _ => none
@[reducible] def E_beyond : Env := mkE (tb [(92, K_inSet)]) (fun f => false) (fun r => bif r == 2 then ([1, 2, 9, 10, 11], [2]) else ([], []))
theorem lp_beyond (l : List Int) (s : Int) (hl : l.length ≤ 1048576) (k : AX → S → Option (AV × List Ob)) (d : Nat) : ∀ (n i : Nat) (x q : Int), l.length - i = d → i ≤ l.length → x = i → d < n →
    lpAt E_beyond (lp E_beyond 0 n) 0 (loopAt Try.f98 0) (mkS [1, 2, 9, 10, 11] [.int .i64 s, .int .i64 q, .lst (.int .i64) l, .int .i64 l.length, .int .i64 x] []) k =
      k (.exit 0) (mkS [2] [.int .i64 (beyondF s (l.drop i) q)] []) := by
  induction d with
  | zero =>
    intro n i x q hd hi hx hn
    subst hx
    rw [lpAt_def]
    conv => lhs; whnf
    refine br_f (df (by omega)) ?_
    conv => lhs; whnf
    rw [List.drop_of_length_le (by omega), beyondF]
  | succ d ih =>
    intro n i x q hd hi hx hn
    obtain ⟨n, rfl⟩ : ∃ m, n = m + 1 := ⟨n - 1, by omega⟩
    subst hx
    rw [lpAt_def]
    conv => lhs; whnf
    refine br_t (dt (by omega)) ?_
    conv => lhs; whnf
    refine br_t (dt2 (by omega) (by omega)) ?_
    conv => lhs; whnf
    rw [getD_drop (l := l) (i := i) (d := 0) (by omega)]
    refine br_c (fun h => ?_) (fun h => ?_)
    · have h' : (l.getD i 0 != s) = true := h
      conv => lhs; whnf
      repeat ((first | with_reducible apply br_tt | with_reducible apply br_ff | with_reducible apply br_nf | with_reducible apply br_nt | with_reducible refine br_d ?_ (by kernel_rfl) | with_reducible apply br_t h | with_reducible apply br_f h); conv => lhs; whnf)
      conv => lhs; arg 1; whnf
      refine bnd_g (by exact True.intro) ?_
      conv => lhs; whnf
      repeat ((first | with_reducible apply br_tt | with_reducible apply br_ff | with_reducible apply br_nf | with_reducible apply br_nt | with_reducible refine br_d ?_ (by kernel_rfl) | with_reducible apply br_t h | with_reducible apply br_f h); conv => lhs; whnf)
      refine br_c (fun h2 => ?_) (fun h2 => ?_)
      · have h2' : (bnot s (l.getD i 0) == 0) = true := h2
        conv => lhs; whnf
        rw [ih n (i + 1) _ _ (by omega) (by omega) (by rw [wrap64 (by omega) (by omega)]; simp) (by omega)]
        rw [beyondF, h', h2']
        rfl
      · have h2' : (bnot s (l.getD i 0) == 0) = false := h2
        conv => lhs; whnf
        rw [ih n (i + 1) _ _ (by omega) (by omega) (by rw [wrap64 (by omega) (by omega)]; simp) (by omega)]
        rw [beyondF, h', h2']
        rfl
    · have h' : (l.getD i 0 != s) = false := h
      conv => lhs; whnf
      repeat ((first | with_reducible apply br_tt | with_reducible apply br_ff | with_reducible apply br_nf | with_reducible apply br_nt | with_reducible refine br_d ?_ (by kernel_rfl) | with_reducible apply br_t h | with_reducible apply br_f h); conv => lhs; whnf)
      rw [ih n (i + 1) _ _ (by omega) (by omega) (by rw [wrap64 (by omega) (by omega)]; simp) (by omega)]
      rw [beyondF, h']
      rfl
theorem ev_beyond (l : List Int) (s q : Int) (hp : l.length ≤ 1048576) : evF E_beyond (l.length + 2) Try.f98 [.lst (.int .i64) l, .int .i64 s, .int .i64 q] [] = some (.int .i64 (beyondF s l q), []) := by
  conv => lhs; whnf
  refine (lp_beyond l s hp _ l.length _ 0 0 q rfl (by omega) rfl (by omega)).trans ?_
  conv => lhs; whnf
  rfl
theorem ok_beyond : FnOk Try.prog 98 K_beyond := by
  refine fn_ok (fn := Try.f98) (k := Try.f98.ntmps) (E := E_beyond) (facts_of (List.forall_mem_cons.2 ⟨ok_inSet, List.forall_mem_nil _⟩)) (by kernel_rfl) rfl (by decide +kernel) (by decide +kernel) ?_
  intro avs hin r h
  unfold K_beyond at h
  split at h
  · obtain ⟨hp, rfl⟩ := gd_o h
    exact ⟨_, ev_beyond _ _ _ hp, rfl⟩
  · cases h

/- impl.IsReducibleAttribute -/
def K_implIsReducible : List AV → List Ob → Option (AV × List Ob)
  | [.agg [.int .i64 m, .lst (.int .i64) b], .int .i64 e], [] => gd (b.length ≤ 1048576) (.bool (attrOk m b e && reducF m b e), [])
  | _, _ => none
@[reducible] def E_implIsReducible : Env := mkE (tb [(54, K_isAttribute), (57, K_columns), (81, K_columnOf), (99, K_implFullSet), (98, K_beyond)]) (fun f => false) (fun r => ([], []))
theorem ev_implIsReducible (m : Int) (b : List Int) (e : Int) (hp : b.length ≤ 1048576) : evF E_implIsReducible (1) Try.f79 [.agg [.int .i64 m, .lst (.int .i64) b], .int .i64 e] [] = some (.bool (attrOk m b e && reducF m b e), []) := by
  conv => lhs; whnf
  conv => lhs; arg 1; whnf
  refine bnd_g (by exact hp) ?_
  conv => lhs; whnf
  refine br_c (fun h => ?_) (fun h => ?_)
  · have h' := h
    unfold attrOk at h'
    have h2 := Bool.and_eq_true_iff.1 h'
    have hl := isCtx_len h2.1
    conv => lhs; whnf
    repeat ((first | with_reducible apply br_tt | with_reducible apply br_ff | with_reducible apply br_nf | with_reducible apply br_nt | with_reducible refine br_d ?_ (by kernel_rfl) | with_reducible apply br_t h | with_reducible apply br_f h); conv => lhs; whnf)
    conv => lhs; arg 1; whnf
    refine bnd_g (by exact h2.1) ?_
    conv => lhs; whnf
    repeat ((first | with_reducible apply br_tt | with_reducible apply br_ff | with_reducible apply br_nf | with_reducible apply br_nt | with_reducible refine br_d ?_ (by kernel_rfl) | with_reducible apply br_t h | with_reducible apply br_f h); conv => lhs; whnf)
    conv => lhs; arg 1; whnf
    refine bnd_g (by exact hp) ?_
    conv => lhs; whnf
    repeat ((first | with_reducible apply br_tt | with_reducible apply br_ff | with_reducible apply br_nf | with_reducible apply br_nt | with_reducible refine br_d ?_ (by kernel_rfl) | with_reducible apply br_t h | with_reducible apply br_f h); conv => lhs; whnf)
    conv => lhs; arg 1; whnf
    refine bnd_g (by exact True.intro) ?_
    conv => lhs; whnf
    repeat ((first | with_reducible apply br_tt | with_reducible apply br_ff | with_reducible apply br_nf | with_reducible apply br_nt | with_reducible refine br_d ?_ (by kernel_rfl) | with_reducible apply br_t h | with_reducible apply br_f h); conv => lhs; whnf)
    conv => lhs; arg 1; whnf
    refine bnd_g (by (show (colsL b m.toNat 0).length ≤ 1048576; rw [colsL_length]; omega)) ?_
    conv => lhs; whnf
    repeat ((first | with_reducible apply br_tt | with_reducible apply br_ff | with_reducible apply br_nf | with_reducible apply br_nt | with_reducible refine br_d ?_ (by kernel_rfl) | with_reducible apply br_t h | with_reducible apply br_f h); conv => lhs; whnf)
    conv => lhs; arg 1; whnf
    refine bnd_g (by exact hp) ?_
    conv => lhs; whnf
    repeat ((first | with_reducible apply br_tt | with_reducible apply br_ff | with_reducible apply br_nf | with_reducible apply br_nt | with_reducible refine br_d ?_ (by kernel_rfl) | with_reducible apply br_t h | with_reducible apply br_f h); conv => lhs; whnf)
    rw [h]
    rfl
  · conv => lhs; whnf
    repeat ((first | with_reducible apply br_tt | with_reducible apply br_ff | with_reducible apply br_nf | with_reducible apply br_nt | with_reducible refine br_d ?_ (by kernel_rfl) | with_reducible apply br_t h | with_reducible apply br_f h); conv => lhs; whnf)
    rw [h, Bool.false_and]
theorem ok_implIsReducible : FnOk Try.prog 79 K_implIsReducible := by
  refine fn_ok (fn := Try.f79) (k := Try.f79.ntmps) (E := E_implIsReducible) (facts_of (List.forall_mem_cons.2 ⟨ok_isAttribute, List.forall_mem_cons.2 ⟨ok_columns, List.forall_mem_cons.2 ⟨ok_columnOf, List.forall_mem_cons.2 ⟨ok_implFullSet, List.forall_mem_cons.2 ⟨ok_beyond, List.forall_mem_nil _⟩⟩⟩⟩⟩)) (by kernel_rfl) rfl (by decide +kernel) (by decide +kernel) ?_
  intro avs hin r h
  unfold K_implIsReducible at h
  split at h
  · obtain ⟨hp, rfl⟩ := gd_o h
    exact ⟨_, ev_implIsReducible _ _ _ hp, rfl⟩
  · cases h

/- impl.IsIrreducibleAttribute -/
def K_isIrreducible : List AV → List Ob → Option (AV × List Ob)
  | [.agg [.int .i64 m, .lst (.int .i64) b], .int .i64 e], [] => gd (b.length ≤ 1048576) (.bool (attrOk m b e && !reducF m b e), [])
  | _, _ => none
@[reducible] def E_isIrreducible : Env := mkE (tb [(54, K_isAttribute), (79, K_implIsReducible)]) (fun f => false) (fun r => ([], []))
theorem ev_isIrreducible (m : Int) (b : List Int) (e : Int) (hp : b.length ≤ 1048576) : evF E_isIrreducible (1) Try.f55 [.agg [.int .i64 m, .lst (.int .i64) b], .int .i64 e] [] = some (.bool (attrOk m b e && !reducF m b e), []) := by
  conv => lhs; whnf
  conv => lhs; arg 1; whnf
  refine bnd_g (by exact hp) ?_
  conv => lhs; whnf
  refine br_c (fun h => ?_) (fun h => ?_)
  · conv => lhs; whnf
    repeat ((first | with_reducible apply br_tt | with_reducible apply br_ff | with_reducible apply br_nf | with_reducible apply br_nt | with_reducible refine br_d ?_ (by kernel_rfl) | with_reducible apply br_t h | with_reducible apply br_f h); conv => lhs; whnf)
    conv => lhs; arg 1; whnf
    refine bnd_g (by exact hp) ?_
    conv => lhs; whnf
    repeat ((first | with_reducible apply br_tt | with_reducible apply br_ff | with_reducible apply br_nf | with_reducible apply br_nt | with_reducible refine br_d ?_ (by kernel_rfl) | with_reducible apply br_t h | with_reducible apply br_f h); conv => lhs; whnf)
    rw [h, Bool.true_and, Bool.true_and]
  · conv => lhs; whnf
    repeat ((first | with_reducible apply br_tt | with_reducible apply br_ff | with_reducible apply br_nf | with_reducible apply br_nt | with_reducible refine br_d ?_ (by kernel_rfl) | with_reducible apply br_t h | with_reducible apply br_f h); conv => lhs; whnf)
    rw [h, Bool.false_and]
theorem ok_isIrreducible : FnOk Try.prog 55 K_isIrreducible := by
  refine fn_ok (fn := Try.f55) (k := Try.f55.ntmps) (E := E_isIrreducible) (facts_of (List.forall_mem_cons.2 ⟨ok_isAttribute, List.forall_mem_cons.2 ⟨ok_implIsReducible, List.forall_mem_nil _⟩⟩)) (by kernel_rfl) rfl (by decide +kernel) (by decide +kernel) ?_
  intro avs hin r h
  unfold K_isIrreducible at h
  split at h
  · obtain ⟨hp, rfl⟩ := gd_o h
    exact ⟨_, ev_isIrreducible _ _ _ hp, rfl⟩
  · cases h

/- slices.Index[[]int,int] -/
def K_indexInt : List AV → List Ob → Option (AV × List Ob)
  | [.lst (.int .i64) a, .int .i64 v], [] => gd (a.length < 4611686018427387904) (.int .i64 (firstI (fun y => v == y) a 0), [])
  | _, _ => none
@[reducible] def E_indexInt : Env := mkE (tb []) (fun f => false) (fun r => bif r == 2 then ([0, 1, 7, 8], [4]) else ([], []))
theorem lp_indexInt (a : List Int) (v : Int) (ha : a.length < 4611686018427387904) (k : AX → S → Option (AV × List Ob)) (d : Nat) : ∀ (n i : Nat) (x : Int), a.length - i = d → i ≤ a.length → x = i → d < n →
    lpAt E_indexInt (lp E_indexInt 0 n) 0 (loopAt Try.f100 0) (mkS [0, 1, 7, 8] [.lst (.int .i64) a, .int .i64 v, .int .i64 a.length, .int .i64 x] []) k =
      if (a.drop i).any (fun y => v == y) then k .ret (mkS [4] [.int .i64 (firstI (fun y => v == y) (a.drop i) i)] []) else k (.exit 0) (mkS [4] [.any] []) := by
  induction d with
  | zero =>
    intro n i x hd hi hx hn
    subst hx
    rw [lpAt_def]
    conv => lhs; whnf
    refine br_f (df (by omega)) ?_
    conv => lhs; whnf
    rw [List.drop_of_length_le (by omega)]
    simp
  | succ d ih =>
    intro n i x hd hi hx hn
    obtain ⟨n, rfl⟩ : ∃ m, n = m + 1 := ⟨n - 1, by omega⟩
    subst hx
    rw [lpAt_def]
    conv => lhs; whnf
    refine br_t (dt (by omega)) ?_
    conv => lhs; whnf
    refine br_t (dt2 (by omega) (by omega)) ?_
    conv => lhs; whnf
    rw [getD_drop (l := a) (i := i) (d := 0) (by omega)]
    refine br_c (fun h => ?_) (fun h => ?_)
    · have h' : (v == a.getD i 0) = true := h
      conv => lhs; whnf
      rw [if_pos (by simp only [List.any_cons, h', Bool.true_or])]
      simp only [firstI, h', cond_true]
    · have h' : (v == a.getD i 0) = false := h
      conv => lhs; whnf
      rw [ih n (i + 1) _ (by omega) (by omega) (by rw [wrap64 (by omega) (by omega)]; simp) (by omega)]
      simp only [List.any_cons, h', Bool.false_or, firstI, cond_false]
      rfl
theorem ev_indexInt (a : List Int) (v : Int) (hp : a.length < 4611686018427387904) : evF E_indexInt (a.length + 2) Try.f100 [.lst (.int .i64) a, .int .i64 v] [] = some (.int .i64 (firstI (fun y => v == y) a 0), []) := by
  conv => lhs; whnf
  refine (lp_indexInt a v hp _ a.length _ 0 0 rfl (by omega) rfl (by omega)).trans ?_
  simp only [List.drop_zero]
  split
  · conv => lhs; whnf
    rfl
  · rename_i he
    conv => lhs; whnf
    have : firstI (fun y => v == y) a 0 = -1 := firstI_none _ a 0 (by rw [← Bool.not_eq_true]; exact he)
    rw [this]
theorem ok_indexInt : FnOk Try.prog 100 K_indexInt := by
  refine fn_ok (fn := Try.f100) (k := Try.f100.ntmps) (E := E_indexInt) (facts_of (List.forall_mem_nil _)) (by kernel_rfl) rfl (by decide +kernel) (by decide +kernel) ?_
  intro avs hin r h
  unfold K_indexInt at h
  split at h
  · obtain ⟨hp, rfl⟩ := gd_o h
    exact ⟨_, ev_indexInt _ _ hp, rfl⟩
  · cases h

/- slices.Contains[[]int,int] -/
def K_containsInt : List AV → List Ob → Option (AV × List Ob)
  | [.lst (.int .i64) a, .int .i64 v], [] => gd (a.length < 4611686018427387904) (.bool (a.any (fun y => v == y)), [])
  | _, _ => none
@[reducible] def E_containsInt : Env := mkE (tb [(100, K_indexInt)]) (fun f => false) (fun r => ([], []))
theorem ev_containsInt (a : List Int) (v : Int) (hp : a.length < 4611686018427387904) : evF E_containsInt (1) Try.f80 [.lst (.int .i64) a, .int .i64 v] [] = some (.bool (a.any (fun y => v == y)), []) := by
  conv => lhs; whnf
  conv => lhs; arg 1; whnf
  refine bnd_g (by exact hp) ?_
  conv => lhs; whnf
  refine okB ?_
  exact firstI_iff _ a 0 (by omega)
theorem ok_containsInt : FnOk Try.prog 80 K_containsInt := by
  refine fn_ok (fn := Try.f80) (k := Try.f80.ntmps) (E := E_containsInt) (facts_of (List.forall_mem_cons.2 ⟨ok_indexInt, List.forall_mem_nil _⟩)) (by kernel_rfl) rfl (by decide +kernel) (by decide +kernel) ?_
  intro avs hin r h
  unfold K_containsInt at h
  split at h
  · obtain ⟨hp, rfl⟩ := gd_o h
    exact ⟨_, ev_containsInt _ _ hp, rfl⟩
  · cases h

/- impl.repeated -/
def K_repeated : List AV → List Ob → Option (AV × List Ob)
  | [.lst (.int .i64) l], [] => gd (l.length ≤ 8) (.int .i64 (repF l), [])
  | _, _ => none
@[reducible] def E_repeated : Env := mkE (tb [(80, K_containsInt)]) (fun f => false) (fun r => bif r == 3 then ([0, 3, 6, 7, 8], [3]) else ([], []))
theorem lp_repeated (l : List Int) (hl : l.length ≤ 8) (k : AX → S → Option (AV × List Ob)) (d : Nat) : ∀ (n i : Nat) (x q : Int), l.length - i = d → i ≤ l.length → x = i → d < n →
    lpAt E_repeated (lp E_repeated 0 n) 0 (loopAt Try.f56 0) (mkS [0, 3, 6, 7, 8] [.lst (.int .i64) l, .int .i64 q, .lst (.int .i64) l, .int .i64 l.length, .int .i64 x] []) k =
      k (.exit 0) (mkS [3] [.int .i64 (orF (repAt l) d i q)] []) := by
  induction d with
  | zero =>
    intro n i x q hd hi hx hn
    subst hx
    rw [lpAt_def]
    conv => lhs; whnf
    refine br_f (df (by omega)) ?_
    conv => lhs; whnf
    rfl
  | succ d ih =>
    intro n i x q hd hi hx hn
    obtain ⟨n, rfl⟩ : ∃ m, n = m + 1 := ⟨n - 1, by omega⟩
    subst hx
    rw [lpAt_def]
    conv => lhs; whnf
    refine br_t (dt (by omega)) ?_
    conv => lhs; whnf
    refine br_t (dt2 (by omega) (by omega)) ?_
    conv => lhs; whnf
    refine br_t (dt2 (by omega) (by omega)) ?_
    conv => lhs; whnf
    conv => lhs; arg 1; whnf
    refine bnd_g (by simp; omega) ?_
    conv => lhs; whnf
    refine br_c (fun h => ?_) (fun h => ?_)
    · have h' : repAt l i = true := h
      conv => lhs; whnf
      refine br_f (df (by omega)) ?_
      conv => lhs; whnf
      rw [shl1 (by omega)]
      rw [ih n (i + 1) _ _ (by omega) (by omega) (by rw [wrap64 (by omega) (by omega)]; simp) (by omega)]
      rw [orF, h', cond_true]
      rfl
    · have h' : repAt l i = false := h
      conv => lhs; whnf
      rw [ih n (i + 1) _ _ (by omega) (by omega) (by rw [wrap64 (by omega) (by omega)]; simp) (by omega)]
      rw [orF, h', cond_false]
theorem ev_repeated (l : List Int) (hp : l.length ≤ 8) : evF E_repeated (20) Try.f56 [.lst (.int .i64) l] [] = some (.int .i64 (repF l), []) := by
  conv => lhs; whnf
  refine (lp_repeated l hp _ l.length _ 0 0 0 rfl (by omega) rfl (by change _ < 19; omega)).trans ?_
  conv => lhs; whnf
  rfl
theorem ok_repeated : FnOk Try.prog 56 K_repeated := by
  refine fn_ok (fn := Try.f56) (k := Try.f56.ntmps) (E := E_repeated) (facts_of (List.forall_mem_cons.2 ⟨ok_containsInt, List.forall_mem_nil _⟩)) (by kernel_rfl) rfl (by decide +kernel) (by decide +kernel) ?_
  intro avs hin r h
  unfold K_repeated at h
  split at h
  · obtain ⟨hp, rfl⟩ := gd_o h
    exact ⟨_, ev_repeated _ hp, rfl⟩
  · cases h

/- impl.isAnySet -/
def K_isAnySet : List AV → List Ob → Option (AV × List Ob)
  | [.int .i64 s], [] => gd (True) (.bool (isSet 8 s), [])
  | _, _ => none
@[reducible] def E_isAnySet : Env := mkE (tb [(62, K_implIsSet)]) (fun f => false) (fun r => ([], []))
theorem ev_isAnySet (s : Int) (hp : True) : evF E_isAnySet (1) Try.f75 [.int .i64 s] [] = some (.bool (isSet 8 s), []) := by
  conv => lhs; whnf
  conv => lhs; arg 1; whnf
  refine bnd_g (by exact True.intro) ?_
  conv => lhs; whnf
theorem ok_isAnySet : FnOk Try.prog 75 K_isAnySet := by
  refine fn_ok (fn := Try.f75) (k := Try.f75.ntmps) (E := E_isAnySet) (facts_of (List.forall_mem_cons.2 ⟨ok_implIsSet, List.forall_mem_nil _⟩)) (by kernel_rfl) rfl (by decide +kernel) (by decide +kernel) ?_
  intro avs hin r h
  unfold K_isAnySet at h
  split at h
  · obtain ⟨hp, rfl⟩ := gd_o h
    exact ⟨_, ev_isAnySet _ hp, rfl⟩
  · cases h

/- impl.HasElement -/
def K_hasElement : List AV → List Ob → Option (AV × List Ob)
  | [.int .i64 s, .int .i64 e], [] => gd (True) (.bool (hasE s e), [])
  | _, _ => none
@[reducible] def E_hasElement : Env := mkE (tb [(75, K_isAnySet), (76, K_within)]) (fun f => false) (fun r => ([], []))
theorem ev_hasElement (s e : Int) (hp : True) : evF E_hasElement (1) Try.f46 [.int .i64 s, .int .i64 e] [] = some (.bool (hasE s e), []) := by
  conv => lhs; whnf
  conv => lhs; arg 1; whnf
  refine bnd_g (by exact True.intro) ?_
  conv => lhs; whnf
  refine br_c (fun h => ?_) (fun h => ?_)
  · conv => lhs; whnf
    repeat ((first | with_reducible apply br_tt | with_reducible apply br_ff | with_reducible apply br_nf | with_reducible apply br_nt | with_reducible refine br_d ?_ (by kernel_rfl) | with_reducible apply br_t h | with_reducible apply br_f h); conv => lhs; whnf)
    conv => lhs; arg 1; whnf
    refine bnd_g (by exact True.intro) ?_
    conv => lhs; whnf
    repeat ((first | with_reducible apply br_tt | with_reducible apply br_ff | with_reducible apply br_nf | with_reducible apply br_nt | with_reducible refine br_d ?_ (by kernel_rfl) | with_reducible apply br_t h | with_reducible apply br_f h); conv => lhs; whnf)
    refine br_c (fun h2 => ?_) (fun h2 => ?_)
    · conv => lhs; whnf
      repeat ((first | with_reducible apply br_tt | with_reducible apply br_ff | with_reducible apply br_nf | with_reducible apply br_nt | with_reducible refine br_d ?_ (by kernel_rfl) | with_reducible apply br_t h | with_reducible apply br_f h | with_reducible apply br_t h2 | with_reducible apply br_f h2); conv => lhs; whnf)
      have h2' := ofd h2
      refine br_f (df (by omega)) ?_
      conv => lhs; whnf
      repeat ((first | with_reducible apply br_tt | with_reducible apply br_ff | with_reducible apply br_nf | with_reducible apply br_nt | with_reducible refine br_d ?_ (by kernel_rfl) | with_reducible apply br_t h | with_reducible apply br_f h | with_reducible apply br_t h2 | with_reducible apply br_f h2); conv => lhs; whnf)
      refine okB ?_
      have hs := isSet_le h
      unfold hasE
      rw [h, h2, Bool.true_and, Bool.true_and]
      exact bit_of (by omega) (by omega) (by omega) (by omega)
    · conv => lhs; whnf
      repeat ((first | with_reducible apply br_tt | with_reducible apply br_ff | with_reducible apply br_nf | with_reducible apply br_nt | with_reducible refine br_d ?_ (by kernel_rfl) | with_reducible apply br_t h | with_reducible apply br_f h | with_reducible apply br_t h2 | with_reducible apply br_f h2); conv => lhs; whnf)
      refine okB ?_
      unfold hasE
      rw [h, h2]
      rfl
  · conv => lhs; whnf
    repeat ((first | with_reducible apply br_tt | with_reducible apply br_ff | with_reducible apply br_nf | with_reducible apply br_nt | with_reducible refine br_d ?_ (by kernel_rfl) | with_reducible apply br_t h | with_reducible apply br_f h); conv => lhs; whnf)
    refine okB ?_
    unfold hasE
    rw [h]
    rfl
theorem ok_hasElement : FnOk Try.prog 46 K_hasElement := by
  refine fn_ok (fn := Try.f46) (k := Try.f46.ntmps) (E := E_hasElement) (facts_of (List.forall_mem_cons.2 ⟨ok_isAnySet, List.forall_mem_cons.2 ⟨ok_within, List.forall_mem_nil _⟩⟩)) (by kernel_rfl) rfl (by decide +kernel) (by decide +kernel) ?_
  intro avs hin r h
  unfold K_hasElement at h
  split at h
  · obtain ⟨hp, rfl⟩ := gd_o h
    exact ⟨_, ev_hasElement _ _ hp, rfl⟩
  · cases h

/- impl.AttributeVector -/
def K_implAttributeVector : List AV → List Ob → Option (AV × List Ob)
  | [.agg [.int .i64 m, .lst (.int .i64) b], .int .i64 e], [] => gd (b.length ≤ 1048576) (.tup [.agg [.int .i64 (vecF m b e).1, .int .i64 (vecF m b e).2.1], .bool (vecF m b e).2.2], [])
  | _, _ => none
@[reducible] def E_implAttributeVector : Env := mkE (tb [(54, K_isAttribute), (55, K_isIrreducible), (57, K_columns), (56, K_repeated), (46, K_hasElement)]) (fun f => false) (fun r => ([], []))
theorem ev_implAttributeVector (m : Int) (b : List Int) (e : Int) (hp : b.length ≤ 1048576) : evF E_implAttributeVector (1) Try.f26 [.agg [.int .i64 m, .lst (.int .i64) b], .int .i64 e] [] = some (.tup [.agg [.int .i64 (vecF m b e).1, .int .i64 (vecF m b e).2.1], .bool (vecF m b e).2.2], []) := by
  conv => lhs; whnf
  conv => lhs; arg 1; whnf
  refine bnd_g (by exact hp) ?_
  conv => lhs; whnf
  refine br_c (fun h => ?_) (fun h => ?_)
  · have hf : vecF m b e = (0, 0, false) := by
      unfold vecF
      rw [bnt h]
      rfl
    rw [hf]
    conv => lhs; whnf
  · have hA := bnf h
    have h' := hA
    unfold attrOk at h'
    have h2 := Bool.and_eq_true_iff.1 h'
    have hl := isCtx_len h2.1
    have hd := ofd h2.2
    have hlen : (colsF m b).length = m.toNat := colsL_length b _ _
    conv => lhs; whnf
    conv => lhs; arg 1; whnf
    refine bnd_g (by exact hp) ?_
    conv => lhs; whnf
    refine br_c (fun h3 => ?_) (fun h3 => ?_)
    · rw [hA, Bool.true_and, Bool.not_not] at h3
      have hf : vecF m b e = (0, 0, true) := by
        unfold vecF
        rw [hA, h3, Bool.or_true]
        rfl
      rw [hf]
      have h4 : (!(attrOk m b e && !reducF m b e)) = true := by rw [hA, h3]; rfl
      conv => lhs; whnf
      repeat ((first | with_reducible apply br_tt | with_reducible apply br_ff | with_reducible apply br_nf | with_reducible apply br_nt | with_reducible refine br_d ?_ (by kernel_rfl) | with_reducible apply br_t h4 | with_reducible apply br_f h4); conv => lhs; whnf)
    · have h4 := h3
      rw [hA, Bool.true_and, Bool.not_not] at h3
      conv => lhs; whnf
      repeat ((first | with_reducible apply br_tt | with_reducible apply br_ff | with_reducible apply br_nf | with_reducible apply br_nt | with_reducible refine br_d ?_ (by kernel_rfl) | with_reducible apply br_t h4 | with_reducible apply br_f h4); conv => lhs; whnf)
      conv => lhs; arg 1; whnf
      refine bnd_g (by exact h2.1) ?_
      conv => lhs; whnf
      repeat ((first | with_reducible apply br_tt | with_reducible apply br_ff | with_reducible apply br_nf | with_reducible apply br_nt | with_reducible refine br_d ?_ (by kernel_rfl) | with_reducible apply br_t h4 | with_reducible apply br_f h4); conv => lhs; whnf)
      conv => lhs; arg 1; whnf
      refine bnd_g (by (rw [hlen]; omega)) ?_
      conv => lhs; whnf
      repeat ((first | with_reducible apply br_tt | with_reducible apply br_ff | with_reducible apply br_nf | with_reducible apply br_nt | with_reducible refine br_d ?_ (by kernel_rfl) | with_reducible apply br_t h4 | with_reducible apply br_f h4); conv => lhs; whnf)
      conv => lhs; arg 1; whnf
      refine bnd_g (by exact True.intro) ?_
      conv => lhs; whnf
      repeat ((first | with_reducible apply br_tt | with_reducible apply br_ff | with_reducible apply br_nf | with_reducible apply br_nt | with_reducible refine br_d ?_ (by kernel_rfl) | with_reducible apply br_t h4 | with_reducible apply br_f h4); conv => lhs; whnf)
      refine br_c (fun h5 => ?_) (fun h5 => ?_)
      · rw [rep_dup hA] at h5
        have hf : vecF m b e = (0, 0, true) := by
          unfold vecF
          rw [hA, h5]
          rfl
        rw [hf]
        conv => lhs; whnf
      · rw [rep_dup hA] at h5
        have hf : vecF m b e = (2 * e + 1 - m, 1, true) := by
          unfold vecF
          rw [hA, h5, h3]
          rfl
        rw [hf]
        conv => lhs; whnf
        rw [wrap64 (n := 2 * e) (by omega) (by omega), wrap64 (n := 2 * e + 1) (by omega) (by omega), wrap64 (n := 2 * e + 1 - m) (by omega) (by omega)]
theorem ok_implAttributeVector : FnOk Try.prog 26 K_implAttributeVector := by
  refine fn_ok (fn := Try.f26) (k := Try.f26.ntmps) (E := E_implAttributeVector) (facts_of (List.forall_mem_cons.2 ⟨ok_isAttribute, List.forall_mem_cons.2 ⟨ok_isIrreducible, List.forall_mem_cons.2 ⟨ok_columns, List.forall_mem_cons.2 ⟨ok_repeated, List.forall_mem_cons.2 ⟨ok_hasElement, List.forall_mem_nil _⟩⟩⟩⟩⟩)) (by kernel_rfl) rfl (by decide +kernel) (by decide +kernel) ?_
  intro avs hin r h
  unfold K_implAttributeVector at h
  split at h
  · obtain ⟨hp, rfl⟩ := gd_o h
    exact ⟨_, ev_implAttributeVector _ _ _ hp, rfl⟩
  · cases h

/- laws.eqSpot -/
def K_eqSpot : List AV → List Ob → Option (AV × List Ob)
  | [.agg [.int .i64 p, .int .i64 q], .agg [.int .i64 p', .int .i64 q']], [] => gd (True) (.bool (decide (p = p' ∧ q = q')), [])
  | _, _ => none
@[reducible] def E_eqSpot : Env := mkE (tb []) (fun f => false) (fun r => ([], []))
theorem ev_eqSpot (p q p' q' : Int) (hp : True) : evF E_eqSpot (1) Try.f27 [.agg [.int .i64 p, .int .i64 q], .agg [.int .i64 p', .int .i64 q']] [] = some (.bool (decide (p = p' ∧ q = q')), []) := by
  conv => lhs; whnf
  refine br_c (fun h => ?_) (fun h => ?_)
  · conv => lhs; whnf
    simp at h
    simp [h]
  · conv => lhs; whnf
    refine br_c (fun h' => ?_) (fun h' => ?_)
    · conv => lhs; whnf
      simp at h h'
      simp [h']
    · conv => lhs; whnf
      simp at h h'
      simp [h, h']
theorem ok_eqSpot : FnOk Try.prog 27 K_eqSpot := by
  refine fn_ok (fn := Try.f27) (k := Try.f27.ntmps) (E := E_eqSpot) (facts_of (List.forall_mem_nil _)) (by kernel_rfl) rfl (by decide +kernel) (by decide +kernel) ?_
  intro avs hin r h
  unfold K_eqSpot at h
  split at h
  · obtain ⟨hp, rfl⟩ := gd_o h
    exact ⟨_, ev_eqSpot _ _ _ _ hp, rfl⟩
  · cases h

/- laws.eqIntS -/
def K_eqIntS : List AV → List Ob → Option (AV × List Ob)
  | [.lst (.int .i64) a, .lst (.int .i64) b], [] => gd (a.length < 4611686018427387904 ∧ b.length < 4611686018427387904) (.bool (decide (a = b)), [])
  | _, _ => none
@[reducible] def E_eqIntS : Env := mkE (tb []) (fun f => false) (fun r => bif r == 4 then ([0, 1, 5], [4]) else ([], []))
theorem lp_eqIntS (a b : List Int) (hl : a.length = b.length) (ha : a.length < 4611686018427387904) (k : AX → S → Option (AV × List Ob)) (d : Nat) : ∀ (n i : Nat) (x : Int), a.length - i = d → i ≤ a.length → x = i → d < n →
    lpAt E_eqIntS (lp E_eqIntS 0 n) 0 (loopAt Try.f22 0) (mkS [0, 1, 5] [.lst (.int .i64) a, .lst (.int .i64) b, .int .i64 x] []) k =
      if a.drop i = b.drop i then k (.exit 0) (mkS [4] [.any] []) else k .ret (mkS [4] [.bool false] []) := by
  induction d with
  | zero =>
    intro n i x hd hi hx hn
    subst hx
    rw [lpAt_def]
    conv => lhs; whnf
    refine br_f (df (by omega)) ?_
    conv => lhs; whnf
    rw [if_pos (by rw [List.drop_of_length_le (by omega), List.drop_of_length_le (by omega)])]
  | succ d ih =>
    intro n i x hd hi hx hn
    obtain ⟨n, rfl⟩ : ∃ m, n = m + 1 := ⟨n - 1, by omega⟩
    subst hx
    rw [lpAt_def]
    conv => lhs; whnf
    refine br_t (dt (by omega)) ?_
    conv => lhs; whnf
    refine br_t (dt2 (by omega) (by omega)) ?_
    conv => lhs; whnf
    refine br_t (dt2 (by omega) (by omega)) ?_
    conv => lhs; whnf
    rw [getD_drop (l := a) (i := i) (d := 0) (by omega), getD_drop (l := b) (i := i) (d := 0) (by omega)]
    refine br_t (by kernel_rfl) ?_
    conv => lhs; whnf
    refine br_c (fun h => ?_) (fun h => ?_)
    · conv => lhs; whnf
      rw [if_neg]
      intro he
      have := (List.cons.inj he).1
      simp at h
      exact h this
    · conv => lhs; whnf
      rw [ih n (i + 1) _ (by omega) (by omega) (by rw [wrap64 (by omega) (by omega)]; simp) (by omega)]
      simp at h
      simp [h]
theorem ev_eqIntS (a b : List Int) (hp : a.length < 4611686018427387904 ∧ b.length < 4611686018427387904) : evF E_eqIntS (a.length + 2) Try.f22 [.lst (.int .i64) a, .lst (.int .i64) b] [] = some (.bool (decide (a = b)), []) := by
  conv => lhs; whnf
  refine br_c (fun h => ?_) (fun h => ?_)
  · conv => lhs; whnf
    have : a ≠ b := by
      rintro rfl
      simp at h
    simp [this]
  · conv => lhs; whnf
    have hl : a.length = b.length := by simp at h; omega
    refine (lp_eqIntS a b hl hp.1 _ _ _ 0 0 rfl (by omega) rfl (by omega)).trans ?_
    simp only [List.drop_zero]
    split
    · rename_i he
      conv => lhs; whnf
      simp [he]
    · rename_i he
      conv => lhs; whnf
      simp [he]
theorem ok_eqIntS : FnOk Try.prog 22 K_eqIntS := by
  refine fn_ok (fn := Try.f22) (k := Try.f22.ntmps) (E := E_eqIntS) (facts_of (List.forall_mem_nil _)) (by kernel_rfl) rfl (by decide +kernel) (by decide +kernel) ?_
  intro avs hin r h
  unfold K_eqIntS at h
  split at h
  · obtain ⟨hp, rfl⟩ := gd_o h
    exact ⟨_, ev_eqIntS _ _ hp, rfl⟩
  · cases h

/- laws.eqContext -/
def K_eqContext : List AV → List Ob → Option (AV × List Ob)
  | [.agg [.int .i64 m, .lst (.int .i64) a], .agg [.int .i64 m', .lst (.int .i64) a']], [] => gd (a.length < 4611686018427387904 ∧ a'.length < 4611686018427387904) (.bool (decide (m = m' ∧ a = a')), [])
  | _, _ => none
@[reducible] def E_eqContext : Env := mkE (tb [(22, K_eqIntS)]) (fun f => false) (fun r => ([], []))
theorem ev_eqContext (m : Int) (a : List Int) (m' : Int) (a' : List Int) (hp : a.length < 4611686018427387904 ∧ a'.length < 4611686018427387904) : evF E_eqContext (1) Try.f13 [.agg [.int .i64 m, .lst (.int .i64) a], .agg [.int .i64 m', .lst (.int .i64) a']] [] = some (.bool (decide (m = m' ∧ a = a')), []) := by
  conv => lhs; whnf
  refine br_c (fun h => ?_) (fun h => ?_)
  · conv => lhs; whnf
    simp at h
    simp [h]
  · conv => lhs; whnf
    conv => lhs; arg 1; whnf
    refine bnd_g (by exact ⟨hp.1, hp.2⟩) ?_
    conv => lhs; whnf
    refine br_c (fun h' => ?_) (fun h' => ?_)
    · conv => lhs; whnf
      simp at h h'
      simp [h']
    · conv => lhs; whnf
      simp at h h'
      simp [h, h']
theorem ok_eqContext : FnOk Try.prog 13 K_eqContext := by
  refine fn_ok (fn := Try.f13) (k := Try.f13.ntmps) (E := E_eqContext) (facts_of (List.forall_mem_cons.2 ⟨ok_eqIntS, List.forall_mem_nil _⟩)) (by kernel_rfl) rfl (by decide +kernel) (by decide +kernel) ?_
  intro avs hin r h
  unfold K_eqContext at h
  split at h
  · obtain ⟨hp, rfl⟩ := gd_o h
    exact ⟨_, ev_eqContext _ _ _ _ hp, rfl⟩
  · cases h

/- laws.FnExactAttributeVector -/
def K_lawAttributeVector : List AV → List Ob → Option (AV × List Ob)
  | [.agg [.int .i64 m, .lst (.int .i64) a], .int .i64 g], [] => gd (a.length ≤ maxLen) (.bool true, [])
  | _, _ => none
@[reducible] def E_lawAttributeVector : Env := mkE (tb [(18, K_szContext), (20, K_toContext), (25, K_specAttributeVector), (26, K_implAttributeVector), (27, K_eqSpot), (13, K_eqContext)]) (fun f => false) (fun r => ([], []))
theorem ev_lawAttributeVector (m : Int) (a : List Int) (g : Int) (hp : a.length ≤ maxLen) : evF E_lawAttributeVector (1) Try.f5 [.agg [.int .i64 m, .lst (.int .i64) a], .int .i64 g] [] = some (.bool true, []) := by
  conv => lhs; whnf
  conv => lhs; arg 1; whnf
  refine bnd_g (by exact ⟨by omega, by omega, hp⟩) ?_
  conv => lhs; whnf
  refine br_c (fun h1 => ?_) (fun h1 => ?_)
  · conv => lhs; whnf
  · conv => lhs; whnf
    obtain ⟨e1, l1⟩ := szI_ok (ofn h1)
    conv => lhs; arg 1; whnf
    refine bnd_g (by omega) ?_
    conv => lhs; whnf
    conv => lhs; arg 1; whnf
    refine bnd_g (by omega) ?_
    conv => lhs; whnf
    conv => lhs; arg 1; whnf
    refine bnd_g (by omega) ?_
    conv => lhs; whnf
    conv => lhs; arg 1; whnf
    refine bnd_g (by omega) ?_
    conv => lhs; whnf
    conv => lhs; arg 1; whnf
    refine bnd_g (by exact True.intro) ?_
    conv => lhs; whnf
    repeat ((first | with_reducible apply br_tt | with_reducible apply br_ff | with_reducible apply br_nf | with_reducible apply br_nt | with_reducible refine br_d ?_ (by kernel_rfl) | with_reducible refine br_f (by simp; done) ?_); conv => lhs; whnf)
    conv => lhs; arg 1; whnf
    refine bnd_g (by omega) ?_
    conv => lhs; whnf
    conv => lhs; arg 1; whnf
    refine bnd_g (by exact ⟨by omega, by omega⟩) ?_
    conv => lhs; whnf
    repeat ((first | with_reducible apply br_tt | with_reducible apply br_ff | with_reducible apply br_nf | with_reducible apply br_nt | with_reducible refine br_d ?_ (by kernel_rfl) | with_reducible refine br_f (by simp; done) ?_); conv => lhs; whnf)
theorem ok_lawAttributeVector : FnOk Try.prog 5 K_lawAttributeVector := by
  refine fn_ok (fn := Try.f5) (k := Try.f5.ntmps) (E := E_lawAttributeVector) (facts_of (List.forall_mem_cons.2 ⟨ok_szContext, List.forall_mem_cons.2 ⟨ok_toContext, List.forall_mem_cons.2 ⟨ok_specAttributeVector, List.forall_mem_cons.2 ⟨ok_implAttributeVector, List.forall_mem_cons.2 ⟨ok_eqSpot, List.forall_mem_cons.2 ⟨ok_eqContext, List.forall_mem_nil _⟩⟩⟩⟩⟩⟩)) (by kernel_rfl) rfl (by decide +kernel) (by decide +kernel) ?_
  intro avs hin r h
  unfold K_lawAttributeVector at h
  split at h
  · obtain ⟨hp, rfl⟩ := gd_o h
    exact ⟨_, ev_lawAttributeVector _ _ _ hp, rfl⟩
  · cases h

end Go.Sym
