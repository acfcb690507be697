/- Functions of the program, each told as a plain equation. -/
import Derived.Test.YtiihfodcocihjaaSymX
namespace Go.Sym
open Go.Proofs
set_option linter.unusedVariables false
set_option linter.unusedSimpArgs false
set_option maxRecDepth 100000
set_option maxHeartbeats 4000000

def szI (n left : Int) : Int := if left < n then -1 else left - n
theorem szI_ok {n left : Int} (h : ¬ szI n left < 0) : szI n left = left - n ∧ n ≤ left := by
  unfold szI at h ⊢
  split at h
  · omega
  · rename_i h5; exact ⟨if_neg h5, by omega⟩
/- laws.szIntS -/
def K_szIntS : List AV → List Ob → Option (AV × List Ob)
  | [.lst (.int .i64) a, .int .i64 left], [] => gd (0 ≤ left ∧ left ≤ 1048576 ∧ a.length ≤ maxLen) (.int .i64 (szI a.length left), [])
  | _, _ => none
@[reducible] def E_szIntS : Env := mkE (tb []) (fun f => false) (fun r => ([], []))
theorem ev_szIntS (a : List Int) (left : Int) (hp : 0 ≤ left ∧ left ≤ 1048576 ∧ a.length ≤ maxLen) : evF E_szIntS (1) Try.f41 [.lst (.int .i64) a, .int .i64 left] [] = some (.int .i64 (szI a.length left), []) := by
  obtain ⟨h0, h1, h2⟩ := hp
  have hm := maxLen_eq
  have hw : IntKind.i64.wrap (left - a.length) = left - a.length := wrap64 (by omega) (by omega)
  conv => lhs; whnf
  refine br_c (fun h => ?_) (fun h => ?_)
  · conv => lhs; whnf
    have h := ofd h
    rw [hw] at h
    rw [szI, if_pos (by omega)]
  · conv => lhs; whnf
    have h := ofn h
    rw [hw] at h
    rw [szI, if_neg (by omega), hw]
theorem ok_szIntS : FnOk Try.prog 41 K_szIntS := by
  refine fn_ok (fn := Try.f41) (k := Try.f41.ntmps) (E := E_szIntS) (facts_of (List.forall_mem_nil _)) (by kernel_rfl) rfl (by decide +kernel) (by decide +kernel) ?_
  intro avs hin r h
  unfold K_szIntS at h
  split at h
  · obtain ⟨hp, rfl⟩ := gd_o h
    exact ⟨_, ev_szIntS _ _ hp, rfl⟩
  · cases h

/- laws.szContext -/
def K_szContext : List AV → List Ob → Option (AV × List Ob)
  | [.agg [.int .i64 m, .lst (.int .i64) a], .int .i64 left], [] => gd (0 ≤ left ∧ left ≤ 1048576 ∧ a.length ≤ maxLen) (.int .i64 (szI a.length left), [])
  | _, _ => none
@[reducible] def E_szContext : Env := mkE (tb [(41, K_szIntS)]) (fun f => false) (fun r => ([], []))
theorem ev_szContext (m : Int) (a : List Int) (left : Int) (hp : 0 ≤ left ∧ left ≤ 1048576 ∧ a.length ≤ maxLen) : evF E_szContext (1) Try.f18 [.agg [.int .i64 m, .lst (.int .i64) a], .int .i64 left] [] = some (.int .i64 (szI a.length left), []) := by
  obtain ⟨h0, h1, h2⟩ := hp
  conv => lhs; whnf
  conv => lhs; arg 1; whnf
  refine bnd_g (by exact ⟨h0, h1, h2⟩) ?_
  conv => lhs; whnf
  refine br_c (fun h => ?_) (fun h => ?_)
  · conv => lhs; whnf
    have h := ofd h
    unfold szI at h ⊢
    split at h
    · rw [if_pos (by omega)]
    · omega
  · conv => lhs; whnf
theorem ok_szContext : FnOk Try.prog 18 K_szContext := by
  refine fn_ok (fn := Try.f18) (k := Try.f18.ntmps) (E := E_szContext) (facts_of (List.forall_mem_cons.2 ⟨ok_szIntS, List.forall_mem_nil _⟩)) (by kernel_rfl) rfl (by decide +kernel) (by decide +kernel) ?_
  intro avs hin r h
  unfold K_szContext at h
  split at h
  · obtain ⟨hp, rfl⟩ := gd_o h
    exact ⟨_, ev_szContext _ _ _ hp, rfl⟩
  · cases h

/- laws.toIntS -/
def K_toIntS : List AV → List Ob → Option (AV × List Ob)
  | [.lst (.int .i64) a], [] => gd (a.length ≤ 1048576) (.own 0, [.row 3 (.int .i64) a])
  | _, _ => none
@[reducible] def E_toIntS : Env := mkE (tb []) (fun f => false) (fun r => bif r == 3 then ([0, 3, 4], [3]) else ([], []))
theorem lp_toIntS (a : List Int) (ha : a.length ≤ 1048576) (k : AX → S → Option (AV × List Ob)) (d : Nat) : ∀ (n i : Nat) (x : Int) (ys : List Int), a.length - i = d → i ≤ a.length → x = i → d < n → ys.length = a.length → ys.take i = a.take i →
    lpAt E_toIntS (lp E_toIntS 0 n) 0 (loopAt Try.f43 0) (mkS [0, 3, 4] [.lst (.int .i64) a, .own 0, .int .i64 x] [some (.row 3 (.int .i64) ys)]) k =
      k (.exit 0) (mkS [3] [.own 0] [some (.row 3 (.int .i64) a)]) := by
  induction d with
  | zero =>
    intro n i x ys hd hi hx hn hl ht
    subst hx
    rw [lpAt_def]
    conv => lhs; whnf
    refine br_f (df (by omega)) ?_
    conv => lhs; whnf
    have : ys = a := by rw [List.take_of_length_le (by omega), List.take_of_length_le (by omega)] at ht; exact ht
    rw [this]
  | succ d ih =>
    intro n i x ys hd hi hx hn hl ht
    obtain ⟨n, rfl⟩ : ∃ m, n = m + 1 := ⟨n - 1, by omega⟩
    subst hx
    rw [lpAt_def]
    conv => lhs; whnf
    refine br_t (dt (by omega)) ?_
    conv => lhs; whnf
    refine br_t (dt2 (by omega) (by omega)) ?_
    conv => lhs; whnf
    refine br_t (dt2 (by omega) (by omega)) ?_
    conv => lhs; whnf
    refine br_t (dt (by omega)) ?_
    conv => lhs; whnf
    refine ih n (i + 1) _ _ (by omega) (by omega) (by rw [wrap64 (by omega) (by omega)]; simp) (by omega) (by simp [hl]) ?_
    have hlt : i < a.length := by omega
    simp only [Int.toNat_natCast]
    rw [List.take_succ_eq_append_getElem (by simp; omega), List.take_succ_eq_append_getElem hlt, List.take_set_of_le (by omega), ht]
    simp [hlt]
theorem ev_toIntS (a : List Int) (hp : a.length ≤ 1048576) : evF E_toIntS (a.length + 2) Try.f43 [.lst (.int .i64) a] [] = some (.own 0, [.row 3 (.int .i64) a]) := by
  conv => lhs; whnf
  refine br_t (mk_ok (by dsimp only; omega)) ?_
  conv => lhs; whnf
  refine (lp_toIntS a hp _ _ _ 0 0 _ rfl (by omega) rfl (by omega) (by simp) (by simp)).trans ?_
  conv => lhs; whnf
theorem ok_toIntS : FnOk Try.prog 43 K_toIntS := by
  refine fn_ok (fn := Try.f43) (k := Try.f43.ntmps) (E := E_toIntS) (facts_of (List.forall_mem_nil _)) (by kernel_rfl) rfl (by decide +kernel) (by decide +kernel) ?_
  intro avs hin r h
  unfold K_toIntS at h
  split at h
  · obtain ⟨hp, rfl⟩ := gd_o h
    exact ⟨_, ev_toIntS _ hp, rfl⟩
  · cases h

/- laws.toContext -/
def K_toContext : List AV → List Ob → Option (AV × List Ob)
  | [.agg [.int .i64 m, .lst (.int .i64) a]], [] => gd (a.length ≤ 1048576) (.agg [.int .i64 m, .own 0], [.row 3 (.int .i64) a])
  | _, _ => none
@[reducible] def E_toContext : Env := mkE (tb [(43, K_toIntS)]) (fun f => false) (fun r => ([], []))
theorem ev_toContext (m : Int) (a : List Int) (hp : a.length ≤ 1048576) : evF E_toContext (1) Try.f20 [.agg [.int .i64 m, .lst (.int .i64) a]] [] = some (.agg [.int .i64 m, .own 0], [.row 3 (.int .i64) a]) := by
  conv => lhs; whnf
  conv => lhs; arg 1; whnf
  refine bnd_g (by exact hp) ?_
  conv => lhs; whnf
theorem ok_toContext : FnOk Try.prog 20 K_toContext := by
  refine fn_ok (fn := Try.f20) (k := Try.f20.ntmps) (E := E_toContext) (facts_of (List.forall_mem_cons.2 ⟨ok_toIntS, List.forall_mem_nil _⟩)) (by kernel_rfl) rfl (by decide +kernel) (by decide +kernel) ?_
  intro avs hin r h
  unfold K_toContext at h
  split at h
  · obtain ⟨hp, rfl⟩ := gd_o h
    exact ⟨_, ev_toContext _ _ hp, rfl⟩
  · cases h

def isSet (n s : Int) : Bool := decide ((0 ≤ n ∧ n ≤ 8) ∧ (0 ≤ s ∧ s ≤ 2 ^ n.toNat - 1))
theorem shl_set {n : Int} (h0 : 0 ≤ n) (h8 : n ≤ 8) : IntKind.i64.wrap (IntKind.i64.wrap (1 * 2 ^ min n.toNat IntKind.i64.bits) - 1) = 2 ^ n.toNat - 1 := by
  have h : n = 0 ∨ n = 1 ∨ n = 2 ∨ n = 3 ∨ n = 4 ∨ n = 5 ∨ n = 6 ∨ n = 7 ∨ n = 8 := by omega
  rcases h with rfl | rfl | rfl | rfl | rfl | rfl | rfl | rfl | rfl <;> decide +kernel
theorem wrapu {n : Int} (h0 : 0 ≤ n) (h8 : n ≤ 8) : IntKind.u64.wrap n = n := by
  simp [IntKind.wrap, IntKind.bits, IntKind.signed]
  omega
theorem isSet8 (s : Int) : isSet 8 s = decide (0 ≤ s ∧ s ≤ 255) := by simp [isSet]
/-- The machine's and, and its and-not, on int. -/
def band (a b : Int) : Int := IntKind.i64.wrap (BitVec.ofInt IntKind.i64.bits a &&& BitVec.ofInt IntKind.i64.bits b).toNat
def bnot (a b : Int) : Int := IntKind.i64.wrap (BitVec.ofInt IntKind.i64.bits a &&& ~~~(BitVec.ofInt IntKind.i64.bits b)).toNat
def bor (a b : Int) : Int := IntKind.i64.wrap (BitVec.ofInt IntKind.i64.bits a ||| BitVec.ofInt IntKind.i64.bits b).toNat
theorem wrap_bv (x : BitVec 64) : IntKind.i64.wrap x.toNat = x.toInt := by
  simp [IntKind.wrap, IntKind.bits, IntKind.signed, BitVec.toInt]
  omega
theorem ofInt_toInt {a : Int} (h1 : -9223372036854775808 ≤ a) (h2 : a ≤ 9223372036854775807) : (BitVec.ofInt 64 a).toInt = a := by
  rw [BitVec.toInt_ofInt]
  simp [Int.bmod]
  omega
theorem bv_sub (x y : BitVec 64) : x &&& y = x ↔ x &&& ~~~y = 0#64 := by
  constructor
  · intro h
    apply BitVec.eq_of_getLsbD_eq
    intro i hi
    have h1 := congrArg (fun z => BitVec.getLsbD z i) h
    simp [hi] at h1 ⊢
    exact h1
  · intro h
    apply BitVec.eq_of_getLsbD_eq
    intro i hi
    have h1 := congrArg (fun z => BitVec.getLsbD z i) h
    simp [hi] at h1 ⊢
    exact h1
theorem sub_iff {a b : Int} (h1 : -9223372036854775808 ≤ a) (h2 : a ≤ 9223372036854775807) : band a b = a ↔ bnot a b = 0 := by
  unfold band bnot
  show IntKind.i64.wrap (BitVec.ofInt 64 a &&& BitVec.ofInt 64 b).toNat = a ↔ IntKind.i64.wrap (BitVec.ofInt 64 a &&& ~~~(BitVec.ofInt 64 b)).toNat = 0
  rw [wrap_bv, wrap_bv]
  conv => lhs; rhs; rw [← ofInt_toInt h1 h2]
  rw [BitVec.toInt_inj, ← BitVec.toInt_zero, BitVec.toInt_inj]
  exact bv_sub _ _
def isCtx (m : Int) (b : List Int) : Bool := decide (0 ≤ m ∧ m ≤ 6) && decide (b.length ≤ 8) && b.all (isSet m)
def badRow (m x : Int) : Bool := !isSet m x
def fullSet (n : Int) : Int := if 0 ≤ n ∧ n ≤ 8 then 2 ^ n.toNat - 1 else 0
theorem any_badRow (m : Int) (b : List Int) : (!b.any (badRow m)) = b.all (isSet m) := by
  simp [badRow, List.not_any_eq_all_not]
def hasE (s e : Int) : Bool := isSet 8 s && decide (0 ≤ e ∧ e ≤ 7) && s.toNat.testBit e.toNat
theorem bit_all : ∀ s : Fin 256, ∀ e : Fin 9, (band ((s.val : Int).fdiv (2 ^ min ((e.val : Int)).toNat IntKind.i64.bits)) 1 == 1) = s.val.testBit e.val := by decide +kernel
theorem bit_of {s e : Int} (h0 : 0 ≤ s) (h1 : s ≤ 255) (h2 : 0 ≤ e) (h3 : e ≤ 8) : (band (s.fdiv (2 ^ min e.toNat IntKind.i64.bits)) 1 == 1) = s.toNat.testBit e.toNat := by
  have := bit_all ⟨s.toNat, by omega⟩ ⟨e.toNat, by omega⟩
  simp only [Int.toNat_of_nonneg h0, Int.toNat_of_nonneg h2] at this
  exact this
theorem bv_rng (x : BitVec 64) : -9223372036854775808 ≤ x.toInt ∧ x.toInt ≤ 9223372036854775807 := by
  have h1 : x.toInt < 9223372036854775808 := x.toInt_lt
  have h2 : -9223372036854775808 ≤ x.toInt := x.le_toInt
  omega
theorem band_range (a b : Int) : -9223372036854775808 ≤ band a b ∧ band a b ≤ 9223372036854775807 := by
  unfold band
  rw [show IntKind.i64.wrap (BitVec.ofInt IntKind.i64.bits a &&& BitVec.ofInt IntKind.i64.bits b).toNat = (BitVec.ofInt 64 a &&& BitVec.ofInt 64 b).toInt from wrap_bv _]
  exact bv_rng _
theorem band_comm (a b : Int) : band a b = band b a := by
  unfold band
  rw [BitVec.and_comm]
def commonF (objs : Int) : List Int → Nat → Int → Int
  | [], _, acc => acc
  | x :: r, i, acc => commonF objs r (i + 1) (bif hasE objs i then band acc x else acc)
def Rng (x : Int) : Prop := -9223372036854775808 ≤ x ∧ x ≤ 9223372036854775807
theorem commonF_rng (s : Int) : ∀ (a : List Int) (i : Nat) (acc : Int), Rng acc → Rng (commonF s a i acc)
  | [], _, _, h => h
  | x :: r, i, acc, h => by
    unfold commonF
    refine commonF_rng s r (i + 1) _ ?_
    cases hasE s i
    · exact h
    · exact band_range acc x
theorem fullSet_rng (n : Int) : 0 ≤ fullSet n ∧ fullSet n ≤ 255 := by
  unfold fullSet
  split
  · rename_i h
    have h : n = 0 ∨ n = 1 ∨ n = 2 ∨ n = 3 ∨ n = 4 ∨ n = 5 ∨ n = 6 ∨ n = 7 ∨ n = 8 := by omega
    rcases h with rfl | rfl | rfl | rfl | rfl | rfl | rfl | rfl | rfl <;> decide
  · omega
def intentF (m : Int) (a : List Int) (s : Int) : Int := commonF s a 0 (fullSet m)
theorem intentF_rng (m : Int) (a : List Int) (s : Int) : Rng (intentF m a s) := by
  refine commonF_rng s a 0 _ ?_
  have := fullSet_rng m
  unfold Rng
  omega
theorem isSet_le {n s : Int} (h : isSet n s = true) : 0 ≤ n ∧ n ≤ 8 ∧ 0 ≤ s ∧ s ≤ 255 := by
  unfold isSet at h
  have h := of_decide_eq_true h
  have h8 : n = 0 ∨ n = 1 ∨ n = 2 ∨ n = 3 ∨ n = 4 ∨ n = 5 ∨ n = 6 ∨ n = 7 ∨ n = 8 := by omega
  rcases h8 with rfl | rfl | rfl | rfl | rfl | rfl | rfl | rfl | rfl <;> simp at h <;> omega
theorem isSet_8 {n s : Int} (h : isSet n s = true) : isSet 8 s = true := by
  have := isSet_le h
  rw [isSet8]
  exact decide_eq_true (by omega)
theorem isCtx_len {m : Int} {a : List Int} (h : isCtx m a = true) : a.length ≤ 8 ∧ 0 ≤ m ∧ m ≤ 6 ∧ ∀ x ∈ a, isSet m x = true := by
  unfold isCtx at h
  simp only [Bool.and_eq_true, decide_eq_true_eq, List.all_eq_true] at h
  exact ⟨h.1.2, h.1.1.1, h.1.1.2, h.2⟩
def popF : Nat → Nat → Nat
  | 0, _ => 0
  | d + 1, s => s % 2 + popF d (s / 2)
def cntF (s : Int) : Int := if isSet 8 s then (popF 8 s.toNat : Int) else 0
theorem and1_all : ∀ s : Fin 256, band (s.val : Int) 1 = ((s.val % 2 : Nat) : Int) := by decide +kernel
theorem and1_of (s : Nat) (h : s < 256) : band (s : Int) 1 = ((s % 2 : Nat) : Int) := and1_all ⟨s, h⟩
theorem half_of (s : Nat) : ((s : Int).fdiv (2 ^ min (1 : Int).toNat IntKind.i64.bits)) = ((s / 2 : Nat) : Int) := by
  show (s : Int).fdiv 2 = _
  rw [Int.fdiv_eq_ediv_of_nonneg _ (by omega)]
  omega
theorem popF_le : ∀ (d s : Nat), popF d s ≤ d
  | 0, _ => Nat.le_refl 0
  | d + 1, s => by have := popF_le d (s / 2); unfold popF; omega
def badR (r : Int × Int) : Bool := !(isSet 8 r.1 && isSet 8 r.2)
def respOf (p q s : Int) : Bool := isSet 8 p && isSet 8 q && isSet 8 s && (!(bnot p s == 0) || bnot q s == 0)
theorem bne_bnot {p s : Int} (h : isSet 8 p = true) : (band p s != p) = !(bnot p s == 0) := by
  rw [isSet8] at h
  have h := of_decide_eq_true h
  have e := sub_iff (a := p) (b := s) (by omega) (by omega)
  simp only [bne]
  congr 1
  rw [Bool.eq_iff_iff, beq_iff_eq, beq_iff_eq, e]
theorem beq_bnot {p s : Int} (h : isSet 8 p = true) : (band p s == p) = (bnot p s == 0) := by
  have := bne_bnot (s := s) h
  simpa [bne] using this
def firstI {α : Type} (p : α → Bool) : List α → Int → Int
  | [], _ => -1
  | x :: r, i => bif p x then i else firstI p r (i + 1)
theorem firstI_iff {α : Type} (p : α → Bool) : ∀ (l : List α) (i : Int), 0 ≤ i → (decide (firstI p l i ≥ 0)) = l.any p
  | [], i, h => by simp [firstI]
  | x :: r, i, h => by
    cases hx : p x
    · simp only [firstI, hx, cond_false, List.any_cons, Bool.false_or]
      exact firstI_iff p r (i + 1) (by omega)
    · simp [firstI, hx]
      omega
theorem firstI_none {α : Type} (p : α → Bool) : ∀ (l : List α) (i : Int), l.any p = false → firstI p l i = -1
  | [], i, h => rfl
  | x :: r, i, h => by
    simp only [List.any_cons, Bool.or_eq_false_iff] at h
    simp only [firstI, h.1, cond_false]
    exact firstI_none p r (i + 1) h.2
def idxs {α : Type} (p : α → Bool) : List α → Int → List Int
  | [], _ => []
  | x :: r, i => bif p x then i :: idxs p r (i + 1) else idxs p r (i + 1)
def brk (a : List (Int × Int)) (s : Int) : List Int := idxs (fun r => !respOf r.1 r.2 s) a 0
theorem idxs_length {α : Type} (p : α → Bool) : ∀ (l : List α) (i : Int), (idxs p l i).length ≤ l.length
  | [], i => by simp [idxs]
  | x :: r, i => by
    have := idxs_length p r (i + 1)
    cases hx : p x <;> simp [idxs, hx] <;> omega
def notObj (m : Int) (b : List Int) (g : Int) : Bool := !(isCtx m b && decide (0 ≤ g ∧ g ≤ (b.length : Int) - 1))
def andRows (b : List Int) : List Int → Int → Int
  | [], acc => acc
  | g :: r, acc => andRows b r (band acc (b.getD g.toNat 0))
def sharedF (m : Int) (b : List Int) (l : List Int) : Int :=
  if isCtx m b && !l.any (notObj m b) then cntF (andRows b l (fullSet m)) else -1
def nearN (a : List Int) (g i : Int) : Int := cntF (band (a.getD i.toNat 0) (a.getD g.toNat 0))
def nearL (a : List Int) (g : Int) : Nat → Nat → Int → List Int → List Int
  | 0, _, _, out => out
  | d + 1, i, best, out => if (i : Int) = g then nearL a g d (i + 1) best out
    else if best < nearN a g i then nearL a g d (i + 1) (nearN a g i) [(i : Int)]
    else if nearN a g i = best then nearL a g d (i + 1) best (out ++ [(i : Int)])
    else nearL a g d (i + 1) best out
theorem nearL_length (a : List Int) (g : Int) : ∀ (d i : Nat) (best : Int) (out : List Int), out.length ≤ i → (nearL a g d i best out).length ≤ i + d
  | 0, i, _, out, h => by unfold nearL; omega
  | d + 1, i, best, out, h => by
    unfold nearL
    have h1 := nearL_length a g d (i + 1) best out (by omega)
    have h2 := nearL_length a g d (i + 1) (nearN a g i) [(i : Int)] (by simp)
    have h3 := nearL_length a g d (i + 1) best (out ++ [(i : Int)]) (by simp; omega)
    split
    · omega
    · split
      · omega
      · split <;> omega
def nearF (m : Int) (a : List Int) (g : Int) : List Int := bif notObj m a g then [] else nearL a g a.length 0 (-1) []
theorem nearF_len (m : Int) (a : List Int) (g : Int) : (nearF m a g).length ≤ 8 := by
  unfold nearF
  cases h : notObj m a g
  · unfold notObj at h
    have h := bnf h
    rw [Bool.and_eq_true] at h
    have h1 := nearL_length a g a.length 0 (-1) [] (by simp)
    have h2 := (isCtx_len h.1).1
    rw [cond_false]
    omega
  · simp
/- spec.l1In -/
def K_l1In : List AV → List Ob → Option (AV × List Ob)
  | [.int .i64 n, .int .i64 l, .int .i64 h], [] => gd (True) (.bool (decide (l ≤ n ∧ n ≤ h)), [])
  | _, _ => none
@[reducible] def E_l1In : Env := mkE (tb []) (fun f => false) (fun r => ([], []))
theorem ev_l1In (n l h : Int) (hp : True) : evF E_l1In (1) Try.f48 [.int .i64 n, .int .i64 l, .int .i64 h] [] = some (.bool (decide (l ≤ n ∧ n ≤ h)), []) := by
  conv => lhs; whnf
  refine br_c (fun h1 => ?_) (fun h1 => ?_)
  · conv => lhs; whnf
    repeat ((first | with_reducible apply br_tt | with_reducible apply br_ff | with_reducible apply br_nf | with_reducible apply br_nt | with_reducible refine br_d ?_ (by kernel_rfl) | with_reducible apply br_t h1 | with_reducible apply br_f h1); conv => lhs; whnf)
    have := ofd h1
    simp [this]
  · conv => lhs; whnf
    repeat ((first | with_reducible apply br_tt | with_reducible apply br_ff | with_reducible apply br_nf | with_reducible apply br_nt | with_reducible refine br_d ?_ (by kernel_rfl) | with_reducible apply br_t h1 | with_reducible apply br_f h1); conv => lhs; whnf)
    have := ofn h1
    simp [this]
theorem ok_l1In : FnOk Try.prog 48 K_l1In := by
  refine fn_ok (fn := Try.f48) (k := Try.f48.ntmps) (E := E_l1In) (facts_of (List.forall_mem_nil _)) (by kernel_rfl) rfl (by decide +kernel) (by decide +kernel) ?_
  intro avs hin r h
  unfold K_l1In at h
  split at h
  · obtain ⟨hp, rfl⟩ := gd_o h
    exact ⟨_, ev_l1In _ _ _ hp, rfl⟩
  · cases h

/- spec.IsSet -/
def K_specIsSet : List AV → List Ob → Option (AV × List Ob)
  | [.int .i64 n, .int .i64 s], [] => gd (True) (.bool (isSet n s), [])
  | _, _ => none
@[reducible] def E_specIsSet : Env := mkE (tb [(48, K_l1In)]) (fun f => false) (fun r => ([], []))
theorem ev_specIsSet (n s : Int) (hp : True) : evF E_specIsSet (1) Try.f59 [.int .i64 n, .int .i64 s] [] = some (.bool (isSet n s), []) := by
  conv => lhs; whnf
  conv => lhs; arg 1; whnf
  refine bnd_g (by exact True.intro) ?_
  conv => lhs; whnf
  refine br_c (fun h => ?_) (fun h => ?_)
  · conv => lhs; whnf
    have h8 := ofd h
    repeat ((first | with_reducible apply br_tt | with_reducible apply br_ff | with_reducible apply br_nf | with_reducible apply br_nt | with_reducible refine br_d ?_ (by kernel_rfl) | with_reducible apply br_t h | with_reducible apply br_f h); conv => lhs; whnf)
    rw [wrapu h8.1 h8.2]
    refine br_f (df (by omega)) ?_
    conv => lhs; whnf
    repeat ((first | with_reducible apply br_tt | with_reducible apply br_ff | with_reducible apply br_nf | with_reducible apply br_nt | with_reducible refine br_d ?_ (by kernel_rfl) | with_reducible apply br_t h | with_reducible apply br_f h); conv => lhs; whnf)
    conv => lhs; arg 1; whnf
    refine bnd_g (by exact True.intro) ?_
    conv => lhs; whnf
    repeat ((first | with_reducible apply br_tt | with_reducible apply br_ff | with_reducible apply br_nf | with_reducible apply br_nt | with_reducible refine br_d ?_ (by kernel_rfl) | with_reducible apply br_t h | with_reducible apply br_f h); conv => lhs; whnf)
    refine okB ?_
    unfold isSet
    refine decide_eq_decide.2 ?_
    rw [shl_set h8.1 h8.2]
    exact ⟨fun h => ⟨h8, h⟩, fun h => h.2⟩
  · conv => lhs; whnf
    repeat ((first | with_reducible apply br_tt | with_reducible apply br_ff | with_reducible apply br_nf | with_reducible apply br_nt | with_reducible refine br_d ?_ (by kernel_rfl) | with_reducible apply br_t h | with_reducible apply br_f h); conv => lhs; whnf)
    have h8 := ofn h
    simp [isSet, h8]
theorem ok_specIsSet : FnOk Try.prog 59 K_specIsSet := by
  refine fn_ok (fn := Try.f59) (k := Try.f59.ntmps) (E := E_specIsSet) (facts_of (List.forall_mem_cons.2 ⟨ok_l1In, List.forall_mem_nil _⟩)) (by kernel_rfl) rfl (by decide +kernel) (by decide +kernel) ?_
  intro avs hin r h
  unfold K_specIsSet at h
  split at h
  · obtain ⟨hp, rfl⟩ := gd_o h
    exact ⟨_, ev_specIsSet _ _ hp, rfl⟩
  · cases h

/- spec.IsContext -/
def K_specIsContext : List AV → List Ob → Option (AV × List Ob)
  | [.agg [.int .i64 m, .lst (.int .i64) a]], [] => gd (a.length < 4611686018427387904) (.bool (isCtx m a), [])
  | _, _ => none
@[reducible] def E_specIsContext : Env := mkE (tb [(59, K_specIsSet), (48, K_l1In)]) (fun f => false) (fun r => bif r == 2 then ([1, 3], [1, 2]) else ([], []))
theorem lp_specIsContext (m : Int) (a : List Int) (ha : a.length < 4611686018427387904) (k : AX → S → Option (AV × List Ob)) (r : Option (AV × List Ob)) (hk : k .ret (mkS [1, 2] [.ptr 0 0, .bool false] [some (.box 27 [.int .i64 m, .lst (.int .i64) a])]) = r) (d : Nat) : ∀ (n i : Nat) (x : Int), a.length - i = d → i ≤ a.length → x = i → d < n →
    lpAt E_specIsContext (lp E_specIsContext 0 n) 0 (loopAt Try.f47 0) (mkS [1, 3] [.ptr 0 0, .int .i64 x] [some (.box 27 [.int .i64 m, .lst (.int .i64) a])]) k =
      if (a.drop i).all (isSet m) then k (.exit 0) (mkS [1, 2] [.ptr 0 0, .any] [some (.box 27 [.int .i64 m, .lst (.int .i64) a])]) else r := by
  induction d with
  | zero =>
    intro n i x hd hi hx hn
    subst hx
    rw [lpAt_def]
    conv => lhs; whnf
    refine br_f (df (by omega)) ?_
    conv => lhs; whnf
    rw [List.drop_of_length_le (by omega), if_pos (by rfl)]
  | succ d ih =>
    intro n i x hd hi hx hn
    obtain ⟨n, rfl⟩ : ∃ m, n = m + 1 := ⟨n - 1, by omega⟩
    subst hx
    rw [lpAt_def]
    conv => lhs; whnf
    refine br_t (dt (by omega)) ?_
    conv => lhs; whnf
    refine br_t (dt2 (by omega) (by omega)) ?_
    conv => lhs; whnf
    conv => lhs; arg 1; whnf
    refine bnd_g (by exact True.intro) ?_
    conv => lhs; whnf
    refine br_t (by kernel_rfl) ?_
    conv => lhs; whnf
    rw [getD_drop (l := a) (i := i) (d := 0) (by omega)]
    refine br_c (fun h => ?_) (fun h => ?_)
    · have h' : isSet m (a.getD i 0) = false := by simpa using h
      conv => lhs; whnf
      rw [if_neg (by rw [List.all_cons, h', Bool.false_and]; exact Bool.false_ne_true)]
      exact hk
    · have h' : isSet m (a.getD i 0) = true := by simpa using h
      conv => lhs; whnf
      rw [ih n (i + 1) _ (by omega) (by omega) (by rw [wrap64 (by omega) (by omega)]; simp) (by omega)]
      rw [List.all_cons, h', Bool.true_and]
theorem ev_specIsContext (m : Int) (a : List Int) (hp : a.length < 4611686018427387904) : evF E_specIsContext (a.length + 2) Try.f47 [.agg [.int .i64 m, .lst (.int .i64) a]] [] = some (.bool (isCtx m a), []) := by
  conv => lhs; whnf
  refine (lp_specIsContext m a hp _ _ rfl a.length _ 0 0 rfl (by omega) rfl (by omega)).trans ?_
  simp only [List.drop_zero]
  split
  · rename_i hA
    conv => lhs; whnf
    conv => lhs; arg 1; whnf
    refine bnd_g (by exact True.intro) ?_
    conv => lhs; whnf
    refine br_c (fun h => ?_) (fun h => ?_)
    · conv => lhs; whnf
      repeat ((first | with_reducible apply br_tt | with_reducible apply br_ff | with_reducible apply br_nf | with_reducible apply br_nt | with_reducible refine br_d ?_ (by kernel_rfl) | with_reducible apply br_t h | with_reducible apply br_f h); conv => lhs; whnf)
      refine okB ?_
      unfold isCtx
      rw [h, hA, Bool.true_and, Bool.and_true]
      exact decide_eq_decide.2 (by omega)
    · conv => lhs; whnf
      repeat ((first | with_reducible apply br_tt | with_reducible apply br_ff | with_reducible apply br_nf | with_reducible apply br_nt | with_reducible refine br_d ?_ (by kernel_rfl) | with_reducible apply br_t h | with_reducible apply br_f h); conv => lhs; whnf)
      refine okB ?_
      unfold isCtx
      rw [h, Bool.false_and, Bool.false_and]
  · rename_i hA
    conv => lhs; whnf
    refine okB ?_
    unfold isCtx
    rw [Bool.not_eq_true] at hA
    rw [hA, Bool.and_false]
theorem ok_specIsContext : FnOk Try.prog 47 K_specIsContext := by
  refine fn_ok (fn := Try.f47) (k := Try.f47.ntmps) (E := E_specIsContext) (facts_of (List.forall_mem_cons.2 ⟨ok_specIsSet, List.forall_mem_cons.2 ⟨ok_l1In, List.forall_mem_nil _⟩⟩)) (by kernel_rfl) rfl (by decide +kernel) (by decide +kernel) ?_
  intro avs hin r h
  unfold K_specIsContext at h
  split at h
  · obtain ⟨hp, rfl⟩ := gd_o h
    exact ⟨_, ev_specIsContext _ _ hp, rfl⟩
  · cases h

/- spec.CountOf -/
def K_specCountOf : List AV → List Ob → Option (AV × List Ob)
  | [.int .i64 s], [] => gd (True) (.int .i64 (cntF s), [])
  | _, _ => none
@[reducible] def E_specCountOf : Env := mkE (tb [(59, K_specIsSet)]) (fun f => false) (fun r => bif r == 4 then ([0, 3], [3]) else ([], []))
theorem lp_specCountOf (k : AX → S → Option (AV × List Ob)) (d : Nat) : ∀ (n s : Nat) (q : Int), s < 2 ^ d → s < 256 → d < n → 0 ≤ q → q ≤ 1000000 - d →
    lpAt E_specCountOf (lp E_specCountOf 0 n) 0 (loopAt Try.f49 0) (mkS [0, 3] [.int .i64 (s : Int), .int .i64 q] []) k =
      k (.exit 0) (mkS [3] [.int .i64 (q + popF d s)] []) := by
  induction d with
  | zero =>
    intro n s q hd hs hn hq hq'
    have : s = 0 := by simp at hd; omega
    subst this
    rw [lpAt_def]
    conv => lhs; whnf
    refine br_f (by rfl) ?_
    conv => lhs; whnf
    rw [popF]
    simp
  | succ d ih =>
    intro n s q hd hs hn hq hq'
    obtain ⟨n, rfl⟩ : ∃ m, n = m + 1 := ⟨n - 1, by omega⟩
    rw [lpAt_def]
    conv => lhs; whnf
    refine br_c (fun h => ?_) (fun h => ?_)
    · conv => lhs; whnf
      refine br_f (df (by omega)) ?_
      conv => lhs; whnf
      have e1 := and1_of s hs
      have e2 := half_of s
      unfold band at e1
      rw [e1, e2]
      rw [wrap64 (by omega) (by omega)]
      rw [ih n (s / 2) _ (by rw [Nat.pow_succ] at hd; omega) (by omega) (by omega) (by omega) (by omega)]
      rw [popF]
      have e3 : q + ((s % 2 : Nat) : Int) + ((popF d (s / 2) : Nat) : Int) = q + ((s % 2 + popF d (s / 2) : Nat) : Int) := by push_cast; omega
      rw [e3]
    · have h := ofn h
      have : s = 0 := by omega
      subst this
      conv => lhs; whnf
      have e0 : ∀ d, popF d 0 = 0 := by
        intro d
        induction d with
        | zero => rfl
        | succ d ih => rw [popF, ih]
      rw [e0]
      simp
theorem ev_specCountOf (s : Int) (hp : True) : evF E_specCountOf (20) Try.f49 [.int .i64 s] [] = some (.int .i64 (cntF s), []) := by
  conv => lhs; whnf
  conv => lhs; arg 1; whnf
  refine bnd_g (by exact True.intro) ?_
  conv => lhs; whnf
  refine br_c (fun h => ?_) (fun h => ?_)
  · conv => lhs; whnf
    unfold cntF
    rw [if_neg (by rw [bnt h]; exact Bool.false_ne_true)]
  · have hs := isSet_le (bnf h)
    obtain ⟨n, rfl⟩ : ∃ n : Nat, s = (n : Int) := ⟨s.toNat, by omega⟩
    conv => lhs; whnf
    refine (lp_specCountOf _ 8 _ n 0 (by omega) (by omega) (by decide) (by omega) (by omega)).trans ?_
    conv => lhs; whnf
    unfold cntF
    rw [if_pos (bnf h)]
    simp
theorem ok_specCountOf : FnOk Try.prog 49 K_specCountOf := by
  refine fn_ok (fn := Try.f49) (k := Try.f49.ntmps) (E := E_specCountOf) (facts_of (List.forall_mem_cons.2 ⟨ok_specIsSet, List.forall_mem_nil _⟩)) (by kernel_rfl) rfl (by decide +kernel) (by decide +kernel) ?_
  intro avs hin r h
  unfold K_specCountOf at h
  split at h
  · obtain ⟨hp, rfl⟩ := gd_o h
    exact ⟨_, ev_specCountOf _ hp, rfl⟩
  · cases h

/- spec.NearestObjects -/
def K_specNearestObjects : List AV → List Ob → Option (AV × List Ob)
  | [.agg [.int .i64 m, .lst (.int .i64) a], .int .i64 g], [] => gd (a.length ≤ 1048576) (.own 0, [.row 3 (.int .i64) (nearF m a g)])
  | _, _ => none
@[reducible] def E_specNearestObjects : Env := mkE (tb [(47, K_specIsContext), (48, K_l1In), (49, K_specCountOf)]) (fun f => false) (fun r => bif r == 4 then ([1, 2, 5, 6, 7], [1, 2, 5, 6, 7]) else ([], []))
theorem lp_specNearestObjects (m : Int) (a : List Int) (g : Int) (hc : isCtx m a = true) (hg : 0 ≤ g ∧ g ≤ (a.length : Int) - 1) (k : AX → S → Option (AV × List Ob)) (d : Nat) : ∀ (n i : Nat) (x q : Int) (zs : List Int), a.length - i = d → i ≤ a.length → x = i → d < n → zs.length ≤ i →
    ∃ q', lpAt E_specNearestObjects (lp E_specNearestObjects 0 n) 0 (loopAt Try.f19 0) (mkS [1, 2, 5, 6, 7] [.int .i64 g, .ptr 0 0, .own 1, .int .i64 q, .int .i64 x] [some (.box 27 [.int .i64 m, .lst (.int .i64) a]), some (.row 3 (.int .i64) zs)]) k =
      k (.exit 0) (mkS [1, 2, 5, 6, 7] [.int .i64 g, .ptr 0 0, .own 1, .int .i64 q', .int .i64 (a.length : Int)] [some (.box 27 [.int .i64 m, .lst (.int .i64) a]), some (.row 3 (.int .i64) (nearL a g d i q zs))]) := by
  have hl := (isCtx_len hc).1
  induction d with
  | zero =>
    intro n i x q zs hd hi hx hn hz
    subst hx
    refine ⟨q, ?_⟩
    have hf : decide ((i : Int) < (a.length : Int)) = false := df (by omega)
    rw [lpAt_def]
    conv => lhs; whnf
    repeat ((first | with_reducible apply br_tt | with_reducible apply br_ff | with_reducible apply br_nf | with_reducible apply br_nt | with_reducible refine br_d ?_ (by kernel_rfl) | with_reducible apply br_t hf | with_reducible apply br_f hf); conv => lhs; whnf)
    have : i = a.length := by omega
    rw [nearL, this]
  | succ d ih =>
    intro n i x q zs hd hi hx hn hz
    obtain ⟨n, rfl⟩ : ∃ m, n = m + 1 := ⟨n - 1, by omega⟩
    subst hx
    have hf : decide ((i : Int) < (a.length : Int)) = true := dt (by omega)
    have hg' : decide (0 ≤ g ∧ g ≤ (a.length : Int) - 1) = true := dt hg
    have hw : IntKind.i64.wrap ((a.length : Int) - 1) = (a.length : Int) - 1 := wrap64 (by omega) (by omega)
    have hg2 : decide (0 ≤ g ∧ g ≤ IntKind.i64.wrap ((a.length : Int) - 1)) = true := dt (by rw [hw]; exact hg)
    by_cases h1 : (i : Int) = g
    · obtain ⟨q', e⟩ := ih n (i + 1) _ q zs (by omega) (by omega) rfl (by omega) (by omega)
      refine ⟨q', ?_⟩
      rw [lpAt_def]
      conv => lhs; whnf
      repeat ((first | with_reducible apply br_tt | with_reducible apply br_ff | with_reducible apply br_nf | with_reducible apply br_nt | with_reducible refine br_d ?_ (by kernel_rfl) | with_reducible apply br_t hf | with_reducible apply br_f hf); conv => lhs; whnf)
      conv => lhs; arg 1; whnf
      refine bnd_g (by omega) ?_
      conv => lhs; whnf
      repeat ((first | with_reducible apply br_tt | with_reducible apply br_ff | with_reducible apply br_nf | with_reducible apply br_nt | with_reducible refine br_d ?_ (by kernel_rfl) | with_reducible apply br_t hf | with_reducible apply br_f hf | with_reducible apply br_t hc | with_reducible apply br_f hc); conv => lhs; whnf)
      conv => lhs; arg 1; whnf
      refine bnd_g (by exact True.intro) ?_
      conv => lhs; whnf
      repeat ((first | with_reducible apply br_tt | with_reducible apply br_ff | with_reducible apply br_nf | with_reducible apply br_nt | with_reducible refine br_d ?_ (by kernel_rfl) | with_reducible apply br_t hf | with_reducible apply br_f hf | with_reducible apply br_t hc | with_reducible apply br_f hc | with_reducible apply br_t hg2 | with_reducible apply br_f hg2); conv => lhs; whnf)
      refine br_t (by (rw [beq_iff_eq]; exact h1)) ?_
      conv => lhs; whnf
      rw [nearL, if_pos h1]
      rw [wrap64 (n := (i : Int) + 1) (by omega) (by omega)]
      exact e
    · by_cases h2 : q < nearN a g i
      · obtain ⟨q', e⟩ := ih n (i + 1) _ (nearN a g i) [(i : Int)] (by omega) (by omega) rfl (by omega) (by simp)
        refine ⟨q', ?_⟩
        rw [lpAt_def]
        conv => lhs; whnf
        repeat ((first | with_reducible apply br_tt | with_reducible apply br_ff | with_reducible apply br_nf | with_reducible apply br_nt | with_reducible refine br_d ?_ (by kernel_rfl) | with_reducible apply br_t hf | with_reducible apply br_f hf); conv => lhs; whnf)
        conv => lhs; arg 1; whnf
        refine bnd_g (by omega) ?_
        conv => lhs; whnf
        repeat ((first | with_reducible apply br_tt | with_reducible apply br_ff | with_reducible apply br_nf | with_reducible apply br_nt | with_reducible refine br_d ?_ (by kernel_rfl) | with_reducible apply br_t hf | with_reducible apply br_f hf | with_reducible apply br_t hc | with_reducible apply br_f hc); conv => lhs; whnf)
        conv => lhs; arg 1; whnf
        refine bnd_g (by exact True.intro) ?_
        conv => lhs; whnf
        repeat ((first | with_reducible apply br_tt | with_reducible apply br_ff | with_reducible apply br_nf | with_reducible apply br_nt | with_reducible refine br_d ?_ (by kernel_rfl) | with_reducible apply br_t hf | with_reducible apply br_f hf | with_reducible apply br_t hc | with_reducible apply br_f hc | with_reducible apply br_t hg2 | with_reducible apply br_f hg2); conv => lhs; whnf)
        refine br_f (by (rw [beq_eq_false_iff_ne]; exact h1)) ?_
        conv => lhs; whnf
        refine br_t (dt2 (by omega) (by omega)) ?_
        conv => lhs; whnf
        refine br_t (dt2 hg.1 (by have := hg.2; omega)) ?_
        conv => lhs; whnf
        conv => lhs; arg 1; whnf
        refine bnd_g (by exact True.intro) ?_
        conv => lhs; whnf
        repeat ((first | with_reducible apply br_tt | with_reducible apply br_ff | with_reducible apply br_nf | with_reducible apply br_nt | with_reducible refine br_d ?_ (by kernel_rfl)); conv => lhs; whnf)
        refine br_t (dt h2) ?_
        conv => lhs; whnf
        refine br_t (by rw [beq_iff_eq]) ?_
        conv => lhs; whnf
        refine br_t (dt (by simp [room])) ?_
        conv => lhs; whnf
        rw [nearL, if_neg h1, if_pos h2]
        rw [wrap64 (n := (i : Int) + 1) (by omega) (by omega)]
        exact e
      · by_cases h3 : nearN a g i = q
        · obtain ⟨q', e⟩ := ih n (i + 1) _ q (zs ++ [(i : Int)]) (by omega) (by omega) rfl (by omega) (by simp; omega)
          refine ⟨q', ?_⟩
          rw [lpAt_def]
          conv => lhs; whnf
          repeat ((first | with_reducible apply br_tt | with_reducible apply br_ff | with_reducible apply br_nf | with_reducible apply br_nt | with_reducible refine br_d ?_ (by kernel_rfl) | with_reducible apply br_t hf | with_reducible apply br_f hf); conv => lhs; whnf)
          conv => lhs; arg 1; whnf
          refine bnd_g (by omega) ?_
          conv => lhs; whnf
          repeat ((first | with_reducible apply br_tt | with_reducible apply br_ff | with_reducible apply br_nf | with_reducible apply br_nt | with_reducible refine br_d ?_ (by kernel_rfl) | with_reducible apply br_t hf | with_reducible apply br_f hf | with_reducible apply br_t hc | with_reducible apply br_f hc); conv => lhs; whnf)
          conv => lhs; arg 1; whnf
          refine bnd_g (by exact True.intro) ?_
          conv => lhs; whnf
          repeat ((first | with_reducible apply br_tt | with_reducible apply br_ff | with_reducible apply br_nf | with_reducible apply br_nt | with_reducible refine br_d ?_ (by kernel_rfl) | with_reducible apply br_t hf | with_reducible apply br_f hf | with_reducible apply br_t hc | with_reducible apply br_f hc | with_reducible apply br_t hg2 | with_reducible apply br_f hg2); conv => lhs; whnf)
          refine br_f (by (rw [beq_eq_false_iff_ne]; exact h1)) ?_
          conv => lhs; whnf
          refine br_t (dt2 (by omega) (by omega)) ?_
          conv => lhs; whnf
          refine br_t (dt2 hg.1 (by have := hg.2; omega)) ?_
          conv => lhs; whnf
          conv => lhs; arg 1; whnf
          refine bnd_g (by exact True.intro) ?_
          conv => lhs; whnf
          repeat ((first | with_reducible apply br_tt | with_reducible apply br_ff | with_reducible apply br_nf | with_reducible apply br_nt | with_reducible refine br_d ?_ (by kernel_rfl)); conv => lhs; whnf)
          refine br_f (df h2) ?_
          conv => lhs; whnf
          refine br_t (by rw [beq_iff_eq]; exact h3) ?_
          conv => lhs; whnf
          refine br_t (dt (by simp [room]; omega)) ?_
          conv => lhs; whnf
          rw [nearL, if_neg h1, if_neg h2, if_pos h3]
          rw [wrap64 (n := (i : Int) + 1) (by omega) (by omega)]
          exact e
        · obtain ⟨q', e⟩ := ih n (i + 1) _ q zs (by omega) (by omega) rfl (by omega) (by omega)
          refine ⟨q', ?_⟩
          rw [lpAt_def]
          conv => lhs; whnf
          repeat ((first | with_reducible apply br_tt | with_reducible apply br_ff | with_reducible apply br_nf | with_reducible apply br_nt | with_reducible refine br_d ?_ (by kernel_rfl) | with_reducible apply br_t hf | with_reducible apply br_f hf); conv => lhs; whnf)
          conv => lhs; arg 1; whnf
          refine bnd_g (by omega) ?_
          conv => lhs; whnf
          repeat ((first | with_reducible apply br_tt | with_reducible apply br_ff | with_reducible apply br_nf | with_reducible apply br_nt | with_reducible refine br_d ?_ (by kernel_rfl) | with_reducible apply br_t hf | with_reducible apply br_f hf | with_reducible apply br_t hc | with_reducible apply br_f hc); conv => lhs; whnf)
          conv => lhs; arg 1; whnf
          refine bnd_g (by exact True.intro) ?_
          conv => lhs; whnf
          repeat ((first | with_reducible apply br_tt | with_reducible apply br_ff | with_reducible apply br_nf | with_reducible apply br_nt | with_reducible refine br_d ?_ (by kernel_rfl) | with_reducible apply br_t hf | with_reducible apply br_f hf | with_reducible apply br_t hc | with_reducible apply br_f hc | with_reducible apply br_t hg2 | with_reducible apply br_f hg2); conv => lhs; whnf)
          refine br_f (by (rw [beq_eq_false_iff_ne]; exact h1)) ?_
          conv => lhs; whnf
          refine br_t (dt2 (by omega) (by omega)) ?_
          conv => lhs; whnf
          refine br_t (dt2 hg.1 (by have := hg.2; omega)) ?_
          conv => lhs; whnf
          conv => lhs; arg 1; whnf
          refine bnd_g (by exact True.intro) ?_
          conv => lhs; whnf
          repeat ((first | with_reducible apply br_tt | with_reducible apply br_ff | with_reducible apply br_nf | with_reducible apply br_nt | with_reducible refine br_d ?_ (by kernel_rfl)); conv => lhs; whnf)
          refine br_f (df h2) ?_
          conv => lhs; whnf
          refine br_f (by rw [beq_eq_false_iff_ne]; exact h3) ?_
          conv => lhs; whnf
          rw [nearL, if_neg h1, if_neg h2, if_neg h3]
          rw [wrap64 (n := (i : Int) + 1) (by omega) (by omega)]
          exact e
theorem ev_specNearestObjects (m : Int) (a : List Int) (g : Int) (hp : a.length ≤ 1048576) : evF E_specNearestObjects (20) Try.f19 [.agg [.int .i64 m, .lst (.int .i64) a], .int .i64 g] [] = some (.own 0, [.row 3 (.int .i64) (nearF m a g)]) := by
  by_cases h : notObj m a g = true
  · have hf : nearF m a g = [] := by
      unfold nearF
      rw [h]
      rfl
    rw [hf]
    conv => lhs; whnf
    rw [lpAt_def]
    conv => lhs; whnf
    unfold notObj at h
    have h := bnt h
    refine br_c (fun h1 => ?_) (fun h1 => ?_)
    · conv => lhs; whnf
      repeat ((first | with_reducible apply br_tt | with_reducible apply br_ff | with_reducible apply br_nf | with_reducible apply br_nt | with_reducible refine br_d ?_ (by kernel_rfl) | with_reducible apply br_t h1 | with_reducible apply br_f h1); conv => lhs; whnf)
      conv => lhs; arg 1; whnf
      refine bnd_g (by omega) ?_
      conv => lhs; whnf
      repeat ((first | with_reducible apply br_tt | with_reducible apply br_ff | with_reducible apply br_nf | with_reducible apply br_nt | with_reducible refine br_d ?_ (by kernel_rfl) | with_reducible apply br_t h1 | with_reducible apply br_f h1); conv => lhs; whnf)
      refine br_c (fun h2 => ?_) (fun h2 => ?_)
      · conv => lhs; whnf
        repeat ((first | with_reducible apply br_tt | with_reducible apply br_ff | with_reducible apply br_nf | with_reducible apply br_nt | with_reducible refine br_d ?_ (by kernel_rfl) | with_reducible apply br_t h2 | with_reducible apply br_f h2); conv => lhs; whnf)
        rw [h2, Bool.true_and] at h
        have hw : IntKind.i64.wrap ((a.length : Int) - 1) = (a.length : Int) - 1 := wrap64 (by omega) (by omega)
        have hg2 : decide (0 ≤ g ∧ g ≤ IntKind.i64.wrap ((a.length : Int) - 1)) = false := df (by rw [hw]; exact ofn h)
        conv => lhs; arg 1; whnf
        refine bnd_g (by exact True.intro) ?_
        conv => lhs; whnf
        repeat ((first | with_reducible apply br_tt | with_reducible apply br_ff | with_reducible apply br_nf | with_reducible apply br_nt | with_reducible refine br_d ?_ (by kernel_rfl) | with_reducible apply br_t h2 | with_reducible apply br_f h2 | with_reducible apply br_t hg2 | with_reducible apply br_f hg2); conv => lhs; whnf)
      · conv => lhs; whnf
        repeat ((first | with_reducible apply br_tt | with_reducible apply br_ff | with_reducible apply br_nf | with_reducible apply br_nt | with_reducible refine br_d ?_ (by kernel_rfl) | with_reducible apply br_t h2 | with_reducible apply br_f h2); conv => lhs; whnf)
    · conv => lhs; whnf
      repeat ((first | with_reducible apply br_tt | with_reducible apply br_ff | with_reducible apply br_nf | with_reducible apply br_nt | with_reducible refine br_d ?_ (by kernel_rfl) | with_reducible apply br_t h1 | with_reducible apply br_f h1); conv => lhs; whnf)
  · rw [Bool.not_eq_true] at h
    have hf : nearF m a g = nearL a g a.length 0 (-1) [] := by
      unfold nearF
      rw [h]
      rfl
    rw [hf]
    unfold notObj at h
    have h := Bool.and_eq_true_iff.1 (bnf h)
    have hl := (isCtx_len h.1).1
    conv => lhs; whnf
    obtain ⟨q', e⟩ := lp_specNearestObjects m a g h.1 (ofd h.2) _ a.length _ 0 0 (-1) [] rfl (by omega) rfl (by change _ < 19; omega) (by simp)
    refine e.trans ?_
    conv => lhs; whnf
theorem ok_specNearestObjects : FnOk Try.prog 19 K_specNearestObjects := by
  refine fn_ok (fn := Try.f19) (k := Try.f19.ntmps) (E := E_specNearestObjects) (facts_of (List.forall_mem_cons.2 ⟨ok_specIsContext, List.forall_mem_cons.2 ⟨ok_l1In, List.forall_mem_cons.2 ⟨ok_specCountOf, List.forall_mem_nil _⟩⟩⟩)) (by kernel_rfl) rfl (by decide +kernel) (by decide +kernel) ?_
  intro avs hin r h
  unfold K_specNearestObjects at h
  split at h
  · obtain ⟨hp, rfl⟩ := gd_o h
    exact ⟨_, ev_specNearestObjects _ _ _ hp, rfl⟩
  · cases h

/- impl.within -/
def K_within : List AV → List Ob → Option (AV × List Ob)
  | [.int .i64 n, .int .i64 l, .int .i64 h], [] => gd (True) (.bool (decide (l ≤ n ∧ n ≤ h)), [])
  | _, _ => none
@[reducible] def E_within : Env := mkE (tb []) (fun f => false) (fun r => ([], []))
theorem ev_within (n l h : Int) (hp : True) : evF E_within (1) Try.f76 [.int .i64 n, .int .i64 l, .int .i64 h] [] = some (.bool (decide (l ≤ n ∧ n ≤ h)), []) := by
  conv => lhs; whnf
  refine br_c (fun h1 => ?_) (fun h1 => ?_)
  · conv => lhs; whnf
    repeat ((first | with_reducible apply br_tt | with_reducible apply br_ff | with_reducible apply br_nf | with_reducible apply br_nt | with_reducible refine br_d ?_ (by kernel_rfl) | with_reducible apply br_t h1 | with_reducible apply br_f h1); conv => lhs; whnf)
    have := ofd h1
    simp [this]
  · conv => lhs; whnf
    repeat ((first | with_reducible apply br_tt | with_reducible apply br_ff | with_reducible apply br_nf | with_reducible apply br_nt | with_reducible refine br_d ?_ (by kernel_rfl) | with_reducible apply br_t h1 | with_reducible apply br_f h1); conv => lhs; whnf)
    have := ofn h1
    simp [this]
theorem ok_within : FnOk Try.prog 76 K_within := by
  refine fn_ok (fn := Try.f76) (k := Try.f76.ntmps) (E := E_within) (facts_of (List.forall_mem_nil _)) (by kernel_rfl) rfl (by decide +kernel) (by decide +kernel) ?_
  intro avs hin r h
  unfold K_within at h
  split at h
  · obtain ⟨hp, rfl⟩ := gd_o h
    exact ⟨_, ev_within _ _ _ hp, rfl⟩
  · cases h

/- impl.IsSet -/
def K_implIsSet : List AV → List Ob → Option (AV × List Ob)
  | [.int .i64 n, .int .i64 s], [] => gd (True) (.bool (isSet n s), [])
  | _, _ => none
@[reducible] def E_implIsSet : Env := mkE (tb [(76, K_within)]) (fun f => false) (fun r => ([], []))
theorem ev_implIsSet (n s : Int) (hp : True) : evF E_implIsSet (1) Try.f62 [.int .i64 n, .int .i64 s] [] = some (.bool (isSet n s), []) := by
  conv => lhs; whnf
  conv => lhs; arg 1; whnf
  refine bnd_g (by exact True.intro) ?_
  conv => lhs; whnf
  refine br_c (fun h => ?_) (fun h => ?_)
  · conv => lhs; whnf
    have h8 := ofd h
    repeat ((first | with_reducible apply br_tt | with_reducible apply br_ff | with_reducible apply br_nf | with_reducible apply br_nt | with_reducible refine br_d ?_ (by kernel_rfl) | with_reducible apply br_t h | with_reducible apply br_f h); conv => lhs; whnf)
    refine br_f (df (by omega)) ?_
    conv => lhs; whnf
    repeat ((first | with_reducible apply br_tt | with_reducible apply br_ff | with_reducible apply br_nf | with_reducible apply br_nt | with_reducible refine br_d ?_ (by kernel_rfl) | with_reducible apply br_t h | with_reducible apply br_f h); conv => lhs; whnf)
    conv => lhs; arg 1; whnf
    refine bnd_g (by exact True.intro) ?_
    conv => lhs; whnf
    repeat ((first | with_reducible apply br_tt | with_reducible apply br_ff | with_reducible apply br_nf | with_reducible apply br_nt | with_reducible refine br_d ?_ (by kernel_rfl) | with_reducible apply br_t h | with_reducible apply br_f h); conv => lhs; whnf)
    refine okB ?_
    unfold isSet
    refine decide_eq_decide.2 ?_
    rw [shl_set h8.1 h8.2]
    exact ⟨fun h => ⟨h8, h⟩, fun h => h.2⟩
  · conv => lhs; whnf
    repeat ((first | with_reducible apply br_tt | with_reducible apply br_ff | with_reducible apply br_nf | with_reducible apply br_nt | with_reducible refine br_d ?_ (by kernel_rfl) | with_reducible apply br_t h | with_reducible apply br_f h); conv => lhs; whnf)
    have h8 := ofn h
    simp [isSet, h8]
theorem ok_implIsSet : FnOk Try.prog 62 K_implIsSet := by
  refine fn_ok (fn := Try.f62) (k := Try.f62.ntmps) (E := E_implIsSet) (facts_of (List.forall_mem_cons.2 ⟨ok_within, List.forall_mem_nil _⟩)) (by kernel_rfl) rfl (by decide +kernel) (by decide +kernel) ?_
  intro avs hin r h
  unfold K_implIsSet at h
  split at h
  · obtain ⟨hp, rfl⟩ := gd_o h
    exact ⟨_, ev_implIsSet _ _ hp, rfl⟩
  · cases h

/- impl.IsContext$1 -/
def K_badRow1 : List AV → List Ob → Option (AV × List Ob)
  | [.int .i64 x, .vptr [.int .i64 m, .lst (.int .i64) b] 0], [] => gd (True) (.bool (badRow m x), [])
  | _, _ => none
@[reducible] def E_badRow1 : Env := mkE (tb [(62, K_implIsSet)]) (fun f => false) (fun r => ([], []))
theorem ev_badRow1 (x m : Int) (b : List Int) (hp : True) : evF E_badRow1 (1) Try.f95 [.int .i64 x, .vptr [.int .i64 m, .lst (.int .i64) b] 0] [] = some (.bool (badRow m x), []) := by
  conv => lhs; whnf
  conv => lhs; arg 1; whnf
  refine bnd_g (by exact True.intro) ?_
  conv => lhs; whnf
  rfl
theorem ok_badRow1 : FnOk Try.prog 95 K_badRow1 := by
  refine fn_ok (fn := Try.f95) (k := Try.f95.ntmps) (E := E_badRow1) (facts_of (List.forall_mem_cons.2 ⟨ok_implIsSet, List.forall_mem_nil _⟩)) (by kernel_rfl) rfl (by decide +kernel) (by decide +kernel) ?_
  intro avs hin r h
  unfold K_badRow1 at h
  split at h
  · obtain ⟨hp, rfl⟩ := gd_o h
    exact ⟨_, ev_badRow1 _ _ _ hp, rfl⟩
  · cases h

/- slices.IndexFunc[[]int,int] -/
def K_idx_badRow1 : List AV → List Ob → Option (AV × List Ob)
  | [.lst (.int .i64) a, .clo 95 [.vptr [.int .i64 m, .lst (.int .i64) b] 0]], [] => gd (a.length < 4611686018427387904 ∧ True) (.int .i64 (firstI (badRow m) a 0), [])
  | _, _ => none
@[reducible] def E_idx_badRow1 : Env := mkE (tb [(95, K_badRow1)]) (fun f => false) (fun r => bif r == 2 then ([0, 1, 7, 8], [4]) else ([], []))
theorem lp_idx_badRow1 (a : List Int) (m : Int) (b : List Int) (ht : True) (ha : a.length < 4611686018427387904) (k : AX → S → Option (AV × List Ob)) (d : Nat) : ∀ (n i : Nat) (x : Int), a.length - i = d → i ≤ a.length → x = i → d < n →
    lpAt E_idx_badRow1 (lp E_idx_badRow1 0 n) 0 (loopAt Try.f102 0) (mkS [0, 1, 7, 8] [.lst (.int .i64) a, .clo 95 [.vptr [.int .i64 m, .lst (.int .i64) b] 0], .int .i64 a.length, .int .i64 x] []) k =
      if (a.drop i).any (badRow m) then k .ret (mkS [4] [.int .i64 (firstI (badRow m) (a.drop i) i)] []) else k (.exit 0) (mkS [4] [.any] []) := by
  induction d with
  | zero =>
    intro n i x hd hi hx hn
    subst hx
    rw [lpAt_def]
    conv => lhs; whnf
    refine br_f (df (by omega)) ?_
    conv => lhs; whnf
    rw [List.drop_of_length_le (by omega)]
    simp
  | succ d ih =>
    intro n i x hd hi hx hn
    obtain ⟨n, rfl⟩ : ∃ m, n = m + 1 := ⟨n - 1, by omega⟩
    subst hx
    rw [lpAt_def]
    conv => lhs; whnf
    refine br_t (dt (by omega)) ?_
    conv => lhs; whnf
    refine br_t (dt2 (by omega) (by omega)) ?_
    conv => lhs; whnf
    conv => lhs; arg 1; whnf
    refine bnd_g (by exact True.intro) ?_
    conv => lhs; whnf
    rw [getD_drop (l := a) (i := i) (d := 0) (by omega)]
    refine br_c (fun h => ?_) (fun h => ?_)
    · have h' : (badRow m) (a.getD i 0) = true := h
      conv => lhs; whnf
      rw [if_pos (by rw [List.any_cons, h', Bool.true_or])]
      rw [firstI, h', cond_true]
    · have h' : (badRow m) (a.getD i 0) = false := h
      conv => lhs; whnf
      rw [ih n (i + 1) _ (by omega) (by omega) (by rw [wrap64 (by omega) (by omega)]; simp) (by omega)]
      rw [List.any_cons, h', Bool.false_or, firstI, h', cond_false]
      rfl
theorem ev_idx_badRow1 (a : List Int) (m : Int) (b : List Int) (hp : a.length < 4611686018427387904 ∧ True) : evF E_idx_badRow1 (a.length + 2) Try.f102 [.lst (.int .i64) a, .clo 95 [.vptr [.int .i64 m, .lst (.int .i64) b] 0]] [] = some (.int .i64 (firstI (badRow m) a 0), []) := by
  conv => lhs; whnf
  refine (lp_idx_badRow1 a m b hp.2 hp.1 _ a.length _ 0 0 rfl (by omega) rfl (by omega)).trans ?_
  simp only [List.drop_zero]
  split
  · conv => lhs; whnf
    rfl
  · rename_i he
    conv => lhs; whnf
    have : firstI (badRow m) a 0 = -1 := firstI_none (badRow m) a 0 (by simpa using he)
    rw [this]
theorem ok_idx_badRow1 : FnOk Try.prog 102 K_idx_badRow1 := by
  refine fn_ok (fn := Try.f102) (k := Try.f102.ntmps) (E := E_idx_badRow1) (facts_of (List.forall_mem_cons.2 ⟨ok_badRow1, List.forall_mem_nil _⟩)) (by kernel_rfl) rfl (by decide +kernel) (by decide +kernel) ?_
  intro avs hin r h
  unfold K_idx_badRow1 at h
  split at h
  · obtain ⟨hp, rfl⟩ := gd_o h
    exact ⟨_, ev_idx_badRow1 _ _ _ hp, rfl⟩
  · cases h

/- slices.ContainsFunc[[]int,int] -/
def K_has_badRow1 : List AV → List Ob → Option (AV × List Ob)
  | [.lst (.int .i64) a, .clo 95 [.vptr [.int .i64 m, .lst (.int .i64) b] 0]], [] => gd (a.length < 4611686018427387904 ∧ True) (.bool (a.any (badRow m)), [])
  | _, _ => none
@[reducible] def E_has_badRow1 : Env := mkE (tb [(102, K_idx_badRow1)]) (fun f => false) (fun r => ([], []))
theorem ev_has_badRow1 (a : List Int) (m : Int) (b : List Int) (hp : a.length < 4611686018427387904 ∧ True) : evF E_has_badRow1 (1) Try.f86 [.lst (.int .i64) a, .clo 95 [.vptr [.int .i64 m, .lst (.int .i64) b] 0]] [] = some (.bool (a.any (badRow m)), []) := by
  conv => lhs; whnf
  conv => lhs; arg 1; whnf
  refine bnd_g (by exact hp) ?_
  conv => lhs; whnf
  refine okB ?_
  exact firstI_iff (badRow m) a 0 (by omega)
theorem ok_has_badRow1 : FnOk Try.prog 86 K_has_badRow1 := by
  refine fn_ok (fn := Try.f86) (k := Try.f86.ntmps) (E := E_has_badRow1) (facts_of (List.forall_mem_cons.2 ⟨ok_idx_badRow1, List.forall_mem_nil _⟩)) (by kernel_rfl) rfl (by decide +kernel) (by decide +kernel) ?_
  intro avs hin r h
  unfold K_has_badRow1 at h
  split at h
  · obtain ⟨hp, rfl⟩ := gd_o h
    exact ⟨_, ev_has_badRow1 _ _ _ hp, rfl⟩
  · cases h

/- impl.IsContext -/
def K_implIsContext : List AV → List Ob → Option (AV × List Ob)
  | [.agg [.int .i64 m, .lst (.int .i64) a]], [] => gd (a.length < 4611686018427387904) (.bool (isCtx m a), [])
  | _, _ => none
@[reducible] def E_implIsContext : Env := mkE (tb [(76, K_within), (86, K_has_badRow1)]) (fun f => false) (fun r => ([], []))
theorem ev_implIsContext (m : Int) (a : List Int) (hp : a.length < 4611686018427387904) : evF E_implIsContext (1) Try.f77 [.agg [.int .i64 m, .lst (.int .i64) a]] [] = some (.bool (isCtx m a), []) := by
  conv => lhs; whnf
  conv => lhs; arg 1; whnf
  refine bnd_g (by exact True.intro) ?_
  conv => lhs; whnf
  refine br_c (fun h => ?_) (fun h => ?_)
  · conv => lhs; whnf
    repeat ((first | with_reducible apply br_tt | with_reducible apply br_ff | with_reducible apply br_nf | with_reducible apply br_nt | with_reducible refine br_d ?_ (by kernel_rfl) | with_reducible apply br_t h | with_reducible apply br_f h); conv => lhs; whnf)
    refine br_c (fun h2 => ?_) (fun h2 => ?_)
    · conv => lhs; whnf
      repeat ((first | with_reducible apply br_tt | with_reducible apply br_ff | with_reducible apply br_nf | with_reducible apply br_nt | with_reducible refine br_d ?_ (by kernel_rfl) | with_reducible apply br_t h | with_reducible apply br_f h | with_reducible apply br_t h2 | with_reducible apply br_f h2); conv => lhs; whnf)
      conv => lhs; arg 1; whnf
      refine bnd_g (by exact ⟨hp, True.intro⟩) ?_
      conv => lhs; whnf
      repeat ((first | with_reducible apply br_tt | with_reducible apply br_ff | with_reducible apply br_nf | with_reducible apply br_nt | with_reducible refine br_d ?_ (by kernel_rfl) | with_reducible apply br_t h | with_reducible apply br_f h | with_reducible apply br_t h2 | with_reducible apply br_f h2); conv => lhs; whnf)
      refine okB ?_
      unfold isCtx
      have := ofd h2
      rw [any_badRow, h, dt (by omega), Bool.true_and, Bool.true_and]
    · conv => lhs; whnf
      repeat ((first | with_reducible apply br_tt | with_reducible apply br_ff | with_reducible apply br_nf | with_reducible apply br_nt | with_reducible refine br_d ?_ (by kernel_rfl) | with_reducible apply br_t h | with_reducible apply br_f h | with_reducible apply br_t h2 | with_reducible apply br_f h2); conv => lhs; whnf)
      refine okB ?_
      unfold isCtx
      have := ofn h2
      rw [h, df (by omega), Bool.true_and, Bool.false_and]
  · conv => lhs; whnf
    repeat ((first | with_reducible apply br_tt | with_reducible apply br_ff | with_reducible apply br_nf | with_reducible apply br_nt | with_reducible refine br_d ?_ (by kernel_rfl) | with_reducible apply br_t h | with_reducible apply br_f h); conv => lhs; whnf)
    refine okB ?_
    unfold isCtx
    rw [h, Bool.false_and, Bool.false_and]
theorem ok_implIsContext : FnOk Try.prog 77 K_implIsContext := by
  refine fn_ok (fn := Try.f77) (k := Try.f77.ntmps) (E := E_implIsContext) (facts_of (List.forall_mem_cons.2 ⟨ok_within, List.forall_mem_cons.2 ⟨ok_has_badRow1, List.forall_mem_nil _⟩⟩)) (by kernel_rfl) rfl (by decide +kernel) (by decide +kernel) ?_
  intro avs hin r h
  unfold K_implIsContext at h
  split at h
  · obtain ⟨hp, rfl⟩ := gd_o h
    exact ⟨_, ev_implIsContext _ _ hp, rfl⟩
  · cases h

/- impl.isObject -/
def K_isObject : List AV → List Ob → Option (AV × List Ob)
  | [.agg [.int .i64 m, .lst (.int .i64) b], .int .i64 g], [] => gd (b.length ≤ 1048576) (.bool (!notObj m b g), [])
  | _, _ => none
@[reducible] def E_isObject : Env := mkE (tb [(77, K_implIsContext), (76, K_within)]) (fun f => false) (fun r => ([], []))
theorem ev_isObject (m : Int) (b : List Int) (g : Int) (hp : b.length ≤ 1048576) : evF E_isObject (1) Try.f50 [.agg [.int .i64 m, .lst (.int .i64) b], .int .i64 g] [] = some (.bool (!notObj m b g), []) := by
  conv => lhs; whnf
  conv => lhs; arg 1; whnf
  refine bnd_g (by omega) ?_
  conv => lhs; whnf
  refine br_c (fun h => ?_) (fun h => ?_)
  · conv => lhs; whnf
    repeat ((first | with_reducible apply br_tt | with_reducible apply br_ff | with_reducible apply br_nf | with_reducible apply br_nt | with_reducible refine br_d ?_ (by kernel_rfl) | with_reducible apply br_t h | with_reducible apply br_f h); conv => lhs; whnf)
    rw [wrap64 (by omega) (by omega)]
    conv => lhs; arg 1; whnf
    refine bnd_g (by exact True.intro) ?_
    conv => lhs; whnf
    repeat ((first | with_reducible apply br_tt | with_reducible apply br_ff | with_reducible apply br_nf | with_reducible apply br_nt | with_reducible refine br_d ?_ (by kernel_rfl) | with_reducible apply br_t h | with_reducible apply br_f h); conv => lhs; whnf)
    refine okB ?_
    unfold notObj
    rw [h, Bool.not_not, Bool.true_and]
  · conv => lhs; whnf
    repeat ((first | with_reducible apply br_tt | with_reducible apply br_ff | with_reducible apply br_nf | with_reducible apply br_nt | with_reducible refine br_d ?_ (by kernel_rfl) | with_reducible apply br_t h | with_reducible apply br_f h); conv => lhs; whnf)
    refine okB ?_
    unfold notObj
    rw [h]
    rfl
theorem ok_isObject : FnOk Try.prog 50 K_isObject := by
  refine fn_ok (fn := Try.f50) (k := Try.f50.ntmps) (E := E_isObject) (facts_of (List.forall_mem_cons.2 ⟨ok_implIsContext, List.forall_mem_cons.2 ⟨ok_within, List.forall_mem_nil _⟩⟩)) (by kernel_rfl) rfl (by decide +kernel) (by decide +kernel) ?_
  intro avs hin r h
  unfold K_isObject at h
  split at h
  · obtain ⟨hp, rfl⟩ := gd_o h
    exact ⟨_, ev_isObject _ _ _ hp, rfl⟩
  · cases h

/- impl.isAnySet -/
def K_isAnySet : List AV → List Ob → Option (AV × List Ob)
  | [.int .i64 s], [] => gd (True) (.bool (isSet 8 s), [])
  | _, _ => none
@[reducible] def E_isAnySet : Env := mkE (tb [(62, K_implIsSet)]) (fun f => false) (fun r => ([], []))
theorem ev_isAnySet (s : Int) (hp : True) : evF E_isAnySet (1) Try.f75 [.int .i64 s] [] = some (.bool (isSet 8 s), []) := by
  conv => lhs; whnf
  conv => lhs; arg 1; whnf
  refine bnd_g (by exact True.intro) ?_
  conv => lhs; whnf
theorem ok_isAnySet : FnOk Try.prog 75 K_isAnySet := by
  refine fn_ok (fn := Try.f75) (k := Try.f75.ntmps) (E := E_isAnySet) (facts_of (List.forall_mem_cons.2 ⟨ok_implIsSet, List.forall_mem_nil _⟩)) (by kernel_rfl) rfl (by decide +kernel) (by decide +kernel) ?_
  intro avs hin r h
  unfold K_isAnySet at h
  split at h
  · obtain ⟨hp, rfl⟩ := gd_o h
    exact ⟨_, ev_isAnySet _ hp, rfl⟩
  · cases h

/- math/bits.OnesCount64 -/
def K_onesCount64 : List AV → List Ob → Option (AV × List Ob)
  | [.int .u64 s], [] => gd (0 ≤ s ∧ s ≤ 255) (.int .i64 (popF 8 s.toNat : Int), [])
  | _, _ => none
@[reducible] def E_onesCount64 : Env := mkE (tb []) (fun f => false) (fun r => ([], []))
theorem ev_onesCount64 (s : Int) (hp : 0 ≤ s ∧ s ≤ 255) : evF E_onesCount64 (1) Try.f97 [.int .u64 s] [] = some (.int .i64 (popF 8 s.toNat : Int), []) := by
  conv => lhs; whnf
  refine br_f (df (by omega)) ?_
  conv => lhs; whnf
  refine br_f (df (by omega)) ?_
  conv => lhs; whnf
  refine br_f (df (by omega)) ?_
  conv => lhs; whnf
  refine br_f (df (by omega)) ?_
  conv => lhs; whnf
  refine br_f (df (by omega)) ?_
  conv => lhs; whnf
  refine br_f (df (by omega)) ?_
  conv => lhs; whnf
  refine okI ?_
  obtain ⟨n, hn⟩ : ∃ n : Fin 256, s = ((n.val : Nat) : Int) := ⟨⟨s.toNat, by omega⟩, by dsimp only; omega⟩
  subst hn
  clear hp
  revert n
  decide +kernel
theorem ok_onesCount64 : FnOk Try.prog 97 K_onesCount64 := by
  refine fn_ok (fn := Try.f97) (k := Try.f97.ntmps) (E := E_onesCount64) (facts_of (List.forall_mem_nil _)) (by kernel_rfl) rfl (by decide +kernel) (by decide +kernel) ?_
  intro avs hin r h
  unfold K_onesCount64 at h
  split at h
  · obtain ⟨hp, rfl⟩ := gd_o h
    exact ⟨_, ev_onesCount64 _ hp, rfl⟩
  · cases h

/- math/bits.OnesCount -/
def K_onesCount : List AV → List Ob → Option (AV × List Ob)
  | [.int .u64 s], [] => gd (0 ≤ s ∧ s ≤ 255) (.int .i64 (popF 8 s.toNat : Int), [])
  | _, _ => none
@[reducible] def E_onesCount : Env := mkE (tb [(97, K_onesCount64)]) (fun f => false) (fun r => ([], []))
theorem ev_onesCount (s : Int) (hp : 0 ≤ s ∧ s ≤ 255) : evF E_onesCount (1) Try.f78 [.int .u64 s] [] = some (.int .i64 (popF 8 s.toNat : Int), []) := by
  conv => lhs; whnf
  repeat ((first | with_reducible apply br_tt | with_reducible apply br_ff | with_reducible apply br_nf | with_reducible apply br_nt | with_reducible refine br_d ?_ (by kernel_rfl)); conv => lhs; whnf)
  conv => lhs; arg 1; whnf
  refine bnd_g (by exact hp) ?_
  conv => lhs; whnf
theorem ok_onesCount : FnOk Try.prog 78 K_onesCount := by
  refine fn_ok (fn := Try.f78) (k := Try.f78.ntmps) (E := E_onesCount) (facts_of (List.forall_mem_cons.2 ⟨ok_onesCount64, List.forall_mem_nil _⟩)) (by kernel_rfl) rfl (by decide +kernel) (by decide +kernel) ?_
  intro avs hin r h
  unfold K_onesCount at h
  split at h
  · obtain ⟨hp, rfl⟩ := gd_o h
    exact ⟨_, ev_onesCount _ hp, rfl⟩
  · cases h

/- impl.CountOf -/
def K_implCountOf : List AV → List Ob → Option (AV × List Ob)
  | [.int .i64 s], [] => gd (True) (.int .i64 (cntF s), [])
  | _, _ => none
@[reducible] def E_implCountOf : Env := mkE (tb [(75, K_isAnySet), (78, K_onesCount)]) (fun f => false) (fun r => ([], []))
theorem ev_implCountOf (s : Int) (hp : True) : evF E_implCountOf (1) Try.f51 [.int .i64 s] [] = some (.int .i64 (cntF s), []) := by
  conv => lhs; whnf
  conv => lhs; arg 1; whnf
  refine bnd_g (by exact True.intro) ?_
  conv => lhs; whnf
  refine br_c (fun h => ?_) (fun h => ?_)
  · conv => lhs; whnf
    unfold cntF
    rw [if_neg (by rw [bnt h]; exact Bool.false_ne_true)]
  · have hs := isSet_le (bnf h)
    conv => lhs; whnf
    have e : IntKind.u64.wrap s = s := by
      simp [IntKind.wrap, IntKind.bits, IntKind.signed]
      omega
    rw [e]
    conv => lhs; arg 1; whnf
    refine bnd_g (by exact ⟨by omega, by omega⟩) ?_
    conv => lhs; whnf
    refine okI ?_
    unfold cntF
    rw [if_pos (bnf h)]
theorem ok_implCountOf : FnOk Try.prog 51 K_implCountOf := by
  refine fn_ok (fn := Try.f51) (k := Try.f51.ntmps) (E := E_implCountOf) (facts_of (List.forall_mem_cons.2 ⟨ok_isAnySet, List.forall_mem_cons.2 ⟨ok_onesCount, List.forall_mem_nil _⟩⟩)) (by kernel_rfl) rfl (by decide +kernel) (by decide +kernel) ?_
  intro avs hin r h
  unfold K_implCountOf at h
  split at h
  · obtain ⟨hp, rfl⟩ := gd_o h
    exact ⟨_, ev_implCountOf _ hp, rfl⟩
  · cases h

/- impl.NearestObjects -/
def K_implNearestObjects : List AV → List Ob → Option (AV × List Ob)
  | [.agg [.int .i64 m, .lst (.int .i64) a], .int .i64 g], [] => gd (a.length ≤ 1048576) (.own 0, [.row 3 (.int .i64) (nearF m a g)])
  | _, _ => none
@[reducible] def E_implNearestObjects : Env := mkE (tb [(50, K_isObject), (51, K_implCountOf)]) (fun f => false) (fun r => bif r == 5 then ([1, 2, 5, 6, 16, 17, 18], [1, 2, 5, 6, 16, 17, 18]) else ([], []))
theorem lp_implNearestObjects (m : Int) (a : List Int) (g : Int) (hc : isCtx m a = true) (hg : 0 ≤ g ∧ g ≤ (a.length : Int) - 1) (k : AX → S → Option (AV × List Ob)) (d : Nat) : ∀ (n i : Nat) (x q : Int) (zs : List Int), a.length - i = d → i ≤ a.length → x = i → d < n → zs.length ≤ i →
    ∃ q', lpAt E_implNearestObjects (lp E_implNearestObjects 0 n) 0 (loopAt Try.f21 0) (mkS [1, 2, 5, 6, 16, 17, 18] [.int .i64 g, .ptr 0 0, .own 1, .int .i64 q, .lst (.int .i64) a, .int .i64 (a.length : Int), .int .i64 x] [some (.box 27 [.int .i64 m, .lst (.int .i64) a]), some (.row 3 (.int .i64) zs)]) k =
      k (.exit 0) (mkS [1, 2, 5, 6, 16, 17, 18] [.int .i64 g, .ptr 0 0, .own 1, .int .i64 q', .lst (.int .i64) a, .int .i64 (a.length : Int), .int .i64 (a.length : Int)] [some (.box 27 [.int .i64 m, .lst (.int .i64) a]), some (.row 3 (.int .i64) (nearL a g d i q zs))]) := by
  have hl := (isCtx_len hc).1
  induction d with
  | zero =>
    intro n i x q zs hd hi hx hn hz
    subst hx
    refine ⟨q, ?_⟩
    rw [lpAt_def]
    conv => lhs; whnf
    refine br_f (df (by omega)) ?_
    conv => lhs; whnf
    have : i = a.length := by omega
    rw [nearL, this]
  | succ d ih =>
    intro n i x q zs hd hi hx hn hz
    obtain ⟨n, rfl⟩ : ∃ m, n = m + 1 := ⟨n - 1, by omega⟩
    subst hx
    by_cases h1 : (i : Int) = g
    · obtain ⟨q', e⟩ := ih n (i + 1) _ q zs (by omega) (by omega) rfl (by omega) (by omega)
      refine ⟨q', ?_⟩
      have hb : ((i : Int) == g) = true := by rw [beq_iff_eq]; exact h1
      rw [lpAt_def]
      conv => lhs; whnf
      refine br_t (dt (by omega)) ?_
      conv => lhs; whnf
      refine br_t (dt2 (by omega) (by omega)) ?_
      conv => lhs; whnf
      refine br_t (dt2 hg.1 (by have := hg.2; omega)) ?_
      conv => lhs; whnf
      conv => lhs; arg 1; whnf
      refine bnd_g (by exact True.intro) ?_
      conv => lhs; whnf
      repeat ((first | with_reducible apply br_tt | with_reducible apply br_ff | with_reducible apply br_nf | with_reducible apply br_nt | with_reducible refine br_d ?_ (by kernel_rfl) | with_reducible apply br_t hb | with_reducible apply br_f hb); conv => lhs; whnf)
      rw [nearL, if_pos h1]
      rw [wrap64 (n := (i : Int) + 1) (by omega) (by omega)]
      exact e
    · have hb : ((i : Int) == g) = false := by rw [beq_eq_false_iff_ne]; exact h1
      by_cases h2 : q < nearN a g i
      · obtain ⟨q', e⟩ := ih n (i + 1) _ (nearN a g i) [(i : Int)] (by omega) (by omega) rfl (by omega) (by simp)
        refine ⟨q', ?_⟩
        rw [lpAt_def]
        conv => lhs; whnf
        refine br_t (dt (by omega)) ?_
        conv => lhs; whnf
        refine br_t (dt2 (by omega) (by omega)) ?_
        conv => lhs; whnf
        refine br_t (dt2 hg.1 (by have := hg.2; omega)) ?_
        conv => lhs; whnf
        conv => lhs; arg 1; whnf
        refine bnd_g (by exact True.intro) ?_
        conv => lhs; whnf
        repeat ((first | with_reducible apply br_tt | with_reducible apply br_ff | with_reducible apply br_nf | with_reducible apply br_nt | with_reducible refine br_d ?_ (by kernel_rfl) | with_reducible apply br_t hb | with_reducible apply br_f hb); conv => lhs; whnf)
        refine br_f (df (by change ¬ (nearN a g i < q); omega)) ?_
        conv => lhs; whnf
        refine br_t (dt h2) ?_
        conv => lhs; whnf
        refine br_t (dt (by simp [room])) ?_
        conv => lhs; whnf
        rw [nearL, if_neg h1, if_pos h2]
        rw [wrap64 (n := (i : Int) + 1) (by omega) (by omega)]
        exact e
      · by_cases h3 : nearN a g i = q
        · obtain ⟨q', e⟩ := ih n (i + 1) _ q (zs ++ [(i : Int)]) (by omega) (by omega) rfl (by omega) (by simp; omega)
          refine ⟨q', ?_⟩
          rw [lpAt_def]
          conv => lhs; whnf
          refine br_t (dt (by omega)) ?_
          conv => lhs; whnf
          refine br_t (dt2 (by omega) (by omega)) ?_
          conv => lhs; whnf
          refine br_t (dt2 hg.1 (by have := hg.2; omega)) ?_
          conv => lhs; whnf
          conv => lhs; arg 1; whnf
          refine bnd_g (by exact True.intro) ?_
          conv => lhs; whnf
          repeat ((first | with_reducible apply br_tt | with_reducible apply br_ff | with_reducible apply br_nf | with_reducible apply br_nt | with_reducible refine br_d ?_ (by kernel_rfl) | with_reducible apply br_t hb | with_reducible apply br_f hb); conv => lhs; whnf)
          refine br_f (df (by change ¬ (nearN a g i < q); omega)) ?_
          conv => lhs; whnf
          refine br_f (df h2) ?_
          conv => lhs; whnf
          refine br_t (dt (by simp [room]; omega)) ?_
          conv => lhs; whnf
          rw [nearL, if_neg h1, if_neg h2, if_pos h3]
          rw [wrap64 (n := (i : Int) + 1) (by omega) (by omega)]
          exact e
        · obtain ⟨q', e⟩ := ih n (i + 1) _ q zs (by omega) (by omega) rfl (by omega) (by omega)
          refine ⟨q', ?_⟩
          rw [lpAt_def]
          conv => lhs; whnf
          refine br_t (dt (by omega)) ?_
          conv => lhs; whnf
          refine br_t (dt2 (by omega) (by omega)) ?_
          conv => lhs; whnf
          refine br_t (dt2 hg.1 (by have := hg.2; omega)) ?_
          conv => lhs; whnf
          conv => lhs; arg 1; whnf
          refine bnd_g (by exact True.intro) ?_
          conv => lhs; whnf
          repeat ((first | with_reducible apply br_tt | with_reducible apply br_ff | with_reducible apply br_nf | with_reducible apply br_nt | with_reducible refine br_d ?_ (by kernel_rfl) | with_reducible apply br_t hb | with_reducible apply br_f hb); conv => lhs; whnf)
          refine br_t (dt (by change nearN a g i < q; omega)) ?_
          conv => lhs; whnf
          rw [nearL, if_neg h1, if_neg h2, if_neg h3]
          rw [wrap64 (n := (i : Int) + 1) (by omega) (by omega)]
          exact e
theorem ev_implNearestObjects (m : Int) (a : List Int) (g : Int) (hp : a.length ≤ 1048576) : evF E_implNearestObjects (20) Try.f21 [.agg [.int .i64 m, .lst (.int .i64) a], .int .i64 g] [] = some (.own 0, [.row 3 (.int .i64) (nearF m a g)]) := by
  conv => lhs; whnf
  conv => lhs; arg 1; whnf
  refine bnd_g (by exact hp) ?_
  conv => lhs; whnf
  refine br_c (fun h => ?_) (fun h => ?_)
  · have hf : nearF m a g = [] := by
      unfold nearF
      rw [bnf (bnt h)]
      rfl
    rw [hf]
    conv => lhs; whnf
  · have h := bnt (bnf h)
    have hf : nearF m a g = nearL a g a.length 0 (-1) [] := by
      unfold nearF
      rw [h]
      rfl
    rw [hf]
    unfold notObj at h
    have h := Bool.and_eq_true_iff.1 (bnf h)
    have hl := (isCtx_len h.1).1
    conv => lhs; whnf
    obtain ⟨q', e⟩ := lp_implNearestObjects m a g h.1 (ofd h.2) _ a.length _ 0 0 (-1) [] rfl (by omega) rfl (by change _ < 19; omega) (by simp)
    refine e.trans ?_
    conv => lhs; whnf
theorem ok_implNearestObjects : FnOk Try.prog 21 K_implNearestObjects := by
  refine fn_ok (fn := Try.f21) (k := Try.f21.ntmps) (E := E_implNearestObjects) (facts_of (List.forall_mem_cons.2 ⟨ok_isObject, List.forall_mem_cons.2 ⟨ok_implCountOf, List.forall_mem_nil _⟩⟩)) (by kernel_rfl) rfl (by decide +kernel) (by decide +kernel) ?_
  intro avs hin r h
  unfold K_implNearestObjects at h
  split at h
  · obtain ⟨hp, rfl⟩ := gd_o h
    exact ⟨_, ev_implNearestObjects _ _ _ hp, rfl⟩
  · cases h

/- laws.eqIntS -/
def K_eqIntS : List AV → List Ob → Option (AV × List Ob)
  | [.lst (.int .i64) a, .lst (.int .i64) b], [] => gd (a.length < 4611686018427387904 ∧ b.length < 4611686018427387904) (.bool (decide (a = b)), [])
  | _, _ => none
@[reducible] def E_eqIntS : Env := mkE (tb []) (fun f => false) (fun r => bif r == 4 then ([0, 1, 5], [4]) else ([], []))
theorem lp_eqIntS (a b : List Int) (hl : a.length = b.length) (ha : a.length < 4611686018427387904) (k : AX → S → Option (AV × List Ob)) (d : Nat) : ∀ (n i : Nat) (x : Int), a.length - i = d → i ≤ a.length → x = i → d < n →
    lpAt E_eqIntS (lp E_eqIntS 0 n) 0 (loopAt Try.f22 0) (mkS [0, 1, 5] [.lst (.int .i64) a, .lst (.int .i64) b, .int .i64 x] []) k =
      if a.drop i = b.drop i then k (.exit 0) (mkS [4] [.any] []) else k .ret (mkS [4] [.bool false] []) := by
  induction d with
  | zero =>
    intro n i x hd hi hx hn
    subst hx
    rw [lpAt_def]
    conv => lhs; whnf
    refine br_f (df (by omega)) ?_
    conv => lhs; whnf
    rw [if_pos (by rw [List.drop_of_length_le (by omega), List.drop_of_length_le (by omega)])]
  | succ d ih =>
    intro n i x hd hi hx hn
    obtain ⟨n, rfl⟩ : ∃ m, n = m + 1 := ⟨n - 1, by omega⟩
    subst hx
    rw [lpAt_def]
    conv => lhs; whnf
    refine br_t (dt (by omega)) ?_
    conv => lhs; whnf
    refine br_t (dt2 (by omega) (by omega)) ?_
    conv => lhs; whnf
    refine br_t (dt2 (by omega) (by omega)) ?_
    conv => lhs; whnf
    rw [getD_drop (l := a) (i := i) (d := 0) (by omega), getD_drop (l := b) (i := i) (d := 0) (by omega)]
    refine br_t (by kernel_rfl) ?_
    conv => lhs; whnf
    refine br_c (fun h => ?_) (fun h => ?_)
    · conv => lhs; whnf
      rw [if_neg]
      intro he
      have := (List.cons.inj he).1
      simp at h
      exact h this
    · conv => lhs; whnf
      rw [ih n (i + 1) _ (by omega) (by omega) (by rw [wrap64 (by omega) (by omega)]; simp) (by omega)]
      simp at h
      simp [h]
theorem ev_eqIntS (a b : List Int) (hp : a.length < 4611686018427387904 ∧ b.length < 4611686018427387904) : evF E_eqIntS (a.length + 2) Try.f22 [.lst (.int .i64) a, .lst (.int .i64) b] [] = some (.bool (decide (a = b)), []) := by
  conv => lhs; whnf
  refine br_c (fun h => ?_) (fun h => ?_)
  · conv => lhs; whnf
    have : a ≠ b := by
      rintro rfl
      simp at h
    simp [this]
  · conv => lhs; whnf
    have hl : a.length = b.length := by simp at h; omega
    refine (lp_eqIntS a b hl hp.1 _ _ _ 0 0 rfl (by omega) rfl (by omega)).trans ?_
    simp only [List.drop_zero]
    split
    · rename_i he
      conv => lhs; whnf
      simp [he]
    · rename_i he
      conv => lhs; whnf
      simp [he]
theorem ok_eqIntS : FnOk Try.prog 22 K_eqIntS := by
  refine fn_ok (fn := Try.f22) (k := Try.f22.ntmps) (E := E_eqIntS) (facts_of (List.forall_mem_nil _)) (by kernel_rfl) rfl (by decide +kernel) (by decide +kernel) ?_
  intro avs hin r h
  unfold K_eqIntS at h
  split at h
  · obtain ⟨hp, rfl⟩ := gd_o h
    exact ⟨_, ev_eqIntS _ _ hp, rfl⟩
  · cases h

/- laws.eqContext -/
def K_eqContext : List AV → List Ob → Option (AV × List Ob)
  | [.agg [.int .i64 m, .lst (.int .i64) a], .agg [.int .i64 m', .lst (.int .i64) a']], [] => gd (a.length < 4611686018427387904 ∧ a'.length < 4611686018427387904) (.bool (decide (m = m' ∧ a = a')), [])
  | _, _ => none
@[reducible] def E_eqContext : Env := mkE (tb [(22, K_eqIntS)]) (fun f => false) (fun r => ([], []))
theorem ev_eqContext (m : Int) (a : List Int) (m' : Int) (a' : List Int) (hp : a.length < 4611686018427387904 ∧ a'.length < 4611686018427387904) : evF E_eqContext (1) Try.f13 [.agg [.int .i64 m, .lst (.int .i64) a], .agg [.int .i64 m', .lst (.int .i64) a']] [] = some (.bool (decide (m = m' ∧ a = a')), []) := by
  conv => lhs; whnf
  refine br_c (fun h => ?_) (fun h => ?_)
  · conv => lhs; whnf
    simp at h
    simp [h]
  · conv => lhs; whnf
    conv => lhs; arg 1; whnf
    refine bnd_g (by exact ⟨hp.1, hp.2⟩) ?_
    conv => lhs; whnf
    refine br_c (fun h' => ?_) (fun h' => ?_)
    · conv => lhs; whnf
      simp at h h'
      simp [h']
    · conv => lhs; whnf
      simp at h h'
      simp [h, h']
theorem ok_eqContext : FnOk Try.prog 13 K_eqContext := by
  refine fn_ok (fn := Try.f13) (k := Try.f13.ntmps) (E := E_eqContext) (facts_of (List.forall_mem_cons.2 ⟨ok_eqIntS, List.forall_mem_nil _⟩)) (by kernel_rfl) rfl (by decide +kernel) (by decide +kernel) ?_
  intro avs hin r h
  unfold K_eqContext at h
  split at h
  · obtain ⟨hp, rfl⟩ := gd_o h
    exact ⟨_, ev_eqContext _ _ _ _ hp, rfl⟩
  · cases h

def iotaI : Int → Nat → List Int
  | _, 0 => []
  | k, n + 1 => k :: iotaI (k + 1) n
@[simp] theorem iotaI_length : ∀ (n : Nat) (k : Int), (iotaI k n).length = n
  | 0, _ => rfl
  | n + 1, k => by simp [iotaI, iotaI_length n]
def held (a : List Int) (k : Int) : Int := if a = iotaI k a.length then k + a.length else -1
theorem held_iota (k : Int) (n : Nat) : held (iotaI k n) k = k + n := by simp [held]
theorem take_set_succ {α : Type} {ys : List α} {i : Nat} {v : α} (h : i < ys.length) : (ys.set i v).take (i + 1) = ys.take i ++ [v] := by
  rw [List.take_succ_eq_append_getElem (by simpa using h), List.take_set_of_le (by omega)]
  simp
theorem getD_set_self {α : Type} {ys : List α} {i : Nat} {v d : α} (h : i < ys.length) : (ys.set i v).getD i d = v := by
  simp [List.getD, h]
/- laws.heldIntS -/
def K_heldIntS : List AV → List Ob → Option (AV × List Ob)
  | [.lst (.int .i64) a, .int .i64 q], [] => gd (a.length ≤ 16777216 ∧ 0 ≤ q ∧ q ≤ 1152921504606846976) (.int .i64 (held a q), [])
  | _, _ => none
@[reducible] def E_heldIntS : Env := mkE (tb []) (fun f => false) (fun r => bif r == 2 then ([0, 1, 5], [1, 4]) else ([], []))
theorem lp_heldIntS (a : List Int) (ha : a.length ≤ 16777216) (k : AX → S → Option (AV × List Ob)) (r : Option (AV × List Ob)) (hk : ∀ q, k .ret (mkS [1, 4] [.int .i64 q, .int .i64 (-1)] []) = r) (d : Nat) : ∀ (n i : Nat) (x q : Int), a.length - i = d → i ≤ a.length → 0 ≤ q → q ≤ 1152921504606846976 + i → x = i → d < n →
    lpAt E_heldIntS (lp E_heldIntS 0 n) 0 (loopAt Try.f24 0) (mkS [0, 1, 5] [.lst (.int .i64) a, .int .i64 q, .int .i64 x] []) k =
      if a.drop i = iotaI q d then k (.exit 0) (mkS [1, 4] [.int .i64 (q + d), .any] []) else r := by
  induction d with
  | zero =>
    intro n i x q hd hi hq hq' hx hn
    subst hx
    rw [lpAt_def]
    conv => lhs; whnf
    refine br_f (df (by omega)) ?_
    conv => lhs; whnf
    rw [if_pos (by rw [List.drop_of_length_le (by omega)]; rfl)]
    simp
  | succ d ih =>
    intro n i x q hd hi hq hq' hx hn
    obtain ⟨n, rfl⟩ : ∃ m, n = m + 1 := ⟨n - 1, by omega⟩
    subst hx
    rw [lpAt_def]
    conv => lhs; whnf
    refine br_t (dt (by omega)) ?_
    conv => lhs; whnf
    refine br_t (dt2 (by omega) (by omega)) ?_
    conv => lhs; whnf
    rw [getD_drop (l := a) (i := i) (d := 0) (by omega)]
    refine br_c (fun h => ?_) (fun h => ?_)
    · conv => lhs; whnf
      rw [if_neg]
      · exact hk _
      · intro he
        have := (List.cons.inj he).1
        simp at h
        exact h this
    · conv => lhs; whnf
      rw [wrap64 (n := q + 1) (by omega) (by omega)]
      rw [ih n (i + 1) _ (q + 1) (by omega) (by omega) (by omega) (by omega) (by rw [wrap64 (by omega) (by omega)]; simp) (by omega)]
      have e1 : q + 1 + (d : Int) = q + ((d + 1 : Nat) : Int) := by push_cast; omega
      rw [e1]
      simp at h
      simp [h, iotaI]
theorem ev_heldIntS (a : List Int) (q : Int) (hp : a.length ≤ 16777216 ∧ 0 ≤ q ∧ q ≤ 1152921504606846976) : evF E_heldIntS (a.length + 2) Try.f24 [.lst (.int .i64) a, .int .i64 q] [] = some (.int .i64 (held a q), []) := by
  conv => lhs; whnf
  refine (lp_heldIntS a hp.1 _ _ (fun _ => by conv => lhs; whnf; rfl) a.length _ 0 0 q rfl (by omega) hp.2.1 (by omega) rfl (by omega)).trans ?_
  simp only [List.drop_zero]
  unfold held
  split
  · rename_i he
    conv => lhs; whnf
  · rename_i he
    rfl
theorem ok_heldIntS : FnOk Try.prog 24 K_heldIntS := by
  refine fn_ok (fn := Try.f24) (k := Try.f24.ntmps) (E := E_heldIntS) (facts_of (List.forall_mem_nil _)) (by kernel_rfl) rfl (by decide +kernel) (by decide +kernel) ?_
  intro avs hin r h
  unfold K_heldIntS at h
  split at h
  · obtain ⟨hp, rfl⟩ := gd_o h
    exact ⟨_, ev_heldIntS _ _ hp, rfl⟩
  · cases h

/- laws.markIntS -/
def K_markIntS : List AV → List Ob → Option (AV × List Ob)
  | [.own 0, .int .i64 q], [.row 3 (.int .i64) a] => gd (a.length ≤ 16777216 ∧ 0 ≤ q ∧ q ≤ 1152921504606846976) (.int .i64 (q + a.length), [.row 3 (.int .i64) (iotaI q a.length)])
  | _, _ => none
@[reducible] def E_markIntS : Env := mkE (tb []) (fun f => false) (fun r => bif r == 2 then ([0, 1, 5], [1]) else ([], []))
theorem lp_markIntS (k : AX → S → Option (AV × List Ob)) (d : Nat) : ∀ (n i : Nat) (x q : Int) (ys : List Int), ys.length - i = d → i ≤ ys.length → ys.length ≤ 16777216 → 0 ≤ q → q ≤ 1152921504606846976 + i → x = i → d < n →
    lpAt E_markIntS (lp E_markIntS 1 n) 1 (loopAt Try.f23 0) (mkS [0, 1, 5] [.own 0, .int .i64 q, .int .i64 x] [some (.row 3 (.int .i64) ys)]) k =
      k (.exit 0) (mkS [1] [.int .i64 (q + d)] [some (.row 3 (.int .i64) (ys.take i ++ iotaI q d))]) := by
  induction d with
  | zero =>
    intro n i x q ys hd hi hl hq hq' hx hn
    subst hx
    rw [lpAt_def]
    conv => lhs; whnf
    refine br_f (df (by omega)) ?_
    conv => lhs; whnf
    simp only [iotaI, List.append_nil, List.take_of_length_le (show ys.length ≤ i by omega)]
    simp
  | succ d ih =>
    intro n i x q ys hd hi hl hq hq' hx hn
    obtain ⟨n, rfl⟩ : ∃ m, n = m + 1 := ⟨n - 1, by omega⟩
    subst hx
    rw [lpAt_def]
    conv => lhs; whnf
    refine br_t (dt (by omega)) ?_
    conv => lhs; whnf
    refine br_t (dt2 (by omega) (by omega)) ?_
    conv => lhs; whnf
    refine br_t (dt (by omega)) ?_
    conv => lhs; whnf
    rw [wrap64 (n := q + 1) (by omega) (by omega)]
    rw [ih n (i + 1) _ (q + 1) _ (by simp; omega) (by simp; omega) (by simp; omega) (by omega) (by omega) (by rw [wrap64 (by omega) (by omega)]; simp) (by omega)]
    simp only [Int.toNat_natCast]
    rw [take_set_succ (by omega)]
    have e1 : q + 1 + (d : Int) = q + ((d + 1 : Nat) : Int) := by push_cast; omega
    rw [e1]
    simp [iotaI]
theorem ev_markIntS (a : List Int) (q : Int) (hp : a.length ≤ 16777216 ∧ 0 ≤ q ∧ q ≤ 1152921504606846976) : evF E_markIntS (a.length + 2) Try.f23 [.own 0, .int .i64 q] [.row 3 (.int .i64) a] = some (.int .i64 (q + a.length), [.row 3 (.int .i64) (iotaI q a.length)]) := by
  conv => lhs; whnf
  refine (lp_markIntS _ a.length _ 0 0 q a rfl (by omega) hp.1 hp.2.1 (by omega) rfl (by omega)).trans ?_
  conv => lhs; whnf
  simp
theorem ok_markIntS : FnOk Try.prog 23 K_markIntS := by
  refine fn_ok (fn := Try.f23) (k := Try.f23.ntmps) (E := E_markIntS) (facts_of (List.forall_mem_nil _)) (by kernel_rfl) rfl (by decide +kernel) (by decide +kernel) ?_
  intro avs hin r h
  unfold K_markIntS at h
  split at h
  · obtain ⟨hp, rfl⟩ := gd_o h
    exact ⟨_, ev_markIntS _ _ hp, rfl⟩
  · cases h

/- laws.markContext -/
def K_markContext : List AV → List Ob → Option (AV × List Ob)
  | [.agg [.int .i64 m, .own 0], .int .i64 q], [.row 3 (.int .i64) a] => gd (a.length ≤ 16777216 ∧ 0 ≤ q ∧ q ≤ 1152921504606846976) (.int .i64 (q + a.length), [.row 3 (.int .i64) (iotaI q a.length)])
  | _, _ => none
@[reducible] def E_markContext : Env := mkE (tb [(23, K_markIntS)]) (fun f => [23].contains f) (fun r => ([], []))
theorem ev_markContext (m : Int) (a : List Int) (q : Int) (hp : a.length ≤ 16777216 ∧ 0 ≤ q ∧ q ≤ 1152921504606846976) : evF E_markContext (1) Try.f16 [.agg [.int .i64 m, .own 0], .int .i64 q] [.row 3 (.int .i64) a] = some (.int .i64 (q + a.length), [.row 3 (.int .i64) (iotaI q a.length)]) := by
  conv => lhs; whnf
  conv => lhs; arg 1; whnf
  refine bnd_g (by exact hp) ?_
  conv => lhs; whnf
theorem ok_markContext : FnOk Try.prog 16 K_markContext := by
  refine fn_ok (fn := Try.f16) (k := Try.f16.ntmps) (E := E_markContext) (facts_of (List.forall_mem_cons.2 ⟨ok_markIntS, List.forall_mem_nil _⟩)) (by kernel_rfl) rfl (by decide +kernel) (by decide +kernel) ?_
  intro avs hin r h
  unfold K_markContext at h
  split at h
  · obtain ⟨hp, rfl⟩ := gd_o h
    exact ⟨_, ev_markContext _ _ _ hp, rfl⟩
  · cases h

/- laws.FnExactNearestObjects -/
def K_lawNearestObjects : List AV → List Ob → Option (AV × List Ob)
  | [.agg [.int .i64 m, .lst (.int .i64) a], .int .i64 g], [] => gd (a.length ≤ maxLen) (.bool true, [])
  | _, _ => none
@[reducible] def E_lawNearestObjects : Env := mkE (tb [(18, K_szContext), (20, K_toContext), (19, K_specNearestObjects), (21, K_implNearestObjects), (22, K_eqIntS), (13, K_eqContext), (24, K_heldIntS), (16, K_markContext), (23, K_markIntS)]) (fun f => [16, 23].contains f) (fun r => ([], []))
theorem ev_lawNearestObjects (m : Int) (a : List Int) (g : Int) (hp : a.length ≤ maxLen) : evF E_lawNearestObjects (1) Try.f4 [.agg [.int .i64 m, .lst (.int .i64) a], .int .i64 g] [] = some (.bool true, []) := by
  conv => lhs; whnf
  conv => lhs; arg 1; whnf
  refine bnd_g (by exact ⟨by omega, by omega, hp⟩) ?_
  conv => lhs; whnf
  refine br_c (fun h1 => ?_) (fun h1 => ?_)
  · conv => lhs; whnf
  · conv => lhs; whnf
    obtain ⟨e1, l1⟩ := szI_ok (ofn h1)
    have hb := nearF_len m a g
    conv => lhs; arg 1; whnf
    refine bnd_g (by omega) ?_
    conv => lhs; whnf
    conv => lhs; arg 1; whnf
    refine bnd_g (by omega) ?_
    conv => lhs; whnf
    conv => lhs; arg 1; whnf
    refine bnd_g (by omega) ?_
    conv => lhs; whnf
    conv => lhs; arg 1; whnf
    refine bnd_g (by omega) ?_
    conv => lhs; whnf
    conv => lhs; arg 1; whnf
    refine bnd_g (by exact ⟨by omega, by omega⟩) ?_
    conv => lhs; whnf
    repeat ((first | with_reducible apply br_tt | with_reducible apply br_ff | with_reducible apply br_nf | with_reducible apply br_nt | with_reducible refine br_d ?_ (by kernel_rfl) | with_reducible refine br_f (by simp; done) ?_); conv => lhs; whnf)
    conv => lhs; arg 1; whnf
    refine bnd_g (by omega) ?_
    conv => lhs; whnf
    conv => lhs; arg 1; whnf
    refine bnd_g (by exact ⟨by omega, by omega⟩) ?_
    conv => lhs; whnf
    repeat ((first | with_reducible apply br_tt | with_reducible apply br_ff | with_reducible apply br_nf | with_reducible apply br_nt | with_reducible refine br_d ?_ (by kernel_rfl) | with_reducible refine br_f (by simp; done) ?_); conv => lhs; whnf)
    conv => lhs; arg 1; whnf
    refine bnd_g (by exact ⟨by omega, by omega, by omega⟩) ?_
    conv => lhs; whnf
    have hk : decide ((1 : Int) + (a.length : Int) < 0) = false := df (by omega)
    repeat ((first | with_reducible apply br_tt | with_reducible apply br_ff | with_reducible apply br_nf | with_reducible apply br_nt | with_reducible refine br_d ?_ (by kernel_rfl) | with_reducible apply br_t hk | with_reducible apply br_f hk); conv => lhs; whnf)
    conv => lhs; arg 1; whnf
    refine bnd_g (by exact ⟨by omega, by omega⟩) ?_
    conv => lhs; whnf
    repeat ((first | with_reducible apply br_tt | with_reducible apply br_ff | with_reducible apply br_nf | with_reducible apply br_nt | with_reducible refine br_d ?_ (by kernel_rfl) | with_reducible apply br_t hk | with_reducible apply br_f hk | with_reducible refine br_f (by simp; done) ?_); conv => lhs; whnf)
    conv => lhs; arg 1; whnf
    refine bnd_g (by exact ⟨by omega, by omega, by omega⟩) ?_
    conv => lhs; whnf
    conv => lhs; arg 1; whnf
    refine bnd_g (by exact ⟨by simp; omega, by omega, by omega⟩) ?_
    conv => lhs; whnf
    refine br_f (by (apply decide_eq_false; rw [held_iota]; omega)) ?_
    conv => lhs; whnf
    refine br_f (by (rw [held_iota]; simp)) ?_
    conv => lhs; whnf
    conv => lhs; arg 1; whnf
    refine bnd_g (by omega) ?_
    conv => lhs; whnf
    conv => lhs; arg 1; whnf
    refine bnd_g (by omega) ?_
    conv => lhs; whnf
    conv => lhs; arg 1; whnf
    refine bnd_g (by exact ⟨by omega, by omega⟩) ?_
    conv => lhs; whnf
    repeat ((first | with_reducible apply br_tt | with_reducible apply br_ff | with_reducible apply br_nf | with_reducible apply br_nt | with_reducible refine br_d ?_ (by kernel_rfl) | with_reducible refine br_f (by simp; done) ?_); conv => lhs; whnf)
    conv => lhs; arg 1; whnf
    refine bnd_g (by exact ⟨by simp; omega, by omega, by omega⟩) ?_
    conv => lhs; whnf
    refine br_f (by (apply decide_eq_false; rw [held_iota]; omega)) ?_
    conv => lhs; whnf
    refine br_f (by (rw [held_iota]; simp)) ?_
    conv => lhs; whnf
theorem ok_lawNearestObjects : FnOk Try.prog 4 K_lawNearestObjects := by
  refine fn_ok (fn := Try.f4) (k := Try.f4.ntmps) (E := E_lawNearestObjects) (facts_of (List.forall_mem_cons.2 ⟨ok_szContext, List.forall_mem_cons.2 ⟨ok_toContext, List.forall_mem_cons.2 ⟨ok_specNearestObjects, List.forall_mem_cons.2 ⟨ok_implNearestObjects, List.forall_mem_cons.2 ⟨ok_eqIntS, List.forall_mem_cons.2 ⟨ok_eqContext, List.forall_mem_cons.2 ⟨ok_heldIntS, List.forall_mem_cons.2 ⟨ok_markContext, List.forall_mem_cons.2 ⟨ok_markIntS, List.forall_mem_nil _⟩⟩⟩⟩⟩⟩⟩⟩⟩)) (by kernel_rfl) rfl (by decide +kernel) (by decide +kernel) ?_
  intro avs hin r h
  unfold K_lawNearestObjects at h
  split at h
  · obtain ⟨hp, rfl⟩ := gd_o h
    exact ⟨_, ev_lawNearestObjects _ _ _ hp, rfl⟩
  · cases h

end Go.Sym
