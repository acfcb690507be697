/- Functions of the program, each told as a plain equation. -/
import Derived.Test.YtonbmmjagdbgaaaDoorSymN2
namespace Go.Sym
open Go.Proofs
set_option linter.unusedVariables false
set_option linter.unusedSimpArgs false
set_option maxRecDepth 100000
set_option maxHeartbeats 4000000

theorem shl1 {i : Nat} (h : i ≤ 8) : IntKind.i64.wrap (1 * 2 ^ min (i : Int).toNat IntKind.i64.bits) = ((2 ^ i : Nat) : Int) := by
  have h : i = 0 ∨ i = 1 ∨ i = 2 ∨ i = 3 ∨ i = 4 ∨ i = 5 ∨ i = 6 ∨ i = 7 ∨ i = 8 := by omega
  rcases h with rfl | rfl | rfl | rfl | rfl | rfl | rfl | rfl | rfl <;> decide
theorem shl1u {i : Nat} (h : i ≤ 8) : IntKind.i64.wrap (1 * 2 ^ min (IntKind.u64.wrap (i : Int)).toNat IntKind.i64.bits) = ((2 ^ i : Nat) : Int) := by
  rw [wrapu (by omega) (by omega)]
  exact shl1 h
def orF (p : Int → Bool) : Nat → Nat → Int → Int
  | 0, _, acc => acc
  | d + 1, i, acc => orF p d (i + 1) (bif p i then bor acc ((2 ^ i : Nat) : Int) else acc)
theorem orF_ext {p q : Int → Bool} : ∀ (d i : Nat) (acc : Int), (∀ j : Nat, i ≤ j → j < i + d → p j = q j) → orF p d i acc = orF q d i acc
  | 0, _, _, _ => rfl
  | d + 1, i, acc, h => by
    rw [orF, orF, h i (by omega) (by omega), orF_ext d (i + 1) _ (fun j h1 h2 => h j (by omega) (by omega))]
abbrev Cu := Int × Int
def curH (h : Int) : Int := IntKind.i64.wrap (IntKind.i64.wrap (h * 6364136223846793005) + 1442695040888963407)
def curX (h : Int) : Int := IntKind.i64.wrap ↑(BitVec.ofInt IntKind.i64.bits (IntKind.i64.wrap ↑(BitVec.ofInt IntKind.i64.bits ((curH h).fdiv (2 ^ min (Int.toNat 33) IntKind.i64.bits)) ^^^ BitVec.ofInt IntKind.i64.bits ((curH h).fdiv (2 ^ min (Int.toNat 45) IntKind.i64.bits))).toNat) &&& BitVec.ofInt IntKind.i64.bits 255).toNat
def curV (b : List Int) (c : Cu) : Int := if c.1 < b.length then band (IntKind.i64.wrap (curX c.2 + IntKind.i64.wrap (b.getD c.1.toNat 0))) 255 else curX c.2
def nx (b : List Int) (c : Cu) : Cu := (if c.1 < b.length then c.1 + 1 else c.1, curH c.2)
abbrev CuOk (b : List Int) (i : Int) : Prop := 0 ≤ i ∧ i ≤ b.length ∧ b.length ≤ 1048576
theorem nx_ok {b : List Int} {c : Cu} (h : CuOk b c.1) : CuOk b (nx b c).1 := by
  unfold nx
  dsimp only
  split
  · exact ⟨by omega, by omega, h.2.2⟩
  · exact h
theorem band_byte (x : Int) : 0 ≤ band x 255 ∧ band x 255 ≤ 255 := by
  unfold band
  have h : (BitVec.ofInt IntKind.i64.bits x &&& BitVec.ofInt IntKind.i64.bits 255).toNat ≤ 255 := by
    rw [BitVec.toNat_and]
    exact Nat.and_le_right
  rw [wrap64 (by omega) (by omega)]
  omega
theorem curV_rng (b : List Int) (c : Cu) : 0 ≤ curV b c ∧ curV b c ≤ 255 := by
  unfold curV
  split
  · exact band_byte _
  · exact band_byte _
def be (b : List Int) (c : Cu) (n : Int) : Int := (curV b c).tmod n
theorem be_rng (b : List Int) (c : Cu) {n : Int} (h : 0 < n) : 0 ≤ be b c n ∧ be b c n < n := by
  have := curV_rng b c
  unfold be
  exact ⟨Int.tmod_nonneg _ this.1, Int.tmod_lt_of_pos _ h⟩
def shlI (n : Int) : Int := IntKind.i64.wrap (1 * 2 ^ min n.toNat IntKind.i64.bits)
theorem shlI_nat {n : Nat} (h : n ≤ 8) : shlI (n : Int) = ((2 ^ n : Nat) : Int) := shl1 (by omega)
theorem shlI_rng {n : Int} (h0 : 0 ≤ n) (h8 : n ≤ 8) : 1 ≤ shlI n ∧ shlI n ≤ 256 := by
  obtain ⟨k, rfl⟩ : ∃ k : Nat, n = k := ⟨n.toNat, by omega⟩
  have h8 : 2 ^ k ≤ 2 ^ 8 := Nat.pow_le_pow_right (by omega) (by omega)
  have hp := Nat.two_pow_pos k
  rw [shlI_nat (by omega)]
  omega
def splS (s : ByteArray) (c : Int) : Nat → Nat → Nat → List ByteArray
  | 0, _, _ => []
  | d + 1, i, f => bif ((i : Int) == (s.size : Int)) || (byteN s i == c) then s.extract f i :: splS s c d (i + 1) (i + 1) else splS s c d (i + 1) f
def splB (s : ByteArray) (c : Int) : List ByteArray := splS s c (s.size + 1) 0 0
theorem splS_len (s : ByteArray) (c : Int) : ∀ (d i f : Nat), (splS s c d i f).length ≤ d
  | 0, _, _ => Nat.le_refl 0
  | d + 1, i, f => by
    rw [splS]
    have h1 := splS_len s c d (i + 1) (i + 1)
    have h2 := splS_len s c d (i + 1) f
    cases ((i : Int) == (s.size : Int)) || (byteN s i == c)
    · rw [cond_false]; omega
    · rw [cond_true, List.length_cons]; omega
def dashB : ByteArray := ⟨#[45]⟩
def psA (t : ByteArray) : Nat → Nat → Int → Int
  | 0, _, s => s
  | d + 1, i, s => psA t d (i + 1) (bor s (shlI (byteN t i - 97)))
def psS (t : ByteArray) : Int := bif t.toList == dashB.toList then 0 else psA t t.size 0 0
/-- A word that spells a set. -/
def okP (t : ByteArray) : Bool := (t.toList == dashB.toList || t.data.toList.all (fun b => decide (97 ≤ b.toNat ∧ b.toNat ≤ 104))) && (setTx (psS t)).toList == t.toList
/-- One digit. -/
def okD (s : ByteArray) : Bool := (decide (s.size = 1) && decide (48 ≤ byteN s 0 ∧ byteN s 0 ≤ 57)) && (itoaB (byteN s 0 - 48)).toList == s.toList
theorem byte_all {t : ByteArray} {p : UInt8 → Bool} (h : t.data.toList.all p = true) {i : Nat} (hi : i < t.size) : p (t.data.toList.getD i 0) = true := by
  have hl : i < t.data.toList.length := hi
  refine List.all_eq_true.1 h _ ?_
  rw [List.getD_eq_getElem?_getD, List.getElem?_eq_getElem hl]
  exact List.getElem_mem hl
/- spec.SplitByte -/
def K_specSplit : List AV → List Ob → Option (AV × List Ob)
  | [.str s, .int .u8 c], [] => gd (s.size ≤ 1000) (.own 0, [.row 9 .str (splB s c)])
  | _, _ => none
@[reducible] def E_specSplit : Env := mkE (tb []) (fun f => false) (fun r => bif r == 4 then ([0, 1, 5, 6, 7], [5]) else ([], []))
theorem lp_specSplit (s : ByteArray) (c : Int) (hs : s.size ≤ 1000) (k : AX → S → Option (AV × List Ob)) (d : Nat) : ∀ (n i f : Nat) (x y : Int) (zs : List ByteArray), s.size + 1 - i = d → i ≤ s.size + 1 → x = i → d < n → zs.length ≤ i → f ≤ i → y = f →
    lpAt E_specSplit (lp E_specSplit 0 n) 0 (loopAt Tryd.f18 0) (mkS [0, 1, 5, 6, 7] [.str s, .int .u8 c, .own 0, .int .i64 y, .int .i64 x] [some (.row 9 .str zs)]) k =
      k (.exit 0) (mkS [5] [.own 0] [some (.row 9 .str (zs ++ splS s c d i f))]) := by
  induction d with
  | zero =>
    intro n i f x y zs hd hi hx hn hz hf hy
    subst hx hy
    rw [lpAt_def]
    conv => lhs; whnf
    refine br_f (df (by omega)) ?_
    conv => lhs; whnf
    rw [splS, List.append_nil]
  | succ d ih =>
    intro n i f x y zs hd hi hx hn hz hf hy
    obtain ⟨n, rfl⟩ : ∃ m, n = m + 1 := ⟨n - 1, by omega⟩
    subst hx hy
    rw [lpAt_def]
    conv => lhs; whnf
    refine br_t (dt (by omega)) ?_
    conv => lhs; whnf
    refine br_c (fun h1 => ?_) (fun h1 => ?_)
    · have h1' : ((i : Int) == (s.size : Int)) = true := h1
      have h1n : i = s.size := by have := eq_of_beq h1'; omega
      have e : splS s c (d + 1) i f = s.extract f i :: splS s c d (i + 1) (i + 1) := by rw [splS, h1', Bool.true_or, cond_true]
      conv => rhs; rw [e]
      conv => lhs; whnf
      repeat ((first | with_reducible apply br_tt | with_reducible apply br_ff | with_reducible apply br_nf | with_reducible apply br_nt | with_reducible refine br_d ?_ (by kernel_rfl) | with_reducible apply br_t h1 | with_reducible apply br_f h1); conv => lhs; whnf)
      refine br_t (by rw [dt (show 0 ≤ (f : Int) by omega), dt (show (f : Int) ≤ (i : Int) by omega), dt (show (i : Int) ≤ (s.size : Int) by omega)]; rfl) ?_
      conv => lhs; whnf
      refine br_t (dt (by simp [room]; omega)) ?_
      conv => lhs; whnf
      refine (ih n (i + 1) (i + 1) (IntKind.i64.wrap ((i : Int) + 1)) (IntKind.i64.wrap ((i : Int) + 1)) _ (by omega) (by omega) (by rw [wrap64 (n := (i : Int) + 1) (by omega) (by omega)]; simp) (by omega) (by simp; omega) (by omega) (by rw [wrap64 (n := (i : Int) + 1) (by omega) (by omega)]; simp)).trans ?_
      simp only [List.append_assoc]
      rfl
    · have h1' : ((i : Int) == (s.size : Int)) = false := h1
      have h1n : i < s.size := by
        have : (i : Int) ≠ (s.size : Int) := by simpa using h1'
        omega
      conv => lhs; whnf
      repeat ((first | with_reducible apply br_tt | with_reducible apply br_ff | with_reducible apply br_nf | with_reducible apply br_nt | with_reducible refine br_d ?_ (by kernel_rfl) | with_reducible apply br_t h1 | with_reducible apply br_f h1); conv => lhs; whnf)
      refine br_t (dt2 (by omega) (by omega)) ?_
      conv => lhs; whnf
      repeat ((first | with_reducible apply br_tt | with_reducible apply br_ff | with_reducible apply br_nf | with_reducible apply br_nt | with_reducible refine br_d ?_ (by kernel_rfl) | with_reducible apply br_t h1 | with_reducible apply br_f h1); conv => lhs; whnf)
      refine br_c (fun h2 => ?_) (fun h2 => ?_)
      · have h2' : (byteN s i == c) = true := h2
        have e : splS s c (d + 1) i f = s.extract f i :: splS s c d (i + 1) (i + 1) := by rw [splS, h2', Bool.or_true, cond_true]
        conv => rhs; rw [e]
        conv => lhs; whnf
        refine br_t (by rw [dt (show 0 ≤ (f : Int) by omega), dt (show (f : Int) ≤ (i : Int) by omega), dt (show (i : Int) ≤ (s.size : Int) by omega)]; rfl) ?_
        conv => lhs; whnf
        refine br_t (dt (by simp [room]; omega)) ?_
        conv => lhs; whnf
        refine (ih n (i + 1) (i + 1) (IntKind.i64.wrap ((i : Int) + 1)) (IntKind.i64.wrap ((i : Int) + 1)) _ (by omega) (by omega) (by rw [wrap64 (n := (i : Int) + 1) (by omega) (by omega)]; simp) (by omega) (by simp; omega) (by omega) (by rw [wrap64 (n := (i : Int) + 1) (by omega) (by omega)]; simp)).trans ?_
        simp only [List.append_assoc]
        rfl
      · have h2' : (byteN s i == c) = false := h2
        have e : splS s c (d + 1) i f = splS s c d (i + 1) f := by rw [splS, h1', h2', Bool.or_false, cond_false]
        conv => rhs; rw [e]
        conv => lhs; whnf
        exact ih n (i + 1) f (IntKind.i64.wrap ((i : Int) + 1)) f zs (by omega) (by omega) (by rw [wrap64 (n := (i : Int) + 1) (by omega) (by omega)]; simp) (by omega) (by omega) (by omega) rfl
theorem ev_specSplit (s : ByteArray) (c : Int) (hp : s.size ≤ 1000) : evF E_specSplit (1100) Tryd.f18 [.str s, .int .u8 c] [] = some (.own 0, [.row 9 .str (splB s c)]) := by
  conv => lhs; whnf
  refine (lp_specSplit s c hp _ (s.size + 1) _ 0 0 0 0 [] rfl (by omega) rfl (by change _ < 1099; omega) (by simp) (by omega) rfl).trans ?_
  conv => lhs; whnf
  all_goals rfl
theorem ok_specSplit : FnOk Tryd.prog 18 K_specSplit := by
  refine fn_ok (fn := Tryd.f18) (k := Tryd.f18.ntmps) (E := E_specSplit) (facts_of (List.forall_mem_nil _)) (by kernel_rfl) rfl (by decide +kernel) (by decide +kernel) ?_
  intro avs hin r h
  unfold K_specSplit at h
  split at h
  · obtain ⟨hp, rfl⟩ := gd_o h
    exact ⟨_, ev_specSplit _ _ hp, rfl⟩
  · cases h

end Go.Sym
