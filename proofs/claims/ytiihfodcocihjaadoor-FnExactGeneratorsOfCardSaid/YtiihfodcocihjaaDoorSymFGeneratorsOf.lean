/- Functions of the program, each told as a plain equation. -/
import Derived.Test.YtiihfodcocihjaaDoorSymFNewIntents
namespace Go.Sym
open Go.Proofs
set_option linter.unusedVariables false
set_option linter.unusedSimpArgs false
set_option maxRecDepth 100000
set_option maxHeartbeats 4000000

def clr (s e : Nat) : Nat := bif s.testBit e then s - 2 ^ e else s
theorem clr_all : ∀ s : Fin 64, ∀ e i : Fin 8, (clr s.val e.val).testBit i.val = (s.val.testBit i.val && !(i.val == e.val)) := by decide +kernel
theorem clr_le (s e : Nat) : clr s e ≤ s := by
  unfold clr
  cases s.testBit e
  · exact Nat.le_refl _
  · exact Nat.sub_le _ _
theorem clr_bit {s e : Nat} (hs : s < 64) (he : e < 8) (i : Nat) : (clr s e).testBit i = (s.testBit i && !(i == e)) := by
  rcases Nat.lt_or_ge i 8 with hi | hi
  · exact clr_all ⟨s, hs⟩ ⟨e, he⟩ ⟨i, hi⟩
  · have h1 := clr_le s e
    have h2 : 2 ^ 8 ≤ 2 ^ i := Nat.pow_le_pow_right (by omega) hi
    rw [Nat.testBit_lt_two_pow (x := clr s e) (by omega), Nat.testBit_lt_two_pow (x := s) (by omega)]
    rfl
theorem bit_lt {s i : Nat} (hs : s < 64) (h : s.testBit i = true) : i < 8 := by
  rcases Nat.lt_or_ge i 8 with hi | hi
  · exact hi
  · have h2 : 2 ^ 8 ≤ 2 ^ i := Nat.pow_le_pow_right (by omega) hi
    rw [Nat.testBit_lt_two_pow (by omega)] at h
    cases h
theorem clr_lt {s e : Nat} (h : s.testBit e = true) : clr s e < s := by
  unfold clr
  have := Nat.ge_two_pow_of_testBit h
  have h2 : 0 < 2 ^ e := Nat.two_pow_pos e
  rw [h, cond_true]
  omega
/-- No element can be left out. -/
def Tight (cl : Nat → Nat) (s : Nat) : Prop := ∀ e, s.testBit e = true → cl (clr s e) ≠ cl s
theorem tight_in {cl : Nat → Nat} (s : Nat) (hs : s < 64) : ∃ t, t ≤ s ∧ SubN t s ∧ cl t = cl s ∧ Tight cl t := by
  induction s using Nat.strongRecOn with
  | _ s ih =>
    by_cases h : Tight cl s
    · exact ⟨s, Nat.le_refl s, fun i hi => hi, rfl, h⟩
    · unfold Tight at h
      simp only [Classical.not_forall, Classical.not_not] at h
      obtain ⟨e, he, hc⟩ := h
      have hl := clr_lt he
      obtain ⟨t, h1, h2, h3, h4⟩ := ih _ hl (by omega)
      refine ⟨t, by omega, fun i hi => ?_, h3.trans hc, h4⟩
      have := h2 i hi
      rw [clr_bit hs (bit_lt hs he)] at this
      exact (Bool.and_eq_true_iff.1 this).1
theorem gsub_le {t s : Nat} (h : SubN t s) : t ≤ s := by
  have : t &&& s = t := by
    apply Nat.eq_of_testBit_eq
    intro i
    rw [Nat.testBit_and]
    cases hb : t.testBit i
    · rfl
    · rw [h i hb]; rfl
  rw [← this]
  exact Nat.and_le_right
theorem sub_anti {t s : Nat} (h : SubN t s) (g : SubN s t) : t = s := Nat.le_antisymm (gsub_le h) (gsub_le g)
theorem tight_iff {n : Nat} {cl : Nat → Nat} (hc : Clo n cl) (hn : n ≤ 6) {s : Nat} (hs : s < 2 ^ n) : Tight cl s ↔ ∀ t, t < s → SubN t s → cl t = cl s → ¬ Tight cl t := by
  have h6 : 2 ^ n ≤ 2 ^ 6 := Nat.pow_le_pow_right (by omega) hn
  constructor
  · intro h t ht hsub hcl _
    have : ∃ e, s.testBit e = true ∧ t.testBit e = false := by
      apply Classical.byContradiction
      intro hne
      have : s = t := sub_anti (fun i hi => by
        cases hb : t.testBit i
        · exact absurd ⟨i, hi, hb⟩ hne
        · rfl) hsub
      omega
    obtain ⟨e, he, hte⟩ := this
    have hle := clr_le s e
    have hb : ∀ i, (clr s e).testBit i = (s.testBit i && !(i == e)) := clr_bit (by omega) (bit_lt (by omega) he)
    refine h e he (sub_anti (hc.mono _ _ (by omega) hs fun i hi => ?_) ?_)
    · rw [hb i] at hi
      exact (Bool.and_eq_true_iff.1 hi).1
    · rw [← hcl]
      refine hc.mono _ _ (by omega) (by omega) fun i hi => ?_
      rw [hb i, hsub i hi]
      rcases Nat.decEq i e with h' | h'
      · simp [h']
      · subst h'; rw [hte] at hi; cases hi
  · intro h e he hcl
    have hl := clr_lt he
    obtain ⟨t, h1, h2, h3, h4⟩ := tight_in (cl := cl) (clr s e) (by omega)
    refine h t (by omega) (fun i hi => ?_) (h3.trans hcl) h4
    have := h2 i hi
    rw [clr_bit (by omega) (bit_lt (by omega) he)] at this
    exact (Bool.and_eq_true_iff.1 this).1
/-- The two ways to the least generators. -/
def freshN (ys : List Nat) (s : Nat) : Bool := ys.all (fun y => !(y &&& s == y))
def stepN (cl : Nat → Nat) (I : Nat) : Nat → Nat → List Nat → List Nat
  | 0, _, ys => ys
  | d + 1, i, ys => stepN cl I d (i + 1) (bif (cl i == I) && freshN ys i then ys ++ [i] else ys)
def tightB (cl : Nat → Nat) (I s : Nat) : Bool := (List.range 8).all (fun e => !(s.testBit e && (cl (clr s e) == I)))
theorem tightB_iff {cl : Nat → Nat} {I s : Nat} (hs : s < 64) (h : cl s = I) : tightB cl I s = true ↔ Tight cl s := by
  unfold tightB Tight
  simp only [List.all_eq_true, List.mem_range, Bool.not_eq_true', Bool.and_eq_false_iff]
  constructor
  · intro g e he
    rcases g e (bit_lt hs he) with g | g
    · rw [he] at g; cases g
    · rw [h]; exact beq_eq_false_iff_ne.1 g
  · intro g e _
    cases he : s.testBit e
    · exact Or.inl rfl
    · refine Or.inr (beq_eq_false_iff_ne.2 ?_)
      rw [← h]; exact g e he
def leastN (cl : Nat → Nat) (I s : Nat) : Bool := (cl s == I) && tightB cl I s
theorem sub_and {y s : Nat} : y &&& s = y ↔ SubN y s := by
  constructor
  · intro h i hi
    rw [← h, Nat.testBit_and] at hi
    exact (Bool.and_eq_true_iff.1 hi).2
  · intro h
    apply Nat.eq_of_testBit_eq
    intro i
    rw [Nat.testBit_and]
    cases hb : y.testBit i
    · rfl
    · rw [h i hb]; rfl
theorem fresh_least {n : Nat} {cl : Nat → Nat} (hc : Clo n cl) (hn : n ≤ 6) (I : Nat) {s : Nat} (hs : s < 2 ^ n) : ((cl s == I) && freshN ((List.range s).filter (leastN cl I)) s) = leastN cl I s := by
  have h6 : 2 ^ n ≤ 2 ^ 6 := Nat.pow_le_pow_right (by omega) hn
  unfold leastN
  cases hI : cl s == I
  · rfl
  · have hI := eq_of_beq hI
    rw [Bool.true_and, Bool.true_and, Bool.eq_iff_iff, tightB_iff (by omega) hI, tight_iff hc hn hs]
    unfold freshN
    simp only [List.all_eq_true, List.mem_filter, List.mem_range, Bool.and_eq_true, Bool.not_eq_true', beq_iff_eq, beq_eq_false_iff_ne]
    constructor
    · intro g t h1 h2 h3 h4
      exact g t ⟨h1, h3.trans hI, (tightB_iff (by omega) (h3.trans hI)).2 h4⟩ (sub_and.2 h2)
    · rintro g t ⟨h1, h2, h3⟩ h4
      exact g t h1 (sub_and.1 h4) (h2.trans hI.symm) ((tightB_iff (by omega) h2).1 h3)
theorem step_least {n : Nat} {cl : Nat → Nat} (hc : Clo n cl) (hn : n ≤ 6) (I : Nat) : ∀ (d i : Nat), i + d = 2 ^ n → stepN cl I d i ((List.range i).filter (leastN cl I)) = (List.range (2 ^ n)).filter (leastN cl I)
  | 0, i, h => by rw [stepN, ← h, Nat.add_zero]
  | d + 1, i, h => by
    rw [stepN, fresh_least hc hn I (by omega), ← step_least hc hn I d (i + 1) (by omega)]
    congr 1
    rw [List.range_succ, List.filter_append, List.filter_cons]
    cases leastN cl I i <;> simp
theorem gen_at {m : Int} {b : List Int} (h : isCtx m b = true) {s : Nat} (hs : s < 256) {I : Int} (hI : 0 ≤ I) : (intentF m b (extF b (s : Int)) == I) = (clN m b s == I.toNat) := by
  rw [clN_int h hs, Bool.eq_iff_iff, beq_iff_eq, beq_iff_eq]
  omega
theorem fresh_int {s : Nat} (hs : s < 256) : ∀ ys : List Nat, (∀ y ∈ ys, y < 256) → (ys.map (fun n : Nat => (n : Int))).all (fun y => band y (s : Int) != y) = freshN ys s
  | [], _ => rfl
  | y :: ys, h => by
    have hy := h y (by simp)
    have ih := fresh_int hs ys fun z hz => h z (by simp [hz])
    unfold freshN at ih ⊢
    rw [List.map_cons, List.all_cons, List.all_cons, ih, band_nat hy hs]
    congr 1
    rw [bne, Bool.eq_iff_iff]
    simp only [Bool.not_eq_true', beq_eq_false_iff_ne, ne_eq]
    omega
theorem clr_bnot : ∀ s : Fin 64, ∀ e : Fin 8, bnot (s.val : Int) (IntKind.i64.wrap (1 * 2 ^ min (e.val : Int).toNat IntKind.i64.bits)) = ((clr s.val e.val : Nat) : Int) := by decide +kernel
theorem elems_every (s : Int) (p : Int → Bool) : (elemsF s).all p = allB (fun e => !(hasE s e && !p e)) 8 0 := by
  have := elemsL_any s (fun x => !p x) 8 0
  unfold elemsF
  rw [List.all_eq_not_any_not, this, Bool.not_not]
theorem tight_int {m : Int} {b : List Int} (h : isCtx m b = true) {s : Nat} (hs : s < 2 ^ m.toNat) {I : Int} (hI : 0 ≤ I) :
    (elemsF (s : Int)).all (fun e => (bif isCtx m b && isSet m (bnot (s : Int) (IntKind.i64.wrap (1 * 2 ^ min e.toNat IntKind.i64.bits))) then intentF m b (extF b (bnot (s : Int) (IntKind.i64.wrap (1 * 2 ^ min e.toNat IntKind.i64.bits)))) else 0) != I) = tightB (clN m b) I.toNat s := by
  have hl := isCtx_len h
  have h6 : 2 ^ m.toNat ≤ 2 ^ 6 := Nat.pow_le_pow_right (by omega) (by omega)
  rw [elems_every]
  unfold tightB
  rw [Bool.eq_iff_iff, allB_iff, List.all_eq_true]
  have key : ∀ e : Nat, e < 8 → (!(hasE (s : Int) (e : Int) && !((bif isCtx m b && isSet m (bnot (s : Int) (IntKind.i64.wrap (1 * 2 ^ min (e : Int).toNat IntKind.i64.bits))) then intentF m b (extF b (bnot (s : Int) (IntKind.i64.wrap (1 * 2 ^ min (e : Int).toNat IntKind.i64.bits)))) else 0) != I))) = !(s.testBit e && (clN m b (clr s e) == I.toNat)) := by
    intro e he
    have e1 := clr_bnot ⟨s, by omega⟩ ⟨e, he⟩
    simp only at e1
    have hle := clr_le s e
    have hset : isSet m ((clr s e : Nat) : Int) = true := by
      unfold isSet
      refine dt ⟨by omega, by omega, ?_⟩
      have e2 : ((2 ^ m.toNat : Nat) : Int) = (2 : Int) ^ m.toNat := by push_cast; rfl
      omega
    rw [e1, h, hset, Bool.true_and, cond_true, hasE_bit (by rw [isSet8]; exact dt (by omega)) (by omega) (by omega), ← gen_at h (by omega) hI]
    unfold bitI
    rw [Int.toNat_natCast, Int.toNat_natCast, bne, Bool.not_not]
  constructor
  · intro g e he
    rw [← key e (List.mem_range.1 he)]
    exact g e (by omega) (by have := List.mem_range.1 he; omega)
  · intro g e _ he
    rw [key e (by omega)]
    exact g e (List.mem_range.2 (by omega))
def genF (m : Int) (b : List Int) (a : Int) : List Int :=
  bif inC (concF m b) a then ((List.range (2 ^ m.toNat)).filter (leastN (clN m b) (elC (concF m b) a).2.toNat)).map (fun n : Nat => (n : Int)) else []
theorem genF_len (m : Int) (b : List Int) (a : Int) : (genF m b a).length ≤ 64 := by
  unfold genF
  cases h : inC (concF m b) a with
  | false => simp
  | true =>
    obtain ⟨h1, _⟩ := concF_at h
    have hl := isCtx_len h1
    have h6 : 2 ^ m.toNat ≤ 2 ^ 6 := Nat.pow_le_pow_right (by omega) (by omega)
    rw [cond_true, List.length_map]
    have := List.length_filter_le (leastN (clN m b) (elC (concF m b) a).2.toNat) (List.range (2 ^ m.toNat))
    rw [List.length_range] at this
    omega
/- spec.GeneratorsOf -/
def K_specGeneratorsOf : List AV → List Ob → Option (AV × List Ob)
  | [.agg [.int .i64 m, .lst (.int .i64) b], .int .i64 a], [] => gd (b.length ≤ 1048576) (.own 0, [.row 3 (.int .i64) (genF m b a)])
  | _, _ => none
@[reducible] def E_specGeneratorsOf : Env := mkE (tb [(74, K_specConcepts), (75, K_l6Exists), (76, K_specFullSet), (77, K_specClosure)]) (fun f => false) (fun r => bif r == 6 then ([1, 2, 5, 6, 7], [1, 2, 5, 6, 7, 8]) else bif r == 11 then ([1, 2, 5, 6, 7, 8, 9], [1, 2, 5, 6, 7, 8]) else ([], []))
theorem lq_specGeneratorsOf (m : Int) (b : List Int) (a : Int) (l : List (Int × Int)) (s : Nat) (ys : List Int) (hy : ys.length ≤ 64) (k : AX → S → Option (AV × List Ob)) (d : Nat) : ∀ (n i : Nat) (x : Int) (f : Bool), ys.length - i = d → i ≤ ys.length → x = i → d < n →
    lpAt E_specGeneratorsOf (lp E_specGeneratorsOf 0 n) 0 (loopAt Tryd.f24 1) (mkS [1, 2, 5, 6, 7, 8, 9] [.int .i64 a, .ptr 0 0, .own 1, .own 2, .int .i64 (s : Int), .bool f, .int .i64 x] [some (.box 35 [.int .i64 m, .lst (.int .i64) b]), some (.row 3 (.int .i64) ys), some (.row 84 (.pair (.int .i64) (.int .i64)) l)]) k =
      k (.exit 2) (mkS [1, 2, 5, 6, 7, 8] [.int .i64 a, .ptr 0 0, .own 1, .own 2, .int .i64 (s : Int), .bool (f && (ys.drop i).all (fun y => band y (s : Int) != y))] [some (.box 35 [.int .i64 m, .lst (.int .i64) b]), some (.row 3 (.int .i64) ys), some (.row 84 (.pair (.int .i64) (.int .i64)) l)]) := by
  induction d with
  | zero =>
    intro n i x f hd hi hx hn
    subst hx
    rw [lpAt_def]
    conv => lhs; whnf
    refine br_f (df (by omega)) ?_
    conv => lhs; whnf
    rw [List.drop_of_length_le (by omega), List.all_nil, Bool.and_true]
  | succ d ih =>
    intro n i x f hd hi hx hn
    obtain ⟨n, rfl⟩ : ∃ m, n = m + 1 := ⟨n - 1, by omega⟩
    subst hx
    rw [lpAt_def]
    conv => lhs; whnf
    refine br_t (dt (by omega)) ?_
    conv => lhs; whnf
    refine br_c (fun h => ?_) (fun h => ?_)
    · conv => lhs; whnf
      repeat ((first | with_reducible apply br_tt | with_reducible apply br_ff | with_reducible apply br_nf | with_reducible apply br_nt | with_reducible refine br_d ?_ (by kernel_rfl) | with_reducible apply br_t h | with_reducible apply br_f h | with_reducible refine br_t (dt2 (by omega) (by omega)) ?_ | with_reducible refine br_t (dt (by omega)) ?_); conv => lhs; whnf)
      refine Eq.trans (ih n (i + 1) _ _ (by omega) (by omega) (by rw [wrap64 (n := (i : Int) + 1) (by omega) (by omega)]; simp) (by omega)) ?_
      rw [getD_drop (l := ys) (i := i) (d := 0) (by omega), List.all_cons, h, Bool.true_and]
      rfl
    · conv => lhs; whnf
      repeat ((first | with_reducible apply br_tt | with_reducible apply br_ff | with_reducible apply br_nf | with_reducible apply br_nt | with_reducible refine br_d ?_ (by kernel_rfl) | with_reducible apply br_t h | with_reducible apply br_f h | with_reducible refine br_t (dt2 (by omega) (by omega)) ?_ | with_reducible refine br_t (dt (by omega)) ?_); conv => lhs; whnf)
      refine Eq.trans (ih n (i + 1) _ _ (by omega) (by omega) (by rw [wrap64 (n := (i : Int) + 1) (by omega) (by omega)]; simp) (by omega)) ?_
      simp only [h, Bool.false_and]

theorem lp_specGeneratorsOf (m : Nat) (hm : m ≤ 6) (b : List Int) (hc : isCtx (m : Int) b = true) (a : Int) (l : List (Int × Int)) (hl : l.length ≤ 64) (ha : 0 ≤ a ∧ a < (l.length : Int)) (hI : 0 ≤ (elC l a).2) (k : AX → S → Option (AV × List Ob)) (d : Nat) : ∀ (n i : Nat) (x : Int) (L : List Nat), 2 ^ m - i = d → i ≤ 2 ^ m → x = i → d + 70 < n → L.length ≤ i → (∀ y ∈ L, y < i) →
    lpAt E_specGeneratorsOf (lp E_specGeneratorsOf 0 n) 0 (loopAt Tryd.f24 0) (mkS [1, 2, 5, 6, 7] [.int .i64 a, .ptr 0 0, .own 1, .own 2, .int .i64 x] [some (.box 35 [.int .i64 (m : Int), .lst (.int .i64) b]), some (.row 3 (.int .i64) (L.map fun n : Nat => (n : Int))), some (.row 84 (.pair (.int .i64) (.int .i64)) l)]) k =
      k (.exit 0) (mkS [1, 2, 5, 6, 7, 8] [.int .i64 a, .ptr 0 0, .own 1, .own 2, .int .i64 ((2 ^ m : Nat) : Int), .any] [some (.box 35 [.int .i64 (m : Int), .lst (.int .i64) b]), some (.row 3 (.int .i64) ((stepN (clN (m : Int) b) (elC l a).2.toNat d i L).map fun n : Nat => (n : Int))), some (.row 84 (.pair (.int .i64) (.int .i64)) l)]) := by
  have hp : 2 ^ m ≤ 2 ^ 6 := Nat.pow_le_pow_right (by omega) hm
  have hp1 := Nat.two_pow_pos m
  have hf := fullSet_nat hm
  induction d with
  | zero =>
    intro n i x L hd hi hx hn hz hL
    subst hx
    rw [lpAt_def]
    conv => lhs; whnf
    conv => lhs; arg 1; whnf
    refine bnd_g (by exact True.intro) ?_
    conv => lhs; whnf
    rw [hf]
    refine br_f (df (by omega)) ?_
    conv => lhs; whnf
    have : i = 2 ^ m := by omega
    rw [this]
    rfl
  | succ d ih =>
    intro n i x L hd hi hx hn hz hL
    obtain ⟨n, rfl⟩ : ∃ m, n = m + 1 := ⟨n - 1, by omega⟩
    subst hx
    have e0 := gen_at hc (s := i) (by omega) hI
    rw [lpAt_def]
    conv => lhs; whnf
    conv => lhs; arg 1; whnf
    refine bnd_g (by exact True.intro) ?_
    conv => lhs; whnf
    rw [hf]
    refine br_t (dt (by omega)) ?_
    conv => lhs; whnf
    conv => lhs; arg 1; whnf
    refine bnd_g (by exact ⟨hc, by omega, by omega⟩) ?_
    conv => lhs; whnf
    refine br_t (dt2 (by omega) (by omega)) ?_
    conv => lhs; whnf
    refine br_t (dt (by omega)) ?_
    conv => lhs; whnf
    repeat ((first | with_reducible apply br_tt | with_reducible apply br_ff | with_reducible apply br_nf | with_reducible apply br_nt | with_reducible refine br_d ?_ (by kernel_rfl)); conv => lhs; whnf)
    refine br_c (fun h => ?_) (fun h => ?_)
    · have h' : (intentF (m : Int) b (extF b (i : Int)) != (elC l a).2) = true := h
      have e1 : (clN (m : Int) b i == (elC l a).2.toNat) = false := by rw [← e0]; exact bnt h'
      conv => lhs; whnf
      refine Eq.trans (ih n (i + 1) _ _ (by omega) (by omega) (by rw [wrap64 (n := (i : Int) + 1) (by omega) (by omega)]; simp) (by omega) (by omega) (fun y hy => by have := hL y hy; omega)) ?_
      rw [stepN, e1, Bool.false_and, cond_false]
    · have h' : (intentF (m : Int) b (extF b (i : Int)) != (elC l a).2) = false := h
      have e1 : (clN (m : Int) b i == (elC l a).2.toNat) = true := by rw [← e0]; exact bnf h'
      have hlen : (L.map fun n : Nat => (n : Int)).length = L.length := List.length_map _
      have ef := fresh_int (s := i) (by omega) L (fun y hy => by have := hL y hy; omega)
      conv => lhs; whnf
      refine (lq_specGeneratorsOf (m : Int) b a l i _ (by rw [hlen]; omega) _ _ _ 0 0 true rfl (Nat.zero_le _) rfl (by rw [hlen]; omega)).trans ?_
      rw [Bool.true_and, List.drop_zero, ef]
      conv => lhs; whnf
      refine br_c (fun h2 => ?_) (fun h2 => ?_)
      · have h2' : freshN L i = true := h2
        conv => lhs; whnf
        refine br_t (dt (by rw [hlen]; simp [room]; omega)) ?_
        conv => lhs; whnf
        have e2 : (L.map fun n : Nat => (n : Int)) ++ [(i : Int)] = (L ++ [i]).map fun n : Nat => (n : Int) := by rw [List.map_append]; rfl
        rw [e2]
        refine Eq.trans (ih n (i + 1) _ _ (by omega) (by omega) (by rw [wrap64 (n := (i : Int) + 1) (by omega) (by omega)]; simp) (by omega) (by simp; omega) (fun y hy => ?_)) ?_
        · rcases List.mem_append.1 hy with hy | hy
          · have := hL y hy; omega
          · have : y = i := by simpa using hy
            omega
        · rw [stepN, e1, h2', Bool.true_and, cond_true]
      · have h2' : freshN L i = false := h2
        conv => lhs; whnf
        refine Eq.trans (ih n (i + 1) _ _ (by omega) (by omega) (by rw [wrap64 (n := (i : Int) + 1) (by omega) (by omega)]; simp) (by omega) (by omega) (fun y hy => by have := hL y hy; omega)) ?_
        rw [stepN, e1, h2', Bool.true_and, cond_false]
theorem ev_specGeneratorsOf (m : Int) (b : List Int) (a : Int) (hp : b.length ≤ 1048576) : evF E_specGeneratorsOf (300) Tryd.f24 [.agg [.int .i64 m, .lst (.int .i64) b], .int .i64 a] [] = some (.own 0, [.row 3 (.int .i64) (genF m b a)]) := by
  have hl := concF_len m b
  conv => lhs; whnf
  conv => lhs; arg 1; whnf
  refine bnd_g (by exact hp) ?_
  conv => lhs; whnf
  conv => lhs; arg 1; whnf
  refine bnd_g (by exact hl) ?_
  conv => lhs; whnf
  refine br_c (fun h => ?_) (fun h => ?_)
  · unfold genF
    rw [bnt h]
    conv => lhs; whnf
    rfl
  · have h2 := inC_iff.1 (bnf h)
    obtain ⟨h3, h4, h5, h6, h7⟩ := concF_at (bnf h)
    have hlen := isCtx_len h3
    have h8 := isSet_le h4
    obtain ⟨mm, rfl⟩ : ∃ mm : Nat, m = mm := ⟨m.toNat, by omega⟩
    have hpw : 2 ^ mm ≤ 2 ^ 6 := Nat.pow_le_pow_right (by omega) (by omega)
    unfold genF
    rw [bnf h]
    conv => lhs; whnf
    refine (lp_specGeneratorsOf mm (by omega) b h3 a (concF mm b) hl h2 (by omega) _ (2 ^ mm) _ 0 0 [] rfl (Nat.zero_le _) rfl (by change _ < 299; omega) (Nat.le_refl _) (fun y hy => by cases hy)).trans ?_
    conv => lhs; whnf
    have := step_least (cl_clo h3) (by omega) (elC (concF mm b) a).2.toNat (2 ^ mm) 0 (by rw [Int.toNat_natCast]; omega)
    rw [List.range_zero, List.filter_nil] at this
    rw [this]
    rfl
theorem ok_specGeneratorsOf : FnOk Tryd.prog 24 K_specGeneratorsOf := by
  refine fn_ok (fn := Tryd.f24) (k := Tryd.f24.ntmps) (E := E_specGeneratorsOf) (facts_of (List.forall_mem_cons.2 ⟨ok_specConcepts, List.forall_mem_cons.2 ⟨ok_l6Exists, List.forall_mem_cons.2 ⟨ok_specFullSet, List.forall_mem_cons.2 ⟨ok_specClosure, List.forall_mem_nil _⟩⟩⟩⟩)) (by kernel_rfl) rfl (by decide +kernel) (by decide +kernel) ?_
  intro avs hin r h
  unfold K_specGeneratorsOf at h
  split at h
  · obtain ⟨hp, rfl⟩ := gd_o h
    exact ⟨_, ev_specGeneratorsOf _ _ _ hp, rfl⟩
  · cases h

/- impl.GeneratorsOf -/
def K_implGeneratorsOf : List AV → List Ob → Option (AV × List Ob)
  | [.agg [.int .i64 m, .lst (.int .i64) b], .int .i64 a], [] => gd (b.length ≤ 1048576) (.own 0, [.row 3 (.int .i64) (genF m b a)])
  | _, _ => none
@[reducible] def E_implGeneratorsOf : Env := mkE (tb [(78, K_conceptOf), (79, K_implClosureOf), (80, K_elementsOf)]) (fun f => false) (fun r => bif r == 6 then ([2, 5, 7, 23, 24], [2, 5, 7, 8, 9, 23, 24]) else bif r == 11 then ([2, 5, 7, 8, 9, 23, 24, 34, 35, 36], [2, 5, 7, 8, 9, 23, 24]) else ([], []))
theorem lq_implGeneratorsOf (m : Int) (b : List Int) (hb : b.length ≤ 1048576) (p : Int × Int) (s : Int) (N : Int) (ys : List Int) (es : List Int) (he : es.length ≤ 8) (he2 : ∀ e ∈ es, 0 ≤ e ∧ e ≤ 7) (k : AX → S → Option (AV × List Ob)) (d : Nat) : ∀ (n i : Nat) (x : Int) (f : Bool), es.length - i = d → i ≤ es.length → x = i → d < n →
    lpAt E_implGeneratorsOf (lp E_implGeneratorsOf 0 n) 0 (loopAt Tryd.f26 1) (mkS [2, 5, 7, 8, 9, 23, 24, 34, 35, 36] [.ptr 0 0, .ptr 1 0, .own 2, .int .i64 s, .bool f, .int .i64 N, .int .i64 s, .own 3, .int .i64 es.length, .int .i64 x] [some (.box 35 [.int .i64 m, .lst (.int .i64) b]), some (.box 84 [.int .i64 p.1, .int .i64 p.2]), some (.row 3 (.int .i64) ys), some (.row 3 (.int .i64) es)]) k =
      k (.exit 2) (mkS [2, 5, 7, 8, 9, 23, 24] [.ptr 0 0, .ptr 1 0, .own 2, .int .i64 s, .bool (f && (es.drop i).all (fun e => (bif isCtx m b && isSet m (bnot s (IntKind.i64.wrap (1 * 2 ^ min e.toNat IntKind.i64.bits))) then intentF m b (extF b (bnot s (IntKind.i64.wrap (1 * 2 ^ min e.toNat IntKind.i64.bits)))) else 0) != p.2)), .int .i64 N, .int .i64 s] [some (.box 35 [.int .i64 m, .lst (.int .i64) b]), some (.box 84 [.int .i64 p.1, .int .i64 p.2]), some (.row 3 (.int .i64) ys)]) := by
  induction d with
  | zero =>
    intro n i x f hd hi hx hn
    subst hx
    rw [lpAt_def]
    conv => lhs; whnf
    refine br_f (df (by omega)) ?_
    conv => lhs; whnf
    rw [List.drop_of_length_le (by omega), List.all_nil, Bool.and_true]
  | succ d ih =>
    intro n i x f hd hi hx hn
    obtain ⟨n, rfl⟩ : ∃ m, n = m + 1 := ⟨n - 1, by omega⟩
    subst hx
    have hei := he2 _ (mem_getD (l := es) (i := i) (d := 0) (by omega))
    rw [lpAt_def]
    conv => lhs; whnf
    refine br_t (dt (by omega)) ?_
    conv => lhs; whnf
    refine br_t (dt2 (by omega) (by omega)) ?_
    conv => lhs; whnf
    refine br_t (dt (by omega)) ?_
    conv => lhs; whnf
    refine br_c (fun h => ?_) (fun h => ?_)
    · conv => lhs; whnf
      repeat ((first | with_reducible apply br_tt | with_reducible apply br_ff | with_reducible apply br_nf | with_reducible apply br_nt | with_reducible refine br_d ?_ (by kernel_rfl) | with_reducible apply br_t h | with_reducible apply br_f h | with_reducible refine br_t (dt2 (by omega) (by omega)) ?_ | with_reducible refine br_t (dt (by omega)) ?_); conv => lhs; whnf)
      refine br_f (by (refine df ?_; change ¬ (es.getD i 0 < 0); omega)) ?_
      conv => lhs; whnf
      repeat ((first | with_reducible apply br_tt | with_reducible apply br_ff | with_reducible apply br_nf | with_reducible apply br_nt | with_reducible refine br_d ?_ (by kernel_rfl) | with_reducible apply br_t h | with_reducible apply br_f h | with_reducible refine br_t (dt2 (by omega) (by omega)) ?_ | with_reducible refine br_t (dt (by omega)) ?_); conv => lhs; whnf)
      conv => lhs; arg 1; whnf
      refine bnd_g (by exact hb) ?_
      conv => lhs; whnf
      repeat ((first | with_reducible apply br_tt | with_reducible apply br_ff | with_reducible apply br_nf | with_reducible apply br_nt | with_reducible refine br_d ?_ (by kernel_rfl) | with_reducible apply br_t h | with_reducible apply br_f h | with_reducible refine br_t (dt2 (by omega) (by omega)) ?_ | with_reducible refine br_t (dt (by omega)) ?_); conv => lhs; whnf)
      refine Eq.trans (ih n (i + 1) _ _ (by omega) (by omega) (by rw [wrap64 (n := (i : Int) + 1) (by omega) (by omega)]; simp) (by omega)) ?_
      rw [getD_drop (l := es) (i := i) (d := 0) (by omega), List.all_cons, h, Bool.true_and]
      rfl
    · conv => lhs; whnf
      repeat ((first | with_reducible apply br_tt | with_reducible apply br_ff | with_reducible apply br_nf | with_reducible apply br_nt | with_reducible refine br_d ?_ (by kernel_rfl) | with_reducible apply br_t h | with_reducible apply br_f h | with_reducible refine br_t (dt2 (by omega) (by omega)) ?_ | with_reducible refine br_t (dt (by omega)) ?_); conv => lhs; whnf)
      refine Eq.trans (ih n (i + 1) _ _ (by omega) (by omega) (by rw [wrap64 (n := (i : Int) + 1) (by omega) (by omega)]; simp) (by omega)) ?_
      simp only [h, Bool.false_and]

theorem lp_implGeneratorsOf (m : Nat) (hm : m ≤ 6) (b : List Int) (hc : isCtx (m : Int) b = true) (p : Int × Int) (hI : 0 ≤ p.2) (N : Nat) (hN : N = 2 ^ m) (k : AX → S → Option (AV × List Ob)) (d : Nat) : ∀ (n i : Nat) (x : Int) (L : List Nat), N - i = d → i ≤ N → x = i → d + 20 < n → L.length ≤ i →
    lpAt E_implGeneratorsOf (lp E_implGeneratorsOf 0 n) 0 (loopAt Tryd.f26 0) (mkS [2, 5, 7, 23, 24] [.ptr 0 0, .ptr 1 0, .own 2, .int .i64 (N : Int), .int .i64 x] [some (.box 35 [.int .i64 (m : Int), .lst (.int .i64) b]), some (.box 84 [.int .i64 p.1, .int .i64 p.2]), some (.row 3 (.int .i64) (L.map fun n : Nat => (n : Int)))]) k =
      k (.exit 0) (mkS [2, 5, 7, 8, 9, 23, 24] [.ptr 0 0, .ptr 1 0, .own 2, .any, .any, .int .i64 (N : Int), .int .i64 (N : Int)] [some (.box 35 [.int .i64 (m : Int), .lst (.int .i64) b]), some (.box 84 [.int .i64 p.1, .int .i64 p.2]), some (.row 3 (.int .i64) ((L ++ (List.range' i d).filter (leastN (clN (m : Int) b) p.2.toNat)).map fun n : Nat => (n : Int)))]) := by
  have hlen := isCtx_len hc
  have hp : 2 ^ m ≤ 2 ^ 6 := Nat.pow_le_pow_right (by omega) hm
  have hp1 := Nat.two_pow_pos m
  induction d with
  | zero =>
    intro n i x L hd hi hx hn hz
    subst hx
    rw [lpAt_def]
    conv => lhs; whnf
    refine br_f (df (by omega)) ?_
    conv => lhs; whnf
    have : i = N := by omega
    rw [this, List.range'_zero, List.filter_nil, List.append_nil]
  | succ d ih =>
    intro n i x L hd hi hx hn hz
    obtain ⟨n, rfl⟩ : ∃ m, n = m + 1 := ⟨n - 1, by omega⟩
    subst hx
    have e0 := gen_at hc (s := i) (by omega) hI
    have hset : isSet (m : Int) (i : Int) = true := by
      unfold isSet
      refine dt ⟨by omega, by omega, ?_⟩
      have e2 : ((2 ^ m : Nat) : Int) = (2 : Int) ^ m := by push_cast; rfl
      rw [Int.toNat_natCast, ← e2]
      omega
    have hI2 : (bif isCtx (m : Int) b && isSet (m : Int) (i : Int) then intentF (m : Int) b (extF b (i : Int)) else 0) = intentF (m : Int) b (extF b (i : Int)) := by rw [hc, hset]; rfl
    rw [lpAt_def]
    conv => lhs; whnf
    refine br_t (dt (by omega)) ?_
    conv => lhs; whnf
    conv => lhs; arg 1; whnf
    refine bnd_g (by (change b.length ≤ 1048576; omega)) ?_
    conv => lhs; whnf
    repeat ((first | with_reducible apply br_tt | with_reducible apply br_ff | with_reducible apply br_nf | with_reducible apply br_nt | with_reducible refine br_d ?_ (by kernel_rfl)); conv => lhs; whnf)
    rw [hI2]
    refine br_c (fun h => ?_) (fun h => ?_)
    · have h' : (intentF (m : Int) b (extF b (i : Int)) != p.2) = true := h
      have e1 : (clN (m : Int) b i == p.2.toNat) = false := by rw [← e0]; exact bnt h'
      conv => lhs; whnf
      refine Eq.trans (ih n (i + 1) _ _ (by omega) (by omega) (by rw [wrap64 (n := (i : Int) + 1) (by omega) (by omega)]; simp) (by omega) (by omega)) ?_
      rw [List.range'_succ, List.filter_cons, show leastN (clN (m : Int) b) p.2.toNat i = false by unfold leastN; rw [e1, Bool.false_and]]
      rfl
    · have h' : (intentF (m : Int) b (extF b (i : Int)) != p.2) = false := h
      have e1 : (clN (m : Int) b i == p.2.toNat) = true := by rw [← e0]; exact bnf h'
      have hel : (elemsF (i : Int)).length ≤ 8 := elemsL_length _ _ _
      have hlt : ∀ e ∈ elemsF (i : Int), 0 ≤ e ∧ e ≤ 7 := fun e he => by have := elemsF_lt hset he; omega
      have et := tight_int hc (s := i) (by rw [Int.toNat_natCast]; omega) hI
      conv => lhs; whnf
      conv => lhs; arg 1; whnf
      refine bnd_g (by exact True.intro) ?_
      conv => lhs; whnf
      refine (lq_implGeneratorsOf (m : Int) b (by omega) p (i : Int) (N : Int) _ (elemsF (i : Int)) hel hlt _ _ _ 0 0 true rfl (Nat.zero_le _) rfl (by omega)).trans ?_
      rw [Bool.true_and, List.drop_zero, et]
      conv => lhs; whnf
      refine br_c (fun h2 => ?_) (fun h2 => ?_)
      · have h2' : tightB (clN (m : Int) b) p.2.toNat i = true := h2
        conv => lhs; whnf
        refine br_t (dt (by simp [room]; omega)) ?_
        conv => lhs; whnf
        have e2 : (L.map fun n : Nat => (n : Int)) ++ [(i : Int)] = (L ++ [i]).map fun n : Nat => (n : Int) := by rw [List.map_append]; rfl
        rw [e2]
        refine Eq.trans (ih n (i + 1) _ _ (by omega) (by omega) (by rw [wrap64 (n := (i : Int) + 1) (by omega) (by omega)]; simp) (by omega) (by simp; omega)) ?_
        rw [List.range'_succ, List.filter_cons, show leastN (clN (m : Int) b) p.2.toNat i = true by unfold leastN; rw [e1, h2']; rfl]
        simp only [List.append_assoc]
        rfl
      · have h2' : tightB (clN (m : Int) b) p.2.toNat i = false := h2
        conv => lhs; whnf
        refine Eq.trans (ih n (i + 1) _ _ (by omega) (by omega) (by rw [wrap64 (n := (i : Int) + 1) (by omega) (by omega)]; simp) (by omega) (by omega)) ?_
        rw [List.range'_succ, List.filter_cons, show leastN (clN (m : Int) b) p.2.toNat i = false by unfold leastN; rw [e1, h2']; rfl]
        rfl
theorem ev_implGeneratorsOf (m : Int) (b : List Int) (a : Int) (hp : b.length ≤ 1048576) : evF E_implGeneratorsOf (300) Tryd.f26 [.agg [.int .i64 m, .lst (.int .i64) b], .int .i64 a] [] = some (.own 0, [.row 3 (.int .i64) (genF m b a)]) := by
  have hl := concF_len m b
  conv => lhs; whnf
  conv => lhs; arg 1; whnf
  refine bnd_g (by exact hp) ?_
  conv => lhs; whnf
  refine br_c (fun h => ?_) (fun h => ?_)
  · unfold genF
    rw [bnt h]
    conv => lhs; whnf
    rfl
  · have h2 := inC_iff.1 (bnf h)
    obtain ⟨h3, h4, h5, h6, h7⟩ := concF_at (bnf h)
    have hlen := isCtx_len h3
    have h8 := isSet_le h4
    obtain ⟨mm, rfl⟩ : ∃ mm : Nat, m = mm := ⟨m.toNat, by omega⟩
    have hpw : 2 ^ mm ≤ 2 ^ 6 := Nat.pow_le_pow_right (by omega) (by omega)
    unfold genF cofF
    rw [bnf h]
    conv => lhs; whnf
    refine br_f (df (by omega)) ?_
    conv => lhs; whnf
    rw [shl1 (by omega)]
    refine (lp_implGeneratorsOf mm (by omega) b h3 (elC (concF mm b) a) (by omega) (2 ^ mm) rfl _ (2 ^ mm) _ 0 0 [] rfl (Nat.zero_le _) rfl (by change _ < 299; omega) (Nat.le_refl _)).trans ?_
    conv => lhs; whnf
    rw [List.nil_append, List.range_eq_range']
    rfl
theorem ok_implGeneratorsOf : FnOk Tryd.prog 26 K_implGeneratorsOf := by
  refine fn_ok (fn := Tryd.f26) (k := Tryd.f26.ntmps) (E := E_implGeneratorsOf) (facts_of (List.forall_mem_cons.2 ⟨ok_conceptOf, List.forall_mem_cons.2 ⟨ok_implClosureOf, List.forall_mem_cons.2 ⟨ok_elementsOf, List.forall_mem_nil _⟩⟩⟩)) (by kernel_rfl) rfl (by decide +kernel) (by decide +kernel) ?_
  intro avs hin r h
  unfold K_implGeneratorsOf at h
  split at h
  · obtain ⟨hp, rfl⟩ := gd_o h
    exact ⟨_, ev_implGeneratorsOf _ _ _ hp, rfl⟩
  · cases h

/- laws.FnExactGeneratorsOf -/
def K_lawGeneratorsOf : List AV → List Ob → Option (AV × List Ob)
  | [.agg [.int .i64 m, .lst (.int .i64) a], .int .i64 s], [] => gd (a.length ≤ maxLen) (.bool true, [])
  | _, _ => none
@[reducible] def E_lawGeneratorsOf : Env := mkE (tb [(23, K_szContext), (25, K_toContext), (24, K_specGeneratorsOf), (26, K_implGeneratorsOf), (27, K_eqIntS), (28, K_eqContext), (31, K_heldIntS), (29, K_markContext), (30, K_markIntS)]) (fun f => [29, 30].contains f) (fun r => ([], []))
theorem ev_lawGeneratorsOf (m : Int) (a : List Int) (s : Int) (hp : a.length ≤ maxLen) : evF E_lawGeneratorsOf (1) Tryd.f4 [.agg [.int .i64 m, .lst (.int .i64) a], .int .i64 s] [] = some (.bool true, []) := by
  conv => lhs; whnf
  conv => lhs; arg 1; whnf
  refine bnd_g (by exact ⟨by omega, by omega, hp⟩) ?_
  conv => lhs; whnf
  refine br_c (fun h1 => ?_) (fun h1 => ?_)
  · conv => lhs; whnf
  · conv => lhs; whnf
    obtain ⟨e1, l1⟩ := szI_ok (ofn h1)
    have hb := genF_len m a s
    conv => lhs; arg 1; whnf
    refine bnd_g (by omega) ?_
    conv => lhs; whnf
    conv => lhs; arg 1; whnf
    refine bnd_g (by omega) ?_
    conv => lhs; whnf
    conv => lhs; arg 1; whnf
    refine bnd_g (by omega) ?_
    conv => lhs; whnf
    conv => lhs; arg 1; whnf
    refine bnd_g (by omega) ?_
    conv => lhs; whnf
    conv => lhs; arg 1; whnf
    refine bnd_g (by exact ⟨by omega, by omega⟩) ?_
    conv => lhs; whnf
    repeat ((first | with_reducible apply br_tt | with_reducible apply br_ff | with_reducible apply br_nf | with_reducible apply br_nt | with_reducible refine br_d ?_ (by kernel_rfl) | with_reducible refine br_f (by simp; done) ?_); conv => lhs; whnf)
    conv => lhs; arg 1; whnf
    refine bnd_g (by omega) ?_
    conv => lhs; whnf
    conv => lhs; arg 1; whnf
    refine bnd_g (by exact ⟨by omega, by omega⟩) ?_
    conv => lhs; whnf
    repeat ((first | with_reducible apply br_tt | with_reducible apply br_ff | with_reducible apply br_nf | with_reducible apply br_nt | with_reducible refine br_d ?_ (by kernel_rfl) | with_reducible refine br_f (by simp; done) ?_); conv => lhs; whnf)
    conv => lhs; arg 1; whnf
    refine bnd_g (by exact ⟨by omega, by omega, by omega⟩) ?_
    conv => lhs; whnf
    have hk : decide ((1 : Int) + (a.length : Int) < 0) = false := df (by omega)
    repeat ((first | with_reducible apply br_tt | with_reducible apply br_ff | with_reducible apply br_nf | with_reducible apply br_nt | with_reducible refine br_d ?_ (by kernel_rfl) | with_reducible apply br_t hk | with_reducible apply br_f hk); conv => lhs; whnf)
    conv => lhs; arg 1; whnf
    refine bnd_g (by exact ⟨by omega, by omega⟩) ?_
    conv => lhs; whnf
    repeat ((first | with_reducible apply br_tt | with_reducible apply br_ff | with_reducible apply br_nf | with_reducible apply br_nt | with_reducible refine br_d ?_ (by kernel_rfl) | with_reducible apply br_t hk | with_reducible apply br_f hk | with_reducible refine br_f (by simp; done) ?_); conv => lhs; whnf)
    conv => lhs; arg 1; whnf
    refine bnd_g (by exact ⟨by omega, by omega, by omega⟩) ?_
    conv => lhs; whnf
    conv => lhs; arg 1; whnf
    refine bnd_g (by exact ⟨by simp; omega, by omega, by omega⟩) ?_
    conv => lhs; whnf
    refine br_f (by (apply decide_eq_false; rw [held_iota]; omega)) ?_
    conv => lhs; whnf
    refine br_f (by (rw [held_iota]; simp)) ?_
    conv => lhs; whnf
    conv => lhs; arg 1; whnf
    refine bnd_g (by omega) ?_
    conv => lhs; whnf
    conv => lhs; arg 1; whnf
    refine bnd_g (by omega) ?_
    conv => lhs; whnf
    conv => lhs; arg 1; whnf
    refine bnd_g (by exact ⟨by omega, by omega⟩) ?_
    conv => lhs; whnf
    repeat ((first | with_reducible apply br_tt | with_reducible apply br_ff | with_reducible apply br_nf | with_reducible apply br_nt | with_reducible refine br_d ?_ (by kernel_rfl) | with_reducible refine br_f (by simp; done) ?_); conv => lhs; whnf)
    conv => lhs; arg 1; whnf
    refine bnd_g (by exact ⟨by simp; omega, by omega, by omega⟩) ?_
    conv => lhs; whnf
    refine br_f (by (apply decide_eq_false; rw [held_iota]; omega)) ?_
    conv => lhs; whnf
    refine br_f (by (rw [held_iota]; simp)) ?_
    conv => lhs; whnf
theorem ok_lawGeneratorsOf : FnOk Tryd.prog 4 K_lawGeneratorsOf := by
  refine fn_ok (fn := Tryd.f4) (k := Tryd.f4.ntmps) (E := E_lawGeneratorsOf) (facts_of (List.forall_mem_cons.2 ⟨ok_szContext, List.forall_mem_cons.2 ⟨ok_toContext, List.forall_mem_cons.2 ⟨ok_specGeneratorsOf, List.forall_mem_cons.2 ⟨ok_implGeneratorsOf, List.forall_mem_cons.2 ⟨ok_eqIntS, List.forall_mem_cons.2 ⟨ok_eqContext, List.forall_mem_cons.2 ⟨ok_heldIntS, List.forall_mem_cons.2 ⟨ok_markContext, List.forall_mem_cons.2 ⟨ok_markIntS, List.forall_mem_nil _⟩⟩⟩⟩⟩⟩⟩⟩⟩)) (by kernel_rfl) rfl (by decide +kernel) (by decide +kernel) ?_
  intro avs hin r h
  unfold K_lawGeneratorsOf at h
  split at h
  · obtain ⟨hp, rfl⟩ := gd_o h
    exact ⟨_, ev_lawGeneratorsOf _ _ _ hp, rfl⟩
  · cases h

end Go.Sym
