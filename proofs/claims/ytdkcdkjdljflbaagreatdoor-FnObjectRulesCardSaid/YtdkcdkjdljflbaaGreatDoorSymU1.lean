/- Functions of the program, each told as a plain equation. -/
import Derived.Test.YtdkcdkjdljflbaaGreatDoorSymW5
namespace Go.Sym
open Go.Proofs
set_option linter.unusedVariables false
set_option linter.unusedSimpArgs false
set_option maxRecDepth 100000
set_option maxHeartbeats 4000000

def inlF (m : Int) (a : List Int) : List Int := (concF m a).map (·.2)
def missF (a b : List Int) : List Int := a.filter (fun v => !b.any (fun y => y == v))
def onlyF (m : Int) (a : List Int) (m' : Int) (b : List Int) : List Int := (inlF m a).filter (fun v => !((isCtx m' b && isSet m' v) && closedI m' b v))
theorem inlF_len (m : Int) (a : List Int) : (inlF m a).length ≤ 64 := by
  unfold inlF
  rw [List.length_map]
  exact concF_len m a
theorem missF_len (a b : List Int) : (missF a b).length ≤ a.length := List.length_filter_le _ _
theorem lecI_of_set {m v : Int} (hm : 0 ≤ m ∧ m ≤ 6) (h : isSet m v = true) : v ∈ lecI m.toNat := by
  obtain ⟨s, rfl, hs⟩ := isSet_ex h
  unfold lecI
  exact List.mem_map.2 ⟨s, (lecL_mem (by omega)).2 hs, rfl⟩
theorem inlF_any (m : Int) (b : List Int) (v : Int) : (inlF m b).any (fun y => y == v) = ((isCtx m b && isSet m v) && closedI m b v) := by
  unfold inlF concF
  cases hc : isCtx m b with
  | false => rfl
  | true =>
    have hl := isCtx_len hc
    rw [cond_true, Bool.true_and, Bool.eq_iff_iff, List.any_eq_true, Bool.and_eq_true]
    constructor
    · rintro ⟨y, hy, hv⟩
      obtain ⟨p, hp, rfl⟩ := List.mem_map.1 hy
      obtain ⟨x, hx, rfl⟩ := List.mem_map.1 hp
      have hx := List.mem_filter.1 hx
      have e : x = v := eq_of_beq hv
      subst e
      exact ⟨(lecI_isSet ⟨by omega, by omega⟩ hx.1).1, hx.2⟩
    · rintro ⟨h1, h2⟩
      refine ⟨v, List.mem_map.2 ⟨pairI b v, List.mem_map.2 ⟨v, List.mem_filter.2 ⟨lecI_of_set ⟨by omega, by omega⟩ h1, h2⟩, rfl⟩, rfl⟩, ?_⟩
      exact beq_self_eq_true v
theorem miss_only (m : Int) (a : List Int) (m' : Int) (b : List Int) : onlyF m a m' b = missF (inlF m a) (inlF m' b) := by
  unfold onlyF missF
  refine List.filter_congr fun v _ => ?_
  rw [inlF_any]
def newF (m : Int) (a : List Int) (r : Int) : List Int := bif (insF m a r).2.2 then missF (inlF (insF m a r).1 (insF m a r).2.1) (inlF m a) else []
theorem newF_len (m : Int) (a : List Int) (r : Int) : (newF m a r).length ≤ 64 := by
  unfold newF
  cases (insF m a r).2.2
  · simp
  · have h1 := missF_len (inlF (insF m a r).1 (insF m a r).2.1) (inlF m a)
    have h2 := inlF_len (insF m a r).1 (insF m a r).2.1
    rw [cond_true]
    omega
def notObj (m : Int) (b : List Int) (g : Int) : Bool := !(isCtx m b && decide (0 ≤ g ∧ g ≤ (b.length : Int) - 1))
def andRows (b : List Int) : List Int → Int → Int
  | [], acc => acc
  | g :: r, acc => andRows b r (band acc (b.getD g.toNat 0))
def sharedF (m : Int) (b : List Int) (l : List Int) : Int :=
  if isCtx m b && !l.any (notObj m b) then cntF (andRows b l (fullSet m)) else -1
def dropL (s : Int) : List Int → Nat → List Int
  | [], _ => []
  | x :: l, i => bif hasE s (i : Int) then dropL s l (i + 1) else x :: dropL s l (i + 1)
theorem dropL_len (s : Int) : ∀ (l : List Int) (i : Nat), (dropL s l i).length ≤ l.length
  | [], _ => Nat.le_refl 0
  | x :: l, i => by
    have := dropL_len s l (i + 1)
    unfold dropL
    cases hasE s (i : Int) <;> simp <;> omega
def lostF (m : Int) (b : List Int) (g : Int) : List Int := bif notObj m b g then [] else missF (inlF m b) (inlF m (dropL ((2 ^ g.toNat : Nat) : Int) b 0))
theorem lostF_len (m : Int) (b : List Int) (g : Int) : (lostF m b g).length ≤ 64 := by
  unfold lostF
  cases notObj m b g
  · have h1 := missF_len (inlF m b) (inlF m (dropL ((2 ^ g.toNat : Nat) : Int) b 0))
    have h2 := inlF_len m b
    rw [cond_false]
    omega
  · simp
theorem isSet_one {n g : Nat} (hn : n ≤ 8) (hg : g < n) : isSet n ((2 ^ g : Nat) : Int) = true := by
  have h1 : 2 ^ g < 2 ^ n := Nat.pow_lt_pow_right (by omega) hg
  unfold isSet
  have e2 : ((2 ^ n : Nat) : Int) = (2 : Int) ^ n := by push_cast; rfl
  have h0 : (0 : Int) ≤ ((2 ^ g : Nat) : Int) := Int.natCast_nonneg _
  refine dt ⟨⟨by omega, by omega⟩, h0, ?_⟩
  rw [Int.toNat_natCast, ← e2]
  omega
theorem clN_snoc {m r : Int} {a : List Int} (ha : isCtx m a = true) (hx : isCtx m (a ++ [r]) = true) {s : Nat} (hs : s < 256) (e : Nat) : (clN m (a ++ [r]) s).testBit e = true ↔ (clN m a s).testBit e = true ∧ (SubN s r.toNat → r.toNat.testBit e = true) := by
  rw [clN_bit hx hs, clN_bit ha hs, List.length_append, List.length_singleton]
  have g1 : ∀ k, k < a.length → (a ++ [r]).getD k 0 = a.getD k 0 := fun k hk => by
    rw [List.getD_eq_getElem?_getD, List.getD_eq_getElem?_getD, List.getElem?_append_left hk]
  have g2 : (a ++ [r]).getD a.length 0 = r := by simp [List.getD_eq_getElem?_getD]
  constructor
  · rintro ⟨q1, q2⟩
    refine ⟨⟨q1, fun k hk hsub => ?_⟩, fun hsub => ?_⟩
    · have := q2 k (by omega)
      rw [g1 k hk] at this
      exact this hsub
    · have := q2 a.length (by omega)
      rw [g2] at this
      exact this hsub
  · rintro ⟨⟨q1, q2⟩, q3⟩
    refine ⟨q1, fun k hk hsub => ?_⟩
    rcases Nat.lt_or_ge k a.length with h | h
    · rw [g1 k h] at hsub ⊢
      exact q2 k h hsub
    · have : k = a.length := by omega
      subst this
      rw [g2] at hsub ⊢
      exact q3 hsub
theorem insF_true {m r : Int} {a : List Int} (h : (insF m a r).2.2 = true) : insF m a r = (m, a ++ [r], true) ∧ isCtx m a = true ∧ isSet m r = true := by
  unfold insF at h ⊢
  cases hc : (isCtx m a && isSet m r && decide (a.length < 8))
  · rw [hc] at h; cases h
  · rw [Bool.and_eq_true, Bool.and_eq_true] at hc
    exact ⟨rfl, hc.1.1, hc.1.2⟩
theorem lt256 {m : Int} {a : List Int} (h : isCtx m a = true) {s : Nat} (hs : s < 2 ^ m.toNat) : s < 64 := by
  have hl := isCtx_len h
  have h6 : 2 ^ m.toNat ≤ 2 ^ 6 := Nat.pow_le_pow_right (by omega) (by omega)
  omega
theorem cl_in {m : Int} {a : List Int} (h : isCtx m a = true) {s : Nat} (hs : s < 2 ^ m.toNat) : ((clN m a s : Nat) : Int) ∈ inlF m a := by
  have hc := cl_clo h
  have hlt := hc.lt s hs
  have h64 := lt256 h hlt
  have : (inlF m a).any (fun y => y == ((clN m a s : Nat) : Int)) = true := by
    rw [inlF_any, h, set_of_lt h hlt, closed_is h (by omega)]
    unfold isCl
    rw [hc.idem s hs]
    simp
  obtain ⟨y, hy, he⟩ := List.any_eq_true.1 this
  rw [← eq_of_beq he]
  exact hy
theorem newF_old {m r v : Int} {a : List Int} (h : v ∈ newF m a r) : (inlF m a).any (fun o => band o r == v) = true ∧ (inlF m a).any (fun y => y == v) = false := by
  unfold newF at h
  cases hk : (insF m a r).2.2
  · rw [hk] at h; cases h
  · rw [hk, cond_true] at h
    have hx := insF_ctx hk
    obtain ⟨hf, ha, hr⟩ := insF_true hk
    rw [hf] at h hx
    obtain ⟨h1, h2⟩ := List.mem_filter.1 h
    have hn : (inlF m a).any (fun y => y == v) = false := by rw [← Bool.not_eq_true']; exact h2
    refine ⟨?_, hn⟩
    have h3 : (inlF m (a ++ [r])).any (fun y => y == v) = true := List.any_eq_true.2 ⟨v, h1, beq_self_eq_true v⟩
    rw [inlF_any, hx, Bool.true_and, Bool.and_eq_true] at h3
    rw [inlF_any, ha, Bool.true_and, h3.1, Bool.true_and] at hn
    obtain ⟨h4, h5⟩ := h3
    obtain ⟨s, rfl, hs⟩ := isSet_ex h4
    have h64 := lt256 ha hs
    have h256 : s < 256 := by omega
    rw [closed_is ha h256] at hn
    rw [closed_is hx h256] at h5
    have c1 : clN m (a ++ [r]) s = s := eq_of_beq h5
    have c2 : clN m a s ≠ s := beq_eq_false_iff_ne.1 hn
    obtain ⟨t, rfl, ht⟩ := isSet_ex hr
    have ht64 := lt256 ha ht
    have hsub : SubN s t := by
      apply Classical.byContradiction
      intro hc
      apply c2
      refine Eq.trans ?_ c1
      apply Nat.eq_of_testBit_eq
      intro e
      rw [Bool.eq_iff_iff, clN_snoc ha hx h256, Int.toNat_natCast]
      exact ⟨fun q => ⟨q, fun q' => absurd q' hc⟩, fun q => q.1⟩
    have e1 : clN m a s &&& t = s := by
      refine Eq.trans ?_ c1
      apply Nat.eq_of_testBit_eq
      intro e
      rw [Nat.testBit_and, Bool.eq_iff_iff, Bool.and_eq_true, clN_snoc ha hx h256, Int.toNat_natCast]
      exact ⟨fun q => ⟨q.1, fun _ => q.2⟩, fun q => ⟨q.1, q.2 hsub⟩⟩
    refine List.any_eq_true.2 ⟨((clN m a s : Nat) : Int), cl_in ha hs, ?_⟩
    have hlt := lt256 ha ((cl_clo ha).lt s hs)
    rw [band_nat (by omega) (by omega), e1]
    exact beq_self_eq_true _
def holdS (m : Int) (b : List Int) (p q : Int) : Bool := (isCtx m b && (isSet m p && isSet m q)) && (band q (intentF m b (extF b p)) == q)
theorem sub_nat {x s : Nat} (hx : x < 256) (hs : s < 256) : (band (s : Int) (x : Int) == (s : Int)) = true ↔ SubN s x := by
  rw [band_comm, sub_band hx hs]
theorem bnot_nat {x s : Nat} (hx : x < 256) (hs : s < 256) : (bnot (s : Int) (x : Int) == 0) = true ↔ SubN s x := by
  rw [← beq_bnot (by rw [isSet8]; exact dt (by omega)), sub_nat hx hs]
theorem resp_snoc {m r : Int} {a : List Int} (hk : (insF m a r).2.2 = true) {s : Int} (hs : s ∈ stemI m a) : respOf s (intentF m a (extF a s)) r = holdS m (a ++ [r]) s (intentF m a (extF a s)) := by
  have hx := insF_ctx hk
  obtain ⟨hf, ha, hr⟩ := insF_true hk
  rw [hf] at hx
  have hl := isCtx_len ha
  obtain ⟨g1, g2⟩ := stemI_mem (by omega) hs
  obtain ⟨s, rfl⟩ : ∃ k : Nat, s = k := ⟨s.toNat, by omega⟩
  rw [Int.toNat_natCast] at g2
  have h64 := lt256 ha g2
  obtain ⟨t, rfl, ht⟩ := isSet_ex hr
  have ht64 := lt256 ha ht
  have hlt := (cl_clo ha).lt s g2
  have hl64 := lt256 ha hlt
  have hxt := (cl_clo hx).lt s g2
  dsimp only at hxt
  have hx64 := lt256 ha hxt
  rw [clN_int ha (by omega)]
  unfold respOf holdS
  rw [clN_int hx (by omega), hx, set_of_lt ha g2, set_of_lt ha hlt, isSet_8 (set_of_lt ha g2), isSet_8 (set_of_lt ha hlt), isSet_8 (set_of_lt ha ht)]
  simp only [Bool.true_and]
  rw [Bool.eq_iff_iff, sub_nat (by omega) (by omega), Bool.or_eq_true, Bool.not_eq_true', bnot_nat (by omega) (by omega), ← Bool.not_eq_true, bnot_nat (by omega) (by omega)]
  constructor
  · intro q i hi
    rw [clN_snoc ha hx (by omega), Int.toNat_natCast]
    refine ⟨hi, fun hsub => ?_⟩
    rcases q with q | q
    · exact absurd hsub q
    · exact q i hi
  · intro q
    rcases Classical.em (SubN s t) with h | h
    · refine Or.inr fun i hi => ?_
      have := q i hi
      rw [clN_snoc ha hx (by omega), Int.toNat_natCast] at this
      exact this.2 h
    · exact Or.inl h
theorem idxs_any {α : Type} (p : α → Bool) (k : Int) : ∀ (l : List α) (i : Int), (idxs p l i).any (fun y => y == k) = l.zipIdx.any (fun x => p x.1 && (i + (x.2 : Int) == k)) := by
  have gen : ∀ (l : List α) (i : Int) (j : Nat), (idxs p l (i + j)).any (fun y => y == k) = (l.zipIdx j).any (fun x => p x.1 && (i + (x.2 : Int) == k)) := by
    intro l
    induction l with
    | nil => intro i j; rfl
    | cons x r ih =>
      intro i j
      have e : i + (j : Int) + 1 = i + ((j + 1 : Nat) : Int) := by omega
      rw [idxs, e, List.zipIdx_cons, List.any_cons, ← ih i (j + 1)]
      cases hp : p x
      · simp [hp]
      · simp [hp]
  intro l i
  have := gen l i 0
  rw [← this]
  simp
theorem idxs_at {α : Type} {p : α → Bool} {l : List α} {k : Nat} (hk : k < l.length) (d : α) : (idxs p l 0).any (fun y => y == (k : Int)) = p (l.getD k d) := by
  rw [idxs_any, Bool.eq_iff_iff, List.any_eq_true]
  constructor
  · rintro ⟨⟨x, j⟩, hm, h⟩
    rw [Bool.and_eq_true, beq_iff_eq] at h
    have hj : j = k := by have := h.2; simp only at this; omega
    subst hj
    have := List.mem_zipIdx_iff_getElem?.1 hm
    rw [List.getD_eq_getElem?_getD]
    simp only at this
    rw [this]
    exact h.1
  · intro h
    refine ⟨(l.getD k d, k), List.mem_zipIdx_iff_getElem?.2 ?_, ?_⟩
    · rw [List.getD_eq_getElem?_getD]
      simp only
      rw [List.getElem?_eq_getElem hk]
      rfl
    · rw [Bool.and_eq_true, beq_iff_eq]
      exact ⟨h, by simp⟩
theorem stem_broken {m r : Int} {a : List Int} (hk : (insF m a r).2.2 = true) {k : Nat} (h : k < (stemR m a).length) :
    (brk (stemR m a) r).any (fun y => y == (k : Int)) = !holdS m (a ++ [r]) ((stemR m a).getD k (0, 0)).1 ((stemR m a).getD k (0, 0)).2 := by
  unfold brk
  rw [idxs_at h (0, 0)]
  have hm : (stemR m a).getD k (0, 0) ∈ stemR m a := mem_getD h
  unfold stemR at hm
  obtain ⟨s, hs, he⟩ := List.mem_map.1 hm
  have he' : (stemR m a).getD k (0, 0) = (s, intentF m a (extF a s)) := he.symm
  rw [he', resp_snoc hk hs]
theorem hasE_pow {g k : Nat} (hg : g < 8) (hk : k < 8) : hasE ((2 ^ g : Nat) : Int) (k : Int) = (k == g) := by
  have : ∀ g k : Fin 8, hasE ((2 ^ g.val : Nat) : Int) (k.val : Int) = (k.val == g.val) := by decide +kernel
  exact this ⟨g, hg⟩ ⟨k, hk⟩
theorem dropL_last {g : Nat} (hg : g < 8) (r : Int) : ∀ (l : List Int) (i : Nat), i + l.length = g → dropL ((2 ^ g : Nat) : Int) (l ++ [r]) i = l
  | [], i, h => by
    have e : i = g := by simpa using h
    rw [List.nil_append, dropL, hasE_pow hg (by omega), e]
    simp [dropL]
  | x :: l, i, h => by
    rw [List.length_cons] at h
    rw [List.cons_append, dropL, hasE_pow hg (by omega), dropL_last hg r l (i + 1) (by omega)]
    have : (i == g) = false := beq_eq_false_iff_ne.2 (by omega)
    rw [this]
    rfl
theorem lost_new {m r : Int} {a : List Int} (hk : (insF m a r).2.2 = true) : lostF m (a ++ [r]) (a.length : Int) = newF m a r := by
  have hx := insF_ctx hk
  obtain ⟨hf, ha, hr⟩ := insF_true hk
  unfold newF
  rw [hf] at hx ⊢
  have hl := isCtx_len hx
  rw [List.length_append, List.length_singleton] at hl
  have hn : notObj m (a ++ [r]) (a.length : Int) = false := by
    unfold notObj
    simp only at hx
    rw [hx, List.length_append, List.length_singleton, dt (by omega)]
    rfl
  unfold lostF
  rw [hn, Int.toNat_natCast, dropL_last (by omega) r a 0 (by omega)]
  rfl
/- laws.big -/
def K_bigL : List AV → List Ob → Option (AV × List Ob)
  | [.lst (.int .u8) b], [] => gd (True) (.bool (decide ((b.length : Int) > 1048576)), [])
  | _, _ => none
@[reducible] def E_bigL : Env := mkE (tb []) (fun f => false) (fun r => ([], []))
theorem ev_bigL (b : List Int) (hp : True) : evF E_bigL (1) Tryz.f6 [.lst (.int .u8) b] [] = some (.bool (decide ((b.length : Int) > 1048576)), []) := by
  conv => lhs; whnf
theorem ok_bigL : FnOk Tryz.prog 6 K_bigL := by
  refine fn_ok (fn := Tryz.f6) (k := Tryz.f6.ntmps) (E := E_bigL) (facts_of (List.forall_mem_nil _)) (by kernel_rfl) rfl (by decide +kernel) (by decide +kernel) ?_
  intro avs hin r h
  unfold K_bigL at h
  split at h
  · obtain ⟨hp, rfl⟩ := gd_o h
    exact ⟨_, ev_bigL _ hp, rfl⟩
  · cases h

/- laws.sameInts -/
def K_sameInts : List AV → List Ob → Option (AV × List Ob)
  | [.lst (.int .i64) a, .lst (.int .i64) b], [] => gd (a.length < 4611686018427387904 ∧ b.length < 4611686018427387904) (.bool (decide (a = b)), [])
  | _, _ => none
@[reducible] def E_sameInts : Env := mkE (tb []) (fun f => false) (fun r => bif r == 4 then ([0, 1, 5], [4]) else ([], []))
theorem lp_sameInts (a b : List Int) (hl : a.length = b.length) (ha : a.length < 4611686018427387904) (k : AX → S → Option (AV × List Ob)) (d : Nat) : ∀ (n i : Nat) (x : Int), a.length - i = d → i ≤ a.length → x = i → d < n →
    lpAt E_sameInts (lp E_sameInts 0 n) 0 (loopAt Tryz.f17 0) (mkS [0, 1, 5] [.lst (.int .i64) a, .lst (.int .i64) b, .int .i64 x] []) k =
      if a.drop i = b.drop i then k (.exit 0) (mkS [4] [.any] []) else k .ret (mkS [4] [.bool false] []) := by
  induction d with
  | zero =>
    intro n i x hd hi hx hn
    subst hx
    rw [lpAt_def]
    conv => lhs; whnf
    refine br_f (df (by omega)) ?_
    conv => lhs; whnf
    rw [if_pos (by rw [List.drop_of_length_le (by omega), List.drop_of_length_le (by omega)])]
  | succ d ih =>
    intro n i x hd hi hx hn
    obtain ⟨n, rfl⟩ : ∃ m, n = m + 1 := ⟨n - 1, by omega⟩
    subst hx
    rw [lpAt_def]
    conv => lhs; whnf
    refine br_t (dt (by omega)) ?_
    conv => lhs; whnf
    refine br_t (dt2 (by omega) (by omega)) ?_
    conv => lhs; whnf
    refine br_t (dt2 (by omega) (by omega)) ?_
    conv => lhs; whnf
    rw [getD_drop (l := a) (i := i) (d := 0) (by omega), getD_drop (l := b) (i := i) (d := 0) (by omega)]
    refine br_t (by kernel_rfl) ?_
    conv => lhs; whnf
    refine br_c (fun h => ?_) (fun h => ?_)
    · conv => lhs; whnf
      rw [if_neg]
      intro he
      have := (List.cons.inj he).1
      simp at h
      exact h this
    · conv => lhs; whnf
      rw [ih n (i + 1) _ (by omega) (by omega) (by rw [wrap64 (by omega) (by omega)]; simp) (by omega)]
      simp at h
      rw [List.getD_eq_getElem?_getD, List.getD_eq_getElem?_getD, h]
      simp
theorem ev_sameInts (a b : List Int) (hp : a.length < 4611686018427387904 ∧ b.length < 4611686018427387904) : evF E_sameInts (a.length + 2) Tryz.f17 [.lst (.int .i64) a, .lst (.int .i64) b] [] = some (.bool (decide (a = b)), []) := by
  conv => lhs; whnf
  refine br_c (fun h => ?_) (fun h => ?_)
  · conv => lhs; whnf
    have : a ≠ b := by
      rintro rfl
      simp at h
    simp [this]
  · conv => lhs; whnf
    have hl : a.length = b.length := by simp at h; omega
    refine (lp_sameInts a b hl hp.1 _ _ _ 0 0 rfl (by omega) rfl (by omega)).trans ?_
    simp only [List.drop_zero]
    split
    · rename_i he
      conv => lhs; whnf
      simp [he]
    · rename_i he
      conv => lhs; whnf
      simp [he]
theorem ok_sameInts : FnOk Tryz.prog 17 K_sameInts := by
  refine fn_ok (fn := Tryz.f17) (k := Tryz.f17.ntmps) (E := E_sameInts) (facts_of (List.forall_mem_nil _)) (by kernel_rfl) rfl (by decide +kernel) (by decide +kernel) ?_
  intro avs hin r h
  unfold K_sameInts at h
  split at h
  · obtain ⟨hp, rfl⟩ := gd_o h
    exact ⟨_, ev_sameInts _ _ hp, rfl⟩
  · cases h

/- laws.sameRules -/
def K_sameRules : List AV → List Ob → Option (AV × List Ob)
  | [.lst (.pair (.int .i64) (.int .i64)) a, .lst (.pair (.int .i64) (.int .i64)) b], [] => gd (a.length < 4611686018427387904 ∧ b.length < 4611686018427387904) (.bool (decide (a = b)), [])
  | _, _ => none
@[reducible] def E_sameRules : Env := mkE (tb []) (fun f => false) (fun r => bif r == 4 then ([0, 1, 5], [4]) else ([], []))
theorem lp_sameRules (a b : List (Int × Int)) (hl : a.length = b.length) (ha : a.length < 4611686018427387904) (k : AX → S → Option (AV × List Ob)) (d : Nat) : ∀ (n i : Nat) (x : Int), a.length - i = d → i ≤ a.length → x = i → d < n →
    lpAt E_sameRules (lp E_sameRules 0 n) 0 (loopAt Tryz.f22 0) (mkS [0, 1, 5] [.lst (.pair (.int .i64) (.int .i64)) a, .lst (.pair (.int .i64) (.int .i64)) b, .int .i64 x] []) k =
      if a.drop i = b.drop i then k (.exit 0) (mkS [4] [.any] []) else k .ret (mkS [4] [.bool false] []) := by
  induction d with
  | zero =>
    intro n i x hd hi hx hn
    subst hx
    rw [lpAt_def]
    conv => lhs; whnf
    refine br_f (df (by omega)) ?_
    conv => lhs; whnf
    rw [if_pos (by rw [List.drop_of_length_le (by omega), List.drop_of_length_le (by omega)])]
  | succ d ih =>
    intro n i x hd hi hx hn
    obtain ⟨n, rfl⟩ : ∃ m, n = m + 1 := ⟨n - 1, by omega⟩
    subst hx
    rw [lpAt_def]
    conv => lhs; whnf
    refine br_t (dt (by omega)) ?_
    conv => lhs; whnf
    refine br_t (dt2 (by omega) (by omega)) ?_
    conv => lhs; whnf
    refine br_t (dt2 (by omega) (by omega)) ?_
    conv => lhs; whnf
    rw [getD_drop (l := a) (i := i) (d := (0, 0)) (by omega), getD_drop (l := b) (i := i) (d := (0, 0)) (by omega)]
    refine br_t (by kernel_rfl) ?_
    conv => lhs; whnf
    refine br_c (fun g => ?_) (fun g => ?_)
    · have g : (!((a.getD i (0, 0)).1 == (b.getD i (0, 0)).1 && (a.getD i (0, 0)).2 == (b.getD i (0, 0)).2)) = true := g
      conv => lhs; whnf
      rw [if_neg]
      intro he
      have := (List.cons.inj he).1
      rw [this] at g
      simp at g
    · have g : (!((a.getD i (0, 0)).1 == (b.getD i (0, 0)).1 && (a.getD i (0, 0)).2 == (b.getD i (0, 0)).2)) = false := g
      conv => lhs; whnf
      rw [ih n (i + 1) _ (by omega) (by omega) (by rw [wrap64 (by omega) (by omega)]; simp) (by omega)]
      have e : a.getD i (0, 0) = b.getD i (0, 0) := by
        simp only [Bool.not_eq_false', Bool.and_eq_true, beq_iff_eq] at g
        exact Prod.ext g.1 g.2
      rw [e]
      simp
theorem ev_sameRules (a b : List (Int × Int)) (hp : a.length < 4611686018427387904 ∧ b.length < 4611686018427387904) : evF E_sameRules (a.length + 2) Tryz.f22 [.lst (.pair (.int .i64) (.int .i64)) a, .lst (.pair (.int .i64) (.int .i64)) b] [] = some (.bool (decide (a = b)), []) := by
  conv => lhs; whnf
  refine br_c (fun h => ?_) (fun h => ?_)
  · conv => lhs; whnf
    have : a ≠ b := by
      rintro rfl
      simp at h
    simp [this]
  · conv => lhs; whnf
    have hl : a.length = b.length := by simp at h; omega
    refine (lp_sameRules a b hl hp.1 _ _ _ 0 0 rfl (by omega) rfl (by omega)).trans ?_
    simp only [List.drop_zero]
    split
    · rename_i he
      conv => lhs; whnf
      simp [he]
    · rename_i he
      conv => lhs; whnf
      simp [he]
theorem ok_sameRules : FnOk Tryz.prog 22 K_sameRules := by
  refine fn_ok (fn := Tryz.f22) (k := Tryz.f22.ntmps) (E := E_sameRules) (facts_of (List.forall_mem_nil _)) (by kernel_rfl) rfl (by decide +kernel) (by decide +kernel) ?_
  intro avs hin r h
  unfold K_sameRules at h
  split at h
  · obtain ⟨hp, rfl⟩ := gd_o h
    exact ⟨_, ev_sameRules _ _ hp, rfl⟩
  · cases h

/- laws.intents -/
def K_intentsL : List AV → List Ob → Option (AV × List Ob)
  | [.lst (.pair (.int .i64) (.int .i64)) l], [] => gd (l.length ≤ 64) (.own 0, [.row 3 (.int .i64) (l.map (·.2))])
  | _, _ => none
@[reducible] def E_intentsL : Env := mkE (tb []) (fun f => false) (fun r => bif r == 3 then ([0, 3, 4], [3]) else ([], []))
theorem lp_intentsL (l : List (Int × Int)) (hl : l.length ≤ 64) (k : AX → S → Option (AV × List Ob)) (d : Nat) : ∀ (n i : Nat) (x : Int) (ys : List Int), l.length - i = d → i ≤ l.length → x = i → d < n → ys.length ≤ i →
    lpAt E_intentsL (lp E_intentsL 0 n) 0 (loopAt Tryz.f23 0) (mkS [0, 3, 4] [.lst (.pair (.int .i64) (.int .i64)) l, .own 0, .int .i64 x] [some (.row 3 (.int .i64) ys)]) k =
      k (.exit 0) (mkS [3] [.own 0] [some (.row 3 (.int .i64) (ys ++ (l.drop i).map (·.2)))]) := by
  induction d with
  | zero =>
    intro n i x ys hd hi hx hn hz
    subst hx
    rw [lpAt_def]
    conv => lhs; whnf
    refine br_f (df (by omega)) ?_
    conv => lhs; whnf
    rw [List.drop_of_length_le (by omega)]
    simp
  | succ d ih =>
    intro n i x ys hd hi hx hn hz
    obtain ⟨n, rfl⟩ : ∃ m, n = m + 1 := ⟨n - 1, by omega⟩
    subst hx
    rw [lpAt_def]
    conv => lhs; whnf
    refine br_t (dt (by omega)) ?_
    conv => lhs; whnf
    refine br_t (dt2 (by omega) (by omega)) ?_
    conv => lhs; whnf
    refine br_t (dt (by simp [room]; omega)) ?_
    conv => lhs; whnf
    rw [ih n (i + 1) _ _ (by omega) (by omega) (by rw [wrap64 (n := (i : Int) + 1) (by omega) (by omega)]; simp) (by omega) (by simp; omega)]
    rw [getD_drop (l := l) (i := i) (d := (0, 0)) (by omega), List.map_cons]
    simp only [List.append_assoc]
    rfl
theorem ev_intentsL (l : List (Int × Int)) (hp : l.length ≤ 64) : evF E_intentsL (100) Tryz.f23 [.lst (.pair (.int .i64) (.int .i64)) l] [] = some (.own 0, [.row 3 (.int .i64) (l.map (·.2))]) := by
  conv => lhs; whnf
  refine (lp_intentsL l hp _ l.length _ 0 0 [] rfl (by omega) rfl (by change _ < 99; omega) (by simp)).trans ?_
  conv => lhs; whnf
  rfl
theorem ok_intentsL : FnOk Tryz.prog 23 K_intentsL := by
  refine fn_ok (fn := Tryz.f23) (k := Tryz.f23.ntmps) (E := E_intentsL) (facts_of (List.forall_mem_nil _)) (by kernel_rfl) rfl (by decide +kernel) (by decide +kernel) ?_
  intro avs hin r h
  unfold K_intentsL at h
  split at h
  · obtain ⟨hp, rfl⟩ := gd_o h
    exact ⟨_, ev_intentsL _ hp, rfl⟩
  · cases h

/- laws.hasInt -/
def K_hasIntL : List AV → List Ob → Option (AV × List Ob)
  | [.lst (.int .i64) a, .int .i64 v], [] => gd (a.length < 4611686018427387904) (.bool (a.any (fun y => y == v)), [])
  | _, _ => none
@[reducible] def E_hasIntL : Env := mkE (tb []) (fun f => false) (fun r => bif r == 2 then ([0, 1, 5], [4]) else ([], []))
theorem lp_hasIntL (a : List Int) (v : Int) (ha : a.length < 4611686018427387904) (k : AX → S → Option (AV × List Ob)) (d : Nat) : ∀ (n i : Nat) (x : Int), a.length - i = d → i ≤ a.length → x = i → d < n →
    lpAt E_hasIntL (lp E_hasIntL 0 n) 0 (loopAt Tryz.f25 0) (mkS [0, 1, 5] [.lst (.int .i64) a, .int .i64 v, .int .i64 x] []) k =
      if (a.drop i).any (fun y => y == v) then k .ret (mkS [4] [.bool true] []) else k (.exit 0) (mkS [4] [.any] []) := by
  induction d with
  | zero =>
    intro n i x hd hi hx hn
    subst hx
    rw [lpAt_def]
    conv => lhs; whnf
    refine br_f (df (by omega)) ?_
    conv => lhs; whnf
    rw [List.drop_of_length_le (by omega)]
    simp
  | succ d ih =>
    intro n i x hd hi hx hn
    obtain ⟨n, rfl⟩ : ∃ m, n = m + 1 := ⟨n - 1, by omega⟩
    subst hx
    rw [lpAt_def]
    conv => lhs; whnf
    refine br_t (dt (by omega)) ?_
    conv => lhs; whnf
    refine br_t (dt2 (by omega) (by omega)) ?_
    conv => lhs; whnf
    rw [getD_drop (l := a) (i := i) (d := 0) (by omega)]
    refine br_c (fun h => ?_) (fun h => ?_)
    · have h' : (a.getD i 0 == v) = true := h
      conv => lhs; whnf
      rw [if_pos (by simp only [List.any_cons, h', Bool.true_or])]
    · have h' : (a.getD i 0 == v) = false := h
      conv => lhs; whnf
      rw [ih n (i + 1) _ (by omega) (by omega) (by rw [wrap64 (by omega) (by omega)]; simp) (by omega)]
      simp only [List.any_cons, h', Bool.false_or]
theorem ev_hasIntL (a : List Int) (v : Int) (hp : a.length < 4611686018427387904) : evF E_hasIntL (a.length + 2) Tryz.f25 [.lst (.int .i64) a, .int .i64 v] [] = some (.bool (a.any (fun y => y == v)), []) := by
  conv => lhs; whnf
  refine (lp_hasIntL a v hp _ a.length _ 0 0 rfl (by omega) rfl (by omega)).trans ?_
  simp only [List.drop_zero]
  split
  · rename_i he
    conv => lhs; whnf
    rw [he]
  · rename_i he
    conv => lhs; whnf
    rw [Bool.not_eq_true] at he
    rw [he]
theorem ok_hasIntL : FnOk Tryz.prog 25 K_hasIntL := by
  refine fn_ok (fn := Tryz.f25) (k := Tryz.f25.ntmps) (E := E_hasIntL) (facts_of (List.forall_mem_nil _)) (by kernel_rfl) rfl (by decide +kernel) (by decide +kernel) ?_
  intro avs hin r h
  unfold K_hasIntL at h
  split at h
  · obtain ⟨hp, rfl⟩ := gd_o h
    exact ⟨_, ev_hasIntL _ _ hp, rfl⟩
  · cases h

/- spec.l9Rule -/
def K_l9RuleN : List AV → List Ob → Option (AV × List Ob)
  | [.int .i64 n, .agg [.int .i64 p, .int .i64 q]], [] => gd (True) (.bool (isSet n p && isSet n q), [])
  | _, _ => none
@[reducible] def E_l9RuleN : Env := mkE (tb [(54, K_specIsSet)]) (fun f => false) (fun r => ([], []))
theorem ev_l9RuleN (n p q : Int) (hp : True) : evF E_l9RuleN (1) Tryz.f73 [.int .i64 n, .agg [.int .i64 p, .int .i64 q]] [] = some (.bool (isSet n p && isSet n q), []) := by
  conv => lhs; whnf
  conv => lhs; arg 1; whnf
  refine bnd_g (by exact True.intro) ?_
  conv => lhs; whnf
  refine br_c (fun h => ?_) (fun h => ?_)
  · conv => lhs; whnf
    repeat ((first | with_reducible apply br_tt | with_reducible apply br_ff | with_reducible apply br_nf | with_reducible apply br_nt | with_reducible refine br_d ?_ (by kernel_rfl) | with_reducible apply br_t h | with_reducible apply br_f h); conv => lhs; whnf)
    conv => lhs; arg 1; whnf
    refine bnd_g (by exact True.intro) ?_
    conv => lhs; whnf
    repeat ((first | with_reducible apply br_tt | with_reducible apply br_ff | with_reducible apply br_nf | with_reducible apply br_nt | with_reducible refine br_d ?_ (by kernel_rfl) | with_reducible apply br_t h | with_reducible apply br_f h); conv => lhs; whnf)
    rw [h, Bool.true_and]
  · conv => lhs; whnf
    repeat ((first | with_reducible apply br_tt | with_reducible apply br_ff | with_reducible apply br_nf | with_reducible apply br_nt | with_reducible refine br_d ?_ (by kernel_rfl) | with_reducible apply br_t h | with_reducible apply br_f h); conv => lhs; whnf)
    rw [h, Bool.false_and]
theorem ok_l9RuleN : FnOk Tryz.prog 73 K_l9RuleN := by
  refine fn_ok (fn := Tryz.f73) (k := Tryz.f73.ntmps) (E := E_l9RuleN) (facts_of (List.forall_mem_cons.2 ⟨ok_specIsSet, List.forall_mem_nil _⟩)) (by kernel_rfl) rfl (by decide +kernel) (by decide +kernel) ?_
  intro avs hin r h
  unfold K_l9RuleN at h
  split at h
  · obtain ⟨hp, rfl⟩ := gd_o h
    exact ⟨_, ev_l9RuleN _ _ _ hp, rfl⟩
  · cases h

/- spec.HoldsIn -/
def K_specHoldsIn : List AV → List Ob → Option (AV × List Ob)
  | [.agg [.int .i64 m, .lst (.int .i64) b], .agg [.int .i64 p, .int .i64 q]], [] => gd (b.length ≤ 1048576) (.bool (holdS m b p q), [])
  | _, _ => none
@[reducible] def E_specHoldsIn : Env := mkE (tb [(53, K_specIsContext), (73, K_l9RuleN), (70, K_specClosure)]) (fun f => false) (fun r => ([], []))
theorem ev_specHoldsIn (m : Int) (b : List Int) (p q : Int) (hp : b.length ≤ 1048576) : evF E_specHoldsIn (1) Tryz.f27 [.agg [.int .i64 m, .lst (.int .i64) b], .agg [.int .i64 p, .int .i64 q]] [] = some (.bool (holdS m b p q), []) := by
  conv => lhs; whnf
  conv => lhs; arg 1; whnf
  refine bnd_g (by omega) ?_
  conv => lhs; whnf
  refine br_c (fun h => ?_) (fun h => ?_)
  · conv => lhs; whnf
    repeat ((first | with_reducible apply br_tt | with_reducible apply br_ff | with_reducible apply br_nf | with_reducible apply br_nt | with_reducible refine br_d ?_ (by kernel_rfl) | with_reducible apply br_t h | with_reducible apply br_f h); conv => lhs; whnf)
    refine okB ?_
    unfold holdS
    rw [bnt h]
    rfl
  · conv => lhs; whnf
    repeat ((first | with_reducible apply br_tt | with_reducible apply br_ff | with_reducible apply br_nf | with_reducible apply br_nt | with_reducible refine br_d ?_ (by kernel_rfl) | with_reducible apply br_t h | with_reducible apply br_f h); conv => lhs; whnf)
    conv => lhs; arg 1; whnf
    refine bnd_g (by exact True.intro) ?_
    conv => lhs; whnf
    repeat ((first | with_reducible apply br_tt | with_reducible apply br_ff | with_reducible apply br_nf | with_reducible apply br_nt | with_reducible refine br_d ?_ (by kernel_rfl) | with_reducible apply br_t h | with_reducible apply br_f h); conv => lhs; whnf)
    refine br_c (fun h2 => ?_) (fun h2 => ?_)
    · conv => lhs; whnf
      repeat ((first | with_reducible apply br_tt | with_reducible apply br_ff | with_reducible apply br_nf | with_reducible apply br_nt | with_reducible refine br_d ?_ (by kernel_rfl) | with_reducible apply br_t h | with_reducible apply br_f h | with_reducible apply br_t h2 | with_reducible apply br_f h2); conv => lhs; whnf)
      refine okB ?_
      unfold holdS
      rw [bnf h, bnt h2]
      rfl
    · have hs := isSet_le (Bool.and_eq_true_iff.1 (bnf h2)).1
      conv => lhs; whnf
      repeat ((first | with_reducible apply br_tt | with_reducible apply br_ff | with_reducible apply br_nf | with_reducible apply br_nt | with_reducible refine br_d ?_ (by kernel_rfl) | with_reducible apply br_t h | with_reducible apply br_f h | with_reducible apply br_t h2 | with_reducible apply br_f h2); conv => lhs; whnf)
      conv => lhs; arg 1; whnf
      refine bnd_g (by exact ⟨bnf h, by omega⟩) ?_
      conv => lhs; whnf
      refine br_t (by kernel_rfl) ?_
      conv => lhs; whnf
      refine okB ?_
      unfold holdS
      rw [bnf h, bnf h2]
      rfl
theorem ok_specHoldsIn : FnOk Tryz.prog 27 K_specHoldsIn := by
  refine fn_ok (fn := Tryz.f27) (k := Tryz.f27.ntmps) (E := E_specHoldsIn) (facts_of (List.forall_mem_cons.2 ⟨ok_specIsContext, List.forall_mem_cons.2 ⟨ok_l9RuleN, List.forall_mem_cons.2 ⟨ok_specClosure, List.forall_mem_nil _⟩⟩⟩)) (by kernel_rfl) rfl (by decide +kernel) (by decide +kernel) ?_
  intro avs hin r h
  unfold K_specHoldsIn at h
  split at h
  · obtain ⟨hp, rfl⟩ := gd_o h
    exact ⟨_, ev_specHoldsIn _ _ _ _ hp, rfl⟩
  · cases h

/- spec.StemBase -/
def K_specStemBase : List AV → List Ob → Option (AV × List Ob)
  | [.agg [.int .i64 m, .lst (.int .i64) b]], [] => gd (isCtx m b = true) (.own 0, [.row 48 (.pair (.int .i64) (.int .i64)) (stemR m b)])
  | _, _ => none
@[reducible] def E_specStemBase : Env := mkE (tb [(53, K_specIsContext), (62, K_specStem)]) (fun f => false) (fun r => ([], []))
theorem ev_specStemBase (m : Int) (b : List Int) (hp : isCtx m b = true) : evF E_specStemBase (1) Tryz.f26 [.agg [.int .i64 m, .lst (.int .i64) b]] [] = some (.own 0, [.row 48 (.pair (.int .i64) (.int .i64)) (stemR m b)]) := by
  have hl := isCtx_len hp
  have h : (!isCtx m b) = false := by rw [hp]; rfl
  conv => lhs; whnf
  conv => lhs; arg 1; whnf
  refine bnd_g (by omega) ?_
  conv => lhs; whnf
  repeat ((first | with_reducible apply br_tt | with_reducible apply br_ff | with_reducible apply br_nf | with_reducible apply br_nt | with_reducible refine br_d ?_ (by kernel_rfl) | with_reducible apply br_t h | with_reducible apply br_f h); conv => lhs; whnf)
  conv => lhs; arg 1; whnf
  refine bnd_g (by exact hp) ?_
  conv => lhs; whnf
  repeat ((first | with_reducible apply br_tt | with_reducible apply br_ff | with_reducible apply br_nf | with_reducible apply br_nt | with_reducible refine br_d ?_ (by kernel_rfl)); conv => lhs; whnf)
theorem ok_specStemBase : FnOk Tryz.prog 26 K_specStemBase := by
  refine fn_ok (fn := Tryz.f26) (k := Tryz.f26.ntmps) (E := E_specStemBase) (facts_of (List.forall_mem_cons.2 ⟨ok_specIsContext, List.forall_mem_cons.2 ⟨ok_specStem, List.forall_mem_nil _⟩⟩)) (by kernel_rfl) rfl (by decide +kernel) (by decide +kernel) ?_
  intro avs hin r h
  unfold K_specStemBase at h
  split at h
  · obtain ⟨hp, rfl⟩ := gd_o h
    exact ⟨_, ev_specStemBase _ _ hp, rfl⟩
  · cases h

end Go.Sym
