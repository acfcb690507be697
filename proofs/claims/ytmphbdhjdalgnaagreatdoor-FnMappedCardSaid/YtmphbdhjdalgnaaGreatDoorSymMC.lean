/- Functions of the program, each told as a plain equation. -/
import Derived.Test.YtmphbdhjdalgnaaGreatDoorSymMB
namespace Go.Sym
open Go.Proofs
set_option linter.unusedVariables false
set_option linter.unusedSimpArgs false
set_option maxRecDepth 100000
set_option maxHeartbeats 4000000

def belowB (l : List (Int × Int)) (x y : Int) : Bool := bif inC l x then (bif inC l y then band (l.getD x.toNat (0, 0)).1 (l.getD y.toNat (0, 0)).1 == (l.getD x.toNat (0, 0)).1 else false) else false
theorem lecL_nd : ∀ n : Fin 7, (lecL n.val).Nodup := by decide +kernel
theorem conc_nodup (m : Int) (b : List Int) : ((concF m b).map (·.1)).Nodup := by
  unfold concF
  cases h : isCtx m b
  · exact List.nodup_nil
  · have hl := isCtx_len h
    rw [cond_true]
    have h0 : (lecI m.toNat).Nodup := by
      unfold lecI
      refine List.Pairwise.map _ (fun a b hab e => hab ?_) (lecL_nd ⟨m.toNat, by omega⟩)
      exact Int.ofNat.inj e
    have h1 : ((lecI m.toNat).filter (closedI m b)).Nodup := h0.sublist List.filter_sublist
    rw [List.map_map]
    refine List.Pairwise.map _ (fun x y hxy e => ?_) (List.Pairwise.and_mem.1 h1)
    obtain ⟨hx, hy, hne⟩ := hxy
    have cx := eq_of_beq (List.mem_filter.1 hx).2
    have cy := eq_of_beq (List.mem_filter.1 hy).2
    have e : extF b x = extF b y := e
    rw [e] at cx
    exact hne (cx.symm.trans cy)
theorem subLen : ∀ (l1 l2 : List Int), l1.Nodup → (∀ x ∈ l1, x ∈ l2) → l1.length ≤ l2.length
  | [], _, _, _ => Nat.zero_le _
  | x :: r, l2, hn, h => by
    have hn' := List.nodup_cons.1 hn
    have hx := h x (by simp)
    have := subLen r (l2.erase x) hn'.2 fun y hy => (List.mem_erase_of_ne (fun e => hn'.1 (by rw [← e]; exact hy))).2 (h y (by simp [hy]))
    rw [List.length_erase_of_mem hx] at this
    have : 0 < l2.length := List.length_pos_of_mem hx
    rw [List.length_cons]
    omega
theorem fndL_none {g : Nat → Option (List Int)} : ∀ (c j : Nat), fndL g c j = none → ∀ i, j ≤ i → i < j + c → g i = none
  | 0, j, _, i, h1, h2 => by omega
  | c + 1, j, h, i, h1, h2 => by
    rw [fndL] at h
    split at h
    · cases h
    · rename_i he
      rcases Nat.lt_or_ge j i with g1 | g1
      · exact fndL_none c (j + 1) h i (by omega) (by omega)
      · have : i = j := by omega
        rw [this]
        exact he
theorem take_snoc {zs : List Int} {k : Nat} (hk : k < zs.length) : zs.take k ++ [zs.getD k 0] = zs.take (k + 1) := by
  rw [List.take_succ_eq_append_getElem hk]
  simp [List.getD, hk]
/-- The search finds a map if there is one. -/
theorem fnd_complete {n m : Nat} {ok : List Int → Nat → Bool} {zs : List Int} (hn : zs.length = n) (hr : ∀ k, k < n → 0 ≤ zs.getD k 0 ∧ zs.getD k 0 < (m : Int)) (hok : ∀ k, k < n → ok (zs.take k) (zs.getD k 0).toNat = true) : ∀ (d k : Nat), k ≤ n → n ≤ k + d → fndR n m ok d (zs.take k) ≠ none
  | 0, k, h1, h2 => by
    have : (zs.take k).length = n := by rw [List.length_take]; omega
    rw [fnd_base 0 this]
    intro h
    cases h
  | d + 1, k, h1, h2 => by
    by_cases hk : k = n
    · have : (zs.take k).length = n := by rw [List.length_take]; omega
      rw [fnd_base (d + 1) this]
      intro h
      cases h
    · intro h
      have hl : ((zs.take k).length == n) = false := by
        rw [← Bool.not_eq_true, beq_iff_eq, List.length_take]
        omega
      rw [fndR, hl, cond_false] at h
      have hz := hr k (by omega)
      have := fndL_none m 0 h (zs.getD k 0).toNat (Nat.zero_le _) (by omega)
      rw [hok k (by omega), cond_true, Int.toNat_of_nonneg hz.1, take_snoc (by omega)] at this
      exact fnd_complete hn hr hok d (k + 1) (by omega) (by omega) this
theorem fnd_sound {n m : Nat} {ok : List Int → Nat → Bool} : ∀ (d : Nat) (done z : List Int), done.length ≤ n → fndR n m ok d done = some z → (∃ e, z = done ++ e) ∧ ∀ k, done.length ≤ k → k < n → (0 ≤ z.getD k 0 ∧ z.getD k 0 < (m : Int)) ∧ ok (z.take k) (z.getD k 0).toNat = true
  | d, done, z, hle, h => by
    by_cases hd : done.length = n
    · rw [fnd_base d hd] at h
      cases h
      exact ⟨⟨[], by simp⟩, fun k h1 h2 => by omega⟩
    · have hl : (done.length == n) = false := by
        rw [← Bool.not_eq_true, beq_iff_eq]
        exact hd
      cases d with
      | zero =>
        rw [fndR, hl] at h
        cases h
      | succ d =>
        rw [fndR, hl, cond_false] at h
        obtain ⟨j, hj, ho, hf⟩ : ∃ j, j < m ∧ ok done j = true ∧ fndR n m ok d (done ++ [(j : Int)]) = some z := by
          refine fndL_some (P := fun r => ∃ j, j < m ∧ ok done j = true ∧ fndR n m ok d (done ++ [(j : Int)]) = some r) m 0 z (fun i r _ h2 h3 => ?_) h
          cases ho : ok done i
          · rw [ho, cond_false] at h3; cases h3
          · rw [ho, cond_true] at h3; exact ⟨i, by omega, ho, h3⟩
        obtain ⟨⟨e, he⟩, hz⟩ := fnd_sound d _ z (by simp; omega) hf
        refine ⟨⟨(j : Int) :: e, by rw [he]; simp⟩, fun k h1 h2 => ?_⟩
        rcases Nat.lt_or_ge done.length k with g | g
        · exact hz k (by simp; omega) h2
        · have : k = done.length := by omega
          subst this
          have e1 : z.getD done.length 0 = (j : Int) := by rw [he]; simp [List.getD]
          have e2 : z.take done.length = done := by rw [he]; simp
          rw [e1, e2, Int.toNat_natCast]
          exact ⟨by omega, ho⟩
theorem und_refl {l : CL} (he : extsB l = true) {x : Nat} (hx : x < l.length) : undB l x x = true := by
  have hs : isSet 8 (l.getD x (0, 0)).1 = true := List.all_eq_true.1 he _ (mem_getD hx)
  have hr := isSet_le hs
  have := (band_set (x := (l.getD x (0, 0)).1) (y := (l.getD x (0, 0)).1) ⟨by omega, by omega⟩ ⟨by omega, by omega⟩)
  unfold undB
  rw [beq_iff_eq]
  have h2 := this.2.2
  rw [Nat.and_self] at h2
  omega
theorem allN_iff (g : Nat → Bool) (d i : Nat) : allN g d i = true ↔ ∀ j, i ≤ j → j < i + d → g j = true := by
  rw [allN_all, List.all_eq_true]
  constructor
  · intro h j h1 h2; exact h j (List.mem_range'_1.2 ⟨h1, h2⟩)
  · intro h j hj; have := List.mem_range'_1.1 hj; exact h j this.1 this.2
/-- What the search finds keeps the order both ways. -/
theorem fnd_und {l1 l2 : CL} (h1 : extsB l1 = true) (h2 : extsB l2 = true) {p q z : List Int} {d : Nat} (h : fndR l1.length l2.length (oks1 l1 l2 p q) d [] = some z) :
    z.length = l1.length ∧ (∀ k, k < l1.length → 0 ≤ z.getD k 0 ∧ z.getD k 0 < (l2.length : Int)) ∧ ∀ i k, i < l1.length → k < l1.length → undB l1 i k = undB l2 (z.getD i 0).toNat (z.getD k 0).toNat := by
  have hl := fnd_len _ _ _ h
  obtain ⟨_, hs⟩ := fnd_sound d [] z (Nat.zero_le _) h
  have hr : ∀ k, k < l1.length → 0 ≤ z.getD k 0 ∧ z.getD k 0 < (l2.length : Int) := fun k hk => (hs k (Nat.zero_le _) hk).1
  have key : ∀ i k, i < k → k < l1.length → undB l1 i k = undB l2 (z.getD i 0).toNat (z.getD k 0).toNat ∧ undB l1 k i = undB l2 (z.getD k 0).toNat (z.getD i 0).toNat := by
    intro i k hik hk
    have ho := (hs k (Nat.zero_le _) hk).2
    unfold oks1 at ho
    have hlt : (z.take k).length = k := by rw [List.length_take]; omega
    rw [Bool.and_eq_true, hlt, allN_iff] at ho
    have := ho.2 i (Nat.zero_le _) (by omega)
    unfold sB at this
    rw [hlt, take_getD hik, Bool.and_eq_true, Bool.and_eq_true] at this
    exact ⟨eq_of_beq this.1.2, eq_of_beq this.2⟩
  refine ⟨hl, hr, fun i k hi hk => ?_⟩
  rcases Nat.lt_trichotomy i k with g | g | g
  · exact (key i k g hk).1
  · subst g
    have := hr i hi
    rw [und_refl h1 hi, und_refl h2 (by omega)]
  · exact (key k i g hi).2
theorem fm_some {m : Int} {a : List Int} {n : Int} {b z : List Int} (h : fmF m a n b = some z) : fndR (concF m a).length (concF n b).length (oks1 (concF m a) (concF n b) (marksL (concF m a) (concF m a).length 0) (marksL (concF n b) (concF n b).length 0)) 64 [] = some z := by
  unfold fmF fmC at h
  cases h0 : ((concF m a).length : Int) == 0
  · rw [h0, cond_false] at h
    cases h1 : ((concF m a).length : Int) != (concF n b).length
    · rw [h1, cond_false] at h
      cases h2 : decide (((concF m a).length : Int) > 24)
      · rw [h2, cond_false] at h
        cases h3 : !(decide (profF m a = profF n b))
        · rw [h3, cond_false] at h
          exact h
        · rw [h3, cond_true] at h; cases h
      · rw [h2, cond_true] at h; cases h
    · rw [h1, cond_true] at h; cases h
  · rw [h0, cond_true] at h; cases h
theorem below_und {l : CL} {x y : Int} (hx : 0 ≤ x ∧ x < (l.length : Int)) (hy : 0 ≤ y ∧ y < (l.length : Int)) : belowB l x y = undB l x.toNat y.toNat := by
  unfold belowB undB
  rw [inC_iff.2 hx, inC_iff.2 hy, cond_true, cond_true]
theorem fm_below {m : Int} {a : List Int} {n : Int} {b z : List Int} (h : fmF m a n b = some z) {i k : Nat} (hi : i < z.length) (hk : k < z.length) : belowB (concF m a) (i : Int) (k : Int) = belowB (concF n b) (z.getD i 0) (z.getD k 0) := by
  obtain ⟨h1, h2, h3⟩ := fnd_und (conc_exts m a) (conc_exts n b) (fm_some h)
  rw [below_und (by omega) (by omega), below_und (h2 i (by omega)) (h2 k (by omega)), Int.toNat_natCast, Int.toNat_natCast]
  exact h3 i k (by omega) (by omega)
theorem sumB_countP (f : Nat → Bool) : ∀ (d i : Nat) (q : Int), sumB f d i q = q + ((List.range' i d).countP f : Int)
  | 0, i, q => by simp [sumB]
  | d + 1, i, q => by
    rw [sumB, sumB_countP f d (i + 1), List.range'_succ, List.countP_cons]
    cases f i
    · rw [cond_false, if_neg Bool.false_ne_true]; push_cast; omega
    · rw [cond_true, if_pos rfl]; push_cast; omega
theorem marks_map (l : List (Int × Int)) : ∀ (d i : Nat), marksL l d i = (List.range' i d).map (markAt l)
  | 0, _ => rfl
  | d + 1, i => by rw [marksL, marks_map l d (i + 1), List.range'_succ, List.map_cons]
structure IsoN (A B : CL) (φ : Nat → Nat) : Prop where
  len : A.length = B.length
  rng : ∀ i, i < A.length → φ i < B.length
  inj : ∀ i j, i < A.length → j < A.length → φ i = φ j → i = j
  und : ∀ i j, i < A.length → j < A.length → undB A i j = undB B (φ i) (φ j)
theorem iso_perm {A B : CL} {φ : Nat → Nat} (h : IsoN A B φ) : ((List.range' 0 A.length).map φ).Perm (List.range' 0 B.length) := by
  have hnd : ((List.range' 0 A.length).map φ).Nodup := by
    refine List.Pairwise.map _ (fun i j hij e => ?_) (List.Pairwise.and_mem.1 (List.nodup_range' (step := 1)))
    obtain ⟨hi, hj, hne⟩ := hij
    have hi := (List.mem_range'_1.1 hi).2
    have hj := (List.mem_range'_1.1 hj).2
    exact hne (h.inj i j (by omega) (by omega) e)
  refine (List.perm_ext_iff_of_nodup hnd (List.nodup_range' (step := 1))).2 fun y => ?_
  constructor
  · intro hy
    obtain ⟨i, hi, rfl⟩ := List.mem_map.1 hy
    have := (List.mem_range'_1.1 hi).2
    have := h.rng i (by omega)
    exact List.mem_range'_1.2 ⟨Nat.zero_le _, by omega⟩
  · intro hy
    apply Classical.byContradiction
    intro hn
    have hyl := (List.mem_range'_1.1 hy).2
    have := subLen ((y :: (List.range' 0 A.length).map φ).map (fun x : Nat => (x : Int))) ((List.range' 0 B.length).map (fun x : Nat => (x : Int))) ?_ ?_
    · simp only [List.length_map, List.length_cons, List.length_range'] at this
      have := h.len
      omega
    · refine List.Pairwise.map _ (fun a b hab e => hab (Int.ofNat.inj e)) (List.nodup_cons.2 ⟨hn, hnd⟩)
    · intro x hx
      obtain ⟨z, hz, rfl⟩ := List.mem_map.1 hx
      refine List.mem_map.2 ⟨z, ?_, rfl⟩
      rcases List.mem_cons.1 hz with rfl | hz
      · exact hy
      · obtain ⟨i, hi, rfl⟩ := List.mem_map.1 hz
        have := (List.mem_range'_1.1 hi).2
        have := h.rng i (by omega)
        exact List.mem_range'_1.2 ⟨Nat.zero_le _, by omega⟩
theorem iso_mark {A B : CL} {φ : Nat → Nat} (h : IsoN A B φ) {i : Nat} (hi : i < A.length) : markAt A i = markAt B (φ i) := by
  have hp := iso_perm h
  unfold markAt
  rw [sumB_countP, sumB_countP, sumB_countP, sumB_countP]
  have e1 : (List.range' 0 A.length).countP (fun x => undB A x i) = (List.range' 0 B.length).countP (fun x => undB B x (φ i)) := by
    rw [← hp.countP_eq, List.countP_map]
    refine List.countP_congr fun x hx => ?_
    have := (List.mem_range'_1.1 hx).2
    simp only [Function.comp]
    rw [h.und x i (by omega) hi]
  have e2 : (List.range' 0 A.length).countP (fun x => undB A i x) = (List.range' 0 B.length).countP (fun x => undB B (φ i) x) := by
    rw [← hp.countP_eq, List.countP_map]
    refine List.countP_congr fun x hx => ?_
    have := (List.mem_range'_1.1 hx).2
    simp only [Function.comp]
    rw [h.und i x hi (by omega)]
  rw [e1, e2]
theorem sortI_perm {l1 l2 : List Int} (h : l1.Perm l2) : sortI l1 = sortI l2 := by
  unfold sortI
  refine List.Perm.eq_of_pairwise (le := fun a b : Int => decide (a ≤ b) = true) (fun a b _ _ h1 h2 => ?_) (List.pairwise_mergeSort (fun a b c h1 h2 => ?_) (fun a b => ?_) l1) (List.pairwise_mergeSort (fun a b c h1 h2 => ?_) (fun a b => ?_) l2) ?_
  · have := of_decide_eq_true h1; have := of_decide_eq_true h2; omega
  · have := of_decide_eq_true h1; have := of_decide_eq_true h2; exact decide_eq_true (by omega)
  · rw [Bool.or_eq_true, decide_eq_true_eq, decide_eq_true_eq]; omega
  · have := of_decide_eq_true h1; have := of_decide_eq_true h2; exact decide_eq_true (by omega)
  · rw [Bool.or_eq_true, decide_eq_true_eq, decide_eq_true_eq]; omega
  · exact (List.mergeSort_perm l1 _).trans (h.trans (List.mergeSort_perm l2 _).symm)
/-- Isomorphic lattices have a map that the search finds. -/
theorem iso_map {m : Int} {a : List Int} {n : Int} {b : List Int} {φ : Nat → Nat} (h : IsoN (concF m a) (concF n b) φ) (hc : isCtx m a = true) (h24 : (concF m a).length ≤ 24) : (fmF m a n b).isSome = true := by
  have hp := iso_perm h
  have h0 : (((concF m a).length : Int) == 0) = false := by
    have := concF_pos hc
    rw [← Bool.not_eq_true, beq_iff_eq]
    omega
  have h1 : (((concF m a).length : Int) != ((concF n b).length : Int)) = false := by
    rw [bne_eq_false_iff_eq, h.len]
  have h2 : decide (((concF m a).length : Int) > 24) = false := df (by omega)
  have hml : marksL (concF m a) (concF m a).length 0 = ((List.range' 0 (concF m a).length).map φ).map (markAt (concF n b)) := by
    rw [marks_map, List.map_map]
    refine List.map_congr_left fun i hi => ?_
    have := (List.mem_range'_1.1 hi).2
    exact iso_mark h (by omega)
  have hpf : profF m a = profF n b := by
    unfold profF
    rw [df (show ¬ (concF m a).length > 24 by omega), df (show ¬ (concF n b).length > 24 by have := h.len; omega), cond_false, cond_false]
    refine sortI_perm ?_
    rw [hml, marks_map]
    exact hp.map _
  have h3 : (!(decide (profF m a = profF n b))) = false := by rw [decide_eq_true hpf]; rfl
  unfold fmF
  rw [fm_4 h0 h1 h2 h3]
  have hN := h.len
  -- the map itself, as a list
  have hzl : (((List.range' 0 (concF m a).length).map fun i => ((φ i : Nat) : Int))).length = (concF m a).length := by simp
  have hzg : ∀ k, k < (concF m a).length → ((List.range' 0 (concF m a).length).map fun i => ((φ i : Nat) : Int)).getD k 0 = ((φ k : Nat) : Int) := fun k hk => by
    simp [List.getD, hk]
  have hc1 := concF_len m a
  have := fnd_complete (n := (concF m a).length) (m := (concF n b).length) (ok := oks1 (concF m a) (concF n b) (marksL (concF m a) (concF m a).length 0) (marksL (concF n b) (concF n b).length 0)) (zs := (List.range' 0 (concF m a).length).map fun i => ((φ i : Nat) : Int)) hzl
    (fun k hk => by rw [hzg k hk]; have := h.rng k hk; omega)
    (fun k hk => by
      have hlt : (((List.range' 0 (concF m a).length).map fun i => ((φ i : Nat) : Int)).take k).length = k := by rw [List.length_take, hzl]; omega
      have hpk := h.rng k hk
      rw [hzg k hk, Int.toNat_natCast]
      unfold oks1
      rw [hlt, Bool.and_eq_true]
      refine ⟨?_, (allN_iff _ _ _).2 fun i _ hi => ?_⟩
      · rw [beq_iff_eq, marks_map, marks_map]
        have e1 : ((List.range' 0 (concF m a).length).map (markAt (concF m a))).getD k 0 = markAt (concF m a) k := by simp [List.getD, hk]
        have e2 : ((List.range' 0 (concF n b).length).map (markAt (concF n b))).getD (φ k) 0 = markAt (concF n b) (φ k) := by simp [List.getD, hpk]
        rw [e1, e2]
        exact iso_mark h hk
      · have hi : i < k := by omega
        unfold sB
        rw [hlt, take_getD hi, hzg i (by omega), Int.toNat_natCast, ← h.und i k (by omega) hk, ← h.und k i hk (by omega), beq_self_eq_true, beq_self_eq_true, Bool.and_true, Bool.and_true, bne_iff_ne]
        intro e
        have := h.inj i k (by omega) hk (by omega)
        omega) 64 0 (Nat.zero_le _) (by omega)
  rw [List.take_zero] at this
  cases hf : fndR (concF m a).length (concF n b).length (oks1 (concF m a) (concF n b) (marksL (concF m a) (concF m a).length 0) (marksL (concF n b) (concF n b).length 0)) 64 [] with
  | none => exact absurd hf this
  | some z => rfl
theorem and_sub {y s : Nat} : (y &&& s == y) = true ↔ SubN y s := by
  rw [beq_iff_eq]
  constructor
  · intro h i hi
    rw [← h, Nat.testBit_and] at hi
    exact (Bool.and_eq_true_iff.1 hi).2
  · intro h
    apply Nat.eq_of_testBit_eq
    intro i
    rw [Nat.testBit_and]
    cases hb : y.testBit i
    · rfl
    · rw [h i hb]; rfl
theorem bnotSub {p s : Int} (hp : 0 ≤ p ∧ p ≤ 255) (hs : 0 ≤ s ∧ s ≤ 255) : (bnot p s == 0) = true ↔ SubN p.toNat s.toNat := by
  obtain ⟨p, rfl⟩ : ∃ n : Nat, p = n := ⟨p.toNat, by omega⟩
  obtain ⟨s, rfl⟩ : ∃ n : Nat, s = n := ⟨s.toNat, by omega⟩
  rw [bnot_sub (by omega), beq_iff_eq, band_nat (by omega) (by omega), Int.toNat_natCast, Int.toNat_natCast, ← and_sub, beq_iff_eq]
  omega
theorem bandSub {p s : Int} (hp : 0 ≤ p ∧ p ≤ 255) (hs : 0 ≤ s ∧ s ≤ 255) : (band p s == p) = true ↔ SubN p.toNat s.toNat := by
  rw [← bnotSub hp hs]
  obtain ⟨p, rfl⟩ : ∃ n : Nat, p = n := ⟨p.toNat, by omega⟩
  rw [bnot_sub (by omega)]
def tabV (m : Int) (b : List Int) (meet : Bool) (p q : Int × Int) : Int := bif meet then intentF m b (band p.1 q.1) else band p.2 q.2
def tabC (m : Int) (b : List Int) (l : List (Int × Int)) (meet : Bool) (p q : Int × Int) : Int := firstI (fun z => z.2 == tabV m b meet p q) l 0
def tabR (m : Int) (b : List Int) (l : List (Int × Int)) (meet : Bool) (p : Int × Int) : List Int := l.map (tabC m b l meet p)
def underB (p q : Int × Int) : Bool := band p.1 q.1 == p.1
def apartB (p q : Int × Int) : Bool := bif !underB p q then !underB q p else false
def chainL (l : List (Int × Int)) : Nat → Nat → Bool
  | _, 0 => false
  | i, n + 1 => ((l.take i).any (apartB (l.getD i (0, 0)))) || chainL l (i + 1) n
theorem take_any {α : Type} (l : List α) (d0 : α) (f : α → Bool) {i a : Nat} (h : i < a) (ha : a ≤ l.length) : ((l.take a).drop i).any f = (f (l.getD i d0) || ((l.take a).drop (i + 1)).any f) := by
  have e : (l.take a).getD i d0 = l.getD i d0 := by simp [List.getD, List.getElem?_take, h]
  rw [← e, getD_drop (l := l.take a) (i := i) (d := d0) (by simp; omega), List.any_cons]
def anyN (f : Nat → Bool) : Nat → Nat → Bool
  | _, 0 => false
  | i, n + 1 => f i || anyN f (i + 1) n
theorem anyN_false {f : Nat → Bool} : ∀ (d i : Nat), (∀ j, i ≤ j → j < i + d → f j = false) → anyN f i d = false
  | 0, _, _ => rfl
  | d + 1, i, h => by rw [anyN, h i (by omega) (by omega), Bool.false_or]; exact anyN_false d (i + 1) fun j h1 h2 => h j (by omega) (by omega)
theorem anyN_congr {f g : Nat → Bool} : ∀ (d i : Nat), (∀ j, i ≤ j → j < i + d → f j = g j) → anyN f i d = anyN g i d
  | 0, _, _ => rfl
  | d + 1, i, h => by rw [anyN, anyN, h i (by omega) (by omega), anyN_congr d (i + 1) fun j h1 h2 => h j (by omega) (by omega)]
def tab2 (T : List (List Int)) (x y : Nat) : Int := (T.getD x []).getD y 0
def lawZ (M J : List (List Int)) (l : List (Int × Int)) (all : Bool) (x y z : Nat) : Bool :=
  (all || underB (l.getD z (0, 0)) (l.getD x (0, 0))) && ((M.getD x []).getD ((J.getD y []).getD z 0).toNat 0 != (J.getD ((M.getD x []).getD y 0).toNat []).getD ((M.getD x []).getD z 0).toNat 0)
def lawX (M J : List (List Int)) (l : List (Int × Int)) (all : Bool) : Bool :=
  anyN (fun x => anyN (fun y => anyN (lawZ M J l all x y) 0 l.length) 0 l.length) 0 l.length
def tabF (m : Int) (b : List Int) (meet : Bool) : List (List Int) := (concF m b).map (tabR m b (concF m b) meet)
def lawV (m : Int) (b : List Int) (all : Bool) : Bool := bif lawX (tabF m b true) (tabF m b false) (concF m b) all then false else isCtx m b
theorem isSet8_band {x y : Int} (hx : isSet 8 x = true) (hy : isSet 8 y = true) : isSet 8 (band x y) = true := by
  obtain ⟨s, rfl, hs⟩ := isSet_ex hx
  obtain ⟨t, rfl, ht⟩ := isSet_ex hy
  have hs : s < 256 := hs
  have ht : t < 256 := ht
  rw [band_nat hs ht, isSet8]
  have := Nat.and_le_left (n := s) (m := t)
  exact dt (by omega)
theorem conc_in {m : Int} {b : List Int} (h : isCtx m b = true) {v : Int} (hv : isSet m v = true) (hc : closedI m b v = true) : (extF b v, v) ∈ concF m b := by
  have hl := isCtx_len h
  unfold concF
  rw [h, cond_true]
  refine List.mem_map.2 ⟨v, List.mem_filter.2 ⟨?_, hc⟩, rfl⟩
  obtain ⟨s, rfl, hs⟩ := isSet_ex hv
  unfold lecI
  exact List.mem_map.2 ⟨s, (lecL_mem (by omega)).2 hs, rfl⟩
theorem int_cl {m : Int} {b : List Int} (h : isCtx m b = true) {s : Int} (hs : isSet 8 s = true) : isSet m (intentF m b s) = true ∧ closedI m b (intentF m b s) = true := by
  have hl := isCtx_len h
  have hsm := ctx_small h
  obtain ⟨i1, i2, i3⟩ := intentF_spec (m := m) ⟨hl.2.1, by omega⟩ hl.1 hsm hs
  obtain ⟨v, hv⟩ : ∃ v : Nat, intentF m b s = v := ⟨(intentF m b s).toNat, by omega⟩
  rw [hv] at i1 i2 i3 ⊢
  have hlt : v < 2 ^ m.toNat := by
    refine Nat.lt_pow_two_of_testBit _ fun i hi => ?_
    cases hb : v.testBit i
    · rfl
    · have := ((i3 i).1 (by rw [Int.toNat_natCast]; exact hb)).1
      omega
  refine ⟨?_, ?_⟩
  · unfold isSet
    refine dt ⟨by omega, by omega, ?_⟩
    have e2 : ((2 ^ m.toNat : Nat) : Int) = (2 : Int) ^ m.toNat := by push_cast; rfl
    omega
  · rw [closed_is h (by omega)]
    refine beq_iff_eq.2 (Nat.eq_of_testBit_eq fun e => ?_)
    rw [Bool.eq_iff_iff]
    constructor
    · intro he
      obtain ⟨q1, q2⟩ := (clN_bit h (by omega) e).1 he
      have := (i3 e).2 ⟨q1, fun k hk hb => q2 k hk fun j hj => ((i3 j).1 (by rw [Int.toNat_natCast]; exact hj)).2 k hk hb⟩
      rwa [Int.toNat_natCast] at this
    · exact (cl_clo h).ext v hlt e
theorem band_cl {m : Int} {b : List Int} (h : isCtx m b = true) {x y : Int} (hx : isSet m x = true) (hy : isSet m y = true) (cx : closedI m b x = true) (cy : closedI m b y = true) : isSet m (band x y) = true ∧ closedI m b (band x y) = true := by
  have hl := isCtx_len h
  obtain ⟨s, rfl, hs⟩ := isSet_ex hx
  obtain ⟨t, rfl, ht⟩ := isSet_ex hy
  have hpw := pow64 (n := m.toNat) (by omega)
  rw [closed_is h (by omega)] at cx cy
  have cx := eq_of_beq cx
  have cy := eq_of_beq cy
  have hle := Nat.and_le_left (n := s) (m := t)
  rw [band_nat (by omega) (by omega)]
  refine ⟨?_, ?_⟩
  · unfold isSet
    refine dt ⟨by omega, by omega, ?_⟩
    have e2 : ((2 ^ m.toNat : Nat) : Int) = (2 : Int) ^ m.toNat := by push_cast; rfl
    omega
  · rw [closed_is h (by omega)]
    have hc := cl_clo h
    refine beq_iff_eq.2 (Nat.eq_of_testBit_eq fun e => ?_)
    rw [Bool.eq_iff_iff]
    constructor
    · intro he
      rw [Nat.testBit_and, Bool.and_eq_true]
      have g1 := hc.mono (s &&& t) s (by omega) hs (fun i hi => by rw [Nat.testBit_and, Bool.and_eq_true] at hi; exact hi.1) e he
      have g2 := hc.mono (s &&& t) t (by omega) ht (fun i hi => by rw [Nat.testBit_and, Bool.and_eq_true] at hi; exact hi.2) e he
      rw [cx] at g1
      rw [cy] at g2
      exact ⟨g1, g2⟩
    · exact hc.ext (s &&& t) (by omega) e
theorem firstI_in {α : Type} (p : α → Bool) : ∀ (l : List α) (i : Int), l.any p = true → i ≤ firstI p l i ∧ firstI p l i < i + l.length
  | [], _, h => by cases h
  | x :: l, i, h => by
    rw [firstI]
    cases hx : p x
    · rw [List.any_cons, hx, Bool.false_or] at h
      have := firstI_in p l (i + 1) h
      rw [cond_false, List.length_cons]
      omega
    · rw [cond_true, List.length_cons]
      omega
theorem meet_in {m : Int} {b : List Int} {p q : Int × Int} (hp : p ∈ concF m b) (hq : q ∈ concF m b) (meet : Bool) : ∃ z ∈ concF m b, z.2 = tabV m b meet p q := by
  obtain ⟨h, p2, p3, p4, p5⟩ := concF_mem hp
  obtain ⟨_, q2, q3, q4, q5⟩ := concF_mem hq
  have hp8 := isSet_8 p3
  have hq8 := isSet_8 q3
  cases meet with
  | true =>
    obtain ⟨g1, g2⟩ := int_cl h (isSet8_band hp8 hq8)
    exact ⟨_, conc_in h g1 g2, rfl⟩
  | false =>
    have cp := (int_cl h hp8).2
    have cq := (int_cl h hq8).2
    rw [p5] at cp
    rw [q5] at cq
    obtain ⟨g1, g2⟩ := band_cl h p2 q2 cp cq
    exact ⟨_, conc_in h g1 g2, rfl⟩
theorem tabC_in {m : Int} {b : List Int} {p q : Int × Int} (hp : p ∈ concF m b) (hq : q ∈ concF m b) (meet : Bool) : 0 ≤ tabC m b (concF m b) meet p q ∧ tabC m b (concF m b) meet p q < (concF m b).length := by
  obtain ⟨z, hz, he⟩ := meet_in hp hq meet
  have := firstI_in (fun z => z.2 == tabV m b meet p q) (concF m b) 0 (List.any_eq_true.2 ⟨z, hz, beq_iff_eq.2 he⟩)
  unfold tabC
  omega
def TabOk (T : List (List Int)) (n : Nat) : Prop := T.length = n ∧ ∀ x, x < n → (T.getD x []).length = n ∧ ∀ y, y < n → 0 ≤ (T.getD x []).getD y 0 ∧ (T.getD x []).getD y 0 < n

theorem getD_map0 {α β : Type} {f : α → β} {l : List α} {i : Nat} (h : i < l.length) (z : β) (z0 : α) : (l.map f).getD i z = f (l.getD i z0) := by
  simp [List.getD, h]
theorem tab_ok (m : Int) (b : List Int) (meet : Bool) : TabOk (tabF m b meet) (concF m b).length := by
  unfold tabF
  refine ⟨by rw [List.length_map], fun x hx => ?_⟩
  rw [getD_map0 hx [] (0, 0)]
  unfold tabR
  refine ⟨by rw [List.length_map], fun y hy => ?_⟩
  rw [getD_map0 hy 0 (0, 0)]
  exact tabC_in (mem_getD hx) (mem_getD hy) meet
def hgS (l : List (Int × Int)) (F : List Int) (k : Nat) : Nat → Nat → Int → Int
  | 0, _, acc => acc
  | d + 1, i, acc => hgS l F k d (i + 1) (bif undB l k i then max acc (F.getD i 0 + 1) else acc)
def farL (l : List (Int × Int)) : Nat → List Int
  | 0 => []
  | k + 1 => farL l k ++ [hgS l (farL l k) k k 0 0]
def hh (l : List (Int × Int)) (k : Nat) : Int := hgS l (farL l k) k k 0 0
def bstL (l : List (Int × Int)) : Nat → Int
  | 0 => -1
  | k + 1 => max (bstL l k) (hh l k)
theorem farL_len (l : List (Int × Int)) : ∀ k, (farL l k).length = k
  | 0 => rfl
  | k + 1 => by rw [farL, List.length_append, farL_len l k]; rfl
theorem farL_get (l : List (Int × Int)) {i : Nat} : ∀ k, i < k → (farL l k).getD i 0 = hh l i
  | 0, h => by omega
  | k + 1, h => by
    have hl := farL_len l k
    rw [farL]
    rcases Nat.lt_or_ge i k with h1 | h1
    · rw [List.getD_eq_getElem?_getD, List.getElem?_append_left (by omega), ← List.getD_eq_getElem?_getD]
      exact farL_get l k h1
    · have : i = k := by omega
      subst this
      rw [List.getD_eq_getElem?_getD, List.getElem?_append_right (by omega), hl, Nat.sub_self]
      rfl
theorem hgS_spec (l : List (Int × Int)) (F : List Int) (k : Nat) : ∀ (d i : Nat) (acc : Int), acc ≤ hgS l F k d i acc ∧ (∀ j, i ≤ j → j < i + d → undB l k j = true → F.getD j 0 + 1 ≤ hgS l F k d i acc) ∧ (hgS l F k d i acc = acc ∨ ∃ j, i ≤ j ∧ j < i + d ∧ undB l k j = true ∧ hgS l F k d i acc = F.getD j 0 + 1)
  | 0, i, acc => ⟨Int.le_refl _, fun j h1 h2 => by omega, .inl rfl⟩
  | d + 1, i, acc => by
    rw [hgS]
    obtain ⟨h1, h2, h3⟩ := hgS_spec l F k d (i + 1) (bif undB l k i then max acc (F.getD i 0 + 1) else acc)
    cases hu : undB l k i
    · rw [hu, cond_false] at h1 h2 h3
      rw [cond_false]
      refine ⟨h1, fun j g1 g2 g3 => ?_, ?_⟩
      · rcases Nat.lt_or_ge i j with g | g
        · exact h2 j (by omega) (by omega) g3
        · have : j = i := by omega
          subst this
          rw [hu] at g3
          cases g3
      · rcases h3 with h3 | ⟨j, g1, g2, g3, g4⟩
        · exact .inl h3
        · exact .inr ⟨j, by omega, by omega, g3, g4⟩
    · rw [hu, cond_true] at h1 h2 h3
      rw [cond_true]
      refine ⟨by omega, fun j g1 g2 g3 => ?_, ?_⟩
      · rcases Nat.lt_or_ge i j with g | g
        · exact h2 j (by omega) (by omega) g3
        · have : j = i := by omega
          subst this
          omega
      · rcases h3 with h3 | ⟨j, g1, g2, g3, g4⟩
        · rcases Int.le_total acc (F.getD i 0 + 1) with g | g
          · exact .inr ⟨i, by omega, by omega, hu, by rw [h3]; omega⟩
          · exact .inl (by rw [h3]; omega)
        · exact .inr ⟨j, by omega, by omega, g3, g4⟩
theorem hh_nn (l : List (Int × Int)) (k : Nat) : 0 ≤ hh l k := (hgS_spec l _ k k 0 0).1
theorem hh_le (l : List (Int × Int)) {k i : Nat} (h : i < k) (hu : undB l k i = true) : hh l i + 1 ≤ hh l k := by
  have := (hgS_spec l (farL l k) k k 0 0).2.1 i (by omega) (by omega) hu
  rwa [farL_get l k h] at this
theorem hh_at (l : List (Int × Int)) (k : Nat) : hh l k = 0 ∨ ∃ i, i < k ∧ undB l k i = true ∧ hh l k = hh l i + 1 := by
  rcases (hgS_spec l (farL l k) k k 0 0).2.2 with h | ⟨j, g1, g2, g3, g4⟩
  · exact .inl h
  · exact .inr ⟨j, by omega, g3, by rw [← farL_get l k (show j < k by omega)]; exact g4⟩
theorem hh_ub (l : List (Int × Int)) (k : Nat) : hh l k ≤ k := by
  induction k using Nat.strongRecOn with
  | ind k ih =>
    rcases hh_at l k with h | ⟨i, h1, _, h3⟩
    · omega
    · have := ih i h1
      omega
theorem bst_spec (l : List (Int × Int)) : ∀ (k : Nat), (∀ i, i < k → hh l i ≤ bstL l k) ∧ (k ≠ 0 → ∃ i, i < k ∧ bstL l k = hh l i)
  | 0 => ⟨fun i h => by omega, fun h => absurd rfl h⟩
  | k + 1 => by
    obtain ⟨h1, h2⟩ := bst_spec l k
    rw [bstL]
    refine ⟨fun i hi => ?_, fun _ => ?_⟩
    · rcases Nat.lt_or_ge i k with g | g
      · have := h1 i g; omega
      · have : i = k := by omega
        subst this
        omega
    · rcases Int.le_total (bstL l k) (hh l k) with g | g
      · exact ⟨k, by omega, by omega⟩
      · by_cases h0 : k = 0
        · subst h0
          exact ⟨0, by omega, by have := hh_nn l 0; rw [bstL] at g ⊢; omega⟩
        · obtain ⟨i, g1, g2⟩ := h2 h0
          exact ⟨i, by omega, by omega⟩
/-- The walk with a memory, as the program does it. -/
def hF (f : Int → List (Int × Int) → Int × List (Int × Int)) : List Int → Int → List (Int × Int) → Int × List (Int × Int)
  | [], best, ps => (best, ps)
  | x :: r, best, ps => hF f r (max best (IntKind.i64.wrap (1 + (f x ps).1))) (f x ps).2
def hM (l : List (Int × Int)) : Nat → Int → List (Int × Int) → Int × List (Int × Int)
  | 0, _, ps => (0, ps)
  | f + 1, a, ps => bif (mget .ii a ps).isSome then ((mget .ii a ps).getD 0, ps)
    else ((hF (hM l f) (upL l a.toNat) 0 ps).1, mput .ii a (hF (hM l f) (upL l a.toNat) 0 ps).1 (hF (hM l f) (upL l a.toNat) 0 ps).2)
def okM (l : List (Int × Int)) (ps : List (Int × Int)) : Prop := ∀ p ∈ ps, 0 ≤ p.1 ∧ p.1 < l.length ∧ p.2 = hh l p.1.toNat
/-- Lists of concepts in their order: what covers comes earlier. -/
def goodL (l : List (Int × Int)) : Bool := allB (fun a => (upL l a).all (fun x => decide (0 ≤ x ∧ x < (a : Int)))) l.length 0
theorem good_at {l : List (Int × Int)} (h : goodL l = true) {a : Nat} (ha : a < l.length) {x : Int} (hx : x ∈ upL l a) : 0 ≤ x ∧ x < (a : Int) := by
  unfold goodL at h
  have := (allB_iff _ _ _).1 h a (by omega) (by omega)
  exact of_decide_eq_true (List.all_eq_true.1 this x hx)
theorem mget_ok {l ps : List (Int × Int)} (h : okM l ps) {a v : Int} : mget .ii a ps = some v → v = hh l a.toNat := by
  induction ps with
  | nil => intro g; cases g
  | cons p r ih =>
    intro g
    rw [mget] at g
    split at g
    · rename_i he
      have he : (a == p.1) = true := he
      have := (h p (by simp)).2.2
      rw [eq_of_beq he, ← Option.some.inj g]
      exact this
    · exact ih (fun q hq => h q (by simp [hq])) g
theorem mput_ok {l ps : List (Int × Int)} (h : okM l ps) {a : Int} (ha : 0 ≤ a ∧ a < l.length) : okM l (mput .ii a (hh l a.toNat) ps) := by
  induction ps with
  | nil =>
    intro p hp
    rw [mput] at hp
    rw [List.mem_singleton.1 hp]
    exact ⟨ha.1, ha.2, rfl⟩
  | cons p r ih =>
    rw [mput]
    split
    · intro q hq
      rcases List.mem_cons.1 hq with rfl | hq
      · exact ⟨ha.1, ha.2, rfl⟩
      · exact h q (by simp [hq])
    · intro q hq
      rcases List.mem_cons.1 hq with rfl | hq
      · exact h _ (by simp)
      · exact ih (fun q hq => h q (by simp [hq])) q hq
def mxL (l : List (Int × Int)) : List Int → Int → Int
  | [], b => b
  | x :: r, b => mxL l r (max b (1 + hh l x.toNat))
theorem mxL_spec (l : List (Int × Int)) : ∀ (us : List Int) (b : Int), b ≤ mxL l us b ∧ (∀ x ∈ us, 1 + hh l x.toNat ≤ mxL l us b) ∧ (mxL l us b = b ∨ ∃ x ∈ us, mxL l us b = 1 + hh l x.toNat)
  | [], b => ⟨Int.le_refl _, (fun x h => by cases h), .inl rfl⟩
  | x :: r, b => by
    obtain ⟨h1, h2, h3⟩ := mxL_spec l r (max b (1 + hh l x.toNat))
    rw [mxL]
    refine ⟨by omega, fun y hy => ?_, ?_⟩
    · rcases List.mem_cons.1 hy with rfl | hy
      · omega
      · exact h2 y hy
    · rcases h3 with h3 | ⟨y, hy, h3⟩
      · rcases Int.le_total b (1 + hh l x.toNat) with g | g
        · exact .inr ⟨x, by simp, by omega⟩
        · exact .inl (by omega)
      · exact .inr ⟨y, by simp [hy], h3⟩
theorem hM_ok {l : List (Int × Int)} (hl : l.length ≤ 64) (hg : goodL l = true) (hm : ∀ a : Nat, a < l.length → mxL l (upL l a) 0 = hh l a) : ∀ (f : Nat) (a : Int) (ps : List (Int × Int)), 0 ≤ a → a < l.length → a < f → okM l ps → (hM l f a ps).1 = hh l a.toNat ∧ okM l (hM l f a ps).2
  | 0, a, ps, h0, h1, h2, hp => by omega
  | f + 1, a, ps, h0, h1, h2, hp => by
    rw [hM]
    cases hs : (mget .ii a ps).isSome
    · rw [cond_false]
      have hF_ok : ∀ (us : List Int) (b : Int) (qs : List (Int × Int)), (∀ x ∈ us, 0 ≤ x ∧ x < a) → okM l qs → (hF (hM l f) us b qs).1 = mxL l us b ∧ okM l (hF (hM l f) us b qs).2 := by
        intro us
        induction us with
        | nil => intro b qs _ hq; exact ⟨rfl, hq⟩
        | cons x r ih =>
          intro b qs hx hq
          have hx1 := hx x (by simp)
          obtain ⟨e1, e2⟩ := hM_ok hl hg hm f x qs hx1.1 (by omega) (by omega) hq
          have hb := hh_ub l x.toNat
          have hn := hh_nn l x.toNat
          rw [hF, mxL, e1, wrap64 (n := 1 + hh l x.toNat) (by omega) (by omega)]
          exact ih _ _ (fun y hy => hx y (by simp [hy])) e2
      have ha : a.toNat < l.length := by omega
      obtain ⟨e1, e2⟩ := hF_ok (upL l a.toNat) 0 ps (fun x hx => by have := good_at hg ha hx; omega) hp
      rw [e1, hm _ ha]
      exact ⟨rfl, mput_ok e2 ⟨h0, h1⟩⟩
    · rw [cond_true]
      obtain ⟨v, hv⟩ := Option.isSome_iff_exists.1 hs
      rw [hv]
      exact ⟨mget_ok hp hv, hp⟩
theorem lec_sub : ∀ n : Fin 7, (lecL n.val).Pairwise (fun s t => (t &&& s == t) = false) := by decide +kernel
theorem und_sub {m : Int} {b : List Int} {x y : Nat} (hx : x < (concF m b).length) (hy : y < (concF m b).length) : undB (concF m b) x y = true ↔ SubN ((concF m b).getD x (0, 0)).1.toNat ((concF m b).getD y (0, 0)).1.toNat := by
  have rp := isSet_le (concF_mem (mem_getD (d := ((0, 0) : Int × Int)) hx)).2.2.1
  have rq := isSet_le (concF_mem (mem_getD (d := ((0, 0) : Int × Int)) hy)).2.2.1
  unfold undB
  exact bandSub ⟨rp.2.2.1, rp.2.2.2⟩ ⟨rq.2.2.1, rq.2.2.2⟩
theorem und_int {m : Int} {b : List Int} {x y : Nat} (hx : x < (concF m b).length) (hy : y < (concF m b).length) (h : undB (concF m b) x y = true) : SubN ((concF m b).getD y (0, 0)).2.toNat ((concF m b).getD x (0, 0)).2.toNat := by
  have hs := (und_sub hx hy).1 h
  obtain ⟨hc, p2, p3, p4, p5⟩ := concF_mem (mem_getD (d := ((0, 0) : Int × Int)) hx)
  obtain ⟨_, q2, q3, q4, q5⟩ := concF_mem (mem_getD (d := ((0, 0) : Int × Int)) hy)
  have hl := isCtx_len hc
  have hsm := ctx_small hc
  obtain ⟨_, _, ip⟩ := intentF_spec (m := m) ⟨hl.2.1, by omega⟩ hl.1 hsm (isSet_8 p3)
  obtain ⟨_, _, iq⟩ := intentF_spec (m := m) ⟨hl.2.1, by omega⟩ hl.1 hsm (isSet_8 q3)
  rw [p5] at ip
  rw [q5] at iq
  exact fun e he => (ip e).2 ⟨((iq e).1 he).1, fun k hk hkp => ((iq e).1 he).2 k hk (hs k hkp)⟩
theorem conc_pw (m : Int) (b : List Int) : (concF m b).Pairwise (fun p q => ¬ SubN q.2.toNat p.2.toNat) := by
  unfold concF
  cases h : isCtx m b
  · exact List.Pairwise.nil
  · have hl := isCtx_len h
    rw [cond_true]
    have h0 : (lecI m.toNat).Pairwise (fun s t => ¬ SubN t.toNat s.toNat) := by
      unfold lecI
      refine List.Pairwise.map _ (fun s t hst hsub => ?_) (lec_sub ⟨m.toNat, by omega⟩)
      have := and_sub.2 hsub
      rw [Int.toNat_natCast, Int.toNat_natCast] at this
      rw [this] at hst
      cases hst
    have h1 : ((lecI m.toNat).filter (closedI m b)).Pairwise (fun s t => ¬ SubN t.toNat s.toNat) := h0.sublist List.filter_sublist
    exact List.Pairwise.map _ (fun s t hst => hst) h1
theorem pw_at {α : Type} {R : α → α → Prop} {l : List α} (h : l.Pairwise R) (d : α) {i j : Nat} (hij : i < j) (hj : j < l.length) : R (l.getD i d) (l.getD j d) := by
  have e1 : l.getD i d = l[i]'(by omega) := by rw [List.getD_eq_getElem?_getD, List.getElem?_eq_getElem (by omega)]; rfl
  have e2 : l.getD j d = l[j]'hj := by rw [List.getD_eq_getElem?_getD, List.getElem?_eq_getElem (by omega)]; rfl
  rw [e1, e2]
  exact List.pairwise_iff_getElem.1 h i j (by omega) hj hij
theorem und_lt {m : Int} {b : List Int} {x y : Nat} (hx : x < (concF m b).length) (hy : y < (concF m b).length) (hne : x ≠ y) (h : undB (concF m b) x y = true) : y < x := by
  rcases Nat.lt_or_ge y x with g | g
  · exact g
  · exact absurd (und_int hx hy h) (pw_at (conc_pw m b) (0, 0) (show x < y by omega) hy)
theorem up_iff {m : Int} {b : List Int} {a : Nat} (ha : a < (concF m b).length) (x : Int) : x ∈ upL (concF m b) a ↔ ∃ j : Nat, x = j ∧ j < (concF m b).length ∧ covI (concF m b) a j = true := by
  have key : ∀ (f : Nat → Bool) (d i : Nat), x ∈ chsF f d i ↔ ∃ j : Nat, x = j ∧ i ≤ j ∧ j < i + d ∧ f j = true := by
    intro f d
    induction d with
    | zero =>
      intro i
      rw [chsF]
      constructor
      · intro h; cases h
      · rintro ⟨j, _, _, _, _⟩; omega
    | succ d ih =>
      intro i
      rw [chsF]
      cases hf : f i
      · rw [cond_false, ih]
        constructor
        · rintro ⟨j, rfl, h1, h2, h3⟩; exact ⟨j, rfl, by omega, by omega, h3⟩
        · rintro ⟨j, rfl, h1, h2, h3⟩
          have : j ≠ i := by rintro rfl; rw [hf] at h3; cases h3
          exact ⟨j, rfl, by omega, by omega, h3⟩
      · rw [cond_true, List.mem_cons, ih]
        constructor
        · rintro (rfl | ⟨j, rfl, h1, h2, h3⟩)
          · exact ⟨i, rfl, by omega, by omega, hf⟩
          · exact ⟨j, rfl, by omega, by omega, h3⟩
        · rintro ⟨j, rfl, h1, h2, h3⟩
          by_cases e : j = i
          · subst e; exact .inl rfl
          · exact .inr ⟨j, rfl, by omega, by omega, h3⟩
  unfold upL
  rw [key]
  constructor
  · rintro ⟨j, rfl, _, h2, h3⟩; exact ⟨j, rfl, by omega, h3⟩
  · rintro ⟨j, rfl, h2, h3⟩; exact ⟨j, rfl, by omega, by omega, h3⟩
theorem ud_iff {m : Int} {b : List Int} {x y : Nat} (hx : x < (concF m b).length) : udN (concF m b) x y = true ↔ x ≠ y ∧ undB (concF m b) x y = true := by
  unfold udN
  rw [blw_und (conc_exts m b) hx, Bool.and_eq_true]
  refine and_congr_left fun _ => ?_
  simp only [bne_iff_ne, ne_eq]
  constructor
  · intro h e; exact h (by rw [e])
  · intro h e; exact h (by omega)
theorem und_trans {m : Int} {b : List Int} {x y z : Nat} (hx : x < (concF m b).length) (hy : y < (concF m b).length) (hz : z < (concF m b).length) (h1 : undB (concF m b) x y = true) (h2 : undB (concF m b) y z = true) : undB (concF m b) x z = true :=
  (und_sub hx hz).2 fun i hi => (und_sub hy hz).1 h2 i ((und_sub hx hy).1 h1 i hi)
theorem cov_ud {l : List (Int × Int)} {a x : Nat} (h : covI l a x = true) : udN l a x = true := (Bool.and_eq_true_iff.1 h).1
theorem good_conc (m : Int) (b : List Int) : goodL (concF m b) = true := by
  unfold goodL
  rw [allB_iff]
  intro a _ ha
  rw [List.all_eq_true]
  intro x hx
  obtain ⟨j, rfl, hj, hc⟩ := (up_iff (show a < (concF m b).length by omega) x).1 hx
  obtain ⟨h1, h2⟩ := (ud_iff (show a < (concF m b).length by omega)).1 (cov_ud hc)
  have := und_lt (by omega) hj h1 h2
  exact decide_eq_true (by omega)
/-- Above each element that is under another there is a cover on the way. -/
theorem cov_ex {m : Int} {b : List Int} {a i : Nat} (ha : a < (concF m b).length) (hi : i < a) (hu : undB (concF m b) a i = true) : ∃ x : Nat, x < a ∧ covI (concF m b) a x = true ∧ (x = i ∨ (i < x ∧ undB (concF m b) x i = true)) := by
  -- the greatest index between
  have : ∀ d : Nat, ∀ j : Nat, a - j = d → j < a → undB (concF m b) a j = true → (j = i ∨ (i < j ∧ undB (concF m b) j i = true)) → ∃ x : Nat, x < a ∧ covI (concF m b) a x = true ∧ (x = i ∨ (i < x ∧ undB (concF m b) x i = true)) := by
    intro d
    induction d using Nat.strongRecOn with
    | ind d ih =>
      intro j hd hj huj hji
      cases hc : covI (concF m b) a j
      · -- some z strictly between
        have hud : udN (concF m b) a j = true := (ud_iff ha).2 ⟨by omega, huj⟩
        unfold covI at hc
        rw [hud, Bool.true_and, allN_all, ← Bool.not_eq_true, List.all_eq_true] at hc
        obtain ⟨z, hz⟩ := Classical.not_forall.1 hc
        obtain ⟨hz1, hz2⟩ := Classical.not_imp.1 hz
        have hzn : z < (concF m b).length := by
          have := List.mem_range'_1.1 hz1
          omega
        rw [Bool.not_eq_true', Bool.not_eq_false, Bool.and_eq_true] at hz2
        obtain ⟨g1, g2⟩ := (ud_iff ha).1 hz2.1
        obtain ⟨g3, g4⟩ := (ud_iff hzn).1 hz2.2
        have l1 := und_lt ha hzn g1 g2
        have l2 := und_lt hzn (by omega) g3 g4
        refine ih (a - z) (by omega) z rfl l1 g2 ?_
        rcases hji with rfl | ⟨k1, k2⟩
        · exact .inr ⟨l2, g4⟩
        · exact .inr ⟨by omega, und_trans hzn (by omega) (by omega) g4 k2⟩
      · exact ⟨j, hj, hc, hji⟩
  exact this _ i rfl hi hu (.inl rfl)
theorem mx_hh {m : Int} {b : List Int} {a : Nat} (ha : a < (concF m b).length) : mxL (concF m b) (upL (concF m b) a) 0 = hh (concF m b) a := by
  obtain ⟨h1, h2, h3⟩ := mxL_spec (concF m b) (upL (concF m b) a) 0
  have hn := hh_nn (concF m b) a
  have hle : mxL (concF m b) (upL (concF m b) a) 0 ≤ hh (concF m b) a := by
    rcases h3 with h3 | ⟨x, hx, h3⟩
    · omega
    · obtain ⟨j, rfl, hj, hc⟩ := (up_iff ha x).1 hx
      obtain ⟨g1, g2⟩ := (ud_iff ha).1 (cov_ud hc)
      have := hh_le (concF m b) (und_lt ha hj g1 g2) g2
      rw [Int.toNat_natCast] at h3
      omega
  rcases hh_at (concF m b) a with g | ⟨i, g1, g2, g3⟩
  · omega
  · obtain ⟨x, x1, x2, x3⟩ := cov_ex ha g1 g2
    have := h2 (x : Int) ((up_iff ha _).2 ⟨x, rfl, by omega, x2⟩)
    rw [Int.toNat_natCast] at this
    rcases x3 with rfl | ⟨k1, k2⟩
    · omega
    · have := hh_le (concF m b) k1 k2
      omega
/-- What the height is, both ways. -/
def hgtF (m : Int) (b : List Int) : Int := bstL (concF m b) (concF m b).length
theorem last_und {m : Int} {b : List Int} {n : Nat} (hn : (concF m b).length = n + 1) {i : Nat} (hi : i < n) : undB (concF m b) n i = true := by
  have hx : n < (concF m b).length := by omega
  have hy : i < (concF m b).length := by omega
  have hmx := mem_getD (d := ((0, 0) : Int × Int)) hx
  have hmy := mem_getD (d := ((0, 0) : Int × Int)) hy
  -- the meet of the two is a concept whose extent lies in the last one's
  obtain ⟨hc, p2, p3, p4, p5⟩ := concF_mem hmx
  obtain ⟨_, q2, q3, q4, q5⟩ := concF_mem hmy
  obtain ⟨z, hz, hze⟩ := meet_in hmx hmy true
  obtain ⟨j, hj, rfl⟩ : ∃ j, j < (concF m b).length ∧ (concF m b).getD j (0, 0) = z := by
    obtain ⟨k, hk, rfl⟩ := List.getElem_of_mem hz
    exact ⟨k, hk, by simp [List.getD, hk]⟩
  have hl := isCtx_len hc
  have hsm := ctx_small hc
  -- intents of both are parts of the meet's intent
  have rp := isSet_le p3
  have rq := isSet_le q3
  have hb8 := isSet8_band (isSet_8 p3) (isSet_8 q3)
  obtain ⟨_, _, ib⟩ := intentF_spec (m := m) ⟨hl.2.1, by omega⟩ hl.1 hsm hb8
  obtain ⟨_, _, ip⟩ := intentF_spec (m := m) ⟨hl.2.1, by omega⟩ hl.1 hsm (isSet_8 p3)
  obtain ⟨_, _, iq⟩ := intentF_spec (m := m) ⟨hl.2.1, by omega⟩ hl.1 hsm (isSet_8 q3)
  have hbb := (band_set (x := ((concF m b).getD n (0, 0)).1) (y := ((concF m b).getD i (0, 0)).1) ⟨by omega, by omega⟩ ⟨by omega, by omega⟩).2.2
  have hze' : ((concF m b).getD j (0, 0)).2 = intentF m b (band ((concF m b).getD n (0, 0)).1 ((concF m b).getD i (0, 0)).1) := hze
  rw [← hze', hbb] at ib
  rw [p5] at ip
  rw [q5] at iq
  have s1 : SubN ((concF m b).getD n (0, 0)).2.toNat ((concF m b).getD j (0, 0)).2.toNat := fun e he => (ib e).2 ⟨((ip e).1 he).1, fun k hk hkb => ((ip e).1 he).2 k hk (by rw [Nat.testBit_and, Bool.and_eq_true] at hkb; exact hkb.1)⟩
  have s2 : SubN ((concF m b).getD i (0, 0)).2.toNat ((concF m b).getD j (0, 0)).2.toNat := fun e he => (ib e).2 ⟨((iq e).1 he).1, fun k hk hkb => ((iq e).1 he).2 k hk (by rw [Nat.testBit_and, Bool.and_eq_true] at hkb; exact hkb.2)⟩
  have hjn : j = n := by
    rcases Nat.lt_or_ge j n with g | g
    · exact absurd s1 (pw_at (conc_pw m b) (0, 0) g hx)
    · omega
  subst hjn
  -- so the other's intent is a part of the last one's
  refine (und_sub hx hy).2 fun k hk => ?_
  have rp1 := isSet_le p2
  have rq1 := isSet_le q2
  obtain ⟨_, _, xp⟩ := extF_spec hl.1 hsm (s := ((concF m b).getD j (0, 0)).2.toNat) (by omega)
  obtain ⟨_, _, xq⟩ := extF_spec hl.1 hsm (s := ((concF m b).getD i (0, 0)).2.toNat) (by omega)
  rw [Int.toNat_of_nonneg (by omega), ← p4] at xp
  rw [Int.toNat_of_nonneg (by omega), ← q4] at xq
  exact (xq k).2 ⟨((xp k).1 hk).1, fun e he => ((xp k).1 hk).2 e (s2 e he)⟩
theorem hgt_impl {m : Int} {b : List Int} {n : Nat} (hn : (concF m b).length = n + 1) : (hM (concF m b) 64 (n : Int) []).1 = hgtF m b := by
  have hl := concF_len m b
  have h1 := (hM_ok hl (good_conc m b) (fun a ha => mx_hh ha) 64 (n : Int) [] (by omega) (by omega) (by omega) (fun p hp => by cases hp)).1
  rw [h1, Int.toNat_natCast]
  unfold hgtF
  obtain ⟨g1, g2⟩ := bst_spec (concF m b) (concF m b).length
  obtain ⟨i, i1, i2⟩ := g2 (by omega)
  have := g1 n (by omega)
  rcases Nat.lt_or_ge i n with h | h
  · have := hh_le (concF m b) h (last_und hn h)
    omega
  · have : i = n := by omega
    rw [this] at i2
    omega
theorem hgt_rng (m : Int) (b : List Int) : -1 ≤ hgtF m b ∧ hgtF m b ≤ 64 := by
  have hl := concF_len m b
  unfold hgtF
  by_cases h0 : (concF m b).length = 0
  · rw [h0, bstL]; omega
  · obtain ⟨i, i1, i2⟩ := (bst_spec (concF m b) (concF m b).length).2 h0
    have := hh_ub (concF m b) i
    have := hh_nn (concF m b) i
    omega
def edgL (l : List (Int × Int)) : Nat → Nat → Int → Int
  | 0, _, q => q
  | d + 1, i, q => edgL l d (i + 1) (IntKind.i64.wrap (q + ((upL l i).length : Int)))
def edgF (m : Int) (b : List Int) : Int := edgL (concF m b) (concF m b).length 0 0
def idealAt (b : List Int) (s : Int) (a : Nat) : Bool := !bitI s a || (band (b.getD a 0) s == b.getD a 0)
def ideal (b : List Int) (s : Int) : Bool := allB (idealAt b s) b.length 0
def idealsL (b : List Int) : Nat → Nat → List Int
  | 0, _ => []
  | d + 1, i => bif ideal b i then (i : Int) :: idealsL b d (i + 1) else idealsL b d (i + 1)
def idealsF (b : List Int) : List Int := bif isOrd b then idealsL b (2 ^ b.length) 0 else []
theorem idealsL_length (b : List Int) : ∀ (d i : Nat), (idealsL b d i).length ≤ d
  | 0, _ => Nat.le_refl 0
  | d + 1, i => by
    have := idealsL_length b d (i + 1)
    unfold idealsL
    cases ideal b i <;> simp <;> omega
theorem pow_le64 {n : Nat} (h : n ≤ 6) : 1 ≤ 2 ^ n ∧ 2 ^ n ≤ 64 := by
  have h : n = 0 ∨ n = 1 ∨ n = 2 ∨ n = 3 ∨ n = 4 ∨ n = 5 ∨ n = 6 := by omega
  rcases h with rfl | rfl | rfl | rfl | rfl | rfl | rfl <;> decide
theorem idealsF_length (b : List Int) : (idealsF b).length ≤ 64 := by
  unfold idealsF
  cases h : isOrd b
  · simp
  · unfold isOrd at h
    simp only [Bool.and_eq_true, decide_eq_true_eq] at h
    have h1 := idealsL_length b (2 ^ b.length) 0
    have h2 := pow_le64 h.1
    rw [cond_true]
    omega
theorem fullSet_nat {n : Nat} (h : n ≤ 6) : fullSet (n : Int) = ((2 ^ n - 1 : Nat) : Int) := by
  have h : n = 0 ∨ n = 1 ∨ n = 2 ∨ n = 3 ∨ n = 4 ∨ n = 5 ∨ n = 6 := by omega
  rcases h with rfl | rfl | rfl | rfl | rfl | rfl | rfl <;> decide
theorem isOrd_parts {b : List Int} (h : isOrd b = true) : b.length ≤ 6 ∧ allB (ordA b) b.length 0 = true := by
  unfold isOrd at h
  simp only [Bool.and_eq_true, decide_eq_true_eq] at h
  exact ⟨h.1, h.2.1⟩
def notIn (b : List Int) (s x : Int) : Bool := !(bnot (b.getD x.toNat 0) s == 0)
theorem ideal_any {b : List Int} (h : isOrd b = true) {s : Nat} (hs : s < 2 ^ b.length) : (elemsF s).any (notIn b s) = !ideal b s := by
  obtain ⟨hl, hA⟩ := isOrd_parts h
  rw [elems_all (isSet_nat hl hs)]
  congr 1
  unfold ideal
  refine allB_ext _ 0 (fun j h1 h2 => ?_)
  have hs := ordA_set hA (show j < b.length by omega)
  unfold notIn idealAt
  rw [Int.toNat_natCast, ← beq_bnot (isSet_8 hs)]
  cases bitI s j <;> simp
def ordHas (b : List Int) (g m : Int) : Bool := hasE (b.getD m.toNat 0) g
def rowsL (b : List Int) : Nat → Nat → List Int
  | 0, _ => []
  | d + 1, i => orF (ordHas b i) b.length 0 0 :: rowsL b d (i + 1)
theorem rowsL_length (b : List Int) : ∀ (d i : Nat), (rowsL b d i).length = d
  | 0, _ => rfl
  | d + 1, i => by rw [rowsL, List.length_cons, rowsL_length b d (i + 1)]
def ctxOrd (b : List Int) : Int × List Int × Bool := bif isOrd b then ((b.length : Int), rowsL b b.length 0, true) else (0, [], false)
theorem ctxOrd_len (b : List Int) : (ctxOrd b).2.1.length ≤ 8 := by
  unfold ctxOrd
  cases h : isOrd b
  · simp
  · have := isOrd_parts h
    simp [rowsL_length]
    omega
theorem rowsL_get (b : List Int) : ∀ (d i k : Nat), k < d → (rowsL b d i).getD k 0 = orF (ordHas b ((i + k : Nat) : Int)) b.length 0 0
  | 0, i, k, h => by omega
  | d + 1, i, 0, h => by rw [rowsL, List.getD_cons_zero, Nat.add_zero]
  | d + 1, i, k + 1, h => by
    rw [rowsL, List.getD_cons_succ, rowsL_get b d (i + 1) k (by omega)]
    congr 2
    omega
theorem ord_le {b : List Int} (h : isOrd b = true) : b.length ≤ 6 ∧ (∀ k : Nat, k < b.length → isSet b.length (b.getD k 0) = true) ∧ (∀ k : Nat, k < b.length → (b.getD k 0).toNat.testBit k = true) ∧
    (∀ m k g : Nat, m < b.length → k < b.length → (b.getD m 0).toNat.testBit k = true → (b.getD k 0).toNat.testBit g = true → (b.getD m 0).toNat.testBit g = true) := by
  obtain ⟨h1, h2⟩ := isOrd_parts h
  have h3 : allB (ordRow b) b.length 0 = true := by
    unfold isOrd at h
    simp only [Bool.and_eq_true] at h
    exact h.2.2
  have hs : ∀ k : Nat, k < b.length → isSet b.length (b.getD k 0) = true := fun k hk => ordA_set h2 hk
  refine ⟨h1, hs, fun k hk => ?_, fun m k g hm hk hmk hkg => ?_⟩
  · have := (allB_iff _ _ _).1 h2 k (by omega) (by omega)
    unfold ordA at this
    have := (Bool.and_eq_true_iff.1 this).2
    unfold bitI at this
    rw [Int.toNat_natCast] at this
    exact this
  · have := (allB_iff _ _ _).1 h3 m (by omega) (by omega)
    unfold ordRow at this
    have := (allB_iff _ _ _).1 this k (by omega) (by omega)
    unfold ordBad at this
    have hb : bitI (b.getD m 0) (k : Int) = true := by unfold bitI; rw [Int.toNat_natCast]; exact hmk
    rw [hb, Bool.true_and, Bool.not_eq_true', Bool.or_eq_false_iff] at this
    have h4 : band (b.getD k 0) (b.getD m 0) = b.getD k 0 := by simpa using this.1
    have r1 := isSet_le (hs k hk)
    have r2 := isSet_le (hs m hm)
    have h5 := (band_set (x := b.getD k 0) (y := b.getD m 0) ⟨by omega, by omega⟩ ⟨by omega, by omega⟩).2.2
    rw [h4] at h5
    rw [h5, Nat.testBit_and] at hkg
    exact (Bool.and_eq_true_iff.1 hkg).2
theorem set_bit {n : Nat} {s : Int} (h : isSet n s = true) {e : Nat} (he : s.toNat.testBit e = true) : e < n := by
  rcases Nat.lt_or_ge e n with h5 | h5
  · exact h5
  · have := isSet_bit h (e := e) (by omega)
    unfold bitI at this
    rw [Int.toNat_natCast, he] at this
    cases this
theorem row_bit {b : List Int} (h : isOrd b = true) {k : Nat} (hk : k < b.length) (m : Nat) : ((rowsL b b.length 0).getD k 0).toNat.testBit m = true ↔ m < b.length ∧ (b.getD m 0).toNat.testBit k = true := by
  obtain ⟨h1, h2, _, _⟩ := ord_le h
  rw [rowsL_get b b.length 0 k hk, Nat.zero_add, orF_bit _ _ _ _ _ (by omega) (by omega) (by omega)]
  simp only [Int.toNat_zero, Nat.zero_testBit, Bool.false_or, Nat.zero_add, Nat.zero_le, true_and, Bool.and_eq_true, decide_eq_true_eq]
  refine and_congr_right fun hm => ?_
  unfold ordHas
  rw [Int.toNat_natCast, hasE_bit (isSet_8 (h2 m hm)) (by omega) (by omega)]
  unfold bitI
  rw [Int.toNat_natCast]
theorem place_iff {b : List Int} (h : isOrd b = true) {k : Nat} (hk : k < b.length) {p : Int × Int} (hp : p ∈ concF b.length (rowsL b b.length 0)) :
    p.2 = (rowsL b b.length 0).getD k 0 ↔ p.1 = b.getD k 0 := by
  obtain ⟨h1, h2, h3, h4⟩ := ord_le h
  obtain ⟨c1, c2, c3, c4, c5⟩ := concF_mem hp
  have hl := isCtx_len c1
  have hlen : (rowsL b b.length 0).length = b.length := rowsL_length b _ _
  have hsm := ctx_small c1
  constructor
  · intro e
    have hR := small_getD hsm k
    have hx := extF_spec hl.1 hsm (s := ((rowsL b b.length 0).getD k 0).toNat) (by omega)
    rw [Int.toNat_of_nonneg hR.1] at hx
    have hr := isSet_le (h2 k hk)
    rw [c4, e]
    have : (extF (rowsL b b.length 0) ((rowsL b b.length 0).getD k 0)).toNat = (b.getD k 0).toNat := by
      apply Nat.eq_of_testBit_eq
      intro g
      rw [Bool.eq_iff_iff, hx.2.2 g, hlen]
      constructor
      · rintro ⟨g1, g2⟩
        exact ((row_bit h g1 k).1 (g2 k ((row_bit h hk k).2 ⟨hk, h3 k hk⟩))).2
      · intro hg
        have hgn := set_bit (h2 k hk) hg
        refine ⟨hgn, fun m hm => ?_⟩
        obtain ⟨m1, m2⟩ := (row_bit h hk m).1 hm
        exact (row_bit h hgn m).2 ⟨m1, h4 m k g m1 hk m2 hg⟩
    omega
  · intro e
    have hr := isSet_le (h2 k hk)
    have hR := small_getD hsm k
    have hi := intentF_spec (m := (b.length : Int)) ⟨by omega, by omega⟩ hl.1 hsm (t := b.getD k 0) (isSet_8 (h2 k hk))
    rw [← c5, e]
    have : (intentF (b.length : Int) (rowsL b b.length 0) (b.getD k 0)).toNat = ((rowsL b b.length 0).getD k 0).toNat := by
      apply Nat.eq_of_testBit_eq
      intro x
      rw [Bool.eq_iff_iff, hi.2.2 x, row_bit h hk, hlen]
      constructor
      · rintro ⟨g1, g2⟩
        refine ⟨by omega, ?_⟩
        exact ((row_bit h hk x).1 (g2 k hk (h3 k hk))).2
      · rintro ⟨g1, g2⟩
        refine ⟨by omega, fun g hg hgk => ?_⟩
        exact (row_bit h hg x).2 ⟨g1, h4 x k g g1 hk g2 hgk⟩
    omega
theorem firstI_congr {α : Type} {p q : α → Bool} : ∀ (l : List α) (i : Int), (∀ x ∈ l, p x = q x) → firstI p l i = firstI q l i
  | [], _, _ => rfl
  | x :: l, i, h => by rw [firstI, firstI, h x (by simp), firstI_congr l (i + 1) fun y hy => h y (by simp [hy])]
def placeF (b : List Int) (k : Int) : Int := bif isOrd b && decide (0 ≤ k ∧ k ≤ (b.length : Int) - 1) then firstI (fun p => p.2 == (rowsL b b.length 0).getD k.toNat 0) (concF b.length (rowsL b b.length 0)) 0 else -1
theorem placeF_ext {b : List Int} (h : isOrd b = true) {k : Int} (hk : 0 ≤ k ∧ k ≤ (b.length : Int) - 1) : placeF b k = firstI (fun p => p.1 == b.getD k.toNat 0) (concF b.length (rowsL b b.length 0)) 0 := by
  unfold placeF
  rw [h, dt hk, Bool.and_self, cond_true]
  refine firstI_congr _ _ fun p hp => ?_
  rw [Bool.eq_iff_iff, beq_iff_eq, beq_iff_eq]
  exact place_iff h (by omega) hp
def idlHas (b : List Int) (g m : Int) : Bool := !hasE (b.getD g.toNat 0) m
def rowsI (b : List Int) : Nat → Nat → List Int
  | 0, _ => []
  | d + 1, i => orF (idlHas b i) b.length 0 0 :: rowsI b d (i + 1)
theorem rowsI_length (b : List Int) : ∀ (d i : Nat), (rowsI b d i).length = d
  | 0, _ => rfl
  | d + 1, i => by rw [rowsI, List.length_cons, rowsI_length b d (i + 1)]
def ctxIdl (b : List Int) : Int × List Int × Bool := bif isOrd b then ((b.length : Int), rowsI b b.length 0, true) else (0, [], false)
theorem ctxIdl_len (b : List Int) : (ctxIdl b).2.1.length ≤ 8 := by
  unfold ctxIdl
  cases h : isOrd b
  · simp
  · have := isOrd_parts h
    simp [rowsI_length]
    omega
theorem rowsI_get (b : List Int) : ∀ (d i k : Nat), k < d → (rowsI b d i).getD k 0 = orF (idlHas b ((i + k : Nat) : Int)) b.length 0 0
  | 0, i, k, h => by omega
  | d + 1, i, 0, h => by rw [rowsI, List.getD_cons_zero, Nat.add_zero]
  | d + 1, i, k + 1, h => by
    rw [rowsI, List.getD_cons_succ, rowsI_get b d (i + 1) k (by omega)]
    congr 2
    omega
theorem rowI_bit {b : List Int} (h : isOrd b = true) {k : Nat} (hk : k < b.length) (m : Nat) : ((rowsI b b.length 0).getD k 0).toNat.testBit m = true ↔ m < b.length ∧ (b.getD k 0).toNat.testBit m = false := by
  obtain ⟨h1, h2, _, _⟩ := ord_le h
  rw [rowsI_get b b.length 0 k hk, Nat.zero_add, orF_bit _ _ _ _ _ (by omega) (by omega) (by omega)]
  simp only [Int.toNat_zero, Nat.zero_testBit, Bool.false_or, Nat.zero_add, Nat.zero_le, true_and, Bool.and_eq_true, decide_eq_true_eq]
  refine and_congr_right fun hm => ?_
  unfold idlHas
  rw [Int.toNat_natCast, hasE_bit (isSet_8 (h2 k hk)) (by omega) (by omega)]
  unfold bitI
  rw [Int.toNat_natCast, Bool.not_eq_true']
/-- Sets that hold with an element what is below it. -/
def DownN (b : List Int) (s : Nat) : Prop := ∀ g h : Nat, g < b.length → s.testBit g = true → (b.getD g 0).toNat.testBit h = true → s.testBit h = true
theorem ideal_down {b : List Int} (h : isOrd b = true) {s : Nat} (hs : s < 2 ^ b.length) : ideal b (s : Int) = true ↔ DownN b s := by
  obtain ⟨h1, h2, h3, h4⟩ := ord_le h
  have hpw : 2 ^ b.length ≤ 2 ^ 8 := Nat.pow_le_pow_right (by omega) (by omega)
  unfold ideal
  rw [allB_iff]
  constructor
  · intro g k j hk hb hj
    have := g k (by omega) (by omega)
    unfold idealAt bitI at this
    rw [Int.toNat_natCast, Int.toNat_natCast, hb] at this
    have h5 : band (b.getD k 0) (s : Int) = b.getD k 0 := by simpa using this
    have r1 := isSet_le (h2 k hk)
    have h6 := (band_set (x := b.getD k 0) (y := (s : Int)) ⟨by omega, by omega⟩ ⟨by omega, by omega⟩).2.2
    rw [h5] at h6
    rw [h6, Nat.testBit_and, Int.toNat_natCast] at hj
    exact (Bool.and_eq_true_iff.1 hj).2
  · intro g k hk hk'
    unfold idealAt bitI
    rw [Int.toNat_natCast, Int.toNat_natCast]
    cases hb : s.testBit k
    · rfl
    · rw [Bool.not_true, Bool.false_or, beq_iff_eq]
      have r1 := isSet_le (h2 k (by omega))
      obtain ⟨q1, q2, q3⟩ := band_set (x := b.getD k 0) (y := (s : Int)) ⟨by omega, by omega⟩ ⟨by omega, by omega⟩
      have : (b.getD k 0).toNat &&& ((s : Int)).toNat = (b.getD k 0).toNat := by
        apply Nat.eq_of_testBit_eq
        intro j
        rw [Nat.testBit_and, Int.toNat_natCast]
        cases hj : (b.getD k 0).toNat.testBit j
        · rfl
        · rw [g k j (by omega) hb hj]; rfl
      omega
theorem idealsL_mem (b : List Int) (x : Int) : ∀ (d i : Nat), x ∈ idealsL b d i ↔ ∃ s : Nat, x = s ∧ i ≤ s ∧ s < i + d ∧ ideal b (s : Int) = true
  | 0, i => by
    rw [idealsL]
    constructor
    · intro h; cases h
    · rintro ⟨s, _, _, _, _⟩; omega
  | d + 1, i => by
    rw [idealsL]
    have ih := idealsL_mem b x d (i + 1)
    cases hi : ideal b i
    · rw [cond_false, ih]
      constructor
      · rintro ⟨s, rfl, h1, h2, h3⟩; exact ⟨s, rfl, by omega, by omega, h3⟩
      · rintro ⟨s, rfl, h1, h2, h3⟩
        have : s ≠ i := by rintro rfl; rw [hi] at h3; cases h3
        exact ⟨s, rfl, by omega, by omega, h3⟩
    · rw [cond_true, List.mem_cons, ih]
      constructor
      · rintro (rfl | ⟨s, rfl, h1, h2, h3⟩)
        · exact ⟨i, rfl, by omega, by omega, hi⟩
        · exact ⟨s, rfl, by omega, by omega, h3⟩
      · rintro ⟨s, rfl, h1, h2, h3⟩
        by_cases e : s = i
        · subst e; exact .inl rfl
        · exact .inr ⟨s, rfl, by omega, by omega, h3⟩
theorem idealsL_nodup (b : List Int) : ∀ (d i : Nat), (idealsL b d i).Nodup
  | 0, _ => List.nodup_nil
  | d + 1, i => by
    rw [idealsL]
    cases ideal b i
    · rw [cond_false]; exact idealsL_nodup b d (i + 1)
    · rw [cond_true]
      refine List.nodup_cons.2 ⟨fun h => ?_, idealsL_nodup b d (i + 1)⟩
      obtain ⟨s, e, h1, _⟩ := (idealsL_mem b _ d (i + 1)).1 h
      omega
theorem ideals_mem {b : List Int} (h : isOrd b = true) (x : Int) : x ∈ idealsF b ↔ ∃ s : Nat, x = s ∧ s < 2 ^ b.length ∧ DownN b s := by
  unfold idealsF
  rw [h, cond_true, idealsL_mem]
  constructor
  · rintro ⟨s, rfl, _, h2, h3⟩
    exact ⟨s, rfl, by omega, (ideal_down h (by omega)).1 h3⟩
  · rintro ⟨s, rfl, h2, h3⟩
    exact ⟨s, rfl, by omega, by omega, (ideal_down h h2).2 h3⟩
theorem set_of {n : Nat} (hn : n ≤ 8) {x : Int} (h0 : 0 ≤ x) (h : ∀ i, x.toNat.testBit i = true → i < n) : isSet (n : Int) x = true := by
  have : x.toNat < 2 ^ n := by
    refine Nat.lt_pow_two_of_testBit _ fun i hi => ?_
    cases hb : x.toNat.testBit i
    · rfl
    · have := h i hb
      omega
  unfold isSet
  refine dt ⟨by omega, by omega, ?_⟩
  have e2 : ((2 ^ n : Nat) : Int) = (2 : Int) ^ n := by push_cast; rfl
  rw [Int.toNat_natCast, ← e2]
  omega
theorem mem_ex {l : List Int} {x : Int} (h : x ∈ l) : ∃ k, k < l.length ∧ l.getD k 0 = x := by
  obtain ⟨k, hk, rfl⟩ := List.getElem_of_mem h
  exact ⟨k, hk, by simp [List.getD, hk]⟩
theorem orF_nn (p : Int → Bool) {d : Nat} (h : d ≤ 8) : 0 ≤ orF p d 0 0 := by
  have : ∀ (d i : Nat) (acc : Int), i + d ≤ 8 → 0 ≤ acc → acc ≤ 255 → 0 ≤ orF p d i acc ∧ orF p d i acc ≤ 255 := orF_set p
  exact (this d 0 0 (by omega) (by omega) (by omega)).1
theorem ctx_o {b : List Int} (h : isOrd b = true) : isCtx (b.length : Int) (rowsL b b.length 0) = true := by
  obtain ⟨h1, h2, h3, h4⟩ := ord_le h
  unfold isCtx
  rw [dt (show 0 ≤ (b.length : Int) ∧ (b.length : Int) ≤ 6 by omega), dt (show (rowsL b b.length 0).length ≤ 8 by rw [rowsL_length]; omega), Bool.true_and, Bool.true_and, List.all_eq_true]
  intro x hx
  obtain ⟨k, hk, rfl⟩ := mem_ex hx
  rw [rowsL_length] at hk
  refine set_of (by omega) ?_ fun i hi => ((row_bit h hk i).1 hi).1
  rw [rowsL_get b b.length 0 k hk]
  exact orF_nn _ (by omega)
theorem ctx_i {b : List Int} (h : isOrd b = true) : isCtx (b.length : Int) (rowsI b b.length 0) = true := by
  obtain ⟨h1, h2, h3, h4⟩ := ord_le h
  unfold isCtx
  rw [dt (show 0 ≤ (b.length : Int) ∧ (b.length : Int) ≤ 6 by omega), dt (show (rowsI b b.length 0).length ≤ 8 by rw [rowsI_length]; omega), Bool.true_and, Bool.true_and, List.all_eq_true]
  intro x hx
  obtain ⟨k, hk, rfl⟩ := mem_ex hx
  rw [rowsI_length] at hk
  refine set_of (by omega) ?_ fun i hi => ((rowI_bit h hk i).1 hi).1
  rw [rowsI_get b b.length 0 k hk]
  exact orF_nn _ (by omega)
/-- A concept, its two sets as numbers below 2 ^ n, bit by bit. -/
theorem conc_bits {m : Int} {b : List Int} (hm : m = (b.length : Int)) {p : Int × Int} (hp : p ∈ concF m b) : ∃ s t : Nat, p = ((s : Int), (t : Int)) ∧ s < 2 ^ b.length ∧ t < 2 ^ b.length ∧
    (∀ g, s.testBit g = true ↔ g < b.length ∧ ∀ j, t.testBit j = true → (b.getD g 0).toNat.testBit j = true) ∧
    (∀ j, t.testBit j = true ↔ j < b.length ∧ ∀ g, g < b.length → s.testBit g = true → (b.getD g 0).toNat.testBit j = true) := by
  obtain ⟨h, p2, p3, p4, p5⟩ := concF_mem hp
  have hl := isCtx_len h
  have hsm := ctx_small h
  obtain ⟨t, ht, ht'⟩ := isSet_ex p2
  obtain ⟨s, hs, hs'⟩ := isSet_ex p3
  rw [Int.toNat_natCast] at hs'
  rw [hm, Int.toNat_natCast] at ht'
  have hpw : 2 ^ b.length ≤ 2 ^ 8 := Nat.pow_le_pow_right (by omega) hl.1
  obtain ⟨x1, x2, x3⟩ := extF_spec hl.1 hsm (s := t) (by omega)
  obtain ⟨c1, c2, c3⟩ := intentF_spec (m := m) ⟨hl.2.1, by omega⟩ hl.1 hsm (isSet_8 p3)
  rw [p5, ht, hs, Int.toNat_natCast, Int.toNat_natCast, hm] at c3
  rw [← ht, ← p4, hs, Int.toNat_natCast] at x3
  refine ⟨s, t, by rw [← hs, ← ht], hs', ht', fun g => ?_, fun j => ?_⟩
  · exact x3 g
  · rw [c3 j]
    refine and_congr_left fun _ => ?_
    omega
theorem conc_o {b : List Int} (h : isOrd b = true) {p : Int × Int} (hp : p ∈ concF (b.length : Int) (rowsL b b.length 0)) : ∃ s : Nat, p.1 = (s : Int) ∧ s < 2 ^ b.length ∧ DownN b s := by
  obtain ⟨h1, h2, h3, h4⟩ := ord_le h
  have hR := rowsL_length b b.length 0
  obtain ⟨s, t, rfl, hs, ht, e1, e2⟩ := conc_bits (by rw [hR]) hp
  rw [hR] at hs ht e1 e2
  refine ⟨s, rfl, hs, fun g k hg hsg hk => ?_⟩
  have hkn : k < b.length := set_bit (h2 g hg) hk
  refine (e1 k).2 ⟨hkn, fun j hj => ?_⟩
  have hr := ((e1 g).1 hsg).2 j hj
  obtain ⟨g1, g2⟩ := (row_bit h hg j).1 hr
  exact (row_bit h hkn j).2 ⟨g1, h4 j g k g1 hg g2 hk⟩
theorem conc_i {b : List Int} (h : isOrd b = true) {p : Int × Int} (hp : p ∈ concF (b.length : Int) (rowsI b b.length 0)) : ∃ s t : Nat, p = ((s : Int), (t : Int)) ∧ s < 2 ^ b.length ∧ DownN b s ∧ (∀ i, t.testBit i = true ↔ i < b.length ∧ s.testBit i = false) := by
  obtain ⟨h1, h2, h3, h4⟩ := ord_le h
  have hR := rowsI_length b b.length 0
  obtain ⟨s, t, rfl, hs, ht, e1, e2⟩ := conc_bits (by rw [hR]) hp
  rw [hR] at hs ht e1 e2
  have hd : DownN b s := by
    intro g k hg hsg hk
    have hkn : k < b.length := set_bit (h2 g hg) hk
    refine (e1 k).2 ⟨hkn, fun j hj => ?_⟩
    have hr := ((e1 g).1 hsg).2 j hj
    obtain ⟨g1, g2⟩ := (rowI_bit h hg j).1 hr
    refine (rowI_bit h hkn j).2 ⟨g1, ?_⟩
    cases hb : (b.getD k 0).toNat.testBit j
    · rfl
    · rw [h4 g k j hg hkn hk hb] at g2; cases g2
  refine ⟨s, t, rfl, hs, hd, fun i => ?_⟩
  rw [e2 i]
  refine and_congr_right fun hi => ?_
  constructor
  · intro g
    cases hb : s.testBit i
    · rfl
    · have := ((rowI_bit h hi i).1 (g i hi hb)).2
      rw [h3 i hi] at this
      cases this
  · intro g k hk hsk
    refine (rowI_bit h hk i).2 ⟨hi, ?_⟩
    cases hb : (b.getD k 0).toNat.testBit i
    · rfl
    · rw [hd k i hk hsk hb] at g; cases g
/-- What ideals have in common as objects: what lies in none of them. -/
theorem down_int {b : List Int} (h : isOrd b = true) {s : Nat} (hs : s < 2 ^ b.length) (hd : DownN b s) : ∃ t : Nat, intentF (b.length : Int) (rowsI b b.length 0) (s : Int) = (t : Int) ∧ t < 256 ∧ ∀ i, t.testBit i = true ↔ i < b.length ∧ s.testBit i = false := by
  obtain ⟨h1, h2, h3, h4⟩ := ord_le h
  have hc := ctx_i h
  have hl := isCtx_len hc
  have hsm := ctx_small hc
  have hR := rowsI_length b b.length 0
  have hpw : 2 ^ b.length ≤ 2 ^ 8 := Nat.pow_le_pow_right (by omega) (by omega)
  obtain ⟨c1, c2, c3⟩ := intentF_spec (m := (b.length : Int)) ⟨hl.2.1, by omega⟩ hl.1 hsm (t := (s : Int)) (by rw [isSet8]; exact dt (by omega))
  refine ⟨(intentF (b.length : Int) (rowsI b b.length 0) (s : Int)).toNat, by omega, by omega, fun i => ?_⟩
  rw [c3 i, hR, Int.toNat_natCast]
  constructor
  · rintro ⟨g1, g2⟩
    have hi : i < b.length := by omega
    refine ⟨hi, ?_⟩
    cases hb : s.testBit i
    · rfl
    · have := ((rowI_bit h hi i).1 (g2 i hi hb)).2
      rw [h3 i hi] at this
      cases this
  · rintro ⟨hi, g⟩
    refine ⟨by omega, fun k hk hsk => (rowI_bit h hk i).2 ⟨hi, ?_⟩⟩
    cases hb : (b.getD k 0).toNat.testBit i
    · rfl
    · rw [hd k i hk hsk hb] at g; cases g
theorem down_and {b : List Int} {s t : Nat} (hs : DownN b s) (ht : DownN b t) : DownN b (s &&& t) := by
  intro g k hg h1 h2
  rw [Nat.testBit_and, Bool.and_eq_true] at h1 ⊢
  exact ⟨hs g k hg h1.1 h2, ht g k hg h1.2 h2⟩
theorem ideal_conc {b : List Int} (h : isOrd b = true) {s : Nat} (hs : s < 2 ^ b.length) (hd : DownN b s) : ∃ p ∈ concF (b.length : Int) (rowsI b b.length 0), p.1 = (s : Int) := by
  have hc := ctx_i h
  have hl := isCtx_len hc
  have hpw : 2 ^ b.length ≤ 2 ^ 8 := Nat.pow_le_pow_right (by omega) (by rw [← rowsI_length b b.length 0]; exact hl.1)
  obtain ⟨t, h1, h2, h3⟩ := down_int h hs hd
  obtain ⟨g1, g2⟩ := int_cl hc (s := (s : Int)) (by rw [isSet8]; exact dt (by omega))
  have hm := conc_in hc g1 g2
  refine ⟨_, hm, ?_⟩
  obtain ⟨s', t', e, hs', hd', ht'⟩ := conc_i h hm
  have e1 := congrArg Prod.fst e
  have e2 : (t : Int) = (t' : Int) := h1.symm.trans (congrArg Prod.snd e)
  have e2 : t = t' := by omega
  rw [e1]
  subst e2
  have : s' = s := by
    apply Nat.eq_of_testBit_eq
    intro i
    rcases Nat.lt_or_ge i b.length with hi | hi
    · have := (ht' i).symm.trans (h3 i)
      cases q : s'.testBit i <;> cases q' : s.testBit i <;> simp [q, q', hi] at this ⊢
    · rw [Nat.testBit_lt_two_pow (Nat.lt_of_lt_of_le hs' (Nat.pow_le_pow_right (by omega) hi)), Nat.testBit_lt_two_pow (Nat.lt_of_lt_of_le hs (Nat.pow_le_pow_right (by omega) hi))]
  rw [this]
theorem ideals_conc {b : List Int} (h : isOrd b = true) (x : Int) : x ∈ (concF (b.length : Int) (rowsI b b.length 0)).map (·.1) ↔ x ∈ idealsF b := by
  rw [ideals_mem h]
  constructor
  · intro hx
    obtain ⟨p, hp, rfl⟩ := List.mem_map.1 hx
    obtain ⟨s, t, rfl, hs, hd, _⟩ := conc_i h hp
    exact ⟨s, rfl, hs, hd⟩
  · rintro ⟨s, rfl, hs, hd⟩
    obtain ⟨p, hp, e⟩ := ideal_conc h hs hd
    exact List.mem_map.2 ⟨p, hp, e⟩
theorem ideals_nodup {b : List Int} : (idealsF b).Nodup := by
  unfold idealsF
  cases isOrd b
  · exact List.nodup_nil
  · exact idealsL_nodup b _ _
theorem ideals_count {b : List Int} (h : isOrd b = true) : (concF (b.length : Int) (rowsI b b.length 0)).length = (idealsF b).length := by
  have := ((List.perm_ext_iff_of_nodup (conc_nodup _ _) ideals_nodup).2 (ideals_conc h)).length_eq
  rwa [List.length_map] at this
theorem compl_le {b : List Int} (h : isOrd b = true) : (concF (b.length : Int) (rowsL b b.length 0)).length ≤ (idealsF b).length := by
  have := subLen _ (idealsF b) (conc_nodup (b.length : Int) (rowsL b b.length 0)) fun x hx => by
    obtain ⟨p, hp, rfl⟩ := List.mem_map.1 hx
    exact (ideals_mem h _).2 (conc_o h hp)
  rwa [List.length_map] at this
theorem firstI_hit {α : Type} (p : α → Bool) (d : α) : ∀ (l : List α) (i : Int), l.any p = true → ∃ j : Nat, j < l.length ∧ firstI p l i = i + j ∧ p (l.getD j d) = true
  | [], _, h => by cases h
  | x :: l, i, h => by
    rw [firstI]
    cases hx : p x
    · rw [List.any_cons, hx, Bool.false_or] at h
      obtain ⟨j, h1, h2, h3⟩ := firstI_hit p d l (i + 1) h
      exact ⟨j + 1, by simp; omega, by rw [cond_false, h2]; omega, by rw [List.getD_cons_succ]; exact h3⟩
    · exact ⟨0, by simp, by rw [cond_true]; omega, by rw [List.getD_cons_zero]; exact hx⟩
theorem tabC_el {m : Int} {b : List Int} {p q : Int × Int} (hp : p ∈ concF m b) (hq : q ∈ concF m b) (meet : Bool) : ∃ j : Nat, j < (concF m b).length ∧ tabC m b (concF m b) meet p q = (j : Int) ∧ ((concF m b).getD j (0, 0)).2 = tabV m b meet p q := by
  obtain ⟨z, hz, he⟩ := meet_in hp hq meet
  obtain ⟨j, h1, h2, h3⟩ := firstI_hit (fun z => z.2 == tabV m b meet p q) (0, 0) (concF m b) 0 (List.any_eq_true.2 ⟨z, hz, beq_iff_eq.2 he⟩)
  exact ⟨j, h1, by unfold tabC; rw [h2]; omega, eq_of_beq h3⟩
theorem tab_get {m : Int} {b : List Int} {meet : Bool} {x y : Nat} (hx : x < (concF m b).length) (hy : y < (concF m b).length) : ((tabF m b meet).getD x []).getD y 0 = tabC m b (concF m b) meet ((concF m b).getD x (0, 0)) ((concF m b).getD y (0, 0)) := by
  unfold tabF
  rw [getD_map0 hx [] (0, 0)]
  unfold tabR
  rw [getD_map0 hy 0 (0, 0)]
theorem dist_i {b : List Int} (h : isOrd b = true) : lawV (b.length : Int) (rowsI b b.length 0) true = true := by
  have hc := ctx_i h
  have hn := (ord_le h).1
  have hpw : 2 ^ b.length ≤ 2 ^ 8 := Nat.pow_le_pow_right (by omega) (by omega)
  have key : lawX (tabF (b.length : Int) (rowsI b b.length 0) true) (tabF (b.length : Int) (rowsI b b.length 0) false) (concF (b.length : Int) (rowsI b b.length 0)) true = false := by
    refine anyN_false _ _ fun x _ hx => anyN_false _ _ fun y _ hy => anyN_false _ _ fun z _ hz => ?_
    rw [Nat.zero_add] at hx hy hz
    have mx := mem_getD (d := ((0, 0) : Int × Int)) hx
    have my := mem_getD (d := ((0, 0) : Int × Int)) hy
    have mz := mem_getD (d := ((0, 0) : Int × Int)) hz
    obtain ⟨j, j1, j2, j3⟩ := tabC_el my mz false
    obtain ⟨a, a1, a2, a3⟩ := tabC_el mx my true
    obtain ⟨c, c1, c2, c3⟩ := tabC_el mx mz true
    have mj := mem_getD (d := ((0, 0) : Int × Int)) j1
    unfold lawZ
    rw [Bool.true_or, Bool.true_and, tab_get hy hz, tab_get hx hy, tab_get hx hz, j2, a2, c2, Int.toNat_natCast, Int.toNat_natCast, Int.toNat_natCast, tab_get hx j1, tab_get a1 c1]
    refine bne_eq_false_iff_eq.2 ?_
    unfold tabC
    have e : tabV (b.length : Int) (rowsI b b.length 0) true ((concF (b.length : Int) (rowsI b b.length 0)).getD x (0, 0)) ((concF (b.length : Int) (rowsI b b.length 0)).getD j (0, 0)) = tabV (b.length : Int) (rowsI b b.length 0) false ((concF (b.length : Int) (rowsI b b.length 0)).getD a (0, 0)) ((concF (b.length : Int) (rowsI b b.length 0)).getD c (0, 0)) := by
      unfold tabV at j3 a3 c3 ⊢
      rw [cond_false] at j3 ⊢
      rw [cond_true] at a3 c3 ⊢
      rw [a3, c3]
      obtain ⟨sx, tx, ex, hsx, hdx, hbx⟩ := conc_i h mx
      obtain ⟨sy, ty, ey, hsy, hdy, hby⟩ := conc_i h my
      obtain ⟨sz, tz, ez, hsz, hdz, hbz⟩ := conc_i h mz
      obtain ⟨sj, tj, ej, hsj, hdj, hbj⟩ := conc_i h mj
      rw [ey, ez, ej] at j3
      rw [ex, ej, ey, ez]
      simp only at j3 ⊢
      have lt_of : ∀ t s : Nat, (∀ i, t.testBit i = true ↔ i < b.length ∧ s.testBit i = false) → t < 256 := by
        intro t s ht
        refine Nat.lt_of_lt_of_le (Nat.lt_pow_two_of_testBit (n := b.length) _ fun i hi => ?_) hpw
        cases hb : t.testBit i
        · rfl
        · have := ((ht i).1 hb).1; omega
      rw [band_nat (lt_of _ _ hby) (lt_of _ _ hbz)] at j3
      have hj : tj = ty &&& tz := by omega
      rw [band_nat (x := sx) (y := sj) (by omega) (by omega), band_nat (x := sx) (y := sy) (by omega) (by omega), band_nat (x := sx) (y := sz) (by omega) (by omega)]
      have hle : ∀ u v : Nat, u < 2 ^ b.length → u &&& v < 2 ^ b.length := fun u v hu => Nat.lt_of_le_of_lt Nat.and_le_left hu
      obtain ⟨t1, e1, l1, b1⟩ := down_int h (hle sx sj hsx) (down_and hdx hdj)
      obtain ⟨t2, e2, l2, b2⟩ := down_int h (hle sx sy hsx) (down_and hdx hdy)
      obtain ⟨t3, e3, l3, b3⟩ := down_int h (hle sx sz hsx) (down_and hdx hdz)
      rw [e1, e2, e3, band_nat l2 l3]
      have : t1 = t2 &&& t3 := by
        apply Nat.eq_of_testBit_eq
        intro i
        rw [Bool.eq_iff_iff, Nat.testBit_and t2 t3 i, Bool.and_eq_true, b1 i, b2 i, b3 i, Nat.testBit_and, Nat.testBit_and, Nat.testBit_and]
        have q1 := hbj i
        rw [hj, Nat.testBit_and, Bool.and_eq_true, hby i, hbz i] at q1
        by_cases hin : i < b.length
        · simp only [hin, true_and] at q1 ⊢
          revert q1
          cases sx.testBit i <;> cases sy.testBit i <;> cases sz.testBit i <;> cases sj.testBit i <;> simp
        · simp [hin]
      rw [this]
    rw [e]
  unfold lawV
  rw [key, cond_false]
  exact hc
/-- The order lies in its completion as it is. -/
theorem row_int {b : List Int} (h : isOrd b = true) {k : Nat} (hk : k < b.length) : intentF (b.length : Int) (rowsL b b.length 0) (b.getD k 0) = (rowsL b b.length 0).getD k 0 := by
  obtain ⟨h1, h2, h3, h4⟩ := ord_le h
  have hc := ctx_o h
  have hl := isCtx_len hc
  have hlen : (rowsL b b.length 0).length = b.length := rowsL_length b _ _
  have hsm := ctx_small hc
  have hr := isSet_le (h2 k hk)
  have hR := small_getD hsm k
  have hi := intentF_spec (m := (b.length : Int)) ⟨by omega, by omega⟩ hl.1 hsm (t := b.getD k 0) (isSet_8 (h2 k hk))
  have : (intentF (b.length : Int) (rowsL b b.length 0) (b.getD k 0)).toNat = ((rowsL b b.length 0).getD k 0).toNat := by
    apply Nat.eq_of_testBit_eq
    intro x
    rw [Bool.eq_iff_iff, hi.2.2 x, row_bit h hk, hlen]
    constructor
    · rintro ⟨g1, g2⟩
      refine ⟨by omega, ?_⟩
      exact ((row_bit h hk x).1 (g2 k hk (h3 k hk))).2
    · rintro ⟨g1, g2⟩
      refine ⟨by omega, fun g hg hgk => ?_⟩
      exact (row_bit h hg x).2 ⟨g1, h4 x k g g1 hk g2 hgk⟩
  omega
theorem place_in {b : List Int} (h : isOrd b = true) {k : Nat} (hk : k < b.length) : ∃ j : Nat, placeF b (k : Int) = (j : Int) ∧ j < (concF (b.length : Int) (rowsL b b.length 0)).length ∧ ((concF (b.length : Int) (rowsL b b.length 0)).getD j (0, 0)).1 = b.getD k 0 := by
  have hc := ctx_o h
  obtain ⟨h1, h2, h3, h4⟩ := ord_le h
  obtain ⟨g1, g2⟩ := int_cl hc (s := b.getD k 0) (isSet_8 (h2 k hk))
  rw [row_int h hk] at g1 g2
  have hm := conc_in hc g1 g2
  have he := (place_iff h hk hm).1 rfl
  obtain ⟨j, j1, j2, j3⟩ := firstI_hit (fun p => p.1 == b.getD k 0) (0, 0) (concF (b.length : Int) (rowsL b b.length 0)) 0 (List.any_eq_true.2 ⟨_, hm, beq_iff_eq.2 he⟩)
  refine ⟨j, ?_, j1, eq_of_beq j3⟩
  rw [placeF_ext h (by omega), Int.toNat_natCast, j2]
  omega
theorem place_below {b : List Int} (h : isOrd b = true) {x y : Nat} (hx : x < b.length) (hy : y < b.length) : hasE (b.getD y 0) (x : Int) = belowB (concF (b.length : Int) (rowsL b b.length 0)) (placeF b x) (placeF b y) := by
  obtain ⟨h1, h2, h3, h4⟩ := ord_le h
  obtain ⟨i, i1, i2, i3⟩ := place_in h hx
  obtain ⟨j, j1, j2, j3⟩ := place_in h hy
  unfold belowB
  rw [i1, j1, inC_iff.2 (by omega), inC_iff.2 (by omega), cond_true, cond_true, Int.toNat_natCast, Int.toNat_natCast, i3, j3, hasE_bit (isSet_8 (h2 y hy)) (by omega) (by omega)]
  unfold bitI
  rw [Int.toNat_natCast]
  obtain ⟨s, hs, hs'⟩ := isSet_ex (h2 x hx)
  obtain ⟨t, ht, ht'⟩ := isSet_ex (h2 y hy)
  have hpw : 2 ^ b.length ≤ 2 ^ 8 := Nat.pow_le_pow_right (by omega) (by omega)
  rw [Int.toNat_natCast] at hs' ht'
  have k4 := fun g => h4 y x g hy hx
  have k3 := h3 x hx
  rw [hs, Int.toNat_natCast] at k3
  rw [ht, hs, Int.toNat_natCast, Int.toNat_natCast] at k4
  rw [hs, ht, Int.toNat_natCast, band_nat (by omega) (by omega), Bool.eq_iff_iff, beq_iff_eq]
  constructor
  · intro g
    have : s &&& t = s := by
      apply Nat.eq_of_testBit_eq
      intro e
      rw [Nat.testBit_and]
      cases hb : s.testBit e
      · rfl
      · rw [k4 e g hb]; rfl
    rw [this]
  · intro g
    have g : s &&& t = s := by omega
    have := congrArg (fun z => Nat.testBit z x) g
    simp only [Nat.testBit_and, k3, Bool.true_and] at this
    exact this
def inlF (m : Int) (a : List Int) : List Int := (concF m a).map (·.2)
def missF (a b : List Int) : List Int := a.filter (fun v => !b.any (fun y => y == v))
def onlyF (m : Int) (a : List Int) (m' : Int) (b : List Int) : List Int := (inlF m a).filter (fun v => !((isCtx m' b && isSet m' v) && closedI m' b v))
theorem inlF_len (m : Int) (a : List Int) : (inlF m a).length ≤ 64 := by
  unfold inlF
  rw [List.length_map]
  exact concF_len m a
theorem missF_len (a b : List Int) : (missF a b).length ≤ a.length := List.length_filter_le _ _
theorem lecI_of_set {m v : Int} (hm : 0 ≤ m ∧ m ≤ 6) (h : isSet m v = true) : v ∈ lecI m.toNat := by
  obtain ⟨s, rfl, hs⟩ := isSet_ex h
  unfold lecI
  exact List.mem_map.2 ⟨s, (lecL_mem (by omega)).2 hs, rfl⟩
theorem inlF_any (m : Int) (b : List Int) (v : Int) : (inlF m b).any (fun y => y == v) = ((isCtx m b && isSet m v) && closedI m b v) := by
  unfold inlF concF
  cases hc : isCtx m b with
  | false => rfl
  | true =>
    have hl := isCtx_len hc
    rw [cond_true, Bool.true_and, Bool.eq_iff_iff, List.any_eq_true, Bool.and_eq_true]
    constructor
    · rintro ⟨y, hy, hv⟩
      obtain ⟨p, hp, rfl⟩ := List.mem_map.1 hy
      obtain ⟨x, hx, rfl⟩ := List.mem_map.1 hp
      have hx := List.mem_filter.1 hx
      have e : x = v := eq_of_beq hv
      subst e
      exact ⟨(lecI_isSet ⟨by omega, by omega⟩ hx.1).1, hx.2⟩
    · rintro ⟨h1, h2⟩
      refine ⟨v, List.mem_map.2 ⟨pairI b v, List.mem_map.2 ⟨v, List.mem_filter.2 ⟨lecI_of_set ⟨by omega, by omega⟩ h1, h2⟩, rfl⟩, rfl⟩, ?_⟩
      exact beq_self_eq_true v
theorem miss_only (m : Int) (a : List Int) (m' : Int) (b : List Int) : onlyF m a m' b = missF (inlF m a) (inlF m' b) := by
  unfold onlyF missF
  refine List.filter_congr fun v _ => ?_
  rw [inlF_any]
def notObj (m : Int) (b : List Int) (g : Int) : Bool := !(isCtx m b && decide (0 ≤ g ∧ g ≤ (b.length : Int) - 1))
def andRows (b : List Int) : List Int → Int → Int
  | [], acc => acc
  | g :: r, acc => andRows b r (band acc (b.getD g.toNat 0))
def sharedF (m : Int) (b : List Int) (l : List Int) : Int :=
  if isCtx m b && !l.any (notObj m b) then cntF (andRows b l (fullSet m)) else -1
def dropL (s : Int) : List Int → Nat → List Int
  | [], _ => []
  | x :: l, i => bif hasE s (i : Int) then dropL s l (i + 1) else x :: dropL s l (i + 1)
theorem dropL_len (s : Int) : ∀ (l : List Int) (i : Nat), (dropL s l i).length ≤ l.length
  | [], _ => Nat.le_refl 0
  | x :: l, i => by
    have := dropL_len s l (i + 1)
    unfold dropL
    cases hasE s (i : Int) <;> simp <;> omega
def lostF (m : Int) (b : List Int) (g : Int) : List Int := bif notObj m b g then [] else missF (inlF m b) (inlF m (dropL ((2 ^ g.toNat : Nat) : Int) b 0))
theorem lostF_len (m : Int) (b : List Int) (g : Int) : (lostF m b g).length ≤ 64 := by
  unfold lostF
  cases notObj m b g
  · have h1 := missF_len (inlF m b) (inlF m (dropL ((2 ^ g.toNat : Nat) : Int) b 0))
    have h2 := inlF_len m b
    rw [cond_false]
    omega
  · simp
theorem isSet_one {n g : Nat} (hn : n ≤ 8) (hg : g < n) : isSet n ((2 ^ g : Nat) : Int) = true := by
  have h1 : 2 ^ g < 2 ^ n := Nat.pow_lt_pow_right (by omega) hg
  unfold isSet
  have e2 : ((2 ^ n : Nat) : Int) = (2 : Int) ^ n := by push_cast; rfl
  have h0 : (0 : Int) ≤ ((2 ^ g : Nat) : Int) := Int.natCast_nonneg _
  refine dt ⟨⟨by omega, by omega⟩, h0, ?_⟩
  rw [Int.toNat_natCast, ← e2]
  omega
def renS (s e q : Int) (k : Nat) : Int := bor q (IntKind.i64.wrap (band (s.fdiv (2 ^ min e.toNat IntKind.i64.bits)) 1 * 2 ^ min (k : Int).toNat IntKind.i64.bits))
def renL (s : Int) : List Int → Nat → Int → Int
  | [], _, q => q
  | e :: l, k, q => renL s l (k + 1) (renS s e q k)
def renF (s c : Int) : Int := renL s (elemsF c) 0 0
theorem ren_all : ∀ m : Fin 7, ∀ x : Fin 64, x.val < 2 ^ m.val → renF (x.val : Int) (bnot (fullSet (m.val : Int)) 0) = (x.val : Int) := by decide +kernel
theorem cnt_all : ∀ m : Fin 7, cntF (bnot (fullSet (m.val : Int)) 0) = (m.val : Int) := by decide +kernel
theorem ren_id {m x : Int} (hm : m ≤ 6) (h : isSet m x = true) : renF x (bnot (fullSet m) 0) = x := by
  have hl := isSet_le h
  obtain ⟨t, rfl, ht⟩ := isSet_ex h
  obtain ⟨n, rfl⟩ : ∃ n : Nat, m = n := ⟨m.toNat, by omega⟩
  rw [Int.toNat_natCast] at ht
  have h6 : 2 ^ n ≤ 2 ^ 6 := Nat.pow_le_pow_right (by omega) (by omega)
  exact ren_all ⟨n, by omega⟩ ⟨t, by omega⟩ ht
theorem cnt_id {m : Int} (h0 : 0 ≤ m) (hm : m ≤ 6) : cntF (bnot (fullSet m) 0) = m := by
  obtain ⟨n, rfl⟩ : ∃ n : Nat, m = n := ⟨m.toNat, by omega⟩
  exact cnt_all ⟨n, by omega⟩
theorem bit01_all : ∀ s : Fin 256, ∀ e : Fin 9, band ((s.val : Int).fdiv (2 ^ min ((e.val : Int)).toNat IntKind.i64.bits)) 1 = bif s.val.testBit e.val then 1 else 0 := by decide +kernel
theorem renS_eq {s e q : Int} (hs : 0 ≤ s ∧ s ≤ 255) (he : 0 ≤ e ∧ e ≤ 8) (hq : 0 ≤ q ∧ q ≤ 255) {k : Nat} (hk : k ≤ 7) : renS s e q k = bif s.toNat.testBit e.toNat then bor q ((2 ^ k : Nat) : Int) else q := by
  have h := bit01_all ⟨s.toNat, by omega⟩ ⟨e.toNat, by omega⟩
  simp only [Int.toNat_of_nonneg hs.1, Int.toNat_of_nonneg he.1] at h
  unfold renS
  rw [h]
  cases s.toNat.testBit e.toNat with
  | true => rw [cond_true, cond_true, shl1 (by omega)]
  | false =>
    rw [cond_false, cond_false]
    obtain ⟨q, rfl⟩ : ∃ n : Nat, q = n := ⟨q.toNat, by omega⟩
    have e0 : IntKind.i64.wrap (0 * 2 ^ min (k : Int).toNat IntKind.i64.bits) = ((0 : Nat) : Int) := by rw [Int.zero_mul]; rfl
    rw [e0, bor_nat (by omega) (by omega), Nat.or_zero]
def pckL (s : Int) : List Int → Nat → Int → Int
  | [], _, q => q
  | e :: l, k, q => pckL s l (k + 1) (bif s.toNat.testBit e.toNat then bor q ((2 ^ k : Nat) : Int) else q)
theorem pck_step {s e q : Int} (hq : 0 ≤ q ∧ q ≤ 255) {k : Nat} (hk : k ≤ 7) : 0 ≤ (bif s.toNat.testBit e.toNat then bor q ((2 ^ k : Nat) : Int) else q) ∧ (bif s.toNat.testBit e.toNat then bor q ((2 ^ k : Nat) : Int) else q) ≤ 255 := by
  have hp : 2 ^ k ≤ 2 ^ 7 := Nat.pow_le_pow_right (by omega) hk
  have hb := bor_set (x := q) (y := ((2 ^ k : Nat) : Int)) hq ⟨Int.natCast_nonneg _, Int.ofNat_le.2 (by omega : 2 ^ k ≤ 255)⟩
  cases s.toNat.testBit e.toNat
  · exact hq
  · exact hb
theorem renL_pck {s : Int} (hs : 0 ≤ s ∧ s ≤ 255) : ∀ (l : List Int) (k : Nat) (q : Int), (∀ x ∈ l, 0 ≤ x ∧ x ≤ 7) → k + l.length ≤ 8 → (0 ≤ q ∧ q ≤ 255) → renL s l k q = pckL s l k q
  | [], _, _, _, _, _ => rfl
  | e :: l, k, q, hl, hk, hq => by
    simp only [List.length_cons] at hk
    have he := hl e (by simp)
    rw [renL, pckL, renS_eq hs ⟨he.1, by omega⟩ hq (by omega)]
    exact renL_pck hs l (k + 1) _ (fun x hx => hl x (by simp [hx])) (by omega) (pck_step hq (by omega))
theorem pckL_bit (s : Int) : ∀ (l : List Int) (k : Nat) (q : Int), k + l.length ≤ 8 → (0 ≤ q ∧ q ≤ 255) → (0 ≤ pckL s l k q ∧ pckL s l k q ≤ 255) ∧
    ∀ i, (pckL s l k q).toNat.testBit i = (q.toNat.testBit i || (decide (k ≤ i ∧ i < k + l.length) && s.toNat.testBit (l.getD (i - k) 0).toNat))
  | [], k, q, _, hq => ⟨hq, fun i => by rw [pckL, df (by simp)]; simp⟩
  | e :: l, k, q, hk, hq => by
    simp only [List.length_cons] at hk
    have hst := pck_step (s := s) (e := e) hq (show k ≤ 7 by omega)
    obtain ⟨h1, h2⟩ := pckL_bit s l (k + 1) _ (by omega) hst
    rw [pckL]
    refine ⟨h1, fun i => ?_⟩
    rw [h2 i]
    have hp : 2 ^ k ≤ 2 ^ 7 := Nat.pow_le_pow_right (by omega) (by omega)
    have hbit : (bif s.toNat.testBit e.toNat then bor q ((2 ^ k : Nat) : Int) else q).toNat.testBit i = (q.toNat.testBit i || (decide (i = k) && s.toNat.testBit e.toNat)) := by
      cases s.toNat.testBit e.toNat with
      | false => rw [cond_false, Bool.and_false, Bool.or_false]
      | true =>
        rw [cond_true, Bool.and_true]
        obtain ⟨q, rfl⟩ : ∃ n : Nat, q = n := ⟨q.toNat, by omega⟩
        rw [bor_nat (by omega) (by omega), Int.toNat_natCast, Int.toNat_natCast, Nat.testBit_or, Nat.testBit_two_pow]
        congr 1
        exact decide_eq_decide.2 ⟨fun h => h.symm, fun h => h.symm⟩
    rw [hbit, Bool.or_assoc]
    congr 1
    by_cases hi : i = k
    · subst hi
      have e1 : decide (i + 1 ≤ i ∧ i < i + 1 + l.length) = false := df (by omega)
      have e2 : decide (i ≤ i ∧ i < i + (e :: l).length) = true := dt ⟨Nat.le_refl _, by simp only [List.length_cons]; omega⟩
      rw [e1, e2, Nat.sub_self]
      simp
    · rw [df hi]
      by_cases hr : k + 1 ≤ i ∧ i < k + 1 + l.length
      · rw [dt hr, dt (show k ≤ i ∧ i < k + (e :: l).length by simp only [List.length_cons]; omega)]
        obtain ⟨j, rfl⟩ : ∃ j, i = k + 1 + j := ⟨i - (k + 1), by omega⟩
        rw [show k + 1 + j - (k + 1) = j by omega, show k + 1 + j - k = j + 1 by omega, List.getD_cons_succ]
        simp
      · rw [df hr, df (show ¬ (k ≤ i ∧ i < k + (e :: l).length) by simp only [List.length_cons]; omega)]
        simp
def leftF (m t : Int) : Int := bnot (fullSet m) t
def wthF (m : Int) (b : List Int) (s t : Int) : List Int := (dropL s b 0).map (fun x => renF x (leftF m t))
def clarR (b : List Int) : List Int := dropL (repF b) b 0
def clarF (m : Int) (b : List Int) : Int × List Int × Bool :=
  bif isCtx m b then (cntF (leftF m (repF (colsF m (clarR b)))), wthF m (clarR b) 0 (repF (colsF m (clarR b))), true) else (0, [], false)
theorem hasE_zero (i : Int) : hasE 0 i = false := by
  unfold hasE
  simp
theorem dropL_zero : ∀ (l : List Int) (i : Nat), dropL 0 l i = l
  | [], _ => rfl
  | x :: l, i => by rw [dropL, hasE_zero, cond_false, dropL_zero l (i + 1)]
theorem dropL_mem (s : Int) : ∀ (l : List Int) (i : Nat) (x : Int), x ∈ dropL s l i → x ∈ l
  | [], _, _, h => h
  | y :: l, i, x, h => by
    unfold dropL at h
    cases hE : hasE s (i : Int)
    · rw [hE, cond_false] at h
      rcases List.mem_cons.1 h with rfl | h
      · simp
      · exact List.mem_cons_of_mem _ (dropL_mem s l (i + 1) x h)
    · rw [hE, cond_true] at h
      exact List.mem_cons_of_mem _ (dropL_mem s l (i + 1) x h)
theorem dropL_ctx {m : Int} {b : List Int} (h : isCtx m b = true) (s : Int) : isCtx m (dropL s b 0) = true := by
  have hl := isCtx_len h
  have := dropL_len s b 0
  unfold isCtx
  rw [decide_eq_true (show 0 ≤ m ∧ m ≤ 6 by omega), decide_eq_true (show (dropL s b 0).length ≤ 8 by omega), List.all_eq_true.2 fun x hx => hl.2.2.2 x (dropL_mem s b 0 x hx)]
  rfl
theorem wth_zero {m : Int} {b : List Int} (h : isCtx m b = true) (s : Int) : wthF m b s 0 = dropL s b 0 := by
  have hl := isCtx_len h
  unfold wthF leftF
  refine (List.map_congr_left fun x hx => ?_).trans (List.map_id _)
  exact ren_id hl.2.2.1 (hl.2.2.2 x (dropL_mem s b 0 x hx))
theorem cnt_elems_all : ∀ c : Fin 256, cntF (c.val : Int) = ((elemsF (c.val : Int)).length : Int) := by decide +kernel
theorem cnt_elems {c : Int} (h : 0 ≤ c ∧ c ≤ 255) : cntF c = ((elemsF c).length : Int) := by
  have := cnt_elems_all ⟨c.toNat, by omega⟩
  simp only [Int.toNat_of_nonneg h.1] at this
  exact this
theorem leftF_bits {m t : Int} (hm : 0 ≤ m ∧ m ≤ 6) (ht : 0 ≤ t ∧ t ≤ 255) : (0 ≤ leftF m t ∧ leftF m t ≤ 255) ∧ ∀ i, (leftF m t).toNat.testBit i = (decide ((i : Int) < m) && !t.toNat.testBit i) := by
  have hf := fullSet_rng m
  have hb := fun i => fullSet_bit hm.1 (by omega : m ≤ 8) i
  unfold leftF
  obtain ⟨f, hfn⟩ : ∃ n : Nat, fullSet m = n := ⟨(fullSet m).toNat, by omega⟩
  obtain ⟨t, rfl⟩ : ∃ n : Nat, t = n := ⟨t.toNat, by omega⟩
  rw [hfn] at hf hb ⊢
  have key : bnot (f : Int) (t : Int) = ((f &&& (255 ^^^ t) : Nat) : Int) := by
    unfold bnot
    have e : (BitVec.ofInt 64 (f : Int) &&& ~~~(BitVec.ofInt 64 (t : Int))).toNat = f &&& (255 ^^^ t) := by
      apply Nat.eq_of_testBit_eq
      intro i
      rw [← BitVec.getLsbD, BitVec.getLsbD_and, BitVec.getLsbD_not, Nat.testBit_and, Nat.testBit_xor, ofInt_nat, ofInt_nat, BitVec.getLsbD_ofNat, BitVec.getLsbD_ofNat]
      rw [show (255 : Nat) = 2 ^ 8 - 1 from rfl, Nat.testBit_two_pow_sub_one]
      rcases Nat.lt_or_ge i 8 with hi | hi
      · rw [dt hi, dt (show i < 64 by omega)]
        simp
      · have h1 : f.testBit i = false := Nat.testBit_lt_two_pow (Nat.lt_of_lt_of_le (show f < 2 ^ 8 by omega) (Nat.pow_le_pow_right (by omega) hi))
        rw [h1]
        simp
    have h : f &&& (255 ^^^ t) ≤ f := Nat.and_le_left
    rw [show (BitVec.ofInt IntKind.i64.bits (f : Int) &&& ~~~(BitVec.ofInt IntKind.i64.bits (t : Int))).toNat = f &&& (255 ^^^ t) from e]
    exact wrap64 (by omega) (by omega)
  rw [key]
  have h : f &&& (255 ^^^ t) ≤ f := Nat.and_le_left
  refine ⟨by omega, fun i => ?_⟩
  rw [Int.toNat_natCast, Int.toNat_natCast, Nat.testBit_and, Nat.testBit_xor, show (255 : Nat) = 2 ^ 8 - 1 from rfl, Nat.testBit_two_pow_sub_one]
  have hbi := hb i
  rw [Int.toNat_natCast] at hbi
  rw [hbi]
  by_cases hi : (i : Int) < m
  · rw [dt hi, dt (show i < 8 by omega)]
    simp
  · rw [df hi]
    simp
theorem elemsF_range (c : Int) : ∀ x ∈ elemsF c, 0 ≤ x ∧ x ≤ 7 := fun x hx => by
  obtain ⟨e, h1, h2, h3, h4⟩ := elemsL_mem c x 8 0 hx
  omega
theorem renF_bit {s c : Int} (hs : 0 ≤ s ∧ s ≤ 255) : (0 ≤ renF s c ∧ renF s c ≤ 255) ∧ ∀ i, (renF s c).toNat.testBit i = (decide (i < (elemsF c).length) && s.toNat.testBit ((elemsF c).getD i 0).toNat) := by
  have he : (elemsF c).length ≤ 8 := elemsL_length _ _ _
  unfold renF
  rw [renL_pck hs _ _ _ (elemsF_range c) (by omega) (by omega)]
  obtain ⟨h1, h2⟩ := pckL_bit s (elemsF c) 0 0 (by omega) (by omega)
  refine ⟨h1, fun i => ?_⟩
  rw [h2 i]
  simp
theorem renF_set {s c : Int} (hs : 0 ≤ s ∧ s ≤ 255) : isSet ((elemsF c).length : Int) (renF s c) = true := by
  have he : (elemsF c).length ≤ 8 := elemsL_length _ _ _
  obtain ⟨h1, h2⟩ := renF_bit (c := c) hs
  have hlt : (renF s c).toNat < 2 ^ (elemsF c).length := by
    refine Nat.lt_pow_two_of_testBit _ fun i hi => ?_
    rw [h2 i, df (by omega)]
    rfl
  unfold isSet
  refine dt ⟨by omega, by omega, ?_⟩
  have e2 : ((2 ^ (elemsF c).length : Nat) : Int) = (2 : Int) ^ (elemsF c).length := by push_cast; rfl
  rw [Int.toNat_natCast, ← e2]
  omega
theorem elems_len_left {m t : Int} (hm : 0 ≤ m ∧ m ≤ 6) (ht : 0 ≤ t ∧ t ≤ 255) : ((elemsF (leftF m t)).length : Int) ≤ m := by
  obtain ⟨h1, h2⟩ := leftF_bits hm ht
  have hs : isSet m (leftF m t) = true := by
    have hlt : (leftF m t).toNat < 2 ^ m.toNat := by
      refine Nat.lt_pow_two_of_testBit _ fun i hi => ?_
      rw [h2 i, df (by omega)]
      rfl
    unfold isSet
    refine dt ⟨by omega, by omega, ?_⟩
    have e2 : ((2 ^ m.toNat : Nat) : Int) = (2 : Int) ^ m.toNat := by push_cast; rfl
    rw [← e2]
    omega
  have key : ∀ n : Fin 7, ∀ c : Fin 64, c.val < 2 ^ n.val → (elemsF (c.val : Int)).length ≤ n.val := by decide +kernel
  obtain ⟨c, hc, hc2⟩ := isSet_ex hs
  have hp := pow64 (n := m.toNat) (by omega)
  have := key ⟨m.toNat, by omega⟩ ⟨c, by omega⟩ hc2
  rw [hc]
  simp only at this
  omega
theorem wth_ctx {m : Int} {b : List Int} (h : isCtx m b = true) {s t : Int} (ht : 0 ≤ t ∧ t ≤ 255) : isCtx (cntF (leftF m t)) (wthF m b s t) = true := by
  have hl := isCtx_len h
  have hd := isCtx_len (dropL_ctx h s)
  obtain ⟨h1, h2⟩ := leftF_bits (m := m) ⟨hl.2.1, hl.2.2.1⟩ ht
  have he := elems_len_left (m := m) ⟨hl.2.1, hl.2.2.1⟩ ht
  rw [cnt_elems h1]
  unfold isCtx
  have e1 : decide (0 ≤ ((elemsF (leftF m t)).length : Int) ∧ ((elemsF (leftF m t)).length : Int) ≤ 6) = true := decide_eq_true (by omega)
  have e2 : decide ((wthF m b s t).length ≤ 8) = true := decide_eq_true (by unfold wthF; rw [List.length_map]; exact hd.1)
  have e3 : (wthF m b s t).all (isSet ((elemsF (leftF m t)).length : Int)) = true := by
    rw [List.all_eq_true]
    intro x hx
    unfold wthF at hx
    obtain ⟨y, hy, rfl⟩ := List.mem_map.1 hx
    have := isSet_le (hd.2.2.2 y hy)
    exact renF_set (by omega)
  rw [e1, e2, e3]
  rfl
theorem repF_rng {l : List Int} (h : l.length ≤ 8) : 0 ≤ repF l ∧ repF l ≤ 255 := orF_set (repAt l) l.length 0 0 (by omega) (by omega) (by omega)
theorem clar_ctx {m : Int} {b : List Int} (h : isCtx m b = true) : isCtx (clarF m b).1 (clarF m b).2.1 = true := by
  have hr := dropL_ctx h (repF b)
  have hl := isCtx_len h
  have hc : (colsF m (clarR b)).length ≤ 8 := by unfold colsF; rw [colsL_length]; omega
  unfold clarF
  rw [h]
  exact wth_ctx hr (repF_rng hc)
theorem clarF_ok (m : Int) (b : List Int) : (clarF m b).2.2 = isCtx m b := by
  unfold clarF
  cases isCtx m b <;> rfl
theorem wthF_len (m : Int) (b : List Int) (s t : Int) : (wthF m b s t).length ≤ b.length := by
  unfold wthF
  rw [List.length_map]
  exact dropL_len s b 0
theorem clarF_len (m : Int) (b : List Int) : (clarF m b).2.1.length ≤ 8 := by
  unfold clarF
  cases h : isCtx m b
  · exact Nat.zero_le _
  · have hl := isCtx_len h
    have h1 := wthF_len m (clarR b) 0 (repF (colsF m (clarR b)))
    have h2 : (clarR b).length ≤ b.length := dropL_len _ _ _
    rw [cond_true]
    dsimp only
    omega
abbrev Cu := Int × Int
def curH (h : Int) : Int := IntKind.i64.wrap (IntKind.i64.wrap (h * 6364136223846793005) + 1442695040888963407)
def curX (h : Int) : Int := IntKind.i64.wrap ↑(BitVec.ofInt IntKind.i64.bits (IntKind.i64.wrap ↑(BitVec.ofInt IntKind.i64.bits ((curH h).fdiv (2 ^ min (Int.toNat 33) IntKind.i64.bits)) ^^^ BitVec.ofInt IntKind.i64.bits ((curH h).fdiv (2 ^ min (Int.toNat 45) IntKind.i64.bits))).toNat) &&& BitVec.ofInt IntKind.i64.bits 255).toNat
def curV (b : List Int) (c : Cu) : Int := if c.1 < b.length then band (IntKind.i64.wrap (curX c.2 + IntKind.i64.wrap (b.getD c.1.toNat 0))) 255 else curX c.2
def nx (b : List Int) (c : Cu) : Cu := (if c.1 < b.length then c.1 + 1 else c.1, curH c.2)
abbrev CuOk (b : List Int) (i : Int) : Prop := 0 ≤ i ∧ i ≤ b.length ∧ b.length ≤ 1048576
theorem nx_ok {b : List Int} {c : Cu} (h : CuOk b c.1) : CuOk b (nx b c).1 := by
  unfold nx
  dsimp only
  split
  · exact ⟨by omega, by omega, h.2.2⟩
  · exact h
theorem band_byte (x : Int) : 0 ≤ band x 255 ∧ band x 255 ≤ 255 := by
  unfold band
  have h : (BitVec.ofInt IntKind.i64.bits x &&& BitVec.ofInt IntKind.i64.bits 255).toNat ≤ 255 := by
    rw [BitVec.toNat_and]
    exact Nat.and_le_right
  rw [wrap64 (by omega) (by omega)]
  omega
theorem curV_rng (b : List Int) (c : Cu) : 0 ≤ curV b c ∧ curV b c ≤ 255 := by
  unfold curV
  split
  · exact band_byte _
  · exact band_byte _
def be (b : List Int) (c : Cu) (n : Int) : Int := (curV b c).tmod n
theorem be_rng (b : List Int) (c : Cu) {n : Int} (h : 0 < n) : 0 ≤ be b c n ∧ be b c n < n := by
  have := curV_rng b c
  unfold be
  exact ⟨Int.tmod_nonneg _ this.1, Int.tmod_lt_of_pos _ h⟩
def shlI (n : Int) : Int := IntKind.i64.wrap (1 * 2 ^ min n.toNat IntKind.i64.bits)
theorem shlI_nat {n : Nat} (h : n ≤ 8) : shlI (n : Int) = ((2 ^ n : Nat) : Int) := shl1 (by omega)
theorem shlI_rng {n : Int} (h0 : 0 ≤ n) (h8 : n ≤ 8) : 1 ≤ shlI n ∧ shlI n ≤ 256 := by
  obtain ⟨k, rfl⟩ : ∃ k : Nat, n = k := ⟨n.toNat, by omega⟩
  have h8 : 2 ^ k ≤ 2 ^ 8 := Nat.pow_le_pow_right (by omega) (by omega)
  have hp := Nat.two_pow_pos k
  rw [shlI_nat (by omega)]
  omega
theorem set_zero {n : Nat} (h : n ≤ 8) : isSet (n : Int) 0 = true := by
  unfold isSet
  rw [Int.toNat_natCast]
  have := Nat.two_pow_pos n
  have e2 : ((2 ^ n : Nat) : Int) = (2 : Int) ^ n := by push_cast; rfl
  exact dt ⟨by omega, by omega, by omega⟩
def pkS (s keep : Int) : Nat → Nat → Int → Int → Int
  | 0, _, _, out => out
  | d + 1, e, n, out => bif keep.toNat.testBit e then pkS s keep d (e + 1) (n + 1) (bif s.toNat.testBit e then bor out (shlI n) else out) else pkS s keep d (e + 1) n out
def packS (s keep : Int) : Int := pkS s keep 8 0 0 0
def dropA (m : Int) (b : List Int) (t : Int) : Int × List Int × Bool := bif isCtx m b && isSet m t then (cntF (fullSet m - t), b.map (fun x => packS x (fullSet m - t)), true) else (0, [], false)
def ddL : List Int → List Int → List Int
  | [], acc => acc
  | x :: r, acc => ddL r (bif acc.any (fun y => y == x) then acc else acc ++ [x])
def dupI (b : List Int) (j : Nat) : Nat → Nat → Int → Int
  | 0, _, q => q
  | d + 1, i, q => dupI b j d (i + 1) (bif colF b (i : Int) == colF b (j : Int) then bor q (shlI (j : Int)) else q)
def gO (b : List Int) : Nat → Nat → Int → Int
  | 0, _, q => q
  | d + 1, i, q => gO b d (i + 1) (dupI b i i 0 q)
def spClar (m : Int) (b : List Int) : Int × List Int × Bool := bif isCtx m b then dropA m (ddL b []) (gO (ddL b []) m.toNat 0 0) else (0, [], false)
theorem ddL_ok {m : Int} : ∀ (l acc : List Int), (∀ x ∈ l, isSet m x = true) → (∀ x ∈ acc, isSet m x = true) → (ddL l acc).length ≤ l.length + acc.length ∧ ∀ x ∈ ddL l acc, isSet m x = true
  | [], acc, _, h => ⟨by simp [ddL], h⟩
  | x :: r, acc, hl, h => by
    unfold ddL
    cases acc.any (fun y => y == x)
    · have := ddL_ok r (acc ++ [x]) (fun y hy => hl y (by simp [hy])) (fun y hy => by
        rcases List.mem_append.1 hy with hy | hy
        · exact h y hy
        · rw [List.mem_singleton.1 hy]; exact hl x (by simp))
      rw [cond_false]
      refine ⟨?_, this.2⟩
      have h1 := this.1
      simp only [List.length_append, List.length_cons, List.length_nil] at h1 ⊢
      omega
    · have := ddL_ok r acc (fun y hy => hl y (by simp [hy])) h
      rw [cond_true]
      refine ⟨?_, this.2⟩
      have h1 := this.1
      simp only [List.length_cons]
      omega
theorem dd_ctx {m : Int} {b : List Int} (h : isCtx m b = true) : isCtx m (ddL b []) = true := by
  have hl := isCtx_len h
  obtain ⟨h1, h2⟩ := ddL_ok (m := m) b [] hl.2.2.2 (fun x hx => by cases hx)
  simp only [List.length_nil, Nat.add_zero] at h1
  unfold isCtx
  rw [decide_eq_true (show 0 ≤ m ∧ m ≤ 6 by omega), decide_eq_true (show (ddL b []).length ≤ 8 by omega), List.all_eq_true.2 h2]
  rfl
theorem bor_isSet {m : Int} (hm : 0 ≤ m ∧ m ≤ 6) {q : Int} (hq : isSet m q = true) {j : Nat} (hj : j < m.toNat) : isSet m (bor q (shlI (j : Int))) = true := by
  obtain ⟨x, rfl, hx⟩ := isSet_ex hq
  have h6 : 2 ^ m.toNat ≤ 2 ^ 6 := Nat.pow_le_pow_right (by omega) (by omega)
  have hjl : 2 ^ j < 2 ^ m.toNat := Nat.pow_lt_pow_right (by omega) hj
  rw [shlI_nat (by omega), bor_nat (by omega) (by omega)]
  have := Nat.or_lt_two_pow hx hjl
  unfold isSet
  have e2 : ((2 ^ m.toNat : Nat) : Int) = (2 : Int) ^ m.toNat := by push_cast; rfl
  exact dt ⟨by omega, by omega, by omega⟩
theorem dupI_set {m : Int} (hm : 0 ≤ m ∧ m ≤ 6) (b : List Int) {j : Nat} (hj : j < m.toNat) : ∀ (d i : Nat) (q : Int), isSet m q = true → isSet m (dupI b j d i q) = true
  | 0, _, _, h => h
  | d + 1, i, q, h => by
    unfold dupI
    refine dupI_set hm b hj d (i + 1) _ ?_
    cases colF b (i : Int) == colF b (j : Int)
    · exact h
    · exact bor_isSet hm h hj
theorem gO_set {m : Int} (hm : 0 ≤ m ∧ m ≤ 6) (b : List Int) : ∀ (d i : Nat) (q : Int), i + d = m.toNat → isSet m q = true → isSet m (gO b d i q) = true
  | 0, _, _, _, h => h
  | d + 1, i, q, hi, h => by
    unfold gO
    exact gO_set hm b d (i + 1) _ (by omega) (dupI_set hm b (by omega) _ _ _ h)
theorem spClar_ok (m : Int) (b : List Int) : (spClar m b).2.2 = isCtx m b := by
  unfold spClar
  cases h : isCtx m b
  · rfl
  · have hl := isCtx_len h
    have hz : isSet m 0 = true := by
      have := set_zero (n := m.toNat) (by omega)
      rw [Int.toNat_of_nonneg hl.2.1] at this
      exact this
    have hg := gO_set ⟨hl.2.1, hl.2.2.1⟩ (ddL b []) m.toNat 0 0 (by omega) hz
    rw [cond_true]
    unfold dropA
    rw [dd_ctx h, hg]
    rfl
theorem keep_rng {m t : Int} (hm : 0 ≤ m ∧ m ≤ 6) (h : isSet m t = true) : 0 ≤ fullSet m - t ∧ fullSet m - t ≤ 255 := by
  obtain ⟨x, rfl, hx⟩ := isSet_ex h
  have h6 : 2 ^ m.toNat ≤ 2 ^ 6 := Nat.pow_le_pow_right (by omega) (by omega)
  unfold fullSet
  rw [if_pos (by omega)]
  have e2 : ((2 ^ m.toNat : Nat) : Int) = (2 : Int) ^ m.toNat := by push_cast; rfl
  omega
def dupF (b : List Int) (e : Int) : Bool := !allB (fun j => !(colF b j == colF b e)) e.toNat 0
theorem any_take (l : List Int) (p : Int → Bool) : ∀ (e : Nat), e ≤ l.length → (l.take e).any p = !allB (fun j => !p (l.getD j 0)) e 0 := by
  intro e he
  rw [Bool.eq_iff_iff, List.any_eq_true, Bool.not_eq_true', ← Bool.not_eq_true, allB_iff]
  constructor
  · rintro ⟨x, hx, hp⟩ h
    obtain ⟨j, hj, rfl⟩ := List.mem_take_iff_getElem.1 hx
    have h1 := h j (by omega) (by omega)
    have h2 : l.getD j 0 = l[j] := by rw [List.getD_eq_getElem?_getD, List.getElem?_eq_getElem (by omega)]; rfl
    rw [h2, hp] at h1
    cases h1
  · intro h
    have h := Classical.not_forall.1 h
    obtain ⟨j, hj⟩ := h
    have hj := Classical.not_imp.1 hj
    have hj2 := Classical.not_imp.1 hj.2
    have h2 : l.getD j 0 = l[j]'(by omega) := by rw [List.getD_eq_getElem?_getD, List.getElem?_eq_getElem (by omega)]; rfl
    refine ⟨l[j]'(by omega), List.mem_take_iff_getElem.2 ⟨j, by omega, rfl⟩, ?_⟩
    rw [← h2]
    simpa using hj2.2
theorem rep_dup {m : Int} {b : List Int} {e : Int} (h : attrOk m b e = true) : hasE (repF (colsF m b)) e = dupF b e := by
  unfold attrOk at h
  have h2 := Bool.and_eq_true_iff.1 h
  have hl := isCtx_len h2.1
  have hd := ofd h2.2
  obtain ⟨n, rfl⟩ : ∃ n : Nat, e = n := ⟨e.toNat, by omega⟩
  have hlen : (colsF m b).length = m.toNat := colsL_length b _ _
  unfold repF
  rw [hasE_orF _ (by rw [hlen]; omega) (by rw [hlen]; omega)]
  unfold repAt dupF
  rw [Int.toNat_natCast, any_take _ _ _ (by rw [hlen]; omega)]
  congr 1
  refine allB_ext _ 0 (fun j h1 h2 => ?_)
  unfold colsF
  rw [colsL_get b _ 0 n (by omega), colsL_get b _ 0 j (by omega), Nat.zero_add, Nat.zero_add]
  congr 1
  rw [Bool.eq_iff_iff, beq_iff_eq, beq_iff_eq]
  exact ⟨fun h => h.symm, fun h => h.symm⟩
def vecF (m : Int) (b : List Int) (e : Int) : Int × Int × Bool := bif attrOk m b e then (bif dupF b e || reducF m b e then (0, 0, true) else (2 * e + 1 - m, 1, true)) else (0, 0, false)
abbrev w64 (x : Int) : Int := IntKind.i64.wrap x
def spL (m : Int) (b : List Int) : List Int → Int → Int → Int × Int
  | [], x, y => (x, y)
  | e :: l, x, y => spL m b l (w64 (x + (vecF m b e).1)) (w64 (y + (vecF m b e).2.1))
def spotF (m : Int) (b : List Int) (a : Int) : Int × Int := bif inC (concF m b) a then spL m b (elemsF (elC (concF m b) a).2) 0 0 else (0, 0)
theorem elemsL_off (s : Int) : ∀ (d i : Nat), (∀ j, i ≤ j → j < i + d → hasE s j = false) → elemsL s d i = []
  | 0, i, _ => rfl
  | d + 1, i, h => by
    rw [elemsL, h i (by omega) (by omega), cond_false]
    exact elemsL_off s d (i + 1) fun j h1 h2 => h j (by omega) (by omega)
theorem elemsL_add (s : Int) : ∀ (d c i : Nat), elemsL s (d + c) i = elemsL s d i ++ elemsL s c (i + d)
  | 0, c, i => by rw [Nat.zero_add]; rfl
  | d + 1, c, i => by
    rw [show d + 1 + c = (d + c) + 1 by omega, elemsL, elemsL, elemsL_add s d c (i + 1), show i + 1 + d = i + (d + 1) by omega]
    cases hasE s i <;> rfl
theorem isSet_8' {n s : Int} (h : isSet n s = true) : isSet 8 s = true := by
  have := isSet_le h
  rw [isSet8]
  exact dt ⟨by omega, by omega⟩
theorem elems_cut {m : Nat} {s : Int} (hm : m ≤ 8) (h : isSet m s = true) : elemsF s = elemsL s m 0 := by
  unfold elemsF
  obtain ⟨c, hc⟩ : ∃ c, 8 = m + c := ⟨8 - m, by omega⟩
  rw [hc, elemsL_add, elemsL_off s c, List.append_nil]
  intro j h1 h2
  rw [hasE_bit (isSet_8' h) (by omega) (by omega)]
  exact isSet_bit h (by omega)
theorem beyond_bit {s : Int} (g : Nat) : ∀ (l : List Int) (acc : Int), (∀ t ∈ l, 0 ≤ t ∧ t ≤ 255) → (0 ≤ acc ∧ acc ≤ 255) → acc.toNat.testBit g = true → (∀ t ∈ l, t ≠ s → (bnot s t == 0) = true → t.toNat.testBit g = true) → (beyondF s l acc).toNat.testBit g = true
  | [], acc, _, _, h, _ => h
  | t :: r, acc, hl, ha, h, hh => by
    have ht := hl t (by simp)
    rw [beyondF]
    cases hc : (t != s) && (bnot s t == 0)
    · rw [cond_false]
      exact beyond_bit g r acc (fun t ht => hl t (by simp [ht])) ha h (fun t ht => hh t (by simp [ht]))
    · rw [cond_true]
      have hb := band_set ha ht
      have h2 := Bool.and_eq_true_iff.1 hc
      refine beyond_bit g r _ (fun t ht => hl t (by simp [ht])) ⟨hb.1, hb.2.1⟩ ?_ (fun t ht => hh t (by simp [ht]))
      rw [hb.2.2, Nat.testBit_and, h, hh t (by simp) (by simpa using h2.1) h2.2]
      rfl
def goodB (m : Int) (b : List Int) (e : Int) : Bool := attrOk m b e && !(dupF b e || reducF m b e)
theorem vec_y (m : Int) (b : List Int) (e : Int) : (vecF m b e).2.1 = bif goodB m b e then 1 else 0 := by
  unfold vecF goodB
  cases attrOk m b e
  · rfl
  · cases dupF b e || reducF m b e <;> rfl
theorem spL_y (m : Int) (b : List Int) : ∀ (l : List Int) (x y : Int), 0 ≤ y → y + l.length ≤ 100 → (spL m b l x y).2 = y + ((l.filter (goodB m b)).length : Int)
  | [], x, y, _, _ => by simp [spL]
  | e :: l, x, y, h0, h1 => by
    rw [List.length_cons] at h1
    rw [spL, vec_y, List.filter_cons]
    cases goodB m b e
    · rw [cond_false, show w64 (y + 0) = y from (wrap64 (by omega) (by omega)).trans (by omega), spL_y m b l _ y h0 (by omega), if_neg Bool.false_ne_true]
    · rw [cond_true, show w64 (y + 1) = y + 1 from wrap64 (by omega) (by omega), spL_y m b l _ (y + 1) (by omega) (by omega), if_pos rfl, List.length_cons]
      omega
theorem elemsL_iff (s : Int) (x : Int) : ∀ (d i : Nat), x ∈ elemsL s d i ↔ ∃ n : Nat, x = n ∧ i ≤ n ∧ n < i + d ∧ hasE s (n : Int) = true
  | 0, i => by
    rw [elemsL]
    constructor
    · intro h; cases h
    · rintro ⟨s, _, _, _, _⟩; omega
  | d + 1, i => by
    rw [elemsL]
    have ih := elemsL_iff s x d (i + 1)
    cases hi : hasE s i
    · rw [cond_false, ih]
      constructor
      · rintro ⟨n, rfl, h1, h2, h3⟩; exact ⟨n, rfl, by omega, by omega, h3⟩
      · rintro ⟨n, rfl, h1, h2, h3⟩
        have : n ≠ i := by rintro rfl; rw [hi] at h3; cases h3
        exact ⟨n, rfl, by omega, by omega, h3⟩
    · rw [cond_true, List.mem_cons, ih]
      constructor
      · rintro (rfl | ⟨n, rfl, h1, h2, h3⟩)
        · exact ⟨i, rfl, by omega, by omega, hi⟩
        · exact ⟨n, rfl, by omega, by omega, h3⟩
      · rintro ⟨n, rfl, h1, h2, h3⟩
        by_cases e : n = i
        · subst e; exact .inl rfl
        · exact .inr ⟨n, rfl, by omega, by omega, h3⟩
theorem elemsL_ndp (s : Int) : ∀ (d i : Nat), (elemsL s d i).Nodup
  | 0, _ => List.nodup_nil
  | d + 1, i => by
    rw [elemsL]
    cases hasE s i
    · rw [cond_false]; exact elemsL_ndp s d (i + 1)
    · rw [cond_true]
      refine List.nodup_cons.2 ⟨fun h => ?_, elemsL_ndp s d (i + 1)⟩
      obtain ⟨n, e, h1, _⟩ := (elemsL_iff s _ d (i + 1)).1 h
      omega
theorem ex_max {f : Nat → Int} : ∀ (l : List Nat), l ≠ [] → ∃ x ∈ l, ∀ y ∈ l, f y ≤ f x
  | [], h => absurd rfl h
  | [a], _ => ⟨a, by simp, fun y hy => by rw [List.mem_singleton.1 hy]; omega⟩
  | a :: c :: l, _ => by
    obtain ⟨x, hx, h⟩ := ex_max (f := f) (c :: l) (by simp)
    by_cases hle : f a ≤ f x
    · exact ⟨x, List.mem_cons_of_mem _ hx, fun y hy => by
        rcases List.mem_cons.1 hy with rfl | hy
        · exact hle
        · exact h y hy⟩
    · refine ⟨a, by simp, fun y hy => ?_⟩
      rcases List.mem_cons.1 hy with rfl | hy
      · omega
      · have := h y hy; omega
/-- Among the attributes of one concept that another above it lacks, one bears a vector. -/
theorem diag_ex {m : Int} {b : List Int} {p q : Int × Int} (hp : p ∈ concF m b) (hq : q ∈ concF m b) (hsub : SubN p.1.toNat q.1.toNat) (hne : p.1 ≠ q.1) :
    SubN q.2.toNat p.2.toNat ∧ ∃ e : Nat, e < 8 ∧ p.2.toNat.testBit e = true ∧ q.2.toNat.testBit e = false ∧ goodB m b (e : Int) = true := by
  obtain ⟨hc, p2, p3, p4, p5⟩ := concF_mem hp
  obtain ⟨_, q2, q3, q4, q5⟩ := concF_mem hq
  have hl := isCtx_len hc
  have hsm := ctx_small hc
  have rp1 := isSet_le p2
  have rp := isSet_le p3
  have rq1 := isSet_le q2
  have rq := isSet_le q3
  obtain ⟨_, _, xp⟩ := extF_spec hl.1 hsm (s := p.2.toNat) (by omega)
  obtain ⟨_, _, xq⟩ := extF_spec hl.1 hsm (s := q.2.toNat) (by omega)
  rw [Int.toNat_of_nonneg (by omega), ← p4] at xp
  rw [Int.toNat_of_nonneg (by omega), ← q4] at xq
  obtain ⟨_, _, ip⟩ := intentF_spec (m := m) ⟨hl.2.1, by omega⟩ hl.1 hsm (isSet_8 p3)
  obtain ⟨_, _, iq⟩ := intentF_spec (m := m) ⟨hl.2.1, by omega⟩ hl.1 hsm (isSet_8 q3)
  rw [p5] at ip
  rw [q5] at iq
  have hBA : SubN q.2.toNat p.2.toNat := fun e he => (ip e).2 ⟨((iq e).1 he).1, fun k hk hkp => ((iq e).1 he).2 k hk (hsub k hkp)⟩
  refine ⟨hBA, ?_⟩
  have h8 : ∀ e : Nat, p.2.toNat.testBit e = true → e < 8 := fun e he => by have := ((ip e).1 he).1; omega
  let D : Nat → Bool := fun e => p.2.toNat.testBit e && !q.2.toNat.testBit e
  have hne0 : (List.range 8).filter D ≠ [] := by
    intro h0
    apply hne
    have : p.1.toNat = q.1.toNat := by
      apply Nat.eq_of_testBit_eq
      intro k
      rw [Bool.eq_iff_iff]
      refine ⟨hsub k, fun hk => (xp k).2 ⟨((xq k).1 hk).1, fun e he => ?_⟩⟩
      cases hq2 : q.2.toNat.testBit e
      · have : e ∈ (List.range 8).filter D := List.mem_filter.2 ⟨List.mem_range.2 (h8 e he), by change (p.2.toNat.testBit e && !q.2.toNat.testBit e) = true; rw [he, hq2]; rfl⟩
        rw [h0] at this
        cases this
      · exact ((xq k).1 hk).2 e hq2
    omega
  obtain ⟨e, he, hmax⟩ := ex_max (f := fun e => colF b (e : Int) * 16 + (15 - (e : Int))) _ hne0
  obtain ⟨he8, heD⟩ := List.mem_filter.1 he
  have he8 := List.mem_range.1 he8
  have heD : (p.2.toNat.testBit e && !q.2.toNat.testBit e) = true := heD
  rw [Bool.and_eq_true, Bool.not_eq_true'] at heD
  obtain ⟨eA, eB⟩ := heD
  have hem := ((ip e).1 eA).1
  have hmx : ∀ j : Nat, p.2.toNat.testBit j = true → q.2.toNat.testBit j = false → colF b (j : Int) * 16 + (15 - (j : Int)) ≤ colF b (e : Int) * 16 + (15 - (e : Int)) := fun j h1 h2 => by
    refine hmax j (List.mem_filter.2 ⟨List.mem_range.2 (h8 j h1), ?_⟩)
    change (p.2.toNat.testBit j && !q.2.toNat.testBit j) = true
    rw [h1, h2]
    rfl
  refine ⟨e, he8, eA, eB, ?_⟩
  have hA : attrOk m b (e : Int) = true := by
    unfold attrOk
    rw [hc, dt (by omega)]
    rfl
  have hd : dupF b (e : Int) = false := by
    unfold dupF
    rw [Bool.not_eq_false', allB_iff]
    intro j _ hj
    rw [Int.toNat_natCast] at hj
    cases hcj : colF b (j : Int) == colF b (e : Int)
    · rfl
    · exfalso
      have hcj := eq_of_beq hcj
      have hb : ∀ k, k < b.length → ((b.getD k 0).toNat.testBit j = true ↔ (b.getD k 0).toNat.testBit e = true) := fun k hk => by
        have h1 := colF_bit hl.1 j k
        have h2 := colF_bit hl.1 e k
        rw [hcj] at h1
        constructor
        · intro h; exact (h2.1 (h1.2 ⟨hk, h⟩)).2
        · intro h; exact (h1.1 (h2.2 ⟨hk, h⟩)).2
      have jA : p.2.toNat.testBit j = true := (ip j).2 ⟨by omega, fun k hk hkp => (hb k hk).2 (((ip e).1 eA).2 k hk hkp)⟩
      have jB : q.2.toNat.testBit j = false := by
        cases hq2 : q.2.toNat.testBit j
        · rfl
        · have : q.2.toNat.testBit e = true := (iq e).2 ⟨hem, fun k hk hkq => (hb k hk).1 (((iq j).1 hq2).2 k hk hkq)⟩
          rw [eB] at this
          cases this
      have := hmx j jA jB
      rw [hcj] at this
      omega
  have hr : reducF m b (e : Int) = false := by
    cases hr : reducF m b (e : Int)
    · rfl
    · exfalso
      unfold reducF at hr
      have hr := eq_of_beq hr
      have : q.2.toNat.testBit e = true := by
        refine (iq e).2 ⟨hem, fun k hk hkq => ?_⟩
        refine ((colF_bit hl.1 e k).1 ?_).2
        rw [← hr]
        refine beyond_bit k _ _ ?_ (fullSet_rng _) ?_ ?_
        · intro t ht
          obtain ⟨j, hj, rfl⟩ := List.getElem_of_mem ht
          have hlen : (colsF m b).length = m.toNat := colsL_length b _ _
          have hg : (colsF m b)[j] = colF b (j : Int) := by
            have := colsL_get b m.toNat 0 j (by omega)
            rw [Nat.zero_add] at this
            rw [← this]
            simp [List.getD, colsF] at hj ⊢
            rw [List.getElem?_eq_getElem hj]
            rfl
          rw [hg]
          exact colF_set b _ hl.1
        · rw [fullSet_bit (by omega) (by omega)]
          exact dt (by omega)
        · intro t ht hts hbn
          obtain ⟨j, hj, rfl⟩ := List.getElem_of_mem ht
          have hlen : (colsF m b).length = m.toNat := colsL_length b _ _
          have hg : (colsF m b)[j] = colF b (j : Int) := by
            have := colsL_get b m.toNat 0 j (by omega)
            rw [Nat.zero_add] at this
            rw [← this]
            simp [List.getD, colsF] at hj ⊢
            rw [List.getElem?_eq_getElem hj]
            rfl
          rw [hg] at hts hbn ⊢
          have ce := colF_set b (e : Int) hl.1
          have cj := colF_set b (j : Int) hl.1
          have hsb := (bnotSub ce cj).1 hbn
          have jA : p.2.toNat.testBit j = true := (ip j).2 ⟨by omega, fun k' hk' hkp => ((colF_bit hl.1 j k').1 (hsb k' ((colF_bit hl.1 e k').2 ⟨hk', ((ip e).1 eA).2 k' hk' hkp⟩))).2⟩
          have hlt : colF b (e : Int) < colF b (j : Int) := by
            have h1 : (colF b (e : Int)).toNat &&& (colF b (j : Int)).toNat = (colF b (e : Int)).toNat := by
              apply Nat.eq_of_testBit_eq
              intro i
              rw [Nat.testBit_and]
              cases hi : (colF b (e : Int)).toNat.testBit i
              · rfl
              · rw [hsb i hi]; rfl
            have h2 := Nat.and_le_right (n := (colF b (e : Int)).toNat) (m := (colF b (j : Int)).toNat)
            rw [h1] at h2
            omega
          have jB : q.2.toNat.testBit j = true := by
            cases hq2 : q.2.toNat.testBit j
            · have := hmx j jA hq2
              have := h8 j jA
              omega
            · rfl
          exact (colF_bit hl.1 j k).2 ⟨hk, ((iq j).1 jB).2 k hk hkq⟩
      rw [eB] at this
      cases this
  unfold goodB
  rw [hA, hd, hr]
  rfl
theorem spot_y {m : Int} {b : List Int} {x : Nat} (hx : x < (concF m b).length) : (spotF m b (x : Int)).2 = (((elemsF ((concF m b).getD x (0, 0)).2).filter (goodB m b)).length : Int) := by
  unfold spotF
  rw [inC_iff.2 (by omega), cond_true]
  unfold elC
  rw [Int.toNat_natCast]
  have := elemsL_length ((concF m b).getD x (0, 0)).2 8 0
  rw [spL_y _ _ _ _ _ (by omega) (by unfold elemsF; omega), Int.zero_add]
theorem diag_lt {m : Int} {b : List Int} {x y : Nat} (hx : x < (concF m b).length) (hy : y < (concF m b).length) (hne : x ≠ y) (hb : belowB (concF m b) x y = true) : (spotF m b (y : Int)).2 < (spotF m b (x : Int)).2 := by
  rw [spot_y hx, spot_y hy]
  have mp := mem_getD (d := ((0, 0) : Int × Int)) hx
  have mq := mem_getD (d := ((0, 0) : Int × Int)) hy
  unfold belowB at hb
  rw [inC_iff.2 (by omega), inC_iff.2 (by omega), cond_true, cond_true, Int.toNat_natCast, Int.toNat_natCast] at hb
  obtain ⟨_, p2, p3, _, _⟩ := concF_mem mp
  obtain ⟨_, q2, q3, _, _⟩ := concF_mem mq
  have rp := isSet_le p3
  have rq := isSet_le q3
  have hsub := (bandSub ⟨rp.2.2.1, rp.2.2.2⟩ ⟨rq.2.2.1, rq.2.2.2⟩).1 hb
  have hne1 : ((concF m b).getD x (0, 0)).1 ≠ ((concF m b).getD y (0, 0)).1 := by
    intro e
    apply hne
    have hnd := conc_nodup m b
    have hg : ∀ i, i < (concF m b).length → ((concF m b).map (·.1))[i]? = some ((concF m b).getD i (0, 0)).1 := fun i hi => by
      simp [List.getD, hi]
    exact (List.getElem?_inj (by rw [List.length_map]; exact hx) hnd).1 ((hg x hx).trans ((congrArg some e).trans (hg y hy).symm))
  obtain ⟨hBA, e, e8, eA, eB, eg⟩ := diag_ex mp mq hsub hne1
  have hmem : ∀ {s : Int}, isSet m s = true → isCtx m b = true → ∀ n : Nat, (n : Int) ∈ elemsF s ↔ n < 8 ∧ s.toNat.testBit n = true := fun {s} hs hc n => by
    have h8 := isSet_8' hs
    unfold elemsF
    rw [elemsL_iff]
    constructor
    · rintro ⟨n', e, h1, h2, h3⟩
      have e : n = n' := by omega
      subst e
      rw [hasE_bit h8 (by omega) (by omega)] at h3
      unfold bitI at h3
      rw [Int.toNat_natCast] at h3
      exact ⟨by omega, h3⟩
    · rintro ⟨h1, h2⟩
      refine ⟨n, rfl, by omega, by omega, ?_⟩
      rw [hasE_bit h8 (by omega) (by omega)]
      unfold bitI
      rw [Int.toNat_natCast]
      exact h2
  have hc := (concF_mem mp).1
  have := subLen ((e : Int) :: (elemsF ((concF m b).getD y (0, 0)).2).filter (goodB m b)) ((elemsF ((concF m b).getD x (0, 0)).2).filter (goodB m b)) ?_ ?_
  · rw [List.length_cons] at this
    omega
  · refine List.nodup_cons.2 ⟨fun h => ?_, (elemsL_ndp _ 8 0).sublist List.filter_sublist⟩
    have := ((hmem q2 hc e).1 (List.mem_filter.1 h).1).2
    rw [eB] at this
    cases this
  · intro z hz
    rcases List.mem_cons.1 hz with rfl | hz
    · exact List.mem_filter.2 ⟨(hmem p2 hc e).2 ⟨e8, eA⟩, eg⟩
    · obtain ⟨h1, h2⟩ := List.mem_filter.1 hz
      have h1' := h1
      unfold elemsF at h1'
      obtain ⟨n, rfl, _⟩ := (elemsL_iff _ _ _ _).1 h1'
      obtain ⟨g1, g2⟩ := (hmem q2 hc n).1 h1
      exact List.mem_filter.2 ⟨(hmem p2 hc n).2 ⟨g1, hBA n g2⟩, h2⟩
theorem iso_trans {A B C : CL} {φ ψ : Nat → Nat} (h : IsoN A B φ) (g : IsoN B C ψ) : IsoN A C (fun i => ψ (φ i)) where
  len := h.len.trans g.len
  rng := fun i hi => g.rng _ (h.rng i hi)
  inj := fun i j hi hj e => h.inj i j hi hj (g.inj _ _ (h.rng i hi) (h.rng j hj) e)
  und := fun i j hi hj => (h.und i j hi hj).trans (g.und _ _ (h.rng i hi) (h.rng j hj))
theorem cl_mem {m : Int} {a : List Int} (h : isCtx m a = true) {s : Nat} (hs : s < 256) (e : Nat) : (clN m a s).testBit e = true ↔ (e : Int) < m ∧ ∀ x ∈ a, SubN s x.toNat → x.toNat.testBit e = true := by
  rw [clN_bit h hs]
  refine and_congr_right fun _ => ⟨fun g x hx => ?_, fun g k hk => g _ (mem_getD hk)⟩
  obtain ⟨k, hk, rfl⟩ := mem_ex hx
  exact g k hk
theorem und_int2 {m : Int} {b : List Int} {x y : Nat} (hx : x < (concF m b).length) (hy : y < (concF m b).length) : undB (concF m b) x y = true ↔ SubN ((concF m b).getD y (0, 0)).2.toNat ((concF m b).getD x (0, 0)).2.toNat := by
  refine ⟨und_int hx hy, fun h => (und_sub hx hy).2 ?_⟩
  obtain ⟨hc, p2, p3, p4, p5⟩ := concF_mem (mem_getD (d := ((0, 0) : Int × Int)) hx)
  obtain ⟨_, q2, q3, q4, q5⟩ := concF_mem (mem_getD (d := ((0, 0) : Int × Int)) hy)
  have hl := isCtx_len hc
  have hsm := ctx_small hc
  have rp := isSet_le p2
  have rq := isSet_le q2
  obtain ⟨_, _, xp⟩ := extF_spec hl.1 hsm (s := ((concF m b).getD x (0, 0)).2.toNat) (by omega)
  obtain ⟨_, _, xq⟩ := extF_spec hl.1 hsm (s := ((concF m b).getD y (0, 0)).2.toNat) (by omega)
  rw [Int.toNat_of_nonneg (by omega), ← p4] at xp
  rw [Int.toNat_of_nonneg (by omega), ← q4] at xq
  exact fun k hk => (xq k).2 ⟨((xp k).1 hk).1, fun e he => ((xp k).1 hk).2 e (h e he)⟩
theorem cl_congr {m : Int} {a b : List Int} (ha : isCtx m a = true) (hb : isCtx m b = true) {s : Nat} (hs : s < 256) (h : ∀ e : Nat, (e : Int) < m → ((∀ x ∈ a, SubN s x.toNat → x.toNat.testBit e = true) ↔ (∀ x ∈ b, SubN s x.toNat → x.toNat.testBit e = true))) : clN m a s = clN m b s := by
  apply Nat.eq_of_testBit_eq
  intro e
  rw [Bool.eq_iff_iff, cl_mem ha hs, cl_mem hb hs]
  exact and_congr_right fun he => h e he
theorem closed_congr {m : Int} {a b : List Int} (ha : isCtx m a = true) (hb : isCtx m b = true) {s : Nat} (hs : s < 256) (h : clN m a s = clN m b s) : closedI m a (s : Int) = closedI m b (s : Int) := by
  rw [closed_is ha hs, closed_is hb hs]
  unfold isCl
  rw [h]
theorem conc_ints {m : Int} {a : List Int} (ha : isCtx m a = true) : (concF m a).map (·.2) = (lecI m.toNat).filter (closedI m a) := by
  unfold concF
  rw [ha, cond_true, List.map_map]
  exact List.map_id' _
theorem ints_at {A B : CL} (hi : A.map (·.2) = B.map (·.2)) : A.length = B.length ∧ ∀ i, i < A.length → (A.getD i (0, 0)).2 = (B.getD i (0, 0)).2 := by
  have hlen : A.length = B.length := by
    have := congrArg List.length hi
    rwa [List.length_map, List.length_map] at this
  refine ⟨hlen, fun i hx => ?_⟩
  have e1 := getD_map0 (f := fun p : Int × Int => p.2) hx 0 (0, 0)
  have e2 := getD_map0 (f := fun p : Int × Int => p.2) (show i < B.length by omega) 0 (0, 0)
  rw [hi] at e1
  exact e1.symm.trans e2
/-- Objects changed so that the closures stay: the lattice stays. -/
theorem rows_iso {m : Int} {a b : List Int} (ha : isCtx m a = true) (hb : isCtx m b = true) (h : ∀ s e : Nat, s < 256 → (e : Int) < m → ((∀ x ∈ a, SubN s x.toNat → x.toNat.testBit e = true) ↔ (∀ x ∈ b, SubN s x.toNat → x.toNat.testBit e = true))) : IsoN (concF m a) (concF m b) (fun i => i) := by
  have hl := isCtx_len ha
  have hcv : ∀ x ∈ lecI m.toNat, closedI m a x = closedI m b x := fun x hx => by
    obtain ⟨_, s, rfl, hs⟩ := lecI_isSet ⟨hl.2.1, hl.2.2.1⟩ hx
    have hp : 2 ^ m.toNat ≤ 2 ^ 8 := Nat.pow_le_pow_right (by omega) (by omega)
    have hs8 : s < 256 := Nat.lt_of_lt_of_le hs hp
    exact closed_congr ha hb hs8 (cl_congr ha hb hs8 fun e he => h s e hs8 he)
  have hi : (concF m a).map (·.2) = (concF m b).map (·.2) := by
    rw [conc_ints ha, conc_ints hb]
    exact List.filter_congr hcv
  obtain ⟨hlen, hg⟩ := ints_at hi
  refine ⟨hlen, fun i hi => by omega, fun i j _ _ e => e, fun i j hx hy => ?_⟩
  have e1 := und_int2 hx hy
  have e2 := und_int2 (m := m) (b := b) (x := i) (y := j) (by omega) (by omega)
  rw [hg i hx, hg j hy] at e1
  exact Bool.eq_iff_iff.2 (e1.trans e2.symm)
/-- The same extents: the same lattice. -/
theorem exts_iso {m n : Int} {a b : List Int} (h : ∀ x : Int, x ∈ (concF m a).map (·.1) ↔ x ∈ (concF n b).map (·.1)) : ∃ φ, IsoN (concF m a) (concF n b) φ := by
  have hlen : (concF m a).length = (concF n b).length := by
    have := ((List.perm_ext_iff_of_nodup (conc_nodup m a) (conc_nodup n b)).2 h).length_eq
    simpa using this
  have : ∀ i : Nat, ∃ j : Nat, i < (concF m a).length → j < (concF n b).length ∧ ((concF n b).getD j (0, 0)).1 = ((concF m a).getD i (0, 0)).1 := fun i => by
    by_cases hi : i < (concF m a).length
    · have hm : ((concF m a).getD i (0, 0)).1 ∈ (concF n b).map (·.1) := (h _).1 (List.mem_map.2 ⟨_, mem_getD hi, rfl⟩)
      obtain ⟨j, hj, e⟩ := mem_ex hm
      rw [List.length_map] at hj
      rw [getD_map0 hj 0 ((0, 0) : Int × Int)] at e
      exact ⟨j, fun _ => ⟨hj, e⟩⟩
    · exact ⟨0, fun g => absurd g hi⟩
  obtain ⟨φ, hφ⟩ := Classical.skolem.1 this
  refine ⟨φ, hlen, fun i hi => (hφ i hi).1, fun i j hi hj e => ?_, fun i j hi hj => ?_⟩
  · have e1 := (hφ i hi).2
    have e2 := (hφ j hj).2
    rw [e] at e1
    have e3 := e1.symm.trans e2
    have hg : ∀ i, i < (concF m a).length → ((concF m a).map (·.1))[i]? = some ((concF m a).getD i (0, 0)).1 := fun i hi => by
      simp [List.getD, hi]
    exact (List.getElem?_inj (by rw [List.length_map]; exact hi) (conc_nodup m a)).1 ((hg i hi).trans ((congrArg some e3).trans (hg j hj).symm))
  · unfold undB
    rw [(hφ i hi).2, (hφ j hj).2]
def ExtN (m : Int) (b : List Int) (s : Nat) : Prop := ∀ g, g < b.length → (∀ e : Nat, (e : Int) < m → (∀ k, k < b.length → s.testBit k = true → (b.getD k 0).toNat.testBit e = true) → (b.getD g 0).toNat.testBit e = true) → s.testBit g = true
theorem ext_iff {m : Int} {b : List Int} (hc : isCtx m b = true) (x : Int) : x ∈ (concF m b).map (·.1) ↔ ∃ s : Nat, x = s ∧ s < 2 ^ b.length ∧ ExtN m b s := by
  have hl := isCtx_len hc
  have hsm := ctx_small hc
  have hpw : 2 ^ b.length ≤ 2 ^ 8 := Nat.pow_le_pow_right (by omega) hl.1
  constructor
  · intro hx
    obtain ⟨p, hp, rfl⟩ := List.mem_map.1 hx
    obtain ⟨_, p2, p3, p4, p5⟩ := concF_mem hp
    obtain ⟨s, hs, hs'⟩ := isSet_ex p3
    rw [Int.toNat_natCast] at hs'
    have rp := isSet_le p2
    obtain ⟨_, _, xp⟩ := extF_spec hl.1 hsm (s := p.2.toNat) (by omega)
    rw [Int.toNat_of_nonneg (by omega), ← p4, hs, Int.toNat_natCast] at xp
    obtain ⟨_, _, ip⟩ := intentF_spec (m := m) ⟨hl.2.1, by omega⟩ hl.1 hsm (isSet_8 p3)
    rw [p5, hs, Int.toNat_natCast] at ip
    refine ⟨s, hs, hs', fun g hg h => (xp g).2 ⟨hg, fun e he => ?_⟩⟩
    obtain ⟨g1, g2⟩ := (ip e).1 he
    exact h e g1 g2
  · rintro ⟨s, rfl, hs, h⟩
    have h8 : isSet 8 (s : Int) = true := by rw [isSet8]; exact dt (by omega)
    obtain ⟨g1, g2⟩ := int_cl hc h8
    have hm := conc_in hc g1 g2
    refine List.mem_map.2 ⟨_, hm, ?_⟩
    obtain ⟨_, _, ip⟩ := intentF_spec (m := m) ⟨hl.2.1, by omega⟩ hl.1 hsm h8
    have ri := isSet_le g1
    obtain ⟨x1, x2, x3⟩ := extF_spec hl.1 hsm (s := (intentF m b (s : Int)).toNat) (by omega)
    rw [Int.toNat_of_nonneg (by omega)] at x1 x2 x3
    have : (extF b (intentF m b (s : Int))).toNat = s := by
      apply Nat.eq_of_testBit_eq
      intro k
      rw [Bool.eq_iff_iff, x3 k]
      rw [Int.toNat_natCast] at ip
      constructor
      · rintro ⟨k1, k2⟩
        exact h k k1 fun e he hh => k2 e ((ip e).2 ⟨he, hh⟩)
      · intro hk
        have hkb : k < b.length := by
          rcases Nat.lt_or_ge k b.length with q | q
          · exact q
          · rw [Nat.testBit_lt_two_pow (Nat.lt_of_lt_of_le hs (Nat.pow_le_pow_right (by omega) q))] at hk
            cases hk
        exact ⟨hkb, fun e he => ((ip e).1 he).2 k hkb hk⟩
    show extF b (intentF m b (s : Int)) = (s : Int)
    omega
theorem cols_iso {m n : Int} {a b : List Int} (ha : isCtx m a = true) (hb : isCtx n b = true) (hlen : a.length = b.length) (h : ∀ s g : Nat, g < a.length → ((∀ e : Nat, (e : Int) < m → (∀ k, k < a.length → s.testBit k = true → (a.getD k 0).toNat.testBit e = true) → (a.getD g 0).toNat.testBit e = true) ↔ (∀ e : Nat, (e : Int) < n → (∀ k, k < b.length → s.testBit k = true → (b.getD k 0).toNat.testBit e = true) → (b.getD g 0).toNat.testBit e = true))) : ∃ φ, IsoN (concF m a) (concF n b) φ := by
  refine exts_iso fun x => ?_
  rw [ext_iff ha, ext_iff hb]
  refine exists_congr fun s => and_congr_right fun _ => ?_
  rw [hlen]
  refine and_congr_right fun _ => ?_
  unfold ExtN
  rw [← hlen]
  constructor
  · intro q g hg hh
    refine q g hg ((h s g hg).2 ?_)
    rw [← hlen]
    exact hh
  · intro q g hg hh
    refine q g hg ?_
    have := (h s g hg).1 hh
    rw [← hlen] at this
    exact this
/-- Pseudo-closed sets. -/
def Pseudo (cl : Nat → Nat) (s : Nat) : Prop := cl s ≠ s ∧ ∀ p, p < s → SubN p s → Pseudo cl p → SubN (cl p) s
termination_by s
decreasing_by assumption
theorem pseudo_iff (cl : Nat → Nat) (s : Nat) : Pseudo cl s ↔ cl s ≠ s ∧ ∀ p, p < s → SubN p s → Pseudo cl p → SubN (cl p) s := by
  conv => lhs; unfold Pseudo
noncomputable def psB (cl : Nat → Nat) (s : Nat) : Bool := @decide (Pseudo cl s) (Classical.propDecidable _)
theorem psB_iff {cl : Nat → Nat} {s : Nat} : psB cl s = true ↔ Pseudo cl s := by
  unfold psB
  exact @decide_eq_true_iff _ (Classical.propDecidable _)
def greedy (ok : List Nat → Nat → Bool) : List Nat → List Nat → List Nat
  | [], out => out
  | s :: r, out => greedy ok r (bif ok out s then out ++ [s] else out)
theorem psub_lt {p s : Nat} (h : SubN p s) (hne : p ≠ s) : p < s := by
  have e : p &&& s = p := by
    apply Nat.eq_of_testBit_eq
    intro i
    rw [Nat.testBit_and]
    cases hb : p.testBit i
    · rfl
    · rw [h i hb]; rfl
  have : p &&& s ≤ s := Nat.and_le_right
  omega
/-- A choice that goes by what is there gives the pseudo-closed sets, in any order that has subsets first. -/
theorem greedy_ps {cl : Nat → Nat} {ok : List Nat → Nat → Bool} (N : Nat)
    (hok : ∀ out s, s < N → s ∉ out → (∀ x ∈ out, x < N) → (ok out s = true ↔ cl s ≠ s ∧ ∀ p ∈ out, p ≠ s → SubN p s → SubN (cl p) s)) :
    ∀ (todo done : List Nat), (∀ x ∈ done ++ todo, x < N) → (∀ (a : List Nat) (s : Nat) (b : List Nat), todo = a ++ s :: b → s ∉ done ++ a ∧ ∀ p, p < N → SubN p s → p ≠ s → p ∈ done ++ a) →
      greedy ok todo (done.filter (psB cl)) = (done ++ todo).filter (psB cl)
  | [], done, _, _ => by rw [greedy, List.append_nil]
  | s :: r, done, hN, h => by
    obtain ⟨h1, h2⟩ := h [] s r rfl
    rw [List.append_nil] at h1 h2
    have hs : s < N := hN s (by simp)
    have e : ok (done.filter (psB cl)) s = psB cl s := by
      rw [Bool.eq_iff_iff, hok _ s hs (fun hx => h1 (List.mem_filter.1 hx).1) (fun x hx => hN x (List.mem_append_left _ (List.mem_filter.1 hx).1)), psB_iff, pseudo_iff]
      refine and_congr_right fun _ => ⟨fun g p hp hsub hps => ?_, fun g p hp hne hsub => ?_⟩
      · exact g p (List.mem_filter.2 ⟨h2 p (by omega) hsub (by omega), psB_iff.2 hps⟩) (by omega) hsub
      · exact g p (psub_lt hsub hne) hsub (psB_iff.1 (List.mem_filter.1 hp).2)
    have e2 : (bif ok (done.filter (psB cl)) s then done.filter (psB cl) ++ [s] else done.filter (psB cl)) = (done ++ [s]).filter (psB cl) := by
      rw [e, List.filter_append, List.filter_cons]
      cases psB cl s <;> simp
    rw [greedy, e2, greedy_ps N hok r (done ++ [s]) (by simpa [List.append_assoc] using hN) (fun a t b hr => ?_), List.append_assoc]
    · rfl
    · obtain ⟨g1, g2⟩ := h (s :: a) t b (by rw [hr]; rfl)
      rw [List.append_assoc]
      exact ⟨g1, g2⟩
def chkO : List Nat → Bool
  | [] => true
  | s :: r => r.all (fun p => !(p &&& s == p)) && chkO r
theorem chkO_mid : ∀ (a : List Nat) (s : Nat) (b : List Nat), chkO (a ++ s :: b) = true → (∀ p ∈ b, p &&& s ≠ p) ∧ s ∉ a
  | [], s, b, h => by
    simp only [List.nil_append, chkO, Bool.and_eq_true, List.all_eq_true, Bool.not_eq_true', beq_eq_false_iff_ne] at h
    exact ⟨h.1, by simp⟩
  | x :: a, s, b, h => by
    simp only [List.cons_append, chkO, Bool.and_eq_true, List.all_eq_true, Bool.not_eq_true', beq_eq_false_iff_ne] at h
    obtain ⟨h1, h2⟩ := chkO_mid a s b h.2
    refine ⟨h1, fun hs => ?_⟩
    rcases List.mem_cons.1 hs with rfl | hs
    · exact h.1 s (by simp) (Nat.and_self s)
    · exact h2 hs
theorem order_ps {cl : Nat → Nat} {ok : List Nat → Nat → Bool} {N : Nat} {L : List Nat} (hL : chkO L = true) (hN : ∀ x ∈ L, x < N) (hall : ∀ x, x < N → x ∈ L)
    (hok : ∀ out s, s < N → s ∉ out → (∀ x ∈ out, x < N) → (ok out s = true ↔ cl s ≠ s ∧ ∀ p ∈ out, p ≠ s → SubN p s → SubN (cl p) s)) : greedy ok L [] = L.filter (psB cl) := by
  refine greedy_ps N hok L [] hN fun a s b hab => ?_
  rw [hab] at hL
  obtain ⟨h1, h2⟩ := chkO_mid a s b hL
  refine ⟨h2, fun p hp hsub hne => ?_⟩
  have hm := hall p hp
  rw [hab] at hm
  rcases List.mem_append.1 hm with hm | hm
  · exact hm
  · rcases List.mem_cons.1 hm with rfl | hm
    · exact absurd rfl hne
    · refine absurd ?_ (h1 p hm)
      apply Nat.eq_of_testBit_eq
      intro i
      rw [Nat.testBit_and]
      cases hb : p.testBit i
      · rfl
      · rw [hsub i hb]; rfl
/-- A list of sets in lectic order. -/
def lsortI (a : List Int) : List Int := (lecI 6).filter (fun x => a.contains x)
def cfL (x y : Fin 64) : Int := lecC (x.val : Int) (y.val : Int)
def finL (a : List Int) : Array (Fin 64) := (a.map fun x => Fin.ofNat 64 x.toNat).toArray
def setsB (a : List Int) : Bool := a.all (fun x => decide (0 ≤ x ∧ x ≤ 63))
theorem ltL_all : ∀ x y : Fin 64, Go.Proofs.ltOf cfL x y = decide (brev 6 x.val < brev 6 y.val) := by decide +kernel
theorem brevL_inj : ∀ x y : Fin 64, brev 6 x.val = brev 6 y.val → x = y := by decide +kernel
theorem swoL : Go.Sort.SWO (Go.Proofs.ltOf cfL) where
  irrefl x := by rw [ltL_all]; simp
  trans x y z h1 h2 := by rw [ltL_all] at *; simp at *; omega
  ntrans x y z h1 h2 := by rw [ltL_all] at *; simp at *; omega
theorem totL (x y : Fin 64) (h1 : Go.Proofs.ltOf cfL x y = false) (h2 : Go.Proofs.ltOf cfL y x = false) : x = y := by
  rw [ltL_all] at h1 h2
  simp at h1 h2
  exact brevL_inj x y (by omega)
theorem finL_ints {a : List Int} (h : setsB a = true) : intsF (finL a) = a := by
  unfold intsF finL
  simp only [List.map_map]
  conv => rhs; rw [← List.map_id a]
  refine List.map_congr_left fun x hx => ?_
  have := of_decide_eq_true (List.all_eq_true.1 h x hx)
  simp only [Function.comp, Fin.ofNat, id]
  omega
theorem lec6 : (lecI 6).Pairwise (fun x y => Go.Proofs.ltOf cfL (Fin.ofNat 64 y.toNat) (Fin.ofNat 64 x.toNat) = false) ∧ (lecI 6).Nodup ∧ setsB (lecI 6) = true := by decide +kernel
theorem lec6_mem {x : Int} (h : 0 ≤ x ∧ x ≤ 63) : x ∈ lecI 6 := by
  unfold lecI
  refine List.mem_map.2 ⟨x.toNat, (lecL_mem (by omega)).2 (by omega), by omega⟩
theorem lsortI_mem {a : List Int} (h : setsB a = true) (x : Int) : x ∈ lsortI a ↔ x ∈ a := by
  unfold lsortI
  rw [List.mem_filter, List.contains_iff_mem]
  refine ⟨fun g => g.2, fun g => ⟨lec6_mem (of_decide_eq_true (List.all_eq_true.1 h x g)), g⟩⟩
theorem lsortI_nodup (a : List Int) : (lsortI a).Nodup := lec6.2.1.filter _
theorem lsortI_sets (a : List Int) : setsB (lsortI a) = true := by
  unfold setsB
  rw [List.all_eq_true]
  intro x hx
  exact List.all_eq_true.1 lec6.2.2 x (List.mem_filter.1 hx).1
theorem lsortI_perm {a : List Int} (h : setsB a = true) (hn : a.Nodup) : (lsortI a).Perm a := (List.perm_ext_iff_of_nodup (lsortI_nodup a) hn).2 (lsortI_mem h)
theorem lsortI_len {a : List Int} (h : setsB a = true) (hn : a.Nodup) : (lsortI a).length = a.length := (lsortI_perm h hn).length_eq
theorem nodup_le {a : List Int} (h : setsB a = true) (hn : a.Nodup) : a.length ≤ 64 := by
  have h1 := lsortI_len h hn
  have : (lsortI a).length ≤ (lecI 6).length := List.length_filter_le _ _
  have h6 : (lecI 6).length = 64 := by decide +kernel
  omega
theorem finL_size (a : List Int) : (finL a).size = a.length := by simp [finL]
theorem lsort_sorted (a : List Int) (i j : Nat) (hij : i < j) (hj : j < (lsortI a).length) : Go.Proofs.ltOf cfL (finL (lsortI a))[j]! (finL (lsortI a))[i]! = false := by
  have hp : (lsortI a).Pairwise (fun x y => Go.Proofs.ltOf cfL (Fin.ofNat 64 y.toNat) (Fin.ofNat 64 x.toNat) = false) := lec6.1.filter _
  have := List.pairwise_iff_getElem.1 hp i j (by omega) hj hij
  have e : ∀ k (hk : k < (lsortI a).length), (finL (lsortI a))[k]! = Fin.ofNat 64 ((lsortI a)[k]).toNat := by
    intro k hk
    rw [getElem!_pos _ k (by rw [finL_size]; exact hk)]
    simp [finL]
  rw [e j hj, e i (by omega)]
  exact this
theorem lsort_perm {a : List Int} (h : setsB a = true) (hn : a.Nodup) : (finL (lsortI a)).toList.Perm (finL a).toList := by
  unfold finL
  exact (lsortI_perm h hn).map _
theorem lecB_lt : ∀ x y : Fin 64, lecB (x.val : Int) (y.val : Int) = decide (brev 6 x.val < brev 6 y.val) := by decide +kernel
def insL (acc : List Int) (x : Int) : List Int := bif acc.contains x then acc else acc.takeWhile (fun y => lecB y x) ++ x :: acc.dropWhile (fun y => lecB y x)
def sortL : List Int → List Int → List Int
  | [], acc => acc
  | x :: r, acc => sortL r (insL acc x)
def br6 (x : Int) : Nat := brev 6 x.toNat
theorem lecB_br {x y : Int} (hx : 0 ≤ x ∧ x ≤ 63) (hy : 0 ≤ y ∧ y ≤ 63) : lecB x y = decide (br6 x < br6 y) := by
  have := lecB_lt ⟨x.toNat, by omega⟩ ⟨y.toNat, by omega⟩
  simp only [Int.toNat_of_nonneg hx.1, Int.toNat_of_nonneg hy.1] at this
  exact this
theorem br6_inj {x y : Int} (hx : 0 ≤ x ∧ x ≤ 63) (hy : 0 ≤ y ∧ y ≤ 63) (h : br6 x = br6 y) : x = y := by
  have := brevL_inj ⟨x.toNat, by omega⟩ ⟨y.toNat, by omega⟩ h
  have := congrArg Fin.val this
  simp only at this
  omega
def AscL (l : List Int) : Prop := l.Pairwise (fun x y => br6 x < br6 y)
theorem setsB_iff {a : List Int} : setsB a = true ↔ ∀ x ∈ a, 0 ≤ x ∧ x ≤ 63 := by
  unfold setsB
  simp only [List.all_eq_true, decide_eq_true_eq]
theorem insL_ok {acc : List Int} {x : Int} (hs : setsB acc = true) (hx : 0 ≤ x ∧ x ≤ 63) (h : AscL acc) : AscL (insL acc x) ∧ setsB (insL acc x) = true ∧ ∀ z, z ∈ insL acc x ↔ z = x ∨ z ∈ acc := by
  unfold insL
  cases hc : acc.contains x
  · rw [cond_false]
    have hs := setsB_iff.1 hs
    have hnx : x ∉ acc := by
      intro hm
      rw [List.contains_iff_mem.2 hm] at hc
      cases hc
    have happ := List.takeWhile_append_dropWhile (p := fun y => lecB y x) (l := acc)
    have hmem : ∀ z, z ∈ acc.takeWhile (fun y => lecB y x) ++ x :: acc.dropWhile (fun y => lecB y x) ↔ z = x ∨ z ∈ acc := by
      intro z
      conv => rhs; rw [← happ]
      simp only [List.mem_append, List.mem_cons]
      exact ⟨fun g => by rcases g with g | g | g <;> simp [g], fun g => by rcases g with g | g | g <;> simp [g]⟩
    refine ⟨?_, ?_, hmem⟩
    · unfold AscL at h ⊢
      rw [← happ, List.pairwise_append] at h
      obtain ⟨h1, h2, h3⟩ := h
      have hlt : ∀ y ∈ acc.takeWhile (fun y => lecB y x), br6 y < br6 x := by
        intro y hy
        have hb : lecB y x = true := by
          have : ∀ (l : List Int), y ∈ l.takeWhile (fun y => lecB y x) → lecB y x = true := by
            intro l
            induction l with
            | nil => intro g; simp at g
            | cons a l ih =>
              intro g
              rw [List.takeWhile_cons] at g
              cases ha : lecB a x
              · rw [ha] at g; simp at g
              · rw [ha] at g
                rcases List.mem_cons.1 (by simpa using g) with rfl | g
                · exact ha
                · exact ih g
          exact this acc hy
        have hy2 : y ∈ acc := by rw [← happ]; exact List.mem_append_left _ hy
        rw [lecB_br (hs y hy2) hx] at hb
        exact of_decide_eq_true hb
      have hgt : ∀ z ∈ acc.dropWhile (fun y => lecB y x), br6 x < br6 z := by
        intro z hz
        have hz2 : z ∈ acc := by rw [← happ]; exact List.mem_append_right _ hz
        cases hd : acc.dropWhile (fun y => lecB y x) with
        | nil => rw [hd] at hz; cases hz
        | cons w r =>
          have hw2 : w ∈ acc := by rw [← happ, hd]; simp
          have hwb : lecB w x = false := by
            have := List.head_dropWhile_not (fun y => lecB y x) (l := acc) (by rw [hd]; simp)
            simpa [hd] using this
          rw [lecB_br (hs w hw2) hx] at hwb
          have hwb := of_decide_eq_false hwb
          have hne : br6 w ≠ br6 x := fun e => hnx (by rw [← br6_inj (hs w hw2) hx e]; exact hw2)
          rw [hd] at hz h2
          rcases List.mem_cons.1 hz with rfl | hz
          · omega
          · have := (List.pairwise_cons.1 h2).1 z hz
            omega
      rw [List.pairwise_append, List.pairwise_cons]
      refine ⟨h1, ⟨hgt, h2⟩, fun a ha b hb => ?_⟩
      rcases List.mem_cons.1 hb with rfl | hb
      · exact hlt a ha
      · exact h3 a ha b hb
    · rw [setsB_iff]
      intro z hz
      rcases (hmem z).1 hz with rfl | hz
      · exact hx
      · exact hs z hz
  · rw [cond_true]
    refine ⟨h, hs, fun z => ⟨fun g => .inr g, fun g => ?_⟩⟩
    rcases g with rfl | g
    · exact List.contains_iff_mem.1 hc
    · exact g
theorem sortL_ok : ∀ (l acc : List Int), setsB acc = true → setsB l = true → AscL acc → AscL (sortL l acc) ∧ setsB (sortL l acc) = true ∧ ∀ z, z ∈ sortL l acc ↔ z ∈ l ∨ z ∈ acc
  | [], acc, h1, h2, h3 => ⟨h3, h1, fun z => by simp [sortL]⟩
  | x :: r, acc, h1, h2, h3 => by
    have h2' := setsB_iff.1 h2
    obtain ⟨g1, g2, g3⟩ := insL_ok h1 (h2' x (by simp)) h3
    obtain ⟨q1, q2, q3⟩ := sortL_ok r (insL acc x) g2 (setsB_iff.2 fun y hy => h2' y (by simp [hy])) g1
    refine ⟨q1, q2, fun z => ?_⟩
    rw [sortL, q3 z, g3 z, List.mem_cons]
    exact ⟨fun g => by rcases g with g | g | g <;> simp [g], fun g => by rcases g with (g | g) | g <;> simp [g]⟩
theorem asc_ext {a b : List Int} (ha : AscL a) (hb : AscL b) (h : ∀ z, z ∈ a ↔ z ∈ b) : a = b := by
  have hn : ∀ {l : List Int}, AscL l → l.Nodup := fun hl => hl.imp fun g e => by rw [e] at g; omega
  exact List.Perm.eq_of_pairwise (le := fun x y => br6 x < br6 y) (fun x y _ _ g1 g2 => by omega) ha hb ((List.perm_ext_iff_of_nodup (hn ha) (hn hb)).2 h)
theorem lsortI_asc (a : List Int) : AscL (lsortI a) := by
  have h6 : (lecI 6).Pairwise (fun x y => br6 x < br6 y) := by decide +kernel
  exact h6.filter _
theorem sortL_eq {l : List Int} (h : setsB l = true) : sortL l [] = lsortI l := by
  obtain ⟨h1, h2, h3⟩ := sortL_ok l [] rfl h List.Pairwise.nil
  refine asc_ext h1 (lsortI_asc l) fun z => ?_
  rw [h3 z, lsortI_mem h]
  simp
theorem sortL_len : ∀ (l acc : List Int), (sortL l acc).length ≤ l.length + acc.length
  | [], acc => by simp [sortL]
  | x :: r, acc => by
    have := sortL_len r (insL acc x)
    have h2 : (insL acc x).length ≤ acc.length + 1 := by
      unfold insL
      cases acc.contains x
      · rw [cond_false, List.length_append, List.length_cons]
        have := congrArg List.length (List.takeWhile_append_dropWhile (p := fun y => lecB y x) (l := acc))
        rw [List.length_append] at this
        omega
      · rw [cond_true]; omega
    rw [sortL, List.length_cons]
    omega
/-- The library's stable sort, as it goes. -/
def swp (ys : List Int) (i j : Nat) : List Int := (ys.set i (ys.getD j 0)).set j (ys.getD i 0)
theorem swp_len (ys : List Int) (i j : Nat) : (swp ys i j).length = ys.length := by unfold swp; simp
def ltC (x y : Int) : Bool := decide (cntF x - cntF y < 0)
def downF (a : Nat) : Nat → List Int → List Int
  | 0, ys => ys
  | j + 1, ys => bif decide (a < j + 1) && ltC (ys.getD (j + 1) 0) (ys.getD j 0) then downF a j (swp ys (j + 1) j) else ys
theorem downF_len (a : Nat) : ∀ (j : Nat) (ys : List Int), (downF a j ys).length = ys.length
  | 0, _ => rfl
  | j + 1, ys => by
    rw [downF]
    cases decide (a < j + 1) && ltC (ys.getD (j + 1) 0) (ys.getD j 0)
    · rfl
    · rw [cond_true, downF_len a j, swp_len]
def insFrom (a : Nat) : Nat → Nat → List Int → List Int
  | 0, _, ys => ys
  | d + 1, i, ys => insFrom a d (i + 1) (downF a i ys)
theorem insFrom_len (a : Nat) : ∀ (d i : Nat) (ys : List Int), (insFrom a d i ys).length = ys.length
  | 0, _, _ => rfl
  | d + 1, i, ys => by rw [insFrom, insFrom_len a d, downF_len]
def insSort (ys : List Int) (a b : Nat) : List Int := insFrom a (b - (a + 1)) (a + 1) ys
theorem insSort_len (ys : List Int) (a b : Nat) : (insSort ys a b).length = ys.length := insFrom_len a _ _ _
def swapR : Nat → Nat → Nat → List Int → List Int
  | 0, _, _, ys => ys
  | d + 1, i, j, ys => swapR d (i + 1) (j + 1) (swp ys i j)
theorem swapR_len : ∀ (d i j : Nat) (ys : List Int), (swapR d i j ys).length = ys.length
  | 0, _, _, _ => rfl
  | d + 1, i, j, ys => by rw [swapR, swapR_len d, swp_len]
def rotF (m : Nat) : Nat → Nat → Nat → List Int → List Int
  | 0, _, _, ys => ys
  | d + 1, i, j, ys => bif decide (i = j) then swapR i (m - i) m ys else
      bif decide (i > j) then rotF m d (i - j) j (swapR j (m - i) m ys) else rotF m d i (j - i) (swapR i (m - i) (m + j - i) ys)
theorem rotF_len (m : Nat) : ∀ (d i j : Nat) (ys : List Int), (rotF m d i j ys).length = ys.length
  | 0, _, _, _ => rfl
  | d + 1, i, j, ys => by
    rw [rotF]
    cases decide (i = j)
    · cases decide (i > j)
      · rw [cond_false, cond_false, rotF_len m d, swapR_len]
      · rw [cond_false, cond_true, rotF_len m d, swapR_len]
    · rw [cond_true, swapR_len]
def binF (p : Nat → Bool) : Nat → Nat → Nat → Nat
  | 0, i, _ => i
  | d + 1, i, j => bif decide (i < j) then (bif p ((i + j) / 2) then binF p d ((i + j) / 2 + 1) j else binF p d i ((i + j) / 2)) else i
theorem binF_rng (p : Nat → Bool) : ∀ (d i j : Nat), i ≤ j → i ≤ binF p d i j ∧ binF p d i j ≤ j
  | 0, i, j, h => ⟨Nat.le_refl i, h⟩
  | d + 1, i, j, h => by
    rw [binF]
    by_cases hij : i < j
    · rw [decide_eq_true hij, cond_true]
      cases p ((i + j) / 2)
      · rw [cond_false]
        have := binF_rng p d i ((i + j) / 2) (by omega)
        omega
      · rw [cond_true]
        have := binF_rng p d ((i + j) / 2 + 1) j (by omega)
        omega
    · rw [decide_eq_false hij, cond_false]
      omega
def upF : Nat → Nat → List Int → List Int
  | 0, _, ys => ys
  | d + 1, k, ys => upF d (k + 1) (swp ys k (k + 1))
theorem upF_len : ∀ (d k : Nat) (ys : List Int), (upF d k ys).length = ys.length
  | 0, _, _ => rfl
  | d + 1, k, ys => by rw [upF, upF_len d, swp_len]
def dnF : Nat → Nat → List Int → List Int
  | 0, _, ys => ys
  | d + 1, k, ys => dnF d (k - 1) (swp ys k (k - 1))
theorem dnF_len : ∀ (d k : Nat) (ys : List Int), (dnF d k ys).length = ys.length
  | 0, _, _ => rfl
  | d + 1, k, ys => by rw [dnF, dnF_len d, swp_len]
def midF (a b : Nat) : Nat := (a + b) / 2
def st0F (a m b : Nat) : Nat := bif decide (m > midF a b) then midF a b + m - b else a
def r0F (a m b : Nat) : Nat := bif decide (m > midF a b) then midF a b else m
def stF' (ys : List Int) (a m b : Nat) : Nat := binF (fun c => !ltC (ys.getD (midF a b + m - 1 - c) 0) (ys.getD c 0)) 64 (st0F a m b) (r0F a m b)
def symM : Nat → Nat → Nat → Nat → List Int → List Int
  | 0, _, _, _, ys => ys
  | d + 1, a, m, b, ys =>
    bif decide (m - a = 1) then upF (binF (fun h => ltC (ys.getD h 0) (ys.getD a 0)) 64 m b - 1 - a) a ys else
    bif decide (b - m = 1) then dnF (m - binF (fun h => !ltC (ys.getD m 0) (ys.getD h 0)) 64 a m) m ys else
    (fun (st en : Nat) => (fun y1 => (fun y2 => bif decide (midF a b < en ∧ en < b) then symM d (midF a b) en b y2 else y2)
      (bif decide (a < st ∧ st < midF a b) then symM d a st (midF a b) y1 else y1))
      (bif decide (st < m ∧ m < en) then rotF m 200 (m - st) (en - m) ys else ys)) (stF' ys a m b) (midF a b + m - stF' ys a m b)
theorem symM_len : ∀ (d a m b : Nat) (ys : List Int), (symM d a m b ys).length = ys.length
  | 0, _, _, _, _ => rfl
  | d + 1, a, m, b, ys => by
    rw [symM]
    cases decide (m - a = 1)
    · cases decide (b - m = 1)
      · simp only [cond_false]
        generalize stF' ys a m b = st
        generalize midF a b + m - st = en
        have h1 : (bif decide (st < m ∧ m < en) then rotF m 200 (m - st) (en - m) ys else ys).length = ys.length := by
          cases decide (st < m ∧ m < en)
          · rfl
          · rw [cond_true, rotF_len]
        generalize (bif decide (st < m ∧ m < en) then rotF m 200 (m - st) (en - m) ys else ys) = y1 at h1
        have h2 : (bif decide (a < st ∧ st < midF a b) then symM d a st (midF a b) y1 else y1).length = ys.length := by
          cases decide (a < st ∧ st < midF a b)
          · exact h1
          · rw [cond_true, symM_len d, h1]
        generalize (bif decide (a < st ∧ st < midF a b) then symM d a st (midF a b) y1 else y1) = y2 at h2
        cases decide (midF a b < en ∧ en < b)
        · exact h2
        · rw [cond_true, symM_len d, h2]
      · rw [cond_false, cond_true, dnF_len]
    · rw [cond_true, upF_len]
def blksF (n : Nat) : Nat → Nat → List Int → List Int
  | 0, _, ys => ys
  | d + 1, a, ys => bif decide (a + 20 ≤ n) then blksF n d (a + 20) (insSort ys a (a + 20)) else insSort ys a n
def mrgF (n bs : Nat) : Nat → Nat → List Int → List Int
  | 0, _, ys => ys
  | d + 1, a, ys => bif decide (a + 2 * bs ≤ n) then mrgF n bs d (a + 2 * bs) (symM 6 a (a + bs) (a + 2 * bs) ys) else
      bif decide (a + bs < n) then symM 6 a (a + bs) n ys else ys
def lvlF (n : Nat) : Nat → Nat → List Int → List Int
  | 0, _, ys => ys
  | d + 1, bs, ys => bif decide (bs < n) then lvlF n d (bs * 2) (mrgF n bs 5 0 ys) else ys
def stableF (ys : List Int) : List Int := lvlF ys.length 5 20 (blksF ys.length 5 0 ys)
theorem blksF_len (n : Nat) : ∀ (d a : Nat) (ys : List Int), (blksF n d a ys).length = ys.length
  | 0, _, _ => rfl
  | d + 1, a, ys => by
    rw [blksF]
    cases decide (a + 20 ≤ n)
    · rw [cond_false, insSort_len]
    · rw [cond_true, blksF_len n d, insSort_len]
theorem mrgF_len (n bs : Nat) : ∀ (d a : Nat) (ys : List Int), (mrgF n bs d a ys).length = ys.length
  | 0, _, _ => rfl
  | d + 1, a, ys => by
    rw [mrgF]
    cases decide (a + 2 * bs ≤ n)
    · cases decide (a + bs < n)
      · rfl
      · rw [cond_false, cond_true, symM_len]
    · rw [cond_true, mrgF_len n bs d, symM_len]
def stableN (n : Nat) : List Nat := (stableF (lecI n)).map Int.toNat
theorem stab_all : ∀ n : Fin 7, chkO (stableN n.val) = true ∧ (stableN n.val).all (fun x => decide (x < 2 ^ n.val)) = true ∧ (List.range (2 ^ n.val)).all (fun x => (stableN n.val).contains x) = true ∧ stableF (lecI n.val) = (stableN n.val).map (fun (x : Nat) => (x : Int)) := by decide +kernel
theorem num_all : ∀ n : Fin 7, chkO (List.range (2 ^ n.val)) = true := by decide +kernel
def okS (cl : Nat → Nat) (out : List Nat) (s : Nat) : Bool := !(cl s == s) && out.all (fun p => !(p &&& s == p) || (cl p &&& s == cl p))
def okP (cl : Nat → Nat) (out : List Nat) (s : Nat) : Bool := !(cl s == s) && !out.any (fun p => (!(p == s) && (p &&& s == p)) && !(cl p &&& s == cl p))
theorem okS_ok (cl : Nat → Nat) (out : List Nat) (s : Nat) (hs : s ∉ out) : okS cl out s = true ↔ cl s ≠ s ∧ ∀ p ∈ out, p ≠ s → SubN p s → SubN (cl p) s := by
  unfold okS
  rw [Bool.and_eq_true, Bool.not_eq_true', beq_eq_false_iff_ne, List.all_eq_true]
  refine and_congr_right fun _ => ⟨fun g p hp _ hsub => ?_, fun g p hp => ?_⟩
  · have := g p hp
    rw [and_sub.2 hsub, Bool.not_true, Bool.false_or] at this
    exact and_sub.1 this
  · cases hb : p &&& s == p
    · rfl
    · rw [Bool.not_true, Bool.false_or]
      exact and_sub.2 (g p hp (fun e => hs (e ▸ hp)) (and_sub.1 hb))
theorem okP_ok (cl : Nat → Nat) (out : List Nat) (s : Nat) (hs : s ∉ out) : okP cl out s = true ↔ cl s ≠ s ∧ ∀ p ∈ out, p ≠ s → SubN p s → SubN (cl p) s := by
  unfold okP
  rw [Bool.and_eq_true, Bool.not_eq_true', beq_eq_false_iff_ne, Bool.not_eq_true', List.any_eq_false]
  refine and_congr_right fun _ => ⟨fun g p hp hne hsub => ?_, fun g p hp => ?_⟩
  · have := g p hp
    rw [and_sub.2 hsub, beq_eq_false_iff_ne.2 hne] at this
    simp only [Bool.not_false, Bool.and_self, Bool.true_and, Bool.not_eq_true', Bool.not_eq_false] at this
    exact and_sub.1 this
  · cases hb : p &&& s == p
    · simp
    · rw [and_sub.2 (g p hp (fun e => hs (e ▸ hp)) (and_sub.1 hb))]
      simp
theorem greedy_S (cl : Nat → Nat) {n : Nat} (hn : n ≤ 6) : greedy (okS cl) (List.range (2 ^ n)) [] = (List.range (2 ^ n)).filter (psB cl) :=
  order_ps (N := 2 ^ n) (num_all ⟨n, by omega⟩) (fun x hx => List.mem_range.1 hx) (fun x hx => List.mem_range.2 hx) fun out s _ hs _ => okS_ok cl out s hs
theorem stab_mem {n : Nat} (hn : n ≤ 6) (x : Nat) : x ∈ stableN n ↔ x < 2 ^ n := by
  obtain ⟨h1, h2, h3, h4⟩ := stab_all ⟨n, by omega⟩
  simp only [List.all_eq_true, decide_eq_true_eq, List.mem_range, List.contains_iff_mem] at h2 h3
  exact ⟨h2 x, h3 x⟩
theorem greedy_I (cl : Nat → Nat) {n : Nat} (hn : n ≤ 6) : greedy (okP cl) (stableN n) [] = (stableN n).filter (psB cl) :=
  order_ps (N := 2 ^ n) (stab_all ⟨n, by omega⟩).1 (fun x hx => (stab_mem hn x).1 hx) (fun x hx => (stab_mem hn x).2 hx) fun out s _ hs _ => okP_ok cl out s hs
abbrev castN (L : List Nat) : List Int := L.map (fun (x : Nat) => (x : Int))
theorem chkO_nodup : ∀ l : List Nat, chkO l = true → l.Nodup
  | [], _ => List.nodup_nil
  | s :: r, h => by
    rw [chkO, Bool.and_eq_true, List.all_eq_true] at h
    refine List.nodup_cons.2 ⟨fun hs => ?_, chkO_nodup r h.2⟩
    have := h.1 s hs
    rw [Nat.and_self] at this
    simp at this
theorem castN_nodup {L : List Nat} (h : L.Nodup) : (castN L).Nodup := by
  refine List.Pairwise.map _ (fun a b hab e => hab ?_) h
  exact Int.ofNat.inj e
theorem castN_sets {L : List Nat} (h : ∀ x ∈ L, x < 64) : setsB (castN L) = true := by
  rw [setsB_iff]
  intro y hy
  obtain ⟨x, hx, rfl⟩ := List.mem_map.1 hy
  have := h x hx
  omega
theorem lsortI_congr {a b : List Int} (h : ∀ x, x ∈ a ↔ x ∈ b) : lsortI a = lsortI b := by
  unfold lsortI
  refine List.filter_congr fun x _ => ?_
  rw [Bool.eq_iff_iff, List.contains_iff_mem, List.contains_iff_mem, h x]
def stemI (m : Int) (b : List Int) : List Int := lsortI (castN (greedy (okS (clN m b)) (List.range (2 ^ m.toNat)) []))
theorem stem_S (m : Int) (b : List Int) (hm : m.toNat ≤ 6) : sortL (castN (greedy (okS (clN m b)) (List.range (2 ^ m.toNat)) [])) [] = stemI m b := by
  have hp : 2 ^ m.toNat ≤ 2 ^ 6 := Nat.pow_le_pow_right (by omega) hm
  unfold stemI
  rw [greedy_S _ hm]
  exact sortL_eq (castN_sets fun x hx => by have := List.mem_range.1 (List.mem_filter.1 hx).1; omega)
theorem stem_I (m : Int) (b : List Int) (hm : m.toNat ≤ 6) : lsortI (castN (greedy (okP (clN m b)) (stableN m.toNat) [])) = stemI m b := by
  unfold stemI
  rw [greedy_I _ hm, greedy_S _ hm]
  refine lsortI_congr fun x => ?_
  simp only [castN, List.mem_map, List.mem_filter, stab_mem hm, List.mem_range]
theorem greedy_sub (ok : List Nat → Nat → Bool) : ∀ (l out : List Nat), ∀ x ∈ greedy ok l out, x ∈ l ∨ x ∈ out
  | [], out, x, h => .inr h
  | s :: r, out, x, h => by
    rw [greedy] at h
    rcases greedy_sub ok r _ x h with h | h
    · exact .inl (by simp [h])
    · cases hb : ok out s
      · rw [hb, cond_false] at h; exact .inr h
      · rw [hb, cond_true] at h
        rcases List.mem_append.1 h with h | h
        · exact .inr h
        · exact .inl (by simp at h; simp [h])
theorem stemI_sets (m : Int) (b : List Int) : setsB (stemI m b) = true := lsortI_sets _
theorem stemI_len (m : Int) (b : List Int) : (stemI m b).length ≤ 64 := nodup_le (stemI_sets m b) (lsortI_nodup _)
theorem stemI_mem {m : Int} {b : List Int} (hm : m.toNat ≤ 6) {x : Int} (h : x ∈ stemI m b) : 0 ≤ x ∧ x.toNat < 2 ^ m.toNat := by
  have hp : 2 ^ m.toNat ≤ 2 ^ 6 := Nat.pow_le_pow_right (by omega) hm
  unfold stemI at h
  rw [greedy_S _ hm] at h
  rw [lsortI_mem (castN_sets fun x hx => by have := List.mem_range.1 (List.mem_filter.1 hx).1; omega)] at h
  obtain ⟨y, hy, rfl⟩ := List.mem_map.1 h
  have := List.mem_range.1 (List.mem_filter.1 hy).1
  exact ⟨by omega, by rw [Int.toNat_natCast]; exact this⟩
theorem greedy_I_nodup (cl : Nat → Nat) {n : Nat} (hn : n ≤ 6) : (castN (greedy (okP cl) (stableN n) [])).Nodup := by
  rw [greedy_I _ hn]
  exact castN_nodup ((chkO_nodup _ (stab_all ⟨n, by omega⟩).1).filter _)
theorem greedy_I_sets (cl : Nat → Nat) {n : Nat} (hn : n ≤ 6) : setsB (castN (greedy (okP cl) (stableN n) [])) = true := by
  have hp : 2 ^ n ≤ 2 ^ 6 := Nat.pow_le_pow_right (by omega) hn
  rw [greedy_I _ hn]
  exact castN_sets fun x hx => by have := (stab_mem hn x).1 (List.mem_filter.1 hx).1; omega
theorem greedy_S_sets (cl : Nat → Nat) {n : Nat} (hn : n ≤ 6) : setsB (castN (greedy (okS cl) (List.range (2 ^ n)) [])) = true := by
  have hp : 2 ^ n ≤ 2 ^ 6 := Nat.pow_le_pow_right (by omega) hn
  exact castN_sets fun x hx => by
    rcases greedy_sub _ _ _ x hx with h | h
    · have := List.mem_range.1 h; omega
    · cases h
theorem greedy_len (ok : List Nat → Nat → Bool) : ∀ (l out : List Nat), (greedy ok l out).length ≤ l.length + out.length
  | [], out => by simp [greedy]
  | s :: r, out => by
    have := greedy_len ok r (bif ok out s then out ++ [s] else out)
    rw [greedy, List.length_cons]
    cases hb : ok out s
    · rw [hb, cond_false] at this; rw [cond_false]; omega
    · rw [hb, cond_true, List.length_append, List.length_singleton] at this; rw [cond_true]; omega
def stemR (m : Int) (b : List Int) : List (Int × Int) := (stemI m b).map (fun s => (s, intentF m b (extF b s)))
theorem nodup_noAdj : ∀ l : List Int, l.Nodup → noAdj l = true
  | [], _ => rfl
  | [a], _ => rfl
  | a :: b :: r, h => by
    have h1 := List.nodup_cons.1 h
    unfold noAdj
    rw [nodup_noAdj (b :: r) h1.2, Bool.and_true, bne_iff_ne]
    exact fun e => h1.1 (by rw [e]; simp)
def clI (m : Int) (b : List Int) (s : Int) : Int := bif isCtx m b && isSet m s then intentF m b (extF b s) else 0
def badP (m : Int) (b : List Int) (s p : Int) : Bool := ((p != s) && (bnot p s == 0)) && !(bnot (clI m b p) s == 0)
theorem set_of_lt {m : Int} {b : List Int} (h : isCtx m b = true) {s : Nat} (hs : s < 2 ^ m.toNat) : isSet m (s : Int) = true := by
  have hl := isCtx_len h
  unfold isSet
  refine dt ⟨by omega, by omega, ?_⟩
  have e2 : ((2 ^ m.toNat : Nat) : Int) = (2 : Int) ^ m.toNat := by push_cast; rfl
  omega
theorem clI_nat {m : Int} {b : List Int} (h : isCtx m b = true) {s : Nat} (hs : s < 2 ^ m.toNat) : clI m b (s : Int) = ((clN m b s : Nat) : Int) := by
  have hl := isCtx_len h
  have h6 : 2 ^ m.toNat ≤ 2 ^ 6 := Nat.pow_le_pow_right (by omega) (by omega)
  unfold clI
  rw [h, set_of_lt h hs, Bool.and_self, cond_true, clN_int h (by omega)]
theorem badP_nat {m : Int} {b : List Int} (h : isCtx m b = true) {s p : Nat} (hs : s < 2 ^ m.toNat) (hp : p < 2 ^ m.toNat) : badP m b (s : Int) (p : Int) = ((!(p == s) && (p &&& s == p)) && !(clN m b p &&& s == clN m b p)) := by
  have hl := isCtx_len h
  have h6 : 2 ^ m.toNat ≤ 2 ^ 6 := Nat.pow_le_pow_right (by omega) (by omega)
  have hc := (cl_clo h).lt p hp
  have hb : ∀ x y : Nat, x < 256 → y < 256 → (bnot (x : Int) (y : Int) == 0) = (x &&& y == x) := by
    intro x y hx hy
    rw [bnot_sub hx, band_nat hx hy, Bool.eq_iff_iff, beq_iff_eq, beq_iff_eq]
    omega
  unfold badP
  rw [clI_nat h hp, hb p s (by omega) (by omega), hb _ s (by omega) (by omega)]
  congr 2
  rw [bne, Bool.eq_iff_iff]
  simp only [Bool.not_eq_true', beq_eq_false_iff_ne, ne_eq]
  omega
theorem any_bad {m : Int} {b : List Int} (h : isCtx m b = true) {s : Nat} (hs : s < 2 ^ m.toNat) : ∀ L : List Nat, (∀ x ∈ L, x < 2 ^ m.toNat) → (castN L).any (badP m b (s : Int)) = L.any (fun p => (!(p == s) && (p &&& s == p)) && !(clN m b p &&& s == clN m b p))
  | [], _ => rfl
  | p :: L, hL => by
    have ih := any_bad h hs L fun x hx => hL x (by simp [hx])
    unfold castN at ih ⊢
    rw [List.map_cons, List.any_cons, List.any_cons, ih, badP_nat h hs (hL p (by simp))]
def fineP (m : Int) (b : List Int) (s y : Int) : Bool := (band y s != y) || (band (intentF m b (extF b y)) s == intentF m b (extF b y))
theorem all_fine {m : Int} {b : List Int} (h : isCtx m b = true) {s : Nat} (hs : s < 2 ^ m.toNat) : ∀ L : List Nat, (∀ x ∈ L, x < 2 ^ m.toNat) → (castN L).all (fineP m b (s : Int)) = L.all (fun p => !(p &&& s == p) || (clN m b p &&& s == clN m b p))
  | [], _ => rfl
  | p :: L, hL => by
    have ih := all_fine h hs L fun x hx => hL x (by simp [hx])
    have hl := isCtx_len h
    have h6 : 2 ^ m.toNat ≤ 2 ^ 6 := Nat.pow_le_pow_right (by omega) (by omega)
    have hp := hL p (by simp)
    have hc := (cl_clo h).lt p hp
    unfold castN at ih ⊢
    rw [List.map_cons, List.all_cons, List.all_cons, ih]
    congr 1
    unfold fineP
    rw [clN_int h (by omega), band_nat (by omega) (by omega), band_nat (by omega) (by omega)]
    congr 1
    · rw [bne, Bool.eq_iff_iff]
      simp only [Bool.not_eq_true', beq_eq_false_iff_ne, ne_eq]
      omega
    · rw [Bool.eq_iff_iff, beq_iff_eq, beq_iff_eq]
      omega
theorem bs_all : ∀ x y : Fin 64, x ≠ y → (band (y.val : Int) (band (bxor (x.val : Int) (y.val : Int)) (IntKind.i64.wrap (-(bxor (x.val : Int) (y.val : Int))))) != 0) = lecB (x.val : Int) (y.val : Int) := by decide +kernel
theorem borSet {x y : Int} (hx : 0 ≤ x ∧ x ≤ 255) (hy : 0 ≤ y ∧ y ≤ 255) : (0 ≤ bor x y ∧ bor x y ≤ 255) ∧ (bor x y).toNat = x.toNat ||| y.toNat := by
  obtain ⟨x, rfl⟩ : ∃ n : Nat, x = n := ⟨x.toNat, by omega⟩
  obtain ⟨y, rfl⟩ : ∃ n : Nat, y = n := ⟨y.toNat, by omega⟩
  rw [bor_nat (by omega) (by omega)]
  have h : x ||| y < 2 ^ 8 := Nat.or_lt_two_pow (by omega) (by omega)
  exact ⟨⟨by omega, by omega⟩, rfl⟩
theorem sub_refl (x : Nat) : SubN x x := fun _ h => h
theorem sub_trans {x y z : Nat} (h : SubN x y) (g : SubN y z) : SubN x z := fun i hi => g i (h i hi)
theorem sub_anti {x y : Nat} (h : SubN x y) (g : SubN y x) : x = y := by
  apply Nat.eq_of_testBit_eq
  intro i
  rw [Bool.eq_iff_iff]
  exact ⟨h i, g i⟩
theorem sub_or {x y z : Nat} : SubN (x ||| y) z ↔ SubN x z ∧ SubN y z := by
  constructor
  · intro h
    exact ⟨fun i hi => h i (by rw [Nat.testBit_or, hi, Bool.true_or]), fun i hi => h i (by rw [Nat.testBit_or, hi, Bool.or_true])⟩
  · rintro ⟨h, g⟩ i hi
    rw [Nat.testBit_or, Bool.or_eq_true] at hi
    exact hi.elim (h i) (g i)
theorem sub_or_l (x y : Nat) : SubN x (x ||| y) := fun i hi => by rw [Nat.testBit_or, hi, Bool.true_or]
theorem sub_or_r (x y : Nat) : SubN y (x ||| y) := fun i hi => by rw [Nat.testBit_or, hi, Bool.or_true]
theorem sub_leN {x y : Nat} (h : SubN x y) : x ≤ y := by
  have := and_sub.2 h
  rw [beq_iff_eq] at this
  rw [← this]
  exact Nat.and_le_right
theorem sub_ltN {x y : Nat} (h : SubN x y) (hn : x ≠ y) : x < y := by
  have := sub_leN h
  omega
def RSet (R : List (Int × Int)) : Prop := ∀ r ∈ R, (0 ≤ r.1 ∧ r.1 ≤ 255) ∧ (0 ≤ r.2 ∧ r.2 ≤ 255)
theorem RSet_bad {R : List (Int × Int)} (h : RSet R) : R.any badR = false := by
  rw [List.any_eq_false]
  intro r hr
  have := h r hr
  unfold badR
  rw [isSet8, isSet8, dt this.1, dt this.2]
  decide
theorem RSet_of {R : List (Int × Int)} (h : R.any badR = false) : RSet R := by
  rw [List.any_eq_false] at h
  intro r hr
  have := h r hr
  unfold badR at this
  rw [isSet8, isSet8] at this
  simpa using this
def oneL (s : Int) : List (Int × Int) → Int → Int
  | [], acc => acc
  | r :: R, acc => oneL s R (bif bnot r.1 s == 0 then bor acc r.2 else acc)
def iterR (R : List (Int × Int)) : Nat → Int → Int
  | 0, s => s
  | d + 1, s => bif oneL s R s == s then s else iterR R d (oneL s R s)
def clR (R : List (Int × Int)) (s : Int) : Int := iterR R 256 s
def Resp (R : List (Int × Int)) (t : Nat) : Prop := ∀ r ∈ R, SubN r.1.toNat t → SubN r.2.toNat t
structure IsCl (R : List (Int × Int)) (s c : Int) : Prop where
  rng : 0 ≤ c ∧ c ≤ 255
  ext : SubN s.toNat c.toNat
  resp : Resp R c.toNat
  least : ∀ t, SubN s.toNat t → Resp R t → SubN c.toNat t
theorem IsCl.uniq {R : List (Int × Int)} {s c c' : Int} (h : IsCl R s c) (g : IsCl R s c') : c = c' := by
  have := sub_anti (h.least _ g.ext g.resp) (g.least _ h.ext h.resp)
  have h1 := h.rng
  have h2 := g.rng
  omega
theorem oneL_spec {s : Int} (hs : 0 ≤ s ∧ s ≤ 255) : ∀ (R : List (Int × Int)) (acc : Int), RSet R → (0 ≤ acc ∧ acc ≤ 255) →
    (0 ≤ oneL s R acc ∧ oneL s R acc ≤ 255) ∧ SubN acc.toNat (oneL s R acc).toNat ∧ (∀ r ∈ R, SubN r.1.toNat s.toNat → SubN r.2.toNat (oneL s R acc).toNat) ∧
    ∀ t, SubN acc.toNat t → (∀ r ∈ R, SubN r.1.toNat s.toNat → SubN r.2.toNat t) → SubN (oneL s R acc).toNat t
  | [], acc, _, ha => ⟨ha, sub_refl _, fun r hr => (by cases hr), fun t h _ => h⟩
  | r :: R, acc, hR, ha => by
    have hr := hR r (by simp)
    have hR' : RSet R := fun x hx => hR x (by simp [hx])
    have hb := borSet ha hr.2
    rw [oneL]
    cases hq : bnot r.1 s == 0 with
    | true =>
      rw [cond_true]
      have hq' := (bnotSub hr.1 hs).1 hq
      obtain ⟨h1, h2, h3, h4⟩ := oneL_spec hs R _ hR' hb.1
      rw [hb.2] at h2 h4
      refine ⟨h1, sub_trans (sub_or_l _ _) h2, fun x hx hsub => ?_, fun t g1 g2 => ?_⟩
      · rcases List.mem_cons.1 hx with rfl | hx
        · exact sub_trans (sub_or_r _ _) h2
        · exact h3 x hx hsub
      · exact h4 t (sub_or.2 ⟨g1, g2 r (by simp) hq'⟩) fun x hx => g2 x (by simp [hx])
    | false =>
      rw [cond_false]
      have hq' : ¬ SubN r.1.toNat s.toNat := fun h => by rw [(bnotSub hr.1 hs).2 h] at hq; cases hq
      obtain ⟨h1, h2, h3, h4⟩ := oneL_spec hs R _ hR' ha
      refine ⟨h1, h2, fun x hx hsub => ?_, fun t g1 g2 => h4 t g1 fun x hx => g2 x (by simp [hx])⟩
      rcases List.mem_cons.1 hx with rfl | hx
      · exact absurd hsub hq'
      · exact h3 x hx hsub
theorem iterR_spec {R : List (Int × Int)} (hR : RSet R) : ∀ (d : Nat) (s : Int), (0 ≤ s ∧ s ≤ 255) → 256 ≤ d + s.toNat → IsCl R s (iterR R d s)
  | 0, s, hs, hd => by omega
  | d + 1, s, hs, hd => by
    obtain ⟨h1, h2, h3, h4⟩ := oneL_spec hs R s hR hs
    rw [iterR]
    cases hq : oneL s R s == s with
    | true =>
      rw [cond_true]
      have hq : oneL s R s = s := by simpa using hq
      rw [hq] at h3
      exact ⟨hs, sub_refl _, h3, fun t h _ => h⟩
    | false =>
      rw [cond_false]
      have hq : oneL s R s ≠ s := by simpa using hq
      have hlt := sub_ltN h2 (by omega)
      have ih := iterR_spec hR d (oneL s R s) h1 (by omega)
      refine ⟨ih.rng, sub_trans h2 ih.ext, ih.resp, fun t g1 g2 => ih.least t (h4 t g1 fun r hr hsub => g2 r hr (sub_trans hsub g1)) g2⟩
theorem clR_is {R : List (Int × Int)} (hR : RSet R) {s : Int} (hs : 0 ≤ s ∧ s ≤ 255) : IsCl R s (clR R s) := iterR_spec hR 256 s hs (by omega)
/-- The reference's way: a pass that writes as it goes. -/
def passL : List (Int × Int) → Int × Bool → Int × Bool
  | [], p => p
  | r :: R, p => passL R (bif (band r.1 p.1 == r.1) && (band r.2 p.1 != r.2) then (bor p.1 r.2, true) else p)
def iterP (R : List (Int × Int)) : Nat → Int → Int
  | 0, s => s
  | d + 1, s => bif (passL R (s, false)).2 then iterP R d (passL R (s, false)).1 else (passL R (s, false)).1
theorem passL_spec : ∀ (R : List (Int × Int)) (s : Int) (f : Bool), RSet R → (0 ≤ s ∧ s ≤ 255) →
    (0 ≤ (passL R (s, f)).1 ∧ (passL R (s, f)).1 ≤ 255) ∧ SubN s.toNat (passL R (s, f)).1.toNat ∧ (∀ t, SubN s.toNat t → Resp R t → SubN (passL R (s, f)).1.toNat t) ∧
    ((passL R (s, f)).2 = true → f = true ∨ s.toNat < (passL R (s, f)).1.toNat) ∧ ((passL R (s, f)).2 = false → f = false ∧ (passL R (s, f)).1 = s ∧ Resp R s.toNat)
  | [], s, f, _, hs => ⟨hs, sub_refl _, fun t h _ => h, fun h => .inl h, fun h => ⟨h, rfl, fun r hr => by cases hr⟩⟩
  | r :: R, s, f, hR, hs => by
    have hr := hR r (by simp)
    have hR' : RSet R := fun x hx => hR x (by simp [hx])
    have hb := borSet hs hr.2
    have e1 := bandSub hr.1 hs
    have e2 := bandSub hr.2 hs
    rw [passL]
    dsimp only
    cases hq : (band r.1 s == r.1) && (band r.2 s != r.2) with
    | true =>
      rw [cond_true]
      rw [Bool.and_eq_true, bne, Bool.not_eq_true'] at hq
      have q1 := e1.1 hq.1
      have q2 : ¬ SubN r.2.toNat s.toNat := fun h => by rw [e2.2 h] at hq; exact absurd hq.2 (by decide)
      obtain ⟨h1, h2, h3, h4, h5⟩ := passL_spec R (bor s r.2) true hR' hb.1
      rw [hb.2] at h2 h3
      have hlt : s.toNat < s.toNat ||| r.2.toNat := sub_ltN (sub_or_l _ _) fun e => q2 (by have := sub_or_r s.toNat r.2.toNat; rw [← e] at this; exact this)
      have hle := sub_leN h2
      refine ⟨h1, sub_trans (sub_or_l _ _) h2, fun t g1 g2 => h3 t (sub_or.2 ⟨g1, g2 r (by simp) (sub_trans q1 g1)⟩) fun x hx => g2 x (by simp [hx]), fun _ => .inr (by omega), fun h => ?_⟩
      exact absurd (h5 h).1 (by decide)
    | false =>
      rw [cond_false]
      obtain ⟨h1, h2, h3, h4, h5⟩ := passL_spec R s f hR' hs
      refine ⟨h1, h2, fun t g1 g2 => h3 t g1 fun x hx => g2 x (by simp [hx]), h4, fun h => ?_⟩
      obtain ⟨g1, g2, g3⟩ := h5 h
      refine ⟨g1, g2, fun x hx hsub => ?_⟩
      rcases List.mem_cons.1 hx with rfl | hx
      · rw [e1.2 hsub, Bool.true_and, bne, Bool.not_eq_false'] at hq
        exact e2.1 hq
      · exact g3 x hx hsub
theorem iterP_spec {R : List (Int × Int)} (hR : RSet R) : ∀ (d : Nat) (s : Int), (0 ≤ s ∧ s ≤ 255) → 256 ≤ d + s.toNat → IsCl R s (iterP R d s)
  | 0, s, hs, hd => by omega
  | d + 1, s, hs, hd => by
    obtain ⟨h1, h2, h3, h4, h5⟩ := passL_spec R s false hR hs
    rw [iterP]
    cases hq : (passL R (s, false)).2 with
    | true =>
      rw [cond_true]
      have hlt : s.toNat < (passL R (s, false)).1.toNat := (h4 hq).elim (fun h => by cases h) id
      have ih := iterP_spec hR d _ h1 (by omega)
      exact ⟨ih.rng, sub_trans h2 ih.ext, ih.resp, fun t g1 g2 => ih.least t (h3 t g1 g2) g2⟩
    | false =>
      rw [cond_false]
      obtain ⟨_, e, g⟩ := h5 hq
      rw [e]
      exact ⟨hs, sub_refl _, g, fun t h _ => h⟩
theorem iterP_clR {R : List (Int × Int)} (hR : RSet R) {s : Int} (hs : 0 ≤ s ∧ s ≤ 255) : iterP R 256 s = clR R s := (iterP_spec hR 256 s hs (by omega)).uniq (clR_is hR hs)
theorem clR_fix {R : List (Int × Int)} (hR : RSet R) {s : Int} (hs : 0 ≤ s ∧ s ≤ 255) : (clR R s == s) = true ↔ Resp R s.toNat := by
  have h := clR_is hR hs
  rw [beq_iff_eq]
  constructor
  · intro e
    have := h.resp
    rw [e] at this
    exact this
  · intro g
    have := sub_anti (h.least _ (sub_refl _) g) h.ext
    have h1 := h.rng
    omega
theorem keep_all : ∀ m : Fin 7, ∀ t : Fin 64, t.val < 2 ^ m.val → fullSet (m.val : Int) - (t.val : Int) = bnot (fullSet (m.val : Int)) (t.val : Int) := by decide +kernel
theorem keep_left {m t : Int} (hm : 0 ≤ m ∧ m ≤ 6) (ht : isSet m t = true) : fullSet m - t = leftF m t := by
  obtain ⟨x, rfl, hx⟩ := isSet_ex ht
  have hp := pow64 (n := m.toNat) (by omega)
  have := keep_all ⟨m.toNat, by omega⟩ ⟨x, by omega⟩ hx
  simp only [Int.toNat_of_nonneg hm.1] at this
  exact this
theorem hasE_8 {s : Int} (hk : 0 ≤ s ∧ s ≤ 255) {e : Nat} (he : e < 8) : hasE s (e : Int) = s.toNat.testBit e := by
  rw [hasE_bit (by rw [isSet8]; exact dt hk) (by omega) (by omega)]
  unfold bitI
  rw [Int.toNat_natCast]
theorem pks_pck {s keep : Int} (hk : 0 ≤ keep ∧ keep ≤ 255) : ∀ (d e n : Nat) (q : Int), e + d ≤ 8 → n ≤ e → pkS s keep d e (n : Int) q = pckL s (elemsL keep d e) n q
  | 0, _, _, _, _, _ => rfl
  | d + 1, e, n, q, h, hn => by
    rw [pkS, elemsL, hasE_8 hk (by omega)]
    cases keep.toNat.testBit e
    · rw [cond_false, cond_false]
      exact pks_pck hk d (e + 1) n q (by omega) (by omega)
    · rw [cond_true, cond_true, pckL, shlI_nat (by omega), Int.toNat_natCast]
      exact pks_pck hk d (e + 1) (n + 1) _ (by omega) (by omega)
theorem pack_ren {s keep : Int} (hs : 0 ≤ s ∧ s ≤ 255) (hk : 0 ≤ keep ∧ keep ≤ 255) : packS s keep = renF s keep := by
  have hl := elemsL_length keep 8 0
  unfold packS renF
  rw [renL_pck hs _ _ _ (elemsF_range keep) (by unfold elemsF; omega) (by omega)]
  exact pks_pck hk 8 0 0 0 (by omega) (by omega)
theorem dropA_eq {m : Int} {b : List Int} {t : Int} (hc : isCtx m b = true) (ht : isSet m t = true) : dropA m b t = (cntF (leftF m t), wthF m b 0 t, true) := by
  have hl := isCtx_len hc
  have hkr := keep_rng ⟨hl.2.1, hl.2.2.1⟩ ht
  rw [keep_left ⟨hl.2.1, hl.2.2.1⟩ ht] at hkr
  unfold dropA wthF
  rw [hc, ht, Bool.true_and, cond_true, keep_left ⟨hl.2.1, hl.2.2.1⟩ ht, dropL_zero]
  have : b.map (fun x => packS x (leftF m t)) = b.map (fun x => renF x (leftF m t)) := List.map_congr_left fun x hx => by
    have := isSet_le (hl.2.2.2 x hx)
    exact pack_ren (by omega) hkr
  rw [this]
theorem leftF_mem {m t : Int} (hm : 0 ≤ m ∧ m ≤ 6) (ht : isSet m t = true) (e : Nat) : (e : Int) ∈ elemsF (leftF m t) ↔ (e : Int) < m ∧ t.toNat.testBit e = false := by
  have rt := isSet_le ht
  obtain ⟨h1, h2⟩ := leftF_bits hm (t := t) (by omega)
  unfold elemsF
  rw [elemsL_iff]
  constructor
  · rintro ⟨n, e1, g1, g2, g3⟩
    have : e = n := by omega
    subst this
    rw [hasE_8 h1 (by omega), h2, Bool.and_eq_true, Bool.not_eq_true', decide_eq_true_eq] at g3
    exact g3
  · rintro ⟨g1, g2⟩
    refine ⟨e, rfl, by omega, by omega, ?_⟩
    rw [hasE_8 h1 (by omega), h2, g2, dt g1]
    rfl
/-- Attributes dropped that others make up for: the lattice stays. -/
theorem drop_iso {m : Int} {b : List Int} {t : Int} (hc : isCtx m b = true) (ht : isSet m t = true)
    (hk : ∀ s g e : Nat, g < b.length → (e : Int) < m → (∀ k, k < b.length → s.testBit k = true → (b.getD k 0).toNat.testBit e = true) → (b.getD g 0).toNat.testBit e = false → ∃ j : Nat, (j : Int) < m ∧ t.toNat.testBit j = false ∧ (∀ k, k < b.length → s.testBit k = true → (b.getD k 0).toNat.testBit j = true) ∧ (b.getD g 0).toNat.testBit j = false) :
    isCtx (dropA m b t).1 (dropA m b t).2.1 = true ∧ (dropA m b t).2.2 = true ∧ ∃ φ, IsoN (concF m b) (concF (dropA m b t).1 (dropA m b t).2.1) φ := by
  have hl := isCtx_len hc
  have hm : 0 ≤ m ∧ m ≤ 6 := ⟨hl.2.1, hl.2.2.1⟩
  have rt := isSet_le ht
  have hcx := wth_ctx hc (s := 0) (t := t) (by omega)
  rw [dropA_eq hc ht]
  refine ⟨hcx, rfl, ?_⟩
  show ∃ φ, IsoN (concF m b) (concF (cntF (leftF m t)) (wthF m b 0 t)) φ
  obtain ⟨h1, _⟩ := leftF_bits hm (t := t) (by omega)
  have hlen : b.length = (wthF m b 0 t).length := by
    unfold wthF
    rw [dropL_zero, List.length_map]
  have hbit : ∀ k i, k < b.length → i < (elemsF (leftF m t)).length → ((wthF m b 0 t).getD k 0).toNat.testBit i = (b.getD k 0).toNat.testBit ((elemsF (leftF m t)).getD i 0).toNat := fun k i hk hi => by
    unfold wthF
    rw [dropL_zero, getD_map0 hk 0 0, (renF_bit (small_getD (ctx_small hc) k)).2 i, dt hi, Bool.true_and]
  have hcnt := cnt_elems h1
  have hnat : ∀ i, i < (elemsF (leftF m t)).length → ∃ e : Nat, (elemsF (leftF m t)).getD i 0 = (e : Int) ∧ (e : Int) < m := fun i hi => by
    have hmem : (elemsF (leftF m t)).getD i 0 ∈ elemsF (leftF m t) := mem_getD hi
    have := elemsF_range _ _ hmem
    refine ⟨((elemsF (leftF m t)).getD i 0).toNat, by omega, ?_⟩
    have e1 : (((elemsF (leftF m t)).getD i 0).toNat : Int) = (elemsF (leftF m t)).getD i 0 := by omega
    rw [← e1] at hmem
    exact ((leftF_mem hm ht _).1 hmem).1
  refine cols_iso hc hcx hlen fun s g hg => ⟨fun q i hi hh => ?_, fun q e he hh => ?_⟩
  · have hi : i < (elemsF (leftF m t)).length := by omega
    obtain ⟨e, he, hem⟩ := hnat i hi
    have hb2 : ∀ k, k < b.length → ((wthF m b 0 t).getD k 0).toNat.testBit i = (b.getD k 0).toNat.testBit e := fun k hk => by
      rw [hbit k i hk hi, he, Int.toNat_natCast]
    rw [hb2 g hg]
    exact q e hem fun k hk hs => by
      rw [← hb2 k hk]
      exact hh k (by omega) hs
  · cases hge : (b.getD g 0).toNat.testBit e
    · exfalso
      obtain ⟨j, j1, j2, j3, j4⟩ := hk s g e hg he hh hge
      obtain ⟨i, hi, hij⟩ := mem_ex ((leftF_mem hm ht j).2 ⟨j1, j2⟩)
      have hb2 : ∀ k, k < b.length → ((wthF m b 0 t).getD k 0).toNat.testBit i = (b.getD k 0).toNat.testBit j := fun k hk => by
        rw [hbit k i hk hi, hij, Int.toNat_natCast]
      have := q i (by omega) fun k hk hs => by
        rw [hb2 k (by omega)]
        exact j3 k (by omega) hs
      rw [hb2 g hg, j4] at this
      cases this
    · rfl
theorem bor_bit {q : Int} (hq : 0 ≤ q ∧ q ≤ 255) {j : Nat} (hj : j ≤ 7) : (0 ≤ bor q (shlI (j : Int)) ∧ bor q (shlI (j : Int)) ≤ 255) ∧ ∀ e, (bor q (shlI (j : Int))).toNat.testBit e = true → q.toNat.testBit e = true ∨ e = j := by
  have hp : 2 ^ j ≤ 2 ^ 7 := Nat.pow_le_pow_right (by omega) hj
  rw [shlI_nat (by omega)]
  obtain ⟨h1, h2⟩ := borSet (x := q) (y := ((2 ^ j : Nat) : Int)) hq ⟨Int.natCast_nonneg _, Int.ofNat_le.2 (by omega : 2 ^ j ≤ 255)⟩
  refine ⟨h1, fun e he => ?_⟩
  rw [h2, Int.toNat_natCast, Nat.testBit_or, Bool.or_eq_true, Nat.testBit_two_pow, decide_eq_true_eq] at he
  rcases he with he | he
  · exact .inl he
  · exact .inr he.symm
theorem dupI_bit {b : List Int} {j : Nat} (hj : j ≤ 7) : ∀ (d i : Nat) (q : Int), (0 ≤ q ∧ q ≤ 255) → (0 ≤ dupI b j d i q ∧ dupI b j d i q ≤ 255) ∧ ∀ e, (dupI b j d i q).toNat.testBit e = true → q.toNat.testBit e = true ∨ (e = j ∧ ∃ k, k < i + d ∧ colF b (k : Int) = colF b (j : Int))
  | 0, i, q, hq => ⟨hq, fun e he => .inl he⟩
  | d + 1, i, q, hq => by
    rw [dupI]
    cases hcj : colF b (i : Int) == colF b (j : Int)
    · rw [cond_false]
      obtain ⟨h1, h2⟩ := dupI_bit hj d (i + 1) q hq
      refine ⟨h1, fun e he => ?_⟩
      rcases h2 e he with g | ⟨g1, k, g2, g3⟩
      · exact .inl g
      · exact .inr ⟨g1, k, by omega, g3⟩
    · rw [cond_true]
      obtain ⟨b1, b2⟩ := bor_bit hq hj
      obtain ⟨h1, h2⟩ := dupI_bit hj d (i + 1) _ b1
      refine ⟨h1, fun e he => ?_⟩
      rcases h2 e he with g | ⟨g1, k, g2, g3⟩
      · rcases b2 e g with g | g
        · exact .inl g
        · exact .inr ⟨g, i, by omega, eq_of_beq hcj⟩
      · exact .inr ⟨g1, k, by omega, g3⟩
theorem gO_bit {b : List Int} : ∀ (d i : Nat) (q : Int), i + d ≤ 8 → (0 ≤ q ∧ q ≤ 255) → ∀ e, (gO b d i q).toNat.testBit e = true → q.toNat.testBit e = true ∨ ∃ k, k < e ∧ colF b (k : Int) = colF b (e : Int)
  | 0, i, q, _, hq, e, he => .inl he
  | d + 1, i, q, h, hq, e, he => by
    rw [gO] at he
    obtain ⟨h1, h2⟩ := dupI_bit (b := b) (show i ≤ 7 by omega) i 0 q hq
    rcases gO_bit d (i + 1) _ (by omega) h1 e he with g | g
    · rcases h2 e g with g | ⟨rfl, k, g2, g3⟩
      · exact .inl g
      · exact .inr ⟨k, by omega, g3⟩
    · exact .inr g
theorem col_has {b : List Int} (hl : b.length ≤ 8) {i j : Nat} (h : colF b (i : Int) = colF b (j : Int)) {k : Nat} (hk : k < b.length) : (b.getD k 0).toNat.testBit i = (b.getD k 0).toNat.testBit j := by
  have h1 := colF_bit hl i k
  have h2 := colF_bit hl j k
  rw [h] at h1
  rw [Bool.eq_iff_iff]
  exact ⟨fun g => (h2.1 (h1.2 ⟨hk, g⟩)).2, fun g => (h1.1 (h2.2 ⟨hk, g⟩)).2⟩
theorem dup_iso {m : Int} {b : List Int} (hc : isCtx m b = true) : isCtx (dropA m b (gO b m.toNat 0 0)).1 (dropA m b (gO b m.toNat 0 0)).2.1 = true ∧ (dropA m b (gO b m.toNat 0 0)).2.2 = true ∧ ∃ φ, IsoN (concF m b) (concF (dropA m b (gO b m.toNat 0 0)).1 (dropA m b (gO b m.toNat 0 0)).2.1) φ := by
  have hl := isCtx_len hc
  have hz : isSet m 0 = true := by
    have := set_zero (n := m.toNat) (by omega)
    rw [Int.toNat_of_nonneg hl.2.1] at this
    exact this
  refine drop_iso hc (gO_set ⟨hl.2.1, hl.2.2.1⟩ b m.toNat 0 0 (by omega) hz) fun s g e hg he hh hge => ?_
  have key : ∀ e : Nat, ∃ j : Nat, j ≤ e ∧ colF b (j : Int) = colF b (e : Int) ∧ (gO b m.toNat 0 0).toNat.testBit j = false := by
    intro e
    induction e using Nat.strongRecOn with
    | ind e ih =>
      cases ht : (gO b m.toNat 0 0).toNat.testBit e
      · exact ⟨e, Nat.le_refl _, rfl, ht⟩
      · rcases gO_bit m.toNat 0 0 (by omega) (by omega) e ht with g | ⟨k, k1, k2⟩
        · rw [Int.toNat_zero, Nat.zero_testBit] at g
          cases g
        · obtain ⟨j, j1, j2, j3⟩ := ih k k1
          exact ⟨j, by omega, j2.trans k2, j3⟩
  obtain ⟨j, j1, j2, j3⟩ := key e
  refine ⟨j, by omega, j3, fun k hk hs => ?_, ?_⟩
  · rw [col_has hl.1 j2 hk]
    exact hh k hk hs
  · rw [col_has hl.1 j2 hg]
    exact hge
theorem ddL_mem {x : Int} : ∀ (l acc : List Int), x ∈ ddL l acc ↔ x ∈ l ∨ x ∈ acc
  | [], acc => by simp [ddL]
  | y :: r, acc => by
    rw [ddL]
    cases h : acc.any (fun z => z == y)
    · rw [cond_false, ddL_mem r, List.mem_append, List.mem_singleton, List.mem_cons]
      constructor
      · rintro (h | h | h)
        · exact .inl (.inr h)
        · exact .inr h
        · exact .inl (.inl h)
      · rintro ((h | h) | h)
        · exact .inr (.inr h)
        · exact .inl h
        · exact .inr (.inl h)
    · rw [cond_true, ddL_mem r, List.mem_cons]
      obtain ⟨z, hz, he⟩ := List.any_eq_true.1 h
      have he := eq_of_beq he
      subst he
      constructor
      · rintro (h | h)
        · exact .inl (.inr h)
        · exact .inr h
      · rintro ((h | h) | h)
        · exact .inr (by rw [h]; exact hz)
        · exact .inl h
        · exact .inr h
theorem clar_iso {m : Int} {b : List Int} (hc : isCtx m b = true) : isCtx (spClar m b).1 (spClar m b).2.1 = true ∧ (spClar m b).2.2 = true ∧ ∃ φ, IsoN (concF m b) (concF (spClar m b).1 (spClar m b).2.1) φ := by
  have hd := dd_ctx hc
  have h1 : IsoN (concF m b) (concF m (ddL b [])) (fun i => i) := rows_iso hc hd fun s e _ _ => by
    have hm : ∀ x, x ∈ ddL b [] ↔ x ∈ b := fun x => by rw [ddL_mem]; simp
    exact ⟨fun g x hx => g x ((hm x).1 hx), fun g x hx => g x ((hm x).2 hx)⟩
  obtain ⟨g1, g2, φ, g3⟩ := dup_iso hd
  have e : spClar m b = dropA m (ddL b []) (gO (ddL b []) m.toNat 0 0) := by unfold spClar; rw [hc]; rfl
  rw [e]
  exact ⟨g1, g2, _, iso_trans h1 g3⟩
theorem sub_lt {x y : Nat} (h : SubN x y) (hne : x ≠ y) : x < y := by
  have h1 : x &&& y = x := by
    apply Nat.eq_of_testBit_eq
    intro i
    rw [Nat.testBit_and]
    cases hi : x.testBit i
    · rfl
    · rw [h i hi]; rfl
  have h2 := Nat.and_le_right (n := x) (m := y)
  omega
/-- What is its own meet of what lies above it: below each gap lies another. -/
theorem red_low {s : Int} {g : Nat} {l : List Int} {acc : Int} (hs : 0 ≤ s ∧ s ≤ 255) (hl : ∀ t ∈ l, 0 ≤ t ∧ t ≤ 255) (ha : 0 ≤ acc ∧ acc ≤ 255) (h : (beyondF s l acc == s) = true) (hg : acc.toNat.testBit g = true) (hn : s.toNat.testBit g = false) : ∃ t ∈ l, t ≠ s ∧ SubN s.toNat t.toNat ∧ t.toNat.testBit g = false := by
  apply Classical.byContradiction
  intro hno
  have := beyond_bit (s := s) g l acc hl ha hg fun t ht hts hb => by
    cases hq : t.toNat.testBit g
    · exact absurd ⟨t, ht, hts, (bnotSub hs (hl t ht)).1 hb, hq⟩ hno
    · rfl
  rw [eq_of_beq h, hn] at this
  cases this
def redV (m : Int) (b : List Int) (x : Int) : Bool := beyondF x b (fullSet m) == x
def redAt (m : Int) (b : List Int) (i : Int) : Bool := redV m b (b.getD i.toNat 0)
def gonO (m : Int) (b : List Int) : Int := orF (redAt m b) b.length 0 0
theorem gonO_set (m : Int) {b : List Int} (hl : b.length ≤ 8) : isSet b.length (gonO m b) = true :=
  set_of hl (orF_nn _ hl) fun i hi => by
    unfold gonO at hi
    rw [orF_bit _ _ _ _ _ (by omega) (by omega) (by omega)] at hi
    simp at hi
    exact hi.1
def redE (m : Int) (b : List Int) (e : Int) : Bool := attrOk m b e && reducF m b e
def gonA (m : Int) (b : List Int) : Int := orF (redE m b) m.toNat 0 0
def kepO (m : Int) (b : List Int) : List Int := dropL (gonO m b) b 0
def redF (m : Int) (b : List Int) : Int × List Int × Bool := bif isCtx m b then dropA (spClar m b).1 (kepO (spClar m b).1 (spClar m b).2.1) (gonA (spClar m b).1 (kepO (spClar m b).1 (spClar m b).2.1)) else (0, [], false)
theorem dropL_iff (s : Int) (x : Int) : ∀ (l : List Int) (i : Nat), x ∈ dropL s l i ↔ ∃ k, k < l.length ∧ l.getD k 0 = x ∧ hasE s ((i + k : Nat) : Int) = false
  | [], i => by
    rw [dropL]
    constructor
    · intro h; cases h
    · rintro ⟨k, h, _⟩; exact absurd h (Nat.not_lt_zero _)
  | y :: l, i => by
    rw [dropL]
    have ih := dropL_iff s x l (i + 1)
    have up : (∃ k, k < l.length ∧ l.getD k 0 = x ∧ hasE s ((i + 1 + k : Nat) : Int) = false) → ∃ k, k < (y :: l).length ∧ (y :: l).getD k 0 = x ∧ hasE s ((i + k : Nat) : Int) = false := by
      rintro ⟨k, h1, h2, h3⟩
      refine ⟨k + 1, by rw [List.length_cons]; omega, by rw [List.getD_cons_succ]; exact h2, ?_⟩
      rw [show i + (k + 1) = i + 1 + k by omega]
      exact h3
    cases hE : hasE s (i : Int)
    · rw [cond_false, List.mem_cons, ih]
      constructor
      · rintro (rfl | h)
        · exact ⟨0, by simp, by rw [List.getD_cons_zero], by rw [Nat.add_zero]; exact hE⟩
        · exact up h
      · rintro ⟨k, h1, h2, h3⟩
        cases k with
        | zero => rw [List.getD_cons_zero] at h2; exact .inl h2.symm
        | succ k =>
          rw [List.getD_cons_succ] at h2
          rw [List.length_cons] at h1
          exact .inr ⟨k, by omega, h2, by rw [show i + 1 + k = i + (k + 1) by omega]; exact h3⟩
    · rw [cond_true, ih]
      constructor
      · exact up
      · rintro ⟨k, h1, h2, h3⟩
        cases k with
        | zero => rw [Nat.add_zero, hE] at h3; cases h3
        | succ k =>
          rw [List.getD_cons_succ] at h2
          rw [List.length_cons] at h1
          exact ⟨k, by omega, h2, by rw [show i + 1 + k = i + (k + 1) by omega]; exact h3⟩
theorem kepO_mem {m : Int} {b : List Int} (hl : b.length ≤ 8) (x : Int) : x ∈ kepO m b ↔ x ∈ b ∧ redV m b x = false := by
  unfold kepO gonO
  rw [dropL_iff]
  constructor
  · rintro ⟨k, h1, h2, h3⟩
    rw [Nat.zero_add, hasE_orF _ hl h1] at h3
    unfold redAt at h3
    rw [Int.toNat_natCast, h2] at h3
    exact ⟨h2 ▸ mem_getD h1, h3⟩
  · rintro ⟨h1, h2⟩
    obtain ⟨k, hk, rfl⟩ := mem_ex h1
    refine ⟨k, hk, rfl, ?_⟩
    rw [Nat.zero_add, hasE_orF _ hl hk]
    unfold redAt
    rw [Int.toNat_natCast]
    exact h2
theorem objs_iso {m : Int} {b : List Int} (hc : isCtx m b = true) : isCtx m (kepO m b) = true ∧ IsoN (concF m b) (concF m (kepO m b)) (fun i => i) := by
  have hl := isCtx_len hc
  have hsm := ctx_small hc
  have hk : isCtx m (kepO m b) = true := dropL_ctx hc _
  refine ⟨hk, rows_iso hc hk fun s e _ he => ⟨fun g x hx => g x ((kepO_mem hl.1 x).1 hx).1, fun g x hx hs => ?_⟩⟩
  have key : ∀ (d : Nat) (x : Int), x ∈ b → 256 - x.toNat = d → x.toNat.testBit e = false → ∃ y ∈ kepO m b, SubN x.toNat y.toNat ∧ y.toNat.testBit e = false := by
    intro d
    induction d using Nat.strongRecOn with
    | ind d ih =>
      intro x hx hd hn
      cases hr : redV m b x
      · exact ⟨x, (kepO_mem hl.1 x).2 ⟨hx, hr⟩, fun _ h => h, hn⟩
      · have rx := hsm x hx
        obtain ⟨t, t1, t2, t3, t4⟩ := red_low rx hsm (fullSet_rng m) hr (by rw [fullSet_bit hl.2.1 (by omega)]; exact dt he) hn
        have rt := hsm t t1
        have := sub_lt t3 (by omega)
        obtain ⟨y, y1, y2, y3⟩ := ih (256 - t.toNat) (by omega) t t1 rfl t4
        exact ⟨y, y1, fun i hi => y2 i (t3 i hi), y3⟩
  cases hn : x.toNat.testBit e
  · obtain ⟨y, y1, y2, y3⟩ := key _ x hx rfl hn
    have := g y y1 fun i hi => y2 i (hs i hi)
    rw [y3] at this
    cases this
  · rfl
theorem attrs_iso {m : Int} {b : List Int} (hc : isCtx m b = true) : isCtx (dropA m b (gonA m b)).1 (dropA m b (gonA m b)).2.1 = true ∧ (dropA m b (gonA m b)).2.2 = true ∧ ∃ φ, IsoN (concF m b) (concF (dropA m b (gonA m b)).1 (dropA m b (gonA m b)).2.1) φ := by
  have hl := isCtx_len hc
  have hg : ∀ e : Nat, (gonA m b).toNat.testBit e = (decide (e < m.toNat) && redE m b (e : Int)) := fun e => by
    unfold gonA
    rw [orF_bit _ _ _ _ _ (by omega) (by omega) (by omega)]
    simp
  have hs : isSet m (gonA m b) = true := by
    have := set_of (n := m.toNat) (x := gonA m b) (by omega) (orF_nn _ (by omega)) fun i hi => by
      rw [hg, Bool.and_eq_true, decide_eq_true_eq] at hi
      exact hi.1
    rw [Int.toNat_of_nonneg hl.2.1] at this
    exact this
  refine drop_iso hc hs fun s g e hgb he hh hge => ?_
  let P : Nat → Prop := fun j => (j : Int) < m ∧ (∀ k, k < b.length → s.testBit k = true → (b.getD k 0).toNat.testBit j = true) ∧ (b.getD g 0).toNat.testBit j = false
  have hdec : ∀ j, Decidable (P j) := fun j => Classical.propDecidable _
  have hmem : ∀ j, j ∈ (List.range 8).filter (fun j => @decide (P j) (hdec j)) ↔ P j := fun j => by
    rw [List.mem_filter, List.mem_range, decide_eq_true_eq]
    exact ⟨fun h => h.2, fun h => ⟨by have := h.1; omega, h⟩⟩
  have hne : (List.range 8).filter (fun j => @decide (P j) (hdec j)) ≠ [] := fun h0 => by
    have := (hmem e).2 ⟨he, hh, hge⟩
    rw [h0] at this
    cases this
  obtain ⟨j, hj, hmax⟩ := ex_max (f := fun j => colF b (j : Int)) _ hne
  obtain ⟨j1, j2, j3⟩ := (hmem j).1 hj
  refine ⟨j, j1, ?_, j2, j3⟩
  cases ht : (gonA m b).toNat.testBit j
  · rfl
  · exfalso
    rw [hg, Bool.and_eq_true] at ht
    have hr := ht.2
    unfold redE reducF at hr
    have hr := (Bool.and_eq_true_iff.1 hr).2
    have cj := colF_set b (j : Int) hl.1
    have hget : ∀ t ∈ colsF m b, ∃ i : Nat, (i : Int) < m ∧ t = colF b (i : Int) := fun t ht => by
      obtain ⟨i, hi, rfl⟩ := mem_ex ht
      have hlen : (colsF m b).length = m.toNat := colsL_length b _ _
      have := colsL_get b m.toNat 0 i (by omega)
      rw [Nat.zero_add] at this
      exact ⟨i, by omega, this⟩
    obtain ⟨t, t1, t2, t3, t4⟩ := red_low (g := g) cj (fun t ht => by
      obtain ⟨i, _, rfl⟩ := hget t ht
      exact colF_set b _ hl.1) (fullSet_rng _) hr (by rw [fullSet_bit (by omega) (by omega)]; exact dt (by omega)) (by
        cases hq : (colF b (j : Int)).toNat.testBit g
        · rfl
        · rw [((colF_bit hl.1 j g).1 hq).2] at j3; cases j3)
    obtain ⟨i, i1, rfl⟩ := hget t t1
    have ci := colF_set b (i : Int) hl.1
    have hPi : P i := ⟨i1, fun k hk hs => ((colF_bit hl.1 i k).1 (t3 k ((colF_bit hl.1 j k).2 ⟨hk, j2 k hk hs⟩))).2, by
      cases hq : (b.getD g 0).toNat.testBit i
      · rfl
      · rw [(colF_bit hl.1 i g).2 ⟨hgb, hq⟩] at t4; cases t4⟩
    have h1 := hmax i ((hmem i).2 hPi)
    have h2 := sub_lt t3 (by omega)
    omega
/-- A context and its reduction have isomorphic lattices. -/
theorem red_iso {m : Int} {b : List Int} (hc : isCtx m b = true) : isCtx (redF m b).1 (redF m b).2.1 = true ∧ (redF m b).2.2 = true ∧ ∃ φ, IsoN (concF m b) (concF (redF m b).1 (redF m b).2.1) φ := by
  obtain ⟨g1, g2, φ, g3⟩ := clar_iso hc
  obtain ⟨k1, k2⟩ := objs_iso g1
  obtain ⟨l1, l2, ψ, l3⟩ := attrs_iso k1
  have e : redF m b = dropA (spClar m b).1 (kepO (spClar m b).1 (spClar m b).2.1) (gonA (spClar m b).1 (kepO (spClar m b).1 (spClar m b).2.1)) := by unfold redF; rw [hc]; rfl
  rw [e]
  exact ⟨l1, l2, _, iso_trans g3 (iso_trans k2 l3)⟩
theorem red_map {m : Int} {b : List Int} (hc : isCtx m b = true) (h24 : (concF m b).length ≤ 24) : (fmF m b (redF m b).1 (redF m b).2.1).isSome = true := by
  obtain ⟨_, _, φ, h⟩ := red_iso hc
  exact iso_map h hc h24
end Go.Sym
