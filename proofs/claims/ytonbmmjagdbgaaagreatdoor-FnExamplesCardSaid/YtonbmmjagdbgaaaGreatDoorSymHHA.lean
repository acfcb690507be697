/- Functions of the program, each told as a plain equation. -/
import Derived.Test.YtonbmmjagdbgaaaGreatDoorSymHKB
namespace Go.Sym
open Go.Proofs
set_option linter.unusedVariables false
set_option linter.unusedSimpArgs false
set_option maxRecDepth 100000
set_option maxHeartbeats 4000000

def allN (g : Nat → Bool) : Nat → Nat → Bool
  | 0, _ => true
  | d + 1, i => g i && allN g d (i + 1)
theorem allN_congr {f g : Nat → Bool} : ∀ (d i : Nat), (∀ j, i ≤ j → j < i + d → f j = g j) → allN f d i = allN g d i
  | 0, _, _ => rfl
  | d + 1, i, h => by
    rw [allN, allN, h i (by omega) (by omega), allN_congr d (i + 1) fun j h1 h2 => h j (by omega) (by omega)]
theorem allN_all (g : Nat → Bool) : ∀ (d i : Nat), allN g d i = (List.range' i d).all g
  | 0, _ => rfl
  | d + 1, i => by rw [allN, List.range'_succ, List.all_cons, allN_all g d (i + 1)]
def udN (l : List (Int × Int)) (x y : Nat) : Bool := ((x : Int) != (y : Int)) && blwB l x y
def covI (l : List (Int × Int)) (a b : Nat) : Bool := udN l a b && allN (fun x => !(udN l a x && udN l x b)) l.length 0
def covS (l : List (Int × Int)) (a b : Nat) : Bool := !(((b : Int) == (a : Int)) || !undB l a b) && allN (fun k => (((k : Int) == (a : Int)) || ((k : Int) == (b : Int))) || !undB l a k || !undB l k b) l.length 0
theorem cov_eq {l : List (Int × Int)} (he : extsB l = true) {a b : Nat} (ha : a < l.length) : covI l a b = covS l a b := by
  unfold covI covS udN
  rw [blw_und he ha b, Bool.beq_comm (a := (b : Int))]
  congr 1
  · cases h1 : (a : Int) == (b : Int) <;> cases undB l a b <;> simp [bne, h1]
  · apply allN_congr
    intro j h1 h2
    rw [blw_und he ha j, blw_und he (show j < l.length by omega) b, Bool.beq_comm (a := (j : Int)) (b := (a : Int))]
    cases h1 : (a : Int) == (j : Int) <;> cases h2 : (j : Int) == (b : Int) <;> cases undB l a j <;> cases undB l j b <;> simp [bne, h1, h2]
theorem chsF_congr {f g : Nat → Bool} : ∀ (d i : Nat), (∀ j, i ≤ j → j < i + d → f j = g j) → chsF f d i = chsF g d i
  | 0, _, _ => rfl
  | d + 1, i, h => by
    rw [chsF, chsF, h i (by omega) (by omega), chsF_congr d (i + 1) fun j h1 h2 => h j (by omega) (by omega)]
theorem chsF_mem (f : Nat → Bool) : ∀ (d i : Nat), ∀ x ∈ chsF f d i, (i : Int) ≤ x ∧ x < ((i + d : Nat) : Int)
  | 0, i, x, h => by cases h
  | d + 1, i, x, h => by
    rw [chsF] at h
    cases hf : f i with
    | true =>
      rw [hf, cond_true] at h
      rcases List.mem_cons.1 h with rfl | h
      · omega
      · have := chsF_mem f d (i + 1) x h; omega
    | false =>
      rw [hf, cond_false] at h
      have := chsF_mem f d (i + 1) x h; omega
def upL (l : List (Int × Int)) (a : Nat) : List Int := chsF (fun x => covI l a x) l.length 0
theorem upL_len (l : List (Int × Int)) (a : Nat) : (upL l a).length ≤ l.length := chsF_le _ _ _
theorem upL_spec {l : List (Int × Int)} (he : extsB l = true) {a : Nat} (ha : a < l.length) : upL l a = chsF (fun x => covS l a x) l.length 0 := chsF_congr _ _ fun j _ _ => cov_eq he ha
theorem lecL_nd : ∀ n : Fin 7, (lecL n.val).Nodup := by decide +kernel
theorem conc_nodup (m : Int) (b : List Int) : ((concF m b).map (·.1)).Nodup := by
  unfold concF
  cases h : isCtx m b
  · exact List.nodup_nil
  · have hl := isCtx_len h
    rw [cond_true]
    have h0 : (lecI m.toNat).Nodup := by
      unfold lecI
      refine List.Pairwise.map _ (fun a b hab e => hab ?_) (lecL_nd ⟨m.toNat, by omega⟩)
      exact Int.ofNat.inj e
    have h1 : ((lecI m.toNat).filter (closedI m b)).Nodup := h0.sublist List.filter_sublist
    rw [List.map_map]
    refine List.Pairwise.map _ (fun x y hxy e => ?_) (List.Pairwise.and_mem.1 h1)
    obtain ⟨hx, hy, hne⟩ := hxy
    have cx := eq_of_beq (List.mem_filter.1 hx).2
    have cy := eq_of_beq (List.mem_filter.1 hy).2
    have e : extF b x = extF b y := e
    rw [e] at cx
    exact hne (cx.symm.trans cy)
theorem subLen : ∀ (l1 l2 : List Int), l1.Nodup → (∀ x ∈ l1, x ∈ l2) → l1.length ≤ l2.length
  | [], _, _, _ => Nat.zero_le _
  | x :: r, l2, hn, h => by
    have hn' := List.nodup_cons.1 hn
    have hx := h x (by simp)
    have := subLen r (l2.erase x) hn'.2 fun y hy => (List.mem_erase_of_ne (fun e => hn'.1 (by rw [← e]; exact hy))).2 (h y (by simp [hy]))
    rw [List.length_erase_of_mem hx] at this
    have : 0 < l2.length := List.length_pos_of_mem hx
    rw [List.length_cons]
    omega
theorem and_sub {y s : Nat} : (y &&& s == y) = true ↔ SubN y s := by
  rw [beq_iff_eq]
  constructor
  · intro h i hi
    rw [← h, Nat.testBit_and] at hi
    exact (Bool.and_eq_true_iff.1 hi).2
  · intro h
    apply Nat.eq_of_testBit_eq
    intro i
    rw [Nat.testBit_and]
    cases hb : y.testBit i
    · rfl
    · rw [h i hb]; rfl
theorem bnotSub {p s : Int} (hp : 0 ≤ p ∧ p ≤ 255) (hs : 0 ≤ s ∧ s ≤ 255) : (bnot p s == 0) = true ↔ SubN p.toNat s.toNat := by
  obtain ⟨p, rfl⟩ : ∃ n : Nat, p = n := ⟨p.toNat, by omega⟩
  obtain ⟨s, rfl⟩ : ∃ n : Nat, s = n := ⟨s.toNat, by omega⟩
  rw [bnot_sub (by omega), beq_iff_eq, band_nat (by omega) (by omega), Int.toNat_natCast, Int.toNat_natCast, ← and_sub, beq_iff_eq]
  omega
theorem bandSub {p s : Int} (hp : 0 ≤ p ∧ p ≤ 255) (hs : 0 ≤ s ∧ s ≤ 255) : (band p s == p) = true ↔ SubN p.toNat s.toNat := by
  rw [← bnotSub hp hs]
  obtain ⟨p, rfl⟩ : ∃ n : Nat, p = n := ⟨p.toNat, by omega⟩
  rw [bnot_sub (by omega)]
def hgS (l : List (Int × Int)) (F : List Int) (k : Nat) : Nat → Nat → Int → Int
  | 0, _, acc => acc
  | d + 1, i, acc => hgS l F k d (i + 1) (bif undB l k i then max acc (F.getD i 0 + 1) else acc)
def farL (l : List (Int × Int)) : Nat → List Int
  | 0 => []
  | k + 1 => farL l k ++ [hgS l (farL l k) k k 0 0]
def hh (l : List (Int × Int)) (k : Nat) : Int := hgS l (farL l k) k k 0 0
def bstL (l : List (Int × Int)) : Nat → Int
  | 0 => -1
  | k + 1 => max (bstL l k) (hh l k)
theorem farL_len (l : List (Int × Int)) : ∀ k, (farL l k).length = k
  | 0 => rfl
  | k + 1 => by rw [farL, List.length_append, farL_len l k]; rfl
theorem farL_get (l : List (Int × Int)) {i : Nat} : ∀ k, i < k → (farL l k).getD i 0 = hh l i
  | 0, h => by omega
  | k + 1, h => by
    have hl := farL_len l k
    rw [farL]
    rcases Nat.lt_or_ge i k with h1 | h1
    · rw [List.getD_eq_getElem?_getD, List.getElem?_append_left (by omega), ← List.getD_eq_getElem?_getD]
      exact farL_get l k h1
    · have : i = k := by omega
      subst this
      rw [List.getD_eq_getElem?_getD, List.getElem?_append_right (by omega), hl, Nat.sub_self]
      rfl
theorem hgS_spec (l : List (Int × Int)) (F : List Int) (k : Nat) : ∀ (d i : Nat) (acc : Int), acc ≤ hgS l F k d i acc ∧ (∀ j, i ≤ j → j < i + d → undB l k j = true → F.getD j 0 + 1 ≤ hgS l F k d i acc) ∧ (hgS l F k d i acc = acc ∨ ∃ j, i ≤ j ∧ j < i + d ∧ undB l k j = true ∧ hgS l F k d i acc = F.getD j 0 + 1)
  | 0, i, acc => ⟨Int.le_refl _, fun j h1 h2 => by omega, .inl rfl⟩
  | d + 1, i, acc => by
    rw [hgS]
    obtain ⟨h1, h2, h3⟩ := hgS_spec l F k d (i + 1) (bif undB l k i then max acc (F.getD i 0 + 1) else acc)
    cases hu : undB l k i
    · rw [hu, cond_false] at h1 h2 h3
      rw [cond_false]
      refine ⟨h1, fun j g1 g2 g3 => ?_, ?_⟩
      · rcases Nat.lt_or_ge i j with g | g
        · exact h2 j (by omega) (by omega) g3
        · have : j = i := by omega
          subst this
          rw [hu] at g3
          cases g3
      · rcases h3 with h3 | ⟨j, g1, g2, g3, g4⟩
        · exact .inl h3
        · exact .inr ⟨j, by omega, by omega, g3, g4⟩
    · rw [hu, cond_true] at h1 h2 h3
      rw [cond_true]
      refine ⟨by omega, fun j g1 g2 g3 => ?_, ?_⟩
      · rcases Nat.lt_or_ge i j with g | g
        · exact h2 j (by omega) (by omega) g3
        · have : j = i := by omega
          subst this
          omega
      · rcases h3 with h3 | ⟨j, g1, g2, g3, g4⟩
        · rcases Int.le_total acc (F.getD i 0 + 1) with g | g
          · exact .inr ⟨i, by omega, by omega, hu, by rw [h3]; omega⟩
          · exact .inl (by rw [h3]; omega)
        · exact .inr ⟨j, by omega, by omega, g3, g4⟩
theorem hh_nn (l : List (Int × Int)) (k : Nat) : 0 ≤ hh l k := (hgS_spec l _ k k 0 0).1
theorem hh_le (l : List (Int × Int)) {k i : Nat} (h : i < k) (hu : undB l k i = true) : hh l i + 1 ≤ hh l k := by
  have := (hgS_spec l (farL l k) k k 0 0).2.1 i (by omega) (by omega) hu
  rwa [farL_get l k h] at this
theorem hh_at (l : List (Int × Int)) (k : Nat) : hh l k = 0 ∨ ∃ i, i < k ∧ undB l k i = true ∧ hh l k = hh l i + 1 := by
  rcases (hgS_spec l (farL l k) k k 0 0).2.2 with h | ⟨j, g1, g2, g3, g4⟩
  · exact .inl h
  · exact .inr ⟨j, by omega, g3, by rw [← farL_get l k (show j < k by omega)]; exact g4⟩
theorem hh_ub (l : List (Int × Int)) (k : Nat) : hh l k ≤ k := by
  induction k using Nat.strongRecOn with
  | ind k ih =>
    rcases hh_at l k with h | ⟨i, h1, _, h3⟩
    · omega
    · have := ih i h1
      omega
theorem bst_spec (l : List (Int × Int)) : ∀ (k : Nat), (∀ i, i < k → hh l i ≤ bstL l k) ∧ (k ≠ 0 → ∃ i, i < k ∧ bstL l k = hh l i)
  | 0 => ⟨fun i h => by omega, fun h => absurd rfl h⟩
  | k + 1 => by
    obtain ⟨h1, h2⟩ := bst_spec l k
    rw [bstL]
    refine ⟨fun i hi => ?_, fun _ => ?_⟩
    · rcases Nat.lt_or_ge i k with g | g
      · have := h1 i g; omega
      · have : i = k := by omega
        subst this
        omega
    · rcases Int.le_total (bstL l k) (hh l k) with g | g
      · exact ⟨k, by omega, by omega⟩
      · by_cases h0 : k = 0
        · subst h0
          exact ⟨0, by omega, by have := hh_nn l 0; rw [bstL] at g ⊢; omega⟩
        · obtain ⟨i, g1, g2⟩ := h2 h0
          exact ⟨i, by omega, by omega⟩
/-- The walk with a memory, as the program does it. -/
def hF (f : Int → List (Int × Int) → Int × List (Int × Int)) : List Int → Int → List (Int × Int) → Int × List (Int × Int)
  | [], best, ps => (best, ps)
  | x :: r, best, ps => hF f r (max best (IntKind.i64.wrap (1 + (f x ps).1))) (f x ps).2
def hM (l : List (Int × Int)) : Nat → Int → List (Int × Int) → Int × List (Int × Int)
  | 0, _, ps => (0, ps)
  | f + 1, a, ps => bif (mget .ii a ps).isSome then ((mget .ii a ps).getD 0, ps)
    else ((hF (hM l f) (upL l a.toNat) 0 ps).1, mput .ii a (hF (hM l f) (upL l a.toNat) 0 ps).1 (hF (hM l f) (upL l a.toNat) 0 ps).2)
def okM (l : List (Int × Int)) (ps : List (Int × Int)) : Prop := ∀ p ∈ ps, 0 ≤ p.1 ∧ p.1 < l.length ∧ p.2 = hh l p.1.toNat
/-- Lists of concepts in their order: what covers comes earlier. -/
def goodL (l : List (Int × Int)) : Bool := allB (fun a => (upL l a).all (fun x => decide (0 ≤ x ∧ x < (a : Int)))) l.length 0
theorem good_at {l : List (Int × Int)} (h : goodL l = true) {a : Nat} (ha : a < l.length) {x : Int} (hx : x ∈ upL l a) : 0 ≤ x ∧ x < (a : Int) := by
  unfold goodL at h
  have := (allB_iff _ _ _).1 h a (by omega) (by omega)
  exact of_decide_eq_true (List.all_eq_true.1 this x hx)
theorem mget_ok {l ps : List (Int × Int)} (h : okM l ps) {a v : Int} : mget .ii a ps = some v → v = hh l a.toNat := by
  induction ps with
  | nil => intro g; cases g
  | cons p r ih =>
    intro g
    rw [mget] at g
    split at g
    · rename_i he
      have he : (a == p.1) = true := he
      have := (h p (by simp)).2.2
      rw [eq_of_beq he, ← Option.some.inj g]
      exact this
    · exact ih (fun q hq => h q (by simp [hq])) g
theorem mput_ok {l ps : List (Int × Int)} (h : okM l ps) {a : Int} (ha : 0 ≤ a ∧ a < l.length) : okM l (mput .ii a (hh l a.toNat) ps) := by
  induction ps with
  | nil =>
    intro p hp
    rw [mput] at hp
    rw [List.mem_singleton.1 hp]
    exact ⟨ha.1, ha.2, rfl⟩
  | cons p r ih =>
    rw [mput]
    split
    · intro q hq
      rcases List.mem_cons.1 hq with rfl | hq
      · exact ⟨ha.1, ha.2, rfl⟩
      · exact h q (by simp [hq])
    · intro q hq
      rcases List.mem_cons.1 hq with rfl | hq
      · exact h _ (by simp)
      · exact ih (fun q hq => h q (by simp [hq])) q hq
def mxL (l : List (Int × Int)) : List Int → Int → Int
  | [], b => b
  | x :: r, b => mxL l r (max b (1 + hh l x.toNat))
theorem mxL_spec (l : List (Int × Int)) : ∀ (us : List Int) (b : Int), b ≤ mxL l us b ∧ (∀ x ∈ us, 1 + hh l x.toNat ≤ mxL l us b) ∧ (mxL l us b = b ∨ ∃ x ∈ us, mxL l us b = 1 + hh l x.toNat)
  | [], b => ⟨Int.le_refl _, (fun x h => by cases h), .inl rfl⟩
  | x :: r, b => by
    obtain ⟨h1, h2, h3⟩ := mxL_spec l r (max b (1 + hh l x.toNat))
    rw [mxL]
    refine ⟨by omega, fun y hy => ?_, ?_⟩
    · rcases List.mem_cons.1 hy with rfl | hy
      · omega
      · exact h2 y hy
    · rcases h3 with h3 | ⟨y, hy, h3⟩
      · rcases Int.le_total b (1 + hh l x.toNat) with g | g
        · exact .inr ⟨x, by simp, by omega⟩
        · exact .inl (by omega)
      · exact .inr ⟨y, by simp [hy], h3⟩
theorem hM_ok {l : List (Int × Int)} (hl : l.length ≤ 64) (hg : goodL l = true) (hm : ∀ a : Nat, a < l.length → mxL l (upL l a) 0 = hh l a) : ∀ (f : Nat) (a : Int) (ps : List (Int × Int)), 0 ≤ a → a < l.length → a < f → okM l ps → (hM l f a ps).1 = hh l a.toNat ∧ okM l (hM l f a ps).2
  | 0, a, ps, h0, h1, h2, hp => by omega
  | f + 1, a, ps, h0, h1, h2, hp => by
    rw [hM]
    cases hs : (mget .ii a ps).isSome
    · rw [cond_false]
      have hF_ok : ∀ (us : List Int) (b : Int) (qs : List (Int × Int)), (∀ x ∈ us, 0 ≤ x ∧ x < a) → okM l qs → (hF (hM l f) us b qs).1 = mxL l us b ∧ okM l (hF (hM l f) us b qs).2 := by
        intro us
        induction us with
        | nil => intro b qs _ hq; exact ⟨rfl, hq⟩
        | cons x r ih =>
          intro b qs hx hq
          have hx1 := hx x (by simp)
          obtain ⟨e1, e2⟩ := hM_ok hl hg hm f x qs hx1.1 (by omega) (by omega) hq
          have hb := hh_ub l x.toNat
          have hn := hh_nn l x.toNat
          rw [hF, mxL, e1, wrap64 (n := 1 + hh l x.toNat) (by omega) (by omega)]
          exact ih _ _ (fun y hy => hx y (by simp [hy])) e2
      have ha : a.toNat < l.length := by omega
      obtain ⟨e1, e2⟩ := hF_ok (upL l a.toNat) 0 ps (fun x hx => by have := good_at hg ha hx; omega) hp
      rw [e1, hm _ ha]
      exact ⟨rfl, mput_ok e2 ⟨h0, h1⟩⟩
    · rw [cond_true]
      obtain ⟨v, hv⟩ := Option.isSome_iff_exists.1 hs
      rw [hv]
      exact ⟨mget_ok hp hv, hp⟩
theorem lec_sub : ∀ n : Fin 7, (lecL n.val).Pairwise (fun s t => (t &&& s == t) = false) := by decide +kernel
theorem und_sub {m : Int} {b : List Int} {x y : Nat} (hx : x < (concF m b).length) (hy : y < (concF m b).length) : undB (concF m b) x y = true ↔ SubN ((concF m b).getD x (0, 0)).1.toNat ((concF m b).getD y (0, 0)).1.toNat := by
  have rp := isSet_le (concF_mem (mem_getD (d := ((0, 0) : Int × Int)) hx)).2.2.1
  have rq := isSet_le (concF_mem (mem_getD (d := ((0, 0) : Int × Int)) hy)).2.2.1
  unfold undB
  exact bandSub ⟨rp.2.2.1, rp.2.2.2⟩ ⟨rq.2.2.1, rq.2.2.2⟩
theorem und_int {m : Int} {b : List Int} {x y : Nat} (hx : x < (concF m b).length) (hy : y < (concF m b).length) (h : undB (concF m b) x y = true) : SubN ((concF m b).getD y (0, 0)).2.toNat ((concF m b).getD x (0, 0)).2.toNat := by
  have hs := (und_sub hx hy).1 h
  obtain ⟨hc, p2, p3, p4, p5⟩ := concF_mem (mem_getD (d := ((0, 0) : Int × Int)) hx)
  obtain ⟨_, q2, q3, q4, q5⟩ := concF_mem (mem_getD (d := ((0, 0) : Int × Int)) hy)
  have hl := isCtx_len hc
  have hsm := ctx_small hc
  obtain ⟨_, _, ip⟩ := intentF_spec (m := m) ⟨hl.2.1, by omega⟩ hl.1 hsm (isSet_8 p3)
  obtain ⟨_, _, iq⟩ := intentF_spec (m := m) ⟨hl.2.1, by omega⟩ hl.1 hsm (isSet_8 q3)
  rw [p5] at ip
  rw [q5] at iq
  exact fun e he => (ip e).2 ⟨((iq e).1 he).1, fun k hk hkp => ((iq e).1 he).2 k hk (hs k hkp)⟩
theorem conc_pw (m : Int) (b : List Int) : (concF m b).Pairwise (fun p q => ¬ SubN q.2.toNat p.2.toNat) := by
  unfold concF
  cases h : isCtx m b
  · exact List.Pairwise.nil
  · have hl := isCtx_len h
    rw [cond_true]
    have h0 : (lecI m.toNat).Pairwise (fun s t => ¬ SubN t.toNat s.toNat) := by
      unfold lecI
      refine List.Pairwise.map _ (fun s t hst hsub => ?_) (lec_sub ⟨m.toNat, by omega⟩)
      have := and_sub.2 hsub
      rw [Int.toNat_natCast, Int.toNat_natCast] at this
      rw [this] at hst
      cases hst
    have h1 : ((lecI m.toNat).filter (closedI m b)).Pairwise (fun s t => ¬ SubN t.toNat s.toNat) := h0.sublist List.filter_sublist
    exact List.Pairwise.map _ (fun s t hst => hst) h1
theorem pw_at {α : Type} {R : α → α → Prop} {l : List α} (h : l.Pairwise R) (d : α) {i j : Nat} (hij : i < j) (hj : j < l.length) : R (l.getD i d) (l.getD j d) := by
  have e1 : l.getD i d = l[i]'(by omega) := by rw [List.getD_eq_getElem?_getD, List.getElem?_eq_getElem (by omega)]; rfl
  have e2 : l.getD j d = l[j]'hj := by rw [List.getD_eq_getElem?_getD, List.getElem?_eq_getElem (by omega)]; rfl
  rw [e1, e2]
  exact List.pairwise_iff_getElem.1 h i j (by omega) hj hij
theorem und_lt {m : Int} {b : List Int} {x y : Nat} (hx : x < (concF m b).length) (hy : y < (concF m b).length) (hne : x ≠ y) (h : undB (concF m b) x y = true) : y < x := by
  rcases Nat.lt_or_ge y x with g | g
  · exact g
  · exact absurd (und_int hx hy h) (pw_at (conc_pw m b) (0, 0) (show x < y by omega) hy)
theorem up_iff {m : Int} {b : List Int} {a : Nat} (ha : a < (concF m b).length) (x : Int) : x ∈ upL (concF m b) a ↔ ∃ j : Nat, x = j ∧ j < (concF m b).length ∧ covI (concF m b) a j = true := by
  have key : ∀ (f : Nat → Bool) (d i : Nat), x ∈ chsF f d i ↔ ∃ j : Nat, x = j ∧ i ≤ j ∧ j < i + d ∧ f j = true := by
    intro f d
    induction d with
    | zero =>
      intro i
      rw [chsF]
      constructor
      · intro h; cases h
      · rintro ⟨j, _, _, _, _⟩; omega
    | succ d ih =>
      intro i
      rw [chsF]
      cases hf : f i
      · rw [cond_false, ih]
        constructor
        · rintro ⟨j, rfl, h1, h2, h3⟩; exact ⟨j, rfl, by omega, by omega, h3⟩
        · rintro ⟨j, rfl, h1, h2, h3⟩
          have : j ≠ i := by rintro rfl; rw [hf] at h3; cases h3
          exact ⟨j, rfl, by omega, by omega, h3⟩
      · rw [cond_true, List.mem_cons, ih]
        constructor
        · rintro (rfl | ⟨j, rfl, h1, h2, h3⟩)
          · exact ⟨i, rfl, by omega, by omega, hf⟩
          · exact ⟨j, rfl, by omega, by omega, h3⟩
        · rintro ⟨j, rfl, h1, h2, h3⟩
          by_cases e : j = i
          · subst e; exact .inl rfl
          · exact .inr ⟨j, rfl, by omega, by omega, h3⟩
  unfold upL
  rw [key]
  constructor
  · rintro ⟨j, rfl, _, h2, h3⟩; exact ⟨j, rfl, by omega, h3⟩
  · rintro ⟨j, rfl, h2, h3⟩; exact ⟨j, rfl, by omega, by omega, h3⟩
theorem ud_iff {m : Int} {b : List Int} {x y : Nat} (hx : x < (concF m b).length) : udN (concF m b) x y = true ↔ x ≠ y ∧ undB (concF m b) x y = true := by
  unfold udN
  rw [blw_und (conc_exts m b) hx, Bool.and_eq_true]
  refine and_congr_left fun _ => ?_
  simp only [bne_iff_ne, ne_eq]
  constructor
  · intro h e; exact h (by rw [e])
  · intro h e; exact h (by omega)
theorem und_trans {m : Int} {b : List Int} {x y z : Nat} (hx : x < (concF m b).length) (hy : y < (concF m b).length) (hz : z < (concF m b).length) (h1 : undB (concF m b) x y = true) (h2 : undB (concF m b) y z = true) : undB (concF m b) x z = true :=
  (und_sub hx hz).2 fun i hi => (und_sub hy hz).1 h2 i ((und_sub hx hy).1 h1 i hi)
theorem cov_ud {l : List (Int × Int)} {a x : Nat} (h : covI l a x = true) : udN l a x = true := (Bool.and_eq_true_iff.1 h).1
theorem good_conc (m : Int) (b : List Int) : goodL (concF m b) = true := by
  unfold goodL
  rw [allB_iff]
  intro a _ ha
  rw [List.all_eq_true]
  intro x hx
  obtain ⟨j, rfl, hj, hc⟩ := (up_iff (show a < (concF m b).length by omega) x).1 hx
  obtain ⟨h1, h2⟩ := (ud_iff (show a < (concF m b).length by omega)).1 (cov_ud hc)
  have := und_lt (by omega) hj h1 h2
  exact decide_eq_true (by omega)
/-- Above each element that is under another there is a cover on the way. -/
theorem cov_ex {m : Int} {b : List Int} {a i : Nat} (ha : a < (concF m b).length) (hi : i < a) (hu : undB (concF m b) a i = true) : ∃ x : Nat, x < a ∧ covI (concF m b) a x = true ∧ (x = i ∨ (i < x ∧ undB (concF m b) x i = true)) := by
  -- the greatest index between
  have : ∀ d : Nat, ∀ j : Nat, a - j = d → j < a → undB (concF m b) a j = true → (j = i ∨ (i < j ∧ undB (concF m b) j i = true)) → ∃ x : Nat, x < a ∧ covI (concF m b) a x = true ∧ (x = i ∨ (i < x ∧ undB (concF m b) x i = true)) := by
    intro d
    induction d using Nat.strongRecOn with
    | ind d ih =>
      intro j hd hj huj hji
      cases hc : covI (concF m b) a j
      · -- some z strictly between
        have hud : udN (concF m b) a j = true := (ud_iff ha).2 ⟨by omega, huj⟩
        unfold covI at hc
        rw [hud, Bool.true_and, allN_all, ← Bool.not_eq_true, List.all_eq_true] at hc
        obtain ⟨z, hz⟩ := Classical.not_forall.1 hc
        obtain ⟨hz1, hz2⟩ := Classical.not_imp.1 hz
        have hzn : z < (concF m b).length := by
          have := List.mem_range'_1.1 hz1
          omega
        rw [Bool.not_eq_true', Bool.not_eq_false, Bool.and_eq_true] at hz2
        obtain ⟨g1, g2⟩ := (ud_iff ha).1 hz2.1
        obtain ⟨g3, g4⟩ := (ud_iff hzn).1 hz2.2
        have l1 := und_lt ha hzn g1 g2
        have l2 := und_lt hzn (by omega) g3 g4
        refine ih (a - z) (by omega) z rfl l1 g2 ?_
        rcases hji with rfl | ⟨k1, k2⟩
        · exact .inr ⟨l2, g4⟩
        · exact .inr ⟨by omega, und_trans hzn (by omega) (by omega) g4 k2⟩
      · exact ⟨j, hj, hc, hji⟩
  exact this _ i rfl hi hu (.inl rfl)
theorem mx_hh {m : Int} {b : List Int} {a : Nat} (ha : a < (concF m b).length) : mxL (concF m b) (upL (concF m b) a) 0 = hh (concF m b) a := by
  obtain ⟨h1, h2, h3⟩ := mxL_spec (concF m b) (upL (concF m b) a) 0
  have hn := hh_nn (concF m b) a
  have hle : mxL (concF m b) (upL (concF m b) a) 0 ≤ hh (concF m b) a := by
    rcases h3 with h3 | ⟨x, hx, h3⟩
    · omega
    · obtain ⟨j, rfl, hj, hc⟩ := (up_iff ha x).1 hx
      obtain ⟨g1, g2⟩ := (ud_iff ha).1 (cov_ud hc)
      have := hh_le (concF m b) (und_lt ha hj g1 g2) g2
      rw [Int.toNat_natCast] at h3
      omega
  rcases hh_at (concF m b) a with g | ⟨i, g1, g2, g3⟩
  · omega
  · obtain ⟨x, x1, x2, x3⟩ := cov_ex ha g1 g2
    have := h2 (x : Int) ((up_iff ha _).2 ⟨x, rfl, by omega, x2⟩)
    rw [Int.toNat_natCast] at this
    rcases x3 with rfl | ⟨k1, k2⟩
    · omega
    · have := hh_le (concF m b) k1 k2
      omega
/-- What the height is, both ways. -/
def hgtF (m : Int) (b : List Int) : Int := bstL (concF m b) (concF m b).length
theorem last_und {m : Int} {b : List Int} {n : Nat} (hn : (concF m b).length = n + 1) {i : Nat} (hi : i < n) : undB (concF m b) n i = true := by
  have hx : n < (concF m b).length := by omega
  have hy : i < (concF m b).length := by omega
  have hmx := mem_getD (d := ((0, 0) : Int × Int)) hx
  have hmy := mem_getD (d := ((0, 0) : Int × Int)) hy
  -- the meet of the two is a concept whose extent lies in the last one's
  obtain ⟨hc, p2, p3, p4, p5⟩ := concF_mem hmx
  obtain ⟨_, q2, q3, q4, q5⟩ := concF_mem hmy
  obtain ⟨z, hz, hze⟩ := meet_in hmx hmy true
  obtain ⟨j, hj, rfl⟩ : ∃ j, j < (concF m b).length ∧ (concF m b).getD j (0, 0) = z := by
    obtain ⟨k, hk, rfl⟩ := List.getElem_of_mem hz
    exact ⟨k, hk, by simp [List.getD, hk]⟩
  have hl := isCtx_len hc
  have hsm := ctx_small hc
  -- intents of both are parts of the meet's intent
  have rp := isSet_le p3
  have rq := isSet_le q3
  have hb8 := isSet8_band (isSet_8 p3) (isSet_8 q3)
  obtain ⟨_, _, ib⟩ := intentF_spec (m := m) ⟨hl.2.1, by omega⟩ hl.1 hsm hb8
  obtain ⟨_, _, ip⟩ := intentF_spec (m := m) ⟨hl.2.1, by omega⟩ hl.1 hsm (isSet_8 p3)
  obtain ⟨_, _, iq⟩ := intentF_spec (m := m) ⟨hl.2.1, by omega⟩ hl.1 hsm (isSet_8 q3)
  have hbb := (band_set (x := ((concF m b).getD n (0, 0)).1) (y := ((concF m b).getD i (0, 0)).1) ⟨by omega, by omega⟩ ⟨by omega, by omega⟩).2.2
  have hze' : ((concF m b).getD j (0, 0)).2 = intentF m b (band ((concF m b).getD n (0, 0)).1 ((concF m b).getD i (0, 0)).1) := hze
  rw [← hze', hbb] at ib
  rw [p5] at ip
  rw [q5] at iq
  have s1 : SubN ((concF m b).getD n (0, 0)).2.toNat ((concF m b).getD j (0, 0)).2.toNat := fun e he => (ib e).2 ⟨((ip e).1 he).1, fun k hk hkb => ((ip e).1 he).2 k hk (by rw [Nat.testBit_and, Bool.and_eq_true] at hkb; exact hkb.1)⟩
  have s2 : SubN ((concF m b).getD i (0, 0)).2.toNat ((concF m b).getD j (0, 0)).2.toNat := fun e he => (ib e).2 ⟨((iq e).1 he).1, fun k hk hkb => ((iq e).1 he).2 k hk (by rw [Nat.testBit_and, Bool.and_eq_true] at hkb; exact hkb.2)⟩
  have hjn : j = n := by
    rcases Nat.lt_or_ge j n with g | g
    · exact absurd s1 (pw_at (conc_pw m b) (0, 0) g hx)
    · omega
  subst hjn
  -- so the other's intent is a part of the last one's
  refine (und_sub hx hy).2 fun k hk => ?_
  have rp1 := isSet_le p2
  have rq1 := isSet_le q2
  obtain ⟨_, _, xp⟩ := extF_spec hl.1 hsm (s := ((concF m b).getD j (0, 0)).2.toNat) (by omega)
  obtain ⟨_, _, xq⟩ := extF_spec hl.1 hsm (s := ((concF m b).getD i (0, 0)).2.toNat) (by omega)
  rw [Int.toNat_of_nonneg (by omega), ← p4] at xp
  rw [Int.toNat_of_nonneg (by omega), ← q4] at xq
  exact (xq k).2 ⟨((xp k).1 hk).1, fun e he => ((xp k).1 hk).2 e (s2 e he)⟩
theorem hgt_impl {m : Int} {b : List Int} {n : Nat} (hn : (concF m b).length = n + 1) : (hM (concF m b) 64 (n : Int) []).1 = hgtF m b := by
  have hl := concF_len m b
  have h1 := (hM_ok hl (good_conc m b) (fun a ha => mx_hh ha) 64 (n : Int) [] (by omega) (by omega) (by omega) (fun p hp => by cases hp)).1
  rw [h1, Int.toNat_natCast]
  unfold hgtF
  obtain ⟨g1, g2⟩ := bst_spec (concF m b) (concF m b).length
  obtain ⟨i, i1, i2⟩ := g2 (by omega)
  have := g1 n (by omega)
  rcases Nat.lt_or_ge i n with h | h
  · have := hh_le (concF m b) h (last_und hn h)
    omega
  · have : i = n := by omega
    rw [this] at i2
    omega
theorem hgt_rng (m : Int) (b : List Int) : -1 ≤ hgtF m b ∧ hgtF m b ≤ 64 := by
  have hl := concF_len m b
  unfold hgtF
  by_cases h0 : (concF m b).length = 0
  · rw [h0, bstL]; omega
  · obtain ⟨i, i1, i2⟩ := (bst_spec (concF m b) (concF m b).length).2 h0
    have := hh_ub (concF m b) i
    have := hh_nn (concF m b) i
    omega
def edgL (l : List (Int × Int)) : Nat → Nat → Int → Int
  | 0, _, q => q
  | d + 1, i, q => edgL l d (i + 1) (IntKind.i64.wrap (q + ((upL l i).length : Int)))
def edgF (m : Int) (b : List Int) : Int := edgL (concF m b) (concF m b).length 0 0
/- (impl.lattice).under -/
def K_latUnder : List AV → List Ob → Option (AV × List Ob)
  | [.lst (.pair (.int .i64) (.int .i64)) l, .int .i64 x, .int .i64 y], [] => gd ((0 ≤ x ∧ x < l.length) ∧ (0 ≤ y ∧ y < l.length)) (.bool (udN l x.toNat y.toNat), [])
  | _, _ => none
@[reducible] def E_latUnder : Env := mkE (tb [(99, K_latBelow)]) (fun f => false) (fun r => ([], []))
theorem ev_latUnder (l : List (Int × Int)) (x y : Int) (hp : (0 ≤ x ∧ x < l.length) ∧ (0 ≤ y ∧ y < l.length)) : evF E_latUnder (1) Tryz.f217 [.lst (.pair (.int .i64) (.int .i64)) l, .int .i64 x, .int .i64 y] [] = some (.bool (udN l x.toNat y.toNat), []) := by
  obtain ⟨i, rfl⟩ : ∃ i : Nat, x = i := ⟨x.toNat, by omega⟩
  obtain ⟨j, rfl⟩ : ∃ j : Nat, y = j := ⟨y.toNat, by omega⟩
  unfold udN
  conv => lhs; whnf
  refine br_c (fun h => ?_) (fun h => ?_)
  · have h' : ((i : Int) != (j : Int)) = true := h
    conv => lhs; whnf
    repeat ((first | with_reducible apply br_tt | with_reducible apply br_ff | with_reducible apply br_nf | with_reducible apply br_nt | with_reducible refine br_d ?_ (by kernel_rfl) | with_reducible apply br_t h | with_reducible apply br_f h); conv => lhs; whnf)
    conv => lhs; arg 1; whnf
    refine bnd_g (by exact hp) ?_
    conv => lhs; whnf
    repeat ((first | with_reducible apply br_tt | with_reducible apply br_ff | with_reducible apply br_nf | with_reducible apply br_nt | with_reducible refine br_d ?_ (by kernel_rfl) | with_reducible apply br_t h | with_reducible apply br_f h); conv => lhs; whnf)
    rw [Int.toNat_natCast, Int.toNat_natCast, h']
    rfl
  · have h' : ((i : Int) != (j : Int)) = false := h
    conv => lhs; whnf
    repeat ((first | with_reducible apply br_tt | with_reducible apply br_ff | with_reducible apply br_nf | with_reducible apply br_nt | with_reducible refine br_d ?_ (by kernel_rfl) | with_reducible apply br_t h | with_reducible apply br_f h); conv => lhs; whnf)
    rw [Int.toNat_natCast, Int.toNat_natCast, h']
    rfl
theorem ok_latUnder : FnOk Tryz.prog 217 K_latUnder := by
  refine fn_ok (fn := Tryz.f217) (k := Tryz.f217.ntmps) (E := E_latUnder) (facts_of (List.forall_mem_cons.2 ⟨ok_latBelow, List.forall_mem_nil _⟩)) (by kernel_rfl) rfl (by decide +kernel) (by decide +kernel) ?_
  intro avs hin r h
  unfold K_latUnder at h
  split at h
  · obtain ⟨hp, rfl⟩ := gd_o h
    exact ⟨_, ev_latUnder _ _ _ hp, rfl⟩
  · cases h

/- (impl.lattice).covers -/
def K_latCovers : List AV → List Ob → Option (AV × List Ob)
  | [.lst (.pair (.int .i64) (.int .i64)) l, .int .i64 x, .int .i64 y], [] => gd (l.length ≤ 64 ∧ (0 ≤ x ∧ x < l.length) ∧ (0 ≤ y ∧ y < l.length)) (.bool (covI l x.toNat y.toNat), [])
  | _, _ => none
@[reducible] def E_latCovers : Env := mkE (tb [(217, K_latUnder)]) (fun f => false) (fun r => bif r == 4 then ([0, 1, 2, 14, 15], [6]) else ([], []))
theorem lp_latCovers (l : List (Int × Int)) (hl : l.length ≤ 64) (a b : Nat) (ha : a < l.length) (hb : b < l.length) (k : AX → S → Option (AV × List Ob)) (d : Nat) : ∀ (n i : Nat) (x : Int), l.length - i = d → i ≤ l.length → x = i → d < n →
    lpAt E_latCovers (lp E_latCovers 0 n) 0 (loopAt Tryz.f179 0) (mkS [0, 1, 2, 14, 15] [.lst (.pair (.int .i64) (.int .i64)) l, .int .i64 (a : Int), .int .i64 (b : Int), .int .i64 l.length, .int .i64 x] []) k =
      bif allN (fun x => !(udN l a x && udN l x b)) d i then k (.exit 0) (mkS [6] [.any] []) else k .ret (mkS [6] [.bool false] []) := by
  induction d with
  | zero =>
    intro n i x hd hi hx hn
    subst hx
    rw [lpAt_def]
    conv => lhs; whnf
    refine br_f (df (by omega)) ?_
    conv => lhs; whnf
    rfl
  | succ d ih =>
    intro n i x hd hi hx hn
    obtain ⟨n, rfl⟩ : ∃ m, n = m + 1 := ⟨n - 1, by omega⟩
    subst hx
    rw [lpAt_def]
    conv => lhs; whnf
    refine br_t (dt (by omega)) ?_
    conv => lhs; whnf
    conv => lhs; arg 1; whnf
    refine bnd_g (by exact ⟨⟨by omega, by omega⟩, by omega, by omega⟩) ?_
    conv => lhs; whnf
    rw [allN]
    refine br_c (fun h => ?_) (fun h => ?_)
    · have h' : udN l a i = true := h
      rw [h']
      conv => lhs; whnf
      repeat ((first | with_reducible apply br_tt | with_reducible apply br_ff | with_reducible apply br_nf | with_reducible apply br_nt | with_reducible refine br_d ?_ (by kernel_rfl) | with_reducible apply br_t h | with_reducible apply br_f h); conv => lhs; whnf)
      conv => lhs; arg 1; whnf
      refine bnd_g (by exact ⟨⟨by omega, by omega⟩, by omega, by omega⟩) ?_
      conv => lhs; whnf
      repeat ((first | with_reducible apply br_tt | with_reducible apply br_ff | with_reducible apply br_nf | with_reducible apply br_nt | with_reducible refine br_d ?_ (by kernel_rfl) | with_reducible apply br_t h | with_reducible apply br_f h); conv => lhs; whnf)
      refine br_c (fun h2 => ?_) (fun h2 => ?_)
      · have h2' : udN l i b = true := h2
        rw [h2']
        conv => lhs; whnf
        repeat ((first | with_reducible apply br_tt | with_reducible apply br_ff | with_reducible apply br_nf | with_reducible apply br_nt | with_reducible refine br_d ?_ (by kernel_rfl) | with_reducible apply br_t h | with_reducible apply br_f h | with_reducible apply br_t h2 | with_reducible apply br_f h2); conv => lhs; whnf)
        rfl
      · have h2' : udN l i b = false := h2
        rw [h2']
        conv => lhs; whnf
        repeat ((first | with_reducible apply br_tt | with_reducible apply br_ff | with_reducible apply br_nf | with_reducible apply br_nt | with_reducible refine br_d ?_ (by kernel_rfl) | with_reducible apply br_t h | with_reducible apply br_f h | with_reducible apply br_t h2 | with_reducible apply br_f h2); conv => lhs; whnf)
        exact ih n (i + 1) _ (by omega) (by omega) (by rw [wrap64 (n := (i : Int) + 1) (by omega) (by omega)]; simp) (by omega)
    · have h' : udN l a i = false := h
      rw [h']
      conv => lhs; whnf
      repeat ((first | with_reducible apply br_tt | with_reducible apply br_ff | with_reducible apply br_nf | with_reducible apply br_nt | with_reducible refine br_d ?_ (by kernel_rfl) | with_reducible apply br_t h | with_reducible apply br_f h); conv => lhs; whnf)
      exact ih n (i + 1) _ (by omega) (by omega) (by rw [wrap64 (n := (i : Int) + 1) (by omega) (by omega)]; simp) (by omega)
theorem ev_latCovers (l : List (Int × Int)) (x y : Int) (hp : l.length ≤ 64 ∧ (0 ≤ x ∧ x < l.length) ∧ (0 ≤ y ∧ y < l.length)) : evF E_latCovers (100) Tryz.f179 [.lst (.pair (.int .i64) (.int .i64)) l, .int .i64 x, .int .i64 y] [] = some (.bool (covI l x.toNat y.toNat), []) := by
  obtain ⟨hl, h1, h2⟩ := hp
  obtain ⟨i, rfl⟩ : ∃ i : Nat, x = i := ⟨x.toNat, by omega⟩
  obtain ⟨j, rfl⟩ : ∃ j : Nat, y = j := ⟨y.toNat, by omega⟩
  unfold covI
  rw [Int.toNat_natCast, Int.toNat_natCast]
  conv => lhs; whnf
  conv => lhs; arg 1; whnf
  refine bnd_g (by exact ⟨h1, h2⟩) ?_
  conv => lhs; whnf
  refine br_c (fun h => ?_) (fun h => ?_)
  · have h' : udN l i j = false := bnt h
    rw [h']
    conv => lhs; whnf
    rfl
  · have h' : udN l i j = true := bnf h
    rw [h']
    conv => lhs; whnf
    refine (lp_latCovers l hl i j (by omega) (by omega) _ l.length _ 0 0 rfl (Nat.zero_le _) rfl (by change _ < 99; omega)).trans ?_
    cases hq : allN (fun x => !(udN l i x && udN l x j)) l.length 0
    · rw [cond_false]
      conv => lhs; whnf
      rfl
    · rw [cond_true]
      conv => lhs; whnf
      rfl
theorem ok_latCovers : FnOk Tryz.prog 179 K_latCovers := by
  refine fn_ok (fn := Tryz.f179) (k := Tryz.f179.ntmps) (E := E_latCovers) (facts_of (List.forall_mem_cons.2 ⟨ok_latUnder, List.forall_mem_nil _⟩)) (by kernel_rfl) rfl (by decide +kernel) (by decide +kernel) ?_
  intro avs hin r h
  unfold K_latCovers at h
  split at h
  · obtain ⟨hp, rfl⟩ := gd_o h
    exact ⟨_, ev_latCovers _ _ _ hp, rfl⟩
  · cases h

/- (impl.lattice).upper$1 -/
def K_upper1 : List AV → List Ob → Option (AV × List Ob)
  | [.int .i64 x, .vptr [.lst (.pair (.int .i64) (.int .i64)) l] 0, .vptr [.int .i64 a] 0], [] => gd (l.length ≤ 64 ∧ (0 ≤ x ∧ x < l.length) ∧ (0 ≤ a ∧ a < l.length)) (.bool (covI l a.toNat x.toNat), [])
  | _, _ => none
@[reducible] def E_upper1 : Env := mkE (tb [(179, K_latCovers)]) (fun f => false) (fun r => ([], []))
theorem ev_upper1 (x a : Int) (l : List (Int × Int)) (hp : l.length ≤ 64 ∧ (0 ≤ x ∧ x < l.length) ∧ (0 ≤ a ∧ a < l.length)) : evF E_upper1 (1) Tryz.f178 [.int .i64 x, .vptr [.lst (.pair (.int .i64) (.int .i64)) l] 0, .vptr [.int .i64 a] 0] [] = some (.bool (covI l a.toNat x.toNat), []) := by
  conv => lhs; whnf
  conv => lhs; arg 1; whnf
  refine bnd_g (by exact ⟨hp.1, hp.2.2, hp.2.1⟩) ?_
  conv => lhs; whnf
theorem ok_upper1 : FnOk Tryz.prog 178 K_upper1 := by
  refine fn_ok (fn := Tryz.f178) (k := Tryz.f178.ntmps) (E := E_upper1) (facts_of (List.forall_mem_cons.2 ⟨ok_latCovers, List.forall_mem_nil _⟩)) (by kernel_rfl) rfl (by decide +kernel) (by decide +kernel) ?_
  intro avs hin r h
  unfold K_upper1 at h
  split at h
  · obtain ⟨hp, rfl⟩ := gd_o h
    exact ⟨_, ev_upper1 _ _ _ hp, rfl⟩
  · cases h

/- (impl.lattice).chosen -/
def K_chs_up : List AV → List Ob → Option (AV × List Ob)
  | [.lst (.pair (.int .i64) (.int .i64)) l, .clo 178 [.vptr [.lst (.pair (.int .i64) (.int .i64)) l'] 0, .vptr [.int .i64 a] 0]], [] => gd ((l' = l ∧ l.length ≤ 64) ∧ (0 ≤ a ∧ a < l.length)) (.own 0, [.row 3 (.int .i64) (upL l a.toNat)])
  | _, _ => none
@[reducible] def E_chs_up : Env := mkE (tb [(178, K_upper1)]) (fun f => false) (fun r => bif r == 3 then ([1, 5, 9, 10], [5]) else ([], []))
theorem lp_chs_up (l : List (Int × Int)) (hl : l.length ≤ 64) (a : Nat) (ha : a < l.length) (k : AX → S → Option (AV × List Ob)) (d : Nat) : ∀ (n i : Nat) (x : Int) (zs : List Int), l.length - i = d → i ≤ l.length → x = i → d < n → zs.length ≤ i →
    lpAt E_chs_up (lp E_chs_up 0 n) 0 (loopAt Tryz.f97 0) (mkS [1, 5, 9, 10] [.clo 178 [.vptr [.lst (.pair (.int .i64) (.int .i64)) l] 0, .vptr [.int .i64 (a : Int)] 0], .own 0, .int .i64 l.length, .int .i64 x] [some (.row 3 (.int .i64) zs)]) k =
      k (.exit 0) (mkS [5] [.own 0] [some (.row 3 (.int .i64) (zs ++ chsF (fun x => covI l a x) d i))]) := by
  induction d with
  | zero =>
    intro n i x zs hd hi hx hn hz
    subst hx
    rw [lpAt_def]
    conv => lhs; whnf
    refine br_f (df (by omega)) ?_
    conv => lhs; whnf
    rw [chsF, List.append_nil]
  | succ d ih =>
    intro n i x zs hd hi hx hn hz
    obtain ⟨n, rfl⟩ : ∃ m, n = m + 1 := ⟨n - 1, by omega⟩
    subst hx
    rw [lpAt_def]
    conv => lhs; whnf
    refine br_t (dt (by omega)) ?_
    conv => lhs; whnf
    conv => lhs; arg 1; whnf
    refine bnd_g (by exact ⟨hl, ⟨by omega, by omega⟩, by omega, by omega⟩) ?_
    conv => lhs; whnf
    refine br_c (fun h => ?_) (fun h => ?_)
    · have h' : covI l a i = true := h
      conv => lhs; whnf
      refine br_t (dt (by simp [room]; omega)) ?_
      conv => lhs; whnf
      refine Eq.trans (ih n (i + 1) _ _ (by omega) (by omega) (by rw [wrap64 (n := (i : Int) + 1) (by omega) (by omega)]; simp) (by omega) (by simp; omega)) ?_
      rw [chsF, h', cond_true]
      simp only [List.append_assoc]
      rfl
    · have h' : covI l a i = false := h
      conv => lhs; whnf
      refine Eq.trans (ih n (i + 1) _ _ (by omega) (by omega) (by rw [wrap64 (n := (i : Int) + 1) (by omega) (by omega)]; simp) (by omega) (by omega)) ?_
      rw [chsF, h', cond_false]
theorem ev_chs_up (l : List (Int × Int)) (a : Int) (l' : List (Int × Int)) (hp : (l' = l ∧ l.length ≤ 64) ∧ (0 ≤ a ∧ a < l.length)) : evF E_chs_up (100) Tryz.f97 [.lst (.pair (.int .i64) (.int .i64)) l, .clo 178 [.vptr [.lst (.pair (.int .i64) (.int .i64)) l'] 0, .vptr [.int .i64 a] 0]] [] = some (.own 0, [.row 3 (.int .i64) (upL l a.toNat)]) := by
  obtain ⟨⟨rfl, hl⟩, ha⟩ := hp
  obtain ⟨j, rfl⟩ : ∃ j : Nat, a = j := ⟨a.toNat, by omega⟩

  conv => lhs; whnf
  refine (lp_chs_up l' hl j (by omega) _ l'.length _ 0 0 [] rfl (Nat.zero_le _) rfl (by change _ < 99; omega) (Nat.le_refl _)).trans ?_
  conv => lhs; whnf
  rfl
theorem ok_chs_up : FnOk Tryz.prog 97 K_chs_up := by
  refine fn_ok (fn := Tryz.f97) (k := Tryz.f97.ntmps) (E := E_chs_up) (facts_of (List.forall_mem_cons.2 ⟨ok_upper1, List.forall_mem_nil _⟩)) (by kernel_rfl) rfl (by decide +kernel) (by decide +kernel) ?_
  intro avs hin r h
  unfold K_chs_up at h
  split at h
  · obtain ⟨hp, rfl⟩ := gd_o h
    exact ⟨_, ev_chs_up _ _ _ hp, rfl⟩
  · cases h

/- (impl.lattice).upper -/
def K_latUpper : List AV → List Ob → Option (AV × List Ob)
  | [.lst (.pair (.int .i64) (.int .i64)) l, .int .i64 a], [] => gd (l.length ≤ 64 ∧ (0 ≤ a ∧ a < l.length)) (.own 0, [.row 3 (.int .i64) (upL l a.toNat)])
  | _, _ => none
@[reducible] def E_latUpper : Env := mkE (tb [(97, K_chs_up)]) (fun f => false) (fun r => ([], []))
theorem ev_latUpper (l : List (Int × Int)) (a : Int) (hp : l.length ≤ 64 ∧ (0 ≤ a ∧ a < l.length)) : evF E_latUpper (1) Tryz.f130 [.lst (.pair (.int .i64) (.int .i64)) l, .int .i64 a] [] = some (.own 0, [.row 3 (.int .i64) (upL l a.toNat)]) := by
  conv => lhs; whnf
  conv => lhs; arg 1; whnf
  refine bnd_g (by exact ⟨⟨rfl, hp.1⟩, hp.2⟩) ?_
  conv => lhs; whnf
theorem ok_latUpper : FnOk Tryz.prog 130 K_latUpper := by
  refine fn_ok (fn := Tryz.f130) (k := Tryz.f130.ntmps) (E := E_latUpper) (facts_of (List.forall_mem_cons.2 ⟨ok_chs_up, List.forall_mem_nil _⟩)) (by kernel_rfl) rfl (by decide +kernel) (by decide +kernel) ?_
  intro avs hin r h
  unfold K_latUpper at h
  split at h
  · obtain ⟨hp, rfl⟩ := gd_o h
    exact ⟨_, ev_latUpper _ _ hp, rfl⟩
  · cases h

def K_hgt : Nat → List AV → List Ob → Option (AV × List Ob)
  | d, [.lst (.pair (.int .i64) (.int .i64)) l, .int .i64 a, .mp 0], [.map .ii ps] => gd ((l.length ≤ 64 ∧ goodL l = true) ∧ (0 ≤ a ∧ a < l.length) ∧ a < d) (.int .i64 (hM l d a ps).1, [.map .ii (hM l d a ps).2])
  | _, _, _ => none
@[reducible] def E_hgt (d : Nat) : Env := mkE (tb [(130, K_latUpper), (131, K_hgt d)]) (fun f => [131].contains f) (fun r => bif r == 6 then ([0, 1, 2, 9, 22, 23, 24], [0, 1, 2, 9]) else ([], []))
theorem lp_hgt (dd : Nat) (l : List (Int × Int)) (hl : l.length ≤ 64) (hg : goodL l = true) (a : Int) (us : List Int) (hu : us.length ≤ 64) (hus : ∀ x ∈ us, (0 ≤ x ∧ x < l.length) ∧ x < dd) (k : AX → S → Option (AV × List Ob)) (c : Nat) : ∀ (n i : Nat) (x best : Int) (ps : List (Int × Int)), us.length - i = c → i ≤ us.length → x = i → c < n →
    lpAt (E_hgt dd) (lp (E_hgt dd) 1 n) 1 (loopAt Tryz.f131 0) (mkS [0, 1, 2, 9, 22, 23, 24] [.lst (.pair (.int .i64) (.int .i64)) l, .int .i64 a, .mp 0, .int .i64 best, .own 1, .int .i64 (us.length : Int), .int .i64 x] [some (.map .ii ps), some (.row 3 (.int .i64) us)]) k =
      k (.exit 0) (mkS [0, 1, 2, 9] [.lst (.pair (.int .i64) (.int .i64)) l, .int .i64 a, .mp 0, .int .i64 (hF (hM l dd) (us.drop i) best ps).1] [some (.map .ii (hF (hM l dd) (us.drop i) best ps).2)]) := by
  induction c with
  | zero =>
    intro n i x best ps hd hi hx hn
    subst hx
    rw [lpAt_def]
    conv => lhs; whnf
    refine br_f (df (by omega)) ?_
    conv => lhs; whnf
    rw [List.drop_of_length_le (by omega), hF]
  | succ c ih =>
    intro n i x best ps hd hi hx hn
    obtain ⟨n, rfl⟩ : ∃ m, n = m + 1 := ⟨n - 1, by omega⟩
    subst hx
    have hx := hus _ (mem_getD (d := 0) (show i < us.length by omega))
    rw [lpAt_def]
    conv => lhs; whnf
    refine br_t (dt (by omega)) ?_
    conv => lhs; whnf
    refine br_t (dt2 (by omega) (by omega)) ?_
    conv => lhs; whnf
    refine br_t (dt (by omega)) ?_
    conv => lhs; whnf
    conv => lhs; arg 1; whnf
    refine bnd_g (by exact ⟨⟨hl, hg⟩, hx⟩) ?_
    conv => lhs; whnf
    refine (ih n (i + 1) (IntKind.i64.wrap ((i : Int) + 1)) (max best (IntKind.i64.wrap (1 + (hM l dd (us.getD i 0) ps).1))) (hM l dd (us.getD i 0) ps).2 (by omega) (by omega) (by rw [wrap64 (n := (i : Int) + 1) (by omega) (by omega)]; simp) (by omega)).trans ?_
    rw [getD_drop (l := us) (i := i) (d := 0) (by omega), hF]
theorem ev_hgt (d : Nat) (l : List (Int × Int)) (a : Int) (ps : List (Int × Int)) (hp : (l.length ≤ 64 ∧ goodL l = true) ∧ (0 ≤ a ∧ a < l.length) ∧ a < ((d + 1 : Nat) : Int)) :
    evF (E_hgt d) 200 Tryz.f131 [.lst (.pair (.int .i64) (.int .i64)) l, .int .i64 a, .mp 0] [.map .ii ps] = some (.int .i64 (hM l (d + 1) a ps).1, [.map .ii (hM l (d + 1) a ps).2]) := by
  obtain ⟨⟨h1, h2⟩, h3, h4⟩ := hp
  conv => lhs; whnf
  refine br_c (fun h => ?_) (fun h => ?_)
  · have h' : (mget .ii a ps).isSome = true := h
    have e : hM l (d + 1) a ps = ((mget .ii a ps).getD 0, ps) := by rw [hM, h', cond_true]
    rw [e]
    conv => lhs; whnf
    all_goals rfl
  · have h' : (mget .ii a ps).isSome = false := h
    have e : hM l (d + 1) a ps = ((hF (hM l d) (upL l a.toNat) 0 ps).1, mput .ii a (hF (hM l d) (upL l a.toNat) 0 ps).1 (hF (hM l d) (upL l a.toNat) 0 ps).2) := by rw [hM, h', cond_false]
    have hul := upL_len l a.toNat
    rw [e]
    conv => lhs; whnf
    conv => lhs; arg 1; whnf
    refine bnd_g (by exact ⟨h1, h3⟩) ?_
    conv => lhs; whnf
    refine (lp_hgt d l h1 h2 a (upL l a.toNat) (by omega) (fun x hx => by have := good_at h2 (show a.toNat < l.length by omega) hx; omega) _ (upL l a.toNat).length _ 0 0 0 ps rfl (by omega) rfl (by change _ < 199; omega)).trans ?_
    rw [List.drop_zero]
    conv => lhs; whnf
    all_goals rfl
@[reducible] def E0_hgt : Env := mkE (tb [(130, K_latUpper)]) (fun f => [131].contains f) (fun r => bif r == 6 then ([0, 1, 2, 9, 22, 23, 24], [0, 1, 2, 9]) else ([], []))
theorem ok_hgt : ∀ d : Nat, FnOk Tryz.prog 131 (K_hgt d)
  | 0 => by
    refine fn_ok (fn := Tryz.f131) (k := Tryz.f131.ntmps) (E := E0_hgt) (facts_of (List.forall_mem_cons.2 ⟨ok_latUpper, List.forall_mem_nil _⟩)) (by kernel_rfl) rfl (by decide +kernel) (by decide +kernel) ?_
    intro avs hin r h
    unfold K_hgt at h
    split at h
    · obtain ⟨hp, rfl⟩ := gd_o h
      omega
    · cases h
  | d + 1 => by
    refine fn_ok (fn := Tryz.f131) (k := Tryz.f131.ntmps) (E := E_hgt d) (facts_of (List.forall_mem_cons.2 ⟨ok_latUpper, List.forall_mem_cons.2 ⟨ok_hgt d, List.forall_mem_nil _⟩⟩)) (by kernel_rfl) rfl (by decide +kernel) (by decide +kernel) ?_
    intro avs hin r h
    unfold K_hgt at h
    split at h
    · rename_i l a ps
      obtain ⟨hp, rfl⟩ := gd_o h
      exact ⟨_, ev_hgt d l a ps hp, rfl⟩
    · cases h

def K_hgt64 : List AV → List Ob → Option (AV × List Ob) := K_hgt 64
theorem ok_hgt64 : FnOk Tryz.prog 131 K_hgt64 := ok_hgt 64

/- impl.HeightOf -/
def K_implHeightOf : List AV → List Ob → Option (AV × List Ob)
  | [.agg [.int .i64 m, .lst (.int .i64) b]], [] => gd (b.length ≤ 1048576) (.int .i64 (hgtF m b), [])
  | _, _ => none
@[reducible] def E_implHeightOf : Env := mkE (tb [(37, K_implConF), (131, K_hgt64)]) (fun f => [131].contains f) (fun r => ([], []))
theorem ev_implHeightOf (m : Int) (b : List Int) (hp : b.length ≤ 1048576) : evF E_implHeightOf (1) Tryz.f72 [.agg [.int .i64 m, .lst (.int .i64) b]] [] = some (.int .i64 (hgtF m b), []) := by
  have hl := concF_len m b
  conv => lhs; whnf
  conv => lhs; arg 1; whnf
  refine bnd_g (by exact hp) ?_
  conv => lhs; whnf
  refine br_c (fun h => ?_) (fun h => ?_)
  · have h' : (((concF m b).length : Int) == 0) = true := h
    have e : hgtF m b = -1 := by
      unfold hgtF
      rw [show (concF m b).length = 0 by have := eq_of_beq h'; omega]
      rfl
    rw [e]
    conv => lhs; whnf
  · have h' : (((concF m b).length : Int) == 0) = false := h
    have hn : (concF m b).length ≠ 0 := by
      intro e
      rw [e] at h'
      cases h'
    have hw : IntKind.i64.wrap (((concF m b).length : Int) - 1) = (((concF m b).length - 1 : Nat) : Int) := by rw [wrap64 (by omega) (by omega)]; omega
    have e := hgt_impl (m := m) (b := b) (n := (concF m b).length - 1) (by omega)
    rw [← e, ← hw]
    conv => lhs; whnf
    conv => lhs; arg 1; whnf
    refine bnd_g (by exact ⟨⟨hl, good_conc m b⟩, by rw [hw]; omega, by rw [hw]; omega⟩) ?_
    conv => lhs; whnf
    all_goals rfl
theorem ok_implHeightOf : FnOk Tryz.prog 72 K_implHeightOf := by
  refine fn_ok (fn := Tryz.f72) (k := Tryz.f72.ntmps) (E := E_implHeightOf) (facts_of (List.forall_mem_cons.2 ⟨ok_implConF, List.forall_mem_cons.2 ⟨ok_hgt64, List.forall_mem_nil _⟩⟩)) (by kernel_rfl) rfl (by decide +kernel) (by decide +kernel) ?_
  intro avs hin r h
  unfold K_implHeightOf at h
  split at h
  · obtain ⟨hp, rfl⟩ := gd_o h
    exact ⟨_, ev_implHeightOf _ _ hp, rfl⟩
  · cases h

/- spec.l1Max -/
def K_l1Max : List AV → List Ob → Option (AV × List Ob)
  | [.int .i64 a, .int .i64 b], [] => gd (True) (.int .i64 (max a b), [])
  | _, _ => none
@[reducible] def E_l1Max : Env := mkE (tb []) (fun f => false) (fun r => ([], []))
theorem ev_l1Max (a b : Int) (hp : True) : evF E_l1Max (1) Tryz.f121 [.int .i64 a, .int .i64 b] [] = some (.int .i64 (max a b), []) := by
  conv => lhs; whnf
  refine br_c (fun h => ?_) (fun h => ?_)
  · conv => lhs; whnf
    have h := ofd h
    refine okI ?_
    omega
  · conv => lhs; whnf
    have h := ofn h
    refine okI ?_
    omega
theorem ok_l1Max : FnOk Tryz.prog 121 K_l1Max := by
  refine fn_ok (fn := Tryz.f121) (k := Tryz.f121.ntmps) (E := E_l1Max) (facts_of (List.forall_mem_nil _)) (by kernel_rfl) rfl (by decide +kernel) (by decide +kernel) ?_
  intro avs hin r h
  unfold K_l1Max at h
  split at h
  · obtain ⟨hp, rfl⟩ := gd_o h
    exact ⟨_, ev_l1Max _ _ hp, rfl⟩
  · cases h

/- spec.HeightOf -/
def K_specHeightOf : List AV → List Ob → Option (AV × List Ob)
  | [.agg [.int .i64 m, .lst (.int .i64) b]], [] => gd (b.length ≤ 1048576) (.int .i64 (hgtF m b), [])
  | _, _ => none
@[reducible] def E_specHeightOf : Env := mkE (tb [(44, K_specConcepts), (53, K_l6Under), (121, K_l1Max)]) (fun f => false) (fun r => bif r == 5 then ([3, 4, 5, 6], [3, 4, 5, 6]) else bif r == 9 then ([3, 4, 5, 6, 7], [3, 4, 5, 6]) else ([], []))
theorem lq_specHeightOf (l : List (Int × Int)) (hl : l.length ≤ 64) (best : Int) (j : Nat) (hj : j < l.length) (F : List Int) (hF : F.length = j) (hFb : ∀ i, i < j → 0 ≤ F.getD i 0 ∧ F.getD i 0 ≤ 64) (k : AX → S → Option (AV × List Ob)) (d : Nat) : ∀ (n i : Nat) (x acc : Int) (G : List Int), j - i = d → i ≤ j → x = i → d < n → G = F ++ [acc] →
    lpAt E_specHeightOf (lp E_specHeightOf 0 n) 0 (loopAt Tryz.f64 1) (mkS [3, 4, 5, 6, 7] [.own 0, .own 1, .int .i64 best, .int .i64 (j : Int), .int .i64 x] [some (.row 65 (.pair (.int .i64) (.int .i64)) l), some (.row 3 (.int .i64) G)]) k =
      k (.exit 2) (mkS [3, 4, 5, 6] [.own 0, .own 1, .int .i64 best, .int .i64 (j : Int)] [some (.row 65 (.pair (.int .i64) (.int .i64)) l), some (.row 3 (.int .i64) (F ++ [hgS l F j d i acc]))]) := by
  induction d with
  | zero =>
    intro n i x acc G hd hi hx hn hG
    subst hx
    rw [lpAt_def]
    conv => lhs; whnf
    refine br_f (df (by omega)) ?_
    conv => lhs; whnf
    rw [hG, hgS]
  | succ d ih =>
    intro n i x acc G hd hi hx hn hG
    obtain ⟨n, rfl⟩ : ∃ m, n = m + 1 := ⟨n - 1, by omega⟩
    subst hx
    have hGl : G.length = j + 1 := by rw [hG]; simp [hF]
    have g1 : G.getD j 0 = acc := by rw [hG, List.getD_eq_getElem?_getD, List.getElem?_append_right (by omega), hF, Nat.sub_self]; rfl
    have g2 : G.getD i 0 = F.getD i 0 := by rw [hG, List.getD_eq_getElem?_getD, List.getElem?_append_left (by omega), ← List.getD_eq_getElem?_getD]
    have hb := hFb i (by omega)
    have hw : IntKind.i64.wrap (G.getD i 0 + 1) = F.getD i 0 + 1 := by rw [g2]; exact wrap64 (by omega) (by omega)
    rw [lpAt_def]
    conv => lhs; whnf
    refine br_t (dt (by omega)) ?_
    conv => lhs; whnf
    repeat ((first | with_reducible apply br_tt | with_reducible apply br_ff | with_reducible apply br_nf | with_reducible apply br_nt | with_reducible refine br_d ?_ (by kernel_rfl) | with_reducible refine br_t (dt2 (by omega) (by omega)) ?_ | with_reducible refine br_t (dt (by omega)) ?_); conv => lhs; whnf)
    conv => lhs; arg 1; whnf
    refine bnd_g (by exact True.intro) ?_
    conv => lhs; whnf
    repeat ((first | with_reducible apply br_tt | with_reducible apply br_ff | with_reducible apply br_nf | with_reducible apply br_nt | with_reducible refine br_d ?_ (by kernel_rfl) | with_reducible refine br_t (dt2 (by omega) (by omega)) ?_ | with_reducible refine br_t (dt (by omega)) ?_); conv => lhs; whnf)
    refine br_c (fun h => ?_) (fun h => ?_)
    · have h' : undB l j i = true := h
      have g3 : G.set j (max (G.getD j 0) (IntKind.i64.wrap (G.getD i 0 + 1))) = F ++ [max acc (F.getD i 0 + 1)] := by
        rw [hw, g1, hG, List.set_append, if_neg (by omega), hF, Nat.sub_self]
        rfl
      conv => lhs; whnf
      repeat ((first | with_reducible apply br_tt | with_reducible apply br_ff | with_reducible apply br_nf | with_reducible apply br_nt | with_reducible refine br_d ?_ (by kernel_rfl) | with_reducible refine br_t (dt2 (by omega) (by omega)) ?_ | with_reducible refine br_t (dt (by omega)) ?_); conv => lhs; whnf)
      conv => lhs; arg 1; whnf
      refine bnd_g (by exact True.intro) ?_
      conv => lhs; whnf
      repeat ((first | with_reducible apply br_tt | with_reducible apply br_ff | with_reducible apply br_nf | with_reducible apply br_nt | with_reducible refine br_d ?_ (by kernel_rfl) | with_reducible refine br_t (dt2 (by omega) (by omega)) ?_ | with_reducible refine br_t (dt (by omega)) ?_); conv => lhs; whnf)
      refine (ih n (i + 1) (IntKind.i64.wrap ((i : Int) + 1)) (max acc (F.getD i 0 + 1)) _ (by omega) (by omega) (by rw [wrap64 (n := (i : Int) + 1) (by omega) (by omega)]; simp) (by omega) g3).trans ?_
      have e : hgS l F j (d + 1) i acc = hgS l F j d (i + 1) (max acc (F.getD i 0 + 1)) := by rw [hgS, h', cond_true]
      rw [e]
    · have h' : undB l j i = false := h
      conv => lhs; whnf
      refine (ih n (i + 1) (IntKind.i64.wrap ((i : Int) + 1)) acc G (by omega) (by omega) (by rw [wrap64 (n := (i : Int) + 1) (by omega) (by omega)]; simp) (by omega) hG).trans ?_
      have e : hgS l F j (d + 1) i acc = hgS l F j d (i + 1) acc := by rw [hgS, h', cond_false]
      rw [e]
theorem lp_specHeightOf (l : List (Int × Int)) (hl : l.length ≤ 64) (k : AX → S → Option (AV × List Ob)) (r : Option (AV × List Ob)) (hk : ∀ (G : List Int), k (.exit 0) (mkS [3, 4, 5, 6] [.own 0, .own 1, .int .i64 (bstL l l.length), .int .i64 (l.length : Int)] [some (.row 65 (.pair (.int .i64) (.int .i64)) l), some (.row 3 (.int .i64) G)]) = r) (d : Nat) : ∀ (n i : Nat) (x best : Int) (G : List Int), l.length - i = d → i ≤ l.length → x = i → d + 100 < n → G = farL l i → best = bstL l i →
    lpAt E_specHeightOf (lp E_specHeightOf 0 n) 0 (loopAt Tryz.f64 0) (mkS [3, 4, 5, 6] [.own 0, .own 1, .int .i64 best, .int .i64 x] [some (.row 65 (.pair (.int .i64) (.int .i64)) l), some (.row 3 (.int .i64) G)]) k = r := by
  induction d with
  | zero =>
    intro n i x best G hd hi hx hn hG hb
    have e : i = l.length := by omega
    subst hx
    rw [lpAt_def]
    conv => lhs; whnf
    refine br_f (df (by omega)) ?_
    conv => lhs; whnf
    rw [hb, e]
    exact hk G
  | succ d ih =>
    intro n i x best G hd hi hx hn hG hb
    obtain ⟨n, rfl⟩ : ∃ m, n = m + 1 := ⟨n - 1, by omega⟩
    subst hx
    have hfl := farL_len l i
    have hGl : G.length = i := by rw [hG]; exact hfl
    have hFb : ∀ j, j < i → 0 ≤ G.getD j 0 ∧ G.getD j 0 ≤ 64 := fun j hj => by
      rw [hG, farL_get l i hj]
      have := hh_nn l j
      have := hh_ub l j
      omega
    rw [lpAt_def]
    conv => lhs; whnf
    refine br_t (dt (by omega)) ?_
    conv => lhs; whnf
    refine br_t (dt (by simp [room]; omega)) ?_
    conv => lhs; whnf
    refine (lq_specHeightOf l hl best i (by omega) G hGl hFb _ i _ 0 0 0 _ (by omega) (by omega) rfl (by omega) rfl).trans ?_
    have e1 : G ++ [hgS l G i i 0 0] = farL l (i + 1) := by rw [farL, hG]
    have e2 : (G ++ [hgS l G i i 0 0]).getD i 0 = hh l i := by
      rw [List.getD_eq_getElem?_getD, List.getElem?_append_right (by omega), hGl, Nat.sub_self, hG]
      rfl
    have hlen : (G ++ [hgS l G i i 0 0]).length = i + 1 := by simp [hGl]
    conv => lhs; whnf
    repeat ((first | with_reducible apply br_tt | with_reducible apply br_ff | with_reducible apply br_nf | with_reducible apply br_nt | with_reducible refine br_d ?_ (by kernel_rfl) | with_reducible refine br_t (dt2 (by omega) (by omega)) ?_ | with_reducible refine br_t (dt (by omega)) ?_); conv => lhs; whnf)
    conv => lhs; arg 1; whnf
    refine bnd_g (by exact True.intro) ?_
    conv => lhs; whnf
    repeat ((first | with_reducible apply br_tt | with_reducible apply br_ff | with_reducible apply br_nf | with_reducible apply br_nt | with_reducible refine br_d ?_ (by kernel_rfl) | with_reducible refine br_t (dt2 (by omega) (by omega)) ?_ | with_reducible refine br_t (dt (by omega)) ?_); conv => lhs; whnf)
    refine (ih n (i + 1) (IntKind.i64.wrap ((i : Int) + 1)) _ _ (by omega) (by omega) (by rw [wrap64 (n := (i : Int) + 1) (by omega) (by omega)]; simp) (by omega) e1 (by rw [bstL, ← e2, hb]; rfl))
theorem ev_specHeightOf (m : Int) (b : List Int) (hp : b.length ≤ 1048576) : evF E_specHeightOf (300) Tryz.f64 [.agg [.int .i64 m, .lst (.int .i64) b]] [] = some (.int .i64 (hgtF m b), []) := by
  have hl := concF_len m b
  conv => lhs; whnf
  conv => lhs; arg 1; whnf
  refine bnd_g (by exact hp) ?_
  conv => lhs; whnf
  refine lp_specHeightOf (concF m b) hl _ (some (.int .i64 (hgtF m b), [])) (fun G => ?_) (concF m b).length _ 0 0 (-1) [] rfl (by omega) rfl (by change _ < 299; omega) rfl rfl
  conv => lhs; whnf
  all_goals rfl
theorem ok_specHeightOf : FnOk Tryz.prog 64 K_specHeightOf := by
  refine fn_ok (fn := Tryz.f64) (k := Tryz.f64.ntmps) (E := E_specHeightOf) (facts_of (List.forall_mem_cons.2 ⟨ok_specConcepts, List.forall_mem_cons.2 ⟨ok_l6Under, List.forall_mem_cons.2 ⟨ok_l1Max, List.forall_mem_nil _⟩⟩⟩)) (by kernel_rfl) rfl (by decide +kernel) (by decide +kernel) ?_
  intro avs hin r h
  unfold K_specHeightOf at h
  split at h
  · obtain ⟨hp, rfl⟩ := gd_o h
    exact ⟨_, ev_specHeightOf _ _ hp, rfl⟩
  · cases h

/- impl.CountEdges -/
def K_implCountEdges : List AV → List Ob → Option (AV × List Ob)
  | [.agg [.int .i64 m, .lst (.int .i64) b]], [] => gd (b.length ≤ 1048576) (.int .i64 (edgF m b), [])
  | _, _ => none
@[reducible] def E_implCountEdges : Env := mkE (tb [(37, K_implConcepts), (130, K_latUpper)]) (fun f => false) (fun r => bif r == 3 then ([3, 4, 9, 10], [4]) else ([], []))
theorem lp_implCountEdges (l : List (Int × Int)) (hl : l.length ≤ 64) (k : AX → S → Option (AV × List Ob)) (d : Nat) : ∀ (n i : Nat) (x q : Int), l.length - i = d → i ≤ l.length → x = i → d < n →
    lpAt E_implCountEdges (lp E_implCountEdges 0 n) 0 (loopAt Tryz.f71 0) (mkS [3, 4, 9, 10] [.own 0, .int .i64 q, .int .i64 (l.length : Int), .int .i64 x] [some (.row 65 (.pair (.int .i64) (.int .i64)) l)]) k =
      k (.exit 0) (mkS [4] [.int .i64 (edgL l d i q)] []) := by
  induction d with
  | zero =>
    intro n i x q hd hi hx hn
    subst hx
    rw [lpAt_def]
    conv => lhs; whnf
    refine br_f (df (by omega)) ?_
    conv => lhs; whnf
    rfl
  | succ d ih =>
    intro n i x q hd hi hx hn
    obtain ⟨n, rfl⟩ : ∃ m, n = m + 1 := ⟨n - 1, by omega⟩
    subst hx
    rw [lpAt_def]
    conv => lhs; whnf
    refine br_t (dt (by omega)) ?_
    conv => lhs; whnf
    conv => lhs; arg 1; whnf
    refine bnd_g (by exact ⟨hl, by omega⟩) ?_
    conv => lhs; whnf
    exact ih n (i + 1) (IntKind.i64.wrap ((i : Int) + 1)) _ (by omega) (by omega) (by rw [wrap64 (n := (i : Int) + 1) (by omega) (by omega)]; simp) (by omega)
theorem ev_implCountEdges (m : Int) (b : List Int) (hp : b.length ≤ 1048576) : evF E_implCountEdges (100) Tryz.f71 [.agg [.int .i64 m, .lst (.int .i64) b]] [] = some (.int .i64 (edgF m b), []) := by
  have hl := concF_len m b
  conv => lhs; whnf
  conv => lhs; arg 1; whnf
  refine bnd_g (by exact hp) ?_
  conv => lhs; whnf
  refine (lp_implCountEdges (concF m b) hl _ (concF m b).length _ 0 0 0 rfl (by omega) rfl (by change _ < 99; omega)).trans ?_
  conv => lhs; whnf
  all_goals rfl
theorem ok_implCountEdges : FnOk Tryz.prog 71 K_implCountEdges := by
  refine fn_ok (fn := Tryz.f71) (k := Tryz.f71.ntmps) (E := E_implCountEdges) (facts_of (List.forall_mem_cons.2 ⟨ok_implConcepts, List.forall_mem_cons.2 ⟨ok_latUpper, List.forall_mem_nil _⟩⟩)) (by kernel_rfl) rfl (by decide +kernel) (by decide +kernel) ?_
  intro avs hin r h
  unfold K_implCountEdges at h
  split at h
  · obtain ⟨hp, rfl⟩ := gd_o h
    exact ⟨_, ev_implCountEdges _ _ hp, rfl⟩
  · cases h

/- spec.l6Sorted -/
def K_l6Sorted : List AV → List Ob → Option (AV × List Ob)
  | [.lst (.pair (.int .i64) (.int .i64)) l, .int .i64 x, .int .i64 y, .bool true], [] => gd ((0 ≤ x ∧ x < l.length) ∧ (0 ≤ y ∧ y < l.length)) (.bool (undB l x.toNat y.toNat), [])
  | _, _ => none
@[reducible] def E_l6Sorted : Env := mkE (tb [(53, K_l6Under)]) (fun f => false) (fun r => ([], []))
theorem ev_l6Sorted (l : List (Int × Int)) (x y : Int) (hp : (0 ≤ x ∧ x < l.length) ∧ (0 ≤ y ∧ y < l.length)) : evF E_l6Sorted (1) Tryz.f169 [.lst (.pair (.int .i64) (.int .i64)) l, .int .i64 x, .int .i64 y, .bool true] [] = some (.bool (undB l x.toNat y.toNat), []) := by
  conv => lhs; whnf
  repeat ((first | with_reducible apply br_tt | with_reducible apply br_ff | with_reducible apply br_nf | with_reducible apply br_nt | with_reducible refine br_d ?_ (by kernel_rfl)); conv => lhs; whnf)
  refine br_t (by exact dt2 hp.1.1 hp.1.2) ?_
  conv => lhs; whnf
  repeat ((first | with_reducible apply br_tt | with_reducible apply br_ff | with_reducible apply br_nf | with_reducible apply br_nt | with_reducible refine br_d ?_ (by kernel_rfl)); conv => lhs; whnf)
  refine br_t (by exact dt2 hp.2.1 hp.2.2) ?_
  conv => lhs; whnf
  repeat ((first | with_reducible apply br_tt | with_reducible apply br_ff | with_reducible apply br_nf | with_reducible apply br_nt | with_reducible refine br_d ?_ (by kernel_rfl)); conv => lhs; whnf)
  conv => lhs; arg 1; whnf
  refine bnd_g (by exact True.intro) ?_
  conv => lhs; whnf
  repeat ((first | with_reducible apply br_tt | with_reducible apply br_ff | with_reducible apply br_nf | with_reducible apply br_nt | with_reducible refine br_d ?_ (by kernel_rfl)); conv => lhs; whnf)
  rfl
theorem ok_l6Sorted : FnOk Tryz.prog 169 K_l6Sorted := by
  refine fn_ok (fn := Tryz.f169) (k := Tryz.f169.ntmps) (E := E_l6Sorted) (facts_of (List.forall_mem_cons.2 ⟨ok_l6Under, List.forall_mem_nil _⟩)) (by kernel_rfl) rfl (by decide +kernel) (by decide +kernel) ?_
  intro avs hin r h
  unfold K_l6Sorted at h
  split at h
  · obtain ⟨hp, rfl⟩ := gd_o h
    exact ⟨_, ev_l6Sorted _ _ _ hp, rfl⟩
  · cases h

/- spec.l6Covers -/
def K_l6Covers : List AV → List Ob → Option (AV × List Ob)
  | [.lst (.pair (.int .i64) (.int .i64)) l, .int .i64 a, .bool true], [] => gd (l.length ≤ 64 ∧ (0 ≤ a ∧ a < l.length) ∧ extsB l = true) (.own 0, [.row 3 (.int .i64) (upL l a.toNat)])
  | _, _ => none
@[reducible] def E_l6Covers : Env := mkE (tb [(52, K_l6Exists), (169, K_l6Sorted)]) (fun f => false) (fun r => bif r == 3 then ([0, 1, 2, 7, 8], [0, 1, 2, 7, 8, 9]) else bif r == 8 then ([0, 1, 2, 7, 8, 9, 10], [0, 1, 2, 7, 8, 9]) else ([], []))
theorem lq_l6Covers (l : List (Int × Int)) (hl : l.length ≤ 64) (a b : Nat) (ha : a < l.length) (hb : b < l.length) (zs : List Int) (k : AX → S → Option (AV × List Ob)) (d : Nat) : ∀ (n i : Nat) (x : Int) (f : Bool), l.length - i = d → i ≤ l.length → x = i → d < n →
    lpAt E_l6Covers (lp E_l6Covers 0 n) 0 (loopAt Tryz.f120 1) (mkS [0, 1, 2, 7, 8, 9, 10] [.lst (.pair (.int .i64) (.int .i64)) l, .int .i64 (a : Int), .bool true, .own 0, .int .i64 (b : Int), .bool f, .int .i64 x] [some (.row 3 (.int .i64) zs)]) k =
      k (.exit 2) (mkS [0, 1, 2, 7, 8, 9] [.lst (.pair (.int .i64) (.int .i64)) l, .int .i64 (a : Int), .bool true, .own 0, .int .i64 (b : Int), .bool (f && allN (fun k => (((k : Int) == (a : Int)) || ((k : Int) == (b : Int))) || !undB l a k || !undB l k b) d i)] [some (.row 3 (.int .i64) zs)]) := by
  induction d with
  | zero =>
    intro n i x f hd hi hx hn
    subst hx
    rw [lpAt_def]
    conv => lhs; whnf
    refine br_f (df (by omega)) ?_
    conv => lhs; whnf
    rw [allN, Bool.and_true]
  | succ d ih =>
    intro n i x f hd hi hx hn
    obtain ⟨n, rfl⟩ : ∃ m, n = m + 1 := ⟨n - 1, by omega⟩
    subst hx
    have hih := fun f => ih n (i + 1) (IntKind.i64.wrap ((i : Int) + 1)) f (by omega) (by omega) (by rw [wrap64 (n := (i : Int) + 1) (by omega) (by omega)]; simp) (by omega)
    rw [lpAt_def, allN]
    conv => lhs; whnf
    refine br_t (dt (by omega)) ?_
    conv => lhs; whnf
    cases f with
    | false =>
      conv => lhs; whnf
      repeat ((first | with_reducible apply br_tt | with_reducible apply br_ff | with_reducible apply br_nf | with_reducible apply br_nt | with_reducible refine br_d ?_ (by kernel_rfl) | with_reducible refine br_f (by simp; done) ?_); conv => lhs; whnf)
      exact (hih false).trans (by simp only [Bool.false_and])
    | true =>
      conv => lhs; whnf
      repeat ((first | with_reducible apply br_tt | with_reducible apply br_ff | with_reducible apply br_nf | with_reducible apply br_nt | with_reducible refine br_d ?_ (by kernel_rfl)); conv => lhs; whnf)
      refine br_c (fun h => ?_) (fun h => ?_)
      · have h' : ((i : Int) == (a : Int)) = true := h
        conv => lhs; whnf
        repeat ((first | with_reducible apply br_tt | with_reducible apply br_ff | with_reducible apply br_nf | with_reducible apply br_nt | with_reducible refine br_d ?_ (by kernel_rfl) | with_reducible apply br_t h | with_reducible apply br_f h); conv => lhs; whnf)
        refine (hih true).trans ?_
        simp only [h', Bool.true_and, Bool.true_or]
      · have h' : ((i : Int) == (a : Int)) = false := h
        conv => lhs; whnf
        repeat ((first | with_reducible apply br_tt | with_reducible apply br_ff | with_reducible apply br_nf | with_reducible apply br_nt | with_reducible refine br_d ?_ (by kernel_rfl) | with_reducible apply br_t h | with_reducible apply br_f h); conv => lhs; whnf)
        refine br_c (fun h2 => ?_) (fun h2 => ?_)
        · have h2' : ((i : Int) == (b : Int)) = true := h2
          conv => lhs; whnf
          repeat ((first | with_reducible apply br_tt | with_reducible apply br_ff | with_reducible apply br_nf | with_reducible apply br_nt | with_reducible refine br_d ?_ (by kernel_rfl) | with_reducible apply br_t h | with_reducible apply br_f h | with_reducible apply br_t h2 | with_reducible apply br_f h2); conv => lhs; whnf)
          refine (hih true).trans ?_
          simp only [h2', Bool.true_and, Bool.true_or, Bool.or_true]
        · have h2' : ((i : Int) == (b : Int)) = false := h2
          conv => lhs; whnf
          repeat ((first | with_reducible apply br_tt | with_reducible apply br_ff | with_reducible apply br_nf | with_reducible apply br_nt | with_reducible refine br_d ?_ (by kernel_rfl) | with_reducible apply br_t h | with_reducible apply br_f h | with_reducible apply br_t h2 | with_reducible apply br_f h2); conv => lhs; whnf)
          conv => lhs; arg 1; whnf
          refine bnd_g (by exact ⟨⟨by omega, by omega⟩, by omega, by omega⟩) ?_
          conv => lhs; whnf
          repeat ((first | with_reducible apply br_tt | with_reducible apply br_ff | with_reducible apply br_nf | with_reducible apply br_nt | with_reducible refine br_d ?_ (by kernel_rfl) | with_reducible apply br_t h | with_reducible apply br_f h | with_reducible apply br_t h2 | with_reducible apply br_f h2); conv => lhs; whnf)
          refine br_c (fun h3 => ?_) (fun h3 => ?_)
          · have h3' : undB l a i = false := bnt h3
            conv => lhs; whnf
            repeat ((first | with_reducible apply br_tt | with_reducible apply br_ff | with_reducible apply br_nf | with_reducible apply br_nt | with_reducible refine br_d ?_ (by kernel_rfl) | with_reducible apply br_t h | with_reducible apply br_f h | with_reducible apply br_t h2 | with_reducible apply br_f h2 | with_reducible apply br_t h3 | with_reducible apply br_f h3); conv => lhs; whnf)
            refine (hih true).trans ?_
            simp only [h', h2', h3', Bool.true_and, Bool.not_false, Bool.or_true, Bool.true_or]
          · have h3' : undB l a i = true := bnf h3
            conv => lhs; whnf
            repeat ((first | with_reducible apply br_tt | with_reducible apply br_ff | with_reducible apply br_nf | with_reducible apply br_nt | with_reducible refine br_d ?_ (by kernel_rfl) | with_reducible apply br_t h | with_reducible apply br_f h | with_reducible apply br_t h2 | with_reducible apply br_f h2 | with_reducible apply br_t h3 | with_reducible apply br_f h3); conv => lhs; whnf)
            conv => lhs; arg 1; whnf
            refine bnd_g (by exact ⟨⟨by omega, by omega⟩, by omega, by omega⟩) ?_
            conv => lhs; whnf
            repeat ((first | with_reducible apply br_tt | with_reducible apply br_ff | with_reducible apply br_nf | with_reducible apply br_nt | with_reducible refine br_d ?_ (by kernel_rfl) | with_reducible apply br_t h | with_reducible apply br_f h | with_reducible apply br_t h2 | with_reducible apply br_f h2 | with_reducible apply br_t h3 | with_reducible apply br_f h3); conv => lhs; whnf)
            refine (hih (!undB l i b)).trans ?_
            simp only [h', h2', h3', Bool.true_and, Bool.not_true, Bool.false_or]
theorem lp_l6Covers (l : List (Int × Int)) (hl : l.length ≤ 64) (a : Nat) (ha : a < l.length) (k : AX → S → Option (AV × List Ob)) (d : Nat) : ∀ (n i : Nat) (x : Int) (zs : List Int), l.length - i = d → i ≤ l.length → x = i → d + 80 < n → zs.length ≤ i →
    lpAt E_l6Covers (lp E_l6Covers 0 n) 0 (loopAt Tryz.f120 0) (mkS [0, 1, 2, 7, 8] [.lst (.pair (.int .i64) (.int .i64)) l, .int .i64 (a : Int), .bool true, .own 0, .int .i64 x] [some (.row 3 (.int .i64) zs)]) k =
      k (.exit 0) (mkS [0, 1, 2, 7, 8, 9] [.lst (.pair (.int .i64) (.int .i64)) l, .int .i64 (a : Int), .bool true, .own 0, .int .i64 l.length, .any] [some (.row 3 (.int .i64) (zs ++ chsF (fun x => covS l a x) d i))]) := by
  have hin : inC l (a : Int) = true := inC_iff.2 ⟨by omega, by omega⟩
  induction d with
  | zero =>
    intro n i x zs hd hi hx hn hz
    have : i = l.length := by omega
    subst hx this
    have hq : decide ((l.length : Int) < (l.length : Int)) = false := df (by omega)
    rw [lpAt_def]
    conv => lhs; whnf
    repeat ((first | with_reducible apply br_tt | with_reducible apply br_ff | with_reducible apply br_nf | with_reducible apply br_nt | with_reducible refine br_d ?_ (by kernel_rfl) | with_reducible apply br_t hq | with_reducible apply br_f hq); conv => lhs; whnf)
    rw [chsF, List.append_nil]
  | succ d ih =>
    intro n i x zs hd hi hx hn hz
    obtain ⟨n, rfl⟩ : ∃ m, n = m + 1 := ⟨n - 1, by omega⟩
    subst hx
    have hq : decide ((i : Int) < (l.length : Int)) = true := dt (by omega)
    have hih := fun zs => ih n (i + 1) (IntKind.i64.wrap ((i : Int) + 1)) zs (by omega) (by omega) (by rw [wrap64 (n := (i : Int) + 1) (by omega) (by omega)]; simp) (by omega)
    rw [lpAt_def]
    conv => lhs; whnf
    repeat ((first | with_reducible apply br_tt | with_reducible apply br_ff | with_reducible apply br_nf | with_reducible apply br_nt | with_reducible refine br_d ?_ (by kernel_rfl) | with_reducible apply br_t hq | with_reducible apply br_f hq); conv => lhs; whnf)
    conv => lhs; arg 1; whnf
    refine bnd_g (by exact hl) ?_
    conv => lhs; whnf
    repeat ((first | with_reducible apply br_tt | with_reducible apply br_ff | with_reducible apply br_nf | with_reducible apply br_nt | with_reducible refine br_d ?_ (by kernel_rfl) | with_reducible apply br_t hq | with_reducible apply br_f hq | with_reducible apply br_t hin | with_reducible apply br_f hin); conv => lhs; whnf)
    refine br_c (fun h => ?_) (fun h => ?_)
    · have h' : ((i : Int) == (a : Int)) = true := h
      have e : covS l a i = false := by unfold covS; rw [h']; rfl
      conv => lhs; whnf
      repeat ((first | with_reducible apply br_tt | with_reducible apply br_ff | with_reducible apply br_nf | with_reducible apply br_nt | with_reducible refine br_d ?_ (by kernel_rfl) | with_reducible apply br_t h | with_reducible apply br_f h); conv => lhs; whnf)
      refine (hih zs (by omega)).trans ?_
      rw [chsF, e, cond_false]
    · have h' : ((i : Int) == (a : Int)) = false := h
      conv => lhs; whnf
      repeat ((first | with_reducible apply br_tt | with_reducible apply br_ff | with_reducible apply br_nf | with_reducible apply br_nt | with_reducible refine br_d ?_ (by kernel_rfl) | with_reducible apply br_t h | with_reducible apply br_f h); conv => lhs; whnf)
      conv => lhs; arg 1; whnf
      refine bnd_g (by exact ⟨⟨by omega, by omega⟩, by omega, by omega⟩) ?_
      conv => lhs; whnf
      repeat ((first | with_reducible apply br_tt | with_reducible apply br_ff | with_reducible apply br_nf | with_reducible apply br_nt | with_reducible refine br_d ?_ (by kernel_rfl) | with_reducible apply br_t h | with_reducible apply br_f h); conv => lhs; whnf)
      refine br_c (fun h2 => ?_) (fun h2 => ?_)
      · have h2' : undB l a i = false := bnt h2
        have e : covS l a i = false := by unfold covS; rw [h', h2']; rfl
        conv => lhs; whnf
        repeat ((first | with_reducible apply br_tt | with_reducible apply br_ff | with_reducible apply br_nf | with_reducible apply br_nt | with_reducible refine br_d ?_ (by kernel_rfl) | with_reducible apply br_t h | with_reducible apply br_f h); conv => lhs; whnf)
        refine (hih zs (by omega)).trans ?_
        rw [chsF, e, cond_false]
      · have h2' : undB l a i = true := bnf h2
        conv => lhs; whnf
        repeat ((first | with_reducible apply br_tt | with_reducible apply br_ff | with_reducible apply br_nf | with_reducible apply br_nt | with_reducible refine br_d ?_ (by kernel_rfl) | with_reducible apply br_t h | with_reducible apply br_f h); conv => lhs; whnf)
        refine (lq_l6Covers l hl a i ha (by omega) zs _ l.length _ 0 0 true rfl (Nat.zero_le _) rfl (by omega)).trans ?_
        have e : covS l a i = (true && allN (fun k => (((k : Int) == (a : Int)) || ((k : Int) == (i : Int))) || !undB l a k || !undB l k i) l.length 0) := by unfold covS; rw [h', h2']; rfl
        rw [← e]
        conv => lhs; whnf
        refine br_c (fun h3 => ?_) (fun h3 => ?_)
        · have h3' : covS l a i = true := h3
          conv => lhs; whnf
          refine br_t (dt (by simp [room]; omega)) ?_
          conv => lhs; whnf
          refine (hih _ (by simp; omega)).trans ?_
          rw [chsF, h3', cond_true]
          simp only [List.append_assoc]
          rfl
        · have h3' : covS l a i = false := h3
          conv => lhs; whnf
          refine (hih zs (by omega)).trans ?_
          rw [chsF, h3', cond_false]
theorem ev_l6Covers (l : List (Int × Int)) (a : Int) (hp : l.length ≤ 64 ∧ (0 ≤ a ∧ a < l.length) ∧ extsB l = true) : evF E_l6Covers (200) Tryz.f120 [.lst (.pair (.int .i64) (.int .i64)) l, .int .i64 a, .bool true] [] = some (.own 0, [.row 3 (.int .i64) (upL l a.toNat)]) := by
  obtain ⟨hl, ha, he⟩ := hp
  obtain ⟨j, rfl⟩ : ∃ j : Nat, a = j := ⟨a.toNat, by omega⟩
  rw [Int.toNat_natCast, upL_spec he (by omega)]
  conv => lhs; whnf
  refine (lp_l6Covers l hl j (by omega) _ l.length _ 0 0 [] rfl (Nat.zero_le _) rfl (by change _ < 199; omega) (Nat.le_refl _)).trans ?_
  conv => lhs; whnf
  rfl
theorem ok_l6Covers : FnOk Tryz.prog 120 K_l6Covers := by
  refine fn_ok (fn := Tryz.f120) (k := Tryz.f120.ntmps) (E := E_l6Covers) (facts_of (List.forall_mem_cons.2 ⟨ok_l6Exists, List.forall_mem_cons.2 ⟨ok_l6Sorted, List.forall_mem_nil _⟩⟩)) (by kernel_rfl) rfl (by decide +kernel) (by decide +kernel) ?_
  intro avs hin r h
  unfold K_l6Covers at h
  split at h
  · obtain ⟨hp, rfl⟩ := gd_o h
    exact ⟨_, ev_l6Covers _ _ hp, rfl⟩
  · cases h

/- spec.CountEdges -/
def K_specCountEdges : List AV → List Ob → Option (AV × List Ob)
  | [.agg [.int .i64 m, .lst (.int .i64) b]], [] => gd (b.length ≤ 1048576) (.int .i64 (edgF m b), [])
  | _, _ => none
@[reducible] def E_specCountEdges : Env := mkE (tb [(44, K_specConcepts), (120, K_l6Covers)]) (fun f => false) (fun r => bif r == 4 then ([3, 4, 5], [4]) else ([], []))
theorem lp_specCountEdges (l : List (Int × Int)) (hl : l.length ≤ 64) (he : extsB l = true) (k : AX → S → Option (AV × List Ob)) (d : Nat) : ∀ (n i : Nat) (x q : Int), l.length - i = d → i ≤ l.length → x = i → d < n →
    lpAt E_specCountEdges (lp E_specCountEdges 0 n) 0 (loopAt Tryz.f63 0) (mkS [3, 4, 5] [.own 0, .int .i64 q, .int .i64 x] [some (.row 65 (.pair (.int .i64) (.int .i64)) l)]) k =
      k (.exit 0) (mkS [4] [.int .i64 (edgL l d i q)] []) := by
  induction d with
  | zero =>
    intro n i x q hd hi hx hn
    subst hx
    rw [lpAt_def]
    conv => lhs; whnf
    refine br_f (df (by omega)) ?_
    conv => lhs; whnf
    rfl
  | succ d ih =>
    intro n i x q hd hi hx hn
    obtain ⟨n, rfl⟩ : ∃ m, n = m + 1 := ⟨n - 1, by omega⟩
    subst hx
    rw [lpAt_def]
    conv => lhs; whnf
    refine br_t (dt (by omega)) ?_
    conv => lhs; whnf
    conv => lhs; arg 1; whnf
    refine bnd_g (by exact ⟨hl, by omega, he⟩) ?_
    conv => lhs; whnf
    exact ih n (i + 1) (IntKind.i64.wrap ((i : Int) + 1)) _ (by omega) (by omega) (by rw [wrap64 (n := (i : Int) + 1) (by omega) (by omega)]; simp) (by omega)
theorem ev_specCountEdges (m : Int) (b : List Int) (hp : b.length ≤ 1048576) : evF E_specCountEdges (100) Tryz.f63 [.agg [.int .i64 m, .lst (.int .i64) b]] [] = some (.int .i64 (edgF m b), []) := by
  have hl := concF_len m b
  conv => lhs; whnf
  conv => lhs; arg 1; whnf
  refine bnd_g (by exact hp) ?_
  conv => lhs; whnf
  refine (lp_specCountEdges (concF m b) hl (conc_exts m b) _ (concF m b).length _ 0 0 0 rfl (by omega) rfl (by change _ < 99; omega)).trans ?_
  conv => lhs; whnf
  all_goals rfl
theorem ok_specCountEdges : FnOk Tryz.prog 63 K_specCountEdges := by
  refine fn_ok (fn := Tryz.f63) (k := Tryz.f63.ntmps) (E := E_specCountEdges) (facts_of (List.forall_mem_cons.2 ⟨ok_specConcepts, List.forall_mem_cons.2 ⟨ok_l6Covers, List.forall_mem_nil _⟩⟩)) (by kernel_rfl) rfl (by decide +kernel) (by decide +kernel) ?_
  intro avs hin r h
  unfold K_specCountEdges at h
  split at h
  · obtain ⟨hp, rfl⟩ := gd_o h
    exact ⟨_, ev_specCountEdges _ _ hp, rfl⟩
  · cases h

/- spec.CountConcepts -/
def K_specCountConcepts : List AV → List Ob → Option (AV × List Ob)
  | [.agg [.int .i64 m, .lst (.int .i64) a]], [] => gd (a.length ≤ 1048576) (.int .i64 ((concF m a).length : Int), [])
  | _, _ => none
@[reducible] def E_specCountConcepts : Env := mkE (tb [(44, K_specConcepts)]) (fun f => false) (fun r => ([], []))
theorem ev_specCountConcepts (m : Int) (a : List Int) (hp : a.length ≤ 1048576) : evF E_specCountConcepts (1) Tryz.f20 [.agg [.int .i64 m, .lst (.int .i64) a]] [] = some (.int .i64 ((concF m a).length : Int), []) := by
  conv => lhs; whnf
  conv => lhs; arg 1; whnf
  refine bnd_g (by exact hp) ?_
  conv => lhs; whnf
theorem ok_specCountConcepts : FnOk Tryz.prog 20 K_specCountConcepts := by
  refine fn_ok (fn := Tryz.f20) (k := Tryz.f20.ntmps) (E := E_specCountConcepts) (facts_of (List.forall_mem_cons.2 ⟨ok_specConcepts, List.forall_mem_nil _⟩)) (by kernel_rfl) rfl (by decide +kernel) (by decide +kernel) ?_
  intro avs hin r h
  unfold K_specCountConcepts at h
  split at h
  · obtain ⟨hp, rfl⟩ := gd_o h
    exact ⟨_, ev_specCountConcepts _ _ hp, rfl⟩
  · cases h

end Go.Sym
