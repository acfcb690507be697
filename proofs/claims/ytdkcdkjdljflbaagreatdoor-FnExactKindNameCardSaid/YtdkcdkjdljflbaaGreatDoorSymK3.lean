/- Functions of the program, each told as a plain equation. -/
import Derived.Test.YtdkcdkjdljflbaaGreatDoorSymK2
namespace Go.Sym
open Go.Proofs
set_option linter.unusedVariables false
set_option linter.unusedSimpArgs false
set_option maxRecDepth 100000
set_option maxHeartbeats 4000000

theorem firstI_same {α : Type} {p q : α → Bool} : ∀ (l : List α) (i : Int), (∀ x ∈ l, p x = q x) → firstI p l i = firstI q l i
  | [], _, _ => rfl
  | x :: l, i, h => by rw [firstI, firstI, h x (by simp), firstI_same l (i + 1) fun y hy => h y (by simp [hy])]
theorem clo_ext {m : Int} {b : List Int} (h : isCtx m b = true) {p q z : Int × Int} (hp : p ∈ concF m b) (hq : q ∈ concF m b) (hz : z ∈ concF m b) : (z.1 == band p.1 q.1) = (z.2 == intentF m b (band p.1 q.1)) := by
  obtain ⟨_, p2, p3, p4, p5⟩ := concF_mem hp
  obtain ⟨_, q2, q3, q4, q5⟩ := concF_mem hq
  obtain ⟨_, z2, z3, z4, z5⟩ := concF_mem hz
  have hl := isCtx_len h
  have hsm := ctx_small h
  have hpw := pow64 (n := m.toNat) (by omega)
  rw [Bool.eq_iff_iff, beq_iff_eq, beq_iff_eq]
  constructor
  · intro e
    rw [← z5, e]
  · intro e
    have p8 := isSet_8 p3
    have q8 := isSet_8 q3
    have e8 := isSet8_band p8 q8
    obtain ⟨i1, i2, i3⟩ := intentF_spec (m := m) ⟨hl.2.1, by omega⟩ hl.1 hsm e8
    obtain ⟨u, hu, hu'⟩ := isSet_ex p8
    obtain ⟨w, hw, hw'⟩ := isSet_ex q8
    have hu' : u < 256 := hu'
    have hw' : w < 256 := hw'
    have eb : band p.1 q.1 = ((u &&& w : Nat) : Int) := by rw [hu, hw, band_nat hu' hw']
    obtain ⟨v, hv, hv'⟩ := isSet_ex z2
    obtain ⟨s, hs, hs'⟩ := isSet_ex p2
    obtain ⟨t, ht, ht'⟩ := isSet_ex q2
    obtain ⟨x1, x2, x3⟩ := extF_spec hl.1 hsm (s := v) (by omega)
    obtain ⟨y1, y2, y3⟩ := extF_spec hl.1 hsm (s := s) (by omega)
    obtain ⟨w1, w2, w3⟩ := extF_spec hl.1 hsm (s := t) (by omega)
    obtain ⟨c1, c2, c3⟩ := intentF_spec (m := m) ⟨hl.2.1, by omega⟩ hl.1 hsm p8
    obtain ⟨d1, d2, d3⟩ := intentF_spec (m := m) ⟨hl.2.1, by omega⟩ hl.1 hsm q8
    rw [p5, hs, Int.toNat_natCast] at c3
    rw [q5, ht, Int.toNat_natCast] at d3
    rw [← e, hv, eb, Int.toNat_natCast, Int.toNat_natCast] at i3
    rw [← hs, ← p4, hu, Int.toNat_natCast] at y3
    rw [← ht, ← q4, hw, Int.toNat_natCast] at w3
    rw [hu, Int.toNat_natCast] at c3
    rw [hw, Int.toNat_natCast] at d3
    have hx : (extF b (v : Int)).toNat = u &&& w := by
      apply Nat.eq_of_testBit_eq
      intro k
      rw [Bool.eq_iff_iff, x3 k, Nat.testBit_and, Bool.and_eq_true]
      constructor
      · rintro ⟨g1, g2⟩
        refine ⟨(y3 k).2 ⟨g1, fun j hj => g2 j ?_⟩, (w3 k).2 ⟨g1, fun j hj => g2 j ?_⟩⟩
        · obtain ⟨r1, r2⟩ := (c3 j).1 hj
          exact (i3 j).2 ⟨r1, fun k' hk' hb => r2 k' hk' (by rw [Nat.testBit_and, Bool.and_eq_true] at hb; exact hb.1)⟩
        · obtain ⟨r1, r2⟩ := (d3 j).1 hj
          exact (i3 j).2 ⟨r1, fun k' hk' hb => r2 k' hk' (by rw [Nat.testBit_and, Bool.and_eq_true] at hb; exact hb.2)⟩
      · rintro ⟨g1, g2⟩
        have gk := ((y3 k).1 g1).1
        exact ⟨gk, fun j hj => ((i3 j).1 hj).2 k gk (by rw [Nat.testBit_and, g1, g2]; rfl)⟩
    rw [z4, hv, eb]
    omega
theorem mt_eq {m : Int} {b : List Int} {p q : Int × Int} (hp : p ∈ concF m b) (hq : q ∈ concF m b) : mtC (concF m b) p q = tabC m b (concF m b) true p q := by
  obtain ⟨h, _⟩ := concF_mem hp
  unfold mtC tabC
  exact firstI_same _ _ fun z hz => clo_ext h hp hq hz
theorem tab_mt (m : Int) (b : List Int) : (concF m b).map (fun p => (concF m b).map (mtC (concF m b) p)) = tabF m b true := by
  unfold tabF tabR
  exact List.map_congr_left fun p hp => List.map_congr_left fun q hq => mt_eq hp hq
/- impl.tables -/
def K_tablesF : List AV → List Ob → Option (AV × List Ob)
  | [.lst (.pair (.int .i64) (.int .i64)) l], [] => gd (l.length ≤ 64) (.tup [.lst (.lst (.int .i64)) (l.map fun p => l.map (mtC l p)), .lst (.lst (.int .i64)) (l.map fun p => l.map (jnC l p))], [])
  | _, _ => none
theorem ok_tablesF : FnOk Tryz.prog 160 K_tablesF := by
  refine FnOk.le (FnOk.frz ok_tables) (fun avs hin p h => ?_)
  unfold K_tablesF at h
  split at h
  · obtain ⟨hp, rfl⟩ := gd_o h
    refine Eq.trans (frz_s (K := K_tables) (p := ?p) ?hq) ?hr
    case hq => exact gd_s hp
    case hr => rfl
  · cases h

def posI (ys : List Int) (x : Int) : Nat → Nat
  | 0 => 0
  | p + 1 => bif decide (ys.getD p 0 > x) then posI ys x p else p + 1
def insI (ys : List Int) (x : Int) : List Int := ys.take (posI ys x ys.length) ++ x :: ys.drop (posI ys x ys.length)
def sortS : List Int → List Int → List Int
  | [], acc => acc
  | x :: r, acc => sortS r (insI acc x)
theorem posI_le (ys : List Int) (x : Int) : ∀ p, posI ys x p ≤ p
  | 0 => Nat.le_refl 0
  | p + 1 => by
    have := posI_le ys x p
    rw [posI]
    cases decide (ys.getD p 0 > x)
    · exact Nat.le_refl _
    · rw [cond_true]; omega
theorem posI_gt (ys : List Int) (x : Int) : ∀ p j, posI ys x p ≤ j → j < p → ys.getD j 0 > x
  | 0, j, _, h => by omega
  | p + 1, j, h1, h2 => by
    rw [posI] at h1
    cases hd : decide (ys.getD p 0 > x)
    · rw [hd, cond_false] at h1; omega
    · rw [hd, cond_true] at h1
      rcases Nat.lt_or_ge j p with h3 | h3
      · exact posI_gt ys x p j h1 h3
      · have : j = p := by omega
        subst this
        exact of_decide_eq_true hd
theorem posI_last (ys : List Int) (x : Int) : ∀ p, 0 < posI ys x p → ys.getD (posI ys x p - 1) 0 ≤ x
  | 0, h => by simp [posI] at h
  | p + 1, h => by
    rw [posI] at h ⊢
    cases hd : decide (ys.getD p 0 > x)
    · rw [cond_false, Nat.add_sub_cancel]
      have := of_decide_eq_false hd
      omega
    · rw [hd, cond_true] at h
      rw [cond_true]
      exact posI_last ys x p h
theorem insI_perm (ys : List Int) (x : Int) : (insI ys x).Perm (x :: ys) := by
  unfold insI
  refine List.perm_middle.trans ?_
  rw [List.take_append_drop]
theorem insI_sorted {ys : List Int} (h : ys.Pairwise (· ≤ ·)) (x : Int) : (insI ys x).Pairwise (· ≤ ·) := by
  have hp := posI_le ys x ys.length
  have hg := posI_gt ys x ys.length
  have hl := posI_last ys x ys.length
  unfold insI
  generalize posI ys x ys.length = p at hp hg hl
  rw [List.pairwise_append]
  have hle : ∀ a ∈ ys.take p, a ≤ x := by
    intro a ha
    obtain ⟨i, hi, rfl⟩ := List.mem_iff_getElem.1 ha
    rw [List.length_take] at hi
    have h0 := hl (by omega)
    rw [List.getElem_take]
    have e : ys.getD (p - 1) 0 = ys[p - 1] := by simp [List.getD, show p - 1 < ys.length by omega]
    rw [e] at h0
    rcases Nat.lt_or_ge i (p - 1) with h3 | h3
    · exact Int.le_trans (List.pairwise_iff_getElem.1 h i (p - 1) (by omega) (by omega) h3) h0
    · have : i = p - 1 := by omega
      subst this; exact h0
  have hge : ∀ b ∈ ys.drop p, x ≤ b := by
    intro b hb
    obtain ⟨i, hi, rfl⟩ := List.mem_iff_getElem.1 hb
    rw [List.length_drop] at hi
    have := hg (p + i) (by omega) (by omega)
    rw [List.getElem_drop]
    have e : ys.getD (p + i) 0 = ys[p + i] := by simp [List.getD, show p + i < ys.length by omega]
    omega
  refine ⟨h.sublist (List.take_sublist _ _), ?_, ?_⟩
  · rw [List.pairwise_cons]
    exact ⟨hge, h.sublist (List.drop_sublist _ _)⟩
  · intro a ha b hb
    rcases List.mem_cons.1 hb with rfl | hb
    · exact hle a ha
    · exact Int.le_trans (hle a ha) (hge b hb)
theorem sortS_sorted : ∀ (ys acc : List Int), acc.Pairwise (· ≤ ·) → (sortS ys acc).Pairwise (· ≤ ·) ∧ (sortS ys acc).Perm (ys ++ acc)
  | [], acc, h => ⟨h, List.Perm.refl _⟩
  | x :: r, acc, h => by
    obtain ⟨h1, h2⟩ := sortS_sorted r (insI acc x) (insI_sorted h x)
    refine ⟨h1, h2.trans ?_⟩
    refine ((insI_perm acc x).append_left r).trans ?_
    rw [List.cons_append]
    exact List.perm_middle
theorem sortS_eq (ys : List Int) : sortS ys [] = sortI ys := by
  obtain ⟨h1, h2⟩ := sortS_sorted ys [] List.Pairwise.nil
  rw [List.append_nil] at h2
  have h3 : (sortI ys).Pairwise (fun a b => decide (a ≤ b) = true) := List.pairwise_mergeSort (fun a b c h g => by simp at *; omega) (fun a b => by simp; omega) ys
  have h3 : (sortI ys).Pairwise (· ≤ ·) := h3.imp fun h => of_decide_eq_true h
  exact List.Perm.eq_of_pairwise (le := (· ≤ ·)) (fun a b _ _ h g => Int.le_antisymm h g) h1 h3 (h2.trans (List.mergeSort_perm ys _).symm)
theorem sortS_len (ys acc : List Int) (h : acc.Pairwise (· ≤ ·)) : (sortS ys acc).length = ys.length + acc.length := by
  rw [(sortS_sorted ys acc h).2.length_eq, List.length_append]
theorem insI_len (ys : List Int) (x : Int) : (insI ys x).length = ys.length + 1 := by
  rw [(insI_perm ys x).length_eq, List.length_cons]
def cofF (m : Int) (b : List Int) (a : Int) : Int × Int := bif inC (concF m b) a then elC (concF m b) a else (0, 0)
def stAt (m : Int) (b : List Int) (p : Int × Int) (s : Nat) : Bool := (band (s : Int) p.1 == (s : Int)) && (intentF m b (s : Int) == p.2)
def stNum (m : Int) (b : List Int) (p : Int × Int) : Int := sumB (stAt m b p) (p.1.toNat + 1) 0 0
def powC (s : Int) : Int := ((2 ^ (cntF s).toNat : Nat) : Int)
theorem cntF_rng (s : Int) : 0 ≤ cntF s ∧ cntF s ≤ 8 := by
  unfold cntF
  have := popF_le 8 s.toNat
  split <;> omega
theorem powC_shl (s : Int) : IntKind.i64.wrap (1 * 2 ^ min (cntF s).toNat IntKind.i64.bits) = powC s := by
  have h := cntF_rng s
  obtain ⟨n, hn⟩ : ∃ n : Nat, cntF s = n := ⟨(cntF s).toNat, by omega⟩
  unfold powC
  rw [hn]
  exact shl1 (by omega)
theorem powC_shlu (s : Int) : IntKind.i64.wrap (1 * 2 ^ min (IntKind.u64.wrap (cntF s)).toNat IntKind.i64.bits) = powC s := by
  have h := cntF_rng s
  rw [wrapu (by omega) (by omega)]
  exact powC_shl s
def stabF (m : Int) (b : List Int) (a : Int) : Int × Int := bif inC (concF m b) a then (stNum m b (elC (concF m b) a), powC (elC (concF m b) a).1) else (0, 0)
def stAt2 (m : Int) (b : List Int) (p : Int × Int) (s : Nat) : Bool := (bnot (s : Int) p.1 == 0) && (intentF m b (s : Int) == p.2)
theorem bnot_sub {s : Nat} {e : Int} (hs : s < 256) : (bnot (s : Int) e == 0) = (band (s : Int) e == (s : Int)) := by
  rw [Bool.eq_iff_iff, beq_iff_eq, beq_iff_eq]
  exact (sub_iff (by omega) (by omega)).symm
theorem stAt_eq {m : Int} {b : List Int} {p : Int × Int} {s : Nat} (hs : s < 256) : stAt2 m b p s = stAt m b p s := by
  unfold stAt2 stAt
  rw [bnot_sub hs]
theorem stAt_big {m : Int} {b : List Int} {p : Int × Int} (hp : 0 ≤ p.1 ∧ p.1 ≤ 255) {s : Nat} (hs : s < 256) (h : p.1.toNat + 1 ≤ s) : stAt m b p s = false := by
  unfold stAt
  have : (band (s : Int) p.1 == (s : Int)) = false := by
    rw [beq_eq_false_iff_ne]
    intro hb
    obtain ⟨n, hn⟩ : ∃ n : Nat, p.1 = n := ⟨p.1.toNat, by omega⟩
    rw [hn] at hb h hp
    rw [band_nat hs (by omega)] at hb
    have h1 : s &&& n ≤ n := Nat.and_le_right
    omega
  rw [this, Bool.false_and]
theorem sumB_grow {f : Nat → Bool} : ∀ (c d i : Nat) (q : Int), (∀ j, i + d ≤ j → j < i + d + c → f j = false) → sumB f (d + c) i q = sumB f d i q
  | 0, d, i, q, _ => rfl
  | c + 1, 0, i, q, h => by
    rw [Nat.zero_add, sumB, sumB, h i (by omega) (by omega), cond_false, Int.add_zero]
    have := sumB_grow (f := f) c 0 (i + 1) q fun j h1 h2 => h j (by omega) (by omega)
    rw [Nat.zero_add] at this
    exact this
  | c + 1, d + 1, i, q, h => by
    rw [show d + 1 + (c + 1) = (d + (c + 1)) + 1 by omega, sumB, sumB]
    exact sumB_grow (c + 1) d (i + 1) _ fun j h1 h2 => h j (by omega) (by omega)
theorem sumB_congr {f g : Nat → Bool} : ∀ (d i : Nat) (q : Int), (∀ j, i ≤ j → j < i + d → f j = g j) → sumB f d i q = sumB g d i q
  | 0, i, q, _ => rfl
  | d + 1, i, q, h => by
    rw [sumB, sumB, h i (Nat.le_refl _) (by omega)]
    exact sumB_congr d (i + 1) _ fun j h1 h2 => h j (by omega) (by omega)
theorem stNum_eq {m : Int} {b : List Int} {p : Int × Int} {n : Nat} (hn : n ≤ 8) (hp : 0 ≤ p.1 ∧ p.1.toNat < 2 ^ n) : sumB (stAt2 m b p) (2 ^ n) 0 0 = stNum m b p := by
  have h2 : 2 ^ n ≤ 2 ^ 8 := Nat.pow_le_pow_right (by omega) hn
  rw [sumB_congr (g := stAt m b p) _ _ _ fun j _ hj => stAt_eq (by omega)]
  obtain ⟨c, hc⟩ : ∃ c, 2 ^ n = p.1.toNat + 1 + c := ⟨2 ^ n - (p.1.toNat + 1), by omega⟩
  rw [hc]
  exact sumB_grow c _ 0 0 fun j h1 h3 => stAt_big ⟨hp.1, by omega⟩ (by omega) (by omega)
def undB (l : List (Int × Int)) (x a : Nat) : Bool := band (l.getD x (0, 0)).1 (l.getD a (0, 0)).1 == (l.getD x (0, 0)).1
def blwB (l : List (Int × Int)) (x a : Nat) : Bool := bnot (l.getD x (0, 0)).1 (l.getD a (0, 0)).1 == 0
def markR (f g : Nat → Bool) : Nat → Nat → Int → Int
  | 0, _, q => q
  | d + 1, i, q => markR f g d (i + 1) (q + 100 * (bif f i then 1 else 0) + (bif g i then 1 else 0))
theorem sumB_add (f : Nat → Bool) : ∀ (d i : Nat) (q : Int), sumB f d i q = q + sumB f d i 0
  | 0, i, q => by simp [sumB]
  | d + 1, i, q => by
    rw [sumB, sumB, sumB_add f d (i + 1) (q + bif f i then 1 else 0), sumB_add f d (i + 1) (0 + bif f i then 1 else 0)]
    omega
theorem markR_eq (f g : Nat → Bool) : ∀ (d i : Nat) (q : Int), markR f g d i q = q + 100 * sumB f d i 0 + sumB g d i 0
  | 0, i, q => by simp [markR, sumB]
  | d + 1, i, q => by
    rw [markR, markR_eq f g d (i + 1), sumB, sumB, sumB_add f d (i + 1) (0 + bif f i then 1 else 0), sumB_add g d (i + 1) (0 + bif g i then 1 else 0)]
    omega
def markAt (l : List (Int × Int)) (a : Nat) : Int := 100 * sumB (fun x => undB l x a) l.length 0 0 + sumB (fun x => undB l a x) l.length 0 0
def marksL (l : List (Int × Int)) : Nat → Nat → List Int
  | 0, _ => []
  | d + 1, a => markAt l a :: marksL l d (a + 1)
theorem marksL_len (l : List (Int × Int)) : ∀ (d a : Nat), (marksL l d a).length = d
  | 0, _ => rfl
  | d + 1, a => by rw [marksL, List.length_cons, marksL_len l d]
def chsF (f : Nat → Bool) : Nat → Nat → List Int
  | 0, _ => []
  | d + 1, i => bif f i then (i : Int) :: chsF f d (i + 1) else chsF f d (i + 1)
theorem chsF_len (f : Nat → Bool) : ∀ (d i : Nat), ((chsF f d i).length : Int) = sumB f d i 0
  | 0, i => rfl
  | d + 1, i => by
    have := chsF_len f d (i + 1)
    rw [chsF, sumB, sumB_add f d (i + 1)]
    cases f i
    · rw [cond_false, cond_false, this]; omega
    · rw [cond_true, cond_true, List.length_cons]; push_cast; omega
theorem chsF_le (f : Nat → Bool) : ∀ (d i : Nat), (chsF f d i).length ≤ d
  | 0, i => Nat.le_refl 0
  | d + 1, i => by
    have := chsF_le f d (i + 1)
    rw [chsF]
    cases f i
    · rw [cond_false]; omega
    · rw [cond_true, List.length_cons]; omega
def extsB (l : List (Int × Int)) : Bool := l.all (fun p => isSet 8 p.1)
theorem blw_und {l : List (Int × Int)} (h : extsB l = true) {x : Nat} (hx : x < l.length) (a : Nat) : blwB l x a = undB l x a := by
  unfold blwB undB
  have hs : isSet 8 (l.getD x (0, 0)).1 = true := List.all_eq_true.1 h _ (mem_getD hx)
  have hl := isSet_le hs
  have hn : (l.getD x (0, 0)).1 = (((l.getD x (0, 0)).1.toNat : Nat) : Int) := by omega
  rw [hn]
  exact bnot_sub (by omega)
def profF (m : Int) (b : List Int) : List Int := bif decide ((concF m b).length > 24) then [] else sortI (marksL (concF m b) (concF m b).length 0)
theorem profF_len (m : Int) (b : List Int) : (profF m b).length ≤ 64 := by
  have h := concF_len m b
  unfold profF
  cases decide ((concF m b).length > 24)
  · rw [cond_false, sortI_len, marksL_len]; exact h
  · exact Nat.zero_le _
theorem conc_exts (m : Int) (b : List Int) : extsB (concF m b) = true := by
  unfold extsB
  rw [List.all_eq_true]
  intro p hp
  obtain ⟨h1, h2, h3, h4, h5⟩ := concF_mem hp
  have := isSet_le h3
  rw [isSet8]
  exact dt ⟨by omega, by omega⟩
/- impl.inSet -/
def K_inSet : List AV → List Ob → Option (AV × List Ob)
  | [.int .i64 a, .int .i64 b], [] => gd (True) (.bool (bnot a b == 0), [])
  | _, _ => none
@[reducible] def E_inSet : Env := mkE (tb []) (fun f => false) (fun r => ([], []))
theorem ev_inSet (a b : Int) (hp : True) : evF E_inSet (1) Tryz.f91 [.int .i64 a, .int .i64 b] [] = some (.bool (bnot a b == 0), []) := by
  conv => lhs; whnf
  rfl
theorem ok_inSet : FnOk Tryz.prog 91 K_inSet := by
  refine fn_ok (fn := Tryz.f91) (k := Tryz.f91.ntmps) (E := E_inSet) (facts_of (List.forall_mem_nil _)) (by kernel_rfl) rfl (by decide +kernel) (by decide +kernel) ?_
  intro avs hin r h
  unfold K_inSet at h
  split at h
  · obtain ⟨hp, rfl⟩ := gd_o h
    exact ⟨_, ev_inSet _ _ hp, rfl⟩
  · cases h

/- (impl.lattice).below -/
def K_latBelow : List AV → List Ob → Option (AV × List Ob)
  | [.lst (.pair (.int .i64) (.int .i64)) l, .int .i64 x, .int .i64 y], [] => gd ((0 ≤ x ∧ x < l.length) ∧ (0 ≤ y ∧ y < l.length)) (.bool (blwB l x.toNat y.toNat), [])
  | _, _ => none
@[reducible] def E_latBelow : Env := mkE (tb [(91, K_inSet)]) (fun f => false) (fun r => ([], []))
theorem ev_latBelow (l : List (Int × Int)) (x y : Int) (hp : (0 ≤ x ∧ x < l.length) ∧ (0 ≤ y ∧ y < l.length)) : evF E_latBelow (1) Tryz.f131 [.lst (.pair (.int .i64) (.int .i64)) l, .int .i64 x, .int .i64 y] [] = some (.bool (blwB l x.toNat y.toNat), []) := by
  conv => lhs; whnf
  refine br_t (by exact dt2 hp.1.1 hp.1.2) ?_
  conv => lhs; whnf
  refine br_t (by exact dt2 hp.2.1 hp.2.2) ?_
  conv => lhs; whnf
  conv => lhs; arg 1; whnf
  refine bnd_g (by exact True.intro) ?_
  conv => lhs; whnf
  repeat ((first | with_reducible apply br_tt | with_reducible apply br_ff | with_reducible apply br_nf | with_reducible apply br_nt | with_reducible refine br_d ?_ (by kernel_rfl)); conv => lhs; whnf)
  rfl
theorem ok_latBelow : FnOk Tryz.prog 131 K_latBelow := by
  refine fn_ok (fn := Tryz.f131) (k := Tryz.f131.ntmps) (E := E_latBelow) (facts_of (List.forall_mem_cons.2 ⟨ok_inSet, List.forall_mem_nil _⟩)) (by kernel_rfl) rfl (by decide +kernel) (by decide +kernel) ?_
  intro avs hin r h
  unfold K_latBelow at h
  split at h
  · obtain ⟨hp, rfl⟩ := gd_o h
    exact ⟨_, ev_latBelow _ _ _ hp, rfl⟩
  · cases h

/- impl.Concepts -/
def K_implConF : List AV → List Ob → Option (AV × List Ob)
  | [.agg [.int .i64 m, .lst (.int .i64) a]], [] => gd (a.length ≤ 1048576) (.lst (.pair (.int .i64) (.int .i64)) (concF m a), [])
  | _, _ => none
theorem ok_implConF : FnOk Tryz.prog 109 K_implConF := by
  refine FnOk.le (FnOk.frz ok_implConcepts) (fun avs hin p h => ?_)
  unfold K_implConF at h
  split at h
  · obtain ⟨hp, rfl⟩ := gd_o h
    refine Eq.trans (frz_s (K := K_implConcepts) (p := ?p) ?hq) ?hr
    case hq => exact gd_s hp
    case hr => rfl
  · cases h

/- impl.distributes -/
def K_distributes : List AV → List Ob → Option (AV × List Ob)
  | [.agg [.int .i64 m, .lst (.int .i64) b], .bool below], [] => gd (b.length ≤ 8) (.bool (lawV m b (!below)), [])
  | _, _ => none
@[reducible] def E_distributes : Env := mkE (tb [(131, K_latBelow), (80, K_implIsContext), (109, K_implConF), (160, K_tablesF)]) (fun f => false) (fun r => bif r == 4 then ([1, 2, 5, 6, 7, 19, 20], [1, 2, 4, 5, 6, 7, 8, 9, 19, 20, 24, 25, 29, 30]) else bif r == 7 then ([1, 2, 5, 6, 7, 8, 19, 20, 24, 25], [1, 2, 4, 5, 6, 7, 8, 9, 19, 20, 24, 25, 29, 30]) else bif r == 10 then ([1, 2, 5, 6, 7, 8, 9, 19, 20, 24, 25, 29, 30], [1, 2, 4, 5, 6, 7, 8, 9, 19, 20, 24, 25, 29, 30]) else ([], []))
theorem bu_distributes {l : List (Int × Int)} (hs : ∀ p ∈ l, isSet 8 p.1 = true) {x a : Nat} (hx : x < l.length) : blwB l x a = underB (l.getD x (0, 0)) (l.getD a (0, 0)) :=
  (beq_bnot (hs _ (mem_getD (d := (0, 0)) hx))).symm
theorem lzt_distributes (m : Int) (b : List Int) (M J : List (List Int)) (l : List (Int × Int)) (hl : l.length ≤ 64) (hs : ∀ p ∈ l, isSet 8 p.1 = true) (hM : TabOk M l.length) (hJ : TabOk J l.length) (x y : Nat) (hx : x < l.length) (hy : y < l.length) (k : AX → S → Option (AV × List Ob)) (r : Option (AV × List Ob)) (hk : ∀ q : Int, k .ret (mkS [1, 2, 4, 5, 6, 7, 8, 9, 19, 20, 24, 25, 29, 30] [.bool true, .ptr 0 0, .bool false, .lst (.pair (.int .i64) (.int .i64)) l, .lst (.lst (.int .i64)) M, .lst (.lst (.int .i64)) J, .int .i64 (x : Int), .int .i64 (y : Int), .int .i64 l.length, .int .i64 (x : Int), .int .i64 l.length, .int .i64 (y : Int), .int .i64 l.length, .int .i64 q] [some (.box 26 [.int .i64 m, .lst (.int .i64) b])]) = r) (d : Nat) : ∀ (n i : Nat) (z : Int), l.length - i = d → i ≤ l.length → z = i → d < n →
    lpAt E_distributes (lp E_distributes 0 n) 0 (loopAt Tryz.f132 2) (mkS [1, 2, 5, 6, 7, 8, 9, 19, 20, 24, 25, 29, 30] [.bool true, .ptr 0 0, .lst (.pair (.int .i64) (.int .i64)) l, .lst (.lst (.int .i64)) M, .lst (.lst (.int .i64)) J, .int .i64 (x : Int), .int .i64 (y : Int), .int .i64 l.length, .int .i64 (x : Int), .int .i64 l.length, .int .i64 (y : Int), .int .i64 l.length, .int .i64 z] [some (.box 26 [.int .i64 m, .lst (.int .i64) b])]) k =
      if anyN (lawZ M J l false x y) i d then r
      else k (.exit 4) (mkS [1, 2, 4, 5, 6, 7, 8, 9, 19, 20, 24, 25, 29, 30] [.bool true, .ptr 0 0, .any, .lst (.pair (.int .i64) (.int .i64)) l, .lst (.lst (.int .i64)) M, .lst (.lst (.int .i64)) J, .int .i64 (x : Int), .int .i64 (y : Int), .int .i64 l.length, .int .i64 (x : Int), .int .i64 l.length, .int .i64 (y : Int), .int .i64 l.length, .int .i64 l.length] [some (.box 26 [.int .i64 m, .lst (.int .i64) b])]) := by
  induction d with
  | zero =>
    intro n i z hd hi hz hn
    subst hz
    rw [lpAt_def]
    conv => lhs; whnf
    refine br_f (df (by omega)) ?_
    conv => lhs; whnf
    have e : i = l.length := by omega
    rw [e]
    rfl
  | succ d ih =>
    intro n i z hd hi hz hn
    obtain ⟨n, rfl⟩ : ∃ m, n = m + 1 := ⟨n - 1, by omega⟩
    subst hz
    have hil : i < l.length := by omega
    obtain ⟨m0, hM⟩ := hM
    obtain ⟨j0, hJ⟩ := hJ
    obtain ⟨mx, hMx⟩ := hM x hx
    obtain ⟨jy, hJy⟩ := hJ y hy
    have mxy := hMx y hy
    have mxz := hMx i hil
    have jyz := hJy i hil
    obtain ⟨jm, _⟩ := hJ ((M.getD x []).getD y 0).toNat (by omega)
    have f1 : (i : Int) < ((J.getD y []).length : Int) := by omega
    have f2 : 0 ≤ (J.getD y []).getD i 0 := jyz.1
    have f2' : (J.getD y []).getD i 0 < ((M.getD x []).length : Int) := by omega
    have f3 : (y : Int) < ((M.getD x []).length : Int) := by omega
    have f4 : 0 ≤ (M.getD x []).getD y 0 := mxy.1
    have f4' : (M.getD x []).getD y 0 < (J.length : Int) := by omega
    have f5 : (i : Int) < ((M.getD x []).length : Int) := by omega
    have f6 : 0 ≤ (M.getD x []).getD i 0 := mxz.1
    have f6' : (M.getD x []).getD i 0 < ((J.getD ((M.getD x []).getD y 0).toNat []).length : Int) := by omega
    rw [lpAt_def]
    conv => lhs; whnf
    refine br_t (dt (by omega)) ?_
    conv => lhs; whnf
    repeat ((first | with_reducible apply br_tt | with_reducible apply br_ff | with_reducible apply br_nf | with_reducible apply br_nt | with_reducible refine br_d ?_ (by kernel_rfl) | with_reducible refine br_t (dt2 (by omega) (by omega)) ?_); conv => lhs; whnf)
    conv => lhs; arg 1; whnf
    refine bnd_g (by omega) ?_
    conv => lhs; whnf
    repeat ((first | with_reducible apply br_tt | with_reducible apply br_ff | with_reducible apply br_nf | with_reducible apply br_nt | with_reducible refine br_d ?_ (by kernel_rfl) | with_reducible refine br_t (dt2 (by omega) (by omega)) ?_); conv => lhs; whnf)
    refine br_c (fun g => ?_) (fun g => ?_)
    · conv => lhs; whnf
      repeat ((first | with_reducible apply br_tt | with_reducible apply br_ff | with_reducible apply br_nf | with_reducible apply br_nt | with_reducible refine br_d ?_ (by kernel_rfl) | with_reducible apply br_t g | with_reducible apply br_f g | with_reducible refine br_t (dt2 (by omega) (by omega)) ?_); conv => lhs; whnf)
      have hu : underB (l.getD i (0, 0)) (l.getD x (0, 0)) = false := (bu_distributes hs (x := i) (a := x) hil).symm.trans (bnt g)
      have e : anyN (lawZ M J l false x y) i (d + 1) = anyN (lawZ M J l false x y) (i + 1) d := by rw [anyN, lawZ, hu, Bool.false_or, Bool.false_and, Bool.false_or]
      rw [e]
      exact ih n (i + 1) _ (by omega) (by omega) (by rw [wrap64 (by omega) (by omega)]; simp) (by omega)
    · conv => lhs; whnf
      · repeat ((first | with_reducible apply br_tt | with_reducible apply br_ff | with_reducible apply br_nf | with_reducible apply br_nt | with_reducible refine br_d ?_ (by kernel_rfl) | with_reducible apply br_t g | with_reducible apply br_f g | with_reducible refine br_t (dt2 (by omega) (by omega)) ?_); conv => lhs; whnf)
        refine br_t (by exact dt2 (Int.natCast_nonneg _) f1) ?_
        conv => lhs; whnf
        repeat ((first | with_reducible apply br_tt | with_reducible apply br_ff | with_reducible apply br_nf | with_reducible apply br_nt | with_reducible refine br_d ?_ (by kernel_rfl) | with_reducible apply br_t g | with_reducible apply br_f g | with_reducible refine br_t (dt2 (by omega) (by omega)) ?_); conv => lhs; whnf)
        refine br_t (by exact dt2 f2 f2') ?_
        conv => lhs; whnf
        repeat ((first | with_reducible apply br_tt | with_reducible apply br_ff | with_reducible apply br_nf | with_reducible apply br_nt | with_reducible refine br_d ?_ (by kernel_rfl) | with_reducible apply br_t g | with_reducible apply br_f g | with_reducible refine br_t (dt2 (by omega) (by omega)) ?_); conv => lhs; whnf)
        refine br_t (by exact dt2 (Int.natCast_nonneg _) f3) ?_
        conv => lhs; whnf
        repeat ((first | with_reducible apply br_tt | with_reducible apply br_ff | with_reducible apply br_nf | with_reducible apply br_nt | with_reducible refine br_d ?_ (by kernel_rfl) | with_reducible apply br_t g | with_reducible apply br_f g | with_reducible refine br_t (dt2 (by omega) (by omega)) ?_); conv => lhs; whnf)
        refine br_t (by exact dt2 f4 f4') ?_
        conv => lhs; whnf
        repeat ((first | with_reducible apply br_tt | with_reducible apply br_ff | with_reducible apply br_nf | with_reducible apply br_nt | with_reducible refine br_d ?_ (by kernel_rfl) | with_reducible apply br_t g | with_reducible apply br_f g | with_reducible refine br_t (dt2 (by omega) (by omega)) ?_); conv => lhs; whnf)
        refine br_t (by exact dt2 (Int.natCast_nonneg _) f5) ?_
        conv => lhs; whnf
        repeat ((first | with_reducible apply br_tt | with_reducible apply br_ff | with_reducible apply br_nf | with_reducible apply br_nt | with_reducible refine br_d ?_ (by kernel_rfl) | with_reducible apply br_t g | with_reducible apply br_f g | with_reducible refine br_t (dt2 (by omega) (by omega)) ?_); conv => lhs; whnf)
        refine br_t (by exact dt2 f6 f6') ?_
        conv => lhs; whnf
        repeat ((first | with_reducible apply br_tt | with_reducible apply br_ff | with_reducible apply br_nf | with_reducible apply br_nt | with_reducible refine br_d ?_ (by kernel_rfl) | with_reducible apply br_t g | with_reducible apply br_f g | with_reducible refine br_t (dt2 (by omega) (by omega)) ?_); conv => lhs; whnf)
        have hu : underB (l.getD i (0, 0)) (l.getD x (0, 0)) = true := (bu_distributes hs (x := i) (a := x) hil).symm.trans (bnf g)
        refine br_c (fun h => ?_) (fun h => ?_)
        · conv => lhs; whnf
          have h' : ((M.getD x []).getD ((J.getD y []).getD i 0).toNat 0 != (J.getD ((M.getD x []).getD y 0).toNat []).getD ((M.getD x []).getD i 0).toNat 0) = true := h
          rw [if_pos (by rw [anyN, lawZ, h', hu]; rfl)]
          exact hk _
        · conv => lhs; whnf
          have h' : ((M.getD x []).getD ((J.getD y []).getD i 0).toNat 0 != (J.getD ((M.getD x []).getD y 0).toNat []).getD ((M.getD x []).getD i 0).toNat 0) = false := h
          have e : anyN (lawZ M J l false x y) i (d + 1) = anyN (lawZ M J l false x y) (i + 1) d := by rw [anyN, lawZ, h', Bool.and_false, Bool.false_or]
          rw [e]
          exact ih n (i + 1) _ (by omega) (by omega) (by rw [wrap64 (by omega) (by omega)]; simp) (by omega)
theorem lzf_distributes (m : Int) (b : List Int) (M J : List (List Int)) (l : List (Int × Int)) (hl : l.length ≤ 64) (hs : ∀ p ∈ l, isSet 8 p.1 = true) (hM : TabOk M l.length) (hJ : TabOk J l.length) (x y : Nat) (hx : x < l.length) (hy : y < l.length) (k : AX → S → Option (AV × List Ob)) (r : Option (AV × List Ob)) (hk : ∀ q : Int, k .ret (mkS [1, 2, 4, 5, 6, 7, 8, 9, 19, 20, 24, 25, 29, 30] [.bool false, .ptr 0 0, .bool false, .lst (.pair (.int .i64) (.int .i64)) l, .lst (.lst (.int .i64)) M, .lst (.lst (.int .i64)) J, .int .i64 (x : Int), .int .i64 (y : Int), .int .i64 l.length, .int .i64 (x : Int), .int .i64 l.length, .int .i64 (y : Int), .int .i64 l.length, .int .i64 q] [some (.box 26 [.int .i64 m, .lst (.int .i64) b])]) = r) (d : Nat) : ∀ (n i : Nat) (z : Int), l.length - i = d → i ≤ l.length → z = i → d < n →
    lpAt E_distributes (lp E_distributes 0 n) 0 (loopAt Tryz.f132 2) (mkS [1, 2, 5, 6, 7, 8, 9, 19, 20, 24, 25, 29, 30] [.bool false, .ptr 0 0, .lst (.pair (.int .i64) (.int .i64)) l, .lst (.lst (.int .i64)) M, .lst (.lst (.int .i64)) J, .int .i64 (x : Int), .int .i64 (y : Int), .int .i64 l.length, .int .i64 (x : Int), .int .i64 l.length, .int .i64 (y : Int), .int .i64 l.length, .int .i64 z] [some (.box 26 [.int .i64 m, .lst (.int .i64) b])]) k =
      if anyN (lawZ M J l true x y) i d then r
      else k (.exit 4) (mkS [1, 2, 4, 5, 6, 7, 8, 9, 19, 20, 24, 25, 29, 30] [.bool false, .ptr 0 0, .any, .lst (.pair (.int .i64) (.int .i64)) l, .lst (.lst (.int .i64)) M, .lst (.lst (.int .i64)) J, .int .i64 (x : Int), .int .i64 (y : Int), .int .i64 l.length, .int .i64 (x : Int), .int .i64 l.length, .int .i64 (y : Int), .int .i64 l.length, .int .i64 l.length] [some (.box 26 [.int .i64 m, .lst (.int .i64) b])]) := by
  induction d with
  | zero =>
    intro n i z hd hi hz hn
    subst hz
    rw [lpAt_def]
    conv => lhs; whnf
    refine br_f (df (by omega)) ?_
    conv => lhs; whnf
    have e : i = l.length := by omega
    rw [e]
    rfl
  | succ d ih =>
    intro n i z hd hi hz hn
    obtain ⟨n, rfl⟩ : ∃ m, n = m + 1 := ⟨n - 1, by omega⟩
    subst hz
    have hil : i < l.length := by omega
    obtain ⟨m0, hM⟩ := hM
    obtain ⟨j0, hJ⟩ := hJ
    obtain ⟨mx, hMx⟩ := hM x hx
    obtain ⟨jy, hJy⟩ := hJ y hy
    have mxy := hMx y hy
    have mxz := hMx i hil
    have jyz := hJy i hil
    obtain ⟨jm, _⟩ := hJ ((M.getD x []).getD y 0).toNat (by omega)
    have f1 : (i : Int) < ((J.getD y []).length : Int) := by omega
    have f2 : 0 ≤ (J.getD y []).getD i 0 := jyz.1
    have f2' : (J.getD y []).getD i 0 < ((M.getD x []).length : Int) := by omega
    have f3 : (y : Int) < ((M.getD x []).length : Int) := by omega
    have f4 : 0 ≤ (M.getD x []).getD y 0 := mxy.1
    have f4' : (M.getD x []).getD y 0 < (J.length : Int) := by omega
    have f5 : (i : Int) < ((M.getD x []).length : Int) := by omega
    have f6 : 0 ≤ (M.getD x []).getD i 0 := mxz.1
    have f6' : (M.getD x []).getD i 0 < ((J.getD ((M.getD x []).getD y 0).toNat []).length : Int) := by omega
    rw [lpAt_def]
    conv => lhs; whnf
    refine br_t (dt (by omega)) ?_
    conv => lhs; whnf
    · have g : True := True.intro
      · repeat ((first | with_reducible apply br_tt | with_reducible apply br_ff | with_reducible apply br_nf | with_reducible apply br_nt | with_reducible refine br_d ?_ (by kernel_rfl) | with_reducible refine br_t (dt2 (by omega) (by omega)) ?_); conv => lhs; whnf)
        refine br_t (by exact dt2 (Int.natCast_nonneg _) f1) ?_
        conv => lhs; whnf
        repeat ((first | with_reducible apply br_tt | with_reducible apply br_ff | with_reducible apply br_nf | with_reducible apply br_nt | with_reducible refine br_d ?_ (by kernel_rfl) | with_reducible refine br_t (dt2 (by omega) (by omega)) ?_); conv => lhs; whnf)
        refine br_t (by exact dt2 f2 f2') ?_
        conv => lhs; whnf
        repeat ((first | with_reducible apply br_tt | with_reducible apply br_ff | with_reducible apply br_nf | with_reducible apply br_nt | with_reducible refine br_d ?_ (by kernel_rfl) | with_reducible refine br_t (dt2 (by omega) (by omega)) ?_); conv => lhs; whnf)
        refine br_t (by exact dt2 (Int.natCast_nonneg _) f3) ?_
        conv => lhs; whnf
        repeat ((first | with_reducible apply br_tt | with_reducible apply br_ff | with_reducible apply br_nf | with_reducible apply br_nt | with_reducible refine br_d ?_ (by kernel_rfl) | with_reducible refine br_t (dt2 (by omega) (by omega)) ?_); conv => lhs; whnf)
        refine br_t (by exact dt2 f4 f4') ?_
        conv => lhs; whnf
        repeat ((first | with_reducible apply br_tt | with_reducible apply br_ff | with_reducible apply br_nf | with_reducible apply br_nt | with_reducible refine br_d ?_ (by kernel_rfl) | with_reducible refine br_t (dt2 (by omega) (by omega)) ?_); conv => lhs; whnf)
        refine br_t (by exact dt2 (Int.natCast_nonneg _) f5) ?_
        conv => lhs; whnf
        repeat ((first | with_reducible apply br_tt | with_reducible apply br_ff | with_reducible apply br_nf | with_reducible apply br_nt | with_reducible refine br_d ?_ (by kernel_rfl) | with_reducible refine br_t (dt2 (by omega) (by omega)) ?_); conv => lhs; whnf)
        refine br_t (by exact dt2 f6 f6') ?_
        conv => lhs; whnf
        repeat ((first | with_reducible apply br_tt | with_reducible apply br_ff | with_reducible apply br_nf | with_reducible apply br_nt | with_reducible refine br_d ?_ (by kernel_rfl) | with_reducible refine br_t (dt2 (by omega) (by omega)) ?_); conv => lhs; whnf)
        refine br_c (fun h => ?_) (fun h => ?_)
        · conv => lhs; whnf
          have h' : ((M.getD x []).getD ((J.getD y []).getD i 0).toNat 0 != (J.getD ((M.getD x []).getD y 0).toNat []).getD ((M.getD x []).getD i 0).toNat 0) = true := h
          rw [if_pos (by rw [anyN, lawZ, h']; rfl)]
          exact hk _
        · conv => lhs; whnf
          have h' : ((M.getD x []).getD ((J.getD y []).getD i 0).toNat 0 != (J.getD ((M.getD x []).getD y 0).toNat []).getD ((M.getD x []).getD i 0).toNat 0) = false := h
          have e : anyN (lawZ M J l true x y) i (d + 1) = anyN (lawZ M J l true x y) (i + 1) d := by rw [anyN, lawZ, h', Bool.and_false, Bool.false_or]
          rw [e]
          exact ih n (i + 1) _ (by omega) (by omega) (by rw [wrap64 (by omega) (by omega)]; simp) (by omega)
theorem lz_distributes (m : Int) (b : List Int) (M J : List (List Int)) (l : List (Int × Int)) (hl : l.length ≤ 64) (hs : ∀ p ∈ l, isSet 8 p.1 = true) (hM : TabOk M l.length) (hJ : TabOk J l.length) (below : Bool) (x y : Nat) (hx : x < l.length) (hy : y < l.length) (k : AX → S → Option (AV × List Ob)) (r : Option (AV × List Ob)) (hk : ∀ q : Int, k .ret (mkS [1, 2, 4, 5, 6, 7, 8, 9, 19, 20, 24, 25, 29, 30] [.bool below, .ptr 0 0, .bool false, .lst (.pair (.int .i64) (.int .i64)) l, .lst (.lst (.int .i64)) M, .lst (.lst (.int .i64)) J, .int .i64 (x : Int), .int .i64 (y : Int), .int .i64 l.length, .int .i64 (x : Int), .int .i64 l.length, .int .i64 (y : Int), .int .i64 l.length, .int .i64 q] [some (.box 26 [.int .i64 m, .lst (.int .i64) b])]) = r) (d : Nat) : ∀ (n i : Nat) (z : Int), l.length - i = d → i ≤ l.length → z = i → d < n →
    lpAt E_distributes (lp E_distributes 0 n) 0 (loopAt Tryz.f132 2) (mkS [1, 2, 5, 6, 7, 8, 9, 19, 20, 24, 25, 29, 30] [.bool below, .ptr 0 0, .lst (.pair (.int .i64) (.int .i64)) l, .lst (.lst (.int .i64)) M, .lst (.lst (.int .i64)) J, .int .i64 (x : Int), .int .i64 (y : Int), .int .i64 l.length, .int .i64 (x : Int), .int .i64 l.length, .int .i64 (y : Int), .int .i64 l.length, .int .i64 z] [some (.box 26 [.int .i64 m, .lst (.int .i64) b])]) k =
      if anyN (lawZ M J l (!below) x y) i d then r
      else k (.exit 4) (mkS [1, 2, 4, 5, 6, 7, 8, 9, 19, 20, 24, 25, 29, 30] [.bool below, .ptr 0 0, .any, .lst (.pair (.int .i64) (.int .i64)) l, .lst (.lst (.int .i64)) M, .lst (.lst (.int .i64)) J, .int .i64 (x : Int), .int .i64 (y : Int), .int .i64 l.length, .int .i64 (x : Int), .int .i64 l.length, .int .i64 (y : Int), .int .i64 l.length, .int .i64 l.length] [some (.box 26 [.int .i64 m, .lst (.int .i64) b])]) := by
  cases below with
  | true => exact lzt_distributes m b M J l hl hs hM hJ x y hx hy k r hk d
  | false => exact lzf_distributes m b M J l hl hs hM hJ x y hx hy k r hk d
theorem ly_distributes (m : Int) (b : List Int) (M J : List (List Int)) (l : List (Int × Int)) (hl : l.length ≤ 64) (hs : ∀ p ∈ l, isSet 8 p.1 = true) (hM : TabOk M l.length) (hJ : TabOk J l.length) (below : Bool) (x : Nat) (hx : x < l.length) (k : AX → S → Option (AV × List Ob)) (r : Option (AV × List Ob)) (hk : ∀ q p p' s t : Int, k .ret (mkS [1, 2, 4, 5, 6, 7, 8, 9, 19, 20, 24, 25, 29, 30] [.bool below, .ptr 0 0, .bool false, .lst (.pair (.int .i64) (.int .i64)) l, .lst (.lst (.int .i64)) M, .lst (.lst (.int .i64)) J, .int .i64 (x : Int), .int .i64 q, .int .i64 l.length, .int .i64 (x : Int), .int .i64 l.length, .int .i64 p, .int .i64 l.length, .int .i64 s] [some (.box 26 [.int .i64 m, .lst (.int .i64) b])]) = r) (d : Nat) : ∀ (n i : Nat) (z : Int), l.length - i = d → i ≤ l.length → z = i → d + 100 < n →
    lpAt E_distributes (lp E_distributes 0 n) 0 (loopAt Tryz.f132 1) (mkS [1, 2, 5, 6, 7, 8, 19, 20, 24, 25] [.bool below, .ptr 0 0, .lst (.pair (.int .i64) (.int .i64)) l, .lst (.lst (.int .i64)) M, .lst (.lst (.int .i64)) J, .int .i64 (x : Int), .int .i64 l.length, .int .i64 (x : Int), .int .i64 l.length, .int .i64 z] [some (.box 26 [.int .i64 m, .lst (.int .i64) b])]) k =
      if anyN (fun y => anyN (lawZ M J l (!below) x y) 0 l.length) i d then r
      else k (.exit 2) (mkS [1, 2, 4, 5, 6, 7, 8, 9, 19, 20, 24, 25, 29, 30] [.bool below, .ptr 0 0, .any, .lst (.pair (.int .i64) (.int .i64)) l, .lst (.lst (.int .i64)) M, .lst (.lst (.int .i64)) J, .int .i64 (x : Int), .any, .int .i64 l.length, .int .i64 (x : Int), .int .i64 l.length, .int .i64 l.length, .any, .any] [some (.box 26 [.int .i64 m, .lst (.int .i64) b])]) := by
  induction d with
  | zero =>
    intro n i z hd hi hz hn
    subst hz
    rw [lpAt_def]
    conv => lhs; whnf
    refine br_f (df (by omega)) ?_
    conv => lhs; whnf
    have e : i = l.length := by omega
    rw [e]
    rfl
  | succ d ih =>
    intro n i z hd hi hz hn
    obtain ⟨n, rfl⟩ : ∃ m, n = m + 1 := ⟨n - 1, by omega⟩
    subst hz
    rw [lpAt_def]
    conv => lhs; whnf
    refine br_t (dt (by omega)) ?_
    conv => lhs; whnf
    refine (lz_distributes m b M J l hl hs hM hJ below x i hx (by omega) _ r ?_ l.length _ 0 0 rfl (by omega) rfl (by omega)).trans ?_
    · intro q
      conv => lhs; whnf
      exact hk (i : Int) (i : Int) 0 q 0
    refine Or.elim (Classical.em (anyN (lawZ M J l (!below) x i) 0 l.length = true)) (fun h => ?_) (fun h => ?_)
    · have e : anyN (fun y => anyN (lawZ M J l (!below) x y) 0 l.length) i (d + 1) = true := by rw [anyN, h, Bool.true_or]
      rw [if_pos h, if_pos e]
    · have h' : anyN (lawZ M J l (!below) x i) 0 l.length = false := by simpa using h
      have e : anyN (fun y => anyN (lawZ M J l (!below) x y) 0 l.length) i (d + 1) = anyN (fun y => anyN (lawZ M J l (!below) x y) 0 l.length) (i + 1) d := by rw [anyN, h', Bool.false_or]
      rw [if_neg h, e]
      conv => lhs; whnf
      exact ih n (i + 1) _ (by omega) (by omega) (by rw [wrap64 (by omega) (by omega)]; simp) (by omega)
theorem lx_distributes (m : Int) (b : List Int) (M J : List (List Int)) (l : List (Int × Int)) (hl : l.length ≤ 64) (hs : ∀ p ∈ l, isSet 8 p.1 = true) (hM : TabOk M l.length) (hJ : TabOk J l.length) (below : Bool) (k : AX → S → Option (AV × List Ob)) (r : Option (AV × List Ob)) (hk : ∀ q p s t u : Int, k .ret (mkS [1, 2, 4, 5, 6, 7, 8, 9, 19, 20, 24, 25, 29, 30] [.bool below, .ptr 0 0, .bool false, .lst (.pair (.int .i64) (.int .i64)) l, .lst (.lst (.int .i64)) M, .lst (.lst (.int .i64)) J, .int .i64 q, .int .i64 p, .int .i64 l.length, .int .i64 s, .int .i64 l.length, .int .i64 t, .int .i64 l.length, .int .i64 u] [some (.box 26 [.int .i64 m, .lst (.int .i64) b])]) = r) (d : Nat) : ∀ (n i : Nat) (z : Int), l.length - i = d → i ≤ l.length → z = i → d + 200 < n →
    lpAt E_distributes (lp E_distributes 0 n) 0 (loopAt Tryz.f132 0) (mkS [1, 2, 5, 6, 7, 19, 20] [.bool below, .ptr 0 0, .lst (.pair (.int .i64) (.int .i64)) l, .lst (.lst (.int .i64)) M, .lst (.lst (.int .i64)) J, .int .i64 l.length, .int .i64 z] [some (.box 26 [.int .i64 m, .lst (.int .i64) b])]) k =
      if anyN (fun x => anyN (fun y => anyN (lawZ M J l (!below) x y) 0 l.length) 0 l.length) i d then r
      else k (.exit 0) (mkS [1, 2, 4, 5, 6, 7, 8, 9, 19, 20, 24, 25, 29, 30] [.bool below, .ptr 0 0, .any, .lst (.pair (.int .i64) (.int .i64)) l, .lst (.lst (.int .i64)) M, .lst (.lst (.int .i64)) J, .any, .any, .int .i64 l.length, .int .i64 l.length, .any, .any, .any, .any] [some (.box 26 [.int .i64 m, .lst (.int .i64) b])]) := by
  induction d with
  | zero =>
    intro n i z hd hi hz hn
    subst hz
    rw [lpAt_def]
    conv => lhs; whnf
    refine br_f (df (by omega)) ?_
    conv => lhs; whnf
    have e : i = l.length := by omega
    rw [e]
    rfl
  | succ d ih =>
    intro n i z hd hi hz hn
    obtain ⟨n, rfl⟩ : ∃ m, n = m + 1 := ⟨n - 1, by omega⟩
    subst hz
    rw [lpAt_def]
    conv => lhs; whnf
    refine br_t (dt (by omega)) ?_
    conv => lhs; whnf
    refine (ly_distributes m b M J l hl hs hM hJ below i (by omega) _ r ?_ l.length _ 0 0 rfl (by omega) rfl (by omega)).trans ?_
    · intro q p p' s t
      conv => lhs; whnf
      exact hk (i : Int) q (i : Int) p s
    refine Or.elim (Classical.em (anyN (fun y => anyN (lawZ M J l (!below) i y) 0 l.length) 0 l.length = true)) (fun h => ?_) (fun h => ?_)
    · have e : anyN (fun x => anyN (fun y => anyN (lawZ M J l (!below) x y) 0 l.length) 0 l.length) i (d + 1) = true := by rw [anyN, h, Bool.true_or]
      rw [if_pos h, if_pos e]
    · have h' : anyN (fun y => anyN (lawZ M J l (!below) i y) 0 l.length) 0 l.length = false := by simpa using h
      have e : anyN (fun x => anyN (fun y => anyN (lawZ M J l (!below) x y) 0 l.length) 0 l.length) i (d + 1) = anyN (fun x => anyN (fun y => anyN (lawZ M J l (!below) x y) 0 l.length) 0 l.length) (i + 1) d := by rw [anyN, h', Bool.false_or]
      rw [if_neg h, e]
      conv => lhs; whnf
      exact ih n (i + 1) _ (by omega) (by omega) (by rw [wrap64 (by omega) (by omega)]; simp) (by omega)
theorem ev_distributes (m : Int) (b : List Int) (below : Bool) (hp : b.length ≤ 8) : evF E_distributes ((concF m b).length + 400) Tryz.f132 [.agg [.int .i64 m, .lst (.int .i64) b], .bool below] [] = some (.bool (lawV m b (!below)), []) := by
  have hl := concF_len m b
  have hs : ∀ p ∈ concF m b, isSet 8 p.1 = true := fun p h => isSet_8 (concF_mem h).2.2.1
  have hM : TabOk (tabF m b true) (concF m b).length := tab_ok m b true
  have hJ : TabOk (tabF m b false) (concF m b).length := tab_ok m b false
  have eM : (concF m b).map (fun p => (concF m b).map (mtC (concF m b) p)) = tabF m b true := tab_mt m b
  have eJ : (concF m b).map (fun p => (concF m b).map (jnC (concF m b) p)) = tabF m b false := rfl
  conv => lhs; whnf
  conv => lhs; arg 1; whnf
  refine bnd_g (by omega) ?_
  conv => lhs; whnf
  conv => lhs; arg 1; whnf
  refine bnd_g (by exact hl) ?_
  conv => lhs; whnf
  rw [eM, eJ]
  refine (lx_distributes m b (tabF m b true) (tabF m b false) (concF m b) hl hs hM hJ below _ (some (.bool false, [])) ?_ (concF m b).length _ 0 0 rfl (by omega) rfl (by omega)).trans ?_
  · intro q p s t u
    conv => lhs; whnf
  unfold lawV
  refine Or.elim (Classical.em (lawX (tabF m b true) (tabF m b false) (concF m b) (!below) = true)) (fun h => ?_) (fun h => ?_)
  · rw [h]
    exact if_pos h
  · have h' : lawX (tabF m b true) (tabF m b false) (concF m b) (!below) = false := by simpa using h
    rw [h']
    refine (if_neg h).trans ?_
    conv => lhs; whnf
    conv => lhs; arg 1; whnf
    refine bnd_g (by omega) ?_
    conv => lhs; whnf
    rfl
theorem ok_distributes : FnOk Tryz.prog 132 K_distributes := by
  refine fn_ok (fn := Tryz.f132) (k := Tryz.f132.ntmps) (E := E_distributes) (facts_of (List.forall_mem_cons.2 ⟨ok_latBelow, List.forall_mem_cons.2 ⟨ok_implIsContext, List.forall_mem_cons.2 ⟨ok_implConF, List.forall_mem_cons.2 ⟨ok_tablesF, List.forall_mem_nil _⟩⟩⟩⟩)) (by kernel_rfl) rfl (by decide +kernel) (by decide +kernel) ?_
  intro avs hin r h
  unfold K_distributes at h
  split at h
  · obtain ⟨hp, rfl⟩ := gd_o h
    exact ⟨_, ev_distributes _ _ _ hp, rfl⟩
  · cases h

end Go.Sym
