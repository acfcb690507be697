/- Functions of the program, each told as a plain equation. -/
import Derived.Test.YtdkcdkjdljflbaaGreatDoorSymO1
namespace Go.Sym
open Go.Proofs
set_option linter.unusedVariables false
set_option linter.unusedSimpArgs false
set_option maxRecDepth 100000
set_option maxHeartbeats 4000000

theorem bnotSub {p s : Int} (hp : 0 ≤ p ∧ p ≤ 255) (hs : 0 ≤ s ∧ s ≤ 255) : (bnot p s == 0) = true ↔ SubN p.toNat s.toNat := by
  obtain ⟨p, rfl⟩ : ∃ n : Nat, p = n := ⟨p.toNat, by omega⟩
  obtain ⟨s, rfl⟩ : ∃ n : Nat, s = n := ⟨s.toNat, by omega⟩
  rw [bnot_sub (by omega), beq_iff_eq, band_nat (by omega) (by omega), Int.toNat_natCast, Int.toNat_natCast, ← and_sub, beq_iff_eq]
  omega
theorem bandSub {p s : Int} (hp : 0 ≤ p ∧ p ≤ 255) (hs : 0 ≤ s ∧ s ≤ 255) : (band p s == p) = true ↔ SubN p.toNat s.toNat := by
  rw [← bnotSub hp hs]
  obtain ⟨p, rfl⟩ : ∃ n : Nat, p = n := ⟨p.toNat, by omega⟩
  rw [bnot_sub (by omega)]
theorem borSet {x y : Int} (hx : 0 ≤ x ∧ x ≤ 255) (hy : 0 ≤ y ∧ y ≤ 255) : (0 ≤ bor x y ∧ bor x y ≤ 255) ∧ (bor x y).toNat = x.toNat ||| y.toNat := by
  obtain ⟨x, rfl⟩ : ∃ n : Nat, x = n := ⟨x.toNat, by omega⟩
  obtain ⟨y, rfl⟩ : ∃ n : Nat, y = n := ⟨y.toNat, by omega⟩
  rw [bor_nat (by omega) (by omega)]
  have h : x ||| y < 2 ^ 8 := Nat.or_lt_two_pow (by omega) (by omega)
  exact ⟨⟨by omega, by omega⟩, rfl⟩
theorem sub_refl (x : Nat) : SubN x x := fun _ h => h
theorem sub_trans {x y z : Nat} (h : SubN x y) (g : SubN y z) : SubN x z := fun i hi => g i (h i hi)
theorem sub_anti {x y : Nat} (h : SubN x y) (g : SubN y x) : x = y := by
  apply Nat.eq_of_testBit_eq
  intro i
  rw [Bool.eq_iff_iff]
  exact ⟨h i, g i⟩
theorem sub_or {x y z : Nat} : SubN (x ||| y) z ↔ SubN x z ∧ SubN y z := by
  constructor
  · intro h
    exact ⟨fun i hi => h i (by rw [Nat.testBit_or, hi, Bool.true_or]), fun i hi => h i (by rw [Nat.testBit_or, hi, Bool.or_true])⟩
  · rintro ⟨h, g⟩ i hi
    rw [Nat.testBit_or, Bool.or_eq_true] at hi
    exact hi.elim (h i) (g i)
theorem sub_or_l (x y : Nat) : SubN x (x ||| y) := fun i hi => by rw [Nat.testBit_or, hi, Bool.true_or]
theorem sub_or_r (x y : Nat) : SubN y (x ||| y) := fun i hi => by rw [Nat.testBit_or, hi, Bool.or_true]
theorem sub_leN {x y : Nat} (h : SubN x y) : x ≤ y := by
  have := and_sub.2 h
  rw [beq_iff_eq] at this
  rw [← this]
  exact Nat.and_le_right
theorem sub_ltN {x y : Nat} (h : SubN x y) (hn : x ≠ y) : x < y := by
  have := sub_leN h
  omega
def RSet (R : List (Int × Int)) : Prop := ∀ r ∈ R, (0 ≤ r.1 ∧ r.1 ≤ 255) ∧ (0 ≤ r.2 ∧ r.2 ≤ 255)
theorem RSet_bad {R : List (Int × Int)} (h : RSet R) : R.any badR = false := by
  rw [List.any_eq_false]
  intro r hr
  have := h r hr
  unfold badR
  rw [isSet8, isSet8, dt this.1, dt this.2]
  decide
theorem RSet_of {R : List (Int × Int)} (h : R.any badR = false) : RSet R := by
  rw [List.any_eq_false] at h
  intro r hr
  have := h r hr
  unfold badR at this
  rw [isSet8, isSet8] at this
  simpa using this
def oneL (s : Int) : List (Int × Int) → Int → Int
  | [], acc => acc
  | r :: R, acc => oneL s R (bif bnot r.1 s == 0 then bor acc r.2 else acc)
def iterR (R : List (Int × Int)) : Nat → Int → Int
  | 0, s => s
  | d + 1, s => bif oneL s R s == s then s else iterR R d (oneL s R s)
def clR (R : List (Int × Int)) (s : Int) : Int := iterR R 256 s
def Resp (R : List (Int × Int)) (t : Nat) : Prop := ∀ r ∈ R, SubN r.1.toNat t → SubN r.2.toNat t
structure IsCl (R : List (Int × Int)) (s c : Int) : Prop where
  rng : 0 ≤ c ∧ c ≤ 255
  ext : SubN s.toNat c.toNat
  resp : Resp R c.toNat
  least : ∀ t, SubN s.toNat t → Resp R t → SubN c.toNat t
theorem IsCl.uniq {R : List (Int × Int)} {s c c' : Int} (h : IsCl R s c) (g : IsCl R s c') : c = c' := by
  have := sub_anti (h.least _ g.ext g.resp) (g.least _ h.ext h.resp)
  have h1 := h.rng
  have h2 := g.rng
  omega
theorem oneL_spec {s : Int} (hs : 0 ≤ s ∧ s ≤ 255) : ∀ (R : List (Int × Int)) (acc : Int), RSet R → (0 ≤ acc ∧ acc ≤ 255) →
    (0 ≤ oneL s R acc ∧ oneL s R acc ≤ 255) ∧ SubN acc.toNat (oneL s R acc).toNat ∧ (∀ r ∈ R, SubN r.1.toNat s.toNat → SubN r.2.toNat (oneL s R acc).toNat) ∧
    ∀ t, SubN acc.toNat t → (∀ r ∈ R, SubN r.1.toNat s.toNat → SubN r.2.toNat t) → SubN (oneL s R acc).toNat t
  | [], acc, _, ha => ⟨ha, sub_refl _, fun r hr => (by cases hr), fun t h _ => h⟩
  | r :: R, acc, hR, ha => by
    have hr := hR r (by simp)
    have hR' : RSet R := fun x hx => hR x (by simp [hx])
    have hb := borSet ha hr.2
    rw [oneL]
    cases hq : bnot r.1 s == 0 with
    | true =>
      rw [cond_true]
      have hq' := (bnotSub hr.1 hs).1 hq
      obtain ⟨h1, h2, h3, h4⟩ := oneL_spec hs R _ hR' hb.1
      rw [hb.2] at h2 h4
      refine ⟨h1, sub_trans (sub_or_l _ _) h2, fun x hx hsub => ?_, fun t g1 g2 => ?_⟩
      · rcases List.mem_cons.1 hx with rfl | hx
        · exact sub_trans (sub_or_r _ _) h2
        · exact h3 x hx hsub
      · exact h4 t (sub_or.2 ⟨g1, g2 r (by simp) hq'⟩) fun x hx => g2 x (by simp [hx])
    | false =>
      rw [cond_false]
      have hq' : ¬ SubN r.1.toNat s.toNat := fun h => by rw [(bnotSub hr.1 hs).2 h] at hq; cases hq
      obtain ⟨h1, h2, h3, h4⟩ := oneL_spec hs R _ hR' ha
      refine ⟨h1, h2, fun x hx hsub => ?_, fun t g1 g2 => h4 t g1 fun x hx => g2 x (by simp [hx])⟩
      rcases List.mem_cons.1 hx with rfl | hx
      · exact absurd hsub hq'
      · exact h3 x hx hsub
theorem iterR_spec {R : List (Int × Int)} (hR : RSet R) : ∀ (d : Nat) (s : Int), (0 ≤ s ∧ s ≤ 255) → 256 ≤ d + s.toNat → IsCl R s (iterR R d s)
  | 0, s, hs, hd => by omega
  | d + 1, s, hs, hd => by
    obtain ⟨h1, h2, h3, h4⟩ := oneL_spec hs R s hR hs
    rw [iterR]
    cases hq : oneL s R s == s with
    | true =>
      rw [cond_true]
      have hq : oneL s R s = s := by simpa using hq
      rw [hq] at h3
      exact ⟨hs, sub_refl _, h3, fun t h _ => h⟩
    | false =>
      rw [cond_false]
      have hq : oneL s R s ≠ s := by simpa using hq
      have hlt := sub_ltN h2 (by omega)
      have ih := iterR_spec hR d (oneL s R s) h1 (by omega)
      refine ⟨ih.rng, sub_trans h2 ih.ext, ih.resp, fun t g1 g2 => ih.least t (h4 t g1 fun r hr hsub => g2 r hr (sub_trans hsub g1)) g2⟩
theorem clR_is {R : List (Int × Int)} (hR : RSet R) {s : Int} (hs : 0 ≤ s ∧ s ≤ 255) : IsCl R s (clR R s) := iterR_spec hR 256 s hs (by omega)
/-- The reference's way: a pass that writes as it goes. -/
def passL : List (Int × Int) → Int × Bool → Int × Bool
  | [], p => p
  | r :: R, p => passL R (bif (band r.1 p.1 == r.1) && (band r.2 p.1 != r.2) then (bor p.1 r.2, true) else p)
def iterP (R : List (Int × Int)) : Nat → Int → Int
  | 0, s => s
  | d + 1, s => bif (passL R (s, false)).2 then iterP R d (passL R (s, false)).1 else (passL R (s, false)).1
theorem passL_spec : ∀ (R : List (Int × Int)) (s : Int) (f : Bool), RSet R → (0 ≤ s ∧ s ≤ 255) →
    (0 ≤ (passL R (s, f)).1 ∧ (passL R (s, f)).1 ≤ 255) ∧ SubN s.toNat (passL R (s, f)).1.toNat ∧ (∀ t, SubN s.toNat t → Resp R t → SubN (passL R (s, f)).1.toNat t) ∧
    ((passL R (s, f)).2 = true → f = true ∨ s.toNat < (passL R (s, f)).1.toNat) ∧ ((passL R (s, f)).2 = false → f = false ∧ (passL R (s, f)).1 = s ∧ Resp R s.toNat)
  | [], s, f, _, hs => ⟨hs, sub_refl _, fun t h _ => h, fun h => .inl h, fun h => ⟨h, rfl, fun r hr => by cases hr⟩⟩
  | r :: R, s, f, hR, hs => by
    have hr := hR r (by simp)
    have hR' : RSet R := fun x hx => hR x (by simp [hx])
    have hb := borSet hs hr.2
    have e1 := bandSub hr.1 hs
    have e2 := bandSub hr.2 hs
    rw [passL]
    dsimp only
    cases hq : (band r.1 s == r.1) && (band r.2 s != r.2) with
    | true =>
      rw [cond_true]
      rw [Bool.and_eq_true, bne, Bool.not_eq_true'] at hq
      have q1 := e1.1 hq.1
      have q2 : ¬ SubN r.2.toNat s.toNat := fun h => by rw [e2.2 h] at hq; exact absurd hq.2 (by decide)
      obtain ⟨h1, h2, h3, h4, h5⟩ := passL_spec R (bor s r.2) true hR' hb.1
      rw [hb.2] at h2 h3
      have hlt : s.toNat < s.toNat ||| r.2.toNat := sub_ltN (sub_or_l _ _) fun e => q2 (by have := sub_or_r s.toNat r.2.toNat; rw [← e] at this; exact this)
      have hle := sub_leN h2
      refine ⟨h1, sub_trans (sub_or_l _ _) h2, fun t g1 g2 => h3 t (sub_or.2 ⟨g1, g2 r (by simp) (sub_trans q1 g1)⟩) fun x hx => g2 x (by simp [hx]), fun _ => .inr (by omega), fun h => ?_⟩
      exact absurd (h5 h).1 (by decide)
    | false =>
      rw [cond_false]
      obtain ⟨h1, h2, h3, h4, h5⟩ := passL_spec R s f hR' hs
      refine ⟨h1, h2, fun t g1 g2 => h3 t g1 fun x hx => g2 x (by simp [hx]), h4, fun h => ?_⟩
      obtain ⟨g1, g2, g3⟩ := h5 h
      refine ⟨g1, g2, fun x hx hsub => ?_⟩
      rcases List.mem_cons.1 hx with rfl | hx
      · rw [e1.2 hsub, Bool.true_and, bne, Bool.not_eq_false'] at hq
        exact e2.1 hq
      · exact g3 x hx hsub
theorem iterP_spec {R : List (Int × Int)} (hR : RSet R) : ∀ (d : Nat) (s : Int), (0 ≤ s ∧ s ≤ 255) → 256 ≤ d + s.toNat → IsCl R s (iterP R d s)
  | 0, s, hs, hd => by omega
  | d + 1, s, hs, hd => by
    obtain ⟨h1, h2, h3, h4, h5⟩ := passL_spec R s false hR hs
    rw [iterP]
    cases hq : (passL R (s, false)).2 with
    | true =>
      rw [cond_true]
      have hlt : s.toNat < (passL R (s, false)).1.toNat := (h4 hq).elim (fun h => by cases h) id
      have ih := iterP_spec hR d _ h1 (by omega)
      exact ⟨ih.rng, sub_trans h2 ih.ext, ih.resp, fun t g1 g2 => ih.least t (h3 t g1 g2) g2⟩
    | false =>
      rw [cond_false]
      obtain ⟨_, e, g⟩ := h5 hq
      rw [e]
      exact ⟨hs, sub_refl _, g, fun t h _ => h⟩
theorem iterP_clR {R : List (Int × Int)} (hR : RSet R) {s : Int} (hs : 0 ≤ s ∧ s ≤ 255) : iterP R 256 s = clR R s := (iterP_spec hR 256 s hs (by omega)).uniq (clR_is hR hs)
theorem clR_fix {R : List (Int × Int)} (hR : RSet R) {s : Int} (hs : 0 ≤ s ∧ s ≤ 255) : (clR R s == s) = true ↔ Resp R s.toNat := by
  have h := clR_is hR hs
  rw [beq_iff_eq]
  constructor
  · intro e
    have := h.resp
    rw [e] at this
    exact this
  · intro g
    have := sub_anti (h.least _ (sub_refl _) g) h.ext
    have h1 := h.rng
    omega
theorem lecN_br {x y : Nat} (hx : x < 64) (hy : y < 64) : lecN x y = decide (brev 6 x < brev 6 y) := by
  have h := lecB_br (x := (x : Int)) (y := (y : Int)) (by omega) (by omega)
  unfold lecB at h
  have e1 : isSet 8 (x : Int) = true := by rw [isSet8]; exact dt (by omega)
  have e2 : isSet 8 (y : Int) = true := by rw [isSet8]; exact dt (by omega)
  rw [e1, e2] at h
  exact h
theorem brev_lt6 : ∀ x : Fin 64, brev 6 x.val < 64 := by decide +kernel
theorem lecN_trans {x y z : Nat} (hx : x < 64) (hy : y < 64) (hz : z < 64) (h : lecN x y = true) (g : lecN y z = true) : lecN x z = true := by
  rw [lecN_br hx hy] at h
  rw [lecN_br hy hz] at g
  rw [lecN_br hx hz]
  have h := ofd h
  have g := ofd g
  exact dt (by omega)
theorem lecN_asym {x y : Nat} (hx : x < 64) (hy : y < 64) (h : lecN x y = true) (g : lecN y x = true) : False := by
  rw [lecN_br hx hy] at h
  rw [lecN_br hy hx] at g
  have h := ofd h
  have g := ofd g
  omega
theorem lecN_tri {x y : Nat} (hx : x < 64) (hy : y < 64) (hn : x ≠ y) : lecN x y = true ∨ lecN y x = true := by
  rw [lecN_br hx hy, lecN_br hy hx]
  have := fun h => br6_inj (x := (x : Int)) (y := (y : Int)) (by omega) (by omega) h
  unfold br6 at this
  rw [Int.toNat_natCast, Int.toNat_natCast] at this
  rcases Nat.lt_trichotomy (brev 6 x) (brev 6 y) with h | h | h
  · exact .inl (dt h)
  · have := this h; omega
  · exact .inr (dt h)
def MinP (P : Nat → Bool) (S : Nat → Prop) : Option Nat → Prop
  | none => ∀ t, S t → P t = false
  | some y => S y ∧ P y = true ∧ ∀ t, S t → P t = true → t = y ∨ lecN y t = true
theorem MinP.uniq {P : Nat → Bool} {S : Nat → Prop} (hS : ∀ t, S t → t < 64) : ∀ {b c : Option Nat}, MinP P S b → MinP P S c → b = c
  | none, none, _, _ => rfl
  | none, some y, h, g => by
    have := h y g.1
    rw [g.2.1] at this
    cases this
  | some y, none, g, h => by
    have := h y g.1
    rw [g.2.1] at this
    cases this
  | some x, some y, h, g => by
    rcases h.2.2 y g.1 g.2.1 with e | e
    · rw [e]
    · rcases g.2.2 x h.1 h.2.1 with e' | e'
      · rw [e']
      · exact (lecN_asym (hS _ h.1) (hS _ g.1) e e').elim
def nmS (P : Nat → Bool) : Nat → Nat → Option Nat → Option Nat
  | 0, _, b => b
  | d + 1, t, b => nmS P d (t + 1) (bif P t && (match b with | none => true | some y => lecN t y) then some t else b)
theorem nmS_min (P : Nat → Bool) {N : Nat} (hN : N ≤ 64) : ∀ (d t : Nat) (b : Option Nat), t + d = N → MinP P (fun x => x < t) b → MinP P (fun x => x < N) (nmS P d t b)
  | 0, t, b, h, hb => by
    have : t = N := by omega
    subst this
    exact hb
  | d + 1, t, b, h, hb => by
    show MinP P (fun x => x < N) (nmS P d (t + 1) _)
    refine nmS_min P hN d (t + 1) _ (by omega) ?_
    cases hP : P t with
    | false =>
      rw [Bool.false_and, cond_false]
      have hcase : ∀ x, x < t + 1 → P x = true → x < t := fun x hx hp => by
        by_cases e : x = t
        · rw [e, hP] at hp; cases hp
        · omega
      cases b with
      | none =>
        intro x hx
        cases hq : P x
        · rfl
        · rw [hb x (hcase x hx hq)] at hq; cases hq
      | some y => exact ⟨by have := hb.1; omega, hb.2.1, fun x hx hp => hb.2.2 x (hcase x hx hp) hp⟩
    | true =>
      rw [Bool.true_and]
      cases b with
      | none =>
        refine ⟨by omega, hP, fun x hx hp => ?_⟩
        by_cases e : x = t
        · exact .inl e
        · have := hb x (by omega)
          rw [hp] at this
          cases this
      | some y =>
        obtain ⟨b1, b2, b3⟩ := hb
        dsimp only
        cases hl : lecN t y with
        | true =>
          rw [cond_true]
          refine ⟨by omega, hP, fun x hx hp => ?_⟩
          by_cases e : x = t
          · exact .inl e
          · rcases b3 x (by omega) hp with e' | e'
            · rw [e']; exact .inr hl
            · exact .inr (lecN_trans (by omega) (by omega) (by omega) hl e')
        | false =>
          rw [cond_false]
          refine ⟨by omega, b2, fun x hx hp => ?_⟩
          by_cases e : x = t
          · rcases lecN_tri (x := t) (y := y) (by omega) (by omega) (by omega) with h1 | h1
            · rw [h1] at hl; cases hl
            · rw [e]; exact .inr h1
          · exact b3 x (by omega) hp
theorem find_min (P : Nat → Bool) {n : Nat} (hn : n ≤ 6) : MinP P (fun x => x < 2 ^ n) ((lecL n).find? P) := by
  obtain ⟨hch, _, _⟩ := chain_all ⟨n, by omega⟩
  have hch : chainB (lecL n) = true := hch
  cases hf : (lecL n).find? P with
  | none =>
    intro t ht
    have := List.find?_eq_none.1 hf t ((lecL_mem hn).2 ht)
    simpa using this
  | some y =>
    obtain ⟨hy, u, v, huv, hu⟩ := List.find?_eq_some_iff_append.1 hf
    have hmem : ∀ x, x ∈ u ++ y :: v ↔ x < 2 ^ n := fun x => by rw [← huv]; exact lecL_mem hn
    rw [huv] at hch
    obtain ⟨_, c2, _⟩ := chainB_mid u y v hch
    refine ⟨(hmem y).1 (by simp), hy, fun t ht hp => ?_⟩
    rcases List.mem_append.1 ((hmem t).2 ht) with h | h
    · have := hu t h
      rw [hp] at this
      cases this
    · rcases List.mem_cons.1 h with e | h
      · exact .inl e
      · exact .inr (c2 t h)
def modB (R : List (Int × Int)) (a t : Nat) : Bool := lecN a t && (clR R (t : Int) == (t : Int))
def nmO (n : Nat) (R : List (Int × Int)) (a : Nat) : Option Nat := (lecL n).find? (modB R a)
theorem nmO_eq {n : Nat} (hn : n ≤ 6) (R : List (Int × Int)) (a : Nat) : nmS (modB R a) (2 ^ n) 0 none = nmO n R a := by
  have hp := pow64 hn
  refine MinP.uniq (S := fun x => x < 2 ^ n) (fun t ht => by omega) (nmS_min _ hp.2 _ _ _ (by omega) ?_) (find_min _ hn)
  intro t ht
  omega
def nmV (n : Nat) (R : List (Int × Int)) (a : Nat) : Nat := (nmO n R a).getD 0
theorem nmO_some {n : Nat} (hn : n ≤ 6) {R : List (Int × Int)} (hR : RSet R) {a x : Nat} (h : nmO n R a = some x) : x < 2 ^ n ∧ lecN a x = true ∧ Resp R x := by
  have hp := pow64 hn
  have := find_min (modB R a) hn
  unfold nmO at h
  rw [h] at this
  obtain ⟨h1, h2, _⟩ := this
  have h2' := Bool.and_eq_true_iff.1 h2
  refine ⟨h1, h2'.1, ?_⟩
  have := (clR_fix hR (s := (x : Int)) (by omega)).1 h2'.2
  rwa [Int.toNat_natCast] at this
theorem sub_full {n s : Nat} (h : s < 2 ^ n) : SubN s (2 ^ n - 1) := by
  intro i hi
  rw [Nat.testBit_two_pow_sub_one]
  refine decide_eq_true ?_
  rcases Nat.lt_or_ge i n with h' | h'
  · exact h'
  · rw [Nat.testBit_lt_two_pow (Nat.lt_of_lt_of_le h (Nat.pow_le_pow_right (by omega) h'))] at hi
    cases hi
theorem nmO_full {n : Nat} (hn : n ≤ 6) {R : List (Int × Int)} (hR : RSet R) (h2 : ∀ r ∈ R, r.2.toNat < 2 ^ n) {a : Nat} (ha : a < 2 ^ n) (hne : a ≠ 2 ^ n - 1) : ∃ x, nmO n R a = some x := by
  have hp := pow64 hn
  cases h : nmO n R a with
  | some x => exact ⟨x, rfl⟩
  | none =>
    have := find_min (modB R a) hn
    unfold nmO at h
    rw [h] at this
    have := this (2 ^ n - 1) (by omega)
    unfold modB at this
    have e1 : lecN a (2 ^ n - 1) = true := by
      rcases sub_le hn ha (show 2 ^ n - 1 < 2 ^ n by omega) (sub_full ha) with e | e
      · exact absurd e hne
      · exact (lecN_iff (by omega) (by omega)).2 e
    have e2 : (clR R ((2 ^ n - 1 : Nat) : Int) == ((2 ^ n - 1 : Nat) : Int)) = true := by
      rw [clR_fix hR (by omega)]
      intro r hr _
      rw [Int.toNat_natCast]
      exact sub_full (h2 r hr)
    rw [e1, e2] at this
    cases this
theorem nodup_sub : ∀ (l1 l2 : List Int), l1.Nodup → (∀ x ∈ l1, x ∈ l2) → l1.length ≤ l2.length
  | [], _, _, _ => Nat.zero_le _
  | x :: r, l2, hn, h => by
    have hn' := List.nodup_cons.1 hn
    have hx := h x (by simp)
    have := nodup_sub r (l2.erase x) hn'.2 fun y hy => by
      have hne : y ≠ x := fun e => hn'.1 (e ▸ hy)
      exact (List.mem_erase_of_ne hne).2 (h y (by simp [hy]))
    rw [List.length_erase_of_mem hx] at this
    have hp : 0 < l2.length := List.length_pos_of_mem hx
    rw [List.length_cons]
    omega
theorem nodup_bound {N : Nat} (l : List Nat) (hn : l.Nodup) (h : ∀ x ∈ l, x < N) : l.length ≤ N := by
  have h1 : (l.map fun (x : Nat) => (x : Int)).Nodup := castN_nodup hn
  have := nodup_sub (l.map fun (x : Nat) => (x : Int)) ((List.range N).map fun (x : Nat) => (x : Int)) h1 fun y hy => by
    obtain ⟨x, hx, rfl⟩ := List.mem_map.1 hy
    exact List.mem_map.2 ⟨x, List.mem_range.2 (h x hx), rfl⟩
  simpa using this
abbrev QL := List ((Int × Int) × Bool × Int)
def cexB (a b row : Int) : Bool := (bnot a row == 0) && !(bnot b row == 0)
def cexF (B : List Int) (a b : Int) : Int := firstI (cexB a b) B 0
theorem firstI_spec {α : Type} (p : α → Bool) (z : α) : ∀ (l : List α) (i : Int), 0 ≤ i → (firstI p l i = -1 ∧ l.any p = false) ∨ ∃ j : Nat, j < l.length ∧ firstI p l i = i + j ∧ p (l.getD j z) = true
  | [], i, _ => .inl ⟨rfl, rfl⟩
  | x :: r, i, hi => by
    rw [firstI, List.any_cons]
    cases hx : p x with
    | true => exact .inr ⟨0, by simp, by simp, by simpa using hx⟩
    | false =>
      rw [cond_false, Bool.false_or]
      rcases firstI_spec p z r (i + 1) (by omega) with h | ⟨j, h1, h2, h3⟩
      · exact .inl h
      · exact .inr ⟨j + 1, by simpa using h1, by omega, by simpa using h3⟩
def exR (m : Int) (B : List Int) : Nat → Nat → List Int → List (Int × Int) → QL → List Int × List (Int × Int) × QL
  | 0, _, ex, R, Q => (ex, R, Q)
  | d + 1, a, ex, R, Q =>
    bif (a : Int) == fullSet m then (ex, R, Q)
    else bif (a : Int) == ((clN m ex a : Nat) : Int) then exR m B d (nmV m.toNat R a) ex R Q
    else bif decide (cexF B a (clN m ex a : Nat) ≥ 0) then exR m B d a (ex ++ [B.getD (cexF B a (clN m ex a : Nat)).toNat 0]) R (Q ++ [(((a : Int), ((clN m ex a : Nat) : Int)), false, cexF B a (clN m ex a : Nat))])
    else exR m B d (nmV m.toNat (R ++ [((a : Int), ((clN m ex a : Nat) : Int))]) a) ex (R ++ [((a : Int), ((clN m ex a : Nat) : Int))]) (Q ++ [(((a : Int), ((clN m ex a : Nat) : Int)), true, -1)])
theorem full_nat {m : Int} (h0 : 0 ≤ m) (h6 : m ≤ 6) : fullSet m = ((2 ^ m.toNat - 1 : Nat) : Int) := by
  have h : m = 0 ∨ m = 1 ∨ m = 2 ∨ m = 3 ∨ m = 4 ∨ m = 5 ∨ m = 6 := by omega
  rcases h with rfl | rfl | rfl | rfl | rfl | rfl | rfl <;> decide
structure ExI (m : Int) (B : List Int) (a : Nat) (ex : List Int) (R : List (Int × Int)) : Prop where
  ctx : isCtx m B = true
  lt : a < 2 ^ m.toNat
  nod : ex.Nodup
  sub : ∀ x ∈ ex, x ∈ B
  rl : ∀ r ∈ R, ∃ p : Nat, r = ((p : Int), ((clN m B p : Nat) : Int)) ∧ p < 2 ^ m.toNat ∧ clN m B p ≠ p ∧ lecN p a = true
  resp : Resp R a
  ord : R.Pairwise (fun r s => lecN r.1.toNat s.1.toNat = true ∧ (SubN r.1.toNat s.1.toNat → SubN r.2.toNat s.1.toNat))
theorem ExI.start {m : Int} {B : List Int} (h : isCtx m B = true) : ExI m B 0 [] [] :=
  ⟨h, Nat.two_pow_pos _, List.nodup_nil, fun x hx => (by cases hx), fun r hr => (by cases hr), fun r hr => (by cases hr), List.Pairwise.nil⟩
theorem ExI.ctxe {m : Int} {B : List Int} {a : Nat} {ex : List Int} {R : List (Int × Int)} (h : ExI m B a ex R) : isCtx m ex = true := by
  have hl := isCtx_len h.ctx
  have hlen := nodup_sub ex B h.nod h.sub
  unfold isCtx
  have h1 : decide (0 ≤ m ∧ m ≤ 6) = true := decide_eq_true (by omega)
  have h2 : decide (ex.length ≤ 8) = true := decide_eq_true (by omega)
  have h3 : ex.all (isSet m) = true := List.all_eq_true.2 fun x hx => hl.2.2.2 x (h.sub x hx)
  rw [h1, h2, h3]
  rfl
theorem ExI.rset {m : Int} {B : List Int} {a : Nat} {ex : List Int} {R : List (Int × Int)} (h : ExI m B a ex R) : RSet R := by
  intro r hr
  obtain ⟨p, rfl, hp, _⟩ := h.rl r hr
  have hl := isCtx_len h.ctx
  have hpw := pow64 (n := m.toNat) (by omega)
  have := (cl_clo h.ctx).lt p hp
  exact ⟨by dsimp only; omega, by dsimp only; omega⟩
theorem ExI.r2 {m : Int} {B : List Int} {a : Nat} {ex : List Int} {R : List (Int × Int)} (h : ExI m B a ex R) : ∀ r ∈ R, r.2.toNat < 2 ^ m.toNat := by
  intro r hr
  obtain ⟨p, rfl, hp, _⟩ := h.rl r hr
  have := (cl_clo h.ctx).lt p hp
  rw [Int.toNat_natCast]
  exact this
theorem half_all : ∀ x y : Fin 64, lecN x.val y.val = true → x.val / 2 = y.val / 2 → y.val = x.val + 1 ∧ x.val % 2 = 0 := by decide +kernel
theorem bit0_all : ∀ x : Fin 64, x.val % 2 = 0 → x.val &&& (x.val + 1) = x.val := by decide +kernel
theorem ExI.len {m : Int} {B : List Int} {a : Nat} {ex : List Int} {R : List (Int × Int)} (h : ExI m B a ex R) : R.length ≤ 32 := by
  have hl := isCtx_len h.ctx
  have hpw := pow64 (n := m.toNat) (by omega)
  have hclo := cl_clo h.ctx
  have hb : ∀ x ∈ R.map (fun r => r.1.toNat / 2), x < 32 := by
    intro x hx
    obtain ⟨r, hr, rfl⟩ := List.mem_map.1 hx
    obtain ⟨p, rfl, hp, _⟩ := h.rl r hr
    rw [Int.toNat_natCast]
    omega
  have hn : (R.map (fun r => r.1.toNat / 2)).Nodup := by
    unfold List.Nodup
    rw [List.pairwise_map]
    refine List.Pairwise.imp_of_mem (fun {r s} hr hs hrs he => ?_) h.ord
    obtain ⟨p, rfl, hp, hpc, _⟩ := h.rl r hr
    obtain ⟨q, rfl, hq, hqc, _⟩ := h.rl s hs
    simp only [Int.toNat_natCast] at hrs he
    obtain ⟨e1, e2⟩ := half_all ⟨p, by omega⟩ ⟨q, by omega⟩ hrs.1 he
    simp only at e1 e2
    have e3 := bit0_all ⟨p, by omega⟩ e2
    simp only at e3
    have hpq : SubN p q := and_sub.1 (by rw [e1, beq_iff_eq]; exact e3)
    have hcq := hrs.2 hpq
    have h1 := sub_leN (hclo.ext p hp)
    have h2 := sub_leN hcq
    have h3 : clN m B p = q := by omega
    have h4 := hclo.idem p hp
    rw [h3] at h4
    exact hqc h4
  have := nodup_bound _ hn hb
  simpa using this
/-- The examples' closure lies in each example that has the set. -/
theorem cl_row {m : Int} {ex : List Int} (h : isCtx m ex = true) {a : Nat} (ha : a < 256) {row : Int} (hr : row ∈ ex) (hs : SubN a row.toNat) : SubN (clN m ex a) row.toNat := by
  intro i hi
  obtain ⟨k, hk, he⟩ := List.mem_iff_getElem.1 hr
  have := ((clN_bit h ha i).1 hi).2 k hk
  rw [List.getD_eq_getElem?_getD, List.getElem?_eq_getElem hk, he, Option.getD_some] at this
  exact this hs
theorem ExI.clsub {m : Int} {B : List Int} {a : Nat} {ex : List Int} {R : List (Int × Int)} (h : ExI m B a ex R) : SubN (clN m B a) (clN m ex a) := by
  have hl := isCtx_len h.ctx
  have hpw := pow64 (n := m.toNat) (by omega)
  have hlt := h.lt
  intro i hi
  obtain ⟨q1, q2⟩ := (clN_bit h.ctx (by omega) i).1 hi
  refine (clN_bit h.ctxe (by omega) i).2 ⟨q1, fun k hk hs => ?_⟩
  have hm := h.sub _ (mem_getD (d := 0) hk)
  obtain ⟨j, hj, he⟩ := List.mem_iff_getElem.1 hm
  have := q2 j hj
  rw [List.getD_eq_getElem?_getD, List.getElem?_eq_getElem hj, he, Option.getD_some] at this
  exact this hs
theorem ExI.rowSet {m : Int} {B : List Int} {a : Nat} {ex : List Int} {R : List (Int × Int)} (h : ExI m B a ex R) {j : Nat} (hj : j < B.length) : 0 ≤ B.getD j 0 ∧ B.getD j 0 ≤ 255 := by
  have := ctx_small h.ctx _ (mem_getD (d := 0) hj)
  exact this
/-- A step that asks nothing. -/
theorem ExI.move {m : Int} {B : List Int} {a : Nat} {ex : List Int} {R : List (Int × Int)} (h : ExI m B a ex R) (hf : ¬ (a : Int) = fullSet m) :
    nmO m.toNat R a = some (nmV m.toNat R a) ∧ ExI m B (nmV m.toNat R a) ex R ∧ brev 6 a < brev 6 (nmV m.toNat R a) := by
  have hl := isCtx_len h.ctx
  have hpw := pow64 (n := m.toNat) (by omega)
  have hlt := h.lt
  rw [full_nat hl.2.1 hl.2.2.1] at hf
  obtain ⟨x, hx⟩ := nmO_full (n := m.toNat) (by omega) h.rset h.r2 h.lt (by omega)
  have hv : nmV m.toNat R a = x := by unfold nmV; rw [hx]; rfl
  obtain ⟨g1, g2, g3⟩ := nmO_some (by omega) h.rset hx
  rw [hv]
  refine ⟨hx, ⟨h.ctx, g1, h.nod, h.sub, fun r hr => ?_, g3, h.ord⟩, ?_⟩
  · obtain ⟨p, q1, q2, q3, q4⟩ := h.rl r hr
    exact ⟨p, q1, q2, q3, lecN_trans (by omega) (by omega) (by omega) q4 g2⟩
  · rw [lecN_br (by omega) (by omega)] at g2
    exact ofd g2
/-- A step with a counterexample. -/
theorem ExI.counter {m : Int} {B : List Int} {a : Nat} {ex : List Int} {R : List (Int × Int)} (h : ExI m B a ex R) (he : cexF B a (clN m ex a : Nat) ≥ 0) :
    (cexF B a (clN m ex a : Nat)).toNat < B.length ∧ ExI m B a (ex ++ [B.getD (cexF B a (clN m ex a : Nat)).toNat 0]) R := by
  have hl := isCtx_len h.ctx
  have hpw := pow64 (n := m.toNat) (by omega)
  have hlt := h.lt
  have hcl := (cl_clo h.ctxe).lt a h.lt
  rcases firstI_spec (cexB a (clN m ex a : Nat)) 0 B 0 (Int.le_refl _) with ⟨h1, _⟩ | ⟨j, h1, h2, h3⟩
  · unfold cexF at he
    omega
  · have hj : (cexF B a (clN m ex a : Nat)).toNat = j := by unfold cexF; omega
    rw [hj]
    have hrow := h.rowSet h1
    unfold cexB at h3
    rw [Bool.and_eq_true, Bool.not_eq_true'] at h3
    have q1 := (bnotSub (by omega) hrow).1 h3.1
    rw [Int.toNat_natCast] at q1
    have q2 : ¬ SubN (clN m ex a) (B.getD j 0).toNat := fun g => by
      have := (bnotSub (p := ((clN m ex a : Nat) : Int)) (by omega) hrow).2 (by rw [Int.toNat_natCast]; exact g)
      rw [this] at h3
      cases h3.2
    refine ⟨h1, h.ctx, h.lt, ?_, fun x hx => ?_, h.rl, h.resp, h.ord⟩
    · rw [List.nodup_append]
      refine ⟨h.nod, by simp, fun x hx y hy e => ?_⟩
      rw [List.mem_singleton] at hy
      subst hy
      subst e
      exact q2 (cl_row h.ctxe (by omega) hx q1)
    · rcases List.mem_append.1 hx with hx | hx
      · exact h.sub x hx
      · rw [List.mem_singleton] at hx
        rw [hx]
        exact mem_getD h1
/-- A step with a rule. -/
theorem ExI.accept {m : Int} {B : List Int} {a : Nat} {ex : List Int} {R : List (Int × Int)} (h : ExI m B a ex R) (hf : ¬ (a : Int) = fullSet m) (hne : ¬ (a : Int) = ((clN m ex a : Nat) : Int)) (he : ¬ cexF B a (clN m ex a : Nat) ≥ 0) :
    nmO m.toNat (R ++ [((a : Int), ((clN m ex a : Nat) : Int))]) a = some (nmV m.toNat (R ++ [((a : Int), ((clN m ex a : Nat) : Int))]) a) ∧ ExI m B (nmV m.toNat (R ++ [((a : Int), ((clN m ex a : Nat) : Int))]) a) ex (R ++ [((a : Int), ((clN m ex a : Nat) : Int))]) ∧ brev 6 a < brev 6 (nmV m.toNat (R ++ [((a : Int), ((clN m ex a : Nat) : Int))]) a) := by
  have hl := isCtx_len h.ctx
  have hpw := pow64 (n := m.toNat) (by omega)
  have hlt := h.lt
  have hcl := (cl_clo h.ctxe).lt a h.lt
  have hB : clN m ex a = clN m B a := by
    refine sub_anti (fun i hi => ?_) h.clsub
    have hbit := (clN_bit h.ctxe (show a < 256 by omega) i).1 hi
    refine (clN_bit h.ctx (show a < 256 by omega) i).2 ⟨hbit.1, fun k hk hs => ?_⟩
    have hrow := h.rowSet hk
    rcases firstI_spec (cexB a (clN m ex a : Nat)) 0 B 0 (Int.le_refl _) with ⟨_, h2⟩ | ⟨j, h1, h2, _⟩
    · rw [List.any_eq_false] at h2
      have h2 := h2 _ (mem_getD (d := 0) hk)
      unfold cexB at h2
      rw [(bnotSub (p := (a : Int)) (by omega) hrow).2 (by rw [Int.toNat_natCast]; exact hs), Bool.true_and] at h2
      have h3 : (bnot ((clN m ex a : Nat) : Int) (B.getD k 0) == 0) = true := by simpa using h2
      have h4 := (bnotSub (by omega) hrow).1 h3
      rw [Int.toNat_natCast] at h4
      exact h4 i hi
    · unfold cexF at he
      omega
  have hRS : RSet (R ++ [((a : Int), ((clN m ex a : Nat) : Int))]) := by
    intro r hr
    rcases List.mem_append.1 hr with hr | hr
    · exact h.rset r hr
    · rw [List.mem_singleton] at hr
      subst hr
      exact ⟨by dsimp only; omega, by dsimp only; omega⟩
  have hr2 : ∀ r ∈ R ++ [((a : Int), ((clN m ex a : Nat) : Int))], r.2.toNat < 2 ^ m.toNat := by
    intro r hr
    rcases List.mem_append.1 hr with hr | hr
    · exact h.r2 r hr
    · rw [List.mem_singleton] at hr
      subst hr
      rw [Int.toNat_natCast]
      exact hcl
  rw [full_nat hl.2.1 hl.2.2.1] at hf
  obtain ⟨x, hx⟩ := nmO_full (n := m.toNat) (by omega) hRS hr2 h.lt (by omega)
  have hv : nmV m.toNat (R ++ [((a : Int), ((clN m ex a : Nat) : Int))]) a = x := by unfold nmV; rw [hx]; rfl
  obtain ⟨g1, g2, g3⟩ := nmO_some (by omega) hRS hx
  rw [hv]
  refine ⟨hx, ⟨h.ctx, g1, h.nod, h.sub, fun r hr => ?_, g3, ?_⟩, ?_⟩
  · rcases List.mem_append.1 hr with hr | hr
    · obtain ⟨p, q1, q2, q3, q4⟩ := h.rl r hr
      exact ⟨p, q1, q2, q3, lecN_trans (by omega) (by omega) (by omega) q4 g2⟩
    · rw [List.mem_singleton] at hr
      subst hr
      exact ⟨a, by rw [hB], h.lt, by rw [← hB]; omega, g2⟩
  · rw [List.pairwise_append]
    refine ⟨h.ord, List.pairwise_singleton _ _, fun r hr s hs => ?_⟩
    rw [List.mem_singleton] at hs
    subst hs
    rw [Int.toNat_natCast]
    obtain ⟨p, rfl, q2, q3, q4⟩ := h.rl r hr
    refine ⟨by rw [Int.toNat_natCast]; exact q4, fun hs => h.resp _ hr hs⟩
  · rw [lecN_br (by omega) (by omega)] at g2
    exact ofd g2
theorem ExI.exlen {m : Int} {B : List Int} {a : Nat} {ex : List Int} {R : List (Int × Int)} (h : ExI m B a ex R) : ex.length ≤ 8 := (isCtx_len h.ctxe).1
theorem ExI.pos {m : Int} {B : List Int} {a : Nat} {ex : List Int} {R : List (Int × Int)} (h : ExI m B a ex R) : brev 6 a < 64 := by
  have hl := isCtx_len h.ctx
  have hpw := pow64 (n := m.toNat) (by omega)
  have hlt := h.lt
  exact brev_lt6 ⟨a, by omega⟩
theorem exR_len {m : Int} {B : List Int} : ∀ (d a : Nat) (ex : List Int) (R : List (Int × Int)) (Q : QL), ExI m B a ex R →
    (exR m B d a ex R Q).1.length ≤ 8 ∧ (exR m B d a ex R Q).2.1.length ≤ 32 ∧ (exR m B d a ex R Q).2.2.length ≤ Q.length + d
  | 0, a, ex, R, Q, h => ⟨h.exlen, h.len, Nat.le_refl _⟩
  | d + 1, a, ex, R, Q, h => by
    rw [exR]
    cases h1 : (a : Int) == fullSet m with
    | true => exact ⟨h.exlen, h.len, Nat.le_add_right _ _⟩
    | false =>
      have hf : ¬ (a : Int) = fullSet m := by simpa using h1
      rw [cond_false]
      cases h2 : (a : Int) == ((clN m ex a : Nat) : Int) with
      | true =>
        rw [cond_true]
        obtain ⟨g1, g2, g3⟩ := exR_len d _ ex R Q (h.move hf).2.1
        exact ⟨g1, g2, by omega⟩
      | false =>
        have hne : ¬ (a : Int) = ((clN m ex a : Nat) : Int) := by simpa using h2
        rw [cond_false]
        cases h3 : decide (cexF B a (clN m ex a : Nat) ≥ 0) with
        | true =>
          rw [cond_true]
          obtain ⟨g1, g2, g3⟩ := exR_len d _ _ R (Q ++ [(((a : Int), ((clN m ex a : Nat) : Int)), false, cexF B a (clN m ex a : Nat))]) (h.counter (ofd h3)).2
          simp only [List.length_append, List.length_singleton] at g3
          exact ⟨g1, g2, by omega⟩
        | false =>
          rw [cond_false]
          obtain ⟨g1, g2, g3⟩ := exR_len d _ ex _ (Q ++ [(((a : Int), ((clN m ex a : Nat) : Int)), true, -1)]) (h.accept hf hne (ofn h3)).2.1
          simp only [List.length_append, List.length_singleton] at g3
          exact ⟨g1, g2, by omega⟩
def iotaQ : Int → Nat → QL
  | _, 0 => []
  | k, n + 1 => ((k, k + 1), (k + 2).tmod 3 == 0, k + 3) :: iotaQ (k + 4) n
@[simp] theorem iotaQ_length : ∀ (n : Nat) (k : Int), (iotaQ k n).length = n
  | 0, _ => rfl
  | n + 1, k => by simp [iotaQ, iotaQ_length n]
def heldQF (l : QL) (k : Int) : Int := if l = iotaQ k l.length then k + 4 * l.length else -1
theorem heldQ_iota (k : Int) (n : Nat) : heldQF (iotaQ k n) k = k + 4 * n := by
  unfold heldQF
  rw [iotaQ_length, if_pos rfl]
def dQ : (Int × Int) × Bool × Int := ((0, 0), false, 0)
/- impl.OneStep -/
def K_oneStep : List AV → List Ob → Option (AV × List Ob)
  | [.lst (.pair (.int .i64) (.int .i64)) R, .int .i64 s], [] => gd (R.length ≤ 64 ∧ R.any badR = false ∧ isSet 8 s = true) (.int .i64 (oneL s R s), [])
  | _, _ => none
@[reducible] def E_oneStep : Env := mkE (tb [(124, K_isAnySet), (123, K_areAnyRules), (91, K_inSet)]) (fun f => false) (fun r => bif r == 5 then ([1, 5, 18, 19, 20], [5]) else ([], []))
theorem lp_oneStep (R : List (Int × Int)) (hR : R.length ≤ 64) (s : Int) (k : AX → S → Option (AV × List Ob)) (d : Nat) : ∀ (n i : Nat) (x acc : Int), R.length - i = d → i ≤ R.length → x = i → d < n →
    lpAt E_oneStep (lp E_oneStep 0 n) 0 (loopAt Tryz.f185 0) (mkS [1, 5, 18, 19, 20] [.int .i64 s, .int .i64 acc, .lst (.pair (.int .i64) (.int .i64)) R, .int .i64 R.length, .int .i64 x] []) k =
      k (.exit 0) (mkS [5] [.int .i64 (oneL s (R.drop i) acc)] []) := by
  induction d with
  | zero =>
    intro n i x acc hd hi hx hn
    subst hx
    rw [lpAt_def]
    conv => lhs; whnf
    refine br_f (df (by omega)) ?_
    conv => lhs; whnf
    rw [List.drop_of_length_le (by omega)]
    rfl
  | succ d ih =>
    intro n i x acc hd hi hx hn
    obtain ⟨n, rfl⟩ : ∃ m, n = m + 1 := ⟨n - 1, by omega⟩
    subst hx
    have hih := fun q => ih n (i + 1) (IntKind.i64.wrap ((i : Int) + 1)) q (by omega) (by omega) (by rw [wrap64 (n := (i : Int) + 1) (by omega) (by omega)]; simp) (by omega)
    clear ih
    rw [getD_drop (l := R) (i := i) (d := (0, 0)) (by omega), oneL, lpAt_def]
    conv => lhs; whnf
    refine br_t (dt (by omega)) ?_
    conv => lhs; whnf
    refine br_t (dt2 (by omega) (by omega)) ?_
    conv => lhs; whnf
    conv => lhs; arg 1; whnf
    refine bnd_g (by exact True.intro) ?_
    conv => lhs; whnf
    refine br_c (fun h => ?_) (fun h => ?_)
    · have h' : (bnot (R.getD i (0, 0)).1 s == 0) = true := h
      conv => lhs; whnf
      refine (hih _).trans ?_
      rw [h', cond_true]
      rfl
    · have h' : (bnot (R.getD i (0, 0)).1 s == 0) = false := h
      conv => lhs; whnf
      refine (hih _).trans ?_
      rw [h', cond_false]
theorem ev_oneStep (R : List (Int × Int)) (s : Int) (hp : R.length ≤ 64 ∧ R.any badR = false ∧ isSet 8 s = true) : evF E_oneStep (70) Tryz.f185 [.lst (.pair (.int .i64) (.int .i64)) R, .int .i64 s] [] = some (.int .i64 (oneL s R s), []) := by
  obtain ⟨h1, h2, h3⟩ := hp
  have g1 : (!isSet 8 s) = false := by rw [h3]; rfl
  have g2 : (!(!R.any badR)) = false := by rw [h2]; rfl
  conv => lhs; whnf
  conv => lhs; arg 1; whnf
  refine bnd_g (by exact True.intro) ?_
  conv => lhs; whnf
  repeat ((first | with_reducible apply br_tt | with_reducible apply br_ff | with_reducible apply br_nf | with_reducible apply br_nt | with_reducible refine br_d ?_ (by kernel_rfl) | with_reducible apply br_t g1 | with_reducible apply br_f g1); conv => lhs; whnf)
  conv => lhs; arg 1; whnf
  refine bnd_g (by omega) ?_
  conv => lhs; whnf
  repeat ((first | with_reducible apply br_tt | with_reducible apply br_ff | with_reducible apply br_nf | with_reducible apply br_nt | with_reducible refine br_d ?_ (by kernel_rfl) | with_reducible apply br_t g1 | with_reducible apply br_f g1 | with_reducible apply br_t g2 | with_reducible apply br_f g2); conv => lhs; whnf)
  refine (lp_oneStep R h1 s _ R.length _ 0 0 s rfl (Nat.zero_le _) rfl (by change _ < 69; omega)).trans ?_
  conv => lhs; whnf
  rfl
theorem ok_oneStep : FnOk Tryz.prog 185 K_oneStep := by
  refine fn_ok (fn := Tryz.f185) (k := Tryz.f185.ntmps) (E := E_oneStep) (facts_of (List.forall_mem_cons.2 ⟨ok_isAnySet, List.forall_mem_cons.2 ⟨ok_areAnyRules, List.forall_mem_cons.2 ⟨ok_inSet, List.forall_mem_nil _⟩⟩⟩)) (by kernel_rfl) rfl (by decide +kernel) (by decide +kernel) ?_
  intro avs hin r h
  unfold K_oneStep at h
  split at h
  · obtain ⟨hp, rfl⟩ := gd_o h
    exact ⟨_, ev_oneStep _ _ hp, rfl⟩
  · cases h

/- impl.ClosedBy -/
def K_closedBy : List AV → List Ob → Option (AV × List Ob)
  | [.lst (.pair (.int .i64) (.int .i64)) R, .int .i64 s], [] => gd (R.length ≤ 64) (.int .i64 (bif !R.any badR && isSet 8 s then clR R s else s), [])
  | _, _ => none
@[reducible] def E_closedBy : Env := mkE (tb [(124, K_isAnySet), (123, K_areAnyRules), (185, K_oneStep)]) (fun f => false) (fun r => bif r == 4 then ([0, 1, 5], [1]) else ([], []))
theorem lp_closedBy (R : List (Int × Int)) (hR : R.length ≤ 64) (hb : R.any badR = false) (k : AX → S → Option (AV × List Ob)) (d : Nat) : ∀ (n : Nat) (s q : Int), (0 ≤ s ∧ s ≤ 255) → 256 ≤ d + s.toNat → d < n → q = oneL s R s →
    lpAt E_closedBy (lp E_closedBy 0 n) 0 (loopAt Tryz.f164 0) (mkS [0, 1, 5] [.lst (.pair (.int .i64) (.int .i64)) R, .int .i64 s, .int .i64 q] []) k =
      k (.exit 0) (mkS [1] [.int .i64 (iterR R d s)] []) := by
  have hRS := RSet_of hb
  induction d with
  | zero => intro n s q hs hd hn; omega
  | succ d ih =>
    intro n s q hs hd hn hq
    obtain ⟨n, rfl⟩ : ∃ m, n = m + 1 := ⟨n - 1, by omega⟩
    subst hq
    obtain ⟨h1, h2, h3, h4⟩ := oneL_spec hs R s hRS hs
    rw [iterR, lpAt_def]
    conv => lhs; whnf
    refine br_c (fun h => ?_) (fun h => ?_)
    · have h' : (oneL s R s == s) = false := by
        have h : (oneL s R s != s) = true := h
        rw [bne, Bool.not_eq_true'] at h
        exact h
      have hne : oneL s R s ≠ s := by simpa using h'
      have hlt := sub_ltN h2 (by omega)
      have h8 : isSet 8 (oneL s R s) = true := by rw [isSet8]; exact dt h1
      rw [h', cond_false]
      conv => lhs; whnf
      conv => lhs; arg 1; whnf
      refine bnd_g (by exact ⟨hR, hb, h8⟩) ?_
      conv => lhs; whnf
      exact ih n _ _ h1 (by omega) (by omega) rfl
    · have h' : (oneL s R s == s) = true := by
        have h : (oneL s R s != s) = false := h
        rw [bne, Bool.not_eq_false'] at h
        exact h
      rw [h', cond_true]
      conv => lhs; whnf
theorem ev_closedBy (R : List (Int × Int)) (s : Int) (hp : R.length ≤ 64) : evF E_closedBy (300) Tryz.f164 [.lst (.pair (.int .i64) (.int .i64)) R, .int .i64 s] [] = some (.int .i64 (bif !R.any badR && isSet 8 s then clR R s else s), []) := by
  conv => lhs; whnf
  conv => lhs; arg 1; whnf
  refine bnd_g (by exact True.intro) ?_
  conv => lhs; whnf
  refine br_c (fun h => ?_) (fun h => ?_)
  · have g1 := bnt h
    conv => lhs; whnf
    repeat ((first | with_reducible apply br_tt | with_reducible apply br_ff | with_reducible apply br_nf | with_reducible apply br_nt | with_reducible refine br_d ?_ (by kernel_rfl) | with_reducible apply br_t h | with_reducible apply br_f h); conv => lhs; whnf)
    rw [g1, Bool.and_false]
    rfl
  · have g1 := bnf h
    conv => lhs; whnf
    repeat ((first | with_reducible apply br_tt | with_reducible apply br_ff | with_reducible apply br_nf | with_reducible apply br_nt | with_reducible refine br_d ?_ (by kernel_rfl) | with_reducible apply br_t h | with_reducible apply br_f h); conv => lhs; whnf)
    conv => lhs; arg 1; whnf
    refine bnd_g (by omega) ?_
    conv => lhs; whnf
    repeat ((first | with_reducible apply br_tt | with_reducible apply br_ff | with_reducible apply br_nf | with_reducible apply br_nt | with_reducible refine br_d ?_ (by kernel_rfl) | with_reducible apply br_t h | with_reducible apply br_f h); conv => lhs; whnf)
    refine br_c (fun h2 => ?_) (fun h2 => ?_)
    · have g2 : (!R.any badR) = false := bnt h2
      conv => lhs; whnf
      rw [g2, Bool.false_and]
      rfl
    · have g2 : (!R.any badR) = true := bnf h2
      have g3 : R.any badR = false := by
        cases hq : R.any badR
        · rfl
        · rw [hq] at g2; cases g2
      conv => lhs; whnf
      conv => lhs; arg 1; whnf
      refine bnd_g (by exact ⟨hp, g3, g1⟩) ?_
      conv => lhs; whnf
      have hs : 0 ≤ s ∧ s ≤ 255 := by rw [isSet8] at g1; exact ofd g1
      refine (lp_closedBy R hp g3 _ 256 _ s _ hs (by omega) (by change _ < 299; omega) rfl).trans ?_
      conv => lhs; whnf
      rw [g2, g1]
      rfl
theorem ok_closedBy : FnOk Tryz.prog 164 K_closedBy := by
  refine fn_ok (fn := Tryz.f164) (k := Tryz.f164.ntmps) (E := E_closedBy) (facts_of (List.forall_mem_cons.2 ⟨ok_isAnySet, List.forall_mem_cons.2 ⟨ok_areAnyRules, List.forall_mem_cons.2 ⟨ok_oneStep, List.forall_mem_nil _⟩⟩⟩)) (by kernel_rfl) rfl (by decide +kernel) (by decide +kernel) ?_
  intro avs hin r h
  unfold K_closedBy at h
  split at h
  · obtain ⟨hp, rfl⟩ := gd_o h
    exact ⟨_, ev_closedBy _ _ hp, rfl⟩
  · cases h

/- spec.l9Closed -/
def K_l9Closed : List AV → List Ob → Option (AV × List Ob)
  | [.lst (.pair (.int .i64) (.int .i64)) R, .int .i64 s], [] => gd (R.length ≤ 64 ∧ R.any badR = false ∧ (0 ≤ s ∧ s ≤ 255)) (.int .i64 (clR R s), [])
  | _, _ => none
@[reducible] def E_l9Closed : Env := mkE (tb []) (fun f => false) (fun r => bif r == 2 then ([0, 1, 5], [0, 1, 5]) else bif r == 5 then ([0, 1, 5, 6], [0, 1, 5]) else ([], []))
theorem lq_l9Closed (R : List (Int × Int)) (hR : R.length ≤ 64) (k : AX → S → Option (AV × List Ob)) (d : Nat) : ∀ (n i : Nat) (x : Int) (p : Int × Bool), R.length - i = d → i ≤ R.length → x = i → d < n →
    lpAt E_l9Closed (lp E_l9Closed 0 n) 0 (loopAt Tryz.f167 1) (mkS [0, 1, 5, 6] [.lst (.pair (.int .i64) (.int .i64)) R, .int .i64 p.1, .bool p.2, .int .i64 x] []) k =
      k (.exit 2) (mkS [0, 1, 5] [.lst (.pair (.int .i64) (.int .i64)) R, .int .i64 (passL (R.drop i) p).1, .bool (passL (R.drop i) p).2] []) := by
  induction d with
  | zero =>
    intro n i x p hd hi hx hn
    subst hx
    rw [lpAt_def]
    conv => lhs; whnf
    refine br_f (df (by omega)) ?_
    conv => lhs; whnf
    rw [List.drop_of_length_le (by omega)]
    rfl
  | succ d ih =>
    intro n i x p hd hi hx hn
    obtain ⟨n, rfl⟩ : ∃ m, n = m + 1 := ⟨n - 1, by omega⟩
    subst hx
    have hih := fun q => ih n (i + 1) (IntKind.i64.wrap ((i : Int) + 1)) q (by omega) (by omega) (by rw [wrap64 (n := (i : Int) + 1) (by omega) (by omega)]; simp) (by omega)
    clear ih
    rw [getD_drop (l := R) (i := i) (d := (0, 0)) (by omega), passL, lpAt_def]
    conv => lhs; whnf
    refine br_t (dt (by omega)) ?_
    conv => lhs; whnf
    refine br_t (dt2 (by omega) (by omega)) ?_
    conv => lhs; whnf
    refine br_t (dt2 (by omega) (by omega)) ?_
    conv => lhs; whnf
    refine br_c (fun h => ?_) (fun h => ?_)
    · have h' : (band (R.getD i (0, 0)).1 p.1 == (R.getD i (0, 0)).1) = true := h
      conv => lhs; whnf
      repeat ((first | with_reducible apply br_tt | with_reducible apply br_ff | with_reducible apply br_nf | with_reducible apply br_nt | with_reducible refine br_d ?_ (by kernel_rfl) | with_reducible apply br_t h | with_reducible apply br_f h | with_reducible refine br_t (dt2 (by omega) (by omega)) ?_ | with_reducible refine br_t (dt (by omega)) ?_); conv => lhs; whnf)
      refine br_c (fun h2 => ?_) (fun h2 => ?_)
      · have h2' : (band (R.getD i (0, 0)).2 p.1 != (R.getD i (0, 0)).2) = true := h2
        conv => lhs; whnf
        repeat ((first | with_reducible apply br_tt | with_reducible apply br_ff | with_reducible apply br_nf | with_reducible apply br_nt | with_reducible refine br_d ?_ (by kernel_rfl) | with_reducible apply br_t h | with_reducible apply br_f h | with_reducible apply br_t h2 | with_reducible apply br_f h2 | with_reducible refine br_t (dt2 (by omega) (by omega)) ?_ | with_reducible refine br_t (dt (by omega)) ?_); conv => lhs; whnf)
        rw [h', h2', Bool.and_self, cond_true]
        exact hih (bor p.1 (R.getD i (0, 0)).2, true)
      · have h2' : (band (R.getD i (0, 0)).2 p.1 != (R.getD i (0, 0)).2) = false := h2
        conv => lhs; whnf
        repeat ((first | with_reducible apply br_tt | with_reducible apply br_ff | with_reducible apply br_nf | with_reducible apply br_nt | with_reducible refine br_d ?_ (by kernel_rfl) | with_reducible apply br_t h | with_reducible apply br_f h | with_reducible apply br_t h2 | with_reducible apply br_f h2 | with_reducible refine br_t (dt2 (by omega) (by omega)) ?_ | with_reducible refine br_t (dt (by omega)) ?_); conv => lhs; whnf)
        rw [h', h2', Bool.and_false, cond_false]
        exact hih p
    · have h' : (band (R.getD i (0, 0)).1 p.1 == (R.getD i (0, 0)).1) = false := h
      conv => lhs; whnf
      repeat ((first | with_reducible apply br_tt | with_reducible apply br_ff | with_reducible apply br_nf | with_reducible apply br_nt | with_reducible refine br_d ?_ (by kernel_rfl) | with_reducible apply br_t h | with_reducible apply br_f h | with_reducible refine br_t (dt2 (by omega) (by omega)) ?_ | with_reducible refine br_t (dt (by omega)) ?_); conv => lhs; whnf)
      rw [h', Bool.false_and, cond_false]
      exact hih p

theorem lp_l9Closed (R : List (Int × Int)) (hR : R.length ≤ 64) (hRS : RSet R) (k : AX → S → Option (AV × List Ob)) (d : Nat) : ∀ (n : Nat) (s : Int), (0 ≤ s ∧ s ≤ 255) → 256 ≤ d + s.toNat → d + 70 < n →
    lpAt E_l9Closed (lp E_l9Closed 0 n) 0 (loopAt Tryz.f167 0) (mkS [0, 1, 5] [.lst (.pair (.int .i64) (.int .i64)) R, .int .i64 s, .bool true] []) k =
      k (.exit 0) (mkS [0, 1, 5] [.lst (.pair (.int .i64) (.int .i64)) R, .int .i64 (iterP R d s), .bool false] []) := by
  induction d with
  | zero => intro n s hs hd hn; omega
  | succ d ih =>
    intro n s hs hd hn
    obtain ⟨n, rfl⟩ : ∃ m, n = m + 1 := ⟨n - 1, by omega⟩
    obtain ⟨h1, h2, h3, h4, h5⟩ := passL_spec R s false hRS hs
    rw [iterP, lpAt_def]
    conv => lhs; whnf
    repeat ((first | with_reducible apply br_tt | with_reducible apply br_ff | with_reducible apply br_nf | with_reducible apply br_nt | with_reducible refine br_d ?_ (by kernel_rfl)); conv => lhs; whnf)
    refine (lq_l9Closed R hR _ R.length _ 0 0 (s, false) rfl (Nat.zero_le _) rfl (by omega)).trans ?_
    rw [List.drop_zero]
    conv => lhs; whnf
    cases hq : (passL R (s, false)).2 with
    | true =>
      rw [cond_true]
      have hlt : s.toNat < (passL R (s, false)).1.toNat := (h4 hq).elim (fun h => by cases h) id
      exact ih n _ h1 (by omega) (by omega)
    | false =>
      rw [cond_false]
      conv => lhs; whnf
      obtain ⟨m, rfl⟩ : ∃ m, n = m + 1 := ⟨n - 1, by omega⟩
      conv => lhs; whnf
      rw [lpAt_def]
      conv => lhs; whnf
      repeat ((first | with_reducible apply br_tt | with_reducible apply br_ff | with_reducible apply br_nf | with_reducible apply br_nt | with_reducible refine br_d ?_ (by kernel_rfl)); conv => lhs; whnf)
theorem ev_l9Closed (R : List (Int × Int)) (s : Int) (hp : R.length ≤ 64 ∧ R.any badR = false ∧ (0 ≤ s ∧ s ≤ 255)) : evF E_l9Closed (400) Tryz.f167 [.lst (.pair (.int .i64) (.int .i64)) R, .int .i64 s] [] = some (.int .i64 (clR R s), []) := by
  obtain ⟨h1, h2, h3⟩ := hp
  rw [← iterP_clR (RSet_of h2) h3]
  conv => lhs; whnf
  refine (lp_l9Closed R h1 (RSet_of h2) _ 256 _ s h3 (by omega) (by change _ < 399; omega)).trans ?_
  conv => lhs; whnf
theorem ok_l9Closed : FnOk Tryz.prog 167 K_l9Closed := by
  refine fn_ok (fn := Tryz.f167) (k := Tryz.f167.ntmps) (E := E_l9Closed) (facts_of (List.forall_mem_nil _)) (by kernel_rfl) rfl (by decide +kernel) (by decide +kernel) ?_
  intro avs hin r h
  unfold K_l9Closed at h
  split at h
  · obtain ⟨hp, rfl⟩ := gd_o h
    exact ⟨_, ev_l9Closed _ _ hp, rfl⟩
  · cases h

def holdB (m : Int) (b : List Int) (p q : Int) : Bool := (isCtx m b && isSet m p) && (isSet m q && (bnot q (intentF m b (extF b p)) == 0))
theorem lecB_nat {x y : Nat} (hx : x < 64) (hy : y < 64) : lecB (x : Int) (y : Int) = lecN x y := by
  unfold lecB
  have e1 : isSet 8 (x : Int) = true := by rw [isSet8]; exact dt (by omega)
  have e2 : isSet 8 (y : Int) = true := by rw [isSet8]; exact dt (by omega)
  rw [e1, e2]
  rfl
theorem castN_getD {L : List Nat} {i : Nat} (h : i < L.length) : (castN L).getD i 0 = ((L.getD i 0 : Nat) : Int) := by
  simp [castN, List.getD_eq_getElem?_getD, List.getElem?_eq_getElem h]
def nmX (n : Int) (R : List (Int × Int)) (s : Int) : Int := ((nmV n.toNat R s.toNat : Nat) : Int)
def nmK (n : Int) (R : List (Int × Int)) (s : Int) : Bool := (nmO n.toNat R s.toNat).isSome
theorem ExI.rall {m : Int} {B : List Int} {a : Nat} {ex : List Int} {R : List (Int × Int)} (h : ExI m B a ex R) : R.all (fun r => isSet m r.1 && isSet m r.2) = true := by
  rw [List.all_eq_true]
  intro r hr
  obtain ⟨p, rfl, q2, _⟩ := h.rl r hr
  rw [set_of_lt h.ctx q2, set_of_lt h.ctx ((cl_clo h.ctx).lt p q2)]
  rfl
/-- A rule is refuted by a row, or holds. -/
theorem hold_cex {m : Int} {B : List Int} {a b : Nat} (h : isCtx m B = true) (ha : a < 2 ^ m.toNat) (hb : b < 2 ^ m.toNat) : holdB m B a b = !decide (cexF B a b ≥ 0) := by
  have hl := isCtx_len h
  have hpw := pow64 (n := m.toNat) (by omega)
  have hcl := (cl_clo h).lt a ha
  unfold holdB cexF
  rw [h, set_of_lt h ha, set_of_lt h hb, firstI_iff _ _ _ (Int.le_refl _), clN_int h (by omega), Bool.true_and, Bool.true_and, Bool.true_and, Bool.eq_iff_iff, bnotSub (by omega) (by omega), Bool.not_eq_true', List.any_eq_false, Int.toNat_natCast, Int.toNat_natCast]
  constructor
  · intro g row hr
    have hrow := ctx_small h row hr
    unfold cexB
    intro hc
    rw [Bool.and_eq_true, Bool.not_eq_true'] at hc
    have q1 := (bnotSub (by omega) hrow).1 hc.1
    rw [Int.toNat_natCast] at q1
    have q2 := sub_trans g (cl_row h (by omega) hr q1)
    have q3 := (bnotSub (p := (b : Int)) (by omega) hrow).2 (by rw [Int.toNat_natCast]; exact q2)
    rw [q3] at hc
    cases hc.2
  · intro g i hi
    have hib : (i : Int) < m := by
      rcases Nat.lt_or_ge i m.toNat with hi' | hi'
      · omega
      · rw [Nat.testBit_lt_two_pow (Nat.lt_of_lt_of_le hb (Nat.pow_le_pow_right (by omega) hi'))] at hi
        cases hi
    refine (clN_bit h (by omega) i).2 ⟨hib, fun k hk hs => ?_⟩
    have hm := mem_getD (l := B) (d := 0) hk
    have hrow := ctx_small h _ hm
    have := g _ hm
    unfold cexB at this
    rw [(bnotSub (p := (a : Int)) (by omega) hrow).2 (by rw [Int.toNat_natCast]; exact hs), Bool.true_and] at this
    have h3 : (bnot (b : Int) (B.getD k 0) == 0) = true := by simpa using this
    have h4 := (bnotSub (by omega) hrow).1 h3
    rw [Int.toNat_natCast] at h4
    exact h4 i hi
theorem lecL_length (n : Nat) : (lecL n).length = 2 ^ n := by unfold lecL; simp
def explF (m : Int) (B : List Int) : List Int × List (Int × Int) × QL := bif isCtx m B then exR m B 80 0 [] [] [] else ([], [], [])
def explM (m : Int) (B : List Int) : Int := bif isCtx m B then m else 0
theorem explF_len (m : Int) (B : List Int) : (explF m B).1.length ≤ 8 ∧ (explF m B).2.1.length ≤ 32 ∧ (explF m B).2.2.length ≤ 80 := by
  unfold explF
  cases h : isCtx m B with
  | false => exact ⟨Nat.zero_le _, Nat.zero_le _, Nat.zero_le _⟩
  | true =>
    have := exR_len 80 0 [] [] [] (ExI.start h)
    rw [cond_true]
    simp only [List.length_nil, Nat.zero_add] at this
    exact this
/- spec.l14Known -/
def K_l14Known : List AV → List Ob → Option (AV × List Ob)
  | [.agg [.int .i64 m, .lst (.int .i64) b], .lst (.int .i64) []], [] => gd (b.length ≤ 1048576) (.bool (isCtx m b), [])
  | _, _ => none
@[reducible] def E_l14Known : Env := mkE (tb [(53, K_specIsContext)]) (fun f => false) (fun r => bif r == 2 then ([1, 2, 5], [2, 4]) else ([], []))
theorem ev_l14Known (m : Int) (b : List Int) (hp : b.length ≤ 1048576) : evF E_l14Known (3) Tryz.f141 [.agg [.int .i64 m, .lst (.int .i64) b], .lst (.int .i64) []] [] = some (.bool (isCtx m b), []) := by
  conv => lhs; whnf
  rw [lpAt_def]
  conv => lhs; whnf
  refine br_f (by rfl) ?_
  conv => lhs; whnf
  conv => lhs; arg 1; whnf
  refine bnd_g (by omega) ?_
  conv => lhs; whnf
theorem ok_l14Known : FnOk Tryz.prog 141 K_l14Known := by
  refine fn_ok (fn := Tryz.f141) (k := Tryz.f141.ntmps) (E := E_l14Known) (facts_of (List.forall_mem_cons.2 ⟨ok_specIsContext, List.forall_mem_nil _⟩)) (by kernel_rfl) rfl (by decide +kernel) (by decide +kernel) ?_
  intro avs hin r h
  unfold K_l14Known at h
  split at h
  · obtain ⟨hp, rfl⟩ := gd_o h
    exact ⟨_, ev_l14Known _ _ hp, rfl⟩
  · cases h

/- spec.l14Counter -/
def K_l14Counter : List AV → List Ob → Option (AV × List Ob)
  | [.agg [.int .i64 m, .lst (.int .i64) B], .int .i64 a, .int .i64 b], [] => gd (isCtx m B = true ∧ (0 ≤ a ∧ a ≤ 255) ∧ (0 ≤ b ∧ b ≤ 255)) (.int .i64 (cexF B a b), [])
  | _, _ => none
@[reducible] def E_l14Counter : Env := mkE (tb []) (fun f => false) (fun r => bif r == 2 then ([1, 2, 3, 7], [6]) else ([], []))
theorem lp_l14Counter (m : Int) (B : List Int) (hB : B.length ≤ 8) (hs : Small B) (a b : Int) (ha : 0 ≤ a ∧ a ≤ 255) (hb : 0 ≤ b ∧ b ≤ 255) (k : AX → S → Option (AV × List Ob)) (d : Nat) : ∀ (n i : Nat) (x : Int), B.length - i = d → i ≤ B.length → x = i → d < n →
    lpAt E_l14Counter (lp E_l14Counter 0 n) 0 (loopAt Tryz.f142 0) (mkS [1, 2, 3, 7] [.int .i64 a, .int .i64 b, .ptr 0 0, .int .i64 x] [some (.box 26 [.int .i64 m, .lst (.int .i64) B])]) k =
      if (B.drop i).any (cexB a b) then k .ret (mkS [6] [.int .i64 (firstI (cexB a b) (B.drop i) i)] []) else k (.exit 0) (mkS [6] [.any] []) := by
  induction d with
  | zero =>
    intro n i x hd hi hx hn
    subst hx
    rw [List.drop_of_length_le (by omega), lpAt_def]
    conv => lhs; whnf
    refine br_f (df (by omega)) ?_
    conv => lhs; whnf
    rfl
  | succ d ih =>
    intro n i x hd hi hx hn
    obtain ⟨n, rfl⟩ : ∃ m, n = m + 1 := ⟨n - 1, by omega⟩
    subst hx
    have hih := ih n (i + 1) (IntKind.i64.wrap ((i : Int) + 1)) (by omega) (by omega) (by rw [wrap64 (n := (i : Int) + 1) (by omega) (by omega)]; simp) (by omega)
    clear ih
    have hrow := hs _ (mem_getD (l := B) (i := i) (d := 0) (by omega))
    have e1 : (band (B.getD i 0) a == a) = (bnot a (B.getD i 0) == 0) := by rw [band_comm, Bool.eq_iff_iff, bandSub ha hrow, bnotSub ha hrow]
    have e2 : (band (B.getD i 0) b != b) = !(bnot b (B.getD i 0) == 0) := by
      unfold bne
      congr 1
      rw [band_comm, Bool.eq_iff_iff, bandSub hb hrow, bnotSub hb hrow]
    rw [getD_drop (l := B) (i := i) (d := 0) (by omega), List.any_cons, firstI, lpAt_def]
    conv => lhs; whnf
    refine br_t (dt (by omega)) ?_
    conv => lhs; whnf
    refine br_t (dt2 (by omega) (by omega)) ?_
    conv => lhs; whnf
    refine br_c (fun h => ?_) (fun h => ?_)
    · have h' := e1.symm.trans h
      conv => lhs; whnf
      repeat ((first | with_reducible apply br_tt | with_reducible apply br_ff | with_reducible apply br_nf | with_reducible apply br_nt | with_reducible refine br_d ?_ (by kernel_rfl) | with_reducible apply br_t h | with_reducible apply br_f h | with_reducible refine br_t (dt2 (by omega) (by omega)) ?_ | with_reducible refine br_t (dt (by omega)) ?_); conv => lhs; whnf)
      refine br_c (fun h2 => ?_) (fun h2 => ?_)
      · have h2' := e2.symm.trans h2
        have hx : cexB a b (B.getD i 0) = true := by unfold cexB; rw [h', h2']; rfl
        conv => lhs; whnf
        repeat ((first | with_reducible apply br_tt | with_reducible apply br_ff | with_reducible apply br_nf | with_reducible apply br_nt | with_reducible refine br_d ?_ (by kernel_rfl) | with_reducible apply br_t h | with_reducible apply br_f h | with_reducible apply br_t h2 | with_reducible apply br_f h2 | with_reducible refine br_t (dt2 (by omega) (by omega)) ?_ | with_reducible refine br_t (dt (by omega)) ?_); conv => lhs; whnf)
        rw [hx, Bool.true_or, if_pos rfl, cond_true]
      · have h2' := e2.symm.trans h2
        have hx : cexB a b (B.getD i 0) = false := by unfold cexB; rw [h', h2']; rfl
        conv => lhs; whnf
        repeat ((first | with_reducible apply br_tt | with_reducible apply br_ff | with_reducible apply br_nf | with_reducible apply br_nt | with_reducible refine br_d ?_ (by kernel_rfl) | with_reducible apply br_t h | with_reducible apply br_f h | with_reducible apply br_t h2 | with_reducible apply br_f h2 | with_reducible refine br_t (dt2 (by omega) (by omega)) ?_ | with_reducible refine br_t (dt (by omega)) ?_); conv => lhs; whnf)
        rw [hx, Bool.false_or, cond_false]
        exact hih
    · have h' := e1.symm.trans h
      have hx : cexB a b (B.getD i 0) = false := by unfold cexB; rw [h']; rfl
      conv => lhs; whnf
      repeat ((first | with_reducible apply br_tt | with_reducible apply br_ff | with_reducible apply br_nf | with_reducible apply br_nt | with_reducible refine br_d ?_ (by kernel_rfl) | with_reducible apply br_t h | with_reducible apply br_f h | with_reducible refine br_t (dt2 (by omega) (by omega)) ?_ | with_reducible refine br_t (dt (by omega)) ?_); conv => lhs; whnf)
      rw [hx, Bool.false_or, cond_false]
      exact hih
theorem ev_l14Counter (m : Int) (B : List Int) (a b : Int) (hp : isCtx m B = true ∧ (0 ≤ a ∧ a ≤ 255) ∧ (0 ≤ b ∧ b ≤ 255)) : evF E_l14Counter (20) Tryz.f142 [.agg [.int .i64 m, .lst (.int .i64) B], .int .i64 a, .int .i64 b] [] = some (.int .i64 (cexF B a b), []) := by
  have hl := isCtx_len hp.1
  conv => lhs; whnf
  refine (lp_l14Counter m B hl.1 (ctx_small hp.1) a b hp.2.1 hp.2.2 _ B.length _ 0 0 rfl (Nat.zero_le _) rfl (by change _ < 19; omega)).trans ?_
  rw [List.drop_zero]
  unfold cexF
  split
  · conv => lhs; whnf
    rfl
  · rename_i he
    conv => lhs; whnf
    have : firstI (cexB a b) B 0 = -1 := firstI_none _ _ _ (by simpa using he)
    rw [this]
theorem ok_l14Counter : FnOk Tryz.prog 142 K_l14Counter := by
  refine fn_ok (fn := Tryz.f142) (k := Tryz.f142.ntmps) (E := E_l14Counter) (facts_of (List.forall_mem_nil _)) (by kernel_rfl) rfl (by decide +kernel) (by decide +kernel) ?_
  intro avs hin r h
  unfold K_l14Counter at h
  split at h
  · obtain ⟨hp, rfl⟩ := gd_o h
    exact ⟨_, ev_l14Counter _ _ _ _ hp, rfl⟩
  · cases h

/- spec.AreRules -/
def K_specAreRules : List AV → List Ob → Option (AV × List Ob)
  | [.int .i64 n, .lst (.pair (.int .i64) (.int .i64)) R], [] => gd ((0 ≤ n ∧ n ≤ 6) ∧ R.length ≤ 40 ∧ R.all (fun r => isSet n r.1 && isSet n r.2) = true) (.bool true, [])
  | _, _ => none
@[reducible] def E_specAreRules : Env := mkE (tb [(73, K_l9RuleN), (66, K_l1In)]) (fun f => false) (fun r => bif r == 2 then ([0, 1, 5], [0, 1, 4]) else ([], []))
theorem lp_specAreRules (m : Int) (R : List (Int × Int)) (hR : R.length ≤ 64) (hs : R.all (fun r => isSet m r.1 && isSet m r.2) = true) (k : AX → S → Option (AV × List Ob)) (d : Nat) : ∀ (n i : Nat) (x : Int), R.length - i = d → i ≤ R.length → x = i → d < n →
    lpAt E_specAreRules (lp E_specAreRules 0 n) 0 (loopAt Tryz.f165 0) (mkS [0, 1, 5] [.int .i64 m, .lst (.pair (.int .i64) (.int .i64)) R, .int .i64 x] []) k =
      k (.exit 0) (mkS [0, 1, 4] [.int .i64 m, .lst (.pair (.int .i64) (.int .i64)) R, .any] []) := by
  induction d with
  | zero =>
    intro n i x hd hi hx hn
    subst hx
    rw [lpAt_def]
    conv => lhs; whnf
    refine br_f (df (by omega)) ?_
    conv => lhs; whnf
  | succ d ih =>
    intro n i x hd hi hx hn
    obtain ⟨n, rfl⟩ : ∃ m, n = m + 1 := ⟨n - 1, by omega⟩
    subst hx
    have hri := List.all_eq_true.1 hs _ (mem_getD (l := R) (i := i) (d := (0, 0)) (by omega))
    have hri' : (!(isSet m (R.getD i (0, 0)).1 && isSet m (R.getD i (0, 0)).2)) = false := by rw [hri]; rfl
    rw [lpAt_def]
    conv => lhs; whnf
    refine br_t (dt (by omega)) ?_
    conv => lhs; whnf
    refine br_t (dt2 (by omega) (by omega)) ?_
    conv => lhs; whnf
    conv => lhs; arg 1; whnf
    refine bnd_g (by exact True.intro) ?_
    conv => lhs; whnf
    refine br_f (by exact hri') ?_
    conv => lhs; whnf
    exact ih n (i + 1) _ (by omega) (by omega) (by rw [wrap64 (n := (i : Int) + 1) (by omega) (by omega)]; simp) (by omega)
theorem ev_specAreRules (n : Int) (R : List (Int × Int)) (hp : (0 ≤ n ∧ n ≤ 6) ∧ R.length ≤ 40 ∧ R.all (fun r => isSet n r.1 && isSet n r.2) = true) : evF E_specAreRules (80) Tryz.f165 [.int .i64 n, .lst (.pair (.int .i64) (.int .i64)) R] [] = some (.bool true, []) := by
  conv => lhs; whnf
  refine (lp_specAreRules n R (by omega) hp.2.2 _ R.length _ 0 0 rfl (Nat.zero_le _) rfl (by change _ < 79; omega)).trans ?_
  conv => lhs; whnf
  conv => lhs; arg 1; whnf
  refine bnd_g (by exact True.intro) ?_
  conv => lhs; whnf
  have hb : decide (0 ≤ n ∧ n ≤ 6) = true := dt hp.1
  repeat ((first | with_reducible apply br_tt | with_reducible apply br_ff | with_reducible apply br_nf | with_reducible apply br_nt | with_reducible refine br_d ?_ (by kernel_rfl) | with_reducible apply br_t hb | with_reducible apply br_f hb); conv => lhs; whnf)
  refine okB ?_
  exact dt (by omega)
theorem ok_specAreRules : FnOk Tryz.prog 165 K_specAreRules := by
  refine fn_ok (fn := Tryz.f165) (k := Tryz.f165.ntmps) (E := E_specAreRules) (facts_of (List.forall_mem_cons.2 ⟨ok_l9RuleN, List.forall_mem_cons.2 ⟨ok_l1In, List.forall_mem_nil _⟩⟩)) (by kernel_rfl) rfl (by decide +kernel) (by decide +kernel) ?_
  intro avs hin r h
  unfold K_specAreRules at h
  split at h
  · obtain ⟨hp, rfl⟩ := gd_o h
    exact ⟨_, ev_specAreRules _ _ hp, rfl⟩
  · cases h

/- spec.NextModel -/
def K_specNextModel : List AV → List Ob → Option (AV × List Ob)
  | [.int .i64 n, .lst (.pair (.int .i64) (.int .i64)) R, .int .i64 s], [] => gd ((0 ≤ n ∧ n ≤ 6) ∧ R.length ≤ 40 ∧ R.all (fun r => isSet n r.1 && isSet n r.2) = true ∧ isSet n s = true) (.tup [.int .i64 (nmX n R s), .bool (nmK n R s)], [])
  | _, _ => none
@[reducible] def E_specNextModel : Env := mkE (tb [(165, K_specAreRules), (54, K_specIsSet), (103, K_specFullSet), (166, K_specBeforeSet), (167, K_l9Closed)]) (fun f => false) (fun r => bif r == 6 then ([0, 1, 2, 8, 9, 10], [8, 9]) else ([], []))
theorem lp_specNextModel (m : Int) (hm : 0 ≤ m ∧ m ≤ 6) (R : List (Int × Int)) (hR : R.length ≤ 64) (hb : R.any badR = false) (a : Nat) (ha : a < 64) (k : AX → S → Option (AV × List Ob)) (d : Nat) : ∀ (n t : Nat) (x : Int) (b : Option Nat), t + d = 2 ^ m.toNat → x = t → d < n → (∀ y, b = some y → y < t) →
    lpAt E_specNextModel (lp E_specNextModel 0 n) 0 (loopAt Tryz.f143 0) (mkS [0, 1, 2, 8, 9, 10] [.int .i64 m, .lst (.pair (.int .i64) (.int .i64)) R, .int .i64 (a : Int), .int .i64 ((b.getD 0 : Nat) : Int), .bool b.isSome, .int .i64 x] []) k =
      k (.exit 0) (mkS [8, 9] [.int .i64 (((nmS (modB R a) d t b).getD 0 : Nat) : Int), .bool (nmS (modB R a) d t b).isSome] []) := by
  have hpw := pow64 (n := m.toNat) (by omega)
  have hfull := full_nat hm.1 hm.2
  induction d with
  | zero =>
    intro n t x b hd hx hn hy
    subst hx
    have hf : decide ((t : Int) ≤ fullSet m) = false := df (by rw [hfull]; omega)
    rw [lpAt_def]
    conv => lhs; whnf
    conv => lhs; arg 1; whnf
    refine bnd_g (by exact True.intro) ?_
    conv => lhs; whnf
    repeat ((first | with_reducible apply br_tt | with_reducible apply br_ff | with_reducible apply br_nf | with_reducible apply br_nt | with_reducible refine br_d ?_ (by kernel_rfl) | with_reducible apply br_t hf | with_reducible apply br_f hf); conv => lhs; whnf)
    rfl
  | succ d ih =>
    intro n t x b hd hx hn hy
    obtain ⟨n, rfl⟩ : ∃ m, n = m + 1 := ⟨n - 1, by omega⟩
    subst hx
    have hih := fun b' hb' => ih n (t + 1) (IntKind.i64.wrap ((t : Int) + 1)) b' (by omega) (by rw [wrap64 (n := (t : Int) + 1) (by omega) (by omega)]; simp) (by omega) hb'
    clear ih
    have hf : decide ((t : Int) ≤ fullSet m) = true := dt (by rw [hfull]; omega)
    have hlb := lecB_nat (x := a) (y := t) ha (by omega)
    have hyy : ∀ y, b = some y → y < t + 1 := fun y h => by have := hy y h; omega
    have hR0 : modB R a t = false → nmS (modB R a) (d + 1) t b = nmS (modB R a) d (t + 1) b := fun e => by
      show nmS (modB R a) d (t + 1) _ = _
      rw [e]
      rfl
    rw [lpAt_def]
    conv => lhs; whnf
    conv => lhs; arg 1; whnf
    refine bnd_g (by exact True.intro) ?_
    conv => lhs; whnf
    repeat ((first | with_reducible apply br_tt | with_reducible apply br_ff | with_reducible apply br_nf | with_reducible apply br_nt | with_reducible refine br_d ?_ (by kernel_rfl) | with_reducible apply br_t hf | with_reducible apply br_f hf); conv => lhs; whnf)
    conv => lhs; arg 1; whnf
    refine bnd_g (by exact ⟨by omega, by omega⟩) ?_
    conv => lhs; whnf
    repeat ((first | with_reducible apply br_tt | with_reducible apply br_ff | with_reducible apply br_nf | with_reducible apply br_nt | with_reducible refine br_d ?_ (by kernel_rfl) | with_reducible apply br_t hf | with_reducible apply br_f hf); conv => lhs; whnf)
    refine br_c (fun h => ?_) (fun h => ?_)
    · have h' : lecN a t = true := hlb.symm.trans h
      conv => lhs; whnf
      repeat ((first | with_reducible apply br_tt | with_reducible apply br_ff | with_reducible apply br_nf | with_reducible apply br_nt | with_reducible refine br_d ?_ (by kernel_rfl) | with_reducible apply br_t h | with_reducible apply br_f h); conv => lhs; whnf)
      conv => lhs; arg 1; whnf
      refine bnd_g (by exact ⟨hR, hb, by omega⟩) ?_
      conv => lhs; whnf
      repeat ((first | with_reducible apply br_tt | with_reducible apply br_ff | with_reducible apply br_nf | with_reducible apply br_nt | with_reducible refine br_d ?_ (by kernel_rfl) | with_reducible apply br_t h | with_reducible apply br_f h); conv => lhs; whnf)
      refine br_c (fun h2 => ?_) (fun h2 => ?_)
      · have h2' : (clR R (t : Int) == (t : Int)) = true := h2
        have hmt : modB R a t = true := by unfold modB; rw [h', h2']; rfl
        conv => lhs; whnf
        repeat ((first | with_reducible apply br_tt | with_reducible apply br_ff | with_reducible apply br_nf | with_reducible apply br_nt | with_reducible refine br_d ?_ (by kernel_rfl) | with_reducible apply br_t h | with_reducible apply br_f h | with_reducible apply br_t h2 | with_reducible apply br_f h2); conv => lhs; whnf)
        cases b with
        | none =>
          have g0 : (!(none : Option Nat).isSome) = true := rfl
          conv => lhs; whnf
          repeat ((first | with_reducible apply br_tt | with_reducible apply br_ff | with_reducible apply br_nf | with_reducible apply br_nt | with_reducible refine br_d ?_ (by kernel_rfl) | with_reducible apply br_t h | with_reducible apply br_f h | with_reducible apply br_t h2 | with_reducible apply br_f h2 | with_reducible apply br_t g0 | with_reducible apply br_f g0); conv => lhs; whnf)
          refine (hih (some t) (fun y h => by cases h; omega)).trans ?_
          have e : nmS (modB R a) (d + 1) t none = nmS (modB R a) d (t + 1) (some t) := by
            show nmS (modB R a) d (t + 1) _ = _
            rw [hmt]
            rfl
          rw [e]
        | some y =>
          have hyt := hy y rfl
          have hly := lecB_nat (x := t) (y := y) (by omega) (by omega)
          have g0 : (!(some y : Option Nat).isSome) = false := rfl
          conv => lhs; whnf
          repeat ((first | with_reducible apply br_tt | with_reducible apply br_ff | with_reducible apply br_nf | with_reducible apply br_nt | with_reducible refine br_d ?_ (by kernel_rfl) | with_reducible apply br_t h | with_reducible apply br_f h | with_reducible apply br_t h2 | with_reducible apply br_f h2 | with_reducible apply br_t g0 | with_reducible apply br_f g0); conv => lhs; whnf)
          conv => lhs; arg 1; whnf
          refine bnd_g (by exact ⟨by omega, by dsimp only [Option.getD_some]; omega⟩) ?_
          conv => lhs; whnf
          repeat ((first | with_reducible apply br_tt | with_reducible apply br_ff | with_reducible apply br_nf | with_reducible apply br_nt | with_reducible refine br_d ?_ (by kernel_rfl) | with_reducible apply br_t h | with_reducible apply br_f h | with_reducible apply br_t h2 | with_reducible apply br_f h2 | with_reducible apply br_t g0 | with_reducible apply br_f g0); conv => lhs; whnf)
          have e : ∀ c, lecN t y = c → nmS (modB R a) (d + 1) t (some y) = nmS (modB R a) d (t + 1) (bif c then some t else some y) := fun c hc => by
            show nmS (modB R a) d (t + 1) _ = _
            rw [hmt]
            dsimp only
            rw [hc, Bool.true_and]
          refine br_c (fun h3 => ?_) (fun h3 => ?_)
          · have h3' : lecN t y = true := hly.symm.trans h3
            conv => lhs; whnf
            repeat ((first | with_reducible apply br_tt | with_reducible apply br_ff | with_reducible apply br_nf | with_reducible apply br_nt | with_reducible refine br_d ?_ (by kernel_rfl) | with_reducible apply br_t h | with_reducible apply br_f h | with_reducible apply br_t h2 | with_reducible apply br_f h2 | with_reducible apply br_t h3 | with_reducible apply br_f h3 | with_reducible apply br_t g0 | with_reducible apply br_f g0); conv => lhs; whnf)
            refine (hih (some t) (fun y h => by cases h; omega)).trans ?_
            rw [e true h3', cond_true]
          · have h3' : lecN t y = false := hly.symm.trans h3
            conv => lhs; whnf
            repeat ((first | with_reducible apply br_tt | with_reducible apply br_ff | with_reducible apply br_nf | with_reducible apply br_nt | with_reducible refine br_d ?_ (by kernel_rfl) | with_reducible apply br_t h | with_reducible apply br_f h | with_reducible apply br_t h2 | with_reducible apply br_f h2 | with_reducible apply br_t h3 | with_reducible apply br_f h3 | with_reducible apply br_t g0 | with_reducible apply br_f g0); conv => lhs; whnf)
            refine (hih (some y) hyy).trans ?_
            rw [e false h3', cond_false]
      · have h2' : (clR R (t : Int) == (t : Int)) = false := h2
        have hmt : modB R a t = false := by unfold modB; rw [h', h2']; rfl
        conv => lhs; whnf
        repeat ((first | with_reducible apply br_tt | with_reducible apply br_ff | with_reducible apply br_nf | with_reducible apply br_nt | with_reducible refine br_d ?_ (by kernel_rfl) | with_reducible apply br_t h | with_reducible apply br_f h | with_reducible apply br_t h2 | with_reducible apply br_f h2); conv => lhs; whnf)
        refine (hih b hyy).trans ?_
        rw [hR0 hmt]
    · have h' : lecN a t = false := hlb.symm.trans h
      have hmt : modB R a t = false := by unfold modB; rw [h']; rfl
      conv => lhs; whnf
      repeat ((first | with_reducible apply br_tt | with_reducible apply br_ff | with_reducible apply br_nf | with_reducible apply br_nt | with_reducible refine br_d ?_ (by kernel_rfl) | with_reducible apply br_t h | with_reducible apply br_f h); conv => lhs; whnf)
      refine (hih b hyy).trans ?_
      rw [hR0 hmt]
theorem ev_specNextModel (n : Int) (R : List (Int × Int)) (s : Int) (hp : (0 ≤ n ∧ n ≤ 6) ∧ R.length ≤ 40 ∧ R.all (fun r => isSet n r.1 && isSet n r.2) = true ∧ isSet n s = true) : evF E_specNextModel (80) Tryz.f143 [.int .i64 n, .lst (.pair (.int .i64) (.int .i64)) R, .int .i64 s] [] = some (.tup [.int .i64 (nmX n R s), .bool (nmK n R s)], []) := by
  obtain ⟨h1, h2, h3, h4⟩ := hp
  have hpw := pow64 (n := n.toNat) (by omega)
  obtain ⟨a, rfl, ha⟩ := isSet_ex h4
  have hb : R.any badR = false := by
    rw [List.any_eq_false]
    intro r hr
    have := List.all_eq_true.1 h3 r hr
    rw [Bool.and_eq_true] at this
    unfold badR
    rw [isSet_8 this.1, isSet_8 this.2]
    decide
  have g4 : (!isSet n (a : Int)) = false := by rw [h4]; rfl
  conv => lhs; whnf
  conv => lhs; arg 1; whnf
  refine bnd_g (by exact ⟨h1, h2, h3⟩) ?_
  conv => lhs; whnf
  repeat ((first | with_reducible apply br_tt | with_reducible apply br_ff | with_reducible apply br_nf | with_reducible apply br_nt | with_reducible refine br_d ?_ (by kernel_rfl)); conv => lhs; whnf)
  conv => lhs; arg 1; whnf
  refine bnd_g (by exact True.intro) ?_
  conv => lhs; whnf
  repeat ((first | with_reducible apply br_tt | with_reducible apply br_ff | with_reducible apply br_nf | with_reducible apply br_nt | with_reducible refine br_d ?_ (by kernel_rfl) | with_reducible apply br_t g4 | with_reducible apply br_f g4); conv => lhs; whnf)
  refine (lp_specNextModel n h1 R (by omega) hb a (by omega) _ (2 ^ n.toNat) _ 0 0 none (by omega) rfl (by change _ < 79; omega) (fun y h => by cases h)).trans ?_
  rw [nmO_eq (by omega)]
  conv => lhs; whnf
  unfold nmX nmK nmV
  rw [Int.toNat_natCast]
theorem ok_specNextModel : FnOk Tryz.prog 143 K_specNextModel := by
  refine fn_ok (fn := Tryz.f143) (k := Tryz.f143.ntmps) (E := E_specNextModel) (facts_of (List.forall_mem_cons.2 ⟨ok_specAreRules, List.forall_mem_cons.2 ⟨ok_specIsSet, List.forall_mem_cons.2 ⟨ok_specFullSet, List.forall_mem_cons.2 ⟨ok_specBeforeSet, List.forall_mem_cons.2 ⟨ok_l9Closed, List.forall_mem_nil _⟩⟩⟩⟩⟩)) (by kernel_rfl) rfl (by decide +kernel) (by decide +kernel) ?_
  intro avs hin r h
  unfold K_specNextModel at h
  split at h
  · obtain ⟨hp, rfl⟩ := gd_o h
    exact ⟨_, ev_specNextModel _ _ _ hp, rfl⟩
  · cases h

/- spec.Explore -/
def K_specExplore : List AV → List Ob → Option (AV × List Ob)
  | [.agg [.int .i64 m, .lst (.int .i64) B], .lst (.int .i64) []], [] => gd (B.length ≤ 1048576) (.tup [.agg [.own 0, .own 1, .int .i64 (explM m B), .own 2], .bool (isCtx m B)], [.row 97 (.pair (.pair (.int .i64) (.int .i64)) (.pair .bool (.int .i64))) (explF m B).2.2, .row 48 (.pair (.int .i64) (.int .i64)) (explF m B).2.1, .row 3 (.int .i64) (explF m B).1])
  | _, _ => none
@[reducible] def E_specExplore : Env := mkE (tb [(141, K_l14Known), (103, K_specFullSet), (70, K_specClosure), (142, K_l14Counter), (143, K_specNextModel)]) (fun f => false) (fun r => bif r == 5 then ([1, 2, 4, 6, 7], [2, 4, 6]) else bif r == 9 then ([2, 4, 6, 8], [2, 4, 6, 8]) else ([], []))
set_option maxHeartbeats 40000000 in
theorem lp_specExplore (m : Int) (B : List Int) (k : AX → S → Option (AV × List Ob)) (d : Nat) : ∀ (n a : Nat) (ex : List Int) (R : List (Int × Int)) (Q : QL), ExI m B a ex R → (64 - brev 6 a) + (8 - ex.length) ≤ d → d < n → Q.length + d ≤ 200 →
    lpAt E_specExplore (lp E_specExplore 0 n) 0 (loopAt Tryz.f95 1) (mkS [2, 4, 6, 8] [.ptr 0 0, .ptr 1 0, .ptr 5 0, .int .i64 (a : Int)] [some (.box 26 [.int .i64 m, .lst (.int .i64) B]), some (.box 60 [.own 2, .own 3, .int .i64 0, .own 4]), some (.row 97 (.pair (.pair (.int .i64) (.int .i64)) (.pair .bool (.int .i64))) []), some (.row 48 (.pair (.int .i64) (.int .i64)) []), some (.row 3 (.int .i64) []), some (.box 60 [.own 6, .own 7, .int .i64 m, .own 8]), some (.row 97 (.pair (.pair (.int .i64) (.int .i64)) (.pair .bool (.int .i64))) Q), some (.row 48 (.pair (.int .i64) (.int .i64)) R), some (.row 3 (.int .i64) ex)]) k =
      k (.exit 2) (mkS [2, 4, 6, 8] [.ptr 0 0, .ptr 1 0, .ptr 5 0, .int .i64 (fullSet m)] [some (.box 26 [.int .i64 m, .lst (.int .i64) B]), some (.box 60 [.own 2, .own 3, .int .i64 0, .own 4]), some (.row 97 (.pair (.pair (.int .i64) (.int .i64)) (.pair .bool (.int .i64))) []), some (.row 48 (.pair (.int .i64) (.int .i64)) []), some (.row 3 (.int .i64) []), some (.box 60 [.own 6, .own 7, .int .i64 m, .own 8]), some (.row 97 (.pair (.pair (.int .i64) (.int .i64)) (.pair .bool (.int .i64))) (exR m B d a ex R Q).2.2), some (.row 48 (.pair (.int .i64) (.int .i64)) (exR m B d a ex R Q).2.1), some (.row 3 (.int .i64) (exR m B d a ex R Q).1)]) := by
  induction d with
  | zero =>
    intro n a ex R Q hI hd hn hq
    have := hI.pos
    omega
  | succ d ih =>
    intro n a ex R Q hI hd hn hq
    obtain ⟨n, rfl⟩ : ∃ m, n = m + 1 := ⟨n - 1, by omega⟩
    have hl := isCtx_len hI.ctx
    have hpw := pow64 (n := m.toNat) (by omega)
    have hlt := hI.lt
    have hpos := hI.pos
    have hexl := hI.exlen
    have hRl := hI.len
    have hce := hI.ctxe
    have hcl := (cl_clo hce).lt a hlt
    have hci := clN_int hce (s := a) (by omega)
    have hset := set_of_lt hI.ctx hlt
    have hrb : 0 ≤ intentF m ex (extF ex (a : Int)) ∧ intentF m ex (extF ex (a : Int)) ≤ 255 := by rw [hci]; omega
    rw [exR, lpAt_def]
    conv => lhs; whnf
    conv => lhs; arg 1; whnf
    refine bnd_g (by exact True.intro) ?_
    conv => lhs; whnf
    refine br_c (fun h => ?_) (fun h => ?_)
    · have h1 : ((a : Int) == fullSet m) = false := by
        have h : ((a : Int) != fullSet m) = true := h
        rw [bne, Bool.not_eq_true'] at h
        exact h
      have hf : ¬ (a : Int) = fullSet m := by simpa using h1
      conv => lhs; whnf
      conv => lhs; arg 1; whnf
      refine bnd_g (by exact ⟨hce, by omega, by omega⟩) ?_
      conv => lhs; whnf
      conv => lhs; arg 1; whnf
      refine bnd_g (by exact ⟨hI.ctx, by omega, hrb⟩) ?_
      conv => lhs; whnf
      refine br_c (fun h2 => ?_) (fun h2 => ?_)
      · have h2' : ((a : Int) == ((clN m ex a : Nat) : Int)) = false := by
          have h2 : ((a : Int) != intentF m ex (extF ex (a : Int))) = true := h2
          rw [hci, bne, Bool.not_eq_true'] at h2
          exact h2
        have hne : ¬ (a : Int) = ((clN m ex a : Nat) : Int) := by simpa using h2'
        conv => lhs; whnf
        repeat ((first | with_reducible apply br_tt | with_reducible apply br_ff | with_reducible apply br_nf | with_reducible apply br_nt | with_reducible refine br_d ?_ (by kernel_rfl) | with_reducible apply br_t h2 | with_reducible apply br_f h2); conv => lhs; whnf)
        refine br_c (fun h3 => ?_) (fun h3 => ?_)
        · have h3' : decide (cexF B a (clN m ex a : Nat) ≥ 0) = true := by
            have h3 : decide (cexF B a (intentF m ex (extF ex (a : Int))) ≥ 0) = true := h3
            rw [hci] at h3
            exact h3
          have g := hI.counter (ofd h3')
          have g1 := g.1
          have g2 := g.2
          have g0 := ofd h3'
          have hih := ih n a _ R (Q ++ [(((a : Int), ((clN m ex a : Nat) : Int)), false, cexF B a (clN m ex a : Nat))]) g2 (by have := g2.exlen; simp only [List.length_append, List.length_singleton] at this ⊢; omega) (by omega) (by simp only [List.length_append, List.length_singleton]; omega)
          rw [← hci] at hih g0 g1
          conv => rhs; rw [h1, cond_false, h2', cond_false, h3', cond_true, ← hci]
          conv => lhs; whnf
          repeat ((first | with_reducible apply br_tt | with_reducible apply br_ff | with_reducible apply br_nf | with_reducible apply br_nt | with_reducible refine br_d ?_ (by kernel_rfl) | with_reducible apply br_t h2 | with_reducible apply br_f h2 | with_reducible apply br_t h3 | with_reducible apply br_f h3); conv => lhs; whnf)
          refine br_t (dt (by simp [room]; omega)) ?_
          conv => lhs; whnf
          refine br_t (dt2 g0 (by omega)) ?_
          conv => lhs; whnf
          refine br_t (dt (by simp [room]; omega)) ?_
          conv => lhs; whnf
          repeat ((first | with_reducible apply br_tt | with_reducible apply br_ff | with_reducible apply br_nf | with_reducible apply br_nt | with_reducible refine br_d ?_ (by kernel_rfl)); conv => lhs; whnf)
          exact hih
        · have h3' : decide (cexF B a (clN m ex a : Nat) ≥ 0) = false := by
            have h3 : decide (cexF B a (intentF m ex (extF ex (a : Int))) ≥ 0) = false := h3
            rw [hci] at h3
            exact h3
          have g := hI.accept hf hne (ofn h3')
          have g1 := g.1
          have g2 := g.2.1
          have g3 := g.2.2
          have g4 := g2.len
          have g5 : (R ++ [((a : Int), ((clN m ex a : Nat) : Int))]).all (fun r => isSet m r.1 && isSet m r.2) = true := by
            exact g2.rall
          have hih := ih n (nmV m.toNat (R ++ [((a : Int), ((clN m ex a : Nat) : Int))]) a) ex _ (Q ++ [(((a : Int), ((clN m ex a : Nat) : Int)), true, -1)]) g2 (by omega) (by omega) (by simp only [List.length_append, List.length_singleton]; omega)
          rw [← hci] at hih g4 g5
          conv => rhs; rw [h1, cond_false, h2', cond_false, h3', cond_false, ← hci]
          conv => lhs; whnf
          repeat ((first | with_reducible apply br_tt | with_reducible apply br_ff | with_reducible apply br_nf | with_reducible apply br_nt | with_reducible refine br_d ?_ (by kernel_rfl) | with_reducible apply br_t h2 | with_reducible apply br_f h2 | with_reducible apply br_t h3 | with_reducible apply br_f h3); conv => lhs; whnf)
          refine br_t (dt (by simp [room]; omega)) ?_
          conv => lhs; whnf
          refine br_t (dt (by simp [room]; omega)) ?_
          conv => lhs; whnf
          conv => lhs; arg 1; whnf
          refine bnd_g (by exact ⟨⟨by omega, by omega⟩, Nat.le_trans g4 (by omega), g5, hset⟩) ?_
          conv => lhs; whnf
          exact hih
      · have h2' : ((a : Int) == ((clN m ex a : Nat) : Int)) = true := by
          have h2 : ((a : Int) != intentF m ex (extF ex (a : Int))) = false := h2
          rw [hci, bne, Bool.not_eq_false'] at h2
          exact h2
        have g := hI.move hf
        have g1 := g.1
        have g2 := g.2.1
        have g3 := g.2.2
        have g5 : R.all (fun r => isSet m r.1 && isSet m r.2) = true := by
          exact g2.rall
        have hih := ih n (nmV m.toNat R a) ex R Q g2 (by omega) (by omega) (by omega)
        conv => rhs; rw [h1, cond_false, h2', cond_true]
        conv => lhs; whnf
        repeat ((first | with_reducible apply br_tt | with_reducible apply br_ff | with_reducible apply br_nf | with_reducible apply br_nt | with_reducible refine br_d ?_ (by kernel_rfl) | with_reducible apply br_t h2 | with_reducible apply br_f h2); conv => lhs; whnf)
        conv => lhs; arg 1; whnf
        refine bnd_g (by exact ⟨⟨by omega, by omega⟩, by omega, g5, hset⟩) ?_
        conv => lhs; whnf
        exact hih
    · have h1 : ((a : Int) == fullSet m) = true := by
        have h : ((a : Int) != fullSet m) = false := h
        rw [bne, Bool.not_eq_false'] at h
        exact h
      have hf : (a : Int) = fullSet m := by simpa using h1
      conv => rhs; rw [h1, cond_true, ← hf]
      conv => lhs; whnf
theorem ev_specExplore (m : Int) (B : List Int) (hp : B.length ≤ 1048576) : evF E_specExplore (100) Tryz.f95 [.agg [.int .i64 m, .lst (.int .i64) B], .lst (.int .i64) []] [] = some (.tup [.agg [.own 0, .own 1, .int .i64 (explM m B), .own 2], .bool (isCtx m B)], [.row 97 (.pair (.pair (.int .i64) (.int .i64)) (.pair .bool (.int .i64))) (explF m B).2.2, .row 48 (.pair (.int .i64) (.int .i64)) (explF m B).2.1, .row 3 (.int .i64) (explF m B).1]) := by
  conv => lhs; whnf
  conv => lhs; arg 1; whnf
  refine bnd_g (by omega) ?_
  conv => lhs; whnf
  unfold explF explM
  refine br_c (fun h => ?_) (fun h => ?_)
  · conv => rhs; rw [bnt h]
    conv => lhs; whnf
    rfl
  · have hc := bnf h
    have hI := ExI.start hc
    have hpos := hI.pos
    conv => rhs; rw [hc, cond_true]
    conv => lhs; whnf
    rw [lpAt_def]
    conv => lhs; whnf
    refine br_f (by rfl) ?_
    conv => lhs; whnf
    refine (lp_specExplore m B _ 80 _ 0 [] [] [] hI (by simp only [List.length_nil]; omega) (by change _ < 99; omega) (by simp)).trans ?_
    conv => lhs; whnf
    rfl
theorem ok_specExplore : FnOk Tryz.prog 95 K_specExplore := by
  refine fn_ok (fn := Tryz.f95) (k := Tryz.f95.ntmps) (E := E_specExplore) (facts_of (List.forall_mem_cons.2 ⟨ok_l14Known, List.forall_mem_cons.2 ⟨ok_specFullSet, List.forall_mem_cons.2 ⟨ok_specClosure, List.forall_mem_cons.2 ⟨ok_l14Counter, List.forall_mem_cons.2 ⟨ok_specNextModel, List.forall_mem_nil _⟩⟩⟩⟩⟩)) (by kernel_rfl) rfl (by decide +kernel) (by decide +kernel) ?_
  intro avs hin r h
  unfold K_specExplore at h
  split at h
  · obtain ⟨hp, rfl⟩ := gd_o h
    exact ⟨_, ev_specExplore _ _ hp, rfl⟩
  · cases h

/- impl.Explore$1 -/
def K_explCex : List AV → List Ob → Option (AV × List Ob)
  | [.int .i64 x, .vptr [.int .i64 a] 0, .vptr [.int .i64 b] 0], [] => gd (True) (.bool (cexB a b x), [])
  | _, _ => none
@[reducible] def E_explCex : Env := mkE (tb [(91, K_inSet)]) (fun f => false) (fun r => ([], []))
theorem ev_explCex (a b x : Int) (hp : True) : evF E_explCex (1) Tryz.f140 [.int .i64 x, .vptr [.int .i64 a] 0, .vptr [.int .i64 b] 0] [] = some (.bool (cexB a b x), []) := by
  conv => lhs; whnf
  conv => lhs; arg 1; whnf
  refine bnd_g (by exact True.intro) ?_
  conv => lhs; whnf
  refine br_c (fun h => ?_) (fun h => ?_)
  · have h' : (bnot a x == 0) = true := h
    conv => lhs; whnf
    repeat ((first | with_reducible apply br_tt | with_reducible apply br_ff | with_reducible apply br_nf | with_reducible apply br_nt | with_reducible refine br_d ?_ (by kernel_rfl) | with_reducible apply br_t h | with_reducible apply br_f h); conv => lhs; whnf)
    conv => lhs; arg 1; whnf
    refine bnd_g (by exact True.intro) ?_
    conv => lhs; whnf
    repeat ((first | with_reducible apply br_tt | with_reducible apply br_ff | with_reducible apply br_nf | with_reducible apply br_nt | with_reducible refine br_d ?_ (by kernel_rfl) | with_reducible apply br_t h | with_reducible apply br_f h); conv => lhs; whnf)
    refine okB ?_
    unfold cexB
    rw [h', Bool.true_and]
  · have h' : (bnot a x == 0) = false := h
    conv => lhs; whnf
    repeat ((first | with_reducible apply br_tt | with_reducible apply br_ff | with_reducible apply br_nf | with_reducible apply br_nt | with_reducible refine br_d ?_ (by kernel_rfl) | with_reducible apply br_t h | with_reducible apply br_f h); conv => lhs; whnf)
    refine okB ?_
    unfold cexB
    rw [h', Bool.false_and]
theorem ok_explCex : FnOk Tryz.prog 140 K_explCex := by
  refine fn_ok (fn := Tryz.f140) (k := Tryz.f140.ntmps) (E := E_explCex) (facts_of (List.forall_mem_cons.2 ⟨ok_inSet, List.forall_mem_nil _⟩)) (by kernel_rfl) rfl (by decide +kernel) (by decide +kernel) ?_
  intro avs hin r h
  unfold K_explCex at h
  split at h
  · obtain ⟨hp, rfl⟩ := gd_o h
    exact ⟨_, ev_explCex _ _ _ hp, rfl⟩
  · cases h

end Go.Sym
