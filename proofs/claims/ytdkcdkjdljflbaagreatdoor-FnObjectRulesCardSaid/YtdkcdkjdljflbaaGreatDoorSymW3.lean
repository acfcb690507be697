/- Functions of the program, each told as a plain equation. -/
import Derived.Test.YtdkcdkjdljflbaaGreatDoorSymW2
namespace Go.Sym
open Go.Proofs
set_option linter.unusedVariables false
set_option linter.unusedSimpArgs false
set_option maxRecDepth 100000
set_option maxHeartbeats 4000000

/-- Pseudo-closed sets. -/
def Pseudo (cl : Nat → Nat) (s : Nat) : Prop := cl s ≠ s ∧ ∀ p, p < s → SubN p s → Pseudo cl p → SubN (cl p) s
termination_by s
decreasing_by assumption
theorem pseudo_iff (cl : Nat → Nat) (s : Nat) : Pseudo cl s ↔ cl s ≠ s ∧ ∀ p, p < s → SubN p s → Pseudo cl p → SubN (cl p) s := by
  conv => lhs; unfold Pseudo
noncomputable def psB (cl : Nat → Nat) (s : Nat) : Bool := @decide (Pseudo cl s) (Classical.propDecidable _)
theorem psB_iff {cl : Nat → Nat} {s : Nat} : psB cl s = true ↔ Pseudo cl s := by
  unfold psB
  exact @decide_eq_true_iff _ (Classical.propDecidable _)
def greedy (ok : List Nat → Nat → Bool) : List Nat → List Nat → List Nat
  | [], out => out
  | s :: r, out => greedy ok r (bif ok out s then out ++ [s] else out)
theorem psub_lt {p s : Nat} (h : SubN p s) (hne : p ≠ s) : p < s := by
  have e : p &&& s = p := by
    apply Nat.eq_of_testBit_eq
    intro i
    rw [Nat.testBit_and]
    cases hb : p.testBit i
    · rfl
    · rw [h i hb]; rfl
  have : p &&& s ≤ s := Nat.and_le_right
  omega
/-- A choice that goes by what is there gives the pseudo-closed sets, in any order that has subsets first. -/
theorem greedy_ps {cl : Nat → Nat} {ok : List Nat → Nat → Bool} (N : Nat)
    (hok : ∀ out s, s < N → s ∉ out → (∀ x ∈ out, x < N) → (ok out s = true ↔ cl s ≠ s ∧ ∀ p ∈ out, p ≠ s → SubN p s → SubN (cl p) s)) :
    ∀ (todo done : List Nat), (∀ x ∈ done ++ todo, x < N) → (∀ (a : List Nat) (s : Nat) (b : List Nat), todo = a ++ s :: b → s ∉ done ++ a ∧ ∀ p, p < N → SubN p s → p ≠ s → p ∈ done ++ a) →
      greedy ok todo (done.filter (psB cl)) = (done ++ todo).filter (psB cl)
  | [], done, _, _ => by rw [greedy, List.append_nil]
  | s :: r, done, hN, h => by
    obtain ⟨h1, h2⟩ := h [] s r rfl
    rw [List.append_nil] at h1 h2
    have hs : s < N := hN s (by simp)
    have e : ok (done.filter (psB cl)) s = psB cl s := by
      rw [Bool.eq_iff_iff, hok _ s hs (fun hx => h1 (List.mem_filter.1 hx).1) (fun x hx => hN x (List.mem_append_left _ (List.mem_filter.1 hx).1)), psB_iff, pseudo_iff]
      refine and_congr_right fun _ => ⟨fun g p hp hsub hps => ?_, fun g p hp hne hsub => ?_⟩
      · exact g p (List.mem_filter.2 ⟨h2 p (by omega) hsub (by omega), psB_iff.2 hps⟩) (by omega) hsub
      · exact g p (psub_lt hsub hne) hsub (psB_iff.1 (List.mem_filter.1 hp).2)
    have e2 : (bif ok (done.filter (psB cl)) s then done.filter (psB cl) ++ [s] else done.filter (psB cl)) = (done ++ [s]).filter (psB cl) := by
      rw [e, List.filter_append, List.filter_cons]
      cases psB cl s <;> simp
    rw [greedy, e2, greedy_ps N hok r (done ++ [s]) (by simpa [List.append_assoc] using hN) (fun a t b hr => ?_), List.append_assoc]
    · rfl
    · obtain ⟨g1, g2⟩ := h (s :: a) t b (by rw [hr]; rfl)
      rw [List.append_assoc]
      exact ⟨g1, g2⟩
def chkO : List Nat → Bool
  | [] => true
  | s :: r => r.all (fun p => !(p &&& s == p)) && chkO r
theorem chkO_mid : ∀ (a : List Nat) (s : Nat) (b : List Nat), chkO (a ++ s :: b) = true → (∀ p ∈ b, p &&& s ≠ p) ∧ s ∉ a
  | [], s, b, h => by
    simp only [List.nil_append, chkO, Bool.and_eq_true, List.all_eq_true, Bool.not_eq_true', beq_eq_false_iff_ne] at h
    exact ⟨h.1, by simp⟩
  | x :: a, s, b, h => by
    simp only [List.cons_append, chkO, Bool.and_eq_true, List.all_eq_true, Bool.not_eq_true', beq_eq_false_iff_ne] at h
    obtain ⟨h1, h2⟩ := chkO_mid a s b h.2
    refine ⟨h1, fun hs => ?_⟩
    rcases List.mem_cons.1 hs with rfl | hs
    · exact h.1 s (by simp) (Nat.and_self s)
    · exact h2 hs
theorem order_ps {cl : Nat → Nat} {ok : List Nat → Nat → Bool} {N : Nat} {L : List Nat} (hL : chkO L = true) (hN : ∀ x ∈ L, x < N) (hall : ∀ x, x < N → x ∈ L)
    (hok : ∀ out s, s < N → s ∉ out → (∀ x ∈ out, x < N) → (ok out s = true ↔ cl s ≠ s ∧ ∀ p ∈ out, p ≠ s → SubN p s → SubN (cl p) s)) : greedy ok L [] = L.filter (psB cl) := by
  refine greedy_ps N hok L [] hN fun a s b hab => ?_
  rw [hab] at hL
  obtain ⟨h1, h2⟩ := chkO_mid a s b hL
  refine ⟨h2, fun p hp hsub hne => ?_⟩
  have hm := hall p hp
  rw [hab] at hm
  rcases List.mem_append.1 hm with hm | hm
  · exact hm
  · rcases List.mem_cons.1 hm with rfl | hm
    · exact absurd rfl hne
    · refine absurd ?_ (h1 p hm)
      apply Nat.eq_of_testBit_eq
      intro i
      rw [Nat.testBit_and]
      cases hb : p.testBit i
      · rfl
      · rw [hsub i hb]; rfl
/-- A list of sets in lectic order. -/
def lsortI (a : List Int) : List Int := (lecI 6).filter (fun x => a.contains x)
def cfL (x y : Fin 64) : Int := lecC (x.val : Int) (y.val : Int)
def finL (a : List Int) : Array (Fin 64) := (a.map fun x => Fin.ofNat 64 x.toNat).toArray
def setsB (a : List Int) : Bool := a.all (fun x => decide (0 ≤ x ∧ x ≤ 63))
theorem ltL_all : ∀ x y : Fin 64, Go.Proofs.ltOf cfL x y = decide (brev 6 x.val < brev 6 y.val) := by decide +kernel
theorem brevL_inj : ∀ x y : Fin 64, brev 6 x.val = brev 6 y.val → x = y := by decide +kernel
theorem swoL : Go.Sort.SWO (Go.Proofs.ltOf cfL) where
  irrefl x := by rw [ltL_all]; simp
  trans x y z h1 h2 := by rw [ltL_all] at *; simp at *; omega
  ntrans x y z h1 h2 := by rw [ltL_all] at *; simp at *; omega
theorem totL (x y : Fin 64) (h1 : Go.Proofs.ltOf cfL x y = false) (h2 : Go.Proofs.ltOf cfL y x = false) : x = y := by
  rw [ltL_all] at h1 h2
  simp at h1 h2
  exact brevL_inj x y (by omega)
theorem finL_ints {a : List Int} (h : setsB a = true) : intsF (finL a) = a := by
  unfold intsF finL
  simp only [List.map_map]
  conv => rhs; rw [← List.map_id a]
  refine List.map_congr_left fun x hx => ?_
  have := of_decide_eq_true (List.all_eq_true.1 h x hx)
  simp only [Function.comp, Fin.ofNat, id]
  omega
theorem lec6 : (lecI 6).Pairwise (fun x y => Go.Proofs.ltOf cfL (Fin.ofNat 64 y.toNat) (Fin.ofNat 64 x.toNat) = false) ∧ (lecI 6).Nodup ∧ setsB (lecI 6) = true := by decide +kernel
theorem lec6_mem {x : Int} (h : 0 ≤ x ∧ x ≤ 63) : x ∈ lecI 6 := by
  unfold lecI
  refine List.mem_map.2 ⟨x.toNat, (lecL_mem (by omega)).2 (by omega), by omega⟩
theorem lsortI_mem {a : List Int} (h : setsB a = true) (x : Int) : x ∈ lsortI a ↔ x ∈ a := by
  unfold lsortI
  rw [List.mem_filter, List.contains_iff_mem]
  refine ⟨fun g => g.2, fun g => ⟨lec6_mem (of_decide_eq_true (List.all_eq_true.1 h x g)), g⟩⟩
theorem lsortI_nodup (a : List Int) : (lsortI a).Nodup := lec6.2.1.filter _
theorem lsortI_sets (a : List Int) : setsB (lsortI a) = true := by
  unfold setsB
  rw [List.all_eq_true]
  intro x hx
  exact List.all_eq_true.1 lec6.2.2 x (List.mem_filter.1 hx).1
theorem lsortI_perm {a : List Int} (h : setsB a = true) (hn : a.Nodup) : (lsortI a).Perm a := (List.perm_ext_iff_of_nodup (lsortI_nodup a) hn).2 (lsortI_mem h)
theorem lsortI_len {a : List Int} (h : setsB a = true) (hn : a.Nodup) : (lsortI a).length = a.length := (lsortI_perm h hn).length_eq
theorem nodup_le {a : List Int} (h : setsB a = true) (hn : a.Nodup) : a.length ≤ 64 := by
  have h1 := lsortI_len h hn
  have : (lsortI a).length ≤ (lecI 6).length := List.length_filter_le _ _
  have h6 : (lecI 6).length = 64 := by decide +kernel
  omega
theorem finL_size (a : List Int) : (finL a).size = a.length := by simp [finL]
theorem lsort_sorted (a : List Int) (i j : Nat) (hij : i < j) (hj : j < (lsortI a).length) : Go.Proofs.ltOf cfL (finL (lsortI a))[j]! (finL (lsortI a))[i]! = false := by
  have hp : (lsortI a).Pairwise (fun x y => Go.Proofs.ltOf cfL (Fin.ofNat 64 y.toNat) (Fin.ofNat 64 x.toNat) = false) := lec6.1.filter _
  have := List.pairwise_iff_getElem.1 hp i j (by omega) hj hij
  have e : ∀ k (hk : k < (lsortI a).length), (finL (lsortI a))[k]! = Fin.ofNat 64 ((lsortI a)[k]).toNat := by
    intro k hk
    rw [getElem!_pos _ k (by rw [finL_size]; exact hk)]
    simp [finL]
  rw [e j hj, e i (by omega)]
  exact this
theorem lsort_perm {a : List Int} (h : setsB a = true) (hn : a.Nodup) : (finL (lsortI a)).toList.Perm (finL a).toList := by
  unfold finL
  exact (lsortI_perm h hn).map _
theorem lecB_lt : ∀ x y : Fin 64, lecB (x.val : Int) (y.val : Int) = decide (brev 6 x.val < brev 6 y.val) := by decide +kernel
def insL (acc : List Int) (x : Int) : List Int := bif acc.contains x then acc else acc.takeWhile (fun y => lecB y x) ++ x :: acc.dropWhile (fun y => lecB y x)
def sortL : List Int → List Int → List Int
  | [], acc => acc
  | x :: r, acc => sortL r (insL acc x)
def br6 (x : Int) : Nat := brev 6 x.toNat
theorem lecB_br {x y : Int} (hx : 0 ≤ x ∧ x ≤ 63) (hy : 0 ≤ y ∧ y ≤ 63) : lecB x y = decide (br6 x < br6 y) := by
  have := lecB_lt ⟨x.toNat, by omega⟩ ⟨y.toNat, by omega⟩
  simp only [Int.toNat_of_nonneg hx.1, Int.toNat_of_nonneg hy.1] at this
  exact this
theorem br6_inj {x y : Int} (hx : 0 ≤ x ∧ x ≤ 63) (hy : 0 ≤ y ∧ y ≤ 63) (h : br6 x = br6 y) : x = y := by
  have := brevL_inj ⟨x.toNat, by omega⟩ ⟨y.toNat, by omega⟩ h
  have := congrArg Fin.val this
  simp only at this
  omega
def AscL (l : List Int) : Prop := l.Pairwise (fun x y => br6 x < br6 y)
theorem setsB_iff {a : List Int} : setsB a = true ↔ ∀ x ∈ a, 0 ≤ x ∧ x ≤ 63 := by
  unfold setsB
  simp only [List.all_eq_true, decide_eq_true_eq]
theorem insL_ok {acc : List Int} {x : Int} (hs : setsB acc = true) (hx : 0 ≤ x ∧ x ≤ 63) (h : AscL acc) : AscL (insL acc x) ∧ setsB (insL acc x) = true ∧ ∀ z, z ∈ insL acc x ↔ z = x ∨ z ∈ acc := by
  unfold insL
  cases hc : acc.contains x
  · rw [cond_false]
    have hs := setsB_iff.1 hs
    have hnx : x ∉ acc := by
      intro hm
      rw [List.contains_iff_mem.2 hm] at hc
      cases hc
    have happ := List.takeWhile_append_dropWhile (p := fun y => lecB y x) (l := acc)
    have hmem : ∀ z, z ∈ acc.takeWhile (fun y => lecB y x) ++ x :: acc.dropWhile (fun y => lecB y x) ↔ z = x ∨ z ∈ acc := by
      intro z
      conv => rhs; rw [← happ]
      simp only [List.mem_append, List.mem_cons]
      exact ⟨fun g => by rcases g with g | g | g <;> simp [g], fun g => by rcases g with g | g | g <;> simp [g]⟩
    refine ⟨?_, ?_, hmem⟩
    · unfold AscL at h ⊢
      rw [← happ, List.pairwise_append] at h
      obtain ⟨h1, h2, h3⟩ := h
      have hlt : ∀ y ∈ acc.takeWhile (fun y => lecB y x), br6 y < br6 x := by
        intro y hy
        have hb : lecB y x = true := by
          have : ∀ (l : List Int), y ∈ l.takeWhile (fun y => lecB y x) → lecB y x = true := by
            intro l
            induction l with
            | nil => intro g; simp at g
            | cons a l ih =>
              intro g
              rw [List.takeWhile_cons] at g
              cases ha : lecB a x
              · rw [ha] at g; simp at g
              · rw [ha] at g
                rcases List.mem_cons.1 (by simpa using g) with rfl | g
                · exact ha
                · exact ih g
          exact this acc hy
        have hy2 : y ∈ acc := by rw [← happ]; exact List.mem_append_left _ hy
        rw [lecB_br (hs y hy2) hx] at hb
        exact of_decide_eq_true hb
      have hgt : ∀ z ∈ acc.dropWhile (fun y => lecB y x), br6 x < br6 z := by
        intro z hz
        have hz2 : z ∈ acc := by rw [← happ]; exact List.mem_append_right _ hz
        cases hd : acc.dropWhile (fun y => lecB y x) with
        | nil => rw [hd] at hz; cases hz
        | cons w r =>
          have hw2 : w ∈ acc := by rw [← happ, hd]; simp
          have hwb : lecB w x = false := by
            have := List.head_dropWhile_not (fun y => lecB y x) (l := acc) (by rw [hd]; simp)
            simpa [hd] using this
          rw [lecB_br (hs w hw2) hx] at hwb
          have hwb := of_decide_eq_false hwb
          have hne : br6 w ≠ br6 x := fun e => hnx (by rw [← br6_inj (hs w hw2) hx e]; exact hw2)
          rw [hd] at hz h2
          rcases List.mem_cons.1 hz with rfl | hz
          · omega
          · have := (List.pairwise_cons.1 h2).1 z hz
            omega
      rw [List.pairwise_append, List.pairwise_cons]
      refine ⟨h1, ⟨hgt, h2⟩, fun a ha b hb => ?_⟩
      rcases List.mem_cons.1 hb with rfl | hb
      · exact hlt a ha
      · exact h3 a ha b hb
    · rw [setsB_iff]
      intro z hz
      rcases (hmem z).1 hz with rfl | hz
      · exact hx
      · exact hs z hz
  · rw [cond_true]
    refine ⟨h, hs, fun z => ⟨fun g => .inr g, fun g => ?_⟩⟩
    rcases g with rfl | g
    · exact List.contains_iff_mem.1 hc
    · exact g
theorem sortL_ok : ∀ (l acc : List Int), setsB acc = true → setsB l = true → AscL acc → AscL (sortL l acc) ∧ setsB (sortL l acc) = true ∧ ∀ z, z ∈ sortL l acc ↔ z ∈ l ∨ z ∈ acc
  | [], acc, h1, h2, h3 => ⟨h3, h1, fun z => by simp [sortL]⟩
  | x :: r, acc, h1, h2, h3 => by
    have h2' := setsB_iff.1 h2
    obtain ⟨g1, g2, g3⟩ := insL_ok h1 (h2' x (by simp)) h3
    obtain ⟨q1, q2, q3⟩ := sortL_ok r (insL acc x) g2 (setsB_iff.2 fun y hy => h2' y (by simp [hy])) g1
    refine ⟨q1, q2, fun z => ?_⟩
    rw [sortL, q3 z, g3 z, List.mem_cons]
    exact ⟨fun g => by rcases g with g | g | g <;> simp [g], fun g => by rcases g with (g | g) | g <;> simp [g]⟩
theorem asc_ext {a b : List Int} (ha : AscL a) (hb : AscL b) (h : ∀ z, z ∈ a ↔ z ∈ b) : a = b := by
  have hn : ∀ {l : List Int}, AscL l → l.Nodup := fun hl => hl.imp fun g e => by rw [e] at g; omega
  exact List.Perm.eq_of_pairwise (le := fun x y => br6 x < br6 y) (fun x y _ _ g1 g2 => by omega) ha hb ((List.perm_ext_iff_of_nodup (hn ha) (hn hb)).2 h)
theorem lsortI_asc (a : List Int) : AscL (lsortI a) := by
  have h6 : (lecI 6).Pairwise (fun x y => br6 x < br6 y) := by decide +kernel
  exact h6.filter _
theorem sortL_eq {l : List Int} (h : setsB l = true) : sortL l [] = lsortI l := by
  obtain ⟨h1, h2, h3⟩ := sortL_ok l [] rfl h List.Pairwise.nil
  refine asc_ext h1 (lsortI_asc l) fun z => ?_
  rw [h3 z, lsortI_mem h]
  simp
theorem sortL_len : ∀ (l acc : List Int), (sortL l acc).length ≤ l.length + acc.length
  | [], acc => by simp [sortL]
  | x :: r, acc => by
    have := sortL_len r (insL acc x)
    have h2 : (insL acc x).length ≤ acc.length + 1 := by
      unfold insL
      cases acc.contains x
      · rw [cond_false, List.length_append, List.length_cons]
        have := congrArg List.length (List.takeWhile_append_dropWhile (p := fun y => lecB y x) (l := acc))
        rw [List.length_append] at this
        omega
      · rw [cond_true]; omega
    rw [sortL, List.length_cons]
    omega
def stableN (n : Nat) : List Nat := (stableF (lecI n)).map Int.toNat
theorem stab_all : ∀ n : Fin 7, chkO (stableN n.val) = true ∧ (stableN n.val).all (fun x => decide (x < 2 ^ n.val)) = true ∧ (List.range (2 ^ n.val)).all (fun x => (stableN n.val).contains x) = true ∧ stableF (lecI n.val) = (stableN n.val).map (fun (x : Nat) => (x : Int)) := by decide +kernel
theorem num_all : ∀ n : Fin 7, chkO (List.range (2 ^ n.val)) = true := by decide +kernel
def stAt2 (m : Int) (b : List Int) (p : Int × Int) (s : Nat) : Bool := (bnot (s : Int) p.1 == 0) && (intentF m b (s : Int) == p.2)
theorem bnot_sub {s : Nat} {e : Int} (hs : s < 256) : (bnot (s : Int) e == 0) = (band (s : Int) e == (s : Int)) := by
  rw [Bool.eq_iff_iff, beq_iff_eq, beq_iff_eq]
  exact (sub_iff (by omega) (by omega)).symm
theorem stAt_eq {m : Int} {b : List Int} {p : Int × Int} {s : Nat} (hs : s < 256) : stAt2 m b p s = stAt m b p s := by
  unfold stAt2 stAt
  rw [bnot_sub hs]
theorem stAt_big {m : Int} {b : List Int} {p : Int × Int} (hp : 0 ≤ p.1 ∧ p.1 ≤ 255) {s : Nat} (hs : s < 256) (h : p.1.toNat + 1 ≤ s) : stAt m b p s = false := by
  unfold stAt
  have : (band (s : Int) p.1 == (s : Int)) = false := by
    rw [beq_eq_false_iff_ne]
    intro hb
    obtain ⟨n, hn⟩ : ∃ n : Nat, p.1 = n := ⟨p.1.toNat, by omega⟩
    rw [hn] at hb h hp
    rw [band_nat hs (by omega)] at hb
    have h1 : s &&& n ≤ n := Nat.and_le_right
    omega
  rw [this, Bool.false_and]
theorem sumB_grow {f : Nat → Bool} : ∀ (c d i : Nat) (q : Int), (∀ j, i + d ≤ j → j < i + d + c → f j = false) → sumB f (d + c) i q = sumB f d i q
  | 0, d, i, q, _ => rfl
  | c + 1, 0, i, q, h => by
    rw [Nat.zero_add, sumB, sumB, h i (by omega) (by omega), cond_false, Int.add_zero]
    have := sumB_grow (f := f) c 0 (i + 1) q fun j h1 h2 => h j (by omega) (by omega)
    rw [Nat.zero_add] at this
    exact this
  | c + 1, d + 1, i, q, h => by
    rw [show d + 1 + (c + 1) = (d + (c + 1)) + 1 by omega, sumB, sumB]
    exact sumB_grow (c + 1) d (i + 1) _ fun j h1 h2 => h j (by omega) (by omega)
theorem sumB_congr {f g : Nat → Bool} : ∀ (d i : Nat) (q : Int), (∀ j, i ≤ j → j < i + d → f j = g j) → sumB f d i q = sumB g d i q
  | 0, i, q, _ => rfl
  | d + 1, i, q, h => by
    rw [sumB, sumB, h i (Nat.le_refl _) (by omega)]
    exact sumB_congr d (i + 1) _ fun j h1 h2 => h j (by omega) (by omega)
theorem stNum_eq {m : Int} {b : List Int} {p : Int × Int} {n : Nat} (hn : n ≤ 8) (hp : 0 ≤ p.1 ∧ p.1.toNat < 2 ^ n) : sumB (stAt2 m b p) (2 ^ n) 0 0 = stNum m b p := by
  have h2 : 2 ^ n ≤ 2 ^ 8 := Nat.pow_le_pow_right (by omega) hn
  rw [sumB_congr (g := stAt m b p) _ _ _ fun j _ hj => stAt_eq (by omega)]
  obtain ⟨c, hc⟩ : ∃ c, 2 ^ n = p.1.toNat + 1 + c := ⟨2 ^ n - (p.1.toNat + 1), by omega⟩
  rw [hc]
  exact sumB_grow c _ 0 0 fun j h1 h3 => stAt_big ⟨hp.1, by omega⟩ (by omega) (by omega)
def okS (cl : Nat → Nat) (out : List Nat) (s : Nat) : Bool := !(cl s == s) && out.all (fun p => !(p &&& s == p) || (cl p &&& s == cl p))
def okP (cl : Nat → Nat) (out : List Nat) (s : Nat) : Bool := !(cl s == s) && !out.any (fun p => (!(p == s) && (p &&& s == p)) && !(cl p &&& s == cl p))
theorem and_sub {y s : Nat} : (y &&& s == y) = true ↔ SubN y s := by
  rw [beq_iff_eq]
  constructor
  · intro h i hi
    rw [← h, Nat.testBit_and] at hi
    exact (Bool.and_eq_true_iff.1 hi).2
  · intro h
    apply Nat.eq_of_testBit_eq
    intro i
    rw [Nat.testBit_and]
    cases hb : y.testBit i
    · rfl
    · rw [h i hb]; rfl
theorem okS_ok (cl : Nat → Nat) (out : List Nat) (s : Nat) (hs : s ∉ out) : okS cl out s = true ↔ cl s ≠ s ∧ ∀ p ∈ out, p ≠ s → SubN p s → SubN (cl p) s := by
  unfold okS
  rw [Bool.and_eq_true, Bool.not_eq_true', beq_eq_false_iff_ne, List.all_eq_true]
  refine and_congr_right fun _ => ⟨fun g p hp _ hsub => ?_, fun g p hp => ?_⟩
  · have := g p hp
    rw [and_sub.2 hsub, Bool.not_true, Bool.false_or] at this
    exact and_sub.1 this
  · cases hb : p &&& s == p
    · rfl
    · rw [Bool.not_true, Bool.false_or]
      exact and_sub.2 (g p hp (fun e => hs (e ▸ hp)) (and_sub.1 hb))
theorem okP_ok (cl : Nat → Nat) (out : List Nat) (s : Nat) (hs : s ∉ out) : okP cl out s = true ↔ cl s ≠ s ∧ ∀ p ∈ out, p ≠ s → SubN p s → SubN (cl p) s := by
  unfold okP
  rw [Bool.and_eq_true, Bool.not_eq_true', beq_eq_false_iff_ne, Bool.not_eq_true', List.any_eq_false]
  refine and_congr_right fun _ => ⟨fun g p hp hne hsub => ?_, fun g p hp => ?_⟩
  · have := g p hp
    rw [and_sub.2 hsub, beq_eq_false_iff_ne.2 hne] at this
    simp only [Bool.not_false, Bool.and_self, Bool.true_and, Bool.not_eq_true', Bool.not_eq_false] at this
    exact and_sub.1 this
  · cases hb : p &&& s == p
    · simp
    · rw [and_sub.2 (g p hp (fun e => hs (e ▸ hp)) (and_sub.1 hb))]
      simp
theorem greedy_S (cl : Nat → Nat) {n : Nat} (hn : n ≤ 6) : greedy (okS cl) (List.range (2 ^ n)) [] = (List.range (2 ^ n)).filter (psB cl) :=
  order_ps (N := 2 ^ n) (num_all ⟨n, by omega⟩) (fun x hx => List.mem_range.1 hx) (fun x hx => List.mem_range.2 hx) fun out s _ hs _ => okS_ok cl out s hs
theorem stab_mem {n : Nat} (hn : n ≤ 6) (x : Nat) : x ∈ stableN n ↔ x < 2 ^ n := by
  obtain ⟨h1, h2, h3, h4⟩ := stab_all ⟨n, by omega⟩
  simp only [List.all_eq_true, decide_eq_true_eq, List.mem_range, List.contains_iff_mem] at h2 h3
  exact ⟨h2 x, h3 x⟩
theorem greedy_I (cl : Nat → Nat) {n : Nat} (hn : n ≤ 6) : greedy (okP cl) (stableN n) [] = (stableN n).filter (psB cl) :=
  order_ps (N := 2 ^ n) (stab_all ⟨n, by omega⟩).1 (fun x hx => (stab_mem hn x).1 hx) (fun x hx => (stab_mem hn x).2 hx) fun out s _ hs _ => okP_ok cl out s hs
abbrev castN (L : List Nat) : List Int := L.map (fun (x : Nat) => (x : Int))
theorem chkO_nodup : ∀ l : List Nat, chkO l = true → l.Nodup
  | [], _ => List.nodup_nil
  | s :: r, h => by
    rw [chkO, Bool.and_eq_true, List.all_eq_true] at h
    refine List.nodup_cons.2 ⟨fun hs => ?_, chkO_nodup r h.2⟩
    have := h.1 s hs
    rw [Nat.and_self] at this
    simp at this
theorem castN_nodup {L : List Nat} (h : L.Nodup) : (castN L).Nodup := by
  refine List.Pairwise.map _ (fun a b hab e => hab ?_) h
  exact Int.ofNat.inj e
theorem castN_sets {L : List Nat} (h : ∀ x ∈ L, x < 64) : setsB (castN L) = true := by
  rw [setsB_iff]
  intro y hy
  obtain ⟨x, hx, rfl⟩ := List.mem_map.1 hy
  have := h x hx
  omega
theorem lsortI_congr {a b : List Int} (h : ∀ x, x ∈ a ↔ x ∈ b) : lsortI a = lsortI b := by
  unfold lsortI
  refine List.filter_congr fun x _ => ?_
  rw [Bool.eq_iff_iff, List.contains_iff_mem, List.contains_iff_mem, h x]
def stemI (m : Int) (b : List Int) : List Int := lsortI (castN (greedy (okS (clN m b)) (List.range (2 ^ m.toNat)) []))
theorem stem_S (m : Int) (b : List Int) (hm : m.toNat ≤ 6) : sortL (castN (greedy (okS (clN m b)) (List.range (2 ^ m.toNat)) [])) [] = stemI m b := by
  have hp : 2 ^ m.toNat ≤ 2 ^ 6 := Nat.pow_le_pow_right (by omega) hm
  unfold stemI
  rw [greedy_S _ hm]
  exact sortL_eq (castN_sets fun x hx => by have := List.mem_range.1 (List.mem_filter.1 hx).1; omega)
theorem stem_I (m : Int) (b : List Int) (hm : m.toNat ≤ 6) : lsortI (castN (greedy (okP (clN m b)) (stableN m.toNat) [])) = stemI m b := by
  unfold stemI
  rw [greedy_I _ hm, greedy_S _ hm]
  refine lsortI_congr fun x => ?_
  simp only [castN, List.mem_map, List.mem_filter, stab_mem hm, List.mem_range]
theorem greedy_sub (ok : List Nat → Nat → Bool) : ∀ (l out : List Nat), ∀ x ∈ greedy ok l out, x ∈ l ∨ x ∈ out
  | [], out, x, h => .inr h
  | s :: r, out, x, h => by
    rw [greedy] at h
    rcases greedy_sub ok r _ x h with h | h
    · exact .inl (by simp [h])
    · cases hb : ok out s
      · rw [hb, cond_false] at h; exact .inr h
      · rw [hb, cond_true] at h
        rcases List.mem_append.1 h with h | h
        · exact .inr h
        · exact .inl (by simp at h; simp [h])
theorem stemI_sets (m : Int) (b : List Int) : setsB (stemI m b) = true := lsortI_sets _
theorem stemI_len (m : Int) (b : List Int) : (stemI m b).length ≤ 64 := nodup_le (stemI_sets m b) (lsortI_nodup _)
theorem stemI_mem {m : Int} {b : List Int} (hm : m.toNat ≤ 6) {x : Int} (h : x ∈ stemI m b) : 0 ≤ x ∧ x.toNat < 2 ^ m.toNat := by
  have hp : 2 ^ m.toNat ≤ 2 ^ 6 := Nat.pow_le_pow_right (by omega) hm
  unfold stemI at h
  rw [greedy_S _ hm] at h
  rw [lsortI_mem (castN_sets fun x hx => by have := List.mem_range.1 (List.mem_filter.1 hx).1; omega)] at h
  obtain ⟨y, hy, rfl⟩ := List.mem_map.1 h
  have := List.mem_range.1 (List.mem_filter.1 hy).1
  exact ⟨by omega, by rw [Int.toNat_natCast]; exact this⟩
theorem greedy_I_nodup (cl : Nat → Nat) {n : Nat} (hn : n ≤ 6) : (castN (greedy (okP cl) (stableN n) [])).Nodup := by
  rw [greedy_I _ hn]
  exact castN_nodup ((chkO_nodup _ (stab_all ⟨n, by omega⟩).1).filter _)
theorem greedy_I_sets (cl : Nat → Nat) {n : Nat} (hn : n ≤ 6) : setsB (castN (greedy (okP cl) (stableN n) [])) = true := by
  have hp : 2 ^ n ≤ 2 ^ 6 := Nat.pow_le_pow_right (by omega) hn
  rw [greedy_I _ hn]
  exact castN_sets fun x hx => by have := (stab_mem hn x).1 (List.mem_filter.1 hx).1; omega
theorem greedy_S_sets (cl : Nat → Nat) {n : Nat} (hn : n ≤ 6) : setsB (castN (greedy (okS cl) (List.range (2 ^ n)) [])) = true := by
  have hp : 2 ^ n ≤ 2 ^ 6 := Nat.pow_le_pow_right (by omega) hn
  exact castN_sets fun x hx => by
    rcases greedy_sub _ _ _ x hx with h | h
    · have := List.mem_range.1 h; omega
    · cases h
theorem greedy_len (ok : List Nat → Nat → Bool) : ∀ (l out : List Nat), (greedy ok l out).length ≤ l.length + out.length
  | [], out => by simp [greedy]
  | s :: r, out => by
    have := greedy_len ok r (bif ok out s then out ++ [s] else out)
    rw [greedy, List.length_cons]
    cases hb : ok out s
    · rw [hb, cond_false] at this; rw [cond_false]; omega
    · rw [hb, cond_true, List.length_append, List.length_singleton] at this; rw [cond_true]; omega
def stemR (m : Int) (b : List Int) : List (Int × Int) := (stemI m b).map (fun s => (s, intentF m b (extF b s)))
theorem nodup_noAdj : ∀ l : List Int, l.Nodup → noAdj l = true
  | [], _ => rfl
  | [a], _ => rfl
  | a :: b :: r, h => by
    have h1 := List.nodup_cons.1 h
    unfold noAdj
    rw [nodup_noAdj (b :: r) h1.2, Bool.and_true, bne_iff_ne]
    exact fun e => h1.1 (by rw [e]; simp)
def clI (m : Int) (b : List Int) (s : Int) : Int := bif isCtx m b && isSet m s then intentF m b (extF b s) else 0
def badP (m : Int) (b : List Int) (s p : Int) : Bool := ((p != s) && (bnot p s == 0)) && !(bnot (clI m b p) s == 0)
theorem set_of_lt {m : Int} {b : List Int} (h : isCtx m b = true) {s : Nat} (hs : s < 2 ^ m.toNat) : isSet m (s : Int) = true := by
  have hl := isCtx_len h
  unfold isSet
  refine dt ⟨by omega, by omega, ?_⟩
  have e2 : ((2 ^ m.toNat : Nat) : Int) = (2 : Int) ^ m.toNat := by push_cast; rfl
  omega
theorem clI_nat {m : Int} {b : List Int} (h : isCtx m b = true) {s : Nat} (hs : s < 2 ^ m.toNat) : clI m b (s : Int) = ((clN m b s : Nat) : Int) := by
  have hl := isCtx_len h
  have h6 : 2 ^ m.toNat ≤ 2 ^ 6 := Nat.pow_le_pow_right (by omega) (by omega)
  unfold clI
  rw [h, set_of_lt h hs, Bool.and_self, cond_true, clN_int h (by omega)]
theorem badP_nat {m : Int} {b : List Int} (h : isCtx m b = true) {s p : Nat} (hs : s < 2 ^ m.toNat) (hp : p < 2 ^ m.toNat) : badP m b (s : Int) (p : Int) = ((!(p == s) && (p &&& s == p)) && !(clN m b p &&& s == clN m b p)) := by
  have hl := isCtx_len h
  have h6 : 2 ^ m.toNat ≤ 2 ^ 6 := Nat.pow_le_pow_right (by omega) (by omega)
  have hc := (cl_clo h).lt p hp
  have hb : ∀ x y : Nat, x < 256 → y < 256 → (bnot (x : Int) (y : Int) == 0) = (x &&& y == x) := by
    intro x y hx hy
    rw [bnot_sub hx, band_nat hx hy, Bool.eq_iff_iff, beq_iff_eq, beq_iff_eq]
    omega
  unfold badP
  rw [clI_nat h hp, hb p s (by omega) (by omega), hb _ s (by omega) (by omega)]
  congr 2
  rw [bne, Bool.eq_iff_iff]
  simp only [Bool.not_eq_true', beq_eq_false_iff_ne, ne_eq]
  omega
theorem any_bad {m : Int} {b : List Int} (h : isCtx m b = true) {s : Nat} (hs : s < 2 ^ m.toNat) : ∀ L : List Nat, (∀ x ∈ L, x < 2 ^ m.toNat) → (castN L).any (badP m b (s : Int)) = L.any (fun p => (!(p == s) && (p &&& s == p)) && !(clN m b p &&& s == clN m b p))
  | [], _ => rfl
  | p :: L, hL => by
    have ih := any_bad h hs L fun x hx => hL x (by simp [hx])
    unfold castN at ih ⊢
    rw [List.map_cons, List.any_cons, List.any_cons, ih, badP_nat h hs (hL p (by simp))]
def fineP (m : Int) (b : List Int) (s y : Int) : Bool := (band y s != y) || (band (intentF m b (extF b y)) s == intentF m b (extF b y))
theorem all_fine {m : Int} {b : List Int} (h : isCtx m b = true) {s : Nat} (hs : s < 2 ^ m.toNat) : ∀ L : List Nat, (∀ x ∈ L, x < 2 ^ m.toNat) → (castN L).all (fineP m b (s : Int)) = L.all (fun p => !(p &&& s == p) || (clN m b p &&& s == clN m b p))
  | [], _ => rfl
  | p :: L, hL => by
    have ih := all_fine h hs L fun x hx => hL x (by simp [hx])
    have hl := isCtx_len h
    have h6 : 2 ^ m.toNat ≤ 2 ^ 6 := Nat.pow_le_pow_right (by omega) (by omega)
    have hp := hL p (by simp)
    have hc := (cl_clo h).lt p hp
    unfold castN at ih ⊢
    rw [List.map_cons, List.all_cons, List.all_cons, ih]
    congr 1
    unfold fineP
    rw [clN_int h (by omega), band_nat (by omega) (by omega), band_nat (by omega) (by omega)]
    congr 1
    · rw [bne, Bool.eq_iff_iff]
      simp only [Bool.not_eq_true', beq_eq_false_iff_ne, ne_eq]
      omega
    · rw [Bool.eq_iff_iff, beq_iff_eq, beq_iff_eq]
      omega
theorem bs_all : ∀ x y : Fin 64, x ≠ y → (band (y.val : Int) (band (bxor (x.val : Int) (y.val : Int)) (IntKind.i64.wrap (-(bxor (x.val : Int) (y.val : Int))))) != 0) = lecB (x.val : Int) (y.val : Int) := by decide +kernel
/- spec.l2Sets -/
def K_l2Sets : List AV → List Ob → Option (AV × List Ob)
  | [.lst (.int .i64) a], [] => gd (a.length ≤ 1048576) (.bool (a.all (isSet 8)), [])
  | _, _ => none
@[reducible] def E_l2Sets : Env := mkE (tb [(54, K_specIsSet)]) (fun f => false) (fun r => bif r == 2 then ([0, 3], [2]) else ([], []))
theorem lp_l2Sets (a : List Int) (ha : a.length ≤ 1048576) (k : AX → S → Option (AV × List Ob)) (d : Nat) : ∀ (n i : Nat) (x : Int), a.length - i = d → i ≤ a.length → x = i → d < n →
    lpAt E_l2Sets (lp E_l2Sets 0 n) 0 (loopAt Tryz.f174 0) (mkS [0, 3] [.lst (.int .i64) a, .int .i64 x] []) k =
      if (a.drop i).all (isSet 8) then k (.exit 0) (mkS [2] [.any] []) else k .ret (mkS [2] [.bool false] []) := by
  induction d with
  | zero =>
    intro n i x hd hi hx hn
    subst hx
    rw [lpAt_def]
    conv => lhs; whnf
    refine br_f (df (by omega)) ?_
    conv => lhs; whnf
    rw [List.drop_of_length_le (by omega)]
    simp
  | succ d ih =>
    intro n i x hd hi hx hn
    obtain ⟨n, rfl⟩ : ∃ m, n = m + 1 := ⟨n - 1, by omega⟩
    subst hx
    rw [lpAt_def]
    conv => lhs; whnf
    refine br_t (dt (by omega)) ?_
    conv => lhs; whnf
    refine br_t (dt2 (by omega) (by omega)) ?_
    conv => lhs; whnf
    conv => lhs; arg 1; whnf
    refine bnd_g (by exact True.intro) ?_
    conv => lhs; whnf
    rw [getD_drop (l := a) (i := i) (d := 0) (by omega), List.all_cons]
    refine br_c (fun h => ?_) (fun h => ?_)
    · have h' : isSet 8 (a.getD i 0) = false := bnt h
      conv => lhs; whnf
      rw [h', Bool.false_and, if_neg (by simp)]
    · have h' : isSet 8 (a.getD i 0) = true := bnf h
      conv => lhs; whnf
      refine Eq.trans (ih n (i + 1) _ (by omega) (by omega) (by rw [wrap64 (n := (i : Int) + 1) (by omega) (by omega)]; simp) (by omega)) ?_
      rw [h', Bool.true_and]
theorem ev_l2Sets (a : List Int) (hp : a.length ≤ 1048576) : evF E_l2Sets (a.length + 2) Tryz.f174 [.lst (.int .i64) a] [] = some (.bool (a.all (isSet 8)), []) := by
  conv => lhs; whnf
  refine (lp_l2Sets a hp _ a.length _ 0 0 rfl (Nat.zero_le _) rfl (by omega)).trans ?_
  rw [List.drop_zero]
  split
  · rename_i h
    conv => lhs; whnf
    rw [h]
  · rename_i h
    conv => lhs; whnf
    rw [Bool.not_eq_true] at h
    rw [h]
theorem ok_l2Sets : FnOk Tryz.prog 174 K_l2Sets := by
  refine fn_ok (fn := Tryz.f174) (k := Tryz.f174.ntmps) (E := E_l2Sets) (facts_of (List.forall_mem_cons.2 ⟨ok_specIsSet, List.forall_mem_nil _⟩)) (by kernel_rfl) rfl (by decide +kernel) (by decide +kernel) ?_
  intro avs hin r h
  unfold K_l2Sets at h
  split at h
  · obtain ⟨hp, rfl⟩ := gd_o h
    exact ⟨_, ev_l2Sets _ hp, rfl⟩
  · cases h

/- spec.l2In -/
def K_l2In : List AV → List Ob → Option (AV × List Ob)
  | [.lst (.int .i64) a, .int .i64 v], [] => gd (a.length < 4611686018427387904) (.bool (a.any (fun y => y == v)), [])
  | _, _ => none
@[reducible] def E_l2In : Env := mkE (tb []) (fun f => false) (fun r => bif r == 2 then ([0, 1, 5], [4]) else ([], []))
theorem lp_l2In (a : List Int) (v : Int) (ha : a.length < 4611686018427387904) (k : AX → S → Option (AV × List Ob)) (d : Nat) : ∀ (n i : Nat) (x : Int), a.length - i = d → i ≤ a.length → x = i → d < n →
    lpAt E_l2In (lp E_l2In 0 n) 0 (loopAt Tryz.f121 0) (mkS [0, 1, 5] [.lst (.int .i64) a, .int .i64 v, .int .i64 x] []) k =
      if (a.drop i).any (fun y => y == v) then k .ret (mkS [4] [.bool true] []) else k (.exit 0) (mkS [4] [.any] []) := by
  induction d with
  | zero =>
    intro n i x hd hi hx hn
    subst hx
    rw [lpAt_def]
    conv => lhs; whnf
    refine br_f (df (by omega)) ?_
    conv => lhs; whnf
    rw [List.drop_of_length_le (by omega)]
    simp
  | succ d ih =>
    intro n i x hd hi hx hn
    obtain ⟨n, rfl⟩ : ∃ m, n = m + 1 := ⟨n - 1, by omega⟩
    subst hx
    rw [lpAt_def]
    conv => lhs; whnf
    refine br_t (dt (by omega)) ?_
    conv => lhs; whnf
    refine br_t (dt2 (by omega) (by omega)) ?_
    conv => lhs; whnf
    rw [getD_drop (l := a) (i := i) (d := 0) (by omega)]
    refine br_c (fun h => ?_) (fun h => ?_)
    · have h' : (a.getD i 0 == v) = true := h
      conv => lhs; whnf
      rw [if_pos (by simp only [List.any_cons, h', Bool.true_or])]
    · have h' : (a.getD i 0 == v) = false := h
      conv => lhs; whnf
      rw [ih n (i + 1) _ (by omega) (by omega) (by rw [wrap64 (by omega) (by omega)]; simp) (by omega)]
      simp only [List.any_cons, h', Bool.false_or]
theorem ev_l2In (a : List Int) (v : Int) (hp : a.length < 4611686018427387904) : evF E_l2In (a.length + 2) Tryz.f121 [.lst (.int .i64) a, .int .i64 v] [] = some (.bool (a.any (fun y => y == v)), []) := by
  conv => lhs; whnf
  refine (lp_l2In a v hp _ a.length _ 0 0 rfl (by omega) rfl (by omega)).trans ?_
  simp only [List.drop_zero]
  split
  · rename_i he
    conv => lhs; whnf
    rw [he]
  · rename_i he
    conv => lhs; whnf
    rw [Bool.not_eq_true] at he
    rw [he]
theorem ok_l2In : FnOk Tryz.prog 121 K_l2In := by
  refine fn_ok (fn := Tryz.f121) (k := Tryz.f121.ntmps) (E := E_l2In) (facts_of (List.forall_mem_nil _)) (by kernel_rfl) rfl (by decide +kernel) (by decide +kernel) ?_
  intro avs hin r h
  unfold K_l2In at h
  split at h
  · obtain ⟨hp, rfl⟩ := gd_o h
    exact ⟨_, ev_l2In _ _ hp, rfl⟩
  · cases h

/- spec.BeforeSet -/
def K_specBeforeSet : List AV → List Ob → Option (AV × List Ob)
  | [.int .i64 s, .int .i64 t], [] => gd ((0 ≤ s ∧ s ≤ 63) ∧ (0 ≤ t ∧ t ≤ 63)) (.bool (lecB s t), [])
  | _, _ => none
@[reducible] def E_specBeforeSet : Env := mkE (tb [(54, K_specIsSet)]) (fun f => false) (fun r => ([], []))
theorem ev_specBeforeSet (s t : Int) (hp : (0 ≤ s ∧ s ≤ 63) ∧ (0 ≤ t ∧ t ≤ 63)) : evF E_specBeforeSet (1) Tryz.f166 [.int .i64 s, .int .i64 t] [] = some (.bool (lecB s t), []) := by
  have h1 : isSet 8 s = true := by rw [isSet8]; exact dt ⟨hp.1.1, by omega⟩
  have h2 : isSet 8 t = true := by rw [isSet8]; exact dt ⟨hp.2.1, by omega⟩
  have g1 : (!isSet 8 s) = false := by rw [h1]; rfl
  have g2 : (!isSet 8 t) = false := by rw [h2]; rfl
  conv => lhs; whnf
  conv => lhs; arg 1; whnf
  refine bnd_g (by exact True.intro) ?_
  conv => lhs; whnf
  repeat ((first | with_reducible apply br_tt | with_reducible apply br_ff | with_reducible apply br_nf | with_reducible apply br_nt | with_reducible refine br_d ?_ (by kernel_rfl) | with_reducible apply br_t g1 | with_reducible apply br_f g1); conv => lhs; whnf)
  conv => lhs; arg 1; whnf
  refine bnd_g (by exact True.intro) ?_
  conv => lhs; whnf
  repeat ((first | with_reducible apply br_tt | with_reducible apply br_ff | with_reducible apply br_nf | with_reducible apply br_nt | with_reducible refine br_d ?_ (by kernel_rfl) | with_reducible apply br_t g1 | with_reducible apply br_f g1 | with_reducible apply br_t g2 | with_reducible apply br_f g2); conv => lhs; whnf)
  refine br_c (fun h => ?_) (fun h => ?_)
  · have h' : (s == t) = true := h
    have he : s = t := by simpa using h'
    subst he
    conv => lhs; whnf
    repeat ((first | with_reducible apply br_tt | with_reducible apply br_ff | with_reducible apply br_nf | with_reducible apply br_nt | with_reducible refine br_d ?_ (by kernel_rfl) | with_reducible apply br_t g1 | with_reducible apply br_f g1 | with_reducible apply br_t g2 | with_reducible apply br_f g2 | with_reducible apply br_t h | with_reducible apply br_f h); conv => lhs; whnf)
    refine okB ?_
    rw [lecB_br hp.1 hp.1, df (by omega)]
  · have h' : (s == t) = false := h
    have he : s ≠ t := by simpa using h'
    conv => lhs; whnf
    repeat ((first | with_reducible apply br_tt | with_reducible apply br_ff | with_reducible apply br_nf | with_reducible apply br_nt | with_reducible refine br_d ?_ (by kernel_rfl) | with_reducible apply br_t g1 | with_reducible apply br_f g1 | with_reducible apply br_t g2 | with_reducible apply br_f g2 | with_reducible apply br_t h | with_reducible apply br_f h); conv => lhs; whnf)
    refine okB ?_
    have := bs_all ⟨s.toNat, by omega⟩ ⟨t.toNat, by omega⟩ (fun e => he (by have := congrArg Fin.val e; simp only at this; omega))
    simp only [Int.toNat_of_nonneg hp.1.1, Int.toNat_of_nonneg hp.2.1] at this
    exact this
theorem ok_specBeforeSet : FnOk Tryz.prog 166 K_specBeforeSet := by
  refine fn_ok (fn := Tryz.f166) (k := Tryz.f166.ntmps) (E := E_specBeforeSet) (facts_of (List.forall_mem_cons.2 ⟨ok_specIsSet, List.forall_mem_nil _⟩)) (by kernel_rfl) rfl (by decide +kernel) (by decide +kernel) ?_
  intro avs hin r h
  unfold K_specBeforeSet at h
  split at h
  · obtain ⟨hp, rfl⟩ := gd_o h
    exact ⟨_, ev_specBeforeSet _ _ hp, rfl⟩
  · cases h

/- spec.SortLectic -/
def K_specSortLectic : List AV → List Ob → Option (AV × List Ob)
  | [.lst (.int .i64) l], [] => gd (l.length ≤ 64 ∧ setsB l = true) (.own 0, [.row 3 (.int .i64) (lsortI l)])
  | _, _ => none
@[reducible] def E_specSortLectic : Env := mkE (tb [(174, K_l2Sets), (121, K_l2In), (166, K_specBeforeSet)]) (fun f => false) (fun r => bif r == 5 then ([0, 3, 4], [0, 3, 4, 5]) else bif r == 9 then ([0, 3, 4, 5], [0, 3, 4, 5]) else ([], []))
theorem lq_specSortLectic (l : List Int) (hl : l.length ≤ 64) (a : Nat) (ha : a < l.length) (hx : 0 ≤ l.getD a 0 ∧ l.getD a 0 ≤ 63) (zs : List Int) (hz : zs.length ≤ 64) (hzs : ∀ z ∈ zs, 0 ≤ z ∧ z ≤ 63) (k : AX → S → Option (AV × List Ob)) (d : Nat) : ∀ (n i : Nat) (x : Int), zs.length - i = d → i ≤ zs.length → x = i → d < n →
    lpAt E_specSortLectic (lp E_specSortLectic 0 n) 0 (loopAt Tryz.f153 1) (mkS [0, 3, 4, 5] [.lst (.int .i64) l, .own 0, .int .i64 (a : Int), .int .i64 x] [some (.row 3 (.int .i64) zs)]) k =
      k (.exit 2) (mkS [0, 3, 4, 5] [.lst (.int .i64) l, .own 0, .int .i64 (a : Int), .int .i64 (i + ((zs.drop i).takeWhile (fun y => lecB y (l.getD a 0))).length : Nat)] [some (.row 3 (.int .i64) zs)]) := by
  induction d with
  | zero =>
    intro n i x hd hi hx hn
    subst hx
    rw [lpAt_def]
    conv => lhs; whnf
    refine br_c (fun h => ?_) (fun h => ?_)
    · exact absurd (ofd h) (by omega)
    · conv => lhs; whnf
      repeat ((first | with_reducible apply br_tt | with_reducible apply br_ff | with_reducible apply br_nf | with_reducible apply br_nt | with_reducible refine br_d ?_ (by kernel_rfl) | with_reducible apply br_t h | with_reducible apply br_f h | with_reducible refine br_t (dt2 (by omega) (by omega)) ?_ | with_reducible refine br_t (dt (by omega)) ?_); conv => lhs; whnf)
      rw [List.drop_of_length_le (by omega)]
      rfl
  | succ d ih =>
    intro n i x hd hi hx hn
    obtain ⟨n, rfl⟩ : ∃ m, n = m + 1 := ⟨n - 1, by omega⟩
    subst hx
    have hzi := hzs _ (mem_getD (l := zs) (i := i) (d := 0) (by omega))
    rw [lpAt_def]
    conv => lhs; whnf
    refine br_c (fun h => ?_) (fun h => ?_)
    · conv => lhs; whnf
      repeat ((first | with_reducible apply br_tt | with_reducible apply br_ff | with_reducible apply br_nf | with_reducible apply br_nt | with_reducible refine br_d ?_ (by kernel_rfl) | with_reducible apply br_t h | with_reducible apply br_f h | with_reducible refine br_t (dt2 (by omega) (by omega)) ?_ | with_reducible refine br_t (dt (by omega)) ?_); conv => lhs; whnf)
      conv => lhs; arg 1; whnf
      refine bnd_g (by exact ⟨hzi, by assumption⟩) ?_
      conv => lhs; whnf
      repeat ((first | with_reducible apply br_tt | with_reducible apply br_ff | with_reducible apply br_nf | with_reducible apply br_nt | with_reducible refine br_d ?_ (by kernel_rfl) | with_reducible apply br_t h | with_reducible apply br_f h | with_reducible refine br_t (dt2 (by omega) (by omega)) ?_ | with_reducible refine br_t (dt (by omega)) ?_); conv => lhs; whnf)
      rw [getD_drop (l := zs) (i := i) (d := 0) (by omega), List.takeWhile_cons]
      refine br_c (fun h2 => ?_) (fun h2 => ?_)
      · have h2' : lecB (zs.getD i 0) (l.getD a 0) = true := h2
        conv => lhs; whnf
        refine Eq.trans (ih n (i + 1) _ (by omega) (by omega) (by rw [wrap64 (n := (i : Int) + 1) (by omega) (by omega)]; simp) (by omega)) ?_
        rw [h2', if_pos rfl, List.length_cons]
        have e : i + 1 + ((zs.drop (i + 1)).takeWhile (fun y => lecB y (l.getD a 0))).length = i + (((zs.drop (i + 1)).takeWhile (fun y => lecB y (l.getD a 0))).length + 1) := by omega
        rw [e]
      · have h2' : lecB (zs.getD i 0) (l.getD a 0) = false := h2
        conv => lhs; whnf
        rw [h2', if_neg (by simp)]
        rfl
    · exact absurd (ofn h) (by omega)

theorem lp_specSortLectic (l : List Int) (hl : l.length ≤ 64) (hs : setsB l = true) (k : AX → S → Option (AV × List Ob)) (d : Nat) : ∀ (n i : Nat) (x : Int) (zs : List Int), l.length - i = d → i ≤ l.length → x = i → d + 70 < n → zs.length ≤ i → setsB zs = true → AscL zs →
    lpAt E_specSortLectic (lp E_specSortLectic 0 n) 0 (loopAt Tryz.f153 0) (mkS [0, 3, 4] [.lst (.int .i64) l, .own 0, .int .i64 x] [some (.row 3 (.int .i64) zs)]) k =
      k (.exit 0) (mkS [0, 3, 4, 5] [.lst (.int .i64) l, .own 0, .int .i64 l.length, .any] [some (.row 3 (.int .i64) (sortL (l.drop i) zs))]) := by
  induction d with
  | zero =>
    intro n i x zs hd hi hx hn hz hzs ha
    subst hx
    rw [lpAt_def]
    conv => lhs; whnf
    refine br_f (df (by omega)) ?_
    conv => lhs; whnf
    have : i = l.length := by omega
    rw [List.drop_of_length_le (by omega), this, sortL]
  | succ d ih =>
    intro n i x zs hd hi hx hn hz hzs ha
    obtain ⟨n, rfl⟩ : ∃ m, n = m + 1 := ⟨n - 1, by omega⟩
    subst hx
    have hli := setsB_iff.1 hs _ (mem_getD (l := l) (i := i) (d := 0) (by omega))
    have hok := insL_ok hzs hli ha
    have hany : zs.any (fun y => y == l.getD i 0) = zs.contains (l.getD i 0) := List.any_beq'
    have hil : (insL zs (l.getD i 0)).length ≤ i + 1 := by
      have := sortL_len [l.getD i 0] zs
      rw [sortL, sortL, List.length_singleton] at this
      omega
    rw [getD_drop (l := l) (i := i) (d := 0) (by omega), sortL, lpAt_def]
    conv => lhs; whnf
    refine br_t (dt (by omega)) ?_
    conv => lhs; whnf
    refine br_t (dt2 (by omega) (by omega)) ?_
    conv => lhs; whnf
    conv => lhs; arg 1; whnf
    refine bnd_g (by omega) ?_
    conv => lhs; whnf
    repeat ((first | with_reducible apply br_tt | with_reducible apply br_ff | with_reducible apply br_nf | with_reducible apply br_nt | with_reducible refine br_d ?_ (by kernel_rfl)); conv => lhs; whnf)
    refine br_c (fun h => ?_) (fun h => ?_)
    · have h' : zs.any (fun y => y == l.getD i 0) = true := h
      have e : insL zs (l.getD i 0) = zs := by unfold insL; rw [← hany, h', cond_true]
      conv => lhs; whnf
      refine Eq.trans (ih n (i + 1) _ zs (by omega) (by omega) (by rw [wrap64 (n := (i : Int) + 1) (by omega) (by omega)]; simp) (by omega) (by omega) hzs ha) ?_
      rw [e]
    · have h' : zs.any (fun y => y == l.getD i 0) = false := h
      have htw : (zs.takeWhile (fun y => lecB y (l.getD i 0))).length ≤ zs.length := by
        have := congrArg List.length (List.takeWhile_append_dropWhile (p := fun y => lecB y (l.getD i 0)) (l := zs))
        rw [List.length_append] at this
        omega
      obtain ⟨p, hp⟩ : ∃ p, p = (zs.takeWhile (fun y => lecB y (l.getD i 0))).length := ⟨_, rfl⟩
      have hsplit : zs.take p = zs.takeWhile (fun y => lecB y (l.getD i 0)) ∧ zs.drop p = zs.dropWhile (fun y => lecB y (l.getD i 0)) := by
        have happ := List.takeWhile_append_dropWhile (p := fun y => lecB y (l.getD i 0)) (l := zs)
        constructor
        · conv => lhs; rw [← happ, hp, List.take_left']
        · conv => lhs; rw [← happ, hp, List.drop_left']
      have e : (zs.take p ++ [l.getD i 0]) ++ zs.drop p = insL zs (l.getD i 0) := by
        unfold insL
        rw [← hany, h', cond_false, hsplit.1, hsplit.2, List.append_assoc]
        rfl
      have L := fun k => lq_specSortLectic l hl i (by omega) hli zs (by omega) (setsB_iff.1 hzs) k zs.length n 0 0 rfl (Nat.zero_le _) rfl (by omega)
      rw [List.drop_zero, ← hp, Nat.zero_add] at L
      rw [← hp] at htw
      conv => lhs; whnf
      refine (L _).trans ?_
      conv => lhs; whnf
      refine br_t (dt2 (by omega) (by omega)) ?_
      conv => lhs; whnf
      refine br_t (dt (by simp [room]; omega)) ?_
      conv => lhs; whnf
      refine br_t (dt2 (by omega) (by omega)) ?_
      conv => lhs; whnf
      refine br_t (dt2 (by omega) (by omega)) ?_
      conv => lhs; whnf
      refine br_t (dt (by simp [room]; omega)) ?_
      conv => lhs; whnf
      refine br_t (dt (by simp [room]; omega)) ?_
      conv => lhs; whnf
      repeat ((first | with_reducible apply br_tt | with_reducible apply br_ff | with_reducible apply br_nf | with_reducible apply br_nt | with_reducible refine br_d ?_ (by kernel_rfl)); conv => lhs; whnf)
      refine Eq.trans (ih n (i + 1) _ _ (by omega) (by omega) (by rw [wrap64 (n := (i : Int) + 1) (by omega) (by omega)]; simp) (by omega) (show ((zs.take p ++ [l.getD i 0]) ++ zs.drop p).length ≤ i + 1 by rw [e]; exact hil) (show setsB ((zs.take p ++ [l.getD i 0]) ++ zs.drop p) = true by rw [e]; exact hok.2.1) (show AscL ((zs.take p ++ [l.getD i 0]) ++ zs.drop p) by rw [e]; exact hok.1)) ?_
      rw [← e]
      rfl
theorem ev_specSortLectic (l : List Int) (hp : l.length ≤ 64 ∧ setsB l = true) : evF E_specSortLectic (200) Tryz.f153 [.lst (.int .i64) l] [] = some (.own 0, [.row 3 (.int .i64) (lsortI l)]) := by
  have h8 : l.all (isSet 8) = true := by
    rw [List.all_eq_true]
    intro x hx
    have := setsB_iff.1 hp.2 x hx
    rw [isSet8]
    exact dt (by omega)
  conv => lhs; whnf
  conv => lhs; arg 1; whnf
  refine bnd_g (by omega) ?_
  conv => lhs; whnf
  refine br_f (by (rw [h8]; rfl)) ?_
  conv => lhs; whnf
  refine (lp_specSortLectic l hp.1 hp.2 _ l.length _ 0 0 [] rfl (Nat.zero_le _) rfl (by change _ < 199; omega) (Nat.le_refl _) rfl List.Pairwise.nil).trans ?_
  rw [List.drop_zero, sortL_eq hp.2]
  conv => lhs; whnf
theorem ok_specSortLectic : FnOk Tryz.prog 153 K_specSortLectic := by
  refine fn_ok (fn := Tryz.f153) (k := Tryz.f153.ntmps) (E := E_specSortLectic) (facts_of (List.forall_mem_cons.2 ⟨ok_l2Sets, List.forall_mem_cons.2 ⟨ok_l2In, List.forall_mem_cons.2 ⟨ok_specBeforeSet, List.forall_mem_nil _⟩⟩⟩)) (by kernel_rfl) rfl (by decide +kernel) (by decide +kernel) ?_
  intro avs hin r h
  unfold K_specSortLectic at h
  split at h
  · obtain ⟨hp, rfl⟩ := gd_o h
    exact ⟨_, ev_specSortLectic _ hp, rfl⟩
  · cases h

end Go.Sym
