/- Functions of the program, each told as a plain equation. -/
import Derived.Test.YtonbmmjagdbgaaaGreatDoorSymHWA
namespace Go.Sym
open Go.Proofs
set_option linter.unusedVariables false
set_option linter.unusedSimpArgs false
set_option maxRecDepth 100000
set_option maxHeartbeats 4000000

/-- Pseudo-closed sets. -/
def Pseudo (cl : Nat → Nat) (s : Nat) : Prop := cl s ≠ s ∧ ∀ p, p < s → SubN p s → Pseudo cl p → SubN (cl p) s
termination_by s
decreasing_by assumption
theorem pseudo_iff (cl : Nat → Nat) (s : Nat) : Pseudo cl s ↔ cl s ≠ s ∧ ∀ p, p < s → SubN p s → Pseudo cl p → SubN (cl p) s := by
  conv => lhs; unfold Pseudo
noncomputable def psB (cl : Nat → Nat) (s : Nat) : Bool := @decide (Pseudo cl s) (Classical.propDecidable _)
theorem psB_iff {cl : Nat → Nat} {s : Nat} : psB cl s = true ↔ Pseudo cl s := by
  unfold psB
  exact @decide_eq_true_iff _ (Classical.propDecidable _)
def greedy (ok : List Nat → Nat → Bool) : List Nat → List Nat → List Nat
  | [], out => out
  | s :: r, out => greedy ok r (bif ok out s then out ++ [s] else out)
theorem psub_lt {p s : Nat} (h : SubN p s) (hne : p ≠ s) : p < s := by
  have e : p &&& s = p := by
    apply Nat.eq_of_testBit_eq
    intro i
    rw [Nat.testBit_and]
    cases hb : p.testBit i
    · rfl
    · rw [h i hb]; rfl
  have : p &&& s ≤ s := Nat.and_le_right
  omega
/-- A choice that goes by what is there gives the pseudo-closed sets, in any order that has subsets first. -/
theorem greedy_ps {cl : Nat → Nat} {ok : List Nat → Nat → Bool} (N : Nat)
    (hok : ∀ out s, s < N → s ∉ out → (∀ x ∈ out, x < N) → (ok out s = true ↔ cl s ≠ s ∧ ∀ p ∈ out, p ≠ s → SubN p s → SubN (cl p) s)) :
    ∀ (todo done : List Nat), (∀ x ∈ done ++ todo, x < N) → (∀ (a : List Nat) (s : Nat) (b : List Nat), todo = a ++ s :: b → s ∉ done ++ a ∧ ∀ p, p < N → SubN p s → p ≠ s → p ∈ done ++ a) →
      greedy ok todo (done.filter (psB cl)) = (done ++ todo).filter (psB cl)
  | [], done, _, _ => by rw [greedy, List.append_nil]
  | s :: r, done, hN, h => by
    obtain ⟨h1, h2⟩ := h [] s r rfl
    rw [List.append_nil] at h1 h2
    have hs : s < N := hN s (by simp)
    have e : ok (done.filter (psB cl)) s = psB cl s := by
      rw [Bool.eq_iff_iff, hok _ s hs (fun hx => h1 (List.mem_filter.1 hx).1) (fun x hx => hN x (List.mem_append_left _ (List.mem_filter.1 hx).1)), psB_iff, pseudo_iff]
      refine and_congr_right fun _ => ⟨fun g p hp hsub hps => ?_, fun g p hp hne hsub => ?_⟩
      · exact g p (List.mem_filter.2 ⟨h2 p (by omega) hsub (by omega), psB_iff.2 hps⟩) (by omega) hsub
      · exact g p (psub_lt hsub hne) hsub (psB_iff.1 (List.mem_filter.1 hp).2)
    have e2 : (bif ok (done.filter (psB cl)) s then done.filter (psB cl) ++ [s] else done.filter (psB cl)) = (done ++ [s]).filter (psB cl) := by
      rw [e, List.filter_append, List.filter_cons]
      cases psB cl s <;> simp
    rw [greedy, e2, greedy_ps N hok r (done ++ [s]) (by simpa [List.append_assoc] using hN) (fun a t b hr => ?_), List.append_assoc]
    · rfl
    · obtain ⟨g1, g2⟩ := h (s :: a) t b (by rw [hr]; rfl)
      rw [List.append_assoc]
      exact ⟨g1, g2⟩
def chkO : List Nat → Bool
  | [] => true
  | s :: r => r.all (fun p => !(p &&& s == p)) && chkO r
theorem chkO_mid : ∀ (a : List Nat) (s : Nat) (b : List Nat), chkO (a ++ s :: b) = true → (∀ p ∈ b, p &&& s ≠ p) ∧ s ∉ a
  | [], s, b, h => by
    simp only [List.nil_append, chkO, Bool.and_eq_true, List.all_eq_true, Bool.not_eq_true', beq_eq_false_iff_ne] at h
    exact ⟨h.1, by simp⟩
  | x :: a, s, b, h => by
    simp only [List.cons_append, chkO, Bool.and_eq_true, List.all_eq_true, Bool.not_eq_true', beq_eq_false_iff_ne] at h
    obtain ⟨h1, h2⟩ := chkO_mid a s b h.2
    refine ⟨h1, fun hs => ?_⟩
    rcases List.mem_cons.1 hs with rfl | hs
    · exact h.1 s (by simp) (Nat.and_self s)
    · exact h2 hs
theorem order_ps {cl : Nat → Nat} {ok : List Nat → Nat → Bool} {N : Nat} {L : List Nat} (hL : chkO L = true) (hN : ∀ x ∈ L, x < N) (hall : ∀ x, x < N → x ∈ L)
    (hok : ∀ out s, s < N → s ∉ out → (∀ x ∈ out, x < N) → (ok out s = true ↔ cl s ≠ s ∧ ∀ p ∈ out, p ≠ s → SubN p s → SubN (cl p) s)) : greedy ok L [] = L.filter (psB cl) := by
  refine greedy_ps N hok L [] hN fun a s b hab => ?_
  rw [hab] at hL
  obtain ⟨h1, h2⟩ := chkO_mid a s b hL
  refine ⟨h2, fun p hp hsub hne => ?_⟩
  have hm := hall p hp
  rw [hab] at hm
  rcases List.mem_append.1 hm with hm | hm
  · exact hm
  · rcases List.mem_cons.1 hm with rfl | hm
    · exact absurd rfl hne
    · refine absurd ?_ (h1 p hm)
      apply Nat.eq_of_testBit_eq
      intro i
      rw [Nat.testBit_and]
      cases hb : p.testBit i
      · rfl
      · rw [hsub i hb]; rfl
/-- A list of sets in lectic order. -/
def lsortI (a : List Int) : List Int := (lecI 6).filter (fun x => a.contains x)
def cfL (x y : Fin 64) : Int := lecC (x.val : Int) (y.val : Int)
def finL (a : List Int) : Array (Fin 64) := (a.map fun x => Fin.ofNat 64 x.toNat).toArray
def setsB (a : List Int) : Bool := a.all (fun x => decide (0 ≤ x ∧ x ≤ 63))
theorem ltL_all : ∀ x y : Fin 64, Go.Proofs.ltOf cfL x y = decide (brev 6 x.val < brev 6 y.val) := by decide +kernel
theorem brevL_inj : ∀ x y : Fin 64, brev 6 x.val = brev 6 y.val → x = y := by decide +kernel
theorem swoL : Go.Sort.SWO (Go.Proofs.ltOf cfL) where
  irrefl x := by rw [ltL_all]; simp
  trans x y z h1 h2 := by rw [ltL_all] at *; simp at *; omega
  ntrans x y z h1 h2 := by rw [ltL_all] at *; simp at *; omega
theorem totL (x y : Fin 64) (h1 : Go.Proofs.ltOf cfL x y = false) (h2 : Go.Proofs.ltOf cfL y x = false) : x = y := by
  rw [ltL_all] at h1 h2
  simp at h1 h2
  exact brevL_inj x y (by omega)
theorem finL_ints {a : List Int} (h : setsB a = true) : intsF (finL a) = a := by
  unfold intsF finL
  simp only [List.map_map]
  conv => rhs; rw [← List.map_id a]
  refine List.map_congr_left fun x hx => ?_
  have := of_decide_eq_true (List.all_eq_true.1 h x hx)
  simp only [Function.comp, Fin.ofNat, id]
  omega
theorem lec6 : (lecI 6).Pairwise (fun x y => Go.Proofs.ltOf cfL (Fin.ofNat 64 y.toNat) (Fin.ofNat 64 x.toNat) = false) ∧ (lecI 6).Nodup ∧ setsB (lecI 6) = true := by decide +kernel
theorem lec6_mem {x : Int} (h : 0 ≤ x ∧ x ≤ 63) : x ∈ lecI 6 := by
  unfold lecI
  refine List.mem_map.2 ⟨x.toNat, (lecL_mem (by omega)).2 (by omega), by omega⟩
theorem lsortI_mem {a : List Int} (h : setsB a = true) (x : Int) : x ∈ lsortI a ↔ x ∈ a := by
  unfold lsortI
  rw [List.mem_filter, List.contains_iff_mem]
  refine ⟨fun g => g.2, fun g => ⟨lec6_mem (of_decide_eq_true (List.all_eq_true.1 h x g)), g⟩⟩
theorem lsortI_nodup (a : List Int) : (lsortI a).Nodup := lec6.2.1.filter _
theorem lsortI_sets (a : List Int) : setsB (lsortI a) = true := by
  unfold setsB
  rw [List.all_eq_true]
  intro x hx
  exact List.all_eq_true.1 lec6.2.2 x (List.mem_filter.1 hx).1
theorem lsortI_perm {a : List Int} (h : setsB a = true) (hn : a.Nodup) : (lsortI a).Perm a := (List.perm_ext_iff_of_nodup (lsortI_nodup a) hn).2 (lsortI_mem h)
theorem lsortI_len {a : List Int} (h : setsB a = true) (hn : a.Nodup) : (lsortI a).length = a.length := (lsortI_perm h hn).length_eq
theorem nodup_le {a : List Int} (h : setsB a = true) (hn : a.Nodup) : a.length ≤ 64 := by
  have h1 := lsortI_len h hn
  have : (lsortI a).length ≤ (lecI 6).length := List.length_filter_le _ _
  have h6 : (lecI 6).length = 64 := by decide +kernel
  omega
theorem finL_size (a : List Int) : (finL a).size = a.length := by simp [finL]
theorem lsort_sorted (a : List Int) (i j : Nat) (hij : i < j) (hj : j < (lsortI a).length) : Go.Proofs.ltOf cfL (finL (lsortI a))[j]! (finL (lsortI a))[i]! = false := by
  have hp : (lsortI a).Pairwise (fun x y => Go.Proofs.ltOf cfL (Fin.ofNat 64 y.toNat) (Fin.ofNat 64 x.toNat) = false) := lec6.1.filter _
  have := List.pairwise_iff_getElem.1 hp i j (by omega) hj hij
  have e : ∀ k (hk : k < (lsortI a).length), (finL (lsortI a))[k]! = Fin.ofNat 64 ((lsortI a)[k]).toNat := by
    intro k hk
    rw [getElem!_pos _ k (by rw [finL_size]; exact hk)]
    simp [finL]
  rw [e j hj, e i (by omega)]
  exact this
theorem lsort_perm {a : List Int} (h : setsB a = true) (hn : a.Nodup) : (finL (lsortI a)).toList.Perm (finL a).toList := by
  unfold finL
  exact (lsortI_perm h hn).map _
theorem lecB_lt : ∀ x y : Fin 64, lecB (x.val : Int) (y.val : Int) = decide (brev 6 x.val < brev 6 y.val) := by decide +kernel
def insL (acc : List Int) (x : Int) : List Int := bif acc.contains x then acc else acc.takeWhile (fun y => lecB y x) ++ x :: acc.dropWhile (fun y => lecB y x)
def sortL : List Int → List Int → List Int
  | [], acc => acc
  | x :: r, acc => sortL r (insL acc x)
def br6 (x : Int) : Nat := brev 6 x.toNat
theorem lecB_br {x y : Int} (hx : 0 ≤ x ∧ x ≤ 63) (hy : 0 ≤ y ∧ y ≤ 63) : lecB x y = decide (br6 x < br6 y) := by
  have := lecB_lt ⟨x.toNat, by omega⟩ ⟨y.toNat, by omega⟩
  simp only [Int.toNat_of_nonneg hx.1, Int.toNat_of_nonneg hy.1] at this
  exact this
theorem br6_inj {x y : Int} (hx : 0 ≤ x ∧ x ≤ 63) (hy : 0 ≤ y ∧ y ≤ 63) (h : br6 x = br6 y) : x = y := by
  have := brevL_inj ⟨x.toNat, by omega⟩ ⟨y.toNat, by omega⟩ h
  have := congrArg Fin.val this
  simp only at this
  omega
def AscL (l : List Int) : Prop := l.Pairwise (fun x y => br6 x < br6 y)
theorem setsB_iff {a : List Int} : setsB a = true ↔ ∀ x ∈ a, 0 ≤ x ∧ x ≤ 63 := by
  unfold setsB
  simp only [List.all_eq_true, decide_eq_true_eq]
theorem insL_ok {acc : List Int} {x : Int} (hs : setsB acc = true) (hx : 0 ≤ x ∧ x ≤ 63) (h : AscL acc) : AscL (insL acc x) ∧ setsB (insL acc x) = true ∧ ∀ z, z ∈ insL acc x ↔ z = x ∨ z ∈ acc := by
  unfold insL
  cases hc : acc.contains x
  · rw [cond_false]
    have hs := setsB_iff.1 hs
    have hnx : x ∉ acc := by
      intro hm
      rw [List.contains_iff_mem.2 hm] at hc
      cases hc
    have happ := List.takeWhile_append_dropWhile (p := fun y => lecB y x) (l := acc)
    have hmem : ∀ z, z ∈ acc.takeWhile (fun y => lecB y x) ++ x :: acc.dropWhile (fun y => lecB y x) ↔ z = x ∨ z ∈ acc := by
      intro z
      conv => rhs; rw [← happ]
      simp only [List.mem_append, List.mem_cons]
      exact ⟨fun g => by rcases g with g | g | g <;> simp [g], fun g => by rcases g with g | g | g <;> simp [g]⟩
    refine ⟨?_, ?_, hmem⟩
    · unfold AscL at h ⊢
      rw [← happ, List.pairwise_append] at h
      obtain ⟨h1, h2, h3⟩ := h
      have hlt : ∀ y ∈ acc.takeWhile (fun y => lecB y x), br6 y < br6 x := by
        intro y hy
        have hb : lecB y x = true := by
          have : ∀ (l : List Int), y ∈ l.takeWhile (fun y => lecB y x) → lecB y x = true := by
            intro l
            induction l with
            | nil => intro g; simp at g
            | cons a l ih =>
              intro g
              rw [List.takeWhile_cons] at g
              cases ha : lecB a x
              · rw [ha] at g; simp at g
              · rw [ha] at g
                rcases List.mem_cons.1 (by simpa using g) with rfl | g
                · exact ha
                · exact ih g
          exact this acc hy
        have hy2 : y ∈ acc := by rw [← happ]; exact List.mem_append_left _ hy
        rw [lecB_br (hs y hy2) hx] at hb
        exact of_decide_eq_true hb
      have hgt : ∀ z ∈ acc.dropWhile (fun y => lecB y x), br6 x < br6 z := by
        intro z hz
        have hz2 : z ∈ acc := by rw [← happ]; exact List.mem_append_right _ hz
        cases hd : acc.dropWhile (fun y => lecB y x) with
        | nil => rw [hd] at hz; cases hz
        | cons w r =>
          have hw2 : w ∈ acc := by rw [← happ, hd]; simp
          have hwb : lecB w x = false := by
            have := List.head_dropWhile_not (fun y => lecB y x) (l := acc) (by rw [hd]; simp)
            simpa [hd] using this
          rw [lecB_br (hs w hw2) hx] at hwb
          have hwb := of_decide_eq_false hwb
          have hne : br6 w ≠ br6 x := fun e => hnx (by rw [← br6_inj (hs w hw2) hx e]; exact hw2)
          rw [hd] at hz h2
          rcases List.mem_cons.1 hz with rfl | hz
          · omega
          · have := (List.pairwise_cons.1 h2).1 z hz
            omega
      rw [List.pairwise_append, List.pairwise_cons]
      refine ⟨h1, ⟨hgt, h2⟩, fun a ha b hb => ?_⟩
      rcases List.mem_cons.1 hb with rfl | hb
      · exact hlt a ha
      · exact h3 a ha b hb
    · rw [setsB_iff]
      intro z hz
      rcases (hmem z).1 hz with rfl | hz
      · exact hx
      · exact hs z hz
  · rw [cond_true]
    refine ⟨h, hs, fun z => ⟨fun g => .inr g, fun g => ?_⟩⟩
    rcases g with rfl | g
    · exact List.contains_iff_mem.1 hc
    · exact g
theorem sortL_ok : ∀ (l acc : List Int), setsB acc = true → setsB l = true → AscL acc → AscL (sortL l acc) ∧ setsB (sortL l acc) = true ∧ ∀ z, z ∈ sortL l acc ↔ z ∈ l ∨ z ∈ acc
  | [], acc, h1, h2, h3 => ⟨h3, h1, fun z => by simp [sortL]⟩
  | x :: r, acc, h1, h2, h3 => by
    have h2' := setsB_iff.1 h2
    obtain ⟨g1, g2, g3⟩ := insL_ok h1 (h2' x (by simp)) h3
    obtain ⟨q1, q2, q3⟩ := sortL_ok r (insL acc x) g2 (setsB_iff.2 fun y hy => h2' y (by simp [hy])) g1
    refine ⟨q1, q2, fun z => ?_⟩
    rw [sortL, q3 z, g3 z, List.mem_cons]
    exact ⟨fun g => by rcases g with g | g | g <;> simp [g], fun g => by rcases g with (g | g) | g <;> simp [g]⟩
theorem asc_ext {a b : List Int} (ha : AscL a) (hb : AscL b) (h : ∀ z, z ∈ a ↔ z ∈ b) : a = b := by
  have hn : ∀ {l : List Int}, AscL l → l.Nodup := fun hl => hl.imp fun g e => by rw [e] at g; omega
  exact List.Perm.eq_of_pairwise (le := fun x y => br6 x < br6 y) (fun x y _ _ g1 g2 => by omega) ha hb ((List.perm_ext_iff_of_nodup (hn ha) (hn hb)).2 h)
theorem lsortI_asc (a : List Int) : AscL (lsortI a) := by
  have h6 : (lecI 6).Pairwise (fun x y => br6 x < br6 y) := by decide +kernel
  exact h6.filter _
theorem sortL_eq {l : List Int} (h : setsB l = true) : sortL l [] = lsortI l := by
  obtain ⟨h1, h2, h3⟩ := sortL_ok l [] rfl h List.Pairwise.nil
  refine asc_ext h1 (lsortI_asc l) fun z => ?_
  rw [h3 z, lsortI_mem h]
  simp
theorem sortL_len : ∀ (l acc : List Int), (sortL l acc).length ≤ l.length + acc.length
  | [], acc => by simp [sortL]
  | x :: r, acc => by
    have := sortL_len r (insL acc x)
    have h2 : (insL acc x).length ≤ acc.length + 1 := by
      unfold insL
      cases acc.contains x
      · rw [cond_false, List.length_append, List.length_cons]
        have := congrArg List.length (List.takeWhile_append_dropWhile (p := fun y => lecB y x) (l := acc))
        rw [List.length_append] at this
        omega
      · rw [cond_true]; omega
    rw [sortL, List.length_cons]
    omega
def stableN (n : Nat) : List Nat := (stableF (lecI n)).map Int.toNat
theorem stab_all : ∀ n : Fin 7, chkO (stableN n.val) = true ∧ (stableN n.val).all (fun x => decide (x < 2 ^ n.val)) = true ∧ (List.range (2 ^ n.val)).all (fun x => (stableN n.val).contains x) = true ∧ stableF (lecI n.val) = (stableN n.val).map (fun (x : Nat) => (x : Int)) := by decide +kernel
theorem num_all : ∀ n : Fin 7, chkO (List.range (2 ^ n.val)) = true := by decide +kernel
def okS (cl : Nat → Nat) (out : List Nat) (s : Nat) : Bool := !(cl s == s) && out.all (fun p => !(p &&& s == p) || (cl p &&& s == cl p))
def okP (cl : Nat → Nat) (out : List Nat) (s : Nat) : Bool := !(cl s == s) && !out.any (fun p => (!(p == s) && (p &&& s == p)) && !(cl p &&& s == cl p))
theorem okS_ok (cl : Nat → Nat) (out : List Nat) (s : Nat) (hs : s ∉ out) : okS cl out s = true ↔ cl s ≠ s ∧ ∀ p ∈ out, p ≠ s → SubN p s → SubN (cl p) s := by
  unfold okS
  rw [Bool.and_eq_true, Bool.not_eq_true', beq_eq_false_iff_ne, List.all_eq_true]
  refine and_congr_right fun _ => ⟨fun g p hp _ hsub => ?_, fun g p hp => ?_⟩
  · have := g p hp
    rw [and_sub.2 hsub, Bool.not_true, Bool.false_or] at this
    exact and_sub.1 this
  · cases hb : p &&& s == p
    · rfl
    · rw [Bool.not_true, Bool.false_or]
      exact and_sub.2 (g p hp (fun e => hs (e ▸ hp)) (and_sub.1 hb))
theorem okP_ok (cl : Nat → Nat) (out : List Nat) (s : Nat) (hs : s ∉ out) : okP cl out s = true ↔ cl s ≠ s ∧ ∀ p ∈ out, p ≠ s → SubN p s → SubN (cl p) s := by
  unfold okP
  rw [Bool.and_eq_true, Bool.not_eq_true', beq_eq_false_iff_ne, Bool.not_eq_true', List.any_eq_false]
  refine and_congr_right fun _ => ⟨fun g p hp hne hsub => ?_, fun g p hp => ?_⟩
  · have := g p hp
    rw [and_sub.2 hsub, beq_eq_false_iff_ne.2 hne] at this
    simp only [Bool.not_false, Bool.and_self, Bool.true_and, Bool.not_eq_true', Bool.not_eq_false] at this
    exact and_sub.1 this
  · cases hb : p &&& s == p
    · simp
    · rw [and_sub.2 (g p hp (fun e => hs (e ▸ hp)) (and_sub.1 hb))]
      simp
theorem greedy_S (cl : Nat → Nat) {n : Nat} (hn : n ≤ 6) : greedy (okS cl) (List.range (2 ^ n)) [] = (List.range (2 ^ n)).filter (psB cl) :=
  order_ps (N := 2 ^ n) (num_all ⟨n, by omega⟩) (fun x hx => List.mem_range.1 hx) (fun x hx => List.mem_range.2 hx) fun out s _ hs _ => okS_ok cl out s hs
theorem stab_mem {n : Nat} (hn : n ≤ 6) (x : Nat) : x ∈ stableN n ↔ x < 2 ^ n := by
  obtain ⟨h1, h2, h3, h4⟩ := stab_all ⟨n, by omega⟩
  simp only [List.all_eq_true, decide_eq_true_eq, List.mem_range, List.contains_iff_mem] at h2 h3
  exact ⟨h2 x, h3 x⟩
theorem greedy_I (cl : Nat → Nat) {n : Nat} (hn : n ≤ 6) : greedy (okP cl) (stableN n) [] = (stableN n).filter (psB cl) :=
  order_ps (N := 2 ^ n) (stab_all ⟨n, by omega⟩).1 (fun x hx => (stab_mem hn x).1 hx) (fun x hx => (stab_mem hn x).2 hx) fun out s _ hs _ => okP_ok cl out s hs
abbrev castN (L : List Nat) : List Int := L.map (fun (x : Nat) => (x : Int))
theorem chkO_nodup : ∀ l : List Nat, chkO l = true → l.Nodup
  | [], _ => List.nodup_nil
  | s :: r, h => by
    rw [chkO, Bool.and_eq_true, List.all_eq_true] at h
    refine List.nodup_cons.2 ⟨fun hs => ?_, chkO_nodup r h.2⟩
    have := h.1 s hs
    rw [Nat.and_self] at this
    simp at this
theorem castN_nodup {L : List Nat} (h : L.Nodup) : (castN L).Nodup := by
  refine List.Pairwise.map _ (fun a b hab e => hab ?_) h
  exact Int.ofNat.inj e
theorem castN_sets {L : List Nat} (h : ∀ x ∈ L, x < 64) : setsB (castN L) = true := by
  rw [setsB_iff]
  intro y hy
  obtain ⟨x, hx, rfl⟩ := List.mem_map.1 hy
  have := h x hx
  omega
theorem lsortI_congr {a b : List Int} (h : ∀ x, x ∈ a ↔ x ∈ b) : lsortI a = lsortI b := by
  unfold lsortI
  refine List.filter_congr fun x _ => ?_
  rw [Bool.eq_iff_iff, List.contains_iff_mem, List.contains_iff_mem, h x]
def stemI (m : Int) (b : List Int) : List Int := lsortI (castN (greedy (okS (clN m b)) (List.range (2 ^ m.toNat)) []))
theorem stem_S (m : Int) (b : List Int) (hm : m.toNat ≤ 6) : sortL (castN (greedy (okS (clN m b)) (List.range (2 ^ m.toNat)) [])) [] = stemI m b := by
  have hp : 2 ^ m.toNat ≤ 2 ^ 6 := Nat.pow_le_pow_right (by omega) hm
  unfold stemI
  rw [greedy_S _ hm]
  exact sortL_eq (castN_sets fun x hx => by have := List.mem_range.1 (List.mem_filter.1 hx).1; omega)
theorem stem_I (m : Int) (b : List Int) (hm : m.toNat ≤ 6) : lsortI (castN (greedy (okP (clN m b)) (stableN m.toNat) [])) = stemI m b := by
  unfold stemI
  rw [greedy_I _ hm, greedy_S _ hm]
  refine lsortI_congr fun x => ?_
  simp only [castN, List.mem_map, List.mem_filter, stab_mem hm, List.mem_range]
theorem greedy_sub (ok : List Nat → Nat → Bool) : ∀ (l out : List Nat), ∀ x ∈ greedy ok l out, x ∈ l ∨ x ∈ out
  | [], out, x, h => .inr h
  | s :: r, out, x, h => by
    rw [greedy] at h
    rcases greedy_sub ok r _ x h with h | h
    · exact .inl (by simp [h])
    · cases hb : ok out s
      · rw [hb, cond_false] at h; exact .inr h
      · rw [hb, cond_true] at h
        rcases List.mem_append.1 h with h | h
        · exact .inr h
        · exact .inl (by simp at h; simp [h])
theorem stemI_sets (m : Int) (b : List Int) : setsB (stemI m b) = true := lsortI_sets _
theorem stemI_len (m : Int) (b : List Int) : (stemI m b).length ≤ 64 := nodup_le (stemI_sets m b) (lsortI_nodup _)
theorem stemI_mem {m : Int} {b : List Int} (hm : m.toNat ≤ 6) {x : Int} (h : x ∈ stemI m b) : 0 ≤ x ∧ x.toNat < 2 ^ m.toNat := by
  have hp : 2 ^ m.toNat ≤ 2 ^ 6 := Nat.pow_le_pow_right (by omega) hm
  unfold stemI at h
  rw [greedy_S _ hm] at h
  rw [lsortI_mem (castN_sets fun x hx => by have := List.mem_range.1 (List.mem_filter.1 hx).1; omega)] at h
  obtain ⟨y, hy, rfl⟩ := List.mem_map.1 h
  have := List.mem_range.1 (List.mem_filter.1 hy).1
  exact ⟨by omega, by rw [Int.toNat_natCast]; exact this⟩
theorem greedy_I_nodup (cl : Nat → Nat) {n : Nat} (hn : n ≤ 6) : (castN (greedy (okP cl) (stableN n) [])).Nodup := by
  rw [greedy_I _ hn]
  exact castN_nodup ((chkO_nodup _ (stab_all ⟨n, by omega⟩).1).filter _)
theorem greedy_I_sets (cl : Nat → Nat) {n : Nat} (hn : n ≤ 6) : setsB (castN (greedy (okP cl) (stableN n) [])) = true := by
  have hp : 2 ^ n ≤ 2 ^ 6 := Nat.pow_le_pow_right (by omega) hn
  rw [greedy_I _ hn]
  exact castN_sets fun x hx => by have := (stab_mem hn x).1 (List.mem_filter.1 hx).1; omega
theorem greedy_S_sets (cl : Nat → Nat) {n : Nat} (hn : n ≤ 6) : setsB (castN (greedy (okS cl) (List.range (2 ^ n)) [])) = true := by
  have hp : 2 ^ n ≤ 2 ^ 6 := Nat.pow_le_pow_right (by omega) hn
  exact castN_sets fun x hx => by
    rcases greedy_sub _ _ _ x hx with h | h
    · have := List.mem_range.1 h; omega
    · cases h
theorem greedy_len (ok : List Nat → Nat → Bool) : ∀ (l out : List Nat), (greedy ok l out).length ≤ l.length + out.length
  | [], out => by simp [greedy]
  | s :: r, out => by
    have := greedy_len ok r (bif ok out s then out ++ [s] else out)
    rw [greedy, List.length_cons]
    cases hb : ok out s
    · rw [hb, cond_false] at this; rw [cond_false]; omega
    · rw [hb, cond_true, List.length_append, List.length_singleton] at this; rw [cond_true]; omega
def stemR (m : Int) (b : List Int) : List (Int × Int) := (stemI m b).map (fun s => (s, intentF m b (extF b s)))
theorem nodup_noAdj : ∀ l : List Int, l.Nodup → noAdj l = true
  | [], _ => rfl
  | [a], _ => rfl
  | a :: b :: r, h => by
    have h1 := List.nodup_cons.1 h
    unfold noAdj
    rw [nodup_noAdj (b :: r) h1.2, Bool.and_true, bne_iff_ne]
    exact fun e => h1.1 (by rw [e]; simp)
def clI (m : Int) (b : List Int) (s : Int) : Int := bif isCtx m b && isSet m s then intentF m b (extF b s) else 0
def badP (m : Int) (b : List Int) (s p : Int) : Bool := ((p != s) && (bnot p s == 0)) && !(bnot (clI m b p) s == 0)
theorem set_of_lt {m : Int} {b : List Int} (h : isCtx m b = true) {s : Nat} (hs : s < 2 ^ m.toNat) : isSet m (s : Int) = true := by
  have hl := isCtx_len h
  unfold isSet
  refine dt ⟨by omega, by omega, ?_⟩
  have e2 : ((2 ^ m.toNat : Nat) : Int) = (2 : Int) ^ m.toNat := by push_cast; rfl
  omega
theorem clI_nat {m : Int} {b : List Int} (h : isCtx m b = true) {s : Nat} (hs : s < 2 ^ m.toNat) : clI m b (s : Int) = ((clN m b s : Nat) : Int) := by
  have hl := isCtx_len h
  have h6 : 2 ^ m.toNat ≤ 2 ^ 6 := Nat.pow_le_pow_right (by omega) (by omega)
  unfold clI
  rw [h, set_of_lt h hs, Bool.and_self, cond_true, clN_int h (by omega)]
theorem badP_nat {m : Int} {b : List Int} (h : isCtx m b = true) {s p : Nat} (hs : s < 2 ^ m.toNat) (hp : p < 2 ^ m.toNat) : badP m b (s : Int) (p : Int) = ((!(p == s) && (p &&& s == p)) && !(clN m b p &&& s == clN m b p)) := by
  have hl := isCtx_len h
  have h6 : 2 ^ m.toNat ≤ 2 ^ 6 := Nat.pow_le_pow_right (by omega) (by omega)
  have hc := (cl_clo h).lt p hp
  have hb : ∀ x y : Nat, x < 256 → y < 256 → (bnot (x : Int) (y : Int) == 0) = (x &&& y == x) := by
    intro x y hx hy
    rw [bnot_sub hx, band_nat hx hy, Bool.eq_iff_iff, beq_iff_eq, beq_iff_eq]
    omega
  unfold badP
  rw [clI_nat h hp, hb p s (by omega) (by omega), hb _ s (by omega) (by omega)]
  congr 2
  rw [bne, Bool.eq_iff_iff]
  simp only [Bool.not_eq_true', beq_eq_false_iff_ne, ne_eq]
  omega
theorem any_bad {m : Int} {b : List Int} (h : isCtx m b = true) {s : Nat} (hs : s < 2 ^ m.toNat) : ∀ L : List Nat, (∀ x ∈ L, x < 2 ^ m.toNat) → (castN L).any (badP m b (s : Int)) = L.any (fun p => (!(p == s) && (p &&& s == p)) && !(clN m b p &&& s == clN m b p))
  | [], _ => rfl
  | p :: L, hL => by
    have ih := any_bad h hs L fun x hx => hL x (by simp [hx])
    unfold castN at ih ⊢
    rw [List.map_cons, List.any_cons, List.any_cons, ih, badP_nat h hs (hL p (by simp))]
def fineP (m : Int) (b : List Int) (s y : Int) : Bool := (band y s != y) || (band (intentF m b (extF b y)) s == intentF m b (extF b y))
theorem all_fine {m : Int} {b : List Int} (h : isCtx m b = true) {s : Nat} (hs : s < 2 ^ m.toNat) : ∀ L : List Nat, (∀ x ∈ L, x < 2 ^ m.toNat) → (castN L).all (fineP m b (s : Int)) = L.all (fun p => !(p &&& s == p) || (clN m b p &&& s == clN m b p))
  | [], _ => rfl
  | p :: L, hL => by
    have ih := all_fine h hs L fun x hx => hL x (by simp [hx])
    have hl := isCtx_len h
    have h6 : 2 ^ m.toNat ≤ 2 ^ 6 := Nat.pow_le_pow_right (by omega) (by omega)
    have hp := hL p (by simp)
    have hc := (cl_clo h).lt p hp
    unfold castN at ih ⊢
    rw [List.map_cons, List.all_cons, List.all_cons, ih]
    congr 1
    unfold fineP
    rw [clN_int h (by omega), band_nat (by omega) (by omega), band_nat (by omega) (by omega)]
    congr 1
    · rw [bne, Bool.eq_iff_iff]
      simp only [Bool.not_eq_true', beq_eq_false_iff_ne, ne_eq]
      omega
    · rw [Bool.eq_iff_iff, beq_iff_eq, beq_iff_eq]
      omega
theorem bs_all : ∀ x y : Fin 64, x ≠ y → (band (y.val : Int) (band (bxor (x.val : Int) (y.val : Int)) (IntKind.i64.wrap (-(bxor (x.val : Int) (y.val : Int))))) != 0) = lecB (x.val : Int) (y.val : Int) := by decide +kernel
/- spec.l2Sets -/
def K_l2Sets : List AV → List Ob → Option (AV × List Ob)
  | [.lst (.int .i64) a], [] => gd (a.length ≤ 1048576) (.bool (a.all (isSet 8)), [])
  | _, _ => none
@[reducible] def E_l2Sets : Env := mkE (tb [(115, K_specIsSet)]) (fun f => false) (fun r => bif r == 2 then ([0, 3], [2]) else ([], []))
theorem lp_l2Sets (a : List Int) (ha : a.length ≤ 1048576) (k : AX → S → Option (AV × List Ob)) (d : Nat) : ∀ (n i : Nat) (x : Int), a.length - i = d → i ≤ a.length → x = i → d < n →
    lpAt E_l2Sets (lp E_l2Sets 0 n) 0 (loopAt Tryz.f189 0) (mkS [0, 3] [.lst (.int .i64) a, .int .i64 x] []) k =
      if (a.drop i).all (isSet 8) then k (.exit 0) (mkS [2] [.any] []) else k .ret (mkS [2] [.bool false] []) := by
  induction d with
  | zero =>
    intro n i x hd hi hx hn
    subst hx
    rw [lpAt_def]
    conv => lhs; whnf
    refine br_f (df (by omega)) ?_
    conv => lhs; whnf
    rw [List.drop_of_length_le (by omega)]
    simp
  | succ d ih =>
    intro n i x hd hi hx hn
    obtain ⟨n, rfl⟩ : ∃ m, n = m + 1 := ⟨n - 1, by omega⟩
    subst hx
    rw [lpAt_def]
    conv => lhs; whnf
    refine br_t (dt (by omega)) ?_
    conv => lhs; whnf
    refine br_t (dt2 (by omega) (by omega)) ?_
    conv => lhs; whnf
    conv => lhs; arg 1; whnf
    refine bnd_g (by exact True.intro) ?_
    conv => lhs; whnf
    rw [getD_drop (l := a) (i := i) (d := 0) (by omega), List.all_cons]
    refine br_c (fun h => ?_) (fun h => ?_)
    · have h' : isSet 8 (a.getD i 0) = false := bnt h
      conv => lhs; whnf
      rw [h', Bool.false_and, if_neg (by simp)]
    · have h' : isSet 8 (a.getD i 0) = true := bnf h
      conv => lhs; whnf
      refine Eq.trans (ih n (i + 1) _ (by omega) (by omega) (by rw [wrap64 (n := (i : Int) + 1) (by omega) (by omega)]; simp) (by omega)) ?_
      rw [h', Bool.true_and]
theorem ev_l2Sets (a : List Int) (hp : a.length ≤ 1048576) : evF E_l2Sets (a.length + 2) Tryz.f189 [.lst (.int .i64) a] [] = some (.bool (a.all (isSet 8)), []) := by
  conv => lhs; whnf
  refine (lp_l2Sets a hp _ a.length _ 0 0 rfl (Nat.zero_le _) rfl (by omega)).trans ?_
  rw [List.drop_zero]
  split
  · rename_i h
    conv => lhs; whnf
    rw [h]
  · rename_i h
    conv => lhs; whnf
    rw [Bool.not_eq_true] at h
    rw [h]
theorem ok_l2Sets : FnOk Tryz.prog 189 K_l2Sets := by
  refine fn_ok (fn := Tryz.f189) (k := Tryz.f189.ntmps) (E := E_l2Sets) (facts_of (List.forall_mem_cons.2 ⟨ok_specIsSet, List.forall_mem_nil _⟩)) (by kernel_rfl) rfl (by decide +kernel) (by decide +kernel) ?_
  intro avs hin r h
  unfold K_l2Sets at h
  split at h
  · obtain ⟨hp, rfl⟩ := gd_o h
    exact ⟨_, ev_l2Sets _ hp, rfl⟩
  · cases h

/- spec.l2In -/
def K_l2In : List AV → List Ob → Option (AV × List Ob)
  | [.lst (.int .i64) a, .int .i64 v], [] => gd (a.length < 4611686018427387904) (.bool (a.any (fun y => y == v)), [])
  | _, _ => none
@[reducible] def E_l2In : Env := mkE (tb []) (fun f => false) (fun r => bif r == 2 then ([0, 1, 5], [4]) else ([], []))
theorem lp_l2In (a : List Int) (v : Int) (ha : a.length < 4611686018427387904) (k : AX → S → Option (AV × List Ob)) (d : Nat) : ∀ (n i : Nat) (x : Int), a.length - i = d → i ≤ a.length → x = i → d < n →
    lpAt E_l2In (lp E_l2In 0 n) 0 (loopAt Tryz.f112 0) (mkS [0, 1, 5] [.lst (.int .i64) a, .int .i64 v, .int .i64 x] []) k =
      if (a.drop i).any (fun y => y == v) then k .ret (mkS [4] [.bool true] []) else k (.exit 0) (mkS [4] [.any] []) := by
  induction d with
  | zero =>
    intro n i x hd hi hx hn
    subst hx
    rw [lpAt_def]
    conv => lhs; whnf
    refine br_f (df (by omega)) ?_
    conv => lhs; whnf
    rw [List.drop_of_length_le (by omega)]
    simp
  | succ d ih =>
    intro n i x hd hi hx hn
    obtain ⟨n, rfl⟩ : ∃ m, n = m + 1 := ⟨n - 1, by omega⟩
    subst hx
    rw [lpAt_def]
    conv => lhs; whnf
    refine br_t (dt (by omega)) ?_
    conv => lhs; whnf
    refine br_t (dt2 (by omega) (by omega)) ?_
    conv => lhs; whnf
    rw [getD_drop (l := a) (i := i) (d := 0) (by omega)]
    refine br_c (fun h => ?_) (fun h => ?_)
    · have h' : (a.getD i 0 == v) = true := h
      conv => lhs; whnf
      rw [if_pos (by simp only [List.any_cons, h', Bool.true_or])]
    · have h' : (a.getD i 0 == v) = false := h
      conv => lhs; whnf
      rw [ih n (i + 1) _ (by omega) (by omega) (by rw [wrap64 (by omega) (by omega)]; simp) (by omega)]
      simp only [List.any_cons, h', Bool.false_or]
theorem ev_l2In (a : List Int) (v : Int) (hp : a.length < 4611686018427387904) : evF E_l2In (a.length + 2) Tryz.f112 [.lst (.int .i64) a, .int .i64 v] [] = some (.bool (a.any (fun y => y == v)), []) := by
  conv => lhs; whnf
  refine (lp_l2In a v hp _ a.length _ 0 0 rfl (by omega) rfl (by omega)).trans ?_
  simp only [List.drop_zero]
  split
  · rename_i he
    conv => lhs; whnf
    rw [he]
  · rename_i he
    conv => lhs; whnf
    rw [Bool.not_eq_true] at he
    rw [he]
theorem ok_l2In : FnOk Tryz.prog 112 K_l2In := by
  refine fn_ok (fn := Tryz.f112) (k := Tryz.f112.ntmps) (E := E_l2In) (facts_of (List.forall_mem_nil _)) (by kernel_rfl) rfl (by decide +kernel) (by decide +kernel) ?_
  intro avs hin r h
  unfold K_l2In at h
  split at h
  · obtain ⟨hp, rfl⟩ := gd_o h
    exact ⟨_, ev_l2In _ _ hp, rfl⟩
  · cases h

/- spec.BeforeSet -/
def K_specBeforeSet : List AV → List Ob → Option (AV × List Ob)
  | [.int .i64 s, .int .i64 t], [] => gd ((0 ≤ s ∧ s ≤ 63) ∧ (0 ≤ t ∧ t ≤ 63)) (.bool (lecB s t), [])
  | _, _ => none
@[reducible] def E_specBeforeSet : Env := mkE (tb [(115, K_specIsSet)]) (fun f => false) (fun r => ([], []))
theorem ev_specBeforeSet (s t : Int) (hp : (0 ≤ s ∧ s ≤ 63) ∧ (0 ≤ t ∧ t ≤ 63)) : evF E_specBeforeSet (1) Tryz.f208 [.int .i64 s, .int .i64 t] [] = some (.bool (lecB s t), []) := by
  have h1 : isSet 8 s = true := by rw [isSet8]; exact dt ⟨hp.1.1, by omega⟩
  have h2 : isSet 8 t = true := by rw [isSet8]; exact dt ⟨hp.2.1, by omega⟩
  have g1 : (!isSet 8 s) = false := by rw [h1]; rfl
  have g2 : (!isSet 8 t) = false := by rw [h2]; rfl
  conv => lhs; whnf
  conv => lhs; arg 1; whnf
  refine bnd_g (by exact True.intro) ?_
  conv => lhs; whnf
  repeat ((first | with_reducible apply br_tt | with_reducible apply br_ff | with_reducible apply br_nf | with_reducible apply br_nt | with_reducible refine br_d ?_ (by kernel_rfl) | with_reducible apply br_t g1 | with_reducible apply br_f g1); conv => lhs; whnf)
  conv => lhs; arg 1; whnf
  refine bnd_g (by exact True.intro) ?_
  conv => lhs; whnf
  repeat ((first | with_reducible apply br_tt | with_reducible apply br_ff | with_reducible apply br_nf | with_reducible apply br_nt | with_reducible refine br_d ?_ (by kernel_rfl) | with_reducible apply br_t g1 | with_reducible apply br_f g1 | with_reducible apply br_t g2 | with_reducible apply br_f g2); conv => lhs; whnf)
  refine br_c (fun h => ?_) (fun h => ?_)
  · have h' : (s == t) = true := h
    have he : s = t := by simpa using h'
    subst he
    conv => lhs; whnf
    repeat ((first | with_reducible apply br_tt | with_reducible apply br_ff | with_reducible apply br_nf | with_reducible apply br_nt | with_reducible refine br_d ?_ (by kernel_rfl) | with_reducible apply br_t g1 | with_reducible apply br_f g1 | with_reducible apply br_t g2 | with_reducible apply br_f g2 | with_reducible apply br_t h | with_reducible apply br_f h); conv => lhs; whnf)
    refine okB ?_
    rw [lecB_br hp.1 hp.1, df (by omega)]
  · have h' : (s == t) = false := h
    have he : s ≠ t := by simpa using h'
    conv => lhs; whnf
    repeat ((first | with_reducible apply br_tt | with_reducible apply br_ff | with_reducible apply br_nf | with_reducible apply br_nt | with_reducible refine br_d ?_ (by kernel_rfl) | with_reducible apply br_t g1 | with_reducible apply br_f g1 | with_reducible apply br_t g2 | with_reducible apply br_f g2 | with_reducible apply br_t h | with_reducible apply br_f h); conv => lhs; whnf)
    refine okB ?_
    have := bs_all ⟨s.toNat, by omega⟩ ⟨t.toNat, by omega⟩ (fun e => he (by have := congrArg Fin.val e; simp only at this; omega))
    simp only [Int.toNat_of_nonneg hp.1.1, Int.toNat_of_nonneg hp.2.1] at this
    exact this
theorem ok_specBeforeSet : FnOk Tryz.prog 208 K_specBeforeSet := by
  refine fn_ok (fn := Tryz.f208) (k := Tryz.f208.ntmps) (E := E_specBeforeSet) (facts_of (List.forall_mem_cons.2 ⟨ok_specIsSet, List.forall_mem_nil _⟩)) (by kernel_rfl) rfl (by decide +kernel) (by decide +kernel) ?_
  intro avs hin r h
  unfold K_specBeforeSet at h
  split at h
  · obtain ⟨hp, rfl⟩ := gd_o h
    exact ⟨_, ev_specBeforeSet _ _ hp, rfl⟩
  · cases h

/- spec.SortLectic -/
def K_specSortLectic : List AV → List Ob → Option (AV × List Ob)
  | [.lst (.int .i64) l], [] => gd (l.length ≤ 64 ∧ setsB l = true) (.own 0, [.row 3 (.int .i64) (lsortI l)])
  | _, _ => none
@[reducible] def E_specSortLectic : Env := mkE (tb [(189, K_l2Sets), (112, K_l2In), (208, K_specBeforeSet)]) (fun f => false) (fun r => bif r == 5 then ([0, 3, 4], [0, 3, 4, 5]) else bif r == 9 then ([0, 3, 4, 5], [0, 3, 4, 5]) else ([], []))
theorem lq_specSortLectic (l : List Int) (hl : l.length ≤ 64) (a : Nat) (ha : a < l.length) (hx : 0 ≤ l.getD a 0 ∧ l.getD a 0 ≤ 63) (zs : List Int) (hz : zs.length ≤ 64) (hzs : ∀ z ∈ zs, 0 ≤ z ∧ z ≤ 63) (k : AX → S → Option (AV × List Ob)) (d : Nat) : ∀ (n i : Nat) (x : Int), zs.length - i = d → i ≤ zs.length → x = i → d < n →
    lpAt E_specSortLectic (lp E_specSortLectic 0 n) 0 (loopAt Tryz.f168 1) (mkS [0, 3, 4, 5] [.lst (.int .i64) l, .own 0, .int .i64 (a : Int), .int .i64 x] [some (.row 3 (.int .i64) zs)]) k =
      k (.exit 2) (mkS [0, 3, 4, 5] [.lst (.int .i64) l, .own 0, .int .i64 (a : Int), .int .i64 (i + ((zs.drop i).takeWhile (fun y => lecB y (l.getD a 0))).length : Nat)] [some (.row 3 (.int .i64) zs)]) := by
  induction d with
  | zero =>
    intro n i x hd hi hx hn
    subst hx
    rw [lpAt_def]
    conv => lhs; whnf
    refine br_c (fun h => ?_) (fun h => ?_)
    · exact absurd (ofd h) (by omega)
    · conv => lhs; whnf
      repeat ((first | with_reducible apply br_tt | with_reducible apply br_ff | with_reducible apply br_nf | with_reducible apply br_nt | with_reducible refine br_d ?_ (by kernel_rfl) | with_reducible apply br_t h | with_reducible apply br_f h | with_reducible refine br_t (dt2 (by omega) (by omega)) ?_ | with_reducible refine br_t (dt (by omega)) ?_); conv => lhs; whnf)
      rw [List.drop_of_length_le (by omega)]
      rfl
  | succ d ih =>
    intro n i x hd hi hx hn
    obtain ⟨n, rfl⟩ : ∃ m, n = m + 1 := ⟨n - 1, by omega⟩
    subst hx
    have hzi := hzs _ (mem_getD (l := zs) (i := i) (d := 0) (by omega))
    rw [lpAt_def]
    conv => lhs; whnf
    refine br_c (fun h => ?_) (fun h => ?_)
    · conv => lhs; whnf
      repeat ((first | with_reducible apply br_tt | with_reducible apply br_ff | with_reducible apply br_nf | with_reducible apply br_nt | with_reducible refine br_d ?_ (by kernel_rfl) | with_reducible apply br_t h | with_reducible apply br_f h | with_reducible refine br_t (dt2 (by omega) (by omega)) ?_ | with_reducible refine br_t (dt (by omega)) ?_); conv => lhs; whnf)
      conv => lhs; arg 1; whnf
      refine bnd_g (by exact ⟨hzi, by assumption⟩) ?_
      conv => lhs; whnf
      repeat ((first | with_reducible apply br_tt | with_reducible apply br_ff | with_reducible apply br_nf | with_reducible apply br_nt | with_reducible refine br_d ?_ (by kernel_rfl) | with_reducible apply br_t h | with_reducible apply br_f h | with_reducible refine br_t (dt2 (by omega) (by omega)) ?_ | with_reducible refine br_t (dt (by omega)) ?_); conv => lhs; whnf)
      rw [getD_drop (l := zs) (i := i) (d := 0) (by omega), List.takeWhile_cons]
      refine br_c (fun h2 => ?_) (fun h2 => ?_)
      · have h2' : lecB (zs.getD i 0) (l.getD a 0) = true := h2
        conv => lhs; whnf
        refine Eq.trans (ih n (i + 1) _ (by omega) (by omega) (by rw [wrap64 (n := (i : Int) + 1) (by omega) (by omega)]; simp) (by omega)) ?_
        rw [h2', if_pos rfl, List.length_cons]
        have e : i + 1 + ((zs.drop (i + 1)).takeWhile (fun y => lecB y (l.getD a 0))).length = i + (((zs.drop (i + 1)).takeWhile (fun y => lecB y (l.getD a 0))).length + 1) := by omega
        rw [e]
      · have h2' : lecB (zs.getD i 0) (l.getD a 0) = false := h2
        conv => lhs; whnf
        rw [h2', if_neg (by simp)]
        rfl
    · exact absurd (ofn h) (by omega)

theorem lp_specSortLectic (l : List Int) (hl : l.length ≤ 64) (hs : setsB l = true) (k : AX → S → Option (AV × List Ob)) (d : Nat) : ∀ (n i : Nat) (x : Int) (zs : List Int), l.length - i = d → i ≤ l.length → x = i → d + 70 < n → zs.length ≤ i → setsB zs = true → AscL zs →
    lpAt E_specSortLectic (lp E_specSortLectic 0 n) 0 (loopAt Tryz.f168 0) (mkS [0, 3, 4] [.lst (.int .i64) l, .own 0, .int .i64 x] [some (.row 3 (.int .i64) zs)]) k =
      k (.exit 0) (mkS [0, 3, 4, 5] [.lst (.int .i64) l, .own 0, .int .i64 l.length, .any] [some (.row 3 (.int .i64) (sortL (l.drop i) zs))]) := by
  induction d with
  | zero =>
    intro n i x zs hd hi hx hn hz hzs ha
    subst hx
    rw [lpAt_def]
    conv => lhs; whnf
    refine br_f (df (by omega)) ?_
    conv => lhs; whnf
    have : i = l.length := by omega
    rw [List.drop_of_length_le (by omega), this, sortL]
  | succ d ih =>
    intro n i x zs hd hi hx hn hz hzs ha
    obtain ⟨n, rfl⟩ : ∃ m, n = m + 1 := ⟨n - 1, by omega⟩
    subst hx
    have hli := setsB_iff.1 hs _ (mem_getD (l := l) (i := i) (d := 0) (by omega))
    have hok := insL_ok hzs hli ha
    have hany : zs.any (fun y => y == l.getD i 0) = zs.contains (l.getD i 0) := List.any_beq'
    have hil : (insL zs (l.getD i 0)).length ≤ i + 1 := by
      have := sortL_len [l.getD i 0] zs
      rw [sortL, sortL, List.length_singleton] at this
      omega
    rw [getD_drop (l := l) (i := i) (d := 0) (by omega), sortL, lpAt_def]
    conv => lhs; whnf
    refine br_t (dt (by omega)) ?_
    conv => lhs; whnf
    refine br_t (dt2 (by omega) (by omega)) ?_
    conv => lhs; whnf
    conv => lhs; arg 1; whnf
    refine bnd_g (by omega) ?_
    conv => lhs; whnf
    repeat ((first | with_reducible apply br_tt | with_reducible apply br_ff | with_reducible apply br_nf | with_reducible apply br_nt | with_reducible refine br_d ?_ (by kernel_rfl)); conv => lhs; whnf)
    refine br_c (fun h => ?_) (fun h => ?_)
    · have h' : zs.any (fun y => y == l.getD i 0) = true := h
      have e : insL zs (l.getD i 0) = zs := by unfold insL; rw [← hany, h', cond_true]
      conv => lhs; whnf
      refine Eq.trans (ih n (i + 1) _ zs (by omega) (by omega) (by rw [wrap64 (n := (i : Int) + 1) (by omega) (by omega)]; simp) (by omega) (by omega) hzs ha) ?_
      rw [e]
    · have h' : zs.any (fun y => y == l.getD i 0) = false := h
      have htw : (zs.takeWhile (fun y => lecB y (l.getD i 0))).length ≤ zs.length := by
        have := congrArg List.length (List.takeWhile_append_dropWhile (p := fun y => lecB y (l.getD i 0)) (l := zs))
        rw [List.length_append] at this
        omega
      obtain ⟨p, hp⟩ : ∃ p, p = (zs.takeWhile (fun y => lecB y (l.getD i 0))).length := ⟨_, rfl⟩
      have hsplit : zs.take p = zs.takeWhile (fun y => lecB y (l.getD i 0)) ∧ zs.drop p = zs.dropWhile (fun y => lecB y (l.getD i 0)) := by
        have happ := List.takeWhile_append_dropWhile (p := fun y => lecB y (l.getD i 0)) (l := zs)
        constructor
        · conv => lhs; rw [← happ, hp, List.take_left']
        · conv => lhs; rw [← happ, hp, List.drop_left']
      have e : (zs.take p ++ [l.getD i 0]) ++ zs.drop p = insL zs (l.getD i 0) := by
        unfold insL
        rw [← hany, h', cond_false, hsplit.1, hsplit.2, List.append_assoc]
        rfl
      have L := fun k => lq_specSortLectic l hl i (by omega) hli zs (by omega) (setsB_iff.1 hzs) k zs.length n 0 0 rfl (Nat.zero_le _) rfl (by omega)
      rw [List.drop_zero, ← hp, Nat.zero_add] at L
      rw [← hp] at htw
      conv => lhs; whnf
      refine (L _).trans ?_
      conv => lhs; whnf
      refine br_t (dt2 (by omega) (by omega)) ?_
      conv => lhs; whnf
      refine br_t (dt (by simp [room]; omega)) ?_
      conv => lhs; whnf
      refine br_t (dt2 (by omega) (by omega)) ?_
      conv => lhs; whnf
      refine br_t (dt2 (by omega) (by omega)) ?_
      conv => lhs; whnf
      refine br_t (dt (by simp [room]; omega)) ?_
      conv => lhs; whnf
      refine br_t (dt (by simp [room]; omega)) ?_
      conv => lhs; whnf
      repeat ((first | with_reducible apply br_tt | with_reducible apply br_ff | with_reducible apply br_nf | with_reducible apply br_nt | with_reducible refine br_d ?_ (by kernel_rfl)); conv => lhs; whnf)
      refine Eq.trans (ih n (i + 1) _ _ (by omega) (by omega) (by rw [wrap64 (n := (i : Int) + 1) (by omega) (by omega)]; simp) (by omega) (show ((zs.take p ++ [l.getD i 0]) ++ zs.drop p).length ≤ i + 1 by rw [e]; exact hil) (show setsB ((zs.take p ++ [l.getD i 0]) ++ zs.drop p) = true by rw [e]; exact hok.2.1) (show AscL ((zs.take p ++ [l.getD i 0]) ++ zs.drop p) by rw [e]; exact hok.1)) ?_
      rw [← e]
      rfl
theorem ev_specSortLectic (l : List Int) (hp : l.length ≤ 64 ∧ setsB l = true) : evF E_specSortLectic (200) Tryz.f168 [.lst (.int .i64) l] [] = some (.own 0, [.row 3 (.int .i64) (lsortI l)]) := by
  have h8 : l.all (isSet 8) = true := by
    rw [List.all_eq_true]
    intro x hx
    have := setsB_iff.1 hp.2 x hx
    rw [isSet8]
    exact dt (by omega)
  conv => lhs; whnf
  conv => lhs; arg 1; whnf
  refine bnd_g (by omega) ?_
  conv => lhs; whnf
  refine br_f (by (rw [h8]; rfl)) ?_
  conv => lhs; whnf
  refine (lp_specSortLectic l hp.1 hp.2 _ l.length _ 0 0 [] rfl (Nat.zero_le _) rfl (by change _ < 199; omega) (Nat.le_refl _) rfl List.Pairwise.nil).trans ?_
  rw [List.drop_zero, sortL_eq hp.2]
  conv => lhs; whnf
theorem ok_specSortLectic : FnOk Tryz.prog 168 K_specSortLectic := by
  refine fn_ok (fn := Tryz.f168) (k := Tryz.f168.ntmps) (E := E_specSortLectic) (facts_of (List.forall_mem_cons.2 ⟨ok_l2Sets, List.forall_mem_cons.2 ⟨ok_l2In, List.forall_mem_cons.2 ⟨ok_specBeforeSet, List.forall_mem_nil _⟩⟩⟩)) (by kernel_rfl) rfl (by decide +kernel) (by decide +kernel) ?_
  intro avs hin r h
  unfold K_specSortLectic at h
  split at h
  · obtain ⟨hp, rfl⟩ := gd_o h
    exact ⟨_, ev_specSortLectic _ hp, rfl⟩
  · cases h

def idealAt (b : List Int) (s : Int) (a : Nat) : Bool := !bitI s a || (band (b.getD a 0) s == b.getD a 0)
def ideal (b : List Int) (s : Int) : Bool := allB (idealAt b s) b.length 0
def idealsL (b : List Int) : Nat → Nat → List Int
  | 0, _ => []
  | d + 1, i => bif ideal b i then (i : Int) :: idealsL b d (i + 1) else idealsL b d (i + 1)
def idealsF (b : List Int) : List Int := bif isOrd b then idealsL b (2 ^ b.length) 0 else []
theorem idealsL_length (b : List Int) : ∀ (d i : Nat), (idealsL b d i).length ≤ d
  | 0, _ => Nat.le_refl 0
  | d + 1, i => by
    have := idealsL_length b d (i + 1)
    unfold idealsL
    cases ideal b i <;> simp <;> omega
theorem pow_le64 {n : Nat} (h : n ≤ 6) : 1 ≤ 2 ^ n ∧ 2 ^ n ≤ 64 := by
  have h : n = 0 ∨ n = 1 ∨ n = 2 ∨ n = 3 ∨ n = 4 ∨ n = 5 ∨ n = 6 := by omega
  rcases h with rfl | rfl | rfl | rfl | rfl | rfl | rfl <;> decide
theorem idealsF_length (b : List Int) : (idealsF b).length ≤ 64 := by
  unfold idealsF
  cases h : isOrd b
  · simp
  · unfold isOrd at h
    simp only [Bool.and_eq_true, decide_eq_true_eq] at h
    have h1 := idealsL_length b (2 ^ b.length) 0
    have h2 := pow_le64 h.1
    rw [cond_true]
    omega
theorem fullSet_nat {n : Nat} (h : n ≤ 6) : fullSet (n : Int) = ((2 ^ n - 1 : Nat) : Int) := by
  have h : n = 0 ∨ n = 1 ∨ n = 2 ∨ n = 3 ∨ n = 4 ∨ n = 5 ∨ n = 6 := by omega
  rcases h with rfl | rfl | rfl | rfl | rfl | rfl | rfl <;> decide
theorem isOrd_parts {b : List Int} (h : isOrd b = true) : b.length ≤ 6 ∧ allB (ordA b) b.length 0 = true := by
  unfold isOrd at h
  simp only [Bool.and_eq_true, decide_eq_true_eq] at h
  exact ⟨h.1, h.2.1⟩
def notIn (b : List Int) (s x : Int) : Bool := !(bnot (b.getD x.toNat 0) s == 0)
theorem ideal_any {b : List Int} (h : isOrd b = true) {s : Nat} (hs : s < 2 ^ b.length) : (elemsF s).any (notIn b s) = !ideal b s := by
  obtain ⟨hl, hA⟩ := isOrd_parts h
  rw [elems_all (isSet_nat hl hs)]
  congr 1
  unfold ideal
  refine allB_ext _ 0 (fun j h1 h2 => ?_)
  have hs := ordA_set hA (show j < b.length by omega)
  unfold notIn idealAt
  rw [Int.toNat_natCast, ← beq_bnot (isSet_8 hs)]
  cases bitI s j <;> simp
/- spec.l10Pseudo -/
def K_specPseudo : List AV → List Ob → Option (AV × List Ob)
  | [.agg [.int .i64 m, .lst (.int .i64) b]], [] => gd (isCtx m b = true) (.own 0, [.row 3 (.int .i64) (stemI m b)])
  | _, _ => none
@[reducible] def E_specPseudo : Env := mkE (tb [(114, K_specFullSet), (101, K_specClosure), (168, K_specSortLectic)]) (fun f => false) (fun r => bif r == 3 then ([1, 3, 4], [1, 3, 4, 5]) else bif r == 8 then ([1, 3, 4, 5, 6], [1, 3, 4, 5]) else ([], []))
theorem lq_specPseudo (m : Int) (b : List Int) (hc : isCtx m b = true) (s : Int) (ys : List Int) (hy : ys.length ≤ 64) (hys : ∀ y ∈ ys, 0 ≤ y ∧ y ≤ 63) (k : AX → S → Option (AV × List Ob)) (d : Nat) : ∀ (n i : Nat) (x : Int) (f : Bool), ys.length - i = d → i ≤ ys.length → x = i → d < n →
    lpAt E_specPseudo (lp E_specPseudo 0 n) 0 (loopAt Tryz.f119 1) (mkS [1, 3, 4, 5, 6] [.ptr 0 0, .own 1, .int .i64 s, .bool f, .int .i64 x] [some (.box 26 [.int .i64 m, .lst (.int .i64) b]), some (.row 3 (.int .i64) ys)]) k =
      k (.exit 2) (mkS [1, 3, 4, 5] [.ptr 0 0, .own 1, .int .i64 s, .bool (f && (ys.drop i).all (fineP m b s))] [some (.box 26 [.int .i64 m, .lst (.int .i64) b]), some (.row 3 (.int .i64) ys)]) := by
  induction d with
  | zero =>
    intro n i x f hd hi hx hn
    subst hx
    rw [lpAt_def]
    conv => lhs; whnf
    refine br_f (df (by omega)) ?_
    conv => lhs; whnf
    rw [List.drop_of_length_le (by omega), List.all_nil, Bool.and_true]
  | succ d ih =>
    intro n i x f hd hi hx hn
    obtain ⟨n, rfl⟩ : ∃ m, n = m + 1 := ⟨n - 1, by omega⟩
    subst hx
    have hyi := hys _ (mem_getD (l := ys) (i := i) (d := 0) (by omega))
    rw [lpAt_def]
    conv => lhs; whnf
    refine br_t (dt (by omega)) ?_
    conv => lhs; whnf
    refine br_c (fun h => ?_) (fun h => ?_)
    · conv => lhs; whnf
      repeat ((first | with_reducible apply br_tt | with_reducible apply br_ff | with_reducible apply br_nf | with_reducible apply br_nt | with_reducible refine br_d ?_ (by kernel_rfl) | with_reducible apply br_t h | with_reducible apply br_f h | with_reducible refine br_t (dt2 (by omega) (by omega)) ?_ | with_reducible refine br_t (dt (by omega)) ?_); conv => lhs; whnf)
      refine br_c (fun h2 => ?_) (fun h2 => ?_)
      · have h2' : (band (ys.getD i 0) s != ys.getD i 0) = true := h2
        conv => lhs; whnf
        repeat ((first | with_reducible apply br_tt | with_reducible apply br_ff | with_reducible apply br_nf | with_reducible apply br_nt | with_reducible refine br_d ?_ (by kernel_rfl) | with_reducible apply br_t h | with_reducible apply br_f h | with_reducible apply br_t h2 | with_reducible apply br_f h2 | with_reducible refine br_t (dt2 (by omega) (by omega)) ?_ | with_reducible refine br_t (dt (by omega)) ?_); conv => lhs; whnf)
        refine Eq.trans (ih n (i + 1) _ _ (by omega) (by omega) (by rw [wrap64 (n := (i : Int) + 1) (by omega) (by omega)]; simp) (by omega)) ?_
        rw [getD_drop (l := ys) (i := i) (d := 0) (by omega), List.all_cons, h, Bool.true_and]
        unfold fineP
        rw [h2', Bool.true_or]
        rfl
      · have h2' : (band (ys.getD i 0) s != ys.getD i 0) = false := h2
        conv => lhs; whnf
        repeat ((first | with_reducible apply br_tt | with_reducible apply br_ff | with_reducible apply br_nf | with_reducible apply br_nt | with_reducible refine br_d ?_ (by kernel_rfl) | with_reducible apply br_t h | with_reducible apply br_f h | with_reducible apply br_t h2 | with_reducible apply br_f h2 | with_reducible refine br_t (dt2 (by omega) (by omega)) ?_ | with_reducible refine br_t (dt (by omega)) ?_); conv => lhs; whnf)
        conv => lhs; arg 1; whnf
        refine bnd_g (by exact ⟨hc, hyi.1, Int.le_trans hyi.2 (by decide)⟩) ?_
        conv => lhs; whnf
        repeat ((first | with_reducible apply br_tt | with_reducible apply br_ff | with_reducible apply br_nf | with_reducible apply br_nt | with_reducible refine br_d ?_ (by kernel_rfl) | with_reducible apply br_t h | with_reducible apply br_f h | with_reducible apply br_t h2 | with_reducible apply br_f h2 | with_reducible refine br_t (dt2 (by omega) (by omega)) ?_ | with_reducible refine br_t (dt (by omega)) ?_); conv => lhs; whnf)
        conv => lhs; arg 1; whnf
        refine bnd_g (by exact ⟨hc, hyi.1, Int.le_trans hyi.2 (by decide)⟩) ?_
        conv => lhs; whnf
        repeat ((first | with_reducible apply br_tt | with_reducible apply br_ff | with_reducible apply br_nf | with_reducible apply br_nt | with_reducible refine br_d ?_ (by kernel_rfl) | with_reducible apply br_t h | with_reducible apply br_f h | with_reducible apply br_t h2 | with_reducible apply br_f h2 | with_reducible refine br_t (dt2 (by omega) (by omega)) ?_ | with_reducible refine br_t (dt (by omega)) ?_); conv => lhs; whnf)
        refine Eq.trans (ih n (i + 1) _ _ (by omega) (by omega) (by rw [wrap64 (n := (i : Int) + 1) (by omega) (by omega)]; simp) (by omega)) ?_
        rw [getD_drop (l := ys) (i := i) (d := 0) (by omega), List.all_cons, h, Bool.true_and]
        conv => rhs; unfold fineP
        rw [h2', Bool.false_or]
        rfl
    · conv => lhs; whnf
      repeat ((first | with_reducible apply br_tt | with_reducible apply br_ff | with_reducible apply br_nf | with_reducible apply br_nt | with_reducible refine br_d ?_ (by kernel_rfl) | with_reducible apply br_t h | with_reducible apply br_f h | with_reducible refine br_t (dt2 (by omega) (by omega)) ?_ | with_reducible refine br_t (dt (by omega)) ?_); conv => lhs; whnf)
      refine Eq.trans (ih n (i + 1) _ _ (by omega) (by omega) (by rw [wrap64 (n := (i : Int) + 1) (by omega) (by omega)]; simp) (by omega)) ?_
      simp only [h, Bool.false_and]

theorem lp_specPseudo (m : Nat) (hm : m ≤ 6) (b : List Int) (hc : isCtx (m : Int) b = true) (k : AX → S → Option (AV × List Ob)) (d : Nat) : ∀ (n i : Nat) (x : Int) (L : List Nat), 2 ^ m - i = d → i ≤ 2 ^ m → x = i → d + 70 < n → L.length ≤ i → (∀ y ∈ L, y < i) →
    lpAt E_specPseudo (lp E_specPseudo 0 n) 0 (loopAt Tryz.f119 0) (mkS [1, 3, 4] [.ptr 0 0, .own 1, .int .i64 x] [some (.box 26 [.int .i64 (m : Int), .lst (.int .i64) b]), some (.row 3 (.int .i64) (castN L))]) k =
      k (.exit 0) (mkS [1, 3, 4, 5] [.ptr 0 0, .own 1, .int .i64 ((2 ^ m : Nat) : Int), .any] [some (.box 26 [.int .i64 (m : Int), .lst (.int .i64) b]), some (.row 3 (.int .i64) (castN (greedy (okS (clN (m : Int) b)) (List.range' i d) L)))]) := by
  have hp : 2 ^ m ≤ 2 ^ 6 := Nat.pow_le_pow_right (by omega) hm
  have hp1 := Nat.two_pow_pos m
  have hf := fullSet_nat hm
  induction d with
  | zero =>
    intro n i x L hd hi hx hn hz hL
    subst hx
    rw [lpAt_def]
    conv => lhs; whnf
    conv => lhs; arg 1; whnf
    refine bnd_g (by exact True.intro) ?_
    conv => lhs; whnf
    rw [hf]
    refine br_f (df (by omega)) ?_
    conv => lhs; whnf
    have : i = 2 ^ m := by omega
    rw [this]
    rfl
  | succ d ih =>
    intro n i x L hd hi hx hn hz hL
    obtain ⟨n, rfl⟩ : ∃ m, n = m + 1 := ⟨n - 1, by omega⟩
    subst hx
    have hcl := clN_int hc (s := i) (by omega)
    have e0 : (intentF (m : Int) b (extF b (i : Int)) == (i : Int)) = (clN (m : Int) b i == i) := by rw [hcl, Bool.eq_iff_iff, beq_iff_eq, beq_iff_eq]; omega
    have hlen : (castN L).length = L.length := List.length_map _
    have ea := all_fine hc (s := i) (by rw [Int.toNat_natCast]; omega) L (fun y hy => by have := hL y hy; rw [Int.toNat_natCast]; omega)
    have hsm : ∀ y ∈ castN L, 0 ≤ y ∧ y ≤ 63 := by
      intro y hy
      obtain ⟨z, hz, rfl⟩ := List.mem_map.1 hy
      have := hL z hz
      omega
    rw [lpAt_def, List.range'_succ, greedy]
    conv => lhs; whnf
    conv => lhs; arg 1; whnf
    refine bnd_g (by exact True.intro) ?_
    conv => lhs; whnf
    rw [hf]
    refine br_t (dt (by omega)) ?_
    conv => lhs; whnf
    conv => lhs; arg 1; whnf
    refine bnd_g (by exact ⟨hc, by omega, by omega⟩) ?_
    conv => lhs; whnf
    refine br_c (fun h => ?_) (fun h => ?_)
    · have h' : (intentF (m : Int) b (extF b (i : Int)) == (i : Int)) = true := h
      have e1 : okS (clN (m : Int) b) L i = false := by unfold okS; rw [← e0, h']; rfl
      conv => lhs; whnf
      refine Eq.trans (ih n (i + 1) _ _ (by omega) (by omega) (by rw [wrap64 (n := (i : Int) + 1) (by omega) (by omega)]; simp) (by omega) (by omega) (fun y hy => by have := hL y hy; omega)) ?_
      rw [e1, cond_false]
    · have h' : (intentF (m : Int) b (extF b (i : Int)) == (i : Int)) = false := h
      have e1 : okS (clN (m : Int) b) L i = (castN L).all (fineP (m : Int) b (i : Int)) := by rw [ea]; unfold okS; rw [← e0, h', Bool.not_false, Bool.true_and]
      conv => lhs; whnf
      refine (lq_specPseudo (m : Int) b hc (i : Int) (castN L) (by rw [hlen]; omega) hsm _ _ _ 0 0 true rfl (Nat.zero_le _) rfl (by rw [hlen]; omega)).trans ?_
      rw [Bool.true_and, List.drop_zero, ← e1]
      conv => lhs; whnf
      refine br_c (fun h2 => ?_) (fun h2 => ?_)
      · have h2' : okS (clN (m : Int) b) L i = true := h2
        conv => lhs; whnf
        refine br_t (dt (by rw [hlen]; simp [room]; omega)) ?_
        conv => lhs; whnf
        have e2 : castN L ++ [(i : Int)] = castN (L ++ [i]) := by unfold castN; rw [List.map_append]; rfl
        rw [e2]
        refine Eq.trans (ih n (i + 1) _ _ (by omega) (by omega) (by rw [wrap64 (n := (i : Int) + 1) (by omega) (by omega)]; simp) (by omega) (by simp; omega) (fun y hy => ?_)) ?_
        · rcases List.mem_append.1 hy with hy | hy
          · have := hL y hy; omega
          · have : y = i := by simpa using hy
            omega
        · rw [h2', cond_true]
      · have h2' : okS (clN (m : Int) b) L i = false := h2
        conv => lhs; whnf
        refine Eq.trans (ih n (i + 1) _ _ (by omega) (by omega) (by rw [wrap64 (n := (i : Int) + 1) (by omega) (by omega)]; simp) (by omega) (by omega) (fun y hy => by have := hL y hy; omega)) ?_
        rw [h2', cond_false]
theorem ev_specPseudo (m : Int) (b : List Int) (hp : isCtx m b = true) : evF E_specPseudo (300) Tryz.f119 [.agg [.int .i64 m, .lst (.int .i64) b]] [] = some (.own 0, [.row 3 (.int .i64) (stemI m b)]) := by
  have hlen := isCtx_len hp
  obtain ⟨mm, rfl⟩ : ∃ mm : Nat, m = mm := ⟨m.toNat, by omega⟩
  have hpw : 2 ^ mm ≤ 2 ^ 6 := Nat.pow_le_pow_right (by omega) (by omega)
  have hgl := greedy_len (okS (clN (mm : Int) b)) (List.range' 0 (2 ^ mm)) []
  have hcl : (castN (greedy (okS (clN (mm : Int) b)) (List.range' 0 (2 ^ mm)) [])).length = (greedy (okS (clN (mm : Int) b)) (List.range' 0 (2 ^ mm)) []).length := List.length_map _
  rw [List.length_range', List.length_nil] at hgl
  have hst := stem_S (mm : Int) b (by rw [Int.toNat_natCast]; omega)
  rw [Int.toNat_natCast, List.range_eq_range'] at hst
  have hss := greedy_S_sets (clN (mm : Int) b) (n := mm) (by omega)
  rw [List.range_eq_range'] at hss
  rw [sortL_eq hss] at hst
  conv => lhs; whnf
  refine (lp_specPseudo mm (by omega) b hp _ (2 ^ mm) _ 0 0 [] rfl (Nat.zero_le _) rfl (by change _ < 299; omega) (Nat.le_refl _) (fun y hy => by cases hy)).trans ?_
  conv => lhs; whnf
  conv => lhs; arg 1; whnf
  refine bnd_g (by exact ⟨by omega, hss⟩) ?_
  conv => lhs; whnf
  rw [hst]
theorem ok_specPseudo : FnOk Tryz.prog 119 K_specPseudo := by
  refine fn_ok (fn := Tryz.f119) (k := Tryz.f119.ntmps) (E := E_specPseudo) (facts_of (List.forall_mem_cons.2 ⟨ok_specFullSet, List.forall_mem_cons.2 ⟨ok_specClosure, List.forall_mem_cons.2 ⟨ok_specSortLectic, List.forall_mem_nil _⟩⟩⟩)) (by kernel_rfl) rfl (by decide +kernel) (by decide +kernel) ?_
  intro avs hin r h
  unfold K_specPseudo at h
  split at h
  · obtain ⟨hp, rfl⟩ := gd_o h
    exact ⟨_, ev_specPseudo _ _ hp, rfl⟩
  · cases h

/- spec.l10Stem -/
def K_specStem : List AV → List Ob → Option (AV × List Ob)
  | [.agg [.int .i64 m, .lst (.int .i64) b]], [] => gd (isCtx m b = true) (.own 0, [.row 99 (.pair (.int .i64) (.int .i64)) (stemR m b)])
  | _, _ => none
@[reducible] def E_specStem : Env := mkE (tb [(119, K_specPseudo), (101, K_specClosure)]) (fun f => false) (fun r => bif r == 4 then ([1, 3, 4, 5], [3]) else ([], []))
theorem lp_specStem (m : Int) (b : List Int) (hc : isCtx m b = true) (l : List Int) (hl : l.length ≤ 64) (hls : ∀ y ∈ l, 0 ≤ y ∧ y ≤ 63) (k : AX → S → Option (AV × List Ob)) (d : Nat) : ∀ (n i : Nat) (x : Int) (zs : List (Int × Int)), l.length - i = d → i ≤ l.length → x = i → d < n → zs.length ≤ i →
    lpAt E_specStem (lp E_specStem 0 n) 0 (loopAt Tryz.f61 0) (mkS [1, 3, 4, 5] [.ptr 0 0, .own 1, .own 2, .int .i64 x] [some (.box 26 [.int .i64 m, .lst (.int .i64) b]), some (.row 99 (.pair (.int .i64) (.int .i64)) zs), some (.row 3 (.int .i64) l)]) k =
      k (.exit 0) (mkS [3] [.own 0] [some (.row 99 (.pair (.int .i64) (.int .i64)) (zs ++ (l.drop i).map (fun s => (s, intentF m b (extF b s)))))]) := by
  induction d with
  | zero =>
    intro n i x zs hd hi hx hn hz
    subst hx
    rw [lpAt_def]
    conv => lhs; whnf
    refine br_f (df (by omega)) ?_
    conv => lhs; whnf
    rw [List.drop_of_length_le (by omega), List.map_nil, List.append_nil]
  | succ d ih =>
    intro n i x zs hd hi hx hn hz
    obtain ⟨n, rfl⟩ : ∃ m, n = m + 1 := ⟨n - 1, by omega⟩
    subst hx
    have hli := hls _ (mem_getD (l := l) (i := i) (d := 0) (by omega))
    rw [lpAt_def]
    conv => lhs; whnf
    refine br_t (dt (by omega)) ?_
    conv => lhs; whnf
    refine br_t (dt2 (by omega) (by omega)) ?_
    conv => lhs; whnf
    refine br_t (dt (by omega)) ?_
    conv => lhs; whnf
    refine br_t (dt2 (by omega) (by omega)) ?_
    conv => lhs; whnf
    refine br_t (dt (by omega)) ?_
    conv => lhs; whnf
    conv => lhs; arg 1; whnf
    refine bnd_g (by exact ⟨hc, hli.1, Int.le_trans hli.2 (by decide)⟩) ?_
    conv => lhs; whnf
    refine br_t (dt (by simp [room]; omega)) ?_
    conv => lhs; whnf
    repeat ((first | with_reducible apply br_tt | with_reducible apply br_ff | with_reducible apply br_nf | with_reducible apply br_nt | with_reducible refine br_d ?_ (by kernel_rfl)); conv => lhs; whnf)
    refine Eq.trans (ih n (i + 1) _ _ (by omega) (by omega) (by rw [wrap64 (n := (i : Int) + 1) (by omega) (by omega)]; simp) (by omega) (by simp; omega)) ?_
    rw [getD_drop (l := l) (i := i) (d := 0) (by omega), List.map_cons]
    simp only [List.append_assoc]
    rfl
theorem ev_specStem (m : Int) (b : List Int) (hp : isCtx m b = true) : evF E_specStem (100) Tryz.f61 [.agg [.int .i64 m, .lst (.int .i64) b]] [] = some (.own 0, [.row 99 (.pair (.int .i64) (.int .i64)) (stemR m b)]) := by
  have hl := stemI_len m b
  conv => lhs; whnf
  conv => lhs; arg 1; whnf
  refine bnd_g (by exact hp) ?_
  conv => lhs; whnf
  refine (lp_specStem m b hp (stemI m b) hl (setsB_iff.1 (stemI_sets m b)) _ _ _ 0 0 [] rfl (Nat.zero_le _) rfl (by change _ < 99; omega) (Nat.le_refl _)).trans ?_
  conv => lhs; whnf
  rfl
theorem ok_specStem : FnOk Tryz.prog 61 K_specStem := by
  refine fn_ok (fn := Tryz.f61) (k := Tryz.f61.ntmps) (E := E_specStem) (facts_of (List.forall_mem_cons.2 ⟨ok_specPseudo, List.forall_mem_cons.2 ⟨ok_specClosure, List.forall_mem_nil _⟩⟩)) (by kernel_rfl) rfl (by decide +kernel) (by decide +kernel) ?_
  intro avs hin r h
  unfold K_specStem at h
  split at h
  · obtain ⟨hp, rfl⟩ := gd_o h
    exact ⟨_, ev_specStem _ _ hp, rfl⟩
  · cases h

/- impl.PseudoIntents$1 -/
def K_pseudo1 : List AV → List Ob → Option (AV × List Ob)
  | [.int .i64 s, .vptr [.int .i64 m, .lst (.int .i64) b] 0], [] => gd (b.length ≤ 1048576) (.int .i64 (clI m b s), [])
  | _, _ => none
@[reducible] def E_pseudo1 : Env := mkE (tb [(127, K_implClosureOf)]) (fun f => false) (fun r => ([], []))
theorem ev_pseudo1 (s m : Int) (b : List Int) (hp : b.length ≤ 1048576) : evF E_pseudo1 (1) Tryz.f172 [.int .i64 s, .vptr [.int .i64 m, .lst (.int .i64) b] 0] [] = some (.int .i64 (clI m b s), []) := by
  conv => lhs; whnf
  conv => lhs; arg 1; whnf
  refine bnd_g (by exact hp) ?_
  conv => lhs; whnf
  rfl
theorem ok_pseudo1 : FnOk Tryz.prog 172 K_pseudo1 := by
  refine fn_ok (fn := Tryz.f172) (k := Tryz.f172.ntmps) (E := E_pseudo1) (facts_of (List.forall_mem_cons.2 ⟨ok_implClosureOf, List.forall_mem_nil _⟩)) (by kernel_rfl) rfl (by decide +kernel) (by decide +kernel) ?_
  intro avs hin r h
  unfold K_pseudo1 at h
  split at h
  · obtain ⟨hp, rfl⟩ := gd_o h
    exact ⟨_, ev_pseudo1 _ _ _ hp, rfl⟩
  · cases h

/- impl.stem$2 -/
def K_stem2 : List AV → List Ob → Option (AV × List Ob)
  | [.int .i64 p, .vptr [.int .i64 s] 0, .vptr [.clo 172 [.vptr [.int .i64 m, .lst (.int .i64) b] 0]] 0], [] => gd (b.length ≤ 1048576) (.bool (badP m b s p), [])
  | _, _ => none
@[reducible] def E_stem2 : Env := mkE (tb [(151, K_inSet), (172, K_pseudo1)]) (fun f => false) (fun r => ([], []))
theorem ev_stem2 (p s m : Int) (b : List Int) (hp : b.length ≤ 1048576) : evF E_stem2 (1) Tryz.f212 [.int .i64 p, .vptr [.int .i64 s] 0, .vptr [.clo 172 [.vptr [.int .i64 m, .lst (.int .i64) b] 0]] 0] [] = some (.bool (badP m b s p), []) := by
  conv => lhs; whnf
  refine br_c (fun h => ?_) (fun h => ?_)
  · have h' : (p != s) = true := h
    conv => lhs; whnf
    repeat ((first | with_reducible apply br_tt | with_reducible apply br_ff | with_reducible apply br_nf | with_reducible apply br_nt | with_reducible refine br_d ?_ (by kernel_rfl) | with_reducible apply br_t h | with_reducible apply br_f h | with_reducible refine br_t (dt2 (by omega) (by omega)) ?_ | with_reducible refine br_t (dt (by omega)) ?_); conv => lhs; whnf)
    conv => lhs; arg 1; whnf
    refine bnd_g (by exact True.intro) ?_
    conv => lhs; whnf
    repeat ((first | with_reducible apply br_tt | with_reducible apply br_ff | with_reducible apply br_nf | with_reducible apply br_nt | with_reducible refine br_d ?_ (by kernel_rfl) | with_reducible apply br_t h | with_reducible apply br_f h | with_reducible refine br_t (dt2 (by omega) (by omega)) ?_ | with_reducible refine br_t (dt (by omega)) ?_); conv => lhs; whnf)
    refine br_c (fun h2 => ?_) (fun h2 => ?_)
    · have h2' : (bnot p s == 0) = true := h2
      conv => lhs; whnf
      repeat ((first | with_reducible apply br_tt | with_reducible apply br_ff | with_reducible apply br_nf | with_reducible apply br_nt | with_reducible refine br_d ?_ (by kernel_rfl) | with_reducible apply br_t h | with_reducible apply br_f h | with_reducible apply br_t h2 | with_reducible apply br_f h2 | with_reducible refine br_t (dt2 (by omega) (by omega)) ?_ | with_reducible refine br_t (dt (by omega)) ?_); conv => lhs; whnf)
      conv => lhs; arg 1; whnf
      refine bnd_g (by exact hp) ?_
      conv => lhs; whnf
      repeat ((first | with_reducible apply br_tt | with_reducible apply br_ff | with_reducible apply br_nf | with_reducible apply br_nt | with_reducible refine br_d ?_ (by kernel_rfl) | with_reducible apply br_t h | with_reducible apply br_f h | with_reducible apply br_t h2 | with_reducible apply br_f h2 | with_reducible refine br_t (dt2 (by omega) (by omega)) ?_ | with_reducible refine br_t (dt (by omega)) ?_); conv => lhs; whnf)
      conv => lhs; arg 1; whnf
      refine bnd_g (by exact True.intro) ?_
      conv => lhs; whnf
      repeat ((first | with_reducible apply br_tt | with_reducible apply br_ff | with_reducible apply br_nf | with_reducible apply br_nt | with_reducible refine br_d ?_ (by kernel_rfl) | with_reducible apply br_t h | with_reducible apply br_f h | with_reducible apply br_t h2 | with_reducible apply br_f h2 | with_reducible refine br_t (dt2 (by omega) (by omega)) ?_ | with_reducible refine br_t (dt (by omega)) ?_); conv => lhs; whnf)
      refine okB ?_
      unfold badP
      rw [h', h2']
      rfl
    · have h2' : (bnot p s == 0) = false := h2
      conv => lhs; whnf
      repeat ((first | with_reducible apply br_tt | with_reducible apply br_ff | with_reducible apply br_nf | with_reducible apply br_nt | with_reducible refine br_d ?_ (by kernel_rfl) | with_reducible apply br_t h | with_reducible apply br_f h | with_reducible apply br_t h2 | with_reducible apply br_f h2 | with_reducible refine br_t (dt2 (by omega) (by omega)) ?_ | with_reducible refine br_t (dt (by omega)) ?_); conv => lhs; whnf)
      refine okB ?_
      unfold badP
      rw [h', h2']
      rfl
  · have h' : (p != s) = false := h
    conv => lhs; whnf
    repeat ((first | with_reducible apply br_tt | with_reducible apply br_ff | with_reducible apply br_nf | with_reducible apply br_nt | with_reducible refine br_d ?_ (by kernel_rfl) | with_reducible apply br_t h | with_reducible apply br_f h | with_reducible refine br_t (dt2 (by omega) (by omega)) ?_ | with_reducible refine br_t (dt (by omega)) ?_); conv => lhs; whnf)
    refine okB ?_
    unfold badP
    rw [h']
    rfl
theorem ok_stem2 : FnOk Tryz.prog 212 K_stem2 := by
  refine fn_ok (fn := Tryz.f212) (k := Tryz.f212.ntmps) (E := E_stem2) (facts_of (List.forall_mem_cons.2 ⟨ok_inSet, List.forall_mem_cons.2 ⟨ok_pseudo1, List.forall_mem_nil _⟩⟩)) (by kernel_rfl) rfl (by decide +kernel) (by decide +kernel) ?_
  intro avs hin r h
  unfold K_stem2 at h
  split at h
  · obtain ⟨hp, rfl⟩ := gd_o h
    exact ⟨_, ev_stem2 _ _ _ _ hp, rfl⟩
  · cases h

def K_sortLecG : List AV → List Ob → Option (AV × List Ob)
  | [.own 0, .clo 197 []], [.row 3 (.int .i64) a] => gd (setsB a = true ∧ a.Nodup) (.tup [], [.row 3 (.int .i64) (lsortI a)])
  | _, _ => none
theorem ok_sortLecG : FnOk Tryz.prog 196 K_sortLecG := by
  refine ⟨⟨Tryz.f196, by kernel_rfl, by kernel_rfl, by kernel_rfl⟩, fun avs hin r hout hk C L vs hH hm hA => ?_⟩
  unfold K_sortLecG at hk
  split at hk
  · rename_i a
    obtain ⟨⟨hs, hn⟩, he⟩ := gd_o hk
    cases he
    by_cases h0 : a = []
    · subst h0
      have e : lsortI [] = [] := List.eq_nil_of_length_eq_zero (by rw [lsortI_len rfl List.nodup_nil]; rfl)
      rw [e]
      exact sort_calls0 Tryz.sortLay0 hH hA
    have hl := nodup_le hs hn
    have hpos : 0 < a.length := List.length_pos_iff.2 h0
    have s0 := finL_size a
    have s1 : (finL (lsortI a)).size = a.length := by rw [finL_size, lsortI_len hs hn]
    have eg : ∀ args w, (callFunc 197 args).run Tryz.prog w = .ok (.enter 197 args) w := enters_of Tryz.func197 (by kernel_rfl) rfl
    rw [← finL_ints hs] at hH
    rw [← finL_ints (lsortI_sets a)]
    refine sort_calls True.intro Tryz.sortLay eg ok_lecCmp cfL (fun x y => gd_s True.intro) swoL totL (d0 := finL a) (d1 := finL (lsortI a)) ⟨by rw [s1, s0], fun i hi => ?_, ?_⟩ (fun i j _ hij hj => ?_) (by rw [s0]; exact hpos) (by rw [s0]; exact hl) hH hA
    · rw [getElem!_neg _ i (by omega), getElem!_neg _ i (by omega)]
    · rw [← s1.trans s0.symm]
      rw [Array.extract_size, s1.trans s0.symm, Array.extract_size]
      exact lsort_perm hs hn
    · exact lsort_sorted a i j hij (by rw [lsortI_len hs hn]; omega)
  · cases hk

/- impl.SortLectic -/
def K_sortLecticG : List AV → List Ob → Option (AV × List Ob)
  | [.lst (.int .i64) a], [] => gd (setsB a = true ∧ a.Nodup) (.own 0, [.row 3 (.int .i64) (lsortI a)])
  | _, _ => none
@[reducible] def E_sortLecticG : Env := mkE (tb [(94, K_has_badSet1), (42, K_cloneInt), (196, K_sortLecG), (199, K_compactInt)]) (fun f => [196, 199].contains f) (fun r => ([], []))
theorem ev_sortLecticG (a : List Int) (hp : setsB a = true ∧ a.Nodup) : evF E_sortLecticG (1) Tryz.f145 [.lst (.int .i64) a] [] = some (.own 0, [.row 3 (.int .i64) (lsortI a)]) := by
  have hl := nodup_le hp.1 hp.2
  have hl2 := lsortI_len hp.1 hp.2
  have hb : a.any (badRow 8) = false := by
    rw [List.any_eq_false]
    intro x hx
    have := setsB_iff.1 hp.1 x hx
    unfold badRow
    rw [isSet8, dt (show 0 ≤ x ∧ x ≤ 255 by omega)]
    simp
  conv => lhs; whnf
  conv => lhs; arg 1; whnf
  refine bnd_g (by exact ⟨by omega, True.intro⟩) ?_
  conv => lhs; whnf
  refine br_f (by exact hb) ?_
  conv => lhs; whnf
  conv => lhs; arg 1; whnf
  refine bnd_g (by omega) ?_
  conv => lhs; whnf
  conv => lhs; arg 1; whnf
  refine bnd_g (by exact hp) ?_
  conv => lhs; whnf
  conv => lhs; arg 1; whnf
  refine bnd_g (by exact ⟨by omega, nodup_noAdj _ (lsortI_nodup a)⟩) ?_
  conv => lhs; whnf
theorem ok_sortLecticG : FnOk Tryz.prog 145 K_sortLecticG := by
  refine fn_ok (fn := Tryz.f145) (k := Tryz.f145.ntmps) (E := E_sortLecticG) (facts_of (List.forall_mem_cons.2 ⟨ok_has_badSet1, List.forall_mem_cons.2 ⟨ok_cloneInt, List.forall_mem_cons.2 ⟨ok_sortLecG, List.forall_mem_cons.2 ⟨ok_compactInt, List.forall_mem_nil _⟩⟩⟩⟩)) (by kernel_rfl) rfl (by decide +kernel) (by decide +kernel) ?_
  intro avs hin r h
  unfold K_sortLecticG at h
  split at h
  · obtain ⟨hp, rfl⟩ := gd_o h
    exact ⟨_, ev_sortLecticG _ hp, rfl⟩
  · cases h

theorem stemR_clI {m : Int} {b : List Int} (h : isCtx m b = true) : (stemI m b).map (fun s => (s, clI m b s)) = stemR m b := by
  have hl := isCtx_len h
  unfold stemR
  refine List.map_congr_left fun s hs => ?_
  obtain ⟨h0, h1⟩ := stemI_mem (by omega) hs
  obtain ⟨x, rfl⟩ : ∃ x : Nat, s = x := ⟨s.toNat, by omega⟩
  rw [Int.toNat_natCast] at h1
  unfold clI
  rw [h, set_of_lt h h1]
  rfl
/- slices.IndexFunc[[]int,int] -/
def K_idx_stem2 : List AV → List Ob → Option (AV × List Ob)
  | [.lst (.int .i64) a, .clo 212 [.vptr [.int .i64 s] 0, .vptr [.clo 172 [.vptr [.int .i64 m, .lst (.int .i64) b] 0]] 0]], [] => gd (a.length < 4611686018427387904 ∧ b.length ≤ 1048576) (.int .i64 (firstI (badP m b s) a 0), [])
  | _, _ => none
@[reducible] def E_idx_stem2 : Env := mkE (tb [(212, K_stem2)]) (fun f => false) (fun r => bif r == 2 then ([0, 1, 7, 8], [4]) else ([], []))
theorem lp_idx_stem2 (a : List Int) (s m : Int) (b : List Int) (hB : b.length ≤ 1048576) (ha : a.length < 4611686018427387904) (k : AX → S → Option (AV × List Ob)) (d : Nat) : ∀ (n i : Nat) (x : Int), a.length - i = d → i ≤ a.length → x = i → d < n →
    lpAt E_idx_stem2 (lp E_idx_stem2 0 n) 0 (loopAt Tryz.f150 0) (mkS [0, 1, 7, 8] [.lst (.int .i64) a, .clo 212 [.vptr [.int .i64 s] 0, .vptr [.clo 172 [.vptr [.int .i64 m, .lst (.int .i64) b] 0]] 0], .int .i64 a.length, .int .i64 x] []) k =
      if (a.drop i).any (badP m b s) then k .ret (mkS [4] [.int .i64 (firstI (badP m b s) (a.drop i) i)] []) else k (.exit 0) (mkS [4] [.any] []) := by
  induction d with
  | zero =>
    intro n i x hd hi hx hn
    subst hx
    rw [lpAt_def]
    conv => lhs; whnf
    refine br_f (df (by omega)) ?_
    conv => lhs; whnf
    rw [List.drop_of_length_le (by omega)]
    simp
  | succ d ih =>
    intro n i x hd hi hx hn
    obtain ⟨n, rfl⟩ : ∃ m, n = m + 1 := ⟨n - 1, by omega⟩
    subst hx
    rw [lpAt_def]
    conv => lhs; whnf
    refine br_t (dt (by omega)) ?_
    conv => lhs; whnf
    refine br_t (dt2 (by omega) (by omega)) ?_
    conv => lhs; whnf
    conv => lhs; arg 1; whnf
    refine bnd_g (by exact hB) ?_
    conv => lhs; whnf
    rw [getD_drop (l := a) (i := i) (d := 0) (by omega)]
    refine br_c (fun h => ?_) (fun h => ?_)
    · have h' : (badP m b s) (a.getD i 0) = true := h
      conv => lhs; whnf
      rw [if_pos (by rw [List.any_cons, h', Bool.true_or])]
      rw [firstI, h', cond_true]
    · have h' : (badP m b s) (a.getD i 0) = false := h
      conv => lhs; whnf
      rw [ih n (i + 1) _ (by omega) (by omega) (by rw [wrap64 (by omega) (by omega)]; simp) (by omega)]
      rw [List.any_cons, h', Bool.false_or, firstI, h', cond_false]
      rfl
theorem ev_idx_stem2 (a : List Int) (s m : Int) (b : List Int) (hp : a.length < 4611686018427387904 ∧ b.length ≤ 1048576) : evF E_idx_stem2 (a.length + 2) Tryz.f150 [.lst (.int .i64) a, .clo 212 [.vptr [.int .i64 s] 0, .vptr [.clo 172 [.vptr [.int .i64 m, .lst (.int .i64) b] 0]] 0]] [] = some (.int .i64 (firstI (badP m b s) a 0), []) := by
  conv => lhs; whnf
  refine (lp_idx_stem2 a s m b hp.2 hp.1 _ a.length _ 0 0 rfl (by omega) rfl (by omega)).trans ?_
  simp only [List.drop_zero]
  split
  · conv => lhs; whnf
    rfl
  · rename_i he
    conv => lhs; whnf
    have : firstI (badP m b s) a 0 = -1 := firstI_none (badP m b s) a 0 (by simpa using he)
    rw [this]
theorem ok_idx_stem2 : FnOk Tryz.prog 150 K_idx_stem2 := by
  refine fn_ok (fn := Tryz.f150) (k := Tryz.f150.ntmps) (E := E_idx_stem2) (facts_of (List.forall_mem_cons.2 ⟨ok_stem2, List.forall_mem_nil _⟩)) (by kernel_rfl) rfl (by decide +kernel) (by decide +kernel) ?_
  intro avs hin r h
  unfold K_idx_stem2 at h
  split at h
  · obtain ⟨hp, rfl⟩ := gd_o h
    exact ⟨_, ev_idx_stem2 _ _ _ _ hp, rfl⟩
  · cases h

/- slices.ContainsFunc[[]int,int] -/
def K_has_stem2 : List AV → List Ob → Option (AV × List Ob)
  | [.lst (.int .i64) a, .clo 212 [.vptr [.int .i64 s] 0, .vptr [.clo 172 [.vptr [.int .i64 m, .lst (.int .i64) b] 0]] 0]], [] => gd (a.length < 4611686018427387904 ∧ b.length ≤ 1048576) (.bool (a.any (badP m b s)), [])
  | _, _ => none
@[reducible] def E_has_stem2 : Env := mkE (tb [(150, K_idx_stem2)]) (fun f => false) (fun r => ([], []))
theorem ev_has_stem2 (a : List Int) (s m : Int) (b : List Int) (hp : a.length < 4611686018427387904 ∧ b.length ≤ 1048576) : evF E_has_stem2 (1) Tryz.f94 [.lst (.int .i64) a, .clo 212 [.vptr [.int .i64 s] 0, .vptr [.clo 172 [.vptr [.int .i64 m, .lst (.int .i64) b] 0]] 0]] [] = some (.bool (a.any (badP m b s)), []) := by
  conv => lhs; whnf
  conv => lhs; arg 1; whnf
  refine bnd_g (by exact hp) ?_
  conv => lhs; whnf
  refine okB ?_
  exact firstI_iff (badP m b s) a 0 (by omega)
theorem ok_has_stem2 : FnOk Tryz.prog 94 K_has_stem2 := by
  refine fn_ok (fn := Tryz.f94) (k := Tryz.f94.ntmps) (E := E_has_stem2) (facts_of (List.forall_mem_cons.2 ⟨ok_idx_stem2, List.forall_mem_nil _⟩)) (by kernel_rfl) rfl (by decide +kernel) (by decide +kernel) ?_
  intro avs hin r h
  unfold K_has_stem2 at h
  split at h
  · obtain ⟨hp, rfl⟩ := gd_o h
    exact ⟨_, ev_has_stem2 _ _ _ _ hp, rfl⟩
  · cases h

/- impl.stem -/
def K_implStemL : List AV → List Ob → Option (AV × List Ob)
  | [.int .i64 m, .clo 172 [.vptr [.int .i64 m', .lst (.int .i64) b] 0]], [] => gd (m' = m ∧ isCtx m b = true ∧ b.length ≤ 1048576) (.own 0, [.row 3 (.int .i64) (stemI m b)])
  | _, _ => none
@[reducible] def E_implStemL : Env := mkE (tb [(91, K_allSets), (94, K_has_stem2), (172, K_pseudo1), (145, K_sortLecticG), (209, K_sortStable)]) (fun f => [209].contains f) (fun r => bif r == 5 then ([3, 6, 15, 16, 17], [6]) else ([], []))
theorem lp_implStemL (m : Nat) (hm : m ≤ 6) (b : List Int) (hc : isCtx (m : Int) b = true) (hB : b.length ≤ 1048576) (Ls : List Nat) (hl : Ls.length ≤ 64) (hLs : ∀ x ∈ Ls, x < 2 ^ m) (N : Nat) (hN : N = Ls.length) (k : AX → S → Option (AV × List Ob)) (d : Nat) : ∀ (n i : Nat) (x : Int) (L : List Nat), Ls.length - i = d → i ≤ Ls.length → x = i → d < n → L.length ≤ i → (∀ y ∈ L, y < 2 ^ m) →
    lpAt E_implStemL (lp E_implStemL 0 n) 0 (loopAt Tryz.f171 0) (mkS [3, 6, 15, 16, 17] [.ptr 0 0, .own 1, .own 2, .int .i64 (N : Int), .int .i64 x] [some (.box 96 [.clo 172 [.vptr [.int .i64 (m : Int), .lst (.int .i64) b] 0]]), some (.row 3 (.int .i64) (castN L)), some (.row 3 (.int .i64) (castN Ls))]) k =
      k (.exit 0) (mkS [6] [.own 0] [some (.row 3 (.int .i64) (castN (greedy (okP (clN (m : Int) b)) (Ls.drop i) L)))]) := by
  have hp : 2 ^ m ≤ 2 ^ 6 := Nat.pow_le_pow_right (by omega) hm
  have hcl2 : (castN Ls).length = Ls.length := List.length_map _
  subst hN
  induction d with
  | zero =>
    intro n i x L hd hi hx hn hz hL
    subst hx
    rw [lpAt_def]
    conv => lhs; whnf
    refine br_f (df (by omega)) ?_
    conv => lhs; whnf
    rw [List.drop_of_length_le (by omega), greedy]
  | succ d ih =>
    intro n i x L hd hi hx hn hz hL
    obtain ⟨n, rfl⟩ : ∃ m, n = m + 1 := ⟨n - 1, by omega⟩
    subst hx
    have hsi := hLs _ (mem_getD (l := Ls) (i := i) (d := 0) (by omega))
    have hlen : (castN L).length = L.length := List.length_map _
    obtain ⟨s, hs⟩ : ∃ s, s = Ls.getD i 0 := ⟨_, rfl⟩
    have hcs : (castN Ls).getD i 0 = (s : Int) := by
      rw [hs, List.getD_eq_getElem?_getD, List.getD_eq_getElem?_getD, List.getElem?_map]
      cases Ls[i]? <;> rfl
    have hs2 : s < 2 ^ m := by rw [hs]; exact hsi
    have ea := any_bad hc (s := s) (by rw [Int.toNat_natCast]; omega) L (fun y hy => by have := hL y hy; rw [Int.toNat_natCast]; omega)
    have hcl := clI_nat hc (s := s) (by rw [Int.toNat_natCast]; omega)
    have e0 : (clI (m : Int) b (s : Int) != (s : Int)) = !(clN (m : Int) b s == s) := by rw [hcl, bne, Bool.eq_iff_iff]; simp only [Bool.not_eq_true', beq_eq_false_iff_ne, ne_eq]; omega
    have eok : okP (clN (m : Int) b) L s = ((clI (m : Int) b (s : Int) != (s : Int)) && !(castN L).any (badP (m : Int) b (s : Int))) := by rw [ea, e0]; rfl
    rw [getD_drop (l := Ls) (i := i) (d := 0) (by omega), ← hs, greedy, lpAt_def]
    conv => lhs; whnf
    refine br_t (dt (by omega)) ?_
    conv => lhs; whnf
    refine br_t (by exact dt2 (by omega) (by rw [hcl2]; omega)) ?_
    conv => lhs; whnf
    refine br_t (by exact dt (by rw [hcl2]; omega)) ?_
    conv => lhs; whnf
    conv => lhs; arg 1; whnf
    refine bnd_g (by exact ⟨by rw [hlen]; omega, hB⟩) ?_
    conv => lhs; whnf
    conv => lhs; arg 1; whnf
    refine bnd_g (by exact hB) ?_
    conv => lhs; whnf
    repeat ((first | with_reducible apply br_tt | with_reducible apply br_ff | with_reducible apply br_nf | with_reducible apply br_nt | with_reducible refine br_d ?_ (by kernel_rfl)); conv => lhs; whnf)
    refine br_c (fun h => ?_) (fun h => ?_)
    · have h' : (clI (m : Int) b ((castN Ls).getD i 0) != (castN Ls).getD i 0) = true := h
      rw [hcs] at h'
      conv => lhs; whnf
      repeat ((first | with_reducible apply br_tt | with_reducible apply br_ff | with_reducible apply br_nf | with_reducible apply br_nt | with_reducible refine br_d ?_ (by kernel_rfl) | with_reducible apply br_t h | with_reducible apply br_f h); conv => lhs; whnf)
      refine br_c (fun h2 => ?_) (fun h2 => ?_)
      · have h2' : (!(castN L).any (badP (m : Int) b ((castN Ls).getD i 0))) = true := h2
        rw [hcs] at h2'
        conv => lhs; whnf
        refine br_t (dt (by rw [hlen]; simp [room]; omega)) ?_
        conv => lhs; whnf
        have e2 : castN L ++ [(castN Ls).getD i 0] = castN (L ++ [s]) := by rw [hcs]; unfold castN; rw [List.map_append]; rfl
        rw [eok, h', h2', Bool.and_self, cond_true]
        refine Eq.trans ?_ (ih n (i + 1) (IntKind.i64.wrap ((i : Int) + 1)) (L ++ [s]) (by omega) (by omega) (by rw [wrap64 (n := (i : Int) + 1) (by omega) (by omega)]; simp) (by omega) (by simp; omega) (fun y hy => ?_))
        · rw [← e2]
          rfl
        · rcases List.mem_append.1 hy with hy | hy
          · exact hL y hy
          · have : y = s := by simpa using hy
            omega
      · have h2' : (!(castN L).any (badP (m : Int) b ((castN Ls).getD i 0))) = false := h2
        rw [hcs] at h2'
        conv => lhs; whnf
        rw [eok, h', h2', Bool.and_false, cond_false]
        exact ih n (i + 1) _ L (by omega) (by omega) (by rw [wrap64 (n := (i : Int) + 1) (by omega) (by omega)]; simp) (by omega) (by omega) hL
    · have h' : (clI (m : Int) b ((castN Ls).getD i 0) != (castN Ls).getD i 0) = false := h
      rw [hcs] at h'
      conv => lhs; whnf
      repeat ((first | with_reducible apply br_tt | with_reducible apply br_ff | with_reducible apply br_nf | with_reducible apply br_nt | with_reducible refine br_d ?_ (by kernel_rfl) | with_reducible apply br_t h | with_reducible apply br_f h); conv => lhs; whnf)
      rw [eok, h', Bool.false_and, cond_false]
      exact ih n (i + 1) _ L (by omega) (by omega) (by rw [wrap64 (n := (i : Int) + 1) (by omega) (by omega)]; simp) (by omega) (by omega) hL
theorem ev_implStemL (m m' : Int) (b : List Int) (hp : m' = m ∧ isCtx m b = true ∧ b.length ≤ 1048576) : evF E_implStemL (100) Tryz.f171 [.int .i64 m, .clo 172 [.vptr [.int .i64 m', .lst (.int .i64) b] 0]] [] = some (.own 0, [.row 3 (.int .i64) (stemI m b)]) := by
  obtain ⟨rfl, hc, hB⟩ := hp
  have hlen := isCtx_len hc
  obtain ⟨mm, rfl⟩ : ∃ mm : Nat, m' = mm := ⟨m'.toNat, by omega⟩
  have h6 : mm ≤ 6 := by omega
  have hpw : 2 ^ mm ≤ 2 ^ 6 := Nat.pow_le_pow_right (by omega) h6
  have hlec : (lecI mm).length = 2 ^ mm := by unfold lecI lecL; rw [List.length_map, List.length_map, List.length_range]
  have e4 : stableF (lecI mm) = castN (stableN mm) := (stab_all ⟨mm, by omega⟩).2.2.2
  have hcn : (castN (stableN mm)).length = (stableN mm).length := List.length_map _
  have hsl : (stableF (lecI mm)).length = 2 ^ mm := by
    unfold stableF
    have hl : ∀ (n d bs : Nat) (ys : List Int), (lvlF n d bs ys).length = ys.length := by
      intro n d
      induction d with
      | zero => intro bs ys; rfl
      | succ d ih =>
        intro bs ys
        rw [lvlF]
        cases decide (bs < n)
        · rfl
        · rw [cond_true, ih, mrgF_len]
    rw [hl, blksF_len, hlec]
  have hN : (stableF (lecI mm)).length = (stableN mm).length := by rw [e4, hcn]
  have L := fun k => lp_implStemL mm h6 b hc hB (stableN mm) (by omega) (fun x hx => (stab_mem h6 x).1 hx) (stableF (lecI mm)).length hN k (stableN mm).length 99 0 0 [] rfl (Nat.zero_le _) rfl (by omega) (Nat.le_refl _) (fun y hy => by cases hy)
  rw [← e4, List.drop_zero] at L
  have hss := greedy_I_sets (clN (mm : Int) b) h6
  have hsn := greedy_I_nodup (clN (mm : Int) b) h6
  have hst := stem_I (mm : Int) b (by rw [Int.toNat_natCast]; exact h6)
  rw [Int.toNat_natCast] at hst
  conv => lhs; whnf
  conv => lhs; arg 1; whnf
  refine bnd_g (by exact ⟨by omega, by omega⟩) ?_
  conv => lhs; whnf
  conv => lhs; arg 1; whnf
  refine bnd_g (by (show (lecI mm).length ≤ 64; omega)) ?_
  conv => lhs; whnf
  refine (L _).trans ?_
  conv => lhs; whnf
  conv => lhs; arg 1; whnf
  refine bnd_g (by exact ⟨hss, hsn⟩) ?_
  conv => lhs; whnf
  rw [hst]
theorem ok_implStemL : FnOk Tryz.prog 171 K_implStemL := by
  refine fn_ok (fn := Tryz.f171) (k := Tryz.f171.ntmps) (E := E_implStemL) (facts_of (List.forall_mem_cons.2 ⟨ok_allSets, List.forall_mem_cons.2 ⟨ok_has_stem2, List.forall_mem_cons.2 ⟨ok_pseudo1, List.forall_mem_cons.2 ⟨ok_sortLecticG, List.forall_mem_cons.2 ⟨ok_sortStable, List.forall_mem_nil _⟩⟩⟩⟩⟩)) (by kernel_rfl) rfl (by decide +kernel) (by decide +kernel) ?_
  intro avs hin r h
  unfold K_implStemL at h
  split at h
  · obtain ⟨hp, rfl⟩ := gd_o h
    exact ⟨_, ev_implStemL _ _ _ hp, rfl⟩
  · cases h

/- impl.PseudoIntents -/
def K_implPseudo : List AV → List Ob → Option (AV × List Ob)
  | [.agg [.int .i64 m, .lst (.int .i64) b]], [] => gd (isCtx m b = true) (.own 0, [.row 3 (.int .i64) (stemI m b)])
  | _, _ => none
@[reducible] def E_implPseudo : Env := mkE (tb [(38, K_implIsContext), (171, K_implStemL)]) (fun f => false) (fun r => ([], []))
theorem ev_implPseudo (m : Int) (b : List Int) (hp : isCtx m b = true) : evF E_implPseudo (1) Tryz.f125 [.agg [.int .i64 m, .lst (.int .i64) b]] [] = some (.own 0, [.row 3 (.int .i64) (stemI m b)]) := by
  have hlen := isCtx_len hp
  conv => lhs; whnf
  conv => lhs; arg 1; whnf
  refine bnd_g (by omega) ?_
  conv => lhs; whnf
  refine br_f (by (rw [hp]; rfl)) ?_
  conv => lhs; whnf
  conv => lhs; arg 1; whnf
  refine bnd_g (by exact ⟨rfl, hp, by omega⟩) ?_
  conv => lhs; whnf
theorem ok_implPseudo : FnOk Tryz.prog 125 K_implPseudo := by
  refine fn_ok (fn := Tryz.f125) (k := Tryz.f125.ntmps) (E := E_implPseudo) (facts_of (List.forall_mem_cons.2 ⟨ok_implIsContext, List.forall_mem_cons.2 ⟨ok_implStemL, List.forall_mem_nil _⟩⟩)) (by kernel_rfl) rfl (by decide +kernel) (by decide +kernel) ?_
  intro avs hin r h
  unfold K_implPseudo at h
  split at h
  · obtain ⟨hp, rfl⟩ := gd_o h
    exact ⟨_, ev_implPseudo _ _ hp, rfl⟩
  · cases h

/- impl.StemBase$1 -/
def K_stemB1 : List AV → List Ob → Option (AV × List Ob)
  | [.int .i64 s, .vptr [.int .i64 m, .lst (.int .i64) b] 0], [] => gd (b.length ≤ 1048576) (.int .i64 (clI m b s), [])
  | _, _ => none
@[reducible] def E_stemB1 : Env := mkE (tb [(127, K_implClosureOf)]) (fun f => false) (fun r => ([], []))
theorem ev_stemB1 (s m : Int) (b : List Int) (hp : b.length ≤ 1048576) : evF E_stemB1 (1) Tryz.f126 [.int .i64 s, .vptr [.int .i64 m, .lst (.int .i64) b] 0] [] = some (.int .i64 (clI m b s), []) := by
  conv => lhs; whnf
  conv => lhs; arg 1; whnf
  refine bnd_g (by exact hp) ?_
  conv => lhs; whnf
  rfl
theorem ok_stemB1 : FnOk Tryz.prog 126 K_stemB1 := by
  refine fn_ok (fn := Tryz.f126) (k := Tryz.f126.ntmps) (E := E_stemB1) (facts_of (List.forall_mem_cons.2 ⟨ok_implClosureOf, List.forall_mem_nil _⟩)) (by kernel_rfl) rfl (by decide +kernel) (by decide +kernel) ?_
  intro avs hin r h
  unfold K_stemB1 at h
  split at h
  · obtain ⟨hp, rfl⟩ := gd_o h
    exact ⟨_, ev_stemB1 _ _ _ hp, rfl⟩
  · cases h

/- impl.rulesTo -/
def K_rulesTo : List AV → List Ob → Option (AV × List Ob)
  | [.lst (.int .i64) a, .clo 126 [.vptr [.int .i64 m, .lst (.int .i64) b] 0]], [] => gd (a.length ≤ 64 ∧ b.length ≤ 1048576) (.own 0, [.row 99 (.pair (.int .i64) (.int .i64)) (a.map (fun s => (s, clI m b s)))])
  | _, _ => none
@[reducible] def E_rulesTo : Env := mkE (tb [(126, K_stemB1)]) (fun f => false) (fun r => bif r == 3 then ([1, 5, 9, 10, 11], [5]) else ([], []))
theorem lp_rulesTo (m : Int) (b : List Int) (hB : b.length ≤ 1048576) (a : List Int) (ha : a.length ≤ 64) (k : AX → S → Option (AV × List Ob)) (d : Nat) : ∀ (n i : Nat) (x : Int) (zs : List (Int × Int)), a.length - i = d → i ≤ a.length → x = i → d < n → zs.length ≤ i →
    lpAt E_rulesTo (lp E_rulesTo 0 n) 0 (loopAt Tryz.f124 0) (mkS [1, 5, 9, 10, 11] [.clo 126 [.vptr [.int .i64 m, .lst (.int .i64) b] 0], .own 0, .lst (.int .i64) a, .int .i64 a.length, .int .i64 x] [some (.row 99 (.pair (.int .i64) (.int .i64)) zs)]) k =
      k (.exit 0) (mkS [5] [.own 0] [some (.row 99 (.pair (.int .i64) (.int .i64)) (zs ++ (a.drop i).map (fun s => (s, clI m b s))))]) := by
  induction d with
  | zero =>
    intro n i x zs hd hi hx hn hz
    subst hx
    rw [lpAt_def]
    conv => lhs; whnf
    refine br_f (df (by omega)) ?_
    conv => lhs; whnf
    rw [List.drop_of_length_le (by omega), List.map_nil, List.append_nil]
  | succ d ih =>
    intro n i x zs hd hi hx hn hz
    obtain ⟨n, rfl⟩ : ∃ m, n = m + 1 := ⟨n - 1, by omega⟩
    subst hx
    rw [lpAt_def]
    conv => lhs; whnf
    refine br_t (dt (by omega)) ?_
    conv => lhs; whnf
    refine br_t (dt2 (by omega) (by omega)) ?_
    conv => lhs; whnf
    conv => lhs; arg 1; whnf
    refine bnd_g (by exact hB) ?_
    conv => lhs; whnf
    refine br_t (dt (by simp [room]; omega)) ?_
    conv => lhs; whnf
    refine Eq.trans (ih n (i + 1) _ _ (by omega) (by omega) (by rw [wrap64 (n := (i : Int) + 1) (by omega) (by omega)]; simp) (by omega) (by simp; omega)) ?_
    rw [getD_drop (l := a) (i := i) (d := 0) (by omega), List.map_cons]
    simp only [List.append_assoc]
    rfl
theorem ev_rulesTo (m : Int) (b : List Int) (a : List Int) (hp : a.length ≤ 64 ∧ b.length ≤ 1048576) : evF E_rulesTo (100) Tryz.f124 [.lst (.int .i64) a, .clo 126 [.vptr [.int .i64 m, .lst (.int .i64) b] 0]] [] = some (.own 0, [.row 99 (.pair (.int .i64) (.int .i64)) (a.map (fun s => (s, clI m b s)))]) := by
  conv => lhs; whnf
  refine (lp_rulesTo m b hp.2 a hp.1 _ _ _ 0 0 [] rfl (Nat.zero_le _) rfl (by change _ < 99; omega) (Nat.le_refl _)).trans ?_
  conv => lhs; whnf
  rfl
theorem ok_rulesTo : FnOk Tryz.prog 124 K_rulesTo := by
  refine fn_ok (fn := Tryz.f124) (k := Tryz.f124.ntmps) (E := E_rulesTo) (facts_of (List.forall_mem_cons.2 ⟨ok_stemB1, List.forall_mem_nil _⟩)) (by kernel_rfl) rfl (by decide +kernel) (by decide +kernel) ?_
  intro avs hin r h
  unfold K_rulesTo at h
  split at h
  · obtain ⟨hp, rfl⟩ := gd_o h
    exact ⟨_, ev_rulesTo _ _ _ hp, rfl⟩
  · cases h

/- impl.StemBase -/
def K_implStem : List AV → List Ob → Option (AV × List Ob)
  | [.agg [.int .i64 m, .lst (.int .i64) b]], [] => gd (isCtx m b = true) (.own 0, [.row 99 (.pair (.int .i64) (.int .i64)) (stemR m b)])
  | _, _ => none
@[reducible] def E_implStem : Env := mkE (tb [(125, K_implPseudo), (124, K_rulesTo)]) (fun f => false) (fun r => ([], []))
theorem ev_implStem (m : Int) (b : List Int) (hp : isCtx m b = true) : evF E_implStem (1) Tryz.f67 [.agg [.int .i64 m, .lst (.int .i64) b]] [] = some (.own 0, [.row 99 (.pair (.int .i64) (.int .i64)) (stemR m b)]) := by
  have hlen := isCtx_len hp
  have hl := stemI_len m b
  have e := stemR_clI hp
  conv => lhs; whnf
  conv => lhs; arg 1; whnf
  refine bnd_g (by exact hp) ?_
  conv => lhs; whnf
  conv => lhs; arg 1; whnf
  refine bnd_g (by exact ⟨hl, by omega⟩) ?_
  conv => lhs; whnf
  rw [← e]
theorem ok_implStem : FnOk Tryz.prog 67 K_implStem := by
  refine fn_ok (fn := Tryz.f67) (k := Tryz.f67.ntmps) (E := E_implStem) (facts_of (List.forall_mem_cons.2 ⟨ok_implPseudo, List.forall_mem_cons.2 ⟨ok_rulesTo, List.forall_mem_nil _⟩⟩)) (by kernel_rfl) rfl (by decide +kernel) (by decide +kernel) ?_
  intro avs hin r h
  unfold K_implStem at h
  split at h
  · obtain ⟨hp, rfl⟩ := gd_o h
    exact ⟨_, ev_implStem _ _ hp, rfl⟩
  · cases h

end Go.Sym
