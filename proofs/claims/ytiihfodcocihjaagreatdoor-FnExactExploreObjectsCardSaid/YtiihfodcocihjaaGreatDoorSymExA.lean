/- Functions of the program, each told as a plain equation. -/
import Derived.Test.YtiihfodcocihjaaGreatDoorSymCptE
namespace Go.Sym
open Go.Proofs
set_option linter.unusedVariables false
set_option linter.unusedSimpArgs false
set_option maxRecDepth 100000
set_option maxHeartbeats 4000000

/-- Pseudo-closed sets. -/
def Pseudo (cl : Nat → Nat) (s : Nat) : Prop := cl s ≠ s ∧ ∀ p, p < s → SubN p s → Pseudo cl p → SubN (cl p) s
termination_by s
decreasing_by assumption
theorem pseudo_iff (cl : Nat → Nat) (s : Nat) : Pseudo cl s ↔ cl s ≠ s ∧ ∀ p, p < s → SubN p s → Pseudo cl p → SubN (cl p) s := by
  conv => lhs; unfold Pseudo
noncomputable def psB (cl : Nat → Nat) (s : Nat) : Bool := @decide (Pseudo cl s) (Classical.propDecidable _)
theorem psB_iff {cl : Nat → Nat} {s : Nat} : psB cl s = true ↔ Pseudo cl s := by
  unfold psB
  exact @decide_eq_true_iff _ (Classical.propDecidable _)
def greedy (ok : List Nat → Nat → Bool) : List Nat → List Nat → List Nat
  | [], out => out
  | s :: r, out => greedy ok r (bif ok out s then out ++ [s] else out)
theorem psub_lt {p s : Nat} (h : SubN p s) (hne : p ≠ s) : p < s := by
  have e : p &&& s = p := by
    apply Nat.eq_of_testBit_eq
    intro i
    rw [Nat.testBit_and]
    cases hb : p.testBit i
    · rfl
    · rw [h i hb]; rfl
  have : p &&& s ≤ s := Nat.and_le_right
  omega
/-- A choice that goes by what is there gives the pseudo-closed sets, in any order that has subsets first. -/
theorem greedy_ps {cl : Nat → Nat} {ok : List Nat → Nat → Bool} (N : Nat)
    (hok : ∀ out s, s < N → s ∉ out → (∀ x ∈ out, x < N) → (ok out s = true ↔ cl s ≠ s ∧ ∀ p ∈ out, p ≠ s → SubN p s → SubN (cl p) s)) :
    ∀ (todo done : List Nat), (∀ x ∈ done ++ todo, x < N) → (∀ (a : List Nat) (s : Nat) (b : List Nat), todo = a ++ s :: b → s ∉ done ++ a ∧ ∀ p, p < N → SubN p s → p ≠ s → p ∈ done ++ a) →
      greedy ok todo (done.filter (psB cl)) = (done ++ todo).filter (psB cl)
  | [], done, _, _ => by rw [greedy, List.append_nil]
  | s :: r, done, hN, h => by
    obtain ⟨h1, h2⟩ := h [] s r rfl
    rw [List.append_nil] at h1 h2
    have hs : s < N := hN s (by simp)
    have e : ok (done.filter (psB cl)) s = psB cl s := by
      rw [Bool.eq_iff_iff, hok _ s hs (fun hx => h1 (List.mem_filter.1 hx).1) (fun x hx => hN x (List.mem_append_left _ (List.mem_filter.1 hx).1)), psB_iff, pseudo_iff]
      refine and_congr_right fun _ => ⟨fun g p hp hsub hps => ?_, fun g p hp hne hsub => ?_⟩
      · exact g p (List.mem_filter.2 ⟨h2 p (by omega) hsub (by omega), psB_iff.2 hps⟩) (by omega) hsub
      · exact g p (psub_lt hsub hne) hsub (psB_iff.1 (List.mem_filter.1 hp).2)
    have e2 : (bif ok (done.filter (psB cl)) s then done.filter (psB cl) ++ [s] else done.filter (psB cl)) = (done ++ [s]).filter (psB cl) := by
      rw [e, List.filter_append, List.filter_cons]
      cases psB cl s <;> simp
    rw [greedy, e2, greedy_ps N hok r (done ++ [s]) (by simpa [List.append_assoc] using hN) (fun a t b hr => ?_), List.append_assoc]
    · rfl
    · obtain ⟨g1, g2⟩ := h (s :: a) t b (by rw [hr]; rfl)
      rw [List.append_assoc]
      exact ⟨g1, g2⟩
def chkO : List Nat → Bool
  | [] => true
  | s :: r => r.all (fun p => !(p &&& s == p)) && chkO r
theorem chkO_mid : ∀ (a : List Nat) (s : Nat) (b : List Nat), chkO (a ++ s :: b) = true → (∀ p ∈ b, p &&& s ≠ p) ∧ s ∉ a
  | [], s, b, h => by
    simp only [List.nil_append, chkO, Bool.and_eq_true, List.all_eq_true, Bool.not_eq_true', beq_eq_false_iff_ne] at h
    exact ⟨h.1, by simp⟩
  | x :: a, s, b, h => by
    simp only [List.cons_append, chkO, Bool.and_eq_true, List.all_eq_true, Bool.not_eq_true', beq_eq_false_iff_ne] at h
    obtain ⟨h1, h2⟩ := chkO_mid a s b h.2
    refine ⟨h1, fun hs => ?_⟩
    rcases List.mem_cons.1 hs with rfl | hs
    · exact h.1 s (by simp) (Nat.and_self s)
    · exact h2 hs
theorem order_ps {cl : Nat → Nat} {ok : List Nat → Nat → Bool} {N : Nat} {L : List Nat} (hL : chkO L = true) (hN : ∀ x ∈ L, x < N) (hall : ∀ x, x < N → x ∈ L)
    (hok : ∀ out s, s < N → s ∉ out → (∀ x ∈ out, x < N) → (ok out s = true ↔ cl s ≠ s ∧ ∀ p ∈ out, p ≠ s → SubN p s → SubN (cl p) s)) : greedy ok L [] = L.filter (psB cl) := by
  refine greedy_ps N hok L [] hN fun a s b hab => ?_
  rw [hab] at hL
  obtain ⟨h1, h2⟩ := chkO_mid a s b hL
  refine ⟨h2, fun p hp hsub hne => ?_⟩
  have hm := hall p hp
  rw [hab] at hm
  rcases List.mem_append.1 hm with hm | hm
  · exact hm
  · rcases List.mem_cons.1 hm with rfl | hm
    · exact absurd rfl hne
    · refine absurd ?_ (h1 p hm)
      apply Nat.eq_of_testBit_eq
      intro i
      rw [Nat.testBit_and]
      cases hb : p.testBit i
      · rfl
      · rw [hsub i hb]; rfl
/-- A list of sets in lectic order. -/
def lsortI (a : List Int) : List Int := (lecI 6).filter (fun x => a.contains x)
def cfL (x y : Fin 64) : Int := lecC (x.val : Int) (y.val : Int)
def finL (a : List Int) : Array (Fin 64) := (a.map fun x => Fin.ofNat 64 x.toNat).toArray
def setsB (a : List Int) : Bool := a.all (fun x => decide (0 ≤ x ∧ x ≤ 63))
theorem ltL_all : ∀ x y : Fin 64, Go.Proofs.ltOf cfL x y = decide (brev 6 x.val < brev 6 y.val) := by decide +kernel
theorem brevL_inj : ∀ x y : Fin 64, brev 6 x.val = brev 6 y.val → x = y := by decide +kernel
theorem swoL : Go.Sort.SWO (Go.Proofs.ltOf cfL) where
  irrefl x := by rw [ltL_all]; simp
  trans x y z h1 h2 := by rw [ltL_all] at *; simp at *; omega
  ntrans x y z h1 h2 := by rw [ltL_all] at *; simp at *; omega
theorem totL (x y : Fin 64) (h1 : Go.Proofs.ltOf cfL x y = false) (h2 : Go.Proofs.ltOf cfL y x = false) : x = y := by
  rw [ltL_all] at h1 h2
  simp at h1 h2
  exact brevL_inj x y (by omega)
theorem finL_ints {a : List Int} (h : setsB a = true) : intsF (finL a) = a := by
  unfold intsF finL
  simp only [List.map_map]
  conv => rhs; rw [← List.map_id a]
  refine List.map_congr_left fun x hx => ?_
  have := of_decide_eq_true (List.all_eq_true.1 h x hx)
  simp only [Function.comp, Fin.ofNat, id]
  omega
theorem lec6 : (lecI 6).Pairwise (fun x y => Go.Proofs.ltOf cfL (Fin.ofNat 64 y.toNat) (Fin.ofNat 64 x.toNat) = false) ∧ (lecI 6).Nodup ∧ setsB (lecI 6) = true := by decide +kernel
theorem lec6_mem {x : Int} (h : 0 ≤ x ∧ x ≤ 63) : x ∈ lecI 6 := by
  unfold lecI
  refine List.mem_map.2 ⟨x.toNat, (lecL_mem (by omega)).2 (by omega), by omega⟩
theorem lsortI_mem {a : List Int} (h : setsB a = true) (x : Int) : x ∈ lsortI a ↔ x ∈ a := by
  unfold lsortI
  rw [List.mem_filter, List.contains_iff_mem]
  refine ⟨fun g => g.2, fun g => ⟨lec6_mem (of_decide_eq_true (List.all_eq_true.1 h x g)), g⟩⟩
theorem lsortI_nodup (a : List Int) : (lsortI a).Nodup := lec6.2.1.filter _
theorem lsortI_sets (a : List Int) : setsB (lsortI a) = true := by
  unfold setsB
  rw [List.all_eq_true]
  intro x hx
  exact List.all_eq_true.1 lec6.2.2 x (List.mem_filter.1 hx).1
theorem lsortI_perm {a : List Int} (h : setsB a = true) (hn : a.Nodup) : (lsortI a).Perm a := (List.perm_ext_iff_of_nodup (lsortI_nodup a) hn).2 (lsortI_mem h)
theorem lsortI_len {a : List Int} (h : setsB a = true) (hn : a.Nodup) : (lsortI a).length = a.length := (lsortI_perm h hn).length_eq
theorem nodup_le {a : List Int} (h : setsB a = true) (hn : a.Nodup) : a.length ≤ 64 := by
  have h1 := lsortI_len h hn
  have : (lsortI a).length ≤ (lecI 6).length := List.length_filter_le _ _
  have h6 : (lecI 6).length = 64 := by decide +kernel
  omega
theorem finL_size (a : List Int) : (finL a).size = a.length := by simp [finL]
theorem lsort_sorted (a : List Int) (i j : Nat) (hij : i < j) (hj : j < (lsortI a).length) : Go.Proofs.ltOf cfL (finL (lsortI a))[j]! (finL (lsortI a))[i]! = false := by
  have hp : (lsortI a).Pairwise (fun x y => Go.Proofs.ltOf cfL (Fin.ofNat 64 y.toNat) (Fin.ofNat 64 x.toNat) = false) := lec6.1.filter _
  have := List.pairwise_iff_getElem.1 hp i j (by omega) hj hij
  have e : ∀ k (hk : k < (lsortI a).length), (finL (lsortI a))[k]! = Fin.ofNat 64 ((lsortI a)[k]).toNat := by
    intro k hk
    rw [getElem!_pos _ k (by rw [finL_size]; exact hk)]
    simp [finL]
  rw [e j hj, e i (by omega)]
  exact this
theorem lsort_perm {a : List Int} (h : setsB a = true) (hn : a.Nodup) : (finL (lsortI a)).toList.Perm (finL a).toList := by
  unfold finL
  exact (lsortI_perm h hn).map _
theorem lecB_lt : ∀ x y : Fin 64, lecB (x.val : Int) (y.val : Int) = decide (brev 6 x.val < brev 6 y.val) := by decide +kernel
def insL (acc : List Int) (x : Int) : List Int := bif acc.contains x then acc else acc.takeWhile (fun y => lecB y x) ++ x :: acc.dropWhile (fun y => lecB y x)
def sortL : List Int → List Int → List Int
  | [], acc => acc
  | x :: r, acc => sortL r (insL acc x)
def br6 (x : Int) : Nat := brev 6 x.toNat
theorem lecB_br {x y : Int} (hx : 0 ≤ x ∧ x ≤ 63) (hy : 0 ≤ y ∧ y ≤ 63) : lecB x y = decide (br6 x < br6 y) := by
  have := lecB_lt ⟨x.toNat, by omega⟩ ⟨y.toNat, by omega⟩
  simp only [Int.toNat_of_nonneg hx.1, Int.toNat_of_nonneg hy.1] at this
  exact this
theorem br6_inj {x y : Int} (hx : 0 ≤ x ∧ x ≤ 63) (hy : 0 ≤ y ∧ y ≤ 63) (h : br6 x = br6 y) : x = y := by
  have := brevL_inj ⟨x.toNat, by omega⟩ ⟨y.toNat, by omega⟩ h
  have := congrArg Fin.val this
  simp only at this
  omega
def AscL (l : List Int) : Prop := l.Pairwise (fun x y => br6 x < br6 y)
theorem setsB_iff {a : List Int} : setsB a = true ↔ ∀ x ∈ a, 0 ≤ x ∧ x ≤ 63 := by
  unfold setsB
  simp only [List.all_eq_true, decide_eq_true_eq]
theorem insL_ok {acc : List Int} {x : Int} (hs : setsB acc = true) (hx : 0 ≤ x ∧ x ≤ 63) (h : AscL acc) : AscL (insL acc x) ∧ setsB (insL acc x) = true ∧ ∀ z, z ∈ insL acc x ↔ z = x ∨ z ∈ acc := by
  unfold insL
  cases hc : acc.contains x
  · rw [cond_false]
    have hs := setsB_iff.1 hs
    have hnx : x ∉ acc := by
      intro hm
      rw [List.contains_iff_mem.2 hm] at hc
      cases hc
    have happ := List.takeWhile_append_dropWhile (p := fun y => lecB y x) (l := acc)
    have hmem : ∀ z, z ∈ acc.takeWhile (fun y => lecB y x) ++ x :: acc.dropWhile (fun y => lecB y x) ↔ z = x ∨ z ∈ acc := by
      intro z
      conv => rhs; rw [← happ]
      simp only [List.mem_append, List.mem_cons]
      exact ⟨fun g => by rcases g with g | g | g <;> simp [g], fun g => by rcases g with g | g | g <;> simp [g]⟩
    refine ⟨?_, ?_, hmem⟩
    · unfold AscL at h ⊢
      rw [← happ, List.pairwise_append] at h
      obtain ⟨h1, h2, h3⟩ := h
      have hlt : ∀ y ∈ acc.takeWhile (fun y => lecB y x), br6 y < br6 x := by
        intro y hy
        have hb : lecB y x = true := by
          have : ∀ (l : List Int), y ∈ l.takeWhile (fun y => lecB y x) → lecB y x = true := by
            intro l
            induction l with
            | nil => intro g; simp at g
            | cons a l ih =>
              intro g
              rw [List.takeWhile_cons] at g
              cases ha : lecB a x
              · rw [ha] at g; simp at g
              · rw [ha] at g
                rcases List.mem_cons.1 (by simpa using g) with rfl | g
                · exact ha
                · exact ih g
          exact this acc hy
        have hy2 : y ∈ acc := by rw [← happ]; exact List.mem_append_left _ hy
        rw [lecB_br (hs y hy2) hx] at hb
        exact of_decide_eq_true hb
      have hgt : ∀ z ∈ acc.dropWhile (fun y => lecB y x), br6 x < br6 z := by
        intro z hz
        have hz2 : z ∈ acc := by rw [← happ]; exact List.mem_append_right _ hz
        cases hd : acc.dropWhile (fun y => lecB y x) with
        | nil => rw [hd] at hz; cases hz
        | cons w r =>
          have hw2 : w ∈ acc := by rw [← happ, hd]; simp
          have hwb : lecB w x = false := by
            have := List.head_dropWhile_not (fun y => lecB y x) (l := acc) (by rw [hd]; simp)
            simpa [hd] using this
          rw [lecB_br (hs w hw2) hx] at hwb
          have hwb := of_decide_eq_false hwb
          have hne : br6 w ≠ br6 x := fun e => hnx (by rw [← br6_inj (hs w hw2) hx e]; exact hw2)
          rw [hd] at hz h2
          rcases List.mem_cons.1 hz with rfl | hz
          · omega
          · have := (List.pairwise_cons.1 h2).1 z hz
            omega
      rw [List.pairwise_append, List.pairwise_cons]
      refine ⟨h1, ⟨hgt, h2⟩, fun a ha b hb => ?_⟩
      rcases List.mem_cons.1 hb with rfl | hb
      · exact hlt a ha
      · exact h3 a ha b hb
    · rw [setsB_iff]
      intro z hz
      rcases (hmem z).1 hz with rfl | hz
      · exact hx
      · exact hs z hz
  · rw [cond_true]
    refine ⟨h, hs, fun z => ⟨fun g => .inr g, fun g => ?_⟩⟩
    rcases g with rfl | g
    · exact List.contains_iff_mem.1 hc
    · exact g
theorem sortL_ok : ∀ (l acc : List Int), setsB acc = true → setsB l = true → AscL acc → AscL (sortL l acc) ∧ setsB (sortL l acc) = true ∧ ∀ z, z ∈ sortL l acc ↔ z ∈ l ∨ z ∈ acc
  | [], acc, h1, h2, h3 => ⟨h3, h1, fun z => by simp [sortL]⟩
  | x :: r, acc, h1, h2, h3 => by
    have h2' := setsB_iff.1 h2
    obtain ⟨g1, g2, g3⟩ := insL_ok h1 (h2' x (by simp)) h3
    obtain ⟨q1, q2, q3⟩ := sortL_ok r (insL acc x) g2 (setsB_iff.2 fun y hy => h2' y (by simp [hy])) g1
    refine ⟨q1, q2, fun z => ?_⟩
    rw [sortL, q3 z, g3 z, List.mem_cons]
    exact ⟨fun g => by rcases g with g | g | g <;> simp [g], fun g => by rcases g with (g | g) | g <;> simp [g]⟩
theorem asc_ext {a b : List Int} (ha : AscL a) (hb : AscL b) (h : ∀ z, z ∈ a ↔ z ∈ b) : a = b := by
  have hn : ∀ {l : List Int}, AscL l → l.Nodup := fun hl => hl.imp fun g e => by rw [e] at g; omega
  exact List.Perm.eq_of_pairwise (le := fun x y => br6 x < br6 y) (fun x y _ _ g1 g2 => by omega) ha hb ((List.perm_ext_iff_of_nodup (hn ha) (hn hb)).2 h)
theorem lsortI_asc (a : List Int) : AscL (lsortI a) := by
  have h6 : (lecI 6).Pairwise (fun x y => br6 x < br6 y) := by decide +kernel
  exact h6.filter _
theorem sortL_eq {l : List Int} (h : setsB l = true) : sortL l [] = lsortI l := by
  obtain ⟨h1, h2, h3⟩ := sortL_ok l [] rfl h List.Pairwise.nil
  refine asc_ext h1 (lsortI_asc l) fun z => ?_
  rw [h3 z, lsortI_mem h]
  simp
theorem sortL_len : ∀ (l acc : List Int), (sortL l acc).length ≤ l.length + acc.length
  | [], acc => by simp [sortL]
  | x :: r, acc => by
    have := sortL_len r (insL acc x)
    have h2 : (insL acc x).length ≤ acc.length + 1 := by
      unfold insL
      cases acc.contains x
      · rw [cond_false, List.length_append, List.length_cons]
        have := congrArg List.length (List.takeWhile_append_dropWhile (p := fun y => lecB y x) (l := acc))
        rw [List.length_append] at this
        omega
      · rw [cond_true]; omega
    rw [sortL, List.length_cons]
    omega
/-- The library's stable sort, as it goes. -/
def swp (ys : List Int) (i j : Nat) : List Int := (ys.set i (ys.getD j 0)).set j (ys.getD i 0)
theorem swp_len (ys : List Int) (i j : Nat) : (swp ys i j).length = ys.length := by unfold swp; simp
def ltC (x y : Int) : Bool := decide (cntF x - cntF y < 0)
def downF (a : Nat) : Nat → List Int → List Int
  | 0, ys => ys
  | j + 1, ys => bif decide (a < j + 1) && ltC (ys.getD (j + 1) 0) (ys.getD j 0) then downF a j (swp ys (j + 1) j) else ys
theorem downF_len (a : Nat) : ∀ (j : Nat) (ys : List Int), (downF a j ys).length = ys.length
  | 0, _ => rfl
  | j + 1, ys => by
    rw [downF]
    cases decide (a < j + 1) && ltC (ys.getD (j + 1) 0) (ys.getD j 0)
    · rfl
    · rw [cond_true, downF_len a j, swp_len]
def insFrom (a : Nat) : Nat → Nat → List Int → List Int
  | 0, _, ys => ys
  | d + 1, i, ys => insFrom a d (i + 1) (downF a i ys)
theorem insFrom_len (a : Nat) : ∀ (d i : Nat) (ys : List Int), (insFrom a d i ys).length = ys.length
  | 0, _, _ => rfl
  | d + 1, i, ys => by rw [insFrom, insFrom_len a d, downF_len]
def insSort (ys : List Int) (a b : Nat) : List Int := insFrom a (b - (a + 1)) (a + 1) ys
theorem insSort_len (ys : List Int) (a b : Nat) : (insSort ys a b).length = ys.length := insFrom_len a _ _ _
def swapR : Nat → Nat → Nat → List Int → List Int
  | 0, _, _, ys => ys
  | d + 1, i, j, ys => swapR d (i + 1) (j + 1) (swp ys i j)
theorem swapR_len : ∀ (d i j : Nat) (ys : List Int), (swapR d i j ys).length = ys.length
  | 0, _, _, _ => rfl
  | d + 1, i, j, ys => by rw [swapR, swapR_len d, swp_len]
def rotF (m : Nat) : Nat → Nat → Nat → List Int → List Int
  | 0, _, _, ys => ys
  | d + 1, i, j, ys => bif decide (i = j) then swapR i (m - i) m ys else
      bif decide (i > j) then rotF m d (i - j) j (swapR j (m - i) m ys) else rotF m d i (j - i) (swapR i (m - i) (m + j - i) ys)
theorem rotF_len (m : Nat) : ∀ (d i j : Nat) (ys : List Int), (rotF m d i j ys).length = ys.length
  | 0, _, _, _ => rfl
  | d + 1, i, j, ys => by
    rw [rotF]
    cases decide (i = j)
    · cases decide (i > j)
      · rw [cond_false, cond_false, rotF_len m d, swapR_len]
      · rw [cond_false, cond_true, rotF_len m d, swapR_len]
    · rw [cond_true, swapR_len]
def binF (p : Nat → Bool) : Nat → Nat → Nat → Nat
  | 0, i, _ => i
  | d + 1, i, j => bif decide (i < j) then (bif p ((i + j) / 2) then binF p d ((i + j) / 2 + 1) j else binF p d i ((i + j) / 2)) else i
theorem binF_rng (p : Nat → Bool) : ∀ (d i j : Nat), i ≤ j → i ≤ binF p d i j ∧ binF p d i j ≤ j
  | 0, i, j, h => ⟨Nat.le_refl i, h⟩
  | d + 1, i, j, h => by
    rw [binF]
    by_cases hij : i < j
    · rw [decide_eq_true hij, cond_true]
      cases p ((i + j) / 2)
      · rw [cond_false]
        have := binF_rng p d i ((i + j) / 2) (by omega)
        omega
      · rw [cond_true]
        have := binF_rng p d ((i + j) / 2 + 1) j (by omega)
        omega
    · rw [decide_eq_false hij, cond_false]
      omega
def upF : Nat → Nat → List Int → List Int
  | 0, _, ys => ys
  | d + 1, k, ys => upF d (k + 1) (swp ys k (k + 1))
theorem upF_len : ∀ (d k : Nat) (ys : List Int), (upF d k ys).length = ys.length
  | 0, _, _ => rfl
  | d + 1, k, ys => by rw [upF, upF_len d, swp_len]
def dnF : Nat → Nat → List Int → List Int
  | 0, _, ys => ys
  | d + 1, k, ys => dnF d (k - 1) (swp ys k (k - 1))
theorem dnF_len : ∀ (d k : Nat) (ys : List Int), (dnF d k ys).length = ys.length
  | 0, _, _ => rfl
  | d + 1, k, ys => by rw [dnF, dnF_len d, swp_len]
def midF (a b : Nat) : Nat := (a + b) / 2
def st0F (a m b : Nat) : Nat := bif decide (m > midF a b) then midF a b + m - b else a
def r0F (a m b : Nat) : Nat := bif decide (m > midF a b) then midF a b else m
def stF' (ys : List Int) (a m b : Nat) : Nat := binF (fun c => !ltC (ys.getD (midF a b + m - 1 - c) 0) (ys.getD c 0)) 64 (st0F a m b) (r0F a m b)
def symM : Nat → Nat → Nat → Nat → List Int → List Int
  | 0, _, _, _, ys => ys
  | d + 1, a, m, b, ys =>
    bif decide (m - a = 1) then upF (binF (fun h => ltC (ys.getD h 0) (ys.getD a 0)) 64 m b - 1 - a) a ys else
    bif decide (b - m = 1) then dnF (m - binF (fun h => !ltC (ys.getD m 0) (ys.getD h 0)) 64 a m) m ys else
    (fun (st en : Nat) => (fun y1 => (fun y2 => bif decide (midF a b < en ∧ en < b) then symM d (midF a b) en b y2 else y2)
      (bif decide (a < st ∧ st < midF a b) then symM d a st (midF a b) y1 else y1))
      (bif decide (st < m ∧ m < en) then rotF m 200 (m - st) (en - m) ys else ys)) (stF' ys a m b) (midF a b + m - stF' ys a m b)
theorem symM_len : ∀ (d a m b : Nat) (ys : List Int), (symM d a m b ys).length = ys.length
  | 0, _, _, _, _ => rfl
  | d + 1, a, m, b, ys => by
    rw [symM]
    cases decide (m - a = 1)
    · cases decide (b - m = 1)
      · simp only [cond_false]
        generalize stF' ys a m b = st
        generalize midF a b + m - st = en
        have h1 : (bif decide (st < m ∧ m < en) then rotF m 200 (m - st) (en - m) ys else ys).length = ys.length := by
          cases decide (st < m ∧ m < en)
          · rfl
          · rw [cond_true, rotF_len]
        generalize (bif decide (st < m ∧ m < en) then rotF m 200 (m - st) (en - m) ys else ys) = y1 at h1
        have h2 : (bif decide (a < st ∧ st < midF a b) then symM d a st (midF a b) y1 else y1).length = ys.length := by
          cases decide (a < st ∧ st < midF a b)
          · exact h1
          · rw [cond_true, symM_len d, h1]
        generalize (bif decide (a < st ∧ st < midF a b) then symM d a st (midF a b) y1 else y1) = y2 at h2
        cases decide (midF a b < en ∧ en < b)
        · exact h2
        · rw [cond_true, symM_len d, h2]
      · rw [cond_false, cond_true, dnF_len]
    · rw [cond_true, upF_len]
def blksF (n : Nat) : Nat → Nat → List Int → List Int
  | 0, _, ys => ys
  | d + 1, a, ys => bif decide (a + 20 ≤ n) then blksF n d (a + 20) (insSort ys a (a + 20)) else insSort ys a n
def mrgF (n bs : Nat) : Nat → Nat → List Int → List Int
  | 0, _, ys => ys
  | d + 1, a, ys => bif decide (a + 2 * bs ≤ n) then mrgF n bs d (a + 2 * bs) (symM 6 a (a + bs) (a + 2 * bs) ys) else
      bif decide (a + bs < n) then symM 6 a (a + bs) n ys else ys
def lvlF (n : Nat) : Nat → Nat → List Int → List Int
  | 0, _, ys => ys
  | d + 1, bs, ys => bif decide (bs < n) then lvlF n d (bs * 2) (mrgF n bs 5 0 ys) else ys
def stableF (ys : List Int) : List Int := lvlF ys.length 5 20 (blksF ys.length 5 0 ys)
theorem blksF_len (n : Nat) : ∀ (d a : Nat) (ys : List Int), (blksF n d a ys).length = ys.length
  | 0, _, _ => rfl
  | d + 1, a, ys => by
    rw [blksF]
    cases decide (a + 20 ≤ n)
    · rw [cond_false, insSort_len]
    · rw [cond_true, blksF_len n d, insSort_len]
theorem mrgF_len (n bs : Nat) : ∀ (d a : Nat) (ys : List Int), (mrgF n bs d a ys).length = ys.length
  | 0, _, _ => rfl
  | d + 1, a, ys => by
    rw [mrgF]
    cases decide (a + 2 * bs ≤ n)
    · cases decide (a + bs < n)
      · rfl
      · rw [cond_false, cond_true, symM_len]
    · rw [cond_true, mrgF_len n bs d, symM_len]
def stableN (n : Nat) : List Nat := (stableF (lecI n)).map Int.toNat
theorem stab_all : ∀ n : Fin 7, chkO (stableN n.val) = true ∧ (stableN n.val).all (fun x => decide (x < 2 ^ n.val)) = true ∧ (List.range (2 ^ n.val)).all (fun x => (stableN n.val).contains x) = true ∧ stableF (lecI n.val) = (stableN n.val).map (fun (x : Nat) => (x : Int)) := by decide +kernel
theorem num_all : ∀ n : Fin 7, chkO (List.range (2 ^ n.val)) = true := by decide +kernel
def sumB (f : Nat → Bool) : Nat → Nat → Int → Int
  | 0, _, q => q
  | d + 1, i, q => sumB f d (i + 1) (q + bif f i then 1 else 0)
theorem sumB_le (f : Nat → Bool) : ∀ (d i : Nat) (q : Int), q ≤ sumB f d i q ∧ sumB f d i q ≤ q + d
  | 0, i, q => by simp [sumB]
  | d + 1, i, q => by
    have h := sumB_le f d (i + 1) (q + bif f i then 1 else 0)
    rw [sumB]
    cases hf : f i <;> rw [hf] at h <;> simp only [cond_true, cond_false] at h ⊢ <;> omega
theorem sumB_none (f : Nat → Bool) : ∀ (d i : Nat) (q : Int), (∀ j, i ≤ j → f j = false) → sumB f d i q = q
  | 0, i, q, _ => rfl
  | d + 1, i, q, h => by
    rw [sumB, h i (Nat.le_refl _), cond_false, Int.add_zero]
    exact sumB_none f d (i + 1) q fun j hj => h j (by omega)
theorem sumB_cut (f g : Nat → Bool) (n : Nat) : ∀ (d c i : Nat) (q : Int), i + d = n → (∀ j, j < n → f j = g j) → (∀ j, n ≤ j → g j = false) → sumB g (d + c) i q = sumB f d i q
  | 0, c, i, q, h1, h2, h3 => by
    rw [Nat.zero_add]
    exact sumB_none g c i q fun j hj => h3 j (by omega)
  | d + 1, c, i, q, h1, h2, h3 => by
    rw [show d + 1 + c = (d + c) + 1 by omega, sumB, sumB, ← h2 i (by omega)]
    exact sumB_cut f g n d c (i + 1) _ (by omega) h2 h3
abbrev elC (l : List (Int × Int)) (a : Int) : Int × Int := l.getD a.toNat (0, 0)
def inC (l : List (Int × Int)) (a : Int) : Bool := decide (0 ≤ a ∧ a ≤ (l.length : Int) - 1)
theorem concF_len (m : Int) (b : List Int) : (concF m b).length ≤ 64 := by
  unfold concF
  cases h : isCtx m b with
  | false => simp
  | true =>
    have hl := isCtx_len h
    obtain ⟨h1, h2, h3, h4, h5⟩ := lec_all ⟨m.toNat, by omega⟩
    simp only at h2
    have hpw := pow64 (n := m.toNat) (by omega)
    have := List.length_filter_le (closedI m b) (lecI m.toNat)
    rw [cond_true, List.length_map]
    omega
theorem concF_mem {m : Int} {b : List Int} {p : Int × Int} (h : p ∈ concF m b) : isCtx m b = true ∧ isSet m p.2 = true ∧ isSet b.length p.1 = true ∧ p.1 = extF b p.2 ∧ intentF m b p.1 = p.2 := by
  unfold concF at h
  cases hc : isCtx m b with
  | false => rw [hc] at h; cases h
  | true =>
    rw [hc, cond_true] at h
    obtain ⟨x, hx, rfl⟩ := List.mem_map.1 h
    have hx := List.mem_filter.1 hx
    have hl := isCtx_len hc
    obtain ⟨hs, s, rfl, hlt⟩ := lecI_isSet ⟨by omega, by omega⟩ hx.1
    have hr := isSet_le hs
    refine ⟨rfl, hs, ext_isSet hl.1 (ctx_small hc) (by omega), rfl, ?_⟩
    have := hx.2
    unfold closedI at this
    exact eq_of_beq this
theorem inC_iff {l : List (Int × Int)} {a : Int} : inC l a = true ↔ 0 ≤ a ∧ a < (l.length : Int) := by
  unfold inC
  rw [decide_eq_true_eq]
  omega
theorem concF_at {m : Int} {b : List Int} {a : Int} (h : inC (concF m b) a = true) : isCtx m b = true ∧ isSet m (elC (concF m b) a).2 = true ∧ isSet b.length (elC (concF m b) a).1 = true ∧ (elC (concF m b) a).1 = extF b (elC (concF m b) a).2 ∧ intentF m b (elC (concF m b) a).1 = (elC (concF m b) a).2 := by
  have h := inC_iff.1 h
  exact concF_mem (mem_getD (by omega))
def cofF (m : Int) (b : List Int) (a : Int) : Int × Int := bif inC (concF m b) a then elC (concF m b) a else (0, 0)
def stAt (m : Int) (b : List Int) (p : Int × Int) (s : Nat) : Bool := (band (s : Int) p.1 == (s : Int)) && (intentF m b (s : Int) == p.2)
def stNum (m : Int) (b : List Int) (p : Int × Int) : Int := sumB (stAt m b p) (p.1.toNat + 1) 0 0
def powC (s : Int) : Int := ((2 ^ (cntF s).toNat : Nat) : Int)
theorem cntF_rng (s : Int) : 0 ≤ cntF s ∧ cntF s ≤ 8 := by
  unfold cntF
  have := popF_le 8 s.toNat
  split <;> omega
theorem powC_shl (s : Int) : IntKind.i64.wrap (1 * 2 ^ min (cntF s).toNat IntKind.i64.bits) = powC s := by
  have h := cntF_rng s
  obtain ⟨n, hn⟩ : ∃ n : Nat, cntF s = n := ⟨(cntF s).toNat, by omega⟩
  unfold powC
  rw [hn]
  exact shl1 (by omega)
theorem powC_shlu (s : Int) : IntKind.i64.wrap (1 * 2 ^ min (IntKind.u64.wrap (cntF s)).toNat IntKind.i64.bits) = powC s := by
  have h := cntF_rng s
  rw [wrapu (by omega) (by omega)]
  exact powC_shl s
def stabF (m : Int) (b : List Int) (a : Int) : Int × Int := bif inC (concF m b) a then (stNum m b (elC (concF m b) a), powC (elC (concF m b) a).1) else (0, 0)
def stAt2 (m : Int) (b : List Int) (p : Int × Int) (s : Nat) : Bool := (bnot (s : Int) p.1 == 0) && (intentF m b (s : Int) == p.2)
theorem bnot_sub {s : Nat} {e : Int} (hs : s < 256) : (bnot (s : Int) e == 0) = (band (s : Int) e == (s : Int)) := by
  rw [Bool.eq_iff_iff, beq_iff_eq, beq_iff_eq]
  exact (sub_iff (by omega) (by omega)).symm
theorem stAt_eq {m : Int} {b : List Int} {p : Int × Int} {s : Nat} (hs : s < 256) : stAt2 m b p s = stAt m b p s := by
  unfold stAt2 stAt
  rw [bnot_sub hs]
theorem stAt_big {m : Int} {b : List Int} {p : Int × Int} (hp : 0 ≤ p.1 ∧ p.1 ≤ 255) {s : Nat} (hs : s < 256) (h : p.1.toNat + 1 ≤ s) : stAt m b p s = false := by
  unfold stAt
  have : (band (s : Int) p.1 == (s : Int)) = false := by
    rw [beq_eq_false_iff_ne]
    intro hb
    obtain ⟨n, hn⟩ : ∃ n : Nat, p.1 = n := ⟨p.1.toNat, by omega⟩
    rw [hn] at hb h hp
    rw [band_nat hs (by omega)] at hb
    have h1 : s &&& n ≤ n := Nat.and_le_right
    omega
  rw [this, Bool.false_and]
theorem sumB_grow {f : Nat → Bool} : ∀ (c d i : Nat) (q : Int), (∀ j, i + d ≤ j → j < i + d + c → f j = false) → sumB f (d + c) i q = sumB f d i q
  | 0, d, i, q, _ => rfl
  | c + 1, 0, i, q, h => by
    rw [Nat.zero_add, sumB, sumB, h i (by omega) (by omega), cond_false, Int.add_zero]
    have := sumB_grow (f := f) c 0 (i + 1) q fun j h1 h2 => h j (by omega) (by omega)
    rw [Nat.zero_add] at this
    exact this
  | c + 1, d + 1, i, q, h => by
    rw [show d + 1 + (c + 1) = (d + (c + 1)) + 1 by omega, sumB, sumB]
    exact sumB_grow (c + 1) d (i + 1) _ fun j h1 h2 => h j (by omega) (by omega)
theorem sumB_congr {f g : Nat → Bool} : ∀ (d i : Nat) (q : Int), (∀ j, i ≤ j → j < i + d → f j = g j) → sumB f d i q = sumB g d i q
  | 0, i, q, _ => rfl
  | d + 1, i, q, h => by
    rw [sumB, sumB, h i (Nat.le_refl _) (by omega)]
    exact sumB_congr d (i + 1) _ fun j h1 h2 => h j (by omega) (by omega)
theorem stNum_eq {m : Int} {b : List Int} {p : Int × Int} {n : Nat} (hn : n ≤ 8) (hp : 0 ≤ p.1 ∧ p.1.toNat < 2 ^ n) : sumB (stAt2 m b p) (2 ^ n) 0 0 = stNum m b p := by
  have h2 : 2 ^ n ≤ 2 ^ 8 := Nat.pow_le_pow_right (by omega) hn
  rw [sumB_congr (g := stAt m b p) _ _ _ fun j _ hj => stAt_eq (by omega)]
  obtain ⟨c, hc⟩ : ∃ c, 2 ^ n = p.1.toNat + 1 + c := ⟨2 ^ n - (p.1.toNat + 1), by omega⟩
  rw [hc]
  exact sumB_grow c _ 0 0 fun j h1 h3 => stAt_big ⟨hp.1, by omega⟩ (by omega) (by omega)
def okS (cl : Nat → Nat) (out : List Nat) (s : Nat) : Bool := !(cl s == s) && out.all (fun p => !(p &&& s == p) || (cl p &&& s == cl p))
def okP (cl : Nat → Nat) (out : List Nat) (s : Nat) : Bool := !(cl s == s) && !out.any (fun p => (!(p == s) && (p &&& s == p)) && !(cl p &&& s == cl p))
theorem and_sub {y s : Nat} : (y &&& s == y) = true ↔ SubN y s := by
  rw [beq_iff_eq]
  constructor
  · intro h i hi
    rw [← h, Nat.testBit_and] at hi
    exact (Bool.and_eq_true_iff.1 hi).2
  · intro h
    apply Nat.eq_of_testBit_eq
    intro i
    rw [Nat.testBit_and]
    cases hb : y.testBit i
    · rfl
    · rw [h i hb]; rfl
theorem okS_ok (cl : Nat → Nat) (out : List Nat) (s : Nat) (hs : s ∉ out) : okS cl out s = true ↔ cl s ≠ s ∧ ∀ p ∈ out, p ≠ s → SubN p s → SubN (cl p) s := by
  unfold okS
  rw [Bool.and_eq_true, Bool.not_eq_true', beq_eq_false_iff_ne, List.all_eq_true]
  refine and_congr_right fun _ => ⟨fun g p hp _ hsub => ?_, fun g p hp => ?_⟩
  · have := g p hp
    rw [and_sub.2 hsub, Bool.not_true, Bool.false_or] at this
    exact and_sub.1 this
  · cases hb : p &&& s == p
    · rfl
    · rw [Bool.not_true, Bool.false_or]
      exact and_sub.2 (g p hp (fun e => hs (e ▸ hp)) (and_sub.1 hb))
theorem okP_ok (cl : Nat → Nat) (out : List Nat) (s : Nat) (hs : s ∉ out) : okP cl out s = true ↔ cl s ≠ s ∧ ∀ p ∈ out, p ≠ s → SubN p s → SubN (cl p) s := by
  unfold okP
  rw [Bool.and_eq_true, Bool.not_eq_true', beq_eq_false_iff_ne, Bool.not_eq_true', List.any_eq_false]
  refine and_congr_right fun _ => ⟨fun g p hp hne hsub => ?_, fun g p hp => ?_⟩
  · have := g p hp
    rw [and_sub.2 hsub, beq_eq_false_iff_ne.2 hne] at this
    simp only [Bool.not_false, Bool.and_self, Bool.true_and, Bool.not_eq_true', Bool.not_eq_false] at this
    exact and_sub.1 this
  · cases hb : p &&& s == p
    · simp
    · rw [and_sub.2 (g p hp (fun e => hs (e ▸ hp)) (and_sub.1 hb))]
      simp
theorem greedy_S (cl : Nat → Nat) {n : Nat} (hn : n ≤ 6) : greedy (okS cl) (List.range (2 ^ n)) [] = (List.range (2 ^ n)).filter (psB cl) :=
  order_ps (N := 2 ^ n) (num_all ⟨n, by omega⟩) (fun x hx => List.mem_range.1 hx) (fun x hx => List.mem_range.2 hx) fun out s _ hs _ => okS_ok cl out s hs
theorem stab_mem {n : Nat} (hn : n ≤ 6) (x : Nat) : x ∈ stableN n ↔ x < 2 ^ n := by
  obtain ⟨h1, h2, h3, h4⟩ := stab_all ⟨n, by omega⟩
  simp only [List.all_eq_true, decide_eq_true_eq, List.mem_range, List.contains_iff_mem] at h2 h3
  exact ⟨h2 x, h3 x⟩
theorem greedy_I (cl : Nat → Nat) {n : Nat} (hn : n ≤ 6) : greedy (okP cl) (stableN n) [] = (stableN n).filter (psB cl) :=
  order_ps (N := 2 ^ n) (stab_all ⟨n, by omega⟩).1 (fun x hx => (stab_mem hn x).1 hx) (fun x hx => (stab_mem hn x).2 hx) fun out s _ hs _ => okP_ok cl out s hs
abbrev castN (L : List Nat) : List Int := L.map (fun (x : Nat) => (x : Int))
theorem chkO_nodup : ∀ l : List Nat, chkO l = true → l.Nodup
  | [], _ => List.nodup_nil
  | s :: r, h => by
    rw [chkO, Bool.and_eq_true, List.all_eq_true] at h
    refine List.nodup_cons.2 ⟨fun hs => ?_, chkO_nodup r h.2⟩
    have := h.1 s hs
    rw [Nat.and_self] at this
    simp at this
theorem castN_nodup {L : List Nat} (h : L.Nodup) : (castN L).Nodup := by
  refine List.Pairwise.map _ (fun a b hab e => hab ?_) h
  exact Int.ofNat.inj e
theorem castN_sets {L : List Nat} (h : ∀ x ∈ L, x < 64) : setsB (castN L) = true := by
  rw [setsB_iff]
  intro y hy
  obtain ⟨x, hx, rfl⟩ := List.mem_map.1 hy
  have := h x hx
  omega
theorem lsortI_congr {a b : List Int} (h : ∀ x, x ∈ a ↔ x ∈ b) : lsortI a = lsortI b := by
  unfold lsortI
  refine List.filter_congr fun x _ => ?_
  rw [Bool.eq_iff_iff, List.contains_iff_mem, List.contains_iff_mem, h x]
def stemI (m : Int) (b : List Int) : List Int := lsortI (castN (greedy (okS (clN m b)) (List.range (2 ^ m.toNat)) []))
theorem stem_S (m : Int) (b : List Int) (hm : m.toNat ≤ 6) : sortL (castN (greedy (okS (clN m b)) (List.range (2 ^ m.toNat)) [])) [] = stemI m b := by
  have hp : 2 ^ m.toNat ≤ 2 ^ 6 := Nat.pow_le_pow_right (by omega) hm
  unfold stemI
  rw [greedy_S _ hm]
  exact sortL_eq (castN_sets fun x hx => by have := List.mem_range.1 (List.mem_filter.1 hx).1; omega)
theorem stem_I (m : Int) (b : List Int) (hm : m.toNat ≤ 6) : lsortI (castN (greedy (okP (clN m b)) (stableN m.toNat) [])) = stemI m b := by
  unfold stemI
  rw [greedy_I _ hm, greedy_S _ hm]
  refine lsortI_congr fun x => ?_
  simp only [castN, List.mem_map, List.mem_filter, stab_mem hm, List.mem_range]
theorem greedy_sub (ok : List Nat → Nat → Bool) : ∀ (l out : List Nat), ∀ x ∈ greedy ok l out, x ∈ l ∨ x ∈ out
  | [], out, x, h => .inr h
  | s :: r, out, x, h => by
    rw [greedy] at h
    rcases greedy_sub ok r _ x h with h | h
    · exact .inl (by simp [h])
    · cases hb : ok out s
      · rw [hb, cond_false] at h; exact .inr h
      · rw [hb, cond_true] at h
        rcases List.mem_append.1 h with h | h
        · exact .inr h
        · exact .inl (by simp at h; simp [h])
theorem stemI_sets (m : Int) (b : List Int) : setsB (stemI m b) = true := lsortI_sets _
theorem stemI_len (m : Int) (b : List Int) : (stemI m b).length ≤ 64 := nodup_le (stemI_sets m b) (lsortI_nodup _)
theorem stemI_mem {m : Int} {b : List Int} (hm : m.toNat ≤ 6) {x : Int} (h : x ∈ stemI m b) : 0 ≤ x ∧ x.toNat < 2 ^ m.toNat := by
  have hp : 2 ^ m.toNat ≤ 2 ^ 6 := Nat.pow_le_pow_right (by omega) hm
  unfold stemI at h
  rw [greedy_S _ hm] at h
  rw [lsortI_mem (castN_sets fun x hx => by have := List.mem_range.1 (List.mem_filter.1 hx).1; omega)] at h
  obtain ⟨y, hy, rfl⟩ := List.mem_map.1 h
  have := List.mem_range.1 (List.mem_filter.1 hy).1
  exact ⟨by omega, by rw [Int.toNat_natCast]; exact this⟩
theorem greedy_I_nodup (cl : Nat → Nat) {n : Nat} (hn : n ≤ 6) : (castN (greedy (okP cl) (stableN n) [])).Nodup := by
  rw [greedy_I _ hn]
  exact castN_nodup ((chkO_nodup _ (stab_all ⟨n, by omega⟩).1).filter _)
theorem greedy_I_sets (cl : Nat → Nat) {n : Nat} (hn : n ≤ 6) : setsB (castN (greedy (okP cl) (stableN n) [])) = true := by
  have hp : 2 ^ n ≤ 2 ^ 6 := Nat.pow_le_pow_right (by omega) hn
  rw [greedy_I _ hn]
  exact castN_sets fun x hx => by have := (stab_mem hn x).1 (List.mem_filter.1 hx).1; omega
theorem greedy_S_sets (cl : Nat → Nat) {n : Nat} (hn : n ≤ 6) : setsB (castN (greedy (okS cl) (List.range (2 ^ n)) [])) = true := by
  have hp : 2 ^ n ≤ 2 ^ 6 := Nat.pow_le_pow_right (by omega) hn
  exact castN_sets fun x hx => by
    rcases greedy_sub _ _ _ x hx with h | h
    · have := List.mem_range.1 h; omega
    · cases h
theorem greedy_len (ok : List Nat → Nat → Bool) : ∀ (l out : List Nat), (greedy ok l out).length ≤ l.length + out.length
  | [], out => by simp [greedy]
  | s :: r, out => by
    have := greedy_len ok r (bif ok out s then out ++ [s] else out)
    rw [greedy, List.length_cons]
    cases hb : ok out s
    · rw [hb, cond_false] at this; rw [cond_false]; omega
    · rw [hb, cond_true, List.length_append, List.length_singleton] at this; rw [cond_true]; omega
def stemR (m : Int) (b : List Int) : List (Int × Int) := (stemI m b).map (fun s => (s, intentF m b (extF b s)))
theorem nodup_noAdj : ∀ l : List Int, l.Nodup → noAdj l = true
  | [], _ => rfl
  | [a], _ => rfl
  | a :: b :: r, h => by
    have h1 := List.nodup_cons.1 h
    unfold noAdj
    rw [nodup_noAdj (b :: r) h1.2, Bool.and_true, bne_iff_ne]
    exact fun e => h1.1 (by rw [e]; simp)
def clI (m : Int) (b : List Int) (s : Int) : Int := bif isCtx m b && isSet m s then intentF m b (extF b s) else 0
def badP (m : Int) (b : List Int) (s p : Int) : Bool := ((p != s) && (bnot p s == 0)) && !(bnot (clI m b p) s == 0)
theorem set_of_lt {m : Int} {b : List Int} (h : isCtx m b = true) {s : Nat} (hs : s < 2 ^ m.toNat) : isSet m (s : Int) = true := by
  have hl := isCtx_len h
  unfold isSet
  refine dt ⟨by omega, by omega, ?_⟩
  have e2 : ((2 ^ m.toNat : Nat) : Int) = (2 : Int) ^ m.toNat := by push_cast; rfl
  omega
theorem clI_nat {m : Int} {b : List Int} (h : isCtx m b = true) {s : Nat} (hs : s < 2 ^ m.toNat) : clI m b (s : Int) = ((clN m b s : Nat) : Int) := by
  have hl := isCtx_len h
  have h6 : 2 ^ m.toNat ≤ 2 ^ 6 := Nat.pow_le_pow_right (by omega) (by omega)
  unfold clI
  rw [h, set_of_lt h hs, Bool.and_self, cond_true, clN_int h (by omega)]
theorem badP_nat {m : Int} {b : List Int} (h : isCtx m b = true) {s p : Nat} (hs : s < 2 ^ m.toNat) (hp : p < 2 ^ m.toNat) : badP m b (s : Int) (p : Int) = ((!(p == s) && (p &&& s == p)) && !(clN m b p &&& s == clN m b p)) := by
  have hl := isCtx_len h
  have h6 : 2 ^ m.toNat ≤ 2 ^ 6 := Nat.pow_le_pow_right (by omega) (by omega)
  have hc := (cl_clo h).lt p hp
  have hb : ∀ x y : Nat, x < 256 → y < 256 → (bnot (x : Int) (y : Int) == 0) = (x &&& y == x) := by
    intro x y hx hy
    rw [bnot_sub hx, band_nat hx hy, Bool.eq_iff_iff, beq_iff_eq, beq_iff_eq]
    omega
  unfold badP
  rw [clI_nat h hp, hb p s (by omega) (by omega), hb _ s (by omega) (by omega)]
  congr 2
  rw [bne, Bool.eq_iff_iff]
  simp only [Bool.not_eq_true', beq_eq_false_iff_ne, ne_eq]
  omega
theorem any_bad {m : Int} {b : List Int} (h : isCtx m b = true) {s : Nat} (hs : s < 2 ^ m.toNat) : ∀ L : List Nat, (∀ x ∈ L, x < 2 ^ m.toNat) → (castN L).any (badP m b (s : Int)) = L.any (fun p => (!(p == s) && (p &&& s == p)) && !(clN m b p &&& s == clN m b p))
  | [], _ => rfl
  | p :: L, hL => by
    have ih := any_bad h hs L fun x hx => hL x (by simp [hx])
    unfold castN at ih ⊢
    rw [List.map_cons, List.any_cons, List.any_cons, ih, badP_nat h hs (hL p (by simp))]
def fineP (m : Int) (b : List Int) (s y : Int) : Bool := (band y s != y) || (band (intentF m b (extF b y)) s == intentF m b (extF b y))
theorem all_fine {m : Int} {b : List Int} (h : isCtx m b = true) {s : Nat} (hs : s < 2 ^ m.toNat) : ∀ L : List Nat, (∀ x ∈ L, x < 2 ^ m.toNat) → (castN L).all (fineP m b (s : Int)) = L.all (fun p => !(p &&& s == p) || (clN m b p &&& s == clN m b p))
  | [], _ => rfl
  | p :: L, hL => by
    have ih := all_fine h hs L fun x hx => hL x (by simp [hx])
    have hl := isCtx_len h
    have h6 : 2 ^ m.toNat ≤ 2 ^ 6 := Nat.pow_le_pow_right (by omega) (by omega)
    have hp := hL p (by simp)
    have hc := (cl_clo h).lt p hp
    unfold castN at ih ⊢
    rw [List.map_cons, List.all_cons, List.all_cons, ih]
    congr 1
    unfold fineP
    rw [clN_int h (by omega), band_nat (by omega) (by omega), band_nat (by omega) (by omega)]
    congr 1
    · rw [bne, Bool.eq_iff_iff]
      simp only [Bool.not_eq_true', beq_eq_false_iff_ne, ne_eq]
      omega
    · rw [Bool.eq_iff_iff, beq_iff_eq, beq_iff_eq]
      omega
theorem bs_all : ∀ x y : Fin 64, x ≠ y → (band (y.val : Int) (band (bxor (x.val : Int) (y.val : Int)) (IntKind.i64.wrap (-(bxor (x.val : Int) (y.val : Int))))) != 0) = lecB (x.val : Int) (y.val : Int) := by decide +kernel
theorem bnotSub {p s : Int} (hp : 0 ≤ p ∧ p ≤ 255) (hs : 0 ≤ s ∧ s ≤ 255) : (bnot p s == 0) = true ↔ SubN p.toNat s.toNat := by
  obtain ⟨p, rfl⟩ : ∃ n : Nat, p = n := ⟨p.toNat, by omega⟩
  obtain ⟨s, rfl⟩ : ∃ n : Nat, s = n := ⟨s.toNat, by omega⟩
  rw [bnot_sub (by omega), beq_iff_eq, band_nat (by omega) (by omega), Int.toNat_natCast, Int.toNat_natCast, ← and_sub, beq_iff_eq]
  omega
theorem bandSub {p s : Int} (hp : 0 ≤ p ∧ p ≤ 255) (hs : 0 ≤ s ∧ s ≤ 255) : (band p s == p) = true ↔ SubN p.toNat s.toNat := by
  rw [← bnotSub hp hs]
  obtain ⟨p, rfl⟩ : ∃ n : Nat, p = n := ⟨p.toNat, by omega⟩
  rw [bnot_sub (by omega)]
theorem borSet {x y : Int} (hx : 0 ≤ x ∧ x ≤ 255) (hy : 0 ≤ y ∧ y ≤ 255) : (0 ≤ bor x y ∧ bor x y ≤ 255) ∧ (bor x y).toNat = x.toNat ||| y.toNat := by
  obtain ⟨x, rfl⟩ : ∃ n : Nat, x = n := ⟨x.toNat, by omega⟩
  obtain ⟨y, rfl⟩ : ∃ n : Nat, y = n := ⟨y.toNat, by omega⟩
  rw [bor_nat (by omega) (by omega)]
  have h : x ||| y < 2 ^ 8 := Nat.or_lt_two_pow (by omega) (by omega)
  exact ⟨⟨by omega, by omega⟩, rfl⟩
theorem sub_refl (x : Nat) : SubN x x := fun _ h => h
theorem sub_trans {x y z : Nat} (h : SubN x y) (g : SubN y z) : SubN x z := fun i hi => g i (h i hi)
theorem sub_anti {x y : Nat} (h : SubN x y) (g : SubN y x) : x = y := by
  apply Nat.eq_of_testBit_eq
  intro i
  rw [Bool.eq_iff_iff]
  exact ⟨h i, g i⟩
theorem sub_or {x y z : Nat} : SubN (x ||| y) z ↔ SubN x z ∧ SubN y z := by
  constructor
  · intro h
    exact ⟨fun i hi => h i (by rw [Nat.testBit_or, hi, Bool.true_or]), fun i hi => h i (by rw [Nat.testBit_or, hi, Bool.or_true])⟩
  · rintro ⟨h, g⟩ i hi
    rw [Nat.testBit_or, Bool.or_eq_true] at hi
    exact hi.elim (h i) (g i)
theorem sub_or_l (x y : Nat) : SubN x (x ||| y) := fun i hi => by rw [Nat.testBit_or, hi, Bool.true_or]
theorem sub_or_r (x y : Nat) : SubN y (x ||| y) := fun i hi => by rw [Nat.testBit_or, hi, Bool.or_true]
theorem sub_leN {x y : Nat} (h : SubN x y) : x ≤ y := by
  have := and_sub.2 h
  rw [beq_iff_eq] at this
  rw [← this]
  exact Nat.and_le_right
theorem sub_ltN {x y : Nat} (h : SubN x y) (hn : x ≠ y) : x < y := by
  have := sub_leN h
  omega
def RSet (R : List (Int × Int)) : Prop := ∀ r ∈ R, (0 ≤ r.1 ∧ r.1 ≤ 255) ∧ (0 ≤ r.2 ∧ r.2 ≤ 255)
theorem RSet_bad {R : List (Int × Int)} (h : RSet R) : R.any badR = false := by
  rw [List.any_eq_false]
  intro r hr
  have := h r hr
  unfold badR
  rw [isSet8, isSet8, dt this.1, dt this.2]
  decide
theorem RSet_of {R : List (Int × Int)} (h : R.any badR = false) : RSet R := by
  rw [List.any_eq_false] at h
  intro r hr
  have := h r hr
  unfold badR at this
  rw [isSet8, isSet8] at this
  simpa using this
def oneL (s : Int) : List (Int × Int) → Int → Int
  | [], acc => acc
  | r :: R, acc => oneL s R (bif bnot r.1 s == 0 then bor acc r.2 else acc)
def iterR (R : List (Int × Int)) : Nat → Int → Int
  | 0, s => s
  | d + 1, s => bif oneL s R s == s then s else iterR R d (oneL s R s)
def clR (R : List (Int × Int)) (s : Int) : Int := iterR R 256 s
def Resp (R : List (Int × Int)) (t : Nat) : Prop := ∀ r ∈ R, SubN r.1.toNat t → SubN r.2.toNat t
structure IsCl (R : List (Int × Int)) (s c : Int) : Prop where
  rng : 0 ≤ c ∧ c ≤ 255
  ext : SubN s.toNat c.toNat
  resp : Resp R c.toNat
  least : ∀ t, SubN s.toNat t → Resp R t → SubN c.toNat t
theorem IsCl.uniq {R : List (Int × Int)} {s c c' : Int} (h : IsCl R s c) (g : IsCl R s c') : c = c' := by
  have := sub_anti (h.least _ g.ext g.resp) (g.least _ h.ext h.resp)
  have h1 := h.rng
  have h2 := g.rng
  omega
theorem oneL_spec {s : Int} (hs : 0 ≤ s ∧ s ≤ 255) : ∀ (R : List (Int × Int)) (acc : Int), RSet R → (0 ≤ acc ∧ acc ≤ 255) →
    (0 ≤ oneL s R acc ∧ oneL s R acc ≤ 255) ∧ SubN acc.toNat (oneL s R acc).toNat ∧ (∀ r ∈ R, SubN r.1.toNat s.toNat → SubN r.2.toNat (oneL s R acc).toNat) ∧
    ∀ t, SubN acc.toNat t → (∀ r ∈ R, SubN r.1.toNat s.toNat → SubN r.2.toNat t) → SubN (oneL s R acc).toNat t
  | [], acc, _, ha => ⟨ha, sub_refl _, fun r hr => (by cases hr), fun t h _ => h⟩
  | r :: R, acc, hR, ha => by
    have hr := hR r (by simp)
    have hR' : RSet R := fun x hx => hR x (by simp [hx])
    have hb := borSet ha hr.2
    rw [oneL]
    cases hq : bnot r.1 s == 0 with
    | true =>
      rw [cond_true]
      have hq' := (bnotSub hr.1 hs).1 hq
      obtain ⟨h1, h2, h3, h4⟩ := oneL_spec hs R _ hR' hb.1
      rw [hb.2] at h2 h4
      refine ⟨h1, sub_trans (sub_or_l _ _) h2, fun x hx hsub => ?_, fun t g1 g2 => ?_⟩
      · rcases List.mem_cons.1 hx with rfl | hx
        · exact sub_trans (sub_or_r _ _) h2
        · exact h3 x hx hsub
      · exact h4 t (sub_or.2 ⟨g1, g2 r (by simp) hq'⟩) fun x hx => g2 x (by simp [hx])
    | false =>
      rw [cond_false]
      have hq' : ¬ SubN r.1.toNat s.toNat := fun h => by rw [(bnotSub hr.1 hs).2 h] at hq; cases hq
      obtain ⟨h1, h2, h3, h4⟩ := oneL_spec hs R _ hR' ha
      refine ⟨h1, h2, fun x hx hsub => ?_, fun t g1 g2 => h4 t g1 fun x hx => g2 x (by simp [hx])⟩
      rcases List.mem_cons.1 hx with rfl | hx
      · exact absurd hsub hq'
      · exact h3 x hx hsub
theorem iterR_spec {R : List (Int × Int)} (hR : RSet R) : ∀ (d : Nat) (s : Int), (0 ≤ s ∧ s ≤ 255) → 256 ≤ d + s.toNat → IsCl R s (iterR R d s)
  | 0, s, hs, hd => by omega
  | d + 1, s, hs, hd => by
    obtain ⟨h1, h2, h3, h4⟩ := oneL_spec hs R s hR hs
    rw [iterR]
    cases hq : oneL s R s == s with
    | true =>
      rw [cond_true]
      have hq : oneL s R s = s := by simpa using hq
      rw [hq] at h3
      exact ⟨hs, sub_refl _, h3, fun t h _ => h⟩
    | false =>
      rw [cond_false]
      have hq : oneL s R s ≠ s := by simpa using hq
      have hlt := sub_ltN h2 (by omega)
      have ih := iterR_spec hR d (oneL s R s) h1 (by omega)
      refine ⟨ih.rng, sub_trans h2 ih.ext, ih.resp, fun t g1 g2 => ih.least t (h4 t g1 fun r hr hsub => g2 r hr (sub_trans hsub g1)) g2⟩
theorem clR_is {R : List (Int × Int)} (hR : RSet R) {s : Int} (hs : 0 ≤ s ∧ s ≤ 255) : IsCl R s (clR R s) := iterR_spec hR 256 s hs (by omega)
/-- The reference's way: a pass that writes as it goes. -/
def passL : List (Int × Int) → Int × Bool → Int × Bool
  | [], p => p
  | r :: R, p => passL R (bif (band r.1 p.1 == r.1) && (band r.2 p.1 != r.2) then (bor p.1 r.2, true) else p)
def iterP (R : List (Int × Int)) : Nat → Int → Int
  | 0, s => s
  | d + 1, s => bif (passL R (s, false)).2 then iterP R d (passL R (s, false)).1 else (passL R (s, false)).1
theorem passL_spec : ∀ (R : List (Int × Int)) (s : Int) (f : Bool), RSet R → (0 ≤ s ∧ s ≤ 255) →
    (0 ≤ (passL R (s, f)).1 ∧ (passL R (s, f)).1 ≤ 255) ∧ SubN s.toNat (passL R (s, f)).1.toNat ∧ (∀ t, SubN s.toNat t → Resp R t → SubN (passL R (s, f)).1.toNat t) ∧
    ((passL R (s, f)).2 = true → f = true ∨ s.toNat < (passL R (s, f)).1.toNat) ∧ ((passL R (s, f)).2 = false → f = false ∧ (passL R (s, f)).1 = s ∧ Resp R s.toNat)
  | [], s, f, _, hs => ⟨hs, sub_refl _, fun t h _ => h, fun h => .inl h, fun h => ⟨h, rfl, fun r hr => by cases hr⟩⟩
  | r :: R, s, f, hR, hs => by
    have hr := hR r (by simp)
    have hR' : RSet R := fun x hx => hR x (by simp [hx])
    have hb := borSet hs hr.2
    have e1 := bandSub hr.1 hs
    have e2 := bandSub hr.2 hs
    rw [passL]
    dsimp only
    cases hq : (band r.1 s == r.1) && (band r.2 s != r.2) with
    | true =>
      rw [cond_true]
      rw [Bool.and_eq_true, bne, Bool.not_eq_true'] at hq
      have q1 := e1.1 hq.1
      have q2 : ¬ SubN r.2.toNat s.toNat := fun h => by rw [e2.2 h] at hq; exact absurd hq.2 (by decide)
      obtain ⟨h1, h2, h3, h4, h5⟩ := passL_spec R (bor s r.2) true hR' hb.1
      rw [hb.2] at h2 h3
      have hlt : s.toNat < s.toNat ||| r.2.toNat := sub_ltN (sub_or_l _ _) fun e => q2 (by have := sub_or_r s.toNat r.2.toNat; rw [← e] at this; exact this)
      have hle := sub_leN h2
      refine ⟨h1, sub_trans (sub_or_l _ _) h2, fun t g1 g2 => h3 t (sub_or.2 ⟨g1, g2 r (by simp) (sub_trans q1 g1)⟩) fun x hx => g2 x (by simp [hx]), fun _ => .inr (by omega), fun h => ?_⟩
      exact absurd (h5 h).1 (by decide)
    | false =>
      rw [cond_false]
      obtain ⟨h1, h2, h3, h4, h5⟩ := passL_spec R s f hR' hs
      refine ⟨h1, h2, fun t g1 g2 => h3 t g1 fun x hx => g2 x (by simp [hx]), h4, fun h => ?_⟩
      obtain ⟨g1, g2, g3⟩ := h5 h
      refine ⟨g1, g2, fun x hx hsub => ?_⟩
      rcases List.mem_cons.1 hx with rfl | hx
      · rw [e1.2 hsub, Bool.true_and, bne, Bool.not_eq_false'] at hq
        exact e2.1 hq
      · exact g3 x hx hsub
theorem iterP_spec {R : List (Int × Int)} (hR : RSet R) : ∀ (d : Nat) (s : Int), (0 ≤ s ∧ s ≤ 255) → 256 ≤ d + s.toNat → IsCl R s (iterP R d s)
  | 0, s, hs, hd => by omega
  | d + 1, s, hs, hd => by
    obtain ⟨h1, h2, h3, h4, h5⟩ := passL_spec R s false hR hs
    rw [iterP]
    cases hq : (passL R (s, false)).2 with
    | true =>
      rw [cond_true]
      have hlt : s.toNat < (passL R (s, false)).1.toNat := (h4 hq).elim (fun h => by cases h) id
      have ih := iterP_spec hR d _ h1 (by omega)
      exact ⟨ih.rng, sub_trans h2 ih.ext, ih.resp, fun t g1 g2 => ih.least t (h3 t g1 g2) g2⟩
    | false =>
      rw [cond_false]
      obtain ⟨_, e, g⟩ := h5 hq
      rw [e]
      exact ⟨hs, sub_refl _, g, fun t h _ => h⟩
theorem iterP_clR {R : List (Int × Int)} (hR : RSet R) {s : Int} (hs : 0 ≤ s ∧ s ≤ 255) : iterP R 256 s = clR R s := (iterP_spec hR 256 s hs (by omega)).uniq (clR_is hR hs)
theorem clR_fix {R : List (Int × Int)} (hR : RSet R) {s : Int} (hs : 0 ≤ s ∧ s ≤ 255) : (clR R s == s) = true ↔ Resp R s.toNat := by
  have h := clR_is hR hs
  rw [beq_iff_eq]
  constructor
  · intro e
    have := h.resp
    rw [e] at this
    exact this
  · intro g
    have := sub_anti (h.least _ (sub_refl _) g) h.ext
    have h1 := h.rng
    omega
theorem lecN_br {x y : Nat} (hx : x < 64) (hy : y < 64) : lecN x y = decide (brev 6 x < brev 6 y) := by
  have h := lecB_br (x := (x : Int)) (y := (y : Int)) (by omega) (by omega)
  unfold lecB at h
  have e1 : isSet 8 (x : Int) = true := by rw [isSet8]; exact dt (by omega)
  have e2 : isSet 8 (y : Int) = true := by rw [isSet8]; exact dt (by omega)
  rw [e1, e2] at h
  exact h
theorem brev_lt6 : ∀ x : Fin 64, brev 6 x.val < 64 := by decide +kernel
theorem lecN_trans {x y z : Nat} (hx : x < 64) (hy : y < 64) (hz : z < 64) (h : lecN x y = true) (g : lecN y z = true) : lecN x z = true := by
  rw [lecN_br hx hy] at h
  rw [lecN_br hy hz] at g
  rw [lecN_br hx hz]
  have h := ofd h
  have g := ofd g
  exact dt (by omega)
theorem lecN_asym {x y : Nat} (hx : x < 64) (hy : y < 64) (h : lecN x y = true) (g : lecN y x = true) : False := by
  rw [lecN_br hx hy] at h
  rw [lecN_br hy hx] at g
  have h := ofd h
  have g := ofd g
  omega
theorem lecN_tri {x y : Nat} (hx : x < 64) (hy : y < 64) (hn : x ≠ y) : lecN x y = true ∨ lecN y x = true := by
  rw [lecN_br hx hy, lecN_br hy hx]
  have := fun h => br6_inj (x := (x : Int)) (y := (y : Int)) (by omega) (by omega) h
  unfold br6 at this
  rw [Int.toNat_natCast, Int.toNat_natCast] at this
  rcases Nat.lt_trichotomy (brev 6 x) (brev 6 y) with h | h | h
  · exact .inl (dt h)
  · have := this h; omega
  · exact .inr (dt h)
def MinP (P : Nat → Bool) (S : Nat → Prop) : Option Nat → Prop
  | none => ∀ t, S t → P t = false
  | some y => S y ∧ P y = true ∧ ∀ t, S t → P t = true → t = y ∨ lecN y t = true
theorem MinP.uniq {P : Nat → Bool} {S : Nat → Prop} (hS : ∀ t, S t → t < 64) : ∀ {b c : Option Nat}, MinP P S b → MinP P S c → b = c
  | none, none, _, _ => rfl
  | none, some y, h, g => by
    have := h y g.1
    rw [g.2.1] at this
    cases this
  | some y, none, g, h => by
    have := h y g.1
    rw [g.2.1] at this
    cases this
  | some x, some y, h, g => by
    rcases h.2.2 y g.1 g.2.1 with e | e
    · rw [e]
    · rcases g.2.2 x h.1 h.2.1 with e' | e'
      · rw [e']
      · exact (lecN_asym (hS _ h.1) (hS _ g.1) e e').elim
def nmS (P : Nat → Bool) : Nat → Nat → Option Nat → Option Nat
  | 0, _, b => b
  | d + 1, t, b => nmS P d (t + 1) (bif P t && (match b with | none => true | some y => lecN t y) then some t else b)
theorem nmS_min (P : Nat → Bool) {N : Nat} (hN : N ≤ 64) : ∀ (d t : Nat) (b : Option Nat), t + d = N → MinP P (fun x => x < t) b → MinP P (fun x => x < N) (nmS P d t b)
  | 0, t, b, h, hb => by
    have : t = N := by omega
    subst this
    exact hb
  | d + 1, t, b, h, hb => by
    show MinP P (fun x => x < N) (nmS P d (t + 1) _)
    refine nmS_min P hN d (t + 1) _ (by omega) ?_
    cases hP : P t with
    | false =>
      rw [Bool.false_and, cond_false]
      have hcase : ∀ x, x < t + 1 → P x = true → x < t := fun x hx hp => by
        by_cases e : x = t
        · rw [e, hP] at hp; cases hp
        · omega
      cases b with
      | none =>
        intro x hx
        cases hq : P x
        · rfl
        · rw [hb x (hcase x hx hq)] at hq; cases hq
      | some y => exact ⟨by have := hb.1; omega, hb.2.1, fun x hx hp => hb.2.2 x (hcase x hx hp) hp⟩
    | true =>
      rw [Bool.true_and]
      cases b with
      | none =>
        refine ⟨by omega, hP, fun x hx hp => ?_⟩
        by_cases e : x = t
        · exact .inl e
        · have := hb x (by omega)
          rw [hp] at this
          cases this
      | some y =>
        obtain ⟨b1, b2, b3⟩ := hb
        dsimp only
        cases hl : lecN t y with
        | true =>
          rw [cond_true]
          refine ⟨by omega, hP, fun x hx hp => ?_⟩
          by_cases e : x = t
          · exact .inl e
          · rcases b3 x (by omega) hp with e' | e'
            · rw [e']; exact .inr hl
            · exact .inr (lecN_trans (by omega) (by omega) (by omega) hl e')
        | false =>
          rw [cond_false]
          refine ⟨by omega, b2, fun x hx hp => ?_⟩
          by_cases e : x = t
          · rcases lecN_tri (x := t) (y := y) (by omega) (by omega) (by omega) with h1 | h1
            · rw [h1] at hl; cases hl
            · rw [e]; exact .inr h1
          · exact b3 x (by omega) hp
theorem find_min (P : Nat → Bool) {n : Nat} (hn : n ≤ 6) : MinP P (fun x => x < 2 ^ n) ((lecL n).find? P) := by
  obtain ⟨hch, _, _⟩ := chain_all ⟨n, by omega⟩
  have hch : chainB (lecL n) = true := hch
  cases hf : (lecL n).find? P with
  | none =>
    intro t ht
    have := List.find?_eq_none.1 hf t ((lecL_mem hn).2 ht)
    simpa using this
  | some y =>
    obtain ⟨hy, u, v, huv, hu⟩ := List.find?_eq_some_iff_append.1 hf
    have hmem : ∀ x, x ∈ u ++ y :: v ↔ x < 2 ^ n := fun x => by rw [← huv]; exact lecL_mem hn
    rw [huv] at hch
    obtain ⟨_, c2, _⟩ := chainB_mid u y v hch
    refine ⟨(hmem y).1 (by simp), hy, fun t ht hp => ?_⟩
    rcases List.mem_append.1 ((hmem t).2 ht) with h | h
    · have := hu t h
      rw [hp] at this
      cases this
    · rcases List.mem_cons.1 h with e | h
      · exact .inl e
      · exact .inr (c2 t h)
def modB (R : List (Int × Int)) (a t : Nat) : Bool := lecN a t && (clR R (t : Int) == (t : Int))
def nmO (n : Nat) (R : List (Int × Int)) (a : Nat) : Option Nat := (lecL n).find? (modB R a)
theorem nmO_eq {n : Nat} (hn : n ≤ 6) (R : List (Int × Int)) (a : Nat) : nmS (modB R a) (2 ^ n) 0 none = nmO n R a := by
  have hp := pow64 hn
  refine MinP.uniq (S := fun x => x < 2 ^ n) (fun t ht => by omega) (nmS_min _ hp.2 _ _ _ (by omega) ?_) (find_min _ hn)
  intro t ht
  omega
def nmV (n : Nat) (R : List (Int × Int)) (a : Nat) : Nat := (nmO n R a).getD 0
theorem nmO_some {n : Nat} (hn : n ≤ 6) {R : List (Int × Int)} (hR : RSet R) {a x : Nat} (h : nmO n R a = some x) : x < 2 ^ n ∧ lecN a x = true ∧ Resp R x := by
  have hp := pow64 hn
  have := find_min (modB R a) hn
  unfold nmO at h
  rw [h] at this
  obtain ⟨h1, h2, _⟩ := this
  have h2' := Bool.and_eq_true_iff.1 h2
  refine ⟨h1, h2'.1, ?_⟩
  have := (clR_fix hR (s := (x : Int)) (by omega)).1 h2'.2
  rwa [Int.toNat_natCast] at this
theorem sub_full {n s : Nat} (h : s < 2 ^ n) : SubN s (2 ^ n - 1) := by
  intro i hi
  rw [Nat.testBit_two_pow_sub_one]
  refine decide_eq_true ?_
  rcases Nat.lt_or_ge i n with h' | h'
  · exact h'
  · rw [Nat.testBit_lt_two_pow (Nat.lt_of_lt_of_le h (Nat.pow_le_pow_right (by omega) h'))] at hi
    cases hi
theorem nmO_full {n : Nat} (hn : n ≤ 6) {R : List (Int × Int)} (hR : RSet R) (h2 : ∀ r ∈ R, r.2.toNat < 2 ^ n) {a : Nat} (ha : a < 2 ^ n) (hne : a ≠ 2 ^ n - 1) : ∃ x, nmO n R a = some x := by
  have hp := pow64 hn
  cases h : nmO n R a with
  | some x => exact ⟨x, rfl⟩
  | none =>
    have := find_min (modB R a) hn
    unfold nmO at h
    rw [h] at this
    have := this (2 ^ n - 1) (by omega)
    unfold modB at this
    have e1 : lecN a (2 ^ n - 1) = true := by
      rcases sub_le hn ha (show 2 ^ n - 1 < 2 ^ n by omega) (sub_full ha) with e | e
      · exact absurd e hne
      · exact (lecN_iff (by omega) (by omega)).2 e
    have e2 : (clR R ((2 ^ n - 1 : Nat) : Int) == ((2 ^ n - 1 : Nat) : Int)) = true := by
      rw [clR_fix hR (by omega)]
      intro r hr _
      rw [Int.toNat_natCast]
      exact sub_full (h2 r hr)
    rw [e1, e2] at this
    cases this
theorem nodup_sub : ∀ (l1 l2 : List Int), l1.Nodup → (∀ x ∈ l1, x ∈ l2) → l1.length ≤ l2.length
  | [], _, _, _ => Nat.zero_le _
  | x :: r, l2, hn, h => by
    have hn' := List.nodup_cons.1 hn
    have hx := h x (by simp)
    have := nodup_sub r (l2.erase x) hn'.2 fun y hy => by
      have hne : y ≠ x := fun e => hn'.1 (e ▸ hy)
      exact (List.mem_erase_of_ne hne).2 (h y (by simp [hy]))
    rw [List.length_erase_of_mem hx] at this
    have hp : 0 < l2.length := List.length_pos_of_mem hx
    rw [List.length_cons]
    omega
theorem nodup_bound {N : Nat} (l : List Nat) (hn : l.Nodup) (h : ∀ x ∈ l, x < N) : l.length ≤ N := by
  have h1 : (l.map fun (x : Nat) => (x : Int)).Nodup := castN_nodup hn
  have := nodup_sub (l.map fun (x : Nat) => (x : Int)) ((List.range N).map fun (x : Nat) => (x : Int)) h1 fun y hy => by
    obtain ⟨x, hx, rfl⟩ := List.mem_map.1 hy
    exact List.mem_map.2 ⟨x, List.mem_range.2 (h x hx), rfl⟩
  simpa using this
abbrev QL := List ((Int × Int) × Bool × Int)
def cexB (a b row : Int) : Bool := (bnot a row == 0) && !(bnot b row == 0)
def cexF (B : List Int) (a b : Int) : Int := firstI (cexB a b) B 0
theorem firstI_spec {α : Type} (p : α → Bool) (z : α) : ∀ (l : List α) (i : Int), 0 ≤ i → (firstI p l i = -1 ∧ l.any p = false) ∨ ∃ j : Nat, j < l.length ∧ firstI p l i = i + j ∧ p (l.getD j z) = true
  | [], i, _ => .inl ⟨rfl, rfl⟩
  | x :: r, i, hi => by
    rw [firstI, List.any_cons]
    cases hx : p x with
    | true => exact .inr ⟨0, by simp, by simp, by simpa using hx⟩
    | false =>
      rw [cond_false, Bool.false_or]
      rcases firstI_spec p z r (i + 1) (by omega) with h | ⟨j, h1, h2, h3⟩
      · exact .inl h
      · exact .inr ⟨j + 1, by simpa using h1, by omega, by simpa using h3⟩
def exR (m : Int) (B : List Int) : Nat → Nat → List Int → List (Int × Int) → QL → List Int × List (Int × Int) × QL
  | 0, _, ex, R, Q => (ex, R, Q)
  | d + 1, a, ex, R, Q =>
    bif (a : Int) == fullSet m then (ex, R, Q)
    else bif (a : Int) == ((clN m ex a : Nat) : Int) then exR m B d (nmV m.toNat R a) ex R Q
    else bif decide (cexF B a (clN m ex a : Nat) ≥ 0) then exR m B d a (ex ++ [B.getD (cexF B a (clN m ex a : Nat)).toNat 0]) R (Q ++ [(((a : Int), ((clN m ex a : Nat) : Int)), false, cexF B a (clN m ex a : Nat))])
    else exR m B d (nmV m.toNat (R ++ [((a : Int), ((clN m ex a : Nat) : Int))]) a) ex (R ++ [((a : Int), ((clN m ex a : Nat) : Int))]) (Q ++ [(((a : Int), ((clN m ex a : Nat) : Int)), true, -1)])
theorem full_nat {m : Int} (h0 : 0 ≤ m) (h6 : m ≤ 6) : fullSet m = ((2 ^ m.toNat - 1 : Nat) : Int) := by
  have h : m = 0 ∨ m = 1 ∨ m = 2 ∨ m = 3 ∨ m = 4 ∨ m = 5 ∨ m = 6 := by omega
  rcases h with rfl | rfl | rfl | rfl | rfl | rfl | rfl <;> decide
structure ExI (m : Int) (B : List Int) (a : Nat) (ex : List Int) (R : List (Int × Int)) : Prop where
  ctx : isCtx m B = true
  lt : a < 2 ^ m.toNat
  nod : ex.Nodup
  sub : ∀ x ∈ ex, x ∈ B
  rl : ∀ r ∈ R, ∃ p : Nat, r = ((p : Int), ((clN m B p : Nat) : Int)) ∧ p < 2 ^ m.toNat ∧ clN m B p ≠ p ∧ lecN p a = true
  resp : Resp R a
  ord : R.Pairwise (fun r s => lecN r.1.toNat s.1.toNat = true ∧ (SubN r.1.toNat s.1.toNat → SubN r.2.toNat s.1.toNat))
theorem ExI.start {m : Int} {B : List Int} (h : isCtx m B = true) : ExI m B 0 [] [] :=
  ⟨h, Nat.two_pow_pos _, List.nodup_nil, fun x hx => (by cases hx), fun r hr => (by cases hr), fun r hr => (by cases hr), List.Pairwise.nil⟩
theorem ExI.ctxe {m : Int} {B : List Int} {a : Nat} {ex : List Int} {R : List (Int × Int)} (h : ExI m B a ex R) : isCtx m ex = true := by
  have hl := isCtx_len h.ctx
  have hlen := nodup_sub ex B h.nod h.sub
  unfold isCtx
  have h1 : decide (0 ≤ m ∧ m ≤ 6) = true := decide_eq_true (by omega)
  have h2 : decide (ex.length ≤ 8) = true := decide_eq_true (by omega)
  have h3 : ex.all (isSet m) = true := List.all_eq_true.2 fun x hx => hl.2.2.2 x (h.sub x hx)
  rw [h1, h2, h3]
  rfl
theorem ExI.rset {m : Int} {B : List Int} {a : Nat} {ex : List Int} {R : List (Int × Int)} (h : ExI m B a ex R) : RSet R := by
  intro r hr
  obtain ⟨p, rfl, hp, _⟩ := h.rl r hr
  have hl := isCtx_len h.ctx
  have hpw := pow64 (n := m.toNat) (by omega)
  have := (cl_clo h.ctx).lt p hp
  exact ⟨by dsimp only; omega, by dsimp only; omega⟩
theorem ExI.r2 {m : Int} {B : List Int} {a : Nat} {ex : List Int} {R : List (Int × Int)} (h : ExI m B a ex R) : ∀ r ∈ R, r.2.toNat < 2 ^ m.toNat := by
  intro r hr
  obtain ⟨p, rfl, hp, _⟩ := h.rl r hr
  have := (cl_clo h.ctx).lt p hp
  rw [Int.toNat_natCast]
  exact this
theorem half_all : ∀ x y : Fin 64, lecN x.val y.val = true → x.val / 2 = y.val / 2 → y.val = x.val + 1 ∧ x.val % 2 = 0 := by decide +kernel
theorem bit0_all : ∀ x : Fin 64, x.val % 2 = 0 → x.val &&& (x.val + 1) = x.val := by decide +kernel
theorem ExI.len {m : Int} {B : List Int} {a : Nat} {ex : List Int} {R : List (Int × Int)} (h : ExI m B a ex R) : R.length ≤ 32 := by
  have hl := isCtx_len h.ctx
  have hpw := pow64 (n := m.toNat) (by omega)
  have hclo := cl_clo h.ctx
  have hb : ∀ x ∈ R.map (fun r => r.1.toNat / 2), x < 32 := by
    intro x hx
    obtain ⟨r, hr, rfl⟩ := List.mem_map.1 hx
    obtain ⟨p, rfl, hp, _⟩ := h.rl r hr
    rw [Int.toNat_natCast]
    omega
  have hn : (R.map (fun r => r.1.toNat / 2)).Nodup := by
    unfold List.Nodup
    rw [List.pairwise_map]
    refine List.Pairwise.imp_of_mem (fun {r s} hr hs hrs he => ?_) h.ord
    obtain ⟨p, rfl, hp, hpc, _⟩ := h.rl r hr
    obtain ⟨q, rfl, hq, hqc, _⟩ := h.rl s hs
    simp only [Int.toNat_natCast] at hrs he
    obtain ⟨e1, e2⟩ := half_all ⟨p, by omega⟩ ⟨q, by omega⟩ hrs.1 he
    simp only at e1 e2
    have e3 := bit0_all ⟨p, by omega⟩ e2
    simp only at e3
    have hpq : SubN p q := and_sub.1 (by rw [e1, beq_iff_eq]; exact e3)
    have hcq := hrs.2 hpq
    have h1 := sub_leN (hclo.ext p hp)
    have h2 := sub_leN hcq
    have h3 : clN m B p = q := by omega
    have h4 := hclo.idem p hp
    rw [h3] at h4
    exact hqc h4
  have := nodup_bound _ hn hb
  simpa using this
/-- The examples' closure lies in each example that has the set. -/
theorem cl_row {m : Int} {ex : List Int} (h : isCtx m ex = true) {a : Nat} (ha : a < 256) {row : Int} (hr : row ∈ ex) (hs : SubN a row.toNat) : SubN (clN m ex a) row.toNat := by
  intro i hi
  obtain ⟨k, hk, he⟩ := List.mem_iff_getElem.1 hr
  have := ((clN_bit h ha i).1 hi).2 k hk
  rw [List.getD_eq_getElem?_getD, List.getElem?_eq_getElem hk, he, Option.getD_some] at this
  exact this hs
theorem ExI.clsub {m : Int} {B : List Int} {a : Nat} {ex : List Int} {R : List (Int × Int)} (h : ExI m B a ex R) : SubN (clN m B a) (clN m ex a) := by
  have hl := isCtx_len h.ctx
  have hpw := pow64 (n := m.toNat) (by omega)
  have hlt := h.lt
  intro i hi
  obtain ⟨q1, q2⟩ := (clN_bit h.ctx (by omega) i).1 hi
  refine (clN_bit h.ctxe (by omega) i).2 ⟨q1, fun k hk hs => ?_⟩
  have hm := h.sub _ (mem_getD (d := 0) hk)
  obtain ⟨j, hj, he⟩ := List.mem_iff_getElem.1 hm
  have := q2 j hj
  rw [List.getD_eq_getElem?_getD, List.getElem?_eq_getElem hj, he, Option.getD_some] at this
  exact this hs
theorem ExI.rowSet {m : Int} {B : List Int} {a : Nat} {ex : List Int} {R : List (Int × Int)} (h : ExI m B a ex R) {j : Nat} (hj : j < B.length) : 0 ≤ B.getD j 0 ∧ B.getD j 0 ≤ 255 := by
  have := ctx_small h.ctx _ (mem_getD (d := 0) hj)
  exact this
/-- A step that asks nothing. -/
theorem ExI.move {m : Int} {B : List Int} {a : Nat} {ex : List Int} {R : List (Int × Int)} (h : ExI m B a ex R) (hf : ¬ (a : Int) = fullSet m) :
    nmO m.toNat R a = some (nmV m.toNat R a) ∧ ExI m B (nmV m.toNat R a) ex R ∧ brev 6 a < brev 6 (nmV m.toNat R a) := by
  have hl := isCtx_len h.ctx
  have hpw := pow64 (n := m.toNat) (by omega)
  have hlt := h.lt
  rw [full_nat hl.2.1 hl.2.2.1] at hf
  obtain ⟨x, hx⟩ := nmO_full (n := m.toNat) (by omega) h.rset h.r2 h.lt (by omega)
  have hv : nmV m.toNat R a = x := by unfold nmV; rw [hx]; rfl
  obtain ⟨g1, g2, g3⟩ := nmO_some (by omega) h.rset hx
  rw [hv]
  refine ⟨hx, ⟨h.ctx, g1, h.nod, h.sub, fun r hr => ?_, g3, h.ord⟩, ?_⟩
  · obtain ⟨p, q1, q2, q3, q4⟩ := h.rl r hr
    exact ⟨p, q1, q2, q3, lecN_trans (by omega) (by omega) (by omega) q4 g2⟩
  · rw [lecN_br (by omega) (by omega)] at g2
    exact ofd g2
/-- A step with a counterexample. -/
theorem ExI.counter {m : Int} {B : List Int} {a : Nat} {ex : List Int} {R : List (Int × Int)} (h : ExI m B a ex R) (he : cexF B a (clN m ex a : Nat) ≥ 0) :
    (cexF B a (clN m ex a : Nat)).toNat < B.length ∧ ExI m B a (ex ++ [B.getD (cexF B a (clN m ex a : Nat)).toNat 0]) R := by
  have hl := isCtx_len h.ctx
  have hpw := pow64 (n := m.toNat) (by omega)
  have hlt := h.lt
  have hcl := (cl_clo h.ctxe).lt a h.lt
  rcases firstI_spec (cexB a (clN m ex a : Nat)) 0 B 0 (Int.le_refl _) with ⟨h1, _⟩ | ⟨j, h1, h2, h3⟩
  · unfold cexF at he
    omega
  · have hj : (cexF B a (clN m ex a : Nat)).toNat = j := by unfold cexF; omega
    rw [hj]
    have hrow := h.rowSet h1
    unfold cexB at h3
    rw [Bool.and_eq_true, Bool.not_eq_true'] at h3
    have q1 := (bnotSub (by omega) hrow).1 h3.1
    rw [Int.toNat_natCast] at q1
    have q2 : ¬ SubN (clN m ex a) (B.getD j 0).toNat := fun g => by
      have := (bnotSub (p := ((clN m ex a : Nat) : Int)) (by omega) hrow).2 (by rw [Int.toNat_natCast]; exact g)
      rw [this] at h3
      cases h3.2
    refine ⟨h1, h.ctx, h.lt, ?_, fun x hx => ?_, h.rl, h.resp, h.ord⟩
    · rw [List.nodup_append]
      refine ⟨h.nod, by simp, fun x hx y hy e => ?_⟩
      rw [List.mem_singleton] at hy
      subst hy
      subst e
      exact q2 (cl_row h.ctxe (by omega) hx q1)
    · rcases List.mem_append.1 hx with hx | hx
      · exact h.sub x hx
      · rw [List.mem_singleton] at hx
        rw [hx]
        exact mem_getD h1
/-- A step with a rule. -/
theorem ExI.accept {m : Int} {B : List Int} {a : Nat} {ex : List Int} {R : List (Int × Int)} (h : ExI m B a ex R) (hf : ¬ (a : Int) = fullSet m) (hne : ¬ (a : Int) = ((clN m ex a : Nat) : Int)) (he : ¬ cexF B a (clN m ex a : Nat) ≥ 0) :
    nmO m.toNat (R ++ [((a : Int), ((clN m ex a : Nat) : Int))]) a = some (nmV m.toNat (R ++ [((a : Int), ((clN m ex a : Nat) : Int))]) a) ∧ ExI m B (nmV m.toNat (R ++ [((a : Int), ((clN m ex a : Nat) : Int))]) a) ex (R ++ [((a : Int), ((clN m ex a : Nat) : Int))]) ∧ brev 6 a < brev 6 (nmV m.toNat (R ++ [((a : Int), ((clN m ex a : Nat) : Int))]) a) := by
  have hl := isCtx_len h.ctx
  have hpw := pow64 (n := m.toNat) (by omega)
  have hlt := h.lt
  have hcl := (cl_clo h.ctxe).lt a h.lt
  have hB : clN m ex a = clN m B a := by
    refine sub_anti (fun i hi => ?_) h.clsub
    have hbit := (clN_bit h.ctxe (show a < 256 by omega) i).1 hi
    refine (clN_bit h.ctx (show a < 256 by omega) i).2 ⟨hbit.1, fun k hk hs => ?_⟩
    have hrow := h.rowSet hk
    rcases firstI_spec (cexB a (clN m ex a : Nat)) 0 B 0 (Int.le_refl _) with ⟨_, h2⟩ | ⟨j, h1, h2, _⟩
    · rw [List.any_eq_false] at h2
      have h2 := h2 _ (mem_getD (d := 0) hk)
      unfold cexB at h2
      rw [(bnotSub (p := (a : Int)) (by omega) hrow).2 (by rw [Int.toNat_natCast]; exact hs), Bool.true_and] at h2
      have h3 : (bnot ((clN m ex a : Nat) : Int) (B.getD k 0) == 0) = true := by simpa using h2
      have h4 := (bnotSub (by omega) hrow).1 h3
      rw [Int.toNat_natCast] at h4
      exact h4 i hi
    · unfold cexF at he
      omega
  have hRS : RSet (R ++ [((a : Int), ((clN m ex a : Nat) : Int))]) := by
    intro r hr
    rcases List.mem_append.1 hr with hr | hr
    · exact h.rset r hr
    · rw [List.mem_singleton] at hr
      subst hr
      exact ⟨by dsimp only; omega, by dsimp only; omega⟩
  have hr2 : ∀ r ∈ R ++ [((a : Int), ((clN m ex a : Nat) : Int))], r.2.toNat < 2 ^ m.toNat := by
    intro r hr
    rcases List.mem_append.1 hr with hr | hr
    · exact h.r2 r hr
    · rw [List.mem_singleton] at hr
      subst hr
      rw [Int.toNat_natCast]
      exact hcl
  rw [full_nat hl.2.1 hl.2.2.1] at hf
  obtain ⟨x, hx⟩ := nmO_full (n := m.toNat) (by omega) hRS hr2 h.lt (by omega)
  have hv : nmV m.toNat (R ++ [((a : Int), ((clN m ex a : Nat) : Int))]) a = x := by unfold nmV; rw [hx]; rfl
  obtain ⟨g1, g2, g3⟩ := nmO_some (by omega) hRS hx
  rw [hv]
  refine ⟨hx, ⟨h.ctx, g1, h.nod, h.sub, fun r hr => ?_, g3, ?_⟩, ?_⟩
  · rcases List.mem_append.1 hr with hr | hr
    · obtain ⟨p, q1, q2, q3, q4⟩ := h.rl r hr
      exact ⟨p, q1, q2, q3, lecN_trans (by omega) (by omega) (by omega) q4 g2⟩
    · rw [List.mem_singleton] at hr
      subst hr
      exact ⟨a, by rw [hB], h.lt, by rw [← hB]; omega, g2⟩
  · rw [List.pairwise_append]
    refine ⟨h.ord, List.pairwise_singleton _ _, fun r hr s hs => ?_⟩
    rw [List.mem_singleton] at hs
    subst hs
    rw [Int.toNat_natCast]
    obtain ⟨p, rfl, q2, q3, q4⟩ := h.rl r hr
    refine ⟨by rw [Int.toNat_natCast]; exact q4, fun hs => h.resp _ hr hs⟩
  · rw [lecN_br (by omega) (by omega)] at g2
    exact ofd g2
theorem ExI.exlen {m : Int} {B : List Int} {a : Nat} {ex : List Int} {R : List (Int × Int)} (h : ExI m B a ex R) : ex.length ≤ 8 := (isCtx_len h.ctxe).1
theorem ExI.pos {m : Int} {B : List Int} {a : Nat} {ex : List Int} {R : List (Int × Int)} (h : ExI m B a ex R) : brev 6 a < 64 := by
  have hl := isCtx_len h.ctx
  have hpw := pow64 (n := m.toNat) (by omega)
  have hlt := h.lt
  exact brev_lt6 ⟨a, by omega⟩
theorem exR_len {m : Int} {B : List Int} : ∀ (d a : Nat) (ex : List Int) (R : List (Int × Int)) (Q : QL), ExI m B a ex R →
    (exR m B d a ex R Q).1.length ≤ 8 ∧ (exR m B d a ex R Q).2.1.length ≤ 32 ∧ (exR m B d a ex R Q).2.2.length ≤ Q.length + d
  | 0, a, ex, R, Q, h => ⟨h.exlen, h.len, Nat.le_refl _⟩
  | d + 1, a, ex, R, Q, h => by
    rw [exR]
    cases h1 : (a : Int) == fullSet m with
    | true => exact ⟨h.exlen, h.len, Nat.le_add_right _ _⟩
    | false =>
      have hf : ¬ (a : Int) = fullSet m := by simpa using h1
      rw [cond_false]
      cases h2 : (a : Int) == ((clN m ex a : Nat) : Int) with
      | true =>
        rw [cond_true]
        obtain ⟨g1, g2, g3⟩ := exR_len d _ ex R Q (h.move hf).2.1
        exact ⟨g1, g2, by omega⟩
      | false =>
        have hne : ¬ (a : Int) = ((clN m ex a : Nat) : Int) := by simpa using h2
        rw [cond_false]
        cases h3 : decide (cexF B a (clN m ex a : Nat) ≥ 0) with
        | true =>
          rw [cond_true]
          obtain ⟨g1, g2, g3⟩ := exR_len d _ _ R (Q ++ [(((a : Int), ((clN m ex a : Nat) : Int)), false, cexF B a (clN m ex a : Nat))]) (h.counter (ofd h3)).2
          simp only [List.length_append, List.length_singleton] at g3
          exact ⟨g1, g2, by omega⟩
        | false =>
          rw [cond_false]
          obtain ⟨g1, g2, g3⟩ := exR_len d _ ex _ (Q ++ [(((a : Int), ((clN m ex a : Nat) : Int)), true, -1)]) (h.accept hf hne (ofn h3)).2.1
          simp only [List.length_append, List.length_singleton] at g3
          exact ⟨g1, g2, by omega⟩
def iotaI : Int → Nat → List Int
  | _, 0 => []
  | k, n + 1 => k :: iotaI (k + 1) n
@[simp] theorem iotaI_length : ∀ (n : Nat) (k : Int), (iotaI k n).length = n
  | 0, _ => rfl
  | n + 1, k => by simp [iotaI, iotaI_length n]
def held (a : List Int) (k : Int) : Int := if a = iotaI k a.length then k + a.length else -1
theorem held_iota (k : Int) (n : Nat) : held (iotaI k n) k = k + n := by simp [held]
theorem take_set_succ {α : Type} {ys : List α} {i : Nat} {v : α} (h : i < ys.length) : (ys.set i v).take (i + 1) = ys.take i ++ [v] := by
  rw [List.take_succ_eq_append_getElem (by simpa using h), List.take_set_of_le (by omega)]
  simp
theorem getD_set_self {α : Type} {ys : List α} {i : Nat} {v d : α} (h : i < ys.length) : (ys.set i v).getD i d = v := by
  simp [List.getD, h]
def iotaQ : Int → Nat → QL
  | _, 0 => []
  | k, n + 1 => ((k, k + 1), (k + 2).tmod 3 == 0, k + 3) :: iotaQ (k + 4) n
@[simp] theorem iotaQ_length : ∀ (n : Nat) (k : Int), (iotaQ k n).length = n
  | 0, _ => rfl
  | n + 1, k => by simp [iotaQ, iotaQ_length n]
def heldQF (l : QL) (k : Int) : Int := if l = iotaQ k l.length then k + 4 * l.length else -1
theorem heldQ_iota (k : Int) (n : Nat) : heldQF (iotaQ k n) k = k + 4 * n := by
  unfold heldQF
  rw [iotaQ_length, if_pos rfl]
def dQ : (Int × Int) × Bool × Int := ((0, 0), false, 0)
/- impl.areAnyRules$1 -/
def K_anyRules1 : List AV → List Ob → Option (AV × List Ob)
  | [.agg [.int .i64 p, .int .i64 q]], [] => gd (True) (.bool (badR (p, q)), [])
  | _, _ => none
@[reducible] def E_anyRules1 : Env := mkE (tb [(202, K_isAnySet)]) (fun f => false) (fun r => ([], []))
theorem ev_anyRules1 (p q : Int) (hp : True) : evF E_anyRules1 (1) Tryz.f201 [.agg [.int .i64 p, .int .i64 q]] [] = some (.bool (badR (p, q)), []) := by
  conv => lhs; whnf
  conv => lhs; arg 1; whnf
  refine bnd_g (by exact True.intro) ?_
  conv => lhs; whnf
  refine br_c (fun h => ?_) (fun h => ?_)
  · conv => lhs; whnf
    repeat ((first | with_reducible apply br_tt | with_reducible apply br_ff | with_reducible apply br_nf | with_reducible apply br_nt | with_reducible refine br_d ?_ (by kernel_rfl) | with_reducible apply br_t h | with_reducible apply br_f h); conv => lhs; whnf)
    simp at h
    simp [badR, h]
  · conv => lhs; whnf
    repeat ((first | with_reducible apply br_tt | with_reducible apply br_ff | with_reducible apply br_nf | with_reducible apply br_nt | with_reducible refine br_d ?_ (by kernel_rfl) | with_reducible apply br_t h | with_reducible apply br_f h); conv => lhs; whnf)
    conv => lhs; arg 1; whnf
    refine bnd_g (by exact True.intro) ?_
    conv => lhs; whnf
    repeat ((first | with_reducible apply br_tt | with_reducible apply br_ff | with_reducible apply br_nf | with_reducible apply br_nt | with_reducible refine br_d ?_ (by kernel_rfl) | with_reducible apply br_t h | with_reducible apply br_f h); conv => lhs; whnf)
    simp at h
    simp [badR, h]
theorem ok_anyRules1 : FnOk Tryz.prog 201 K_anyRules1 := by
  refine fn_ok (fn := Tryz.f201) (k := Tryz.f201.ntmps) (E := E_anyRules1) (facts_of (List.forall_mem_cons.2 ⟨ok_isAnySet, List.forall_mem_nil _⟩)) (by kernel_rfl) rfl (by decide +kernel) (by decide +kernel) ?_
  intro avs hin r h
  unfold K_anyRules1 at h
  split at h
  · obtain ⟨hp, rfl⟩ := gd_o h
    exact ⟨_, ev_anyRules1 _ _ hp, rfl⟩
  · cases h

/- slices.IndexFunc[[]loop.example/g00596/impl.Rule,loop.example/g00596/impl.Rule] -/
def K_indexRule : List AV → List Ob → Option (AV × List Ob)
  | [.lst (.pair (.int .i64) (.int .i64)) a, .clo 201 []], [] => gd (a.length < 4611686018427387904) (.int .i64 (firstI badR a 0), [])
  | _, _ => none
@[reducible] def E_indexRule : Env := mkE (tb [(201, K_anyRules1)]) (fun f => false) (fun r => bif r == 2 then ([0, 1, 7, 8], [4]) else ([], []))
theorem lp_indexRule (a : List (Int × Int)) (ha : a.length < 4611686018427387904) (k : AX → S → Option (AV × List Ob)) (d : Nat) : ∀ (n i : Nat) (x : Int), a.length - i = d → i ≤ a.length → x = i → d < n →
    lpAt E_indexRule (lp E_indexRule 0 n) 0 (loopAt Tryz.f244 0) (mkS [0, 1, 7, 8] [.lst (.pair (.int .i64) (.int .i64)) a, .clo 201 [], .int .i64 a.length, .int .i64 x] []) k =
      if (a.drop i).any badR then k .ret (mkS [4] [.int .i64 (firstI badR (a.drop i) i)] []) else k (.exit 0) (mkS [4] [.any] []) := by
  induction d with
  | zero =>
    intro n i x hd hi hx hn
    subst hx
    rw [lpAt_def]
    conv => lhs; whnf
    refine br_f (df (by omega)) ?_
    conv => lhs; whnf
    rw [List.drop_of_length_le (by omega)]
    simp
  | succ d ih =>
    intro n i x hd hi hx hn
    obtain ⟨n, rfl⟩ : ∃ m, n = m + 1 := ⟨n - 1, by omega⟩
    subst hx
    rw [lpAt_def]
    conv => lhs; whnf
    refine br_t (dt (by omega)) ?_
    conv => lhs; whnf
    refine br_t (dt2 (by omega) (by omega)) ?_
    conv => lhs; whnf
    conv => lhs; arg 1; whnf
    refine bnd_g (by exact True.intro) ?_
    conv => lhs; whnf
    rw [getD_drop (l := a) (i := i) (d := (0, 0)) (by omega)]
    refine br_c (fun h => ?_) (fun h => ?_)
    · have h' : badR (a.getD i (0, 0)) = true := h
      conv => lhs; whnf
      rw [if_pos (by simp only [List.any_cons, h', Bool.true_or])]
      simp only [firstI, h', cond_true]
    · have h' : badR (a.getD i (0, 0)) = false := h
      conv => lhs; whnf
      rw [ih n (i + 1) _ (by omega) (by omega) (by rw [wrap64 (by omega) (by omega)]; simp) (by omega)]
      simp only [List.any_cons, h', Bool.false_or, firstI, cond_false]
      rfl
theorem ev_indexRule (a : List (Int × Int)) (hp : a.length < 4611686018427387904) : evF E_indexRule (a.length + 2) Tryz.f244 [.lst (.pair (.int .i64) (.int .i64)) a, .clo 201 []] [] = some (.int .i64 (firstI badR a 0), []) := by
  conv => lhs; whnf
  refine (lp_indexRule a hp _ a.length _ 0 0 rfl (by omega) rfl (by omega)).trans ?_
  simp only [List.drop_zero]
  split
  · conv => lhs; whnf
    rfl
  · rename_i he
    conv => lhs; whnf
    have : firstI badR a 0 = -1 := firstI_none badR a 0 (by simpa using he)
    rw [this]
theorem ok_indexRule : FnOk Tryz.prog 244 K_indexRule := by
  refine fn_ok (fn := Tryz.f244) (k := Tryz.f244.ntmps) (E := E_indexRule) (facts_of (List.forall_mem_cons.2 ⟨ok_anyRules1, List.forall_mem_nil _⟩)) (by kernel_rfl) rfl (by decide +kernel) (by decide +kernel) ?_
  intro avs hin r h
  unfold K_indexRule at h
  split at h
  · obtain ⟨hp, rfl⟩ := gd_o h
    exact ⟨_, ev_indexRule _ hp, rfl⟩
  · cases h

/- slices.ContainsFunc[[]loop.example/g00596/impl.Rule,loop.example/g00596/impl.Rule] -/
def K_containsRule : List AV → List Ob → Option (AV × List Ob)
  | [.lst (.pair (.int .i64) (.int .i64)) a, .clo 201 []], [] => gd (a.length < 4611686018427387904) (.bool (a.any badR), [])
  | _, _ => none
@[reducible] def E_containsRule : Env := mkE (tb [(244, K_indexRule)]) (fun f => false) (fun r => ([], []))
theorem ev_containsRule (a : List (Int × Int)) (hp : a.length < 4611686018427387904) : evF E_containsRule (1) Tryz.f200 [.lst (.pair (.int .i64) (.int .i64)) a, .clo 201 []] [] = some (.bool (a.any badR), []) := by
  conv => lhs; whnf
  conv => lhs; arg 1; whnf
  refine bnd_g (by exact hp) ?_
  conv => lhs; whnf
  refine okB ?_
  exact firstI_iff badR a 0 (by omega)
theorem ok_containsRule : FnOk Tryz.prog 200 K_containsRule := by
  refine fn_ok (fn := Tryz.f200) (k := Tryz.f200.ntmps) (E := E_containsRule) (facts_of (List.forall_mem_cons.2 ⟨ok_indexRule, List.forall_mem_nil _⟩)) (by kernel_rfl) rfl (by decide +kernel) (by decide +kernel) ?_
  intro avs hin r h
  unfold K_containsRule at h
  split at h
  · obtain ⟨hp, rfl⟩ := gd_o h
    exact ⟨_, ev_containsRule _ hp, rfl⟩
  · cases h

/- impl.areAnyRules -/
def K_areAnyRules : List AV → List Ob → Option (AV × List Ob)
  | [.lst (.pair (.int .i64) (.int .i64)) a], [] => gd (a.length < 4611686018427387904) (.bool (!a.any badR), [])
  | _, _ => none
@[reducible] def E_areAnyRules : Env := mkE (tb [(200, K_containsRule)]) (fun f => false) (fun r => ([], []))
theorem ev_areAnyRules (a : List (Int × Int)) (hp : a.length < 4611686018427387904) : evF E_areAnyRules (1) Tryz.f154 [.lst (.pair (.int .i64) (.int .i64)) a] [] = some (.bool (!a.any badR), []) := by
  conv => lhs; whnf
  conv => lhs; arg 1; whnf
  refine bnd_g (by exact hp) ?_
  conv => lhs; whnf
theorem ok_areAnyRules : FnOk Tryz.prog 154 K_areAnyRules := by
  refine fn_ok (fn := Tryz.f154) (k := Tryz.f154.ntmps) (E := E_areAnyRules) (facts_of (List.forall_mem_cons.2 ⟨ok_containsRule, List.forall_mem_nil _⟩)) (by kernel_rfl) rfl (by decide +kernel) (by decide +kernel) ?_
  intro avs hin r h
  unfold K_areAnyRules at h
  split at h
  · obtain ⟨hp, rfl⟩ := gd_o h
    exact ⟨_, ev_areAnyRules _ hp, rfl⟩
  · cases h

/- impl.inSet -/
def K_inSet : List AV → List Ob → Option (AV × List Ob)
  | [.int .i64 a, .int .i64 b], [] => gd (True) (.bool (bnot a b == 0), [])
  | _, _ => none
@[reducible] def E_inSet : Env := mkE (tb []) (fun f => false) (fun r => ([], []))
theorem ev_inSet (a b : Int) (hp : True) : evF E_inSet (1) Tryz.f122 [.int .i64 a, .int .i64 b] [] = some (.bool (bnot a b == 0), []) := by
  conv => lhs; whnf
  rfl
theorem ok_inSet : FnOk Tryz.prog 122 K_inSet := by
  refine fn_ok (fn := Tryz.f122) (k := Tryz.f122.ntmps) (E := E_inSet) (facts_of (List.forall_mem_nil _)) (by kernel_rfl) rfl (by decide +kernel) (by decide +kernel) ?_
  intro avs hin r h
  unfold K_inSet at h
  split at h
  · obtain ⟨hp, rfl⟩ := gd_o h
    exact ⟨_, ev_inSet _ _ hp, rfl⟩
  · cases h

/- impl.OneStep -/
def K_oneStep : List AV → List Ob → Option (AV × List Ob)
  | [.lst (.pair (.int .i64) (.int .i64)) R, .int .i64 s], [] => gd (R.length ≤ 64 ∧ R.any badR = false ∧ isSet 8 s = true) (.int .i64 (oneL s R s), [])
  | _, _ => none
@[reducible] def E_oneStep : Env := mkE (tb [(202, K_isAnySet), (154, K_areAnyRules), (122, K_inSet)]) (fun f => false) (fun r => bif r == 5 then ([1, 5, 18, 19, 20], [5]) else ([], []))
theorem lp_oneStep (R : List (Int × Int)) (hR : R.length ≤ 64) (s : Int) (k : AX → S → Option (AV × List Ob)) (d : Nat) : ∀ (n i : Nat) (x acc : Int), R.length - i = d → i ≤ R.length → x = i → d < n →
    lpAt E_oneStep (lp E_oneStep 0 n) 0 (loopAt Tryz.f217 0) (mkS [1, 5, 18, 19, 20] [.int .i64 s, .int .i64 acc, .lst (.pair (.int .i64) (.int .i64)) R, .int .i64 R.length, .int .i64 x] []) k =
      k (.exit 0) (mkS [5] [.int .i64 (oneL s (R.drop i) acc)] []) := by
  induction d with
  | zero =>
    intro n i x acc hd hi hx hn
    subst hx
    rw [lpAt_def]
    conv => lhs; whnf
    refine br_f (df (by omega)) ?_
    conv => lhs; whnf
    rw [List.drop_of_length_le (by omega)]
    rfl
  | succ d ih =>
    intro n i x acc hd hi hx hn
    obtain ⟨n, rfl⟩ : ∃ m, n = m + 1 := ⟨n - 1, by omega⟩
    subst hx
    have hih := fun q => ih n (i + 1) (IntKind.i64.wrap ((i : Int) + 1)) q (by omega) (by omega) (by rw [wrap64 (n := (i : Int) + 1) (by omega) (by omega)]; simp) (by omega)
    clear ih
    rw [getD_drop (l := R) (i := i) (d := (0, 0)) (by omega), oneL, lpAt_def]
    conv => lhs; whnf
    refine br_t (dt (by omega)) ?_
    conv => lhs; whnf
    refine br_t (dt2 (by omega) (by omega)) ?_
    conv => lhs; whnf
    conv => lhs; arg 1; whnf
    refine bnd_g (by exact True.intro) ?_
    conv => lhs; whnf
    refine br_c (fun h => ?_) (fun h => ?_)
    · have h' : (bnot (R.getD i (0, 0)).1 s == 0) = true := h
      conv => lhs; whnf
      refine (hih _).trans ?_
      rw [h', cond_true]
      rfl
    · have h' : (bnot (R.getD i (0, 0)).1 s == 0) = false := h
      conv => lhs; whnf
      refine (hih _).trans ?_
      rw [h', cond_false]
theorem ev_oneStep (R : List (Int × Int)) (s : Int) (hp : R.length ≤ 64 ∧ R.any badR = false ∧ isSet 8 s = true) : evF E_oneStep (70) Tryz.f217 [.lst (.pair (.int .i64) (.int .i64)) R, .int .i64 s] [] = some (.int .i64 (oneL s R s), []) := by
  obtain ⟨h1, h2, h3⟩ := hp
  have g1 : (!isSet 8 s) = false := by rw [h3]; rfl
  have g2 : (!(!R.any badR)) = false := by rw [h2]; rfl
  conv => lhs; whnf
  conv => lhs; arg 1; whnf
  refine bnd_g (by exact True.intro) ?_
  conv => lhs; whnf
  repeat ((first | with_reducible apply br_tt | with_reducible apply br_ff | with_reducible apply br_nf | with_reducible apply br_nt | with_reducible refine br_d ?_ (by kernel_rfl) | with_reducible apply br_t g1 | with_reducible apply br_f g1); conv => lhs; whnf)
  conv => lhs; arg 1; whnf
  refine bnd_g (by omega) ?_
  conv => lhs; whnf
  repeat ((first | with_reducible apply br_tt | with_reducible apply br_ff | with_reducible apply br_nf | with_reducible apply br_nt | with_reducible refine br_d ?_ (by kernel_rfl) | with_reducible apply br_t g1 | with_reducible apply br_f g1 | with_reducible apply br_t g2 | with_reducible apply br_f g2); conv => lhs; whnf)
  refine (lp_oneStep R h1 s _ R.length _ 0 0 s rfl (Nat.zero_le _) rfl (by change _ < 69; omega)).trans ?_
  conv => lhs; whnf
  rfl
theorem ok_oneStep : FnOk Tryz.prog 217 K_oneStep := by
  refine fn_ok (fn := Tryz.f217) (k := Tryz.f217.ntmps) (E := E_oneStep) (facts_of (List.forall_mem_cons.2 ⟨ok_isAnySet, List.forall_mem_cons.2 ⟨ok_areAnyRules, List.forall_mem_cons.2 ⟨ok_inSet, List.forall_mem_nil _⟩⟩⟩)) (by kernel_rfl) rfl (by decide +kernel) (by decide +kernel) ?_
  intro avs hin r h
  unfold K_oneStep at h
  split at h
  · obtain ⟨hp, rfl⟩ := gd_o h
    exact ⟨_, ev_oneStep _ _ hp, rfl⟩
  · cases h

/- impl.ClosedBy -/
def K_closedBy : List AV → List Ob → Option (AV × List Ob)
  | [.lst (.pair (.int .i64) (.int .i64)) R, .int .i64 s], [] => gd (R.length ≤ 64) (.int .i64 (bif !R.any badR && isSet 8 s then clR R s else s), [])
  | _, _ => none
@[reducible] def E_closedBy : Env := mkE (tb [(202, K_isAnySet), (154, K_areAnyRules), (217, K_oneStep)]) (fun f => false) (fun r => bif r == 4 then ([0, 1, 5], [1]) else ([], []))
theorem lp_closedBy (R : List (Int × Int)) (hR : R.length ≤ 64) (hb : R.any badR = false) (k : AX → S → Option (AV × List Ob)) (d : Nat) : ∀ (n : Nat) (s q : Int), (0 ≤ s ∧ s ≤ 255) → 256 ≤ d + s.toNat → d < n → q = oneL s R s →
    lpAt E_closedBy (lp E_closedBy 0 n) 0 (loopAt Tryz.f179 0) (mkS [0, 1, 5] [.lst (.pair (.int .i64) (.int .i64)) R, .int .i64 s, .int .i64 q] []) k =
      k (.exit 0) (mkS [1] [.int .i64 (iterR R d s)] []) := by
  have hRS := RSet_of hb
  induction d with
  | zero => intro n s q hs hd hn; omega
  | succ d ih =>
    intro n s q hs hd hn hq
    obtain ⟨n, rfl⟩ : ∃ m, n = m + 1 := ⟨n - 1, by omega⟩
    subst hq
    obtain ⟨h1, h2, h3, h4⟩ := oneL_spec hs R s hRS hs
    rw [iterR, lpAt_def]
    conv => lhs; whnf
    refine br_c (fun h => ?_) (fun h => ?_)
    · have h' : (oneL s R s == s) = false := by
        have h : (oneL s R s != s) = true := h
        rw [bne, Bool.not_eq_true'] at h
        exact h
      have hne : oneL s R s ≠ s := by simpa using h'
      have hlt := sub_ltN h2 (by omega)
      have h8 : isSet 8 (oneL s R s) = true := by rw [isSet8]; exact dt h1
      rw [h', cond_false]
      conv => lhs; whnf
      conv => lhs; arg 1; whnf
      refine bnd_g (by exact ⟨hR, hb, h8⟩) ?_
      conv => lhs; whnf
      exact ih n _ _ h1 (by omega) (by omega) rfl
    · have h' : (oneL s R s == s) = true := by
        have h : (oneL s R s != s) = false := h
        rw [bne, Bool.not_eq_false'] at h
        exact h
      rw [h', cond_true]
      conv => lhs; whnf
theorem ev_closedBy (R : List (Int × Int)) (s : Int) (hp : R.length ≤ 64) : evF E_closedBy (300) Tryz.f179 [.lst (.pair (.int .i64) (.int .i64)) R, .int .i64 s] [] = some (.int .i64 (bif !R.any badR && isSet 8 s then clR R s else s), []) := by
  conv => lhs; whnf
  conv => lhs; arg 1; whnf
  refine bnd_g (by exact True.intro) ?_
  conv => lhs; whnf
  refine br_c (fun h => ?_) (fun h => ?_)
  · have g1 := bnt h
    conv => lhs; whnf
    repeat ((first | with_reducible apply br_tt | with_reducible apply br_ff | with_reducible apply br_nf | with_reducible apply br_nt | with_reducible refine br_d ?_ (by kernel_rfl) | with_reducible apply br_t h | with_reducible apply br_f h); conv => lhs; whnf)
    rw [g1, Bool.and_false]
    rfl
  · have g1 := bnf h
    conv => lhs; whnf
    repeat ((first | with_reducible apply br_tt | with_reducible apply br_ff | with_reducible apply br_nf | with_reducible apply br_nt | with_reducible refine br_d ?_ (by kernel_rfl) | with_reducible apply br_t h | with_reducible apply br_f h); conv => lhs; whnf)
    conv => lhs; arg 1; whnf
    refine bnd_g (by omega) ?_
    conv => lhs; whnf
    repeat ((first | with_reducible apply br_tt | with_reducible apply br_ff | with_reducible apply br_nf | with_reducible apply br_nt | with_reducible refine br_d ?_ (by kernel_rfl) | with_reducible apply br_t h | with_reducible apply br_f h); conv => lhs; whnf)
    refine br_c (fun h2 => ?_) (fun h2 => ?_)
    · have g2 : (!R.any badR) = false := bnt h2
      conv => lhs; whnf
      rw [g2, Bool.false_and]
      rfl
    · have g2 : (!R.any badR) = true := bnf h2
      have g3 : R.any badR = false := by
        cases hq : R.any badR
        · rfl
        · rw [hq] at g2; cases g2
      conv => lhs; whnf
      conv => lhs; arg 1; whnf
      refine bnd_g (by exact ⟨hp, g3, g1⟩) ?_
      conv => lhs; whnf
      have hs : 0 ≤ s ∧ s ≤ 255 := by rw [isSet8] at g1; exact ofd g1
      refine (lp_closedBy R hp g3 _ 256 _ s _ hs (by omega) (by change _ < 299; omega) rfl).trans ?_
      conv => lhs; whnf
      rw [g2, g1]
      rfl
theorem ok_closedBy : FnOk Tryz.prog 179 K_closedBy := by
  refine fn_ok (fn := Tryz.f179) (k := Tryz.f179.ntmps) (E := E_closedBy) (facts_of (List.forall_mem_cons.2 ⟨ok_isAnySet, List.forall_mem_cons.2 ⟨ok_areAnyRules, List.forall_mem_cons.2 ⟨ok_oneStep, List.forall_mem_nil _⟩⟩⟩)) (by kernel_rfl) rfl (by decide +kernel) (by decide +kernel) ?_
  intro avs hin r h
  unfold K_closedBy at h
  split at h
  · obtain ⟨hp, rfl⟩ := gd_o h
    exact ⟨_, ev_closedBy _ _ hp, rfl⟩
  · cases h

/- spec.l9Closed -/
def K_l9Closed : List AV → List Ob → Option (AV × List Ob)
  | [.lst (.pair (.int .i64) (.int .i64)) R, .int .i64 s], [] => gd (R.length ≤ 64 ∧ R.any badR = false ∧ (0 ≤ s ∧ s ≤ 255)) (.int .i64 (clR R s), [])
  | _, _ => none
@[reducible] def E_l9Closed : Env := mkE (tb []) (fun f => false) (fun r => bif r == 2 then ([0, 1, 5], [0, 1, 5]) else bif r == 5 then ([0, 1, 5, 6], [0, 1, 5]) else ([], []))
theorem lq_l9Closed (R : List (Int × Int)) (hR : R.length ≤ 64) (k : AX → S → Option (AV × List Ob)) (d : Nat) : ∀ (n i : Nat) (x : Int) (p : Int × Bool), R.length - i = d → i ≤ R.length → x = i → d < n →
    lpAt E_l9Closed (lp E_l9Closed 0 n) 0 (loopAt Tryz.f173 1) (mkS [0, 1, 5, 6] [.lst (.pair (.int .i64) (.int .i64)) R, .int .i64 p.1, .bool p.2, .int .i64 x] []) k =
      k (.exit 2) (mkS [0, 1, 5] [.lst (.pair (.int .i64) (.int .i64)) R, .int .i64 (passL (R.drop i) p).1, .bool (passL (R.drop i) p).2] []) := by
  induction d with
  | zero =>
    intro n i x p hd hi hx hn
    subst hx
    rw [lpAt_def]
    conv => lhs; whnf
    refine br_f (df (by omega)) ?_
    conv => lhs; whnf
    rw [List.drop_of_length_le (by omega)]
    rfl
  | succ d ih =>
    intro n i x p hd hi hx hn
    obtain ⟨n, rfl⟩ : ∃ m, n = m + 1 := ⟨n - 1, by omega⟩
    subst hx
    have hih := fun q => ih n (i + 1) (IntKind.i64.wrap ((i : Int) + 1)) q (by omega) (by omega) (by rw [wrap64 (n := (i : Int) + 1) (by omega) (by omega)]; simp) (by omega)
    clear ih
    rw [getD_drop (l := R) (i := i) (d := (0, 0)) (by omega), passL, lpAt_def]
    conv => lhs; whnf
    refine br_t (dt (by omega)) ?_
    conv => lhs; whnf
    refine br_t (dt2 (by omega) (by omega)) ?_
    conv => lhs; whnf
    refine br_t (dt2 (by omega) (by omega)) ?_
    conv => lhs; whnf
    refine br_c (fun h => ?_) (fun h => ?_)
    · have h' : (band (R.getD i (0, 0)).1 p.1 == (R.getD i (0, 0)).1) = true := h
      conv => lhs; whnf
      repeat ((first | with_reducible apply br_tt | with_reducible apply br_ff | with_reducible apply br_nf | with_reducible apply br_nt | with_reducible refine br_d ?_ (by kernel_rfl) | with_reducible apply br_t h | with_reducible apply br_f h | with_reducible refine br_t (dt2 (by omega) (by omega)) ?_ | with_reducible refine br_t (dt (by omega)) ?_); conv => lhs; whnf)
      refine br_c (fun h2 => ?_) (fun h2 => ?_)
      · have h2' : (band (R.getD i (0, 0)).2 p.1 != (R.getD i (0, 0)).2) = true := h2
        conv => lhs; whnf
        repeat ((first | with_reducible apply br_tt | with_reducible apply br_ff | with_reducible apply br_nf | with_reducible apply br_nt | with_reducible refine br_d ?_ (by kernel_rfl) | with_reducible apply br_t h | with_reducible apply br_f h | with_reducible apply br_t h2 | with_reducible apply br_f h2 | with_reducible refine br_t (dt2 (by omega) (by omega)) ?_ | with_reducible refine br_t (dt (by omega)) ?_); conv => lhs; whnf)
        rw [h', h2', Bool.and_self, cond_true]
        exact hih (bor p.1 (R.getD i (0, 0)).2, true)
      · have h2' : (band (R.getD i (0, 0)).2 p.1 != (R.getD i (0, 0)).2) = false := h2
        conv => lhs; whnf
        repeat ((first | with_reducible apply br_tt | with_reducible apply br_ff | with_reducible apply br_nf | with_reducible apply br_nt | with_reducible refine br_d ?_ (by kernel_rfl) | with_reducible apply br_t h | with_reducible apply br_f h | with_reducible apply br_t h2 | with_reducible apply br_f h2 | with_reducible refine br_t (dt2 (by omega) (by omega)) ?_ | with_reducible refine br_t (dt (by omega)) ?_); conv => lhs; whnf)
        rw [h', h2', Bool.and_false, cond_false]
        exact hih p
    · have h' : (band (R.getD i (0, 0)).1 p.1 == (R.getD i (0, 0)).1) = false := h
      conv => lhs; whnf
      repeat ((first | with_reducible apply br_tt | with_reducible apply br_ff | with_reducible apply br_nf | with_reducible apply br_nt | with_reducible refine br_d ?_ (by kernel_rfl) | with_reducible apply br_t h | with_reducible apply br_f h | with_reducible refine br_t (dt2 (by omega) (by omega)) ?_ | with_reducible refine br_t (dt (by omega)) ?_); conv => lhs; whnf)
      rw [h', Bool.false_and, cond_false]
      exact hih p

theorem lp_l9Closed (R : List (Int × Int)) (hR : R.length ≤ 64) (hRS : RSet R) (k : AX → S → Option (AV × List Ob)) (d : Nat) : ∀ (n : Nat) (s : Int), (0 ≤ s ∧ s ≤ 255) → 256 ≤ d + s.toNat → d + 70 < n →
    lpAt E_l9Closed (lp E_l9Closed 0 n) 0 (loopAt Tryz.f173 0) (mkS [0, 1, 5] [.lst (.pair (.int .i64) (.int .i64)) R, .int .i64 s, .bool true] []) k =
      k (.exit 0) (mkS [0, 1, 5] [.lst (.pair (.int .i64) (.int .i64)) R, .int .i64 (iterP R d s), .bool false] []) := by
  induction d with
  | zero => intro n s hs hd hn; omega
  | succ d ih =>
    intro n s hs hd hn
    obtain ⟨n, rfl⟩ : ∃ m, n = m + 1 := ⟨n - 1, by omega⟩
    obtain ⟨h1, h2, h3, h4, h5⟩ := passL_spec R s false hRS hs
    rw [iterP, lpAt_def]
    conv => lhs; whnf
    repeat ((first | with_reducible apply br_tt | with_reducible apply br_ff | with_reducible apply br_nf | with_reducible apply br_nt | with_reducible refine br_d ?_ (by kernel_rfl)); conv => lhs; whnf)
    refine (lq_l9Closed R hR _ R.length _ 0 0 (s, false) rfl (Nat.zero_le _) rfl (by omega)).trans ?_
    rw [List.drop_zero]
    conv => lhs; whnf
    cases hq : (passL R (s, false)).2 with
    | true =>
      rw [cond_true]
      have hlt : s.toNat < (passL R (s, false)).1.toNat := (h4 hq).elim (fun h => by cases h) id
      exact ih n _ h1 (by omega) (by omega)
    | false =>
      rw [cond_false]
      conv => lhs; whnf
      obtain ⟨m, rfl⟩ : ∃ m, n = m + 1 := ⟨n - 1, by omega⟩
      conv => lhs; whnf
      rw [lpAt_def]
      conv => lhs; whnf
      repeat ((first | with_reducible apply br_tt | with_reducible apply br_ff | with_reducible apply br_nf | with_reducible apply br_nt | with_reducible refine br_d ?_ (by kernel_rfl)); conv => lhs; whnf)
theorem ev_l9Closed (R : List (Int × Int)) (s : Int) (hp : R.length ≤ 64 ∧ R.any badR = false ∧ (0 ≤ s ∧ s ≤ 255)) : evF E_l9Closed (400) Tryz.f173 [.lst (.pair (.int .i64) (.int .i64)) R, .int .i64 s] [] = some (.int .i64 (clR R s), []) := by
  obtain ⟨h1, h2, h3⟩ := hp
  rw [← iterP_clR (RSet_of h2) h3]
  conv => lhs; whnf
  refine (lp_l9Closed R h1 (RSet_of h2) _ 256 _ s h3 (by omega) (by change _ < 399; omega)).trans ?_
  conv => lhs; whnf
theorem ok_l9Closed : FnOk Tryz.prog 173 K_l9Closed := by
  refine fn_ok (fn := Tryz.f173) (k := Tryz.f173.ntmps) (E := E_l9Closed) (facts_of (List.forall_mem_nil _)) (by kernel_rfl) rfl (by decide +kernel) (by decide +kernel) ?_
  intro avs hin r h
  unfold K_l9Closed at h
  split at h
  · obtain ⟨hp, rfl⟩ := gd_o h
    exact ⟨_, ev_l9Closed _ _ hp, rfl⟩
  · cases h

def holdB (m : Int) (b : List Int) (p q : Int) : Bool := (isCtx m b && isSet m p) && (isSet m q && (bnot q (intentF m b (extF b p)) == 0))
theorem lecB_nat {x y : Nat} (hx : x < 64) (hy : y < 64) : lecB (x : Int) (y : Int) = lecN x y := by
  unfold lecB
  have e1 : isSet 8 (x : Int) = true := by rw [isSet8]; exact dt (by omega)
  have e2 : isSet 8 (y : Int) = true := by rw [isSet8]; exact dt (by omega)
  rw [e1, e2]
  rfl
theorem castN_getD {L : List Nat} {i : Nat} (h : i < L.length) : (castN L).getD i 0 = ((L.getD i 0 : Nat) : Int) := by
  simp [castN, List.getD_eq_getElem?_getD, List.getElem?_eq_getElem h]
def nmX (n : Int) (R : List (Int × Int)) (s : Int) : Int := ((nmV n.toNat R s.toNat : Nat) : Int)
def nmK (n : Int) (R : List (Int × Int)) (s : Int) : Bool := (nmO n.toNat R s.toNat).isSome
theorem ExI.rall {m : Int} {B : List Int} {a : Nat} {ex : List Int} {R : List (Int × Int)} (h : ExI m B a ex R) : R.all (fun r => isSet m r.1 && isSet m r.2) = true := by
  rw [List.all_eq_true]
  intro r hr
  obtain ⟨p, rfl, q2, _⟩ := h.rl r hr
  rw [set_of_lt h.ctx q2, set_of_lt h.ctx ((cl_clo h.ctx).lt p q2)]
  rfl
/-- A rule is refuted by a row, or holds. -/
theorem hold_cex {m : Int} {B : List Int} {a b : Nat} (h : isCtx m B = true) (ha : a < 2 ^ m.toNat) (hb : b < 2 ^ m.toNat) : holdB m B a b = !decide (cexF B a b ≥ 0) := by
  have hl := isCtx_len h
  have hpw := pow64 (n := m.toNat) (by omega)
  have hcl := (cl_clo h).lt a ha
  unfold holdB cexF
  rw [h, set_of_lt h ha, set_of_lt h hb, firstI_iff _ _ _ (Int.le_refl _), clN_int h (by omega), Bool.true_and, Bool.true_and, Bool.true_and, Bool.eq_iff_iff, bnotSub (by omega) (by omega), Bool.not_eq_true', List.any_eq_false, Int.toNat_natCast, Int.toNat_natCast]
  constructor
  · intro g row hr
    have hrow := ctx_small h row hr
    unfold cexB
    intro hc
    rw [Bool.and_eq_true, Bool.not_eq_true'] at hc
    have q1 := (bnotSub (by omega) hrow).1 hc.1
    rw [Int.toNat_natCast] at q1
    have q2 := sub_trans g (cl_row h (by omega) hr q1)
    have q3 := (bnotSub (p := (b : Int)) (by omega) hrow).2 (by rw [Int.toNat_natCast]; exact q2)
    rw [q3] at hc
    cases hc.2
  · intro g i hi
    have hib : (i : Int) < m := by
      rcases Nat.lt_or_ge i m.toNat with hi' | hi'
      · omega
      · rw [Nat.testBit_lt_two_pow (Nat.lt_of_lt_of_le hb (Nat.pow_le_pow_right (by omega) hi'))] at hi
        cases hi
    refine (clN_bit h (by omega) i).2 ⟨hib, fun k hk hs => ?_⟩
    have hm := mem_getD (l := B) (d := 0) hk
    have hrow := ctx_small h _ hm
    have := g _ hm
    unfold cexB at this
    rw [(bnotSub (p := (a : Int)) (by omega) hrow).2 (by rw [Int.toNat_natCast]; exact hs), Bool.true_and] at this
    have h3 : (bnot (b : Int) (B.getD k 0) == 0) = true := by simpa using this
    have h4 := (bnotSub (by omega) hrow).1 h3
    rw [Int.toNat_natCast] at h4
    exact h4 i hi
theorem lecL_length (n : Nat) : (lecL n).length = 2 ^ n := by unfold lecL; simp
def explF (m : Int) (B : List Int) : List Int × List (Int × Int) × QL := bif isCtx m B then exR m B 80 0 [] [] [] else ([], [], [])
def explM (m : Int) (B : List Int) : Int := bif isCtx m B then m else 0
theorem explF_len (m : Int) (B : List Int) : (explF m B).1.length ≤ 8 ∧ (explF m B).2.1.length ≤ 32 ∧ (explF m B).2.2.length ≤ 80 := by
  unfold explF
  cases h : isCtx m B with
  | false => exact ⟨Nat.zero_le _, Nat.zero_le _, Nat.zero_le _⟩
  | true =>
    have := exR_len 80 0 [] [] [] (ExI.start h)
    rw [cond_true]
    simp only [List.length_nil, Nat.zero_add] at this
    exact this
/- spec.l14Known -/
def K_l14Known : List AV → List Ob → Option (AV × List Ob)
  | [.agg [.int .i64 m, .lst (.int .i64) b], .lst (.int .i64) []], [] => gd (b.length ≤ 1048576) (.bool (isCtx m b), [])
  | _, _ => none
@[reducible] def E_l14Known : Env := mkE (tb [(38, K_specIsContext)]) (fun f => false) (fun r => bif r == 2 then ([1, 2, 5], [2, 4]) else ([], []))
theorem ev_l14Known (m : Int) (b : List Int) (hp : b.length ≤ 1048576) : evF E_l14Known (3) Tryz.f108 [.agg [.int .i64 m, .lst (.int .i64) b], .lst (.int .i64) []] [] = some (.bool (isCtx m b), []) := by
  conv => lhs; whnf
  rw [lpAt_def]
  conv => lhs; whnf
  refine br_f (by rfl) ?_
  conv => lhs; whnf
  conv => lhs; arg 1; whnf
  refine bnd_g (by omega) ?_
  conv => lhs; whnf
theorem ok_l14Known : FnOk Tryz.prog 108 K_l14Known := by
  refine fn_ok (fn := Tryz.f108) (k := Tryz.f108.ntmps) (E := E_l14Known) (facts_of (List.forall_mem_cons.2 ⟨ok_specIsContext, List.forall_mem_nil _⟩)) (by kernel_rfl) rfl (by decide +kernel) (by decide +kernel) ?_
  intro avs hin r h
  unfold K_l14Known at h
  split at h
  · obtain ⟨hp, rfl⟩ := gd_o h
    exact ⟨_, ev_l14Known _ _ hp, rfl⟩
  · cases h

/- spec.l14Counter -/
def K_l14Counter : List AV → List Ob → Option (AV × List Ob)
  | [.agg [.int .i64 m, .lst (.int .i64) B], .int .i64 a, .int .i64 b], [] => gd (isCtx m B = true ∧ (0 ≤ a ∧ a ≤ 255) ∧ (0 ≤ b ∧ b ≤ 255)) (.int .i64 (cexF B a b), [])
  | _, _ => none
@[reducible] def E_l14Counter : Env := mkE (tb []) (fun f => false) (fun r => bif r == 2 then ([1, 2, 3, 7], [6]) else ([], []))
theorem lp_l14Counter (m : Int) (B : List Int) (hB : B.length ≤ 8) (hs : Small B) (a b : Int) (ha : 0 ≤ a ∧ a ≤ 255) (hb : 0 ≤ b ∧ b ≤ 255) (k : AX → S → Option (AV × List Ob)) (d : Nat) : ∀ (n i : Nat) (x : Int), B.length - i = d → i ≤ B.length → x = i → d < n →
    lpAt E_l14Counter (lp E_l14Counter 0 n) 0 (loopAt Tryz.f111 0) (mkS [1, 2, 3, 7] [.int .i64 a, .int .i64 b, .ptr 0 0, .int .i64 x] [some (.box 27 [.int .i64 m, .lst (.int .i64) B])]) k =
      if (B.drop i).any (cexB a b) then k .ret (mkS [6] [.int .i64 (firstI (cexB a b) (B.drop i) i)] []) else k (.exit 0) (mkS [6] [.any] []) := by
  induction d with
  | zero =>
    intro n i x hd hi hx hn
    subst hx
    rw [List.drop_of_length_le (by omega), lpAt_def]
    conv => lhs; whnf
    refine br_f (df (by omega)) ?_
    conv => lhs; whnf
    rfl
  | succ d ih =>
    intro n i x hd hi hx hn
    obtain ⟨n, rfl⟩ : ∃ m, n = m + 1 := ⟨n - 1, by omega⟩
    subst hx
    have hih := ih n (i + 1) (IntKind.i64.wrap ((i : Int) + 1)) (by omega) (by omega) (by rw [wrap64 (n := (i : Int) + 1) (by omega) (by omega)]; simp) (by omega)
    clear ih
    have hrow := hs _ (mem_getD (l := B) (i := i) (d := 0) (by omega))
    have e1 : (band (B.getD i 0) a == a) = (bnot a (B.getD i 0) == 0) := by rw [band_comm, Bool.eq_iff_iff, bandSub ha hrow, bnotSub ha hrow]
    have e2 : (band (B.getD i 0) b != b) = !(bnot b (B.getD i 0) == 0) := by
      unfold bne
      congr 1
      rw [band_comm, Bool.eq_iff_iff, bandSub hb hrow, bnotSub hb hrow]
    rw [getD_drop (l := B) (i := i) (d := 0) (by omega), List.any_cons, firstI, lpAt_def]
    conv => lhs; whnf
    refine br_t (dt (by omega)) ?_
    conv => lhs; whnf
    refine br_t (dt2 (by omega) (by omega)) ?_
    conv => lhs; whnf
    refine br_c (fun h => ?_) (fun h => ?_)
    · have h' := e1.symm.trans h
      conv => lhs; whnf
      repeat ((first | with_reducible apply br_tt | with_reducible apply br_ff | with_reducible apply br_nf | with_reducible apply br_nt | with_reducible refine br_d ?_ (by kernel_rfl) | with_reducible apply br_t h | with_reducible apply br_f h | with_reducible refine br_t (dt2 (by omega) (by omega)) ?_ | with_reducible refine br_t (dt (by omega)) ?_); conv => lhs; whnf)
      refine br_c (fun h2 => ?_) (fun h2 => ?_)
      · have h2' := e2.symm.trans h2
        have hx : cexB a b (B.getD i 0) = true := by unfold cexB; rw [h', h2']; rfl
        conv => lhs; whnf
        repeat ((first | with_reducible apply br_tt | with_reducible apply br_ff | with_reducible apply br_nf | with_reducible apply br_nt | with_reducible refine br_d ?_ (by kernel_rfl) | with_reducible apply br_t h | with_reducible apply br_f h | with_reducible apply br_t h2 | with_reducible apply br_f h2 | with_reducible refine br_t (dt2 (by omega) (by omega)) ?_ | with_reducible refine br_t (dt (by omega)) ?_); conv => lhs; whnf)
        rw [hx, Bool.true_or, if_pos rfl, cond_true]
      · have h2' := e2.symm.trans h2
        have hx : cexB a b (B.getD i 0) = false := by unfold cexB; rw [h', h2']; rfl
        conv => lhs; whnf
        repeat ((first | with_reducible apply br_tt | with_reducible apply br_ff | with_reducible apply br_nf | with_reducible apply br_nt | with_reducible refine br_d ?_ (by kernel_rfl) | with_reducible apply br_t h | with_reducible apply br_f h | with_reducible apply br_t h2 | with_reducible apply br_f h2 | with_reducible refine br_t (dt2 (by omega) (by omega)) ?_ | with_reducible refine br_t (dt (by omega)) ?_); conv => lhs; whnf)
        rw [hx, Bool.false_or, cond_false]
        exact hih
    · have h' := e1.symm.trans h
      have hx : cexB a b (B.getD i 0) = false := by unfold cexB; rw [h']; rfl
      conv => lhs; whnf
      repeat ((first | with_reducible apply br_tt | with_reducible apply br_ff | with_reducible apply br_nf | with_reducible apply br_nt | with_reducible refine br_d ?_ (by kernel_rfl) | with_reducible apply br_t h | with_reducible apply br_f h | with_reducible refine br_t (dt2 (by omega) (by omega)) ?_ | with_reducible refine br_t (dt (by omega)) ?_); conv => lhs; whnf)
      rw [hx, Bool.false_or, cond_false]
      exact hih
theorem ev_l14Counter (m : Int) (B : List Int) (a b : Int) (hp : isCtx m B = true ∧ (0 ≤ a ∧ a ≤ 255) ∧ (0 ≤ b ∧ b ≤ 255)) : evF E_l14Counter (20) Tryz.f111 [.agg [.int .i64 m, .lst (.int .i64) B], .int .i64 a, .int .i64 b] [] = some (.int .i64 (cexF B a b), []) := by
  have hl := isCtx_len hp.1
  conv => lhs; whnf
  refine (lp_l14Counter m B hl.1 (ctx_small hp.1) a b hp.2.1 hp.2.2 _ B.length _ 0 0 rfl (Nat.zero_le _) rfl (by change _ < 19; omega)).trans ?_
  rw [List.drop_zero]
  unfold cexF
  split
  · conv => lhs; whnf
    rfl
  · rename_i he
    conv => lhs; whnf
    have : firstI (cexB a b) B 0 = -1 := firstI_none _ _ _ (by simpa using he)
    rw [this]
theorem ok_l14Counter : FnOk Tryz.prog 111 K_l14Counter := by
  refine fn_ok (fn := Tryz.f111) (k := Tryz.f111.ntmps) (E := E_l14Counter) (facts_of (List.forall_mem_nil _)) (by kernel_rfl) rfl (by decide +kernel) (by decide +kernel) ?_
  intro avs hin r h
  unfold K_l14Counter at h
  split at h
  · obtain ⟨hp, rfl⟩ := gd_o h
    exact ⟨_, ev_l14Counter _ _ _ _ hp, rfl⟩
  · cases h

/- spec.l9Rule -/
def K_l9RuleN : List AV → List Ob → Option (AV × List Ob)
  | [.int .i64 n, .agg [.int .i64 p, .int .i64 q]], [] => gd (True) (.bool (isSet n p && isSet n q), [])
  | _, _ => none
@[reducible] def E_l9RuleN : Env := mkE (tb [(95, K_specIsSet)]) (fun f => false) (fun r => ([], []))
theorem ev_l9RuleN (n p q : Int) (hp : True) : evF E_l9RuleN (1) Tryz.f196 [.int .i64 n, .agg [.int .i64 p, .int .i64 q]] [] = some (.bool (isSet n p && isSet n q), []) := by
  conv => lhs; whnf
  conv => lhs; arg 1; whnf
  refine bnd_g (by exact True.intro) ?_
  conv => lhs; whnf
  refine br_c (fun h => ?_) (fun h => ?_)
  · conv => lhs; whnf
    repeat ((first | with_reducible apply br_tt | with_reducible apply br_ff | with_reducible apply br_nf | with_reducible apply br_nt | with_reducible refine br_d ?_ (by kernel_rfl) | with_reducible apply br_t h | with_reducible apply br_f h); conv => lhs; whnf)
    conv => lhs; arg 1; whnf
    refine bnd_g (by exact True.intro) ?_
    conv => lhs; whnf
    repeat ((first | with_reducible apply br_tt | with_reducible apply br_ff | with_reducible apply br_nf | with_reducible apply br_nt | with_reducible refine br_d ?_ (by kernel_rfl) | with_reducible apply br_t h | with_reducible apply br_f h); conv => lhs; whnf)
    rw [h, Bool.true_and]
  · conv => lhs; whnf
    repeat ((first | with_reducible apply br_tt | with_reducible apply br_ff | with_reducible apply br_nf | with_reducible apply br_nt | with_reducible refine br_d ?_ (by kernel_rfl) | with_reducible apply br_t h | with_reducible apply br_f h); conv => lhs; whnf)
    rw [h, Bool.false_and]
theorem ok_l9RuleN : FnOk Tryz.prog 196 K_l9RuleN := by
  refine fn_ok (fn := Tryz.f196) (k := Tryz.f196.ntmps) (E := E_l9RuleN) (facts_of (List.forall_mem_cons.2 ⟨ok_specIsSet, List.forall_mem_nil _⟩)) (by kernel_rfl) rfl (by decide +kernel) (by decide +kernel) ?_
  intro avs hin r h
  unfold K_l9RuleN at h
  split at h
  · obtain ⟨hp, rfl⟩ := gd_o h
    exact ⟨_, ev_l9RuleN _ _ _ hp, rfl⟩
  · cases h

/- spec.AreRules -/
def K_specAreRules : List AV → List Ob → Option (AV × List Ob)
  | [.int .i64 n, .lst (.pair (.int .i64) (.int .i64)) R], [] => gd ((0 ≤ n ∧ n ≤ 6) ∧ R.length ≤ 40 ∧ R.all (fun r => isSet n r.1 && isSet n r.2) = true) (.bool true, [])
  | _, _ => none
@[reducible] def E_specAreRules : Env := mkE (tb [(196, K_l9RuleN), (96, K_l1In)]) (fun f => false) (fun r => bif r == 2 then ([0, 1, 5], [0, 1, 4]) else ([], []))
theorem lp_specAreRules (m : Int) (R : List (Int × Int)) (hR : R.length ≤ 64) (hs : R.all (fun r => isSet m r.1 && isSet m r.2) = true) (k : AX → S → Option (AV × List Ob)) (d : Nat) : ∀ (n i : Nat) (x : Int), R.length - i = d → i ≤ R.length → x = i → d < n →
    lpAt E_specAreRules (lp E_specAreRules 0 n) 0 (loopAt Tryz.f171 0) (mkS [0, 1, 5] [.int .i64 m, .lst (.pair (.int .i64) (.int .i64)) R, .int .i64 x] []) k =
      k (.exit 0) (mkS [0, 1, 4] [.int .i64 m, .lst (.pair (.int .i64) (.int .i64)) R, .any] []) := by
  induction d with
  | zero =>
    intro n i x hd hi hx hn
    subst hx
    rw [lpAt_def]
    conv => lhs; whnf
    refine br_f (df (by omega)) ?_
    conv => lhs; whnf
  | succ d ih =>
    intro n i x hd hi hx hn
    obtain ⟨n, rfl⟩ : ∃ m, n = m + 1 := ⟨n - 1, by omega⟩
    subst hx
    have hri := List.all_eq_true.1 hs _ (mem_getD (l := R) (i := i) (d := (0, 0)) (by omega))
    have hri' : (!(isSet m (R.getD i (0, 0)).1 && isSet m (R.getD i (0, 0)).2)) = false := by rw [hri]; rfl
    rw [lpAt_def]
    conv => lhs; whnf
    refine br_t (dt (by omega)) ?_
    conv => lhs; whnf
    refine br_t (dt2 (by omega) (by omega)) ?_
    conv => lhs; whnf
    conv => lhs; arg 1; whnf
    refine bnd_g (by exact True.intro) ?_
    conv => lhs; whnf
    refine br_f (by exact hri') ?_
    conv => lhs; whnf
    exact ih n (i + 1) _ (by omega) (by omega) (by rw [wrap64 (n := (i : Int) + 1) (by omega) (by omega)]; simp) (by omega)
theorem ev_specAreRules (n : Int) (R : List (Int × Int)) (hp : (0 ≤ n ∧ n ≤ 6) ∧ R.length ≤ 40 ∧ R.all (fun r => isSet n r.1 && isSet n r.2) = true) : evF E_specAreRules (80) Tryz.f171 [.int .i64 n, .lst (.pair (.int .i64) (.int .i64)) R] [] = some (.bool true, []) := by
  conv => lhs; whnf
  refine (lp_specAreRules n R (by omega) hp.2.2 _ R.length _ 0 0 rfl (Nat.zero_le _) rfl (by change _ < 79; omega)).trans ?_
  conv => lhs; whnf
  conv => lhs; arg 1; whnf
  refine bnd_g (by exact True.intro) ?_
  conv => lhs; whnf
  have hb : decide (0 ≤ n ∧ n ≤ 6) = true := dt hp.1
  repeat ((first | with_reducible apply br_tt | with_reducible apply br_ff | with_reducible apply br_nf | with_reducible apply br_nt | with_reducible refine br_d ?_ (by kernel_rfl) | with_reducible apply br_t hb | with_reducible apply br_f hb); conv => lhs; whnf)
  refine okB ?_
  exact dt (by omega)
theorem ok_specAreRules : FnOk Tryz.prog 171 K_specAreRules := by
  refine fn_ok (fn := Tryz.f171) (k := Tryz.f171.ntmps) (E := E_specAreRules) (facts_of (List.forall_mem_cons.2 ⟨ok_l9RuleN, List.forall_mem_cons.2 ⟨ok_l1In, List.forall_mem_nil _⟩⟩)) (by kernel_rfl) rfl (by decide +kernel) (by decide +kernel) ?_
  intro avs hin r h
  unfold K_specAreRules at h
  split at h
  · obtain ⟨hp, rfl⟩ := gd_o h
    exact ⟨_, ev_specAreRules _ _ hp, rfl⟩
  · cases h

/- spec.BeforeSet -/
def K_specBeforeSet : List AV → List Ob → Option (AV × List Ob)
  | [.int .i64 s, .int .i64 t], [] => gd ((0 ≤ s ∧ s ≤ 63) ∧ (0 ≤ t ∧ t ≤ 63)) (.bool (lecB s t), [])
  | _, _ => none
@[reducible] def E_specBeforeSet : Env := mkE (tb [(95, K_specIsSet)]) (fun f => false) (fun r => ([], []))
theorem ev_specBeforeSet (s t : Int) (hp : (0 ≤ s ∧ s ≤ 63) ∧ (0 ≤ t ∧ t ≤ 63)) : evF E_specBeforeSet (1) Tryz.f172 [.int .i64 s, .int .i64 t] [] = some (.bool (lecB s t), []) := by
  have h1 : isSet 8 s = true := by rw [isSet8]; exact dt ⟨hp.1.1, by omega⟩
  have h2 : isSet 8 t = true := by rw [isSet8]; exact dt ⟨hp.2.1, by omega⟩
  have g1 : (!isSet 8 s) = false := by rw [h1]; rfl
  have g2 : (!isSet 8 t) = false := by rw [h2]; rfl
  conv => lhs; whnf
  conv => lhs; arg 1; whnf
  refine bnd_g (by exact True.intro) ?_
  conv => lhs; whnf
  repeat ((first | with_reducible apply br_tt | with_reducible apply br_ff | with_reducible apply br_nf | with_reducible apply br_nt | with_reducible refine br_d ?_ (by kernel_rfl) | with_reducible apply br_t g1 | with_reducible apply br_f g1); conv => lhs; whnf)
  conv => lhs; arg 1; whnf
  refine bnd_g (by exact True.intro) ?_
  conv => lhs; whnf
  repeat ((first | with_reducible apply br_tt | with_reducible apply br_ff | with_reducible apply br_nf | with_reducible apply br_nt | with_reducible refine br_d ?_ (by kernel_rfl) | with_reducible apply br_t g1 | with_reducible apply br_f g1 | with_reducible apply br_t g2 | with_reducible apply br_f g2); conv => lhs; whnf)
  refine br_c (fun h => ?_) (fun h => ?_)
  · have h' : (s == t) = true := h
    have he : s = t := by simpa using h'
    subst he
    conv => lhs; whnf
    repeat ((first | with_reducible apply br_tt | with_reducible apply br_ff | with_reducible apply br_nf | with_reducible apply br_nt | with_reducible refine br_d ?_ (by kernel_rfl) | with_reducible apply br_t g1 | with_reducible apply br_f g1 | with_reducible apply br_t g2 | with_reducible apply br_f g2 | with_reducible apply br_t h | with_reducible apply br_f h); conv => lhs; whnf)
    refine okB ?_
    rw [lecB_br hp.1 hp.1, df (by omega)]
  · have h' : (s == t) = false := h
    have he : s ≠ t := by simpa using h'
    conv => lhs; whnf
    repeat ((first | with_reducible apply br_tt | with_reducible apply br_ff | with_reducible apply br_nf | with_reducible apply br_nt | with_reducible refine br_d ?_ (by kernel_rfl) | with_reducible apply br_t g1 | with_reducible apply br_f g1 | with_reducible apply br_t g2 | with_reducible apply br_f g2 | with_reducible apply br_t h | with_reducible apply br_f h); conv => lhs; whnf)
    refine okB ?_
    have := bs_all ⟨s.toNat, by omega⟩ ⟨t.toNat, by omega⟩ (fun e => he (by have := congrArg Fin.val e; simp only at this; omega))
    simp only [Int.toNat_of_nonneg hp.1.1, Int.toNat_of_nonneg hp.2.1] at this
    exact this
theorem ok_specBeforeSet : FnOk Tryz.prog 172 K_specBeforeSet := by
  refine fn_ok (fn := Tryz.f172) (k := Tryz.f172.ntmps) (E := E_specBeforeSet) (facts_of (List.forall_mem_cons.2 ⟨ok_specIsSet, List.forall_mem_nil _⟩)) (by kernel_rfl) rfl (by decide +kernel) (by decide +kernel) ?_
  intro avs hin r h
  unfold K_specBeforeSet at h
  split at h
  · obtain ⟨hp, rfl⟩ := gd_o h
    exact ⟨_, ev_specBeforeSet _ _ hp, rfl⟩
  · cases h

/- spec.NextModel -/
def K_specNextModel : List AV → List Ob → Option (AV × List Ob)
  | [.int .i64 n, .lst (.pair (.int .i64) (.int .i64)) R, .int .i64 s], [] => gd ((0 ≤ n ∧ n ≤ 6) ∧ R.length ≤ 40 ∧ R.all (fun r => isSet n r.1 && isSet n r.2) = true ∧ isSet n s = true) (.tup [.int .i64 (nmX n R s), .bool (nmK n R s)], [])
  | _, _ => none
@[reducible] def E_specNextModel : Env := mkE (tb [(171, K_specAreRules), (95, K_specIsSet), (109, K_specFullSet), (172, K_specBeforeSet), (173, K_l9Closed)]) (fun f => false) (fun r => bif r == 6 then ([0, 1, 2, 8, 9, 10], [8, 9]) else ([], []))
theorem lp_specNextModel (m : Int) (hm : 0 ≤ m ∧ m ≤ 6) (R : List (Int × Int)) (hR : R.length ≤ 64) (hb : R.any badR = false) (a : Nat) (ha : a < 64) (k : AX → S → Option (AV × List Ob)) (d : Nat) : ∀ (n t : Nat) (x : Int) (b : Option Nat), t + d = 2 ^ m.toNat → x = t → d < n → (∀ y, b = some y → y < t) →
    lpAt E_specNextModel (lp E_specNextModel 0 n) 0 (loopAt Tryz.f112 0) (mkS [0, 1, 2, 8, 9, 10] [.int .i64 m, .lst (.pair (.int .i64) (.int .i64)) R, .int .i64 (a : Int), .int .i64 ((b.getD 0 : Nat) : Int), .bool b.isSome, .int .i64 x] []) k =
      k (.exit 0) (mkS [8, 9] [.int .i64 (((nmS (modB R a) d t b).getD 0 : Nat) : Int), .bool (nmS (modB R a) d t b).isSome] []) := by
  have hpw := pow64 (n := m.toNat) (by omega)
  have hfull := full_nat hm.1 hm.2
  induction d with
  | zero =>
    intro n t x b hd hx hn hy
    subst hx
    have hf : decide ((t : Int) ≤ fullSet m) = false := df (by rw [hfull]; omega)
    rw [lpAt_def]
    conv => lhs; whnf
    conv => lhs; arg 1; whnf
    refine bnd_g (by exact True.intro) ?_
    conv => lhs; whnf
    repeat ((first | with_reducible apply br_tt | with_reducible apply br_ff | with_reducible apply br_nf | with_reducible apply br_nt | with_reducible refine br_d ?_ (by kernel_rfl) | with_reducible apply br_t hf | with_reducible apply br_f hf); conv => lhs; whnf)
    rfl
  | succ d ih =>
    intro n t x b hd hx hn hy
    obtain ⟨n, rfl⟩ : ∃ m, n = m + 1 := ⟨n - 1, by omega⟩
    subst hx
    have hih := fun b' hb' => ih n (t + 1) (IntKind.i64.wrap ((t : Int) + 1)) b' (by omega) (by rw [wrap64 (n := (t : Int) + 1) (by omega) (by omega)]; simp) (by omega) hb'
    clear ih
    have hf : decide ((t : Int) ≤ fullSet m) = true := dt (by rw [hfull]; omega)
    have hlb := lecB_nat (x := a) (y := t) ha (by omega)
    have hyy : ∀ y, b = some y → y < t + 1 := fun y h => by have := hy y h; omega
    have hR0 : modB R a t = false → nmS (modB R a) (d + 1) t b = nmS (modB R a) d (t + 1) b := fun e => by
      show nmS (modB R a) d (t + 1) _ = _
      rw [e]
      rfl
    rw [lpAt_def]
    conv => lhs; whnf
    conv => lhs; arg 1; whnf
    refine bnd_g (by exact True.intro) ?_
    conv => lhs; whnf
    repeat ((first | with_reducible apply br_tt | with_reducible apply br_ff | with_reducible apply br_nf | with_reducible apply br_nt | with_reducible refine br_d ?_ (by kernel_rfl) | with_reducible apply br_t hf | with_reducible apply br_f hf); conv => lhs; whnf)
    conv => lhs; arg 1; whnf
    refine bnd_g (by exact ⟨by omega, by omega⟩) ?_
    conv => lhs; whnf
    repeat ((first | with_reducible apply br_tt | with_reducible apply br_ff | with_reducible apply br_nf | with_reducible apply br_nt | with_reducible refine br_d ?_ (by kernel_rfl) | with_reducible apply br_t hf | with_reducible apply br_f hf); conv => lhs; whnf)
    refine br_c (fun h => ?_) (fun h => ?_)
    · have h' : lecN a t = true := hlb.symm.trans h
      conv => lhs; whnf
      repeat ((first | with_reducible apply br_tt | with_reducible apply br_ff | with_reducible apply br_nf | with_reducible apply br_nt | with_reducible refine br_d ?_ (by kernel_rfl) | with_reducible apply br_t h | with_reducible apply br_f h); conv => lhs; whnf)
      conv => lhs; arg 1; whnf
      refine bnd_g (by exact ⟨hR, hb, by omega⟩) ?_
      conv => lhs; whnf
      repeat ((first | with_reducible apply br_tt | with_reducible apply br_ff | with_reducible apply br_nf | with_reducible apply br_nt | with_reducible refine br_d ?_ (by kernel_rfl) | with_reducible apply br_t h | with_reducible apply br_f h); conv => lhs; whnf)
      refine br_c (fun h2 => ?_) (fun h2 => ?_)
      · have h2' : (clR R (t : Int) == (t : Int)) = true := h2
        have hmt : modB R a t = true := by unfold modB; rw [h', h2']; rfl
        conv => lhs; whnf
        repeat ((first | with_reducible apply br_tt | with_reducible apply br_ff | with_reducible apply br_nf | with_reducible apply br_nt | with_reducible refine br_d ?_ (by kernel_rfl) | with_reducible apply br_t h | with_reducible apply br_f h | with_reducible apply br_t h2 | with_reducible apply br_f h2); conv => lhs; whnf)
        cases b with
        | none =>
          have g0 : (!(none : Option Nat).isSome) = true := rfl
          conv => lhs; whnf
          repeat ((first | with_reducible apply br_tt | with_reducible apply br_ff | with_reducible apply br_nf | with_reducible apply br_nt | with_reducible refine br_d ?_ (by kernel_rfl) | with_reducible apply br_t h | with_reducible apply br_f h | with_reducible apply br_t h2 | with_reducible apply br_f h2 | with_reducible apply br_t g0 | with_reducible apply br_f g0); conv => lhs; whnf)
          refine (hih (some t) (fun y h => by cases h; omega)).trans ?_
          have e : nmS (modB R a) (d + 1) t none = nmS (modB R a) d (t + 1) (some t) := by
            show nmS (modB R a) d (t + 1) _ = _
            rw [hmt]
            rfl
          rw [e]
        | some y =>
          have hyt := hy y rfl
          have hly := lecB_nat (x := t) (y := y) (by omega) (by omega)
          have g0 : (!(some y : Option Nat).isSome) = false := rfl
          conv => lhs; whnf
          repeat ((first | with_reducible apply br_tt | with_reducible apply br_ff | with_reducible apply br_nf | with_reducible apply br_nt | with_reducible refine br_d ?_ (by kernel_rfl) | with_reducible apply br_t h | with_reducible apply br_f h | with_reducible apply br_t h2 | with_reducible apply br_f h2 | with_reducible apply br_t g0 | with_reducible apply br_f g0); conv => lhs; whnf)
          conv => lhs; arg 1; whnf
          refine bnd_g (by exact ⟨by omega, by dsimp only [Option.getD_some]; omega⟩) ?_
          conv => lhs; whnf
          repeat ((first | with_reducible apply br_tt | with_reducible apply br_ff | with_reducible apply br_nf | with_reducible apply br_nt | with_reducible refine br_d ?_ (by kernel_rfl) | with_reducible apply br_t h | with_reducible apply br_f h | with_reducible apply br_t h2 | with_reducible apply br_f h2 | with_reducible apply br_t g0 | with_reducible apply br_f g0); conv => lhs; whnf)
          have e : ∀ c, lecN t y = c → nmS (modB R a) (d + 1) t (some y) = nmS (modB R a) d (t + 1) (bif c then some t else some y) := fun c hc => by
            show nmS (modB R a) d (t + 1) _ = _
            rw [hmt]
            dsimp only
            rw [hc, Bool.true_and]
          refine br_c (fun h3 => ?_) (fun h3 => ?_)
          · have h3' : lecN t y = true := hly.symm.trans h3
            conv => lhs; whnf
            repeat ((first | with_reducible apply br_tt | with_reducible apply br_ff | with_reducible apply br_nf | with_reducible apply br_nt | with_reducible refine br_d ?_ (by kernel_rfl) | with_reducible apply br_t h | with_reducible apply br_f h | with_reducible apply br_t h2 | with_reducible apply br_f h2 | with_reducible apply br_t h3 | with_reducible apply br_f h3 | with_reducible apply br_t g0 | with_reducible apply br_f g0); conv => lhs; whnf)
            refine (hih (some t) (fun y h => by cases h; omega)).trans ?_
            rw [e true h3', cond_true]
          · have h3' : lecN t y = false := hly.symm.trans h3
            conv => lhs; whnf
            repeat ((first | with_reducible apply br_tt | with_reducible apply br_ff | with_reducible apply br_nf | with_reducible apply br_nt | with_reducible refine br_d ?_ (by kernel_rfl) | with_reducible apply br_t h | with_reducible apply br_f h | with_reducible apply br_t h2 | with_reducible apply br_f h2 | with_reducible apply br_t h3 | with_reducible apply br_f h3 | with_reducible apply br_t g0 | with_reducible apply br_f g0); conv => lhs; whnf)
            refine (hih (some y) hyy).trans ?_
            rw [e false h3', cond_false]
      · have h2' : (clR R (t : Int) == (t : Int)) = false := h2
        have hmt : modB R a t = false := by unfold modB; rw [h', h2']; rfl
        conv => lhs; whnf
        repeat ((first | with_reducible apply br_tt | with_reducible apply br_ff | with_reducible apply br_nf | with_reducible apply br_nt | with_reducible refine br_d ?_ (by kernel_rfl) | with_reducible apply br_t h | with_reducible apply br_f h | with_reducible apply br_t h2 | with_reducible apply br_f h2); conv => lhs; whnf)
        refine (hih b hyy).trans ?_
        rw [hR0 hmt]
    · have h' : lecN a t = false := hlb.symm.trans h
      have hmt : modB R a t = false := by unfold modB; rw [h']; rfl
      conv => lhs; whnf
      repeat ((first | with_reducible apply br_tt | with_reducible apply br_ff | with_reducible apply br_nf | with_reducible apply br_nt | with_reducible refine br_d ?_ (by kernel_rfl) | with_reducible apply br_t h | with_reducible apply br_f h); conv => lhs; whnf)
      refine (hih b hyy).trans ?_
      rw [hR0 hmt]
theorem ev_specNextModel (n : Int) (R : List (Int × Int)) (s : Int) (hp : (0 ≤ n ∧ n ≤ 6) ∧ R.length ≤ 40 ∧ R.all (fun r => isSet n r.1 && isSet n r.2) = true ∧ isSet n s = true) : evF E_specNextModel (80) Tryz.f112 [.int .i64 n, .lst (.pair (.int .i64) (.int .i64)) R, .int .i64 s] [] = some (.tup [.int .i64 (nmX n R s), .bool (nmK n R s)], []) := by
  obtain ⟨h1, h2, h3, h4⟩ := hp
  have hpw := pow64 (n := n.toNat) (by omega)
  obtain ⟨a, rfl, ha⟩ := isSet_ex h4
  have hb : R.any badR = false := by
    rw [List.any_eq_false]
    intro r hr
    have := List.all_eq_true.1 h3 r hr
    rw [Bool.and_eq_true] at this
    unfold badR
    rw [isSet_8 this.1, isSet_8 this.2]
    decide
  have g4 : (!isSet n (a : Int)) = false := by rw [h4]; rfl
  conv => lhs; whnf
  conv => lhs; arg 1; whnf
  refine bnd_g (by exact ⟨h1, h2, h3⟩) ?_
  conv => lhs; whnf
  repeat ((first | with_reducible apply br_tt | with_reducible apply br_ff | with_reducible apply br_nf | with_reducible apply br_nt | with_reducible refine br_d ?_ (by kernel_rfl)); conv => lhs; whnf)
  conv => lhs; arg 1; whnf
  refine bnd_g (by exact True.intro) ?_
  conv => lhs; whnf
  repeat ((first | with_reducible apply br_tt | with_reducible apply br_ff | with_reducible apply br_nf | with_reducible apply br_nt | with_reducible refine br_d ?_ (by kernel_rfl) | with_reducible apply br_t g4 | with_reducible apply br_f g4); conv => lhs; whnf)
  refine (lp_specNextModel n h1 R (by omega) hb a (by omega) _ (2 ^ n.toNat) _ 0 0 none (by omega) rfl (by change _ < 79; omega) (fun y h => by cases h)).trans ?_
  rw [nmO_eq (by omega)]
  conv => lhs; whnf
  unfold nmX nmK nmV
  rw [Int.toNat_natCast]
theorem ok_specNextModel : FnOk Tryz.prog 112 K_specNextModel := by
  refine fn_ok (fn := Tryz.f112) (k := Tryz.f112.ntmps) (E := E_specNextModel) (facts_of (List.forall_mem_cons.2 ⟨ok_specAreRules, List.forall_mem_cons.2 ⟨ok_specIsSet, List.forall_mem_cons.2 ⟨ok_specFullSet, List.forall_mem_cons.2 ⟨ok_specBeforeSet, List.forall_mem_cons.2 ⟨ok_l9Closed, List.forall_mem_nil _⟩⟩⟩⟩⟩)) (by kernel_rfl) rfl (by decide +kernel) (by decide +kernel) ?_
  intro avs hin r h
  unfold K_specNextModel at h
  split at h
  · obtain ⟨hp, rfl⟩ := gd_o h
    exact ⟨_, ev_specNextModel _ _ _ hp, rfl⟩
  · cases h

/- spec.Explore -/
def K_specExplore : List AV → List Ob → Option (AV × List Ob)
  | [.agg [.int .i64 m, .lst (.int .i64) B], .lst (.int .i64) []], [] => gd (B.length ≤ 1048576) (.tup [.agg [.own 0, .own 1, .int .i64 (explM m B), .own 2], .bool (isCtx m B)], [.row 93 (.pair (.pair (.int .i64) (.int .i64)) (.pair .bool (.int .i64))) (explF m B).2.2, .row 91 (.pair (.int .i64) (.int .i64)) (explF m B).2.1, .row 3 (.int .i64) (explF m B).1])
  | _, _ => none
@[reducible] def E_specExplore : Env := mkE (tb [(108, K_l14Known), (109, K_specFullSet), (110, K_specClosure), (111, K_l14Counter), (112, K_specNextModel)]) (fun f => false) (fun r => bif r == 5 then ([1, 2, 4, 6, 7], [2, 4, 6]) else bif r == 9 then ([2, 4, 6, 8], [2, 4, 6, 8]) else ([], []))
set_option maxHeartbeats 40000000 in
theorem lp_specExplore (m : Int) (B : List Int) (k : AX → S → Option (AV × List Ob)) (d : Nat) : ∀ (n a : Nat) (ex : List Int) (R : List (Int × Int)) (Q : QL), ExI m B a ex R → (64 - brev 6 a) + (8 - ex.length) ≤ d → d < n → Q.length + d ≤ 200 →
    lpAt E_specExplore (lp E_specExplore 0 n) 0 (loopAt Tryz.f50 1) (mkS [2, 4, 6, 8] [.ptr 0 0, .ptr 1 0, .ptr 5 0, .int .i64 (a : Int)] [some (.box 27 [.int .i64 m, .lst (.int .i64) B]), some (.box 34 [.own 2, .own 3, .int .i64 0, .own 4]), some (.row 93 (.pair (.pair (.int .i64) (.int .i64)) (.pair .bool (.int .i64))) []), some (.row 91 (.pair (.int .i64) (.int .i64)) []), some (.row 3 (.int .i64) []), some (.box 34 [.own 6, .own 7, .int .i64 m, .own 8]), some (.row 93 (.pair (.pair (.int .i64) (.int .i64)) (.pair .bool (.int .i64))) Q), some (.row 91 (.pair (.int .i64) (.int .i64)) R), some (.row 3 (.int .i64) ex)]) k =
      k (.exit 2) (mkS [2, 4, 6, 8] [.ptr 0 0, .ptr 1 0, .ptr 5 0, .int .i64 (fullSet m)] [some (.box 27 [.int .i64 m, .lst (.int .i64) B]), some (.box 34 [.own 2, .own 3, .int .i64 0, .own 4]), some (.row 93 (.pair (.pair (.int .i64) (.int .i64)) (.pair .bool (.int .i64))) []), some (.row 91 (.pair (.int .i64) (.int .i64)) []), some (.row 3 (.int .i64) []), some (.box 34 [.own 6, .own 7, .int .i64 m, .own 8]), some (.row 93 (.pair (.pair (.int .i64) (.int .i64)) (.pair .bool (.int .i64))) (exR m B d a ex R Q).2.2), some (.row 91 (.pair (.int .i64) (.int .i64)) (exR m B d a ex R Q).2.1), some (.row 3 (.int .i64) (exR m B d a ex R Q).1)]) := by
  induction d with
  | zero =>
    intro n a ex R Q hI hd hn hq
    have := hI.pos
    omega
  | succ d ih =>
    intro n a ex R Q hI hd hn hq
    obtain ⟨n, rfl⟩ : ∃ m, n = m + 1 := ⟨n - 1, by omega⟩
    have hl := isCtx_len hI.ctx
    have hpw := pow64 (n := m.toNat) (by omega)
    have hlt := hI.lt
    have hpos := hI.pos
    have hexl := hI.exlen
    have hRl := hI.len
    have hce := hI.ctxe
    have hcl := (cl_clo hce).lt a hlt
    have hci := clN_int hce (s := a) (by omega)
    have hset := set_of_lt hI.ctx hlt
    have hrb : 0 ≤ intentF m ex (extF ex (a : Int)) ∧ intentF m ex (extF ex (a : Int)) ≤ 255 := by rw [hci]; omega
    rw [exR, lpAt_def]
    conv => lhs; whnf
    conv => lhs; arg 1; whnf
    refine bnd_g (by exact True.intro) ?_
    conv => lhs; whnf
    refine br_c (fun h => ?_) (fun h => ?_)
    · have h1 : ((a : Int) == fullSet m) = false := by
        have h : ((a : Int) != fullSet m) = true := h
        rw [bne, Bool.not_eq_true'] at h
        exact h
      have hf : ¬ (a : Int) = fullSet m := by simpa using h1
      conv => lhs; whnf
      conv => lhs; arg 1; whnf
      refine bnd_g (by exact ⟨hce, by omega, by omega⟩) ?_
      conv => lhs; whnf
      conv => lhs; arg 1; whnf
      refine bnd_g (by exact ⟨hI.ctx, by omega, hrb⟩) ?_
      conv => lhs; whnf
      refine br_c (fun h2 => ?_) (fun h2 => ?_)
      · have h2' : ((a : Int) == ((clN m ex a : Nat) : Int)) = false := by
          have h2 : ((a : Int) != intentF m ex (extF ex (a : Int))) = true := h2
          rw [hci, bne, Bool.not_eq_true'] at h2
          exact h2
        have hne : ¬ (a : Int) = ((clN m ex a : Nat) : Int) := by simpa using h2'
        conv => lhs; whnf
        repeat ((first | with_reducible apply br_tt | with_reducible apply br_ff | with_reducible apply br_nf | with_reducible apply br_nt | with_reducible refine br_d ?_ (by kernel_rfl) | with_reducible apply br_t h2 | with_reducible apply br_f h2); conv => lhs; whnf)
        refine br_c (fun h3 => ?_) (fun h3 => ?_)
        · have h3' : decide (cexF B a (clN m ex a : Nat) ≥ 0) = true := by
            have h3 : decide (cexF B a (intentF m ex (extF ex (a : Int))) ≥ 0) = true := h3
            rw [hci] at h3
            exact h3
          have g := hI.counter (ofd h3')
          have g1 := g.1
          have g2 := g.2
          have g0 := ofd h3'
          have hih := ih n a _ R (Q ++ [(((a : Int), ((clN m ex a : Nat) : Int)), false, cexF B a (clN m ex a : Nat))]) g2 (by have := g2.exlen; simp only [List.length_append, List.length_singleton] at this ⊢; omega) (by omega) (by simp only [List.length_append, List.length_singleton]; omega)
          rw [← hci] at hih g0 g1
          conv => rhs; rw [h1, cond_false, h2', cond_false, h3', cond_true, ← hci]
          conv => lhs; whnf
          repeat ((first | with_reducible apply br_tt | with_reducible apply br_ff | with_reducible apply br_nf | with_reducible apply br_nt | with_reducible refine br_d ?_ (by kernel_rfl) | with_reducible apply br_t h2 | with_reducible apply br_f h2 | with_reducible apply br_t h3 | with_reducible apply br_f h3); conv => lhs; whnf)
          refine br_t (dt (by simp [room]; omega)) ?_
          conv => lhs; whnf
          refine br_t (dt2 g0 (by omega)) ?_
          conv => lhs; whnf
          refine br_t (dt (by simp [room]; omega)) ?_
          conv => lhs; whnf
          repeat ((first | with_reducible apply br_tt | with_reducible apply br_ff | with_reducible apply br_nf | with_reducible apply br_nt | with_reducible refine br_d ?_ (by kernel_rfl)); conv => lhs; whnf)
          exact hih
        · have h3' : decide (cexF B a (clN m ex a : Nat) ≥ 0) = false := by
            have h3 : decide (cexF B a (intentF m ex (extF ex (a : Int))) ≥ 0) = false := h3
            rw [hci] at h3
            exact h3
          have g := hI.accept hf hne (ofn h3')
          have g1 := g.1
          have g2 := g.2.1
          have g3 := g.2.2
          have g4 := g2.len
          have g5 : (R ++ [((a : Int), ((clN m ex a : Nat) : Int))]).all (fun r => isSet m r.1 && isSet m r.2) = true := by
            exact g2.rall
          have hih := ih n (nmV m.toNat (R ++ [((a : Int), ((clN m ex a : Nat) : Int))]) a) ex _ (Q ++ [(((a : Int), ((clN m ex a : Nat) : Int)), true, -1)]) g2 (by omega) (by omega) (by simp only [List.length_append, List.length_singleton]; omega)
          rw [← hci] at hih g4 g5
          conv => rhs; rw [h1, cond_false, h2', cond_false, h3', cond_false, ← hci]
          conv => lhs; whnf
          repeat ((first | with_reducible apply br_tt | with_reducible apply br_ff | with_reducible apply br_nf | with_reducible apply br_nt | with_reducible refine br_d ?_ (by kernel_rfl) | with_reducible apply br_t h2 | with_reducible apply br_f h2 | with_reducible apply br_t h3 | with_reducible apply br_f h3); conv => lhs; whnf)
          refine br_t (dt (by simp [room]; omega)) ?_
          conv => lhs; whnf
          refine br_t (dt (by simp [room]; omega)) ?_
          conv => lhs; whnf
          conv => lhs; arg 1; whnf
          refine bnd_g (by exact ⟨⟨by omega, by omega⟩, Nat.le_trans g4 (by omega), g5, hset⟩) ?_
          conv => lhs; whnf
          exact hih
      · have h2' : ((a : Int) == ((clN m ex a : Nat) : Int)) = true := by
          have h2 : ((a : Int) != intentF m ex (extF ex (a : Int))) = false := h2
          rw [hci, bne, Bool.not_eq_false'] at h2
          exact h2
        have g := hI.move hf
        have g1 := g.1
        have g2 := g.2.1
        have g3 := g.2.2
        have g5 : R.all (fun r => isSet m r.1 && isSet m r.2) = true := by
          exact g2.rall
        have hih := ih n (nmV m.toNat R a) ex R Q g2 (by omega) (by omega) (by omega)
        conv => rhs; rw [h1, cond_false, h2', cond_true]
        conv => lhs; whnf
        repeat ((first | with_reducible apply br_tt | with_reducible apply br_ff | with_reducible apply br_nf | with_reducible apply br_nt | with_reducible refine br_d ?_ (by kernel_rfl) | with_reducible apply br_t h2 | with_reducible apply br_f h2); conv => lhs; whnf)
        conv => lhs; arg 1; whnf
        refine bnd_g (by exact ⟨⟨by omega, by omega⟩, by omega, g5, hset⟩) ?_
        conv => lhs; whnf
        exact hih
    · have h1 : ((a : Int) == fullSet m) = true := by
        have h : ((a : Int) != fullSet m) = false := h
        rw [bne, Bool.not_eq_false'] at h
        exact h
      have hf : (a : Int) = fullSet m := by simpa using h1
      conv => rhs; rw [h1, cond_true, ← hf]
      conv => lhs; whnf
theorem ev_specExplore (m : Int) (B : List Int) (hp : B.length ≤ 1048576) : evF E_specExplore (100) Tryz.f50 [.agg [.int .i64 m, .lst (.int .i64) B], .lst (.int .i64) []] [] = some (.tup [.agg [.own 0, .own 1, .int .i64 (explM m B), .own 2], .bool (isCtx m B)], [.row 93 (.pair (.pair (.int .i64) (.int .i64)) (.pair .bool (.int .i64))) (explF m B).2.2, .row 91 (.pair (.int .i64) (.int .i64)) (explF m B).2.1, .row 3 (.int .i64) (explF m B).1]) := by
  conv => lhs; whnf
  conv => lhs; arg 1; whnf
  refine bnd_g (by omega) ?_
  conv => lhs; whnf
  unfold explF explM
  refine br_c (fun h => ?_) (fun h => ?_)
  · conv => rhs; rw [bnt h]
    conv => lhs; whnf
    rfl
  · have hc := bnf h
    have hI := ExI.start hc
    have hpos := hI.pos
    conv => rhs; rw [hc, cond_true]
    conv => lhs; whnf
    rw [lpAt_def]
    conv => lhs; whnf
    refine br_f (by rfl) ?_
    conv => lhs; whnf
    refine (lp_specExplore m B _ 80 _ 0 [] [] [] hI (by simp only [List.length_nil]; omega) (by change _ < 99; omega) (by simp)).trans ?_
    conv => lhs; whnf
    rfl
theorem ok_specExplore : FnOk Tryz.prog 50 K_specExplore := by
  refine fn_ok (fn := Tryz.f50) (k := Tryz.f50.ntmps) (E := E_specExplore) (facts_of (List.forall_mem_cons.2 ⟨ok_l14Known, List.forall_mem_cons.2 ⟨ok_specFullSet, List.forall_mem_cons.2 ⟨ok_specClosure, List.forall_mem_cons.2 ⟨ok_l14Counter, List.forall_mem_cons.2 ⟨ok_specNextModel, List.forall_mem_nil _⟩⟩⟩⟩⟩)) (by kernel_rfl) rfl (by decide +kernel) (by decide +kernel) ?_
  intro avs hin r h
  unfold K_specExplore at h
  split at h
  · obtain ⟨hp, rfl⟩ := gd_o h
    exact ⟨_, ev_specExplore _ _ hp, rfl⟩
  · cases h

/- impl.Explore$1 -/
def K_explCex : List AV → List Ob → Option (AV × List Ob)
  | [.int .i64 x, .vptr [.int .i64 a] 0, .vptr [.int .i64 b] 0], [] => gd (True) (.bool (cexB a b x), [])
  | _, _ => none
@[reducible] def E_explCex : Env := mkE (tb [(122, K_inSet)]) (fun f => false) (fun r => ([], []))
theorem ev_explCex (a b x : Int) (hp : True) : evF E_explCex (1) Tryz.f121 [.int .i64 x, .vptr [.int .i64 a] 0, .vptr [.int .i64 b] 0] [] = some (.bool (cexB a b x), []) := by
  conv => lhs; whnf
  conv => lhs; arg 1; whnf
  refine bnd_g (by exact True.intro) ?_
  conv => lhs; whnf
  refine br_c (fun h => ?_) (fun h => ?_)
  · have h' : (bnot a x == 0) = true := h
    conv => lhs; whnf
    repeat ((first | with_reducible apply br_tt | with_reducible apply br_ff | with_reducible apply br_nf | with_reducible apply br_nt | with_reducible refine br_d ?_ (by kernel_rfl) | with_reducible apply br_t h | with_reducible apply br_f h); conv => lhs; whnf)
    conv => lhs; arg 1; whnf
    refine bnd_g (by exact True.intro) ?_
    conv => lhs; whnf
    repeat ((first | with_reducible apply br_tt | with_reducible apply br_ff | with_reducible apply br_nf | with_reducible apply br_nt | with_reducible refine br_d ?_ (by kernel_rfl) | with_reducible apply br_t h | with_reducible apply br_f h); conv => lhs; whnf)
    refine okB ?_
    unfold cexB
    rw [h', Bool.true_and]
  · have h' : (bnot a x == 0) = false := h
    conv => lhs; whnf
    repeat ((first | with_reducible apply br_tt | with_reducible apply br_ff | with_reducible apply br_nf | with_reducible apply br_nt | with_reducible refine br_d ?_ (by kernel_rfl) | with_reducible apply br_t h | with_reducible apply br_f h); conv => lhs; whnf)
    refine okB ?_
    unfold cexB
    rw [h', Bool.false_and]
theorem ok_explCex : FnOk Tryz.prog 121 K_explCex := by
  refine fn_ok (fn := Tryz.f121) (k := Tryz.f121.ntmps) (E := E_explCex) (facts_of (List.forall_mem_cons.2 ⟨ok_inSet, List.forall_mem_nil _⟩)) (by kernel_rfl) rfl (by decide +kernel) (by decide +kernel) ?_
  intro avs hin r h
  unfold K_explCex at h
  split at h
  · obtain ⟨hp, rfl⟩ := gd_o h
    exact ⟨_, ev_explCex _ _ _ hp, rfl⟩
  · cases h

end Go.Sym
