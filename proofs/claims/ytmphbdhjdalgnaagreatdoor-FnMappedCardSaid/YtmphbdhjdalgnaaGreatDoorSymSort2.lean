/- The symbolic machine: the library's sort of a row of numbers. -/
import Derived.Test.YtmphbdhjdalgnaaGreatDoorSymSort
import Derived.Shelf.Sort.Plain
import Derived.Shelf.Slices.In.SortNone
namespace Go.Sym
set_option linter.unusedVariables false
set_option linter.unusedSimpArgs false
set_option linter.unusedSectionVars false
variable [Globs] [Dm]
open Go.Proofs Go.Shelf Go.RowKit Go.Lib Go.Sort

abbrev enI : Int → Value := Value.int .i64

theorem putI_heap {w : World} {g n : Nat} {os : Array Obj} {cur : Array Value} {e : TypeId} {fr : Nat × Nat} (d : Array Int) (hb : w.heap[g]? = some (.cells cur e fr)) :
    (grow (putRow enI (Sort.ahead w n) g 0 d) os).heap[g]? = some (.cells (putCells enI 0 d cur) e fr) := by
  have hg : g < w.heap.size := (Array.getElem?_eq_some_iff.1 hb).1
  rw [heap_grow_old _ _ (by simpa using hg)]
  simp [putRow, mapBlock, Sort.ahead, Array.getElem?_modify, hb, onCells]

theorem putI_other {w : World} {g n k : Nat} {os : Array Obj} (d : Array Int) (hk : k < w.heap.size) (hne : k ≠ g) : (grow (putRow enI (Sort.ahead w n) g 0 d) os).heap[k]? = w.heap[k]? := by
  rw [heap_grow_old _ _ (by simpa using hk)]
  have : g ≠ k := fun e => hne e.symm
  simp [putRow, mapBlock, Sort.ahead, Array.getElem?_modify, this]

theorem take_putI (cur : Array Value) (d : Array Int) (h : d.size ≤ cur.size) : (putCells enI 0 d cur).toList.take d.size = d.toList.map (Value.int .i64) := by
  apply List.ext_getElem?
  intro j
  by_cases hj : j < d.size
  · rw [List.getElem?_take_of_lt hj, Array.getElem?_toList]
    simp [putCells, hj, show j < cur.size by omega]
  · rw [List.getElem?_take_eq_none (by omega), List.getElem?_eq_none (by simp; omega)]

def sortI (ys : List Int) : List Int := ys.mergeSort fun x y => decide (x ≤ y)
theorem sortI_len (ys : List Int) : (sortI ys).length = ys.length := List.length_mergeSort _

/-- The library's sort of numbers. -/
theorem sorti_calls {P : Program} {ρ : Ren} (LL : Lays.n189 P ρ) {t : TypeId} {ys : List Int} (h64 : ys.length < 4611686018427387904) {C : Ctx} {L : Fr} {vs : List Value} (hH : Heap C C.w.heap.size L (ofL [.row t (.int .i64) ys])) (hA : RepL C [.own 0] vs) :
    Calls P (ρ.f 189) vs.toArray C.w fun e w' => ∃ v C', e = .returned v ∧ C'.w = w' ∧ Rep C' (.tup []) v ∧ Heap C' C.w.heap.size L (ofL [.row t (.int .i64) (sortI ys)]) ∧ Gr C.w.heap.size L C.w w' := by
  unfold RepL at hA
  obtain ⟨v0, r0, rfl, hv0, hA⟩ := hA
  unfold RepL at hA
  subst hA
  unfold Rep at hv0
  obtain ⟨pv, hρ, hob⟩ := hH.som 0 (.row t (.int .i64) ys) rfl
  have hv := hv0.2.2 pv hρ
  subst hv
  rcases hob with ⟨h, a, rfl⟩ | ⟨b, cap, cur, css, rfl, hc0, hb, h1, h2, h3, h4, h5⟩
  · have h : ys = [] := h
    subst h
    refine (Any.slices_Sort_int_none LL a 0 C.w).mono ?_
    rintro e w' ⟨rfl, rfl⟩
    refine ⟨_, C, rfl, rfl, ?_, ?_, Gr.refl _ _ _⟩
    · unfold Rep; exact ⟨#[], rfl, by unfold RepL; rfl⟩
    · have : sortI [] = [] := List.eq_nil_of_length_eq_zero (by rw [sortI_len]; rfl)
      rw [this]; exact hH
  have hsz : (ET.int IntKind.i64).sz = 1 := rfl
  rw [hsz, Nat.mul_one] at h3 h5
  rw [all2_ints _ _ h4] at h5
  have hbl : b < C.w.heap.size := (Array.getElem?_eq_some_iff.1 hb).1
  have hHolds : Holds enI C.w b 0 ys.toArray := by
    intro j hj
    have hj : j < ys.length := by simpa using hj
    refine ⟨?_, by simp [World.frozen?, hb]⟩
    have hj1 : (cur.toList.take ys.length)[j]? = (ys.map (Value.int .i64))[j]? := by rw [h5]
    rw [List.getElem?_take_of_lt hj] at hj1
    simp only [World.cell?, hb, Nat.zero_add]
    simp only [Option.isSome_none, Bool.false_eq_true, if_false]
    rw [← Array.getElem?_toList, hj1]
    simp [hj]
  refine Calls.mono (Any.slices_Sort_int LL b 0 cap ys C.w hHolds hbl h64) ?_
  rintro e w' ⟨rfl, n, os, rfl⟩
  have hlen : (sortI ys).toArray.size = ys.length := by rw [List.size_toArray, sortI_len]
  obtain ⟨hle, hgr, hup⟩ := hH.upd' hρ (g := b) (by simp [blk, hc0]) (w := grow (putRow enI (Sort.ahead C.w n) b 0 (sortI ys).toArray) os) (by simp [grow]) (Nat.le_refl _) (fun k hk hne => putI_other _ hk hne) rfl rfl rfl
    (by simp [grow, putRow, mapBlock, Sort.ahead])
  have hnew := hup hv0.1 (.row t (.int .i64) (sortI ys)) (.inr ⟨b, cap, putCells enI 0 (sortI ys).toArray cur, (sortI ys).map fun y => [Value.int .i64 y], by rw [sortI_len], hc0, putI_heap _ hb, by rw [sortI_len]; exact h1, h2,
    by rw [hsz, Nat.mul_one]; simpa [putCells] using h3, ints_all2 _, by rw [hsz, Nat.mul_one, flatten_ints]; have := take_putI cur (sortI ys).toArray (by rw [hlen]; omega); rw [List.size_toArray] at this; exact this⟩)
  refine ⟨_, C.at _, rfl, rfl, ?_, ?_, hgr⟩
  · unfold Rep; exact ⟨#[], rfl, by unfold RepL; rfl⟩
  · have he : setHp (ofL [.row t (.int .i64) ys]) [(0, some (.row t (.int .i64) (sortI ys)))] = ofL [.row t (.int .i64) (sortI ys)] := by
      funext i
      simp only [setHp, ofL]
      cases i with
      | zero => rfl
      | succ i => simp
    rw [← he]
    exact hnew

/-- The library's sort by a comparison, of no element. -/
theorem sort_calls0 {P : Program} {ρ : Ren} (LL : SlLaysF0.n6 P ρ) {t : TypeId} {g : FuncId} {C : Ctx} {L : Fr} {vs : List Value} (hH : Heap C C.w.heap.size L (ofL [.row t (.int .i64) []])) (hA : RepL C [.own 0, .clo g []] vs) :
    Calls P (ρ.f 6) vs.toArray C.w fun e w' => ∃ v C', e = .returned v ∧ C'.w = w' ∧ Rep C' (.tup []) v ∧ Heap C' C.w.heap.size L (ofL [.row t (.int .i64) []]) ∧ Gr C.w.heap.size L C.w w' := by
  unfold RepL at hA
  obtain ⟨v0, r0, rfl, hv0, hA⟩ := hA
  unfold RepL at hA
  obtain ⟨v1, r1, rfl, hv1, hA⟩ := hA
  unfold RepL at hA
  subst hA
  unfold Rep at hv0
  obtain ⟨pv, hρ, hob⟩ := hH.som 0 (.row t (.int .i64) []) rfl
  have hv := hv0.2.2 pv hρ
  subst hv
  have hs : ∃ p c, v0 = .slice p 0 c := by
    rcases hob with ⟨h, a, rfl⟩ | ⟨b, cap, cur, css, rfl, _⟩
    · exact ⟨_, _, rfl⟩
    · exact ⟨_, _, rfl⟩
  obtain ⟨p, c, rfl⟩ := hs
  refine (AnyF.slices_SortFunc_none LL p c v1 C.w).mono ?_
  rintro e w' ⟨rfl, rfl⟩
  exact ⟨_, C, rfl, rfl, by unfold Rep; exact ⟨#[], rfl, by unfold RepL; rfl⟩, hH, Gr.refl _ _ _⟩
end Go.Sym
