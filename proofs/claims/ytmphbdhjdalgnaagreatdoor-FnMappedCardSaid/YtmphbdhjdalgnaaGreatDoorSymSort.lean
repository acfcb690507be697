/- The symbolic machine: the library's sort of a row of small numbers. -/
import Derived.Test.YtmphbdhjdalgnaaGreatDoorSymWW
import Derived.Shelf.SlSortCmp.NoneTotal
namespace Go.Sym
set_option linter.unusedVariables false
set_option linter.unusedSimpArgs false
set_option linter.unusedSectionVars false
variable [Globs] [Dm]
open Go.Proofs Go.Shelf Go.RowKit Go.Lib Go.Sort

def encF (x : Fin 64) : Value := .int .i64 (x.val : Int)
def intsF (d : Array (Fin 64)) : List Int := d.toList.map fun x => (x.val : Int)

theorem heap_sortF {w : World} {g n : Nat} {os : Array Obj} {cur : Array Value} {e : TypeId} {fr : Nat × Nat} (d : Array (Fin 64)) (hb : w.heap[g]? = some (.cells cur e fr)) :
    (sortWorld encF w g 0 n d os).heap[g]? = some (.cells (putCells encF 0 d cur) e fr) := by
  have hg : g < w.heap.size := (Array.getElem?_eq_some_iff.1 hb).1
  unfold sortWorld
  rw [heap_grow_old _ _ (by simpa using hg)]
  simp [putRow, mapBlock, Sort.ahead, Array.getElem?_modify, hb, onCells]

theorem heap_sortF_other {w : World} {g n k : Nat} {os : Array Obj} (d : Array (Fin 64)) (hk : k < w.heap.size) (hne : k ≠ g) : (sortWorld encF w g 0 n d os).heap[k]? = w.heap[k]? := by
  unfold sortWorld
  rw [heap_grow_old _ _ (by simpa using hk)]
  have : g ≠ k := fun e => hne e.symm
  simp [putRow, mapBlock, Sort.ahead, Array.getElem?_modify, this]

theorem size_sortF {w : World} {g n : Nat} {os : Array Obj} (d : Array (Fin 64)) : w.heap.size ≤ (sortWorld encF w g 0 n d os).heap.size := by
  unfold sortWorld
  simp [grow]

theorem take_putF (cur : Array Value) (d : Array (Fin 64)) (h : d.size ≤ cur.size) : (putCells encF 0 d cur).toList.take d.size = (intsF d).map (Value.int .i64) := by
  apply List.ext_getElem?
  intro j
  by_cases hj : j < d.size
  · rw [List.getElem?_take_of_lt hj, Array.getElem?_toList]
    simp [putCells, intsF, encF, hj, show j < cur.size by omega]
  · rw [List.getElem?_take_eq_none (by omega), List.getElem?_eq_none (by simp [intsF]; omega)]

theorem world_ext {W W' : World} {B : Nat} {L : Fr} (h : Gr W.heap.size L W W') (hL : ∀ k, ¬ L.lent k) (hd : Dm.p) : ∃ q os, W' = grow (W.drewN q) os := by
  refine ⟨W'.drawn - W.drawn, W'.heap.extract W.heap.size W'.heap.size, ?_⟩
  have hh : W'.heap = W.heap ++ W'.heap.extract W.heap.size W'.heap.size := by
    apply Array.ext_getElem?
    intro i
    rw [Array.getElem?_append]
    split
    · rename_i hi
      exact h.block i hi (hL i)
    · rename_i hi
      rw [Array.getElem?_extract]
      have hs := h.size
      split
      · congr 1
        omega
      · rw [Array.getElem?_eq_none (by omega)]
  obtain ⟨heap, tape, drawn, os, output⟩ := W'
  have h1 := h.os; have h2 := h.tape; have h3 := h.output; have h4 := h.drawn hd
  simp only at h1 h2 h3 h4 hh
  subst h1 h2 h3
  simp only [grow, World.drewN]
  rw [← hh, Nat.add_sub_cancel' h4]

/-- A name's row changes, and new blocks are laid. -/
theorem Heap.upd' {C : Ctx} {B : Nat} {L : Fr} {hp : Nat → Option Ob} (hH : Heap C B L hp) {id : Nat} {pv : Value} (hρ : C.ρ id = some pv) {g : Nat} (hb : blk (some pv) g) {w : World} (hs : C.w.heap.size ≤ w.heap.size) (hB : B ≤ C.w.heap.size)
    (hw : ∀ k, k < C.w.heap.size → k ≠ g → w.heap[k]? = C.w.heap[k]?) (ho : w.os = C.w.os) (ht : w.tape = C.w.tape) (hu : w.output = C.w.output) (hd : C.w.drawn ≤ w.drawn) :
    Le C (C.at w) ∧ Gr B L C.w w ∧ ∀ (_ : C.A id) o', ObRep (C.at w) id o' pv → Heap (C.at w) B L (setHp hp [(id, some o')]) := by
  have hown : C.own id g := .inl (by rw [hρ]; exact hb)
  have hF : ∀ b, C.F b → b ≠ g := fun b h e => by subst e; exact hH.apart id b hown h
  have hle : Le C (C.at w) := ⟨fun _ h => h, fun _ h => h, fun _ _ _ h => h, fun b h => hw b (hH.inb b h) (hF b h)⟩
  refine ⟨hle, ⟨ho, ht, hu, hs, fun k hk hL => hw k (by omega) fun e => ?_, fun _ => hd⟩, fun hA o' hob => ?_⟩
  · subst e
    rcases hH.mine id k hown with h | h
    · omega
    · exact hL h
  · refine ⟨fun i h => ?_, fun i o'' h => ?_, fun i h => ?_, fun i j b h1 h2 => hH.sep i j b h1 h2, fun i b h => hH.apart i b h, fun i b h => hH.mine i b h, fun i b h => Nat.lt_of_lt_of_le (hH.lto i b h) hs, fun b h => Nat.lt_of_lt_of_le (hH.inb b h) hs, ⟨hH.fr.fro, hH.fr.old, hH.fr.low⟩, hH.glob.mono hle.F hle.w⟩
    · simp only [setHp] at h
      split at h
      · cases h
      · exact hH.non i h
    · simp only [setHp] at h
      split at h
      · rename_i he
        cases h; subst he
        exact ⟨pv, hρ, hob⟩
      · rename_i he
        obtain ⟨p, hp', hr⟩ := hH.som i o'' h
        have hbo : ∀ b, blk (some p) b ∨ C.inn i b → C.own i b := fun b h => by rw [← hp'] at h; exact h
        refine ⟨p, hp', hr.mono hle (fun _ => Iff.rfl) fun b hb' => hw b (hH.lto i b (hbo b hb')) fun e => ?_⟩
        subst e
        exact he (hH.sep i id b (hbo b hb') hown)
    · simp only [setHp] at h
      split at h
      · rename_i he; subst he; exact hA
      · exact hH.inA i h

theorem all2_ints {F : Nat → Prop} {w : World} : ∀ (ys : List Int) (css : List (List Value)), All2 (RepT F w (.int .i64)) ys css → css.flatten = ys.map (Value.int .i64)
  | [], [], _ => rfl
  | y :: ys, c :: css, ⟨h1, h2⟩ => by
    have h1 : c = [.int .i64 y] := h1
    rw [List.flatten_cons, h1, all2_ints ys css h2]
    rfl
  | [], _ :: _, h => h.elim
  | _ :: _, [], h => h.elim

theorem ints_all2 {F : Nat → Prop} {w : World} : ∀ (ys : List Int), All2 (RepT F w (.int .i64)) ys (ys.map fun y => [Value.int .i64 y])
  | [] => trivial
  | y :: ys => ⟨rfl, ints_all2 ys⟩

theorem flatten_ints : ∀ (ys : List Int), (ys.map fun y => [Value.int .i64 y]).flatten = ys.map (Value.int .i64)
  | [] => rfl
  | y :: ys => by rw [List.map_cons, List.flatten_cons, flatten_ints ys]; rfl

/-- The library's sort, told of a row that the call owns. -/
theorem sort_calls (hdm : Dm.p) {P : Program} {ρ : Ren} (LL : SlLaysF.n6 P ρ) {g : FuncId} {K : List AV → List Ob → Option (AV × List Ob)} (eg : ∀ args w, (callFunc g args).run P w = .ok (.enter g args) w) (hF : FnOk P g K)
    (cf : Fin 64 → Fin 64 → Int) (hK : ∀ x y : Fin 64, K [.int .i64 (x.val : Int), .int .i64 (y.val : Int)] [] = some (.int .i64 (cf x y), [])) (hO : SWO (ltOf cf)) (hT : ∀ x y, (ltOf cf) x y = false → (ltOf cf) y x = false → x = y)
    {d0 d1 : Array (Fin 64)} (hp : PermIn 0 d0.size d0 d1) (hs : SortedIn (ltOf cf) 0 d0.size d1) (h0 : 0 < d0.size) (h64 : d0.size ≤ 64) {t : TypeId}
    {C : Ctx} {L : Fr} {vs : List Value} (hH : Heap C C.w.heap.size L (ofL [.row t (.int .i64) (intsF d0)])) (hA : RepL C [.own 0, .clo g []] vs) :
    Calls P (ρ.f 6) vs.toArray C.w fun e w' => ∃ v C', e = .returned v ∧ C'.w = w' ∧ Rep C' (.tup []) v ∧ Heap C' C.w.heap.size L (ofL [.row t (.int .i64) (intsF d1)]) ∧ Gr C.w.heap.size L C.w w' := by
  unfold RepL at hA
  obtain ⟨v0, r0, rfl, hv0, hA⟩ := hA
  unfold RepL at hA
  obtain ⟨v1, r1, rfl, hv1, hA⟩ := hA
  unfold RepL at hA
  subst hA
  unfold Rep at hv0 hv1
  obtain ⟨cb, rfl, hcb⟩ := hv1
  unfold RepL at hcb
  have hcb : cb = #[] := by apply Array.ext'; simpa using hcb
  subst hcb
  obtain ⟨pv, hρ, hob⟩ := hH.som 0 (.row t (.int .i64) (intsF d0)) rfl
  have hv := hv0.2.2 pv hρ
  subst hv
  have hlen : (intsF d0).length = d0.size := by simp [intsF]
  rcases hob with ⟨h, _⟩ | ⟨b, cap, cur, css, rfl, hc0, hb, h1, h2, h3, h4, h5⟩
  · have : d0.size = 0 := by rw [← hlen, h]; rfl
    omega
  have hsz : (ET.int IntKind.i64).sz = 1 := rfl
  rw [hsz, Nat.mul_one] at h3 h5
  rw [all2_ints _ _ h4] at h5
  have hbl : b < C.w.heap.size := (Array.getElem?_eq_some_iff.1 hb).1
  have hcur : d0.size ≤ cur.size := by omega
  have hHolds : Holds encF C.w b 0 d0 := by
    intro j hj
    refine ⟨?_, by simp [World.frozen?, hb]⟩
    have hj1 : (cur.toList.take (intsF d0).length)[j]? = ((intsF d0).map (Value.int .i64))[j]? := by rw [h5]
    rw [List.getElem?_take_of_lt (by omega)] at hj1
    simp only [World.cell?, hb, Nat.zero_add]
    simp only [Option.isSome_none, Bool.false_eq_true, if_false]
    rw [← Array.getElem?_toList, hj1]
    simp [intsF, encF, hj]
  have hcmp : CmpLays1 P g #[] encF cf b 0 d0.size C.w := by
    intro m os dk hdk x y
    let W := sortWorld encF C.w b 0 m dk os
    let C0 : Ctx := ⟨fun _ => False, C.F, fun _ => none, W, fun _ _ => False⟩
    let L0 : Fr := ⟨fun _ => False, fun b => C.F b, fun _ => none, 0, by omega⟩
    have hbF : ∀ k, C.F k → k ≠ b := fun k hk e => by subst e; exact hH.apart 0 k (.inl (by rw [hρ]; simp [blk, hc0])) hk
    have hG : GlobOk C0 := hH.glob.mono (fun _ h => h) (fun k hk => heap_sortF_other dk (hH.inb k hk) (hbF k hk))
    have hH0 : Heap C0 C0.w.heap.size L0 (ofL []) :=
      ⟨fun _ _ => rfl, fun i o h => by simp [ofL] at h, fun i h => by simp [ofL] at h, fun i j b h => by simp [C0, Ctx.own, blk] at h, fun i b h => by simp [C0, Ctx.own, blk] at h, fun i b h => by simp [C0, Ctx.own, blk] at h, fun i b h => by simp [C0, Ctx.own, blk] at h,
        fun k hk => Nat.lt_of_lt_of_le (hH.inb k hk) (size_sortF dk), ⟨fun k hk => .inr hk, fun i pv hi => by simp [L0] at hi, fun i hi => by simp [L0] at hi⟩, hG⟩
    have hcall := hF.calls _ [] _ _ (hK x y) C0 L0 [.int .i64 (x.val : Int), .int .i64 (y.val : Int)] hH0 rfl
      (RepL_cons (by unfold Rep; rfl) (RepL_cons (by unfold Rep; rfl) RepL_nil))
    refine Calls.mono hcall ?_
    rintro e w' ⟨v, C', rfl, hw, hv, _, hgr⟩
    unfold Rep at hv
    subst hv
    exact ⟨rfl, world_ext (B := 0) hgr (fun _ h => h) hdm⟩
  have hsize : d0.size < 4611686018427387904 := by omega
  have hcon := Any.slices_SortFunc LL encF (fun _ => rfl) cf hO g #[] b 0 cap d0 C.w eg hcmp hHolds hbl hsize
  rw [← hlen] at hcon
  refine Calls.mono hcon ?_
  rintro e w' ⟨rfl, d', n, os, hp', hs', rfl⟩
  rw [hlen] at hp' hs'
  have e1 := sorted_unique_holds hO hT d0 d' hp' hs'
  have e2 := sorted_unique_holds hO hT d0 d1 hp hs
  have hd : d' = d1 := Array.ext' (e1.trans e2.symm)
  subst hd
  have hsz1 : d'.size = d0.size := hp.1
  obtain ⟨hle, hgr, hup⟩ := hH.upd' hρ (g := b) (by simp [blk, hc0]) (w := sortWorld encF C.w b 0 n d' os) (size_sortF d') (Nat.le_refl _) (fun k hk hne => heap_sortF_other d' hk hne) rfl rfl rfl
    (by unfold sortWorld; simp [grow, putRow, mapBlock, Sort.ahead])
  have hlen1 : (intsF d').length = d0.size := by simp [intsF, hsz1]
  have hnew := hup hv0.1 (.row t (.int .i64) (intsF d')) (.inr ⟨b, cap, putCells encF 0 d' cur, (intsF d').map fun y => [Value.int .i64 y], by rw [hlen1, hlen], hc0, heap_sortF d' hb, by omega, h2,
    by rw [hsz, Nat.mul_one]; simpa [putCells] using h3, ints_all2 _, by rw [hsz, Nat.mul_one, flatten_ints, hlen1, ← hsz1]; exact take_putF cur d' (by omega)⟩)
  refine ⟨_, C.at _, rfl, rfl, ?_, ?_, hgr⟩
  · unfold Rep; exact ⟨#[], rfl, by unfold RepL; rfl⟩
  · have he : setHp (ofL [.row t (.int .i64) (intsF d0)]) [(0, some (.row t (.int .i64) (intsF d')))] = ofL [.row t (.int .i64) (intsF d')] := by
      funext i
      simp only [setHp, ofL]
      cases i with
      | zero => rfl
      | succ i => simp
    rw [← he]
    exact hnew
end Go.Sym
