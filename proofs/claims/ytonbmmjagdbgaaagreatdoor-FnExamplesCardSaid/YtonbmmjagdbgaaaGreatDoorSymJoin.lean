/- The symbolic machine: the library's Join of texts. -/
import Derived.Test.YtonbmmjagdbgaaaGreatDoorSymWW
import Derived.Shelf.Strings.OnBuilder
namespace Go.Sym
set_option linter.unusedVariables false
set_option linter.unusedSimpArgs false
set_option linter.unusedSectionVars false
variable [Globs] [Dm]
open Go.Proofs Go.Shelf Go.RowKit Go.Lib

/-- Texts, put together. -/
def joinB (ys : List ByteArray) (sep : ByteArray) : ByteArray := ⟨(Lib.join (ys.map (·.data.toList)) sep.data.toList).toArray⟩

theorem all2_strs {F : Nat → Prop} {w : World} : ∀ (ys : List ByteArray) (css : List (List Value)), All2 (RepT F w .str) ys css → css.flatten = ys.map Value.string
  | [], [], _ => rfl
  | y :: ys, c :: css, ⟨h1, h2⟩ => by
    have h1 : c = [.string y] := h1
    rw [List.flatten_cons, h1, all2_strs ys css h2]
    rfl
  | [], _ :: _, h => h.elim
  | _ :: _, [], h => h.elim

/-- A callee that lays only new memory. -/
theorem Heap.below {C : Ctx} {B : Nat} {L : Fr} {hp : Nat → Option Ob} (hH : Heap C B L hp) (hB : B ≤ C.w.heap.size) {w : World} (hb : Below C.w.heap.size C.w w) (hd : Dm.p → C.w.drawn ≤ w.drawn) : Le C (C.at w) ∧ Gr B L C.w w ∧ Heap (C.at w) B L hp := by
  have hle : Le C (C.at w) := ⟨fun _ h => h, fun _ h => h, fun _ _ _ h => h, fun b h => hb.block b (hH.inb b h)⟩
  refine ⟨hle, ⟨hb.os, hb.tape, hb.output, hb.size, fun k hk hL => hb.block k (by omega), hd⟩, ?_⟩
  refine ⟨fun i h => hH.non i h, fun i o h => ?_, fun i h => hH.inA i h, fun i j b h1 h2 => hH.sep i j b h1 h2, fun i b h => hH.apart i b h, fun i b h => hH.mine i b h, fun i b h => Nat.lt_of_lt_of_le (hH.lto i b h) hb.size, fun b h => Nat.lt_of_lt_of_le (hH.inb b h) hb.size, ⟨hH.fr.fro, hH.fr.old, hH.fr.low⟩, hH.glob.mono hle.F hle.w⟩
  obtain ⟨p, hp', hr⟩ := hH.som i o h
  exact ⟨p, hp', hr.mono hle (fun _ => Iff.rfl) fun b hb' => hb.block b (hH.lto i b (by rw [← hp'] at hb'; exact hb'))⟩

/-- The library's Join, told of texts that are read. -/
theorem join_calls (hd : ¬ Dm.p) {P : Program} {ρ : Ren} (LL : Lays.n156 P ρ) (X : Builder.Extra P ρ) {ys : List ByteArray} {sep : ByteArray}
    {C : Ctx} {L : Fr} {vs : List Value} (hH : Heap C C.w.heap.size L (ofL [])) (hA : RepL C [.lst .str ys, .str sep] vs) (hN : ys.length ≤ 140737488355328) (hlen : (joinB ys sep).size ≤ 140737488355328) :
    Calls P (ρ.f 156) vs.toArray C.w fun e w' => ∃ v C', e = .returned v ∧ C'.w = w' ∧ Rep C' (.str (joinB ys sep)) v ∧ Heap C' C.w.heap.size L (ofL []) ∧ Gr C.w.heap.size L C.w w' := by
  unfold RepL at hA
  obtain ⟨v0, r0, rfl, hv0, hA⟩ := hA
  unfold RepL at hA
  obtain ⟨v1, r1, rfl, hv1, hA⟩ := hA
  unfold RepL at hA
  subst hA
  unfold Rep at hv0 hv1
  subst hv1
  obtain ⟨a, c, he, hc, hr⟩ := hv0
  cases he
  have fin : ∀ (e : Ending) (w' : World), e = .returned (.string (joinB ys sep)) → Below C.w.heap.size C.w w' → ∃ v C', e = .returned v ∧ C'.w = w' ∧ Rep C' (.str (joinB ys sep)) v ∧ Heap C' C.w.heap.size L (ofL []) ∧ Gr C.w.heap.size L C.w w' := by
    intro e w' he hb
    obtain ⟨h1, h2, h3⟩ := hH.below (Nat.le_refl _) hb fun d => absurd d hd
    exact ⟨_, C.at w', he, rfl, by unfold Rep; rfl, h3, h2⟩
  rcases hr with h | ⟨b, o, css, rfl, hF, h2, h3⟩
  · subst h
    refine (Any.strings_Join_none LL X a c sep C.w).mono ?_
    rintro e w' ⟨he, rfl⟩
    exact fin e _ he (Below.refl _ _)
  · rw [all2_strs ys css h2] at h3
    refine (Any.strings_Join LL X b o c ys sep C.w (fun j x hx => ?_) (hH.inb b hF) hN hc (by simpa [joinB, ByteArray.size] using hlen)).mono ?_
    · have := h3 j (Value.string x) (by rw [List.getElem?_map, hx]; rfl)
      exact this
    · rintro e w' ⟨he, hb⟩
      exact fin e w' he hb
def castI (l : List UInt8) : List Int := l.map fun b => (b.toNat : Int)
theorem castI_back (l : List UInt8) : (castI l).map (fun n => UInt8.ofNat n.toNat) = l := by
  unfold castI
  rw [List.map_map]
  conv => rhs; rw [← List.map_id l]
  refine List.map_congr_left fun b _ => ?_
  simp
def restI (sep : ByteArray) : Nat → List ByteArray → List Int
  | _, [] => []
  | i, y :: r => (if 0 < i then strInts sep else []) ++ (strInts y ++ restI sep (i + 1) r)
theorem restI_tail (sep : ByteArray) : ∀ (r : List ByteArray) (i : Nat), 0 < i → restI sep i r = castI (Lib.joinTail sep.data.toList (r.map (·.data.toList)))
  | [], i, _ => rfl
  | y :: r, i, h => by
    rw [restI, if_pos h, restI_tail sep r (i + 1) (by omega)]
    unfold castI strInts Lib.joinTail
    simp [List.append_assoc]
theorem restI_join (sep : ByteArray) (ys : List ByteArray) : restI sep 0 ys = castI (Lib.join (ys.map (·.data.toList)) sep.data.toList) := by
  cases ys with
  | nil => rfl
  | cons y r =>
    rw [restI, if_neg (by omega), List.nil_append, restI_tail sep r 1 (by omega), List.map_cons, Lib.join_cons]
    unfold castI strInts
    simp
theorem intsStr_join (ys : List ByteArray) (sep : ByteArray) : intsStr (restI sep 0 ys) = joinB ys sep := by
  rw [restI_join]
  unfold intsStr joinB
  rw [castI_back]
theorem restI_len (ys : List ByteArray) (sep : ByteArray) : (restI sep 0 ys).length = (joinB ys sep).size := by
  rw [restI_join]
  unfold castI joinB
  rw [List.length_map]
  rfl
def joinF (ys : List ByteArray) (sep : ByteArray) : ByteArray := if (joinB ys sep).size ≤ 1048576 then joinB ys sep else ⟨#[]⟩
def lenS : List ByteArray → Int → Int
  | [], acc => acc
  | y :: r, acc => lenS r (acc + (y.size : Int))
theorem lenS_eq : ∀ (ys : List ByteArray) (acc : Int), lenS ys acc = acc + (Lib.lens (ys.map (·.data.toList)) : Int)
  | [], acc => by simp [lenS, Lib.lens]
  | y :: r, acc => by
    rw [lenS, lenS_eq r]
    have : y.size = y.data.toList.length := by rw [Array.length_toList]; rfl
    rw [this]
    unfold Lib.lens
    rw [List.map_cons, List.map_cons, List.sum_cons]
    push_cast
    omega
theorem join_size (ys : List ByteArray) (sep : ByteArray) : ((joinB ys sep).size : Int) = lenS ys (max ((ys.length : Int) - 1) 0 * (sep.size : Int)) := by
  rw [lenS_eq]
  have hs : sep.size = sep.data.toList.length := by rw [Array.length_toList]; rfl
  cases ys with
  | nil => exact (Int.zero_mul _).symm ▸ rfl
  | cons y r =>
    have e : (joinB (y :: r) sep).size = (Lib.join ((y :: r).map (·.data.toList)) sep.data.toList).length := rfl
    rw [e, List.map_cons, Lib.join_cons, List.length_append, Lib.joinTail_length, hs]
    unfold Lib.lens
    rw [List.map_cons, List.sum_cons, List.length_map, List.length_cons]
    have : max (((r.length + 1 : Nat) : Int) - 1) 0 = (r.length : Int) := by omega
    rw [this]
    push_cast
    rw [Int.mul_comm]
    omega
theorem lenS_le (B : Nat) : ∀ (ys : List ByteArray) (acc : Int), (∀ y ∈ ys, y.size ≤ B) → acc ≤ lenS ys acc ∧ lenS ys acc ≤ acc + ys.length * B
  | [], acc, _ => by simp [lenS]
  | y :: r, acc, h => by
    have h1 := lenS_le B r (acc + (y.size : Int)) fun z hz => h z (by simp [hz])
    have h2 := h y (by simp)
    rw [lenS, List.length_cons]
    push_cast
    rw [Int.add_mul, Int.one_mul]
    omega
end Go.Sym
