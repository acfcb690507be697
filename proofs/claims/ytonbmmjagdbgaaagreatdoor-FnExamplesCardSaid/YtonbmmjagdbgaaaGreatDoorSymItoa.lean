/- The symbolic machine: the library's Itoa. -/
import Derived.Test.YtonbmmjagdbgaaaGreatDoorSymJoin
import Derived.Shelf.Strconv.Itoa3
namespace Go.Sym
set_option linter.unusedVariables false
set_option linter.unusedSimpArgs false
set_option linter.unusedSectionVars false
variable [Globs] [Dm]
open Go.Proofs Go.Shelf Go.RowKit Go.Lib Go.Sort

/-- A number's text. -/
def itoaB (n : Int) : ByteArray := ⟨(Lib.itoa n).toArray⟩

theorem below_grow (w : World) (k : Nat) (os : Array Obj) : RowKit.Below w.heap.size w (grow (w.drewN k) os) :=
  ⟨rfl, rfl, rfl, by simp [grow], fun j hj => by simp [grow, Array.getElem?_append, hj]⟩

/-- The library's Itoa. -/
theorem itoa_calls {P : Program} {ρ : Ren} (LL : LaysM.n171 P ρ) {g : Nat} (hg : (g, IntKind.u64, Lib.pow10Tab) ∈ Globs.tab) (hn : P.globalNamed "internal/strconv.uint64pow10" = some g) {n : Int} (h0 : -9223372036854775808 ≤ n) (h1 : n ≤ 9223372036854775807)
    {C : Ctx} {L : Fr} {vs : List Value} (hH : Heap C C.w.heap.size L (ofL [])) (hA : RepL C [.int .i64 n] vs) :
    Calls P (ρ.f 171) vs.toArray C.w fun e w' => ∃ v C', e = .returned v ∧ C'.w = w' ∧ Rep C' (.str (itoaB n)) v ∧ Heap C' C.w.heap.size L (ofL []) ∧ Gr C.w.heap.size L C.w w' := by
  unfold RepL at hA
  obtain ⟨v0, r0, rfl, hv0, hA⟩ := hA
  unfold RepL at hA
  subst hA
  unfold Rep at hv0
  subst hv0
  have htab : Lib.TabIs P C.w "internal/strconv.uint64pow10" .u64 Lib.pow10Tab := by
    obtain ⟨_, _, e, fr, hb⟩ := hH.glob.1 _ hg
    unfold Lib.TabIs World.var?
    rw [hn, Option.bind_some, hb]
  refine (Any.strconv_Itoa LL n h0 h1 C.w htab).mono ?_
  rintro e w' ⟨rfl, k, os, rfl⟩
  obtain ⟨q1, q2, q3⟩ := hH.below (Nat.le_refl _) (below_grow C.w k os) fun _ => (by simp [grow, World.drewN] : C.w.drawn ≤ (grow (C.w.drewN k) os).drawn)
  exact ⟨_, C.at _, rfl, rfl, by unfold Rep; rfl, q3, q2⟩
end Go.Sym
