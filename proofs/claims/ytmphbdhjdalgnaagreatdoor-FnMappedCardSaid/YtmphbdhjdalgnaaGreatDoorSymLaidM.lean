/- The tables that lie in global variables when a law begins. -/
import Derived.Test.YtmphbdhjdalgnaaGreatDoorRows
import Derived.Test.YtmphbdhjdalgnaaGreatDoorSymXM
import Derived.ChangeVars
import Derived.JoinedOf
import Derived.RowKit
import Derived.ChangeSame
import Derived.FnData
namespace Go.Proofs.YtmphbdhjdalgnaaGreatDoor
open Go.Sym Go.ChangeShapes Go.WideShapes Go.RowKit
set_option linter.unusedVariables false
set_option linter.unusedSimpArgs false
set_option maxRecDepth 100000
theorem int_of_trodC {H : Type} {enc : TypeId × Value → H} {P : Program} {w : World} {base : Nat} {sp : Nat → Bool} {held : Bool} {fuel : Nat} {t : TypeId} {k : IntKind} {c : Value} {y : DataW H × List MemPlace}
    (ht : P.underlying t = some (.int k)) (h : DataW.trod enc P w base sp held fuel t [c] = some y) : ∃ n, c = .int k n ∧ y = (.lit (.int k n), []) := by
  cases fuel with
  | zero => simp [DataW.trod] at h
  | succ fuel =>
    cases c <;> simp [DataW.trod, ht] at h
    rename_i k' n
    obtain ⟨⟨rfl, _⟩, rfl⟩ := h
    exact ⟨n, rfl, rfl⟩
theorem mapM_getC {α β : Type} (f : α → Option β) : ∀ (l : List α) (xs : List β), l.mapM f = some xs → xs.length = l.length ∧ ∀ (i : Nat) (a : α), l[i]? = some a → ∃ x, xs[i]? = some x ∧ f a = some x
  | [], xs, h => by
    simp at h
    subst h
    exact ⟨rfl, fun i a h => by simp at h⟩
  | a :: l, xs, h => by
    rw [List.mapM_cons] at h
    simp only [Option.bind_eq_bind, Option.bind_eq_some_iff, Option.pure_def, Option.some.injEq] at h
    obtain ⟨x, hx, ys, hys, rfl⟩ := h
    obtain ⟨h1, h2⟩ := mapM_getC f l ys hys
    refine ⟨by simp [h1], fun i b hb => ?_⟩
    cases i with
    | zero =>
      simp at hb
      subst hb
      exact ⟨x, rfl, hx⟩
    | succ i => exact h2 i b (by simpa using hb)
theorem trod_intsC {H : Type} {enc : TypeId × Value → H} {P : Program} {w : World} {base : Nat} {sp : Nat → Bool} {held : Bool} {fuel n : Nat} {t el : TypeId} {k : IntKind} (ht : P.underlying t = some (.array n el)) (he : P.underlying el = some (.int k)) (hc : P.cellsOf el = 1) (hct : P.cellsOf t = n)
    {ns : List Int} {cs : List Value} {p : List MemPlace} (h : DataW.trod enc P w base sp held fuel t cs = some (.agg (ns.map fun x => .lit (.int k x)), p)) : cs = ns.map (Value.int k) := by
  cases fuel with
  | zero => simp [DataW.trod] at h
  | succ fuel =>
    simp only [DataW.trod, ht, hct, hc] at h
    split at h
    · rename_i hl
      obtain ⟨xs, hxs, he2⟩ := Option.map_eq_some_iff.1 h
      simp only [Prod.mk.injEq, DataW.agg.injEq] at he2
      obtain ⟨hm, _⟩ := he2
      obtain ⟨g1, g2⟩ := mapM_getC _ _ _ hxs
      have hlen : ns.length = n := by
        have := congrArg List.length hm
        simp at this g1
        omega
      apply List.ext_getElem?
      intro i
      by_cases hi : i < n
      · obtain ⟨x, hx1, hx2⟩ := g2 i i (by simp [hi])
        have hci : ∃ c, (cs.drop (i * 1)).take 1 = [c] ∧ cs[i]? = some c := by
          exact ⟨cs[i], by rw [Nat.mul_one, List.drop_eq_getElem_cons (by omega)]; rfl, by simp [hl, hi]⟩
        obtain ⟨c, hc1, hc2⟩ := hci
        rw [hc1] at hx2
        obtain ⟨m, rfl, rfl⟩ := int_of_trodC he hx2
        have := congrArg (fun z => z[i]?) hm
        simp only [List.getElem?_map, hx1, Option.map_some] at this
        rw [hc2, List.getElem?_map]
        cases hn : ns[i]? with
        | none => rw [hn] at this; cases this
        | some q =>
          rw [hn] at this
          simp only [Option.map_some, Option.some.injEq, DataW.lit.injEq, Lit.int.injEq, true_and] at this
          rw [this]
          rfl
      · rw [List.getElem?_eq_none (by omega), List.getElem?_eq_none (by simp; omega)]
    · cases h
def nums0 : List Int := [0, 1, 28, 2, 29, 14, 24, 3, 30, 22, 20, 15, 25, 17, 4, 8, 31, 27, 13, 23, 21, 19, 16, 7, 26, 12, 18, 6, 11, 5, 10, 9]
def cellsG0 : Array Value := (nums0.map (Value.int .u8)).toArray
theorem named0 : Tryz.prog.globalNamed "math/bits.deBruijn32tab" = some 0 := by kernel_rfl
theorem type0 : (Tryz.prog.globals[0]?).map (·.type) = some 115 := by kernel_rfl
theorem arr0 : Tryz.prog.underlying 115 = some (.array 32 5) := by kernel_rfl
theorem elem0 : Tryz.prog.underlying 5 = some (.int .u8) := by kernel_rfl
theorem cells1_0 : Tryz.prog.cellsOf 5 = 1 := by kernel_rfl
theorem cellsN_0 : Tryz.prog.cellsOf 115 = 32 := by kernel_rfl
def nums1 : List Int := [0, 1, 56, 2, 57, 49, 28, 3, 61, 58, 42, 50, 38, 29, 17, 4, 62, 47, 59, 36, 45, 43, 51, 22, 53, 39, 33, 30, 24, 18, 12, 5, 63, 55, 48, 27, 60, 41, 37, 16, 46, 35, 44, 21, 52, 32, 23, 11, 54, 26, 40, 15, 34, 20, 31, 10, 25, 14, 19, 9, 13, 8, 7, 6]
def cellsG1 : Array Value := (nums1.map (Value.int .u8)).toArray
theorem named1 : Tryz.prog.globalNamed "math/bits.deBruijn64tab" = some 1 := by kernel_rfl
theorem type1 : (Tryz.prog.globals[1]?).map (·.type) = some 116 := by kernel_rfl
theorem arr1 : Tryz.prog.underlying 116 = some (.array 64 5) := by kernel_rfl
theorem elem1 : Tryz.prog.underlying 5 = some (.int .u8) := by kernel_rfl
theorem cells1_1 : Tryz.prog.cellsOf 5 = 1 := by kernel_rfl
theorem cellsN_1 : Tryz.prog.cellsOf 116 = 64 := by kernel_rfl
abbrev laidList : List (String × DataW Unit) := [("math/bits.deBruijn32tab", Rows.laid_math_bits_deBruijn32tab), ("math/bits.deBruijn64tab", Rows.laid_math_bits_deBruijn64tab)]
theorem vars_of_laid {W : World} (h : laidMet Tryz.prog laidList W) : W.var? Tryz.prog "math/bits.deBruijn32tab" = some cellsG0 ∧ W.var? Tryz.prog "math/bits.deBruijn64tab" = some cellsG1 := by
  obtain ⟨ps, h, _⟩ := h
  obtain ⟨g0, t0, c0, f0, p0, q0, hg0, ht0, hv0, hd0, h, _⟩ := h
  obtain rfl := Option.some.inj (named0.symm.trans hg0)
  obtain rfl := Option.some.inj (type0.symm.trans ht0)
  have e0 : c0 = cellsG0 := by
    have := trod_intsC arr0 elem0 cells1_0 cellsN_0 (ns := nums0) (show _ = some (DataW.agg (nums0.map fun x => .lit (.int .u8 x)), p0) from hd0)
    apply Array.ext'
    rw [this]
    rfl
  rw [e0] at hv0
  obtain ⟨g1, t1, c1, f1, p1, q1, hg1, ht1, hv1, hd1, h, _⟩ := h
  obtain rfl := Option.some.inj (named1.symm.trans hg1)
  obtain rfl := Option.some.inj (type1.symm.trans ht1)
  have e1 : c1 = cellsG1 := by
    have := trod_intsC arr1 elem1 cells1_1 cellsN_1 (ns := nums1) (show _ = some (DataW.agg (nums1.map fun x => .lit (.int .u8 x)), p1) from hd1)
    apply Array.ext'
    rw [this]
    rfl
  rw [e1] at hv1
  exact ⟨hv0, hv1⟩
theorem globs_of {W : World} (h : laidMet Tryz.prog laidList W) : GlobOk (inCtx W) := by
  have hv := vars_of_laid h
  have key : ∀ (g : Nat) (nm : String) (ns : List Int) (kd : IntKind), Tryz.prog.globalNamed nm = some g → W.var? Tryz.prog nm = some (ns.map (Value.int kd)).toArray → (inCtx W).F g ∧ (∀ i, i < ns.length → W.cell? ⟨g, i, none⟩ = some (.int kd (ns.getD i 0))) ∧ ∃ e fr, W.heap[g]? = some (.cells (ns.map (Value.int kd)).toArray e fr) := by
    intro g nm ns kd hg hv
    have hb : ∃ e fr, W.heap[g]? = some (.cells (ns.map (Value.int kd)).toArray e fr) := by
      unfold World.var? at hv
      rw [hg] at hv
      simp only [Option.bind_some] at hv
      split at hv
      · rename_i hb
        rw [hb]
        cases hv
        exact ⟨_, _, rfl⟩
      · cases hv
    refine ⟨?_, fun i hi => ?_, hb⟩
    · obtain ⟨e, fr, hb⟩ := hb
      exact (Array.getElem?_eq_some_iff.1 hb).1
    · rw [World.var?_cell hg hv i]
      simp [List.getD, hi]
  refine ⟨fun p hp => ?_, fun p hp => by cases hp⟩
  have hp : p = (1, .u8, nums1) := by
    have : p ∈ [((1, .u8, nums1) : Nat × IntKind × List Int)] := hp
    simpa using this
  subst hp
  exact key 1 "math/bits.deBruijn64tab" nums1 .u8 named1 hv.2
def putG (cs : Array Value) : Obj → Obj
  | .cells _ t frozen => .cells cs t frozen
  | o => o
noncomputable def laidWorld (os : Os) : World :=
  { World.holding Tryz.prog os ⟨#[], #[], []⟩ with heap := (((World.holding Tryz.prog os ⟨#[], #[], []⟩).heap).modify 0 (putG cellsG0)).modify 1 (putG cellsG1) }
end Go.Proofs.YtmphbdhjdalgnaaGreatDoor
