/- The variables that a law finds laid, and what the world's shape says of others. -/
import Derived.Test.YtonbmmjagdbgaaaGreatDoorRows
import Derived.Test.YtonbmmjagdbgaaaGreatDoorSymXH
import Derived.Test.YtonbmmjagdbgaaaGreatDoorSymShp
import Derived.ChangeVars
import Derived.JoinedOf
import Derived.RowKit
import Derived.ChangeSame
import Derived.FnData
namespace Go.Proofs.YtonbmmjagdbgaaaGreatDoor
open Go.Sym Go.ChangeShapes Go.WideShapes Go.RowKit
set_option linter.unusedVariables false
set_option linter.unusedSimpArgs false
set_option maxRecDepth 100000
theorem int_of_trodC {H : Type} {enc : TypeId × Value → H} {P : Program} {w : World} {base : Nat} {sp : Nat → Bool} {held : Bool} {fuel : Nat} {t : TypeId} {k : IntKind} {c : Value} {y : DataW H × List MemPlace}
    (ht : P.underlying t = some (.int k)) (h : DataW.trod enc P w base sp held fuel t [c] = some y) : ∃ n, c = .int k n ∧ y = (.lit (.int k n), []) := by
  cases fuel with
  | zero => simp [DataW.trod] at h
  | succ fuel =>
    cases c <;> simp [DataW.trod, ht] at h
    rename_i k' n
    obtain ⟨⟨rfl, _⟩, rfl⟩ := h
    exact ⟨n, rfl, rfl⟩
theorem mapM_getC {α β : Type} (f : α → Option β) : ∀ (l : List α) (xs : List β), l.mapM f = some xs → xs.length = l.length ∧ ∀ (i : Nat) (a : α), l[i]? = some a → ∃ x, xs[i]? = some x ∧ f a = some x
  | [], xs, h => by
    simp at h
    subst h
    exact ⟨rfl, fun i a h => by simp at h⟩
  | a :: l, xs, h => by
    rw [List.mapM_cons] at h
    simp only [Option.bind_eq_bind, Option.bind_eq_some_iff, Option.pure_def, Option.some.injEq] at h
    obtain ⟨x, hx, ys, hys, rfl⟩ := h
    obtain ⟨h1, h2⟩ := mapM_getC f l ys hys
    refine ⟨by simp [h1], fun i b hb => ?_⟩
    cases i with
    | zero =>
      simp at hb
      subst hb
      exact ⟨x, rfl, hx⟩
    | succ i => exact h2 i b (by simpa using hb)
theorem trod_intsC {H : Type} {enc : TypeId × Value → H} {P : Program} {w : World} {base : Nat} {sp : Nat → Bool} {held : Bool} {fuel n : Nat} {t el : TypeId} {k : IntKind} (ht : P.underlying t = some (.array n el)) (he : P.underlying el = some (.int k)) (hc : P.cellsOf el = 1) (hct : P.cellsOf t = n)
    {ns : List Int} {cs : List Value} {p : List MemPlace} (h : DataW.trod enc P w base sp held fuel t cs = some (.agg (ns.map fun x => .lit (.int k x)), p)) : cs = ns.map (Value.int k) := by
  cases fuel with
  | zero => simp [DataW.trod] at h
  | succ fuel =>
    simp only [DataW.trod, ht, hct, hc] at h
    split at h
    · rename_i hl
      obtain ⟨xs, hxs, he2⟩ := Option.map_eq_some_iff.1 h
      simp only [Prod.mk.injEq, DataW.agg.injEq] at he2
      obtain ⟨hm, _⟩ := he2
      obtain ⟨g1, g2⟩ := mapM_getC _ _ _ hxs
      have hlen : ns.length = n := by
        have := congrArg List.length hm
        simp at this g1
        omega
      apply List.ext_getElem?
      intro i
      by_cases hi : i < n
      · obtain ⟨x, hx1, hx2⟩ := g2 i i (by simp [hi])
        have hci : ∃ c, (cs.drop (i * 1)).take 1 = [c] ∧ cs[i]? = some c := by
          exact ⟨cs[i], by rw [Nat.mul_one, List.drop_eq_getElem_cons (by omega)]; rfl, by simp [hl, hi]⟩
        obtain ⟨c, hc1, hc2⟩ := hci
        rw [hc1] at hx2
        obtain ⟨m, rfl, rfl⟩ := int_of_trodC he hx2
        have := congrArg (fun z => z[i]?) hm
        simp only [List.getElem?_map, hx1, Option.map_some] at this
        rw [hc2, List.getElem?_map]
        cases hn : ns[i]? with
        | none => rw [hn] at this; cases this
        | some q =>
          rw [hn] at this
          simp only [Option.map_some, Option.some.injEq, DataW.lit.injEq, Lit.int.injEq, true_and] at this
          rw [this]
          rfl
      · rw [List.getElem?_eq_none (by omega), List.getElem?_eq_none (by simp; omega)]
    · cases h
def nums3 : List Int := [0, 1, 56, 2, 57, 49, 28, 3, 61, 58, 42, 50, 38, 29, 17, 4, 62, 47, 59, 36, 45, 43, 51, 22, 53, 39, 33, 30, 24, 18, 12, 5, 63, 55, 48, 27, 60, 41, 37, 16, 46, 35, 44, 21, 52, 32, 23, 11, 54, 26, 40, 15, 34, 20, 31, 10, 25, 14, 19, 9, 13, 8, 7, 6]
theorem named3 : Tryz.prog.globalNamed "math/bits.deBruijn64tab" = some 3 := by kernel_rfl
theorem type3 : (Tryz.prog.globals[3]?).map (·.type) = some 201 := by kernel_rfl
theorem arr3 : Tryz.prog.underlying 201 = some (.array 64 5) := by kernel_rfl
theorem elem3 : Tryz.prog.underlying 5 = some (.int .u8) := by kernel_rfl
theorem cells1_3 : Tryz.prog.cellsOf 5 = 1 := by kernel_rfl
theorem cellsN_3 : Tryz.prog.cellsOf 201 = 64 := by kernel_rfl
def nums1 : List Int := [1, 10, 100, 1000, 10000, 100000, 1000000, 10000000, 100000000, 1000000000, 10000000000, 100000000000, 1000000000000, 10000000000000, 100000000000000, 1000000000000000, 10000000000000000, 100000000000000000, 1000000000000000000, 10000000000000000000]
theorem named1 : Tryz.prog.globalNamed "internal/strconv.uint64pow10" = some 1 := by kernel_rfl
theorem type1 : (Tryz.prog.globals[1]?).map (·.type) = some 185 := by kernel_rfl
theorem arr1 : Tryz.prog.underlying 185 = some (.array 20 126) := by kernel_rfl
theorem elem1 : Tryz.prog.underlying 126 = some (.int .u64) := by kernel_rfl
theorem cells1_1 : Tryz.prog.cellsOf 126 = 1 := by kernel_rfl
theorem cellsN_1 : Tryz.prog.cellsOf 185 = 20 := by kernel_rfl
abbrev laidList : List (String × DataW Unit) := [("math/bits.deBruijn32tab", Rows.laid_math_bits_deBruijn32tab), ("math/bits.deBruijn64tab", Rows.laid_math_bits_deBruijn64tab), ("internal/strconv.uint64pow10", Rows.laid_internal_strconv_uint64pow10), ("unicode/utf8.acceptRanges", Rows.laid_unicode_utf8_acceptRanges), ("strconv.ErrRange", Rows.laid_strconv_ErrRange), ("strconv.ErrSyntax", Rows.laid_strconv_ErrSyntax), ("unicode/utf8.first", Rows.laid_unicode_utf8_first)]
theorem met (os : Os) (args : Array Value) : laidMet Tryz.prog laidList (((World.laidAll Tryz.prog os laidList).forCall (fun _ _ => 0) ⟨#[], args, []⟩).memory) := laidMet_laidAll args (by kernel_rfl) (by kernel_rfl)
theorem glob_tab {W : World} {g : Nat} {nm : String} {ns : List Int} {kd : IntKind} (hg : Tryz.prog.globalNamed nm = some g) (hv : W.var? Tryz.prog nm = some (ns.map (Value.int kd)).toArray) : (inCtx W).F g ∧ (∀ i, i < ns.length → W.cell? ⟨g, i, none⟩ = some (.int kd (ns.getD i 0))) ∧ ∃ e fr, W.heap[g]? = some (.cells (ns.map (Value.int kd)).toArray e fr) := by
  have hb : ∃ e fr, W.heap[g]? = some (.cells (ns.map (Value.int kd)).toArray e fr) := by
    unfold World.var? at hv
    rw [hg] at hv
    simp only [Option.bind_some] at hv
    split at hv
    · rename_i hb
      rw [hb]
      cases hv
      exact ⟨_, _, rfl⟩
    · cases hv
  refine ⟨?_, fun i hi => ?_, hb⟩
  · obtain ⟨e, fr, hb⟩ := hb
    exact (Array.getElem?_eq_some_iff.1 hb).1
  · rw [World.var?_cell hg hv i]
    simp [List.getD, hi]
theorem var3 {W : World} (h : laidMet Tryz.prog laidList W) : W.var? Tryz.prog "math/bits.deBruijn64tab" = some (nums3.map (Value.int .u8)).toArray := by
  obtain ⟨ps, h, _⟩ := h
  obtain ⟨g, t, c, f, p, hg, ht, hv, hd⟩ := laid_at h (n := "math/bits.deBruijn64tab") (d := Rows.laid_math_bits_deBruijn64tab) (List.Mem.tail _ (List.Mem.head _))
  obtain rfl := Option.some.inj (named3.symm.trans hg)
  obtain rfl := Option.some.inj (type3.symm.trans ht)
  have e : c = (nums3.map (Value.int .u8)).toArray := by
    have := trod_intsC arr3 elem3 cells1_3 cellsN_3 (ns := nums3) (show _ = some (DataW.agg (nums3.map fun x => .lit (.int .u8 x)), p) from hd)
    apply Array.ext'
    rw [this]
  rw [e] at hv
  exact hv
theorem var1 {W : World} (h : laidMet Tryz.prog laidList W) : W.var? Tryz.prog "internal/strconv.uint64pow10" = some (nums1.map (Value.int .u64)).toArray := by
  obtain ⟨ps, h, _⟩ := h
  obtain ⟨g, t, c, f, p, hg, ht, hv, hd⟩ := laid_at h (n := "internal/strconv.uint64pow10") (d := Rows.laid_internal_strconv_uint64pow10) (List.Mem.tail _ (List.Mem.tail _ (List.Mem.head _)))
  obtain rfl := Option.some.inj (named1.symm.trans hg)
  obtain rfl := Option.some.inj (type1.symm.trans ht)
  have e : c = (nums1.map (Value.int .u64)).toArray := by
    have := trod_intsC arr1 elem1 cells1_1 cellsN_1 (ns := nums1) (show _ = some (DataW.agg (nums1.map fun x => .lit (.int .u64 x)), p) from hd)
    apply Array.ext'
    rw [this]
  rw [e] at hv
  exact hv
theorem globs_of {W : World} (h : laidMet Tryz.prog laidList W) (hsh : W.ShapedOpen Tryz.prog) : GlobOk (inCtx W) := by
  refine ⟨fun p hp => ?_, fun p hp => ?_⟩
  · have hp : p = (3, .u8, nums3) ∨ p = (1, .u64, nums1) := by
      have : p ∈ [((3, .u8, nums3) : Nat × IntKind × List Int), ((1, .u64, nums1) : Nat × IntKind × List Int)] := hp
      simpa using this
    rcases hp with rfl | rfl
    · exact glob_tab named3 (var3 h)
    · exact glob_tab named1 (var1 h)
  · have hp : p = (0, isI) ∨ p = (4, isE) := by
      have : p ∈ [((0, isI) : Nat × (Value → Prop)), ((4, isE) : Nat × (Value → Prop))] := hp
      simpa using this
    have key : ∀ g v, W.cell? ⟨g, 0, none⟩ = some v → (inCtx W).F g := fun g v h => by
      show g < W.heap.size
      exact World.block_lt_of_cell? _ _ h
    rcases hp with rfl | rfl
    · obtain ⟨m, hm⟩ := cell_of_shapedOpen_int (P := Tryz.prog) (g := 0) (t := 3) (zero := #[.int .i64 0]) hsh (of_decide_eq_true (by kernel_rfl)) (by kernel_rfl) (by kernel_rfl) (by kernel_rfl) (by kernel_rfl) (by kernel_rfl)
      exact ⟨key _ _ hm, _, hm, m, rfl⟩
    · obtain ⟨ps, h', _⟩ := h
      obtain ⟨g, t, c, f, p, hg, ht, hv, hd⟩ := laid_at h' (n := "strconv.ErrSyntax") (d := Rows.laid_strconv_ErrSyntax) (List.Mem.tail _ (List.Mem.tail _ (List.Mem.tail _ (List.Mem.tail _ (List.Mem.tail _ (List.Mem.head _))))))
      obtain rfl := Option.some.inj ((show Tryz.prog.globalNamed "strconv.ErrSyntax" = some 4 by kernel_rfl).symm.trans hg)
      obtain rfl := Option.some.inj ((show (Tryz.prog.globals[4]?).map (·.type) = some 135 by kernel_rfl).symm.trans ht)
      obtain ⟨u, v, hc⟩ := symIfaceTrod (show Tryz.prog.underlying 135 = some (.interface #[("Error", 138)]) by kernel_rfl) hd
      have hc' : c = #[.iface u v] := Array.toList_inj.1 hc
      have hcell : W.cell? ⟨4, 0, none⟩ = some (.iface u v) := by rw [World.var?_cell hg hv 0, hc']; rfl
      exact ⟨key _ _ hcell, _, hcell, .inr ⟨u, v, rfl⟩⟩
end Go.Proofs.YtonbmmjagdbgaaaGreatDoor
