/- The program's law FnPatterns returns true for every input and leaves its arguments as they were; no condition. -/
import Derived.Test.YtdkcdkjdljflbaaDoorRows
import Derived.Test.YtdkcdkjdljflbaaDoorSymPD
import Derived.Test.YtdkcdkjdljflbaaDoorSymFactsC
import Derived.Test.YtdkcdkjdljflbaaDoorTie
import Derived.Test.YtdkcdkjdljflbaaDoorCards
import Derived.SevenTiedAt
import Derived.Test.YtdkcdkjdljflbaaDoorSymLaidP
import Derived.WalkKit
import Derived.ProofKit
import Derived.ChangeOld
import Derived.Below
import Derived.SizedLaws
namespace Go.Proofs.YtdkcdkjdljflbaaDoor.fnPatterns
open Go.ChangeShapes Go.WideShapes Go.ChangeAt Go.RowKit Go.Sym
set_option linter.unusedVariables false
set_option linter.unusedSimpArgs false
set_option maxHeartbeats 4000000
theorem row2 (os : Os) : ((laidWorld os).forCall (fun _ _ => 0) ⟨#[], #[.slice none 0 0], []⟩).memory.heap[(2 : Nat)]? = some (.cells cellsG2 142 (0, 0)) := by kernel_rfl
theorem row3 (os : Os) : ((laidWorld os).forCall (fun _ _ => 0) ⟨#[], #[.slice none 0 0], []⟩).memory.heap[(3 : Nat)]? = some (.cells cellsG3 143 (0, 0)) := by kernel_rfl
theorem row0 (os : Os) : ((laidWorld os).forCall (fun _ _ => 0) ⟨#[], #[.slice none 0 0], []⟩).memory.heap[(0 : Nat)]? = some (.cells cellsG0 127 (0, 0)) := by kernel_rfl
theorem met (os : Os) : laidMet Tryd.prog laidList ((laidWorld os).forCall (fun _ _ => 0) ⟨#[], #[.slice none 0 0], []⟩).memory := by
  refine ⟨_, ⟨2, 142, cellsG2, 8, [], _, by kernel_rfl, by kernel_rfl, by kernel_rfl, by kernel_rfl, ⟨3, 143, cellsG3, 8, [], _, by kernel_rfl, by kernel_rfl, by kernel_rfl, by kernel_rfl, ⟨0, 127, cellsG0, 8, [], _, by kernel_rfl, by kernel_rfl, by kernel_rfl, by kernel_rfl, rfl, rfl⟩, rfl⟩, rfl⟩, by decide +kernel, fun b off h => ?_⟩
  have hb : b = 2 ∨ b = 3 ∨ b = 0 := by
    simp [MemPlace.row] at h
    omega
  rcases hb with rfl | rfl | rfl
  · refine ⟨⟨_, _, row2 os⟩, fun u v hc => ?_⟩
    simp only [World.cell?, row2 os] at hc
    simp [cellsG2] at hc
  · refine ⟨⟨_, _, row3 os⟩, fun u v hc => ?_⟩
    simp only [World.cell?, row3 os] at hc
    simp [cellsG3] at hc
  · refine ⟨⟨_, _, row0 os⟩, fun u v hc => ?_⟩
    simp only [World.cell?, row0 os] at hc
    simp [cellsG0] at hc
theorem own : ownKnob Tryd.prog.godebug = none := by kernel_rfl
set_option maxRecDepth 100000 in
theorem lifted (os : Os) (started : os.Started) (H : Type) (enc : TypeId × Value → H) :
    ReturnsInHanded {} Tryd.checked os 3 .any (fun w args => (Rows.fnPatternsSpec.pre enc Tryd.prog Tryd.f3 [] false w args ∧ laidMet Tryd.prog laidList w) ∧ sizedMet enc Tryd.prog Tryd.f3 (OpenSpec.ofChange Rows.fnPatternsSpec) false w args) (Rows.fnPatternsSpec.post enc Tryd.prog Tryd.f3 false true false false) := by
  refine returnsInHanded_of_change_and (C := Tryd.checked) (X := fun w _ => laidMet Tryd.prog laidList w) (fun _ _ _ hh h => h.of_heap hh) own started (by kernel_rfl) Tryd.func3
    (ChangeSpec.witness_at (enc := enc) (C := Tryd.checked) (os := os) (X := fun w _ => laidMet Tryd.prog laidList w) false (laidWorld os) #[.slice none 0 0] 8 rfl (by kernel_rfl) (by kernel_rfl) (by kernel_rfl) (by kernel_rfl) (by kernel_rfl) (met os)) ?_
  intro W base args ds gs before hval hW hcnd hsz hL _
  have hW' := hW
  obtain ⟨p, q, hA, hV, rfl, hfz, hnd⟩ := hW'
  have hA : DataW.TrodAll enc Tryd.prog W 0 (fun _ => true) true Tryd.f3.params.toList args.toList ds p := hA
  rw [Tryd.params3] at hA
  obtain ⟨v0, vs0, d0, ds0, p0, q0, hargs, rfl, rfl, h0, r0⟩ := trodAll_cons hA
  obtain ⟨rfl, rfl, rfl⟩ := trodAll_nil r0
  obtain rfl : args = #[v0] := by cases args; simp_all
  obtain ⟨y0, w0, o0⟩ := openPlain (n := 9) (e := (.lst (.int .u8))) (by kernel_rfl) h0 (by kernel_rfl) (hval 0 22 v0 rfl rfl)
  have hr : K_lawPatterns [.lst (.int .u8) y0] [] = some (.bool true, []) := by
    conv => lhs; whnf
    exact gd_s (w0.1)
  exact law_calls (s := Rows.fnPatternsSpec) (bt := 4) rfl (by kernel_rfl) Tryd.underlying4 (fun ds h => match ds, h with
    | [_], _ => rfl) laid (by kernel_rfl) hW ok_lawPatterns hr
    (RepL_cons (o0 _ _ rfl (fun b h => h) rfl) RepL_nil) (globs_of hL)
theorem inpF : (Rows.fnPatternsRow.inPlace == Tryd.pinned.checked.prog.inPlace 3) = true := by kernel_rfl
theorem unfF : (Rows.fnPatternsRow.unfollowed == Tryd.pinned.checked.prog.unfollowed 3) = true := by kernel_rfl
theorem recF : (Rows.fnPatternsRow.recurses == Tryd.pinned.checked.prog.recurses 3) = true := by kernel_rfl
theorem namF : (Rows.fnPatternsRow.named == Tryd.pinned.checked.prog.varsNamed 3) = true := by kernel_rfl
theorem jf : joinedFacts Tryd.pinned.checked.prog 3 Tryd.f3 Rows.fnPatternsSpec Rows.fnPatternsRow = true := by
  unfold joinedFacts
  repeat' (with_reducible refine ((Bool.and_eq_true _ _).mpr ⟨?_, ?_⟩))
  all_goals first
    | with_reducible exact laidF
    | with_reducible exact rowedF
    | with_reducible exact stopsF
    | with_reducible exact knobsF
    | with_reducible exact heardF
    | with_reducible exact enterF
    | with_reducible exact inpF
    | with_reducible exact unfF
    | with_reducible exact recF
    | with_reducible exact namF
    | (rw [liftF]; rfl)
    | (as_aux_lemma => kernel_rfl)
theorem over : Rows.fnPatternsRow.holds Tryd.pinned (OpenSpec.ofChange Rows.fnPatternsSpec) :=
  OpenClaim.holds_of_wide 3 Tryd.f3 rfl rfl rfl rfl rfl rfl rfl ⟨rfl, rfl, rfl, rfl, rfl⟩ rfl rfl rfl rfl rfl (by kernel_rfl) Tryd.func3 jf
    (of_decide_eq_true (by kernel_rfl)) (by unfold Func.isWrapper; first | (rw [if_pos (by decide +kernel)]; kernel_rfl) | (rw [if_neg (by decide +kernel)]; exact ⟨rfl, rfl⟩))
    (fun os started H enc _ => lifted os started H enc)
theorem proved : Rows.FnPatternsSaid := over
end Go.Proofs.YtdkcdkjdljflbaaDoor.fnPatterns
namespace Go.Proofs.YtdkcdkjdljflbaaDoor
/-- The row, under a short name, for the claim. -/
theorem fnPatterns_holds : Rows.FnPatternsSaid := fnPatterns.proved
theorem fnPatterns_wf : Rows.fnPatternsRow.wfByText (OpenSpec.ofChange Rows.fnPatternsSpec) = true := by kernel_rfl
theorem fnPatterns_main : Tryd.pinned.checked.prog.mainIs = some (true, "c653a55a6c24c30a99f774e50692a959ececb44efac3db8b743a25079d1b3829".toList) := by kernel_rfl
theorem fnPatterns_goes : false = Rows.fnPatternsRow.goesBy Tryd.pinned.checked.prog := by kernel_rfl
theorem fnPatterns_fn : Tryd.prog.funcNamed "loop.example/g00596/laws.FnPatterns" = some 3 := by kernel_rfl
theorem fnPatterns_wants22 : Tryd.prog.wantsStandIn 22 = false := by kernel_rfl
theorem fnPatterns_card : Rows.FnPatternsCardSaid :=
  Claim7.holds_tied_plain_at .later [] [.data, .data, .data] true (true, "c653a55a6c24c30a99f774e50692a959ececb44efac3db8b743a25079d1b3829") false
    fnPatterns_holds (fun _ h => by cases h) fnPatterns_wf (fun _ h => by cases h) fnPatterns_row_tie rfl ⟨rfl, rfl⟩ fnPatterns_main rfl
    (fun f fn hf hfn => by
      obtain rfl : f = 3 := Option.some.inj (fnPatterns_fn.symm.trans hf) |>.symm
      obtain rfl : fn = Tryd.f3 := (Option.some.inj (Tryd.func3.symm.trans hfn)).symm
      exact ⟨looksF, fun j t ht => by
        rw [Tryd.params3] at ht
        rcases j with _ | j
        · obtain rfl : t = 22 := by simpa using ht.symm
          exact fnPatterns_wants22
        simp at ht⟩)
    fnPatterns_goes
#print axioms fnPatterns_card
end Go.Proofs.YtdkcdkjdljflbaaDoor
