/- The program's law FnExactHasCrowd returns true for every input and leaves its arguments as they were; no condition. -/
import Derived.Test.YtihpicaamaeooaaDoorRows
import Derived.Test.YtihpicaamaeooaaDoorSymFHasCrowd
import Derived.Test.YtihpicaamaeooaaDoorSymFactsC
import Derived.Test.YtihpicaamaeooaaDoorTie
import Derived.Test.YtihpicaamaeooaaDoorCards
import Derived.SevenTiedAt
import Derived.Test.YtihpicaamaeooaaDoorSymLaidC
import Derived.WalkKit
import Derived.ProofKit
import Derived.ChangeOld
import Derived.Below
import Derived.SizedLaws
namespace Go.Proofs.YtihpicaamaeooaaDoor.fnExactHasCrowd
open Go.ChangeShapes Go.WideShapes Go.ChangeAt Go.RowKit Go.Sym
set_option linter.unusedVariables false
set_option linter.unusedSimpArgs false
set_option maxHeartbeats 4000000
theorem row0 (os : Os) : ((laidWorld os).forCall (fun _ _ => 0) ⟨#[], #[.agg #[.int .i64 0, .slice none 0 0]], []⟩).memory.heap[(0 : Nat)]? = some (.cells cellsG0 86 (0, 0)) := by kernel_rfl
theorem row1 (os : Os) : ((laidWorld os).forCall (fun _ _ => 0) ⟨#[], #[.agg #[.int .i64 0, .slice none 0 0]], []⟩).memory.heap[(1 : Nat)]? = some (.cells cellsG1 87 (0, 0)) := by kernel_rfl
theorem met (os : Os) : laidMet Tryd.prog laidList ((laidWorld os).forCall (fun _ _ => 0) ⟨#[], #[.agg #[.int .i64 0, .slice none 0 0]], []⟩).memory := by
  refine ⟨_, ⟨0, 86, cellsG0, 8, [], _, by kernel_rfl, by kernel_rfl, by kernel_rfl, by kernel_rfl, ⟨1, 87, cellsG1, 8, [], _, by kernel_rfl, by kernel_rfl, by kernel_rfl, by kernel_rfl, rfl, rfl⟩, rfl⟩, by decide +kernel, fun b off h => ?_⟩
  have hb : b = 0 ∨ b = 1 := by
    simp [MemPlace.row] at h
    omega
  rcases hb with rfl | rfl
  · refine ⟨⟨_, _, row0 os⟩, fun u v hc => ?_⟩
    simp only [World.cell?, row0 os] at hc
    simp [cellsG0] at hc
  · refine ⟨⟨_, _, row1 os⟩, fun u v hc => ?_⟩
    simp only [World.cell?, row1 os] at hc
    simp [cellsG1] at hc
theorem own : ownKnob Tryd.prog.godebug = none := by kernel_rfl
set_option maxRecDepth 100000 in
theorem lifted (os : Os) (started : os.Started) (H : Type) (enc : TypeId × Value → H) :
    ReturnsInHanded {} Tryd.checked os 3 .any (fun w args => (Rows.fnExactHasCrowdSpec.pre enc Tryd.prog Tryd.f3 [] false w args ∧ laidMet Tryd.prog laidList w) ∧ sizedMet enc Tryd.prog Tryd.f3 (OpenSpec.ofChange Rows.fnExactHasCrowdSpec) false w args) (Rows.fnExactHasCrowdSpec.post enc Tryd.prog Tryd.f3 false true false false) := by
  refine returnsInHanded_of_change_and (C := Tryd.checked) (X := fun w _ => laidMet Tryd.prog laidList w) (fun _ _ _ hh h => h.of_heap hh) own started (by kernel_rfl) Tryd.func3
    (ChangeSpec.witness_at (enc := enc) (C := Tryd.checked) (os := os) (X := fun w _ => laidMet Tryd.prog laidList w) false (laidWorld os) #[.agg #[.int .i64 0, .slice none 0 0]] 8 rfl (by kernel_rfl) (by kernel_rfl) (by kernel_rfl) (by kernel_rfl) (by kernel_rfl) (met os)) ?_
  intro W base args ds gs before hval hW hcnd hsz hL _
  have hW' := hW
  obtain ⟨p, q, hA, hV, rfl, hfz, hnd⟩ := hW'
  have hA : DataW.TrodAll enc Tryd.prog W 0 (fun _ => true) true Tryd.f3.params.toList args.toList ds p := hA
  rw [Tryd.params3] at hA
  obtain ⟨v0, vs0, d0, ds0, p0, q0, hargs, rfl, rfl, h0, r0⟩ := trodAll_cons hA
  obtain ⟨rfl, rfl, rfl⟩ := trodAll_nil r0
  obtain rfl : args = #[v0] := by cases args; simp_all
  obtain ⟨y0, w0, o0⟩ := openStruct (n := 9) (e := (.pair (.int .i64) (.lst (.int .i64)))) (by kernel_rfl) h0 (by kernel_rfl) (hval 0 24 v0 rfl rfl)
  have hr : K_lawHasCrowd [.agg [.int .i64 y0.1, .lst (.int .i64) y0.2]] [] = some (.bool true, []) := by
    conv => lhs; whnf
    exact gd_s (w0.2.1)
  exact law_calls (s := Rows.fnExactHasCrowdSpec) (bt := 4) rfl (by kernel_rfl) Tryd.underlying4 (fun ds h => match ds, h with
    | [_], _ => rfl) laid (by kernel_rfl) hW ok_lawHasCrowd hr
    (RepL_cons (o0 _ rfl (fun b h => h)) RepL_nil) (globs_of hL)
theorem inpF : (Rows.fnExactHasCrowdRow.inPlace == Tryd.pinned.checked.prog.inPlace 3) = true := by kernel_rfl
theorem unfF : (Rows.fnExactHasCrowdRow.unfollowed == Tryd.pinned.checked.prog.unfollowed 3) = true := by kernel_rfl
theorem recF : (Rows.fnExactHasCrowdRow.recurses == Tryd.pinned.checked.prog.recurses 3) = true := by kernel_rfl
theorem namF : (Rows.fnExactHasCrowdRow.named == Tryd.pinned.checked.prog.varsNamed 3) = true := by kernel_rfl
theorem jf : joinedFacts Tryd.pinned.checked.prog 3 Tryd.f3 Rows.fnExactHasCrowdSpec Rows.fnExactHasCrowdRow = true := by
  unfold joinedFacts
  repeat' (with_reducible refine ((Bool.and_eq_true _ _).mpr ⟨?_, ?_⟩))
  all_goals first
    | with_reducible exact laidF
    | with_reducible exact rowedF
    | with_reducible exact stopsF
    | with_reducible exact knobsF
    | with_reducible exact heardF
    | with_reducible exact enterF
    | with_reducible exact inpF
    | with_reducible exact unfF
    | with_reducible exact recF
    | with_reducible exact namF
    | (rw [liftF]; rfl)
    | (as_aux_lemma => kernel_rfl)
theorem over : Rows.fnExactHasCrowdRow.holds Tryd.pinned (OpenSpec.ofChange Rows.fnExactHasCrowdSpec) :=
  OpenClaim.holds_of_wide 3 Tryd.f3 rfl rfl rfl rfl rfl rfl rfl ⟨rfl, rfl, rfl, rfl, rfl⟩ rfl rfl rfl rfl rfl (by kernel_rfl) Tryd.func3 jf
    (of_decide_eq_true (by kernel_rfl)) (by unfold Func.isWrapper; first | (rw [if_pos (by decide +kernel)]; kernel_rfl) | (rw [if_neg (by decide +kernel)]; exact ⟨rfl, rfl⟩))
    (fun os started H enc _ => lifted os started H enc)
theorem proved : Rows.FnExactHasCrowdSaid := over
end Go.Proofs.YtihpicaamaeooaaDoor.fnExactHasCrowd
namespace Go.Proofs.YtihpicaamaeooaaDoor
/-- The row, under a short name, for the claim. -/
theorem fnExactHasCrowd_holds : Rows.FnExactHasCrowdSaid := fnExactHasCrowd.proved
theorem fnExactHasCrowd_wf : Rows.fnExactHasCrowdRow.wfByText (OpenSpec.ofChange Rows.fnExactHasCrowdSpec) = true := by kernel_rfl
theorem fnExactHasCrowd_main : Tryd.pinned.checked.prog.mainIs = some (true, "18ff6f4c1848bc9956b6423da63e7f1aea9cd170192e65e123a537d8b3da8802".toList) := by kernel_rfl
theorem fnExactHasCrowd_goes : false = Rows.fnExactHasCrowdRow.goesBy Tryd.pinned.checked.prog := by kernel_rfl
theorem fnExactHasCrowd_fn : Tryd.prog.funcNamed "loop.example/g00596/laws.FnExactHasCrowd" = some 3 := by kernel_rfl
theorem fnExactHasCrowd_wants24 : Tryd.prog.wantsStandIn 24 = false := by kernel_rfl
theorem fnExactHasCrowd_card : Rows.FnExactHasCrowdCardSaid :=
  Claim7.holds_tied_plain_at .later [] [.data, .data] true (true, "18ff6f4c1848bc9956b6423da63e7f1aea9cd170192e65e123a537d8b3da8802") false
    fnExactHasCrowd_holds (fun _ h => by cases h) fnExactHasCrowd_wf (fun _ h => by cases h) fnExactHasCrowd_row_tie rfl ⟨rfl, rfl⟩ fnExactHasCrowd_main rfl
    (fun f fn hf hfn => by
      obtain rfl : f = 3 := Option.some.inj (fnExactHasCrowd_fn.symm.trans hf) |>.symm
      obtain rfl : fn = Tryd.f3 := (Option.some.inj (Tryd.func3.symm.trans hfn)).symm
      exact ⟨looksF, fun j t ht => by
        rw [Tryd.params3] at ht
        rcases j with _ | j
        · obtain rfl : t = 24 := by simpa using ht.symm
          exact fnExactHasCrowd_wants24
        simp at ht⟩)
    fnExactHasCrowd_goes
#print axioms fnExactHasCrowd_card
end Go.Proofs.YtihpicaamaeooaaDoor
