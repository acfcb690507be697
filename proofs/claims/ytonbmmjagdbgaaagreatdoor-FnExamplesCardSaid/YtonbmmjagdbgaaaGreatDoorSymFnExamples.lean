/- The program's law FnExamples returns true for every input and leaves its arguments as they were; no condition. -/
import Derived.Test.YtonbmmjagdbgaaaGreatDoorRows
import Derived.Test.YtonbmmjagdbgaaaGreatDoorSymHNE
import Derived.Test.YtonbmmjagdbgaaaGreatDoorSymFactsH
import Derived.Test.YtonbmmjagdbgaaaGreatDoorTie
import Derived.Test.YtonbmmjagdbgaaaGreatDoorCards
import Derived.SevenTiedAt
import Derived.Test.YtonbmmjagdbgaaaGreatDoorSymLaidH
import Derived.WalkKit
import Derived.ProofKit
import Derived.ChangeOld
import Derived.Below
import Derived.SizedLaws
namespace Go.Proofs.YtonbmmjagdbgaaaGreatDoor.fnExamples
open Go.ChangeShapes Go.WideShapes Go.ChangeAt Go.RowKit Go.Sym
set_option linter.unusedVariables false
set_option linter.unusedSimpArgs false
set_option maxHeartbeats 4000000
theorem own : ownKnob Tryz.prog.godebug = none := by kernel_rfl
set_option maxRecDepth 100000 in
theorem lifted (os : Os) (started : os.Started) (H : Type) (enc : TypeId × Value → H) :
    ReturnsInHanded {} Tryz.checked os 6 .any (fun w args => (Rows.fnExamplesSpec.pre enc Tryz.prog Tryz.f6 [] false w args ∧ laidMet Tryz.prog laidList w) ∧ sizedMet enc Tryz.prog Tryz.f6 (OpenSpec.ofChange Rows.fnExamplesSpec) false w args) (Rows.fnExamplesSpec.post enc Tryz.prog Tryz.f6 false true false false) := by
  refine change_and_shaped (C := Tryz.checked) (X := fun w _ => laidMet Tryz.prog laidList w) (fun _ _ _ hh h => h.of_heap hh) own started (by kernel_rfl) Tryz.func6
    (ChangeSpec.witness_at (enc := enc) (C := Tryz.checked) (os := os) (X := fun w _ => laidMet Tryz.prog laidList w) false (World.laidAll Tryz.prog os laidList) #[.slice none 0 0] 8 (World.laidAll_os _ _ _) (by kernel_rfl) (by kernel_rfl) (by kernel_rfl) (by kernel_rfl) (by kernel_rfl) (met os _)) ?_
  intro W base args ds gs before hval hW hcnd hsz hL hsh _
  have hW' := hW
  obtain ⟨p, q, hA, hV, rfl, hfz, hnd⟩ := hW'
  have hA : DataW.TrodAll enc Tryz.prog W 0 (fun _ => true) true Tryz.f6.params.toList args.toList ds p := hA
  rw [Tryz.params6] at hA
  obtain ⟨v0, vs0, d0, ds0, p0, q0, hargs, rfl, rfl, h0, r0⟩ := trodAll_cons hA
  obtain ⟨rfl, rfl, rfl⟩ := trodAll_nil r0
  obtain rfl : args = #[v0] := by cases args; simp_all
  obtain ⟨y0, w0, o0⟩ := openPlain (n := 9) (e := (.lst (.int .u8))) (by kernel_rfl) h0 (by kernel_rfl) (hval 0 22 v0 rfl rfl)
  have hr : K_lawExamples [.lst (.int .u8) y0] [] = some (.bool true, []) := by
    conv => lhs; whnf
    exact gd_s (w0.1)
  exact law_calls (s := Rows.fnExamplesSpec) (bt := 4) rfl (by kernel_rfl) Tryz.underlying4 (fun ds h => match ds, h with
    | [_], _ => rfl) laid (by kernel_rfl) hW ok_lawExamples hr
    (RepL_cons (o0 _ _ rfl (fun b h => h) rfl) RepL_nil) (globs_of hL hsh)
theorem inpF : (Rows.fnExamplesRow.inPlace == Tryz.pinned.checked.prog.inPlace 6) = true := by kernel_rfl
theorem unfF : (Rows.fnExamplesRow.unfollowed == Tryz.pinned.checked.prog.unfollowed 6) = true := by kernel_rfl
theorem recF : (Rows.fnExamplesRow.recurses == Tryz.pinned.checked.prog.recurses 6) = true := by kernel_rfl
theorem namF : (Rows.fnExamplesRow.named == Tryz.pinned.checked.prog.varsNamed 6) = true := by kernel_rfl
theorem jf : joinedFacts Tryz.pinned.checked.prog 6 Tryz.f6 Rows.fnExamplesSpec Rows.fnExamplesRow = true := by
  unfold joinedFacts
  repeat' (with_reducible refine ((Bool.and_eq_true _ _).mpr ⟨?_, ?_⟩))
  all_goals first
    | with_reducible exact laidF
    | with_reducible exact rowedF
    | with_reducible exact stopsF
    | with_reducible exact knobsF
    | with_reducible exact heardF
    | with_reducible exact enterF
    | with_reducible exact inpF
    | with_reducible exact unfF
    | with_reducible exact recF
    | with_reducible exact namF
    | (rw [liftF]; rfl)
    | (as_aux_lemma => kernel_rfl)
theorem over : Rows.fnExamplesRow.holds Tryz.pinned (OpenSpec.ofChange Rows.fnExamplesSpec) :=
  OpenClaim.holds_of_wide 6 Tryz.f6 rfl rfl rfl rfl rfl rfl rfl ⟨rfl, rfl, rfl, rfl, rfl⟩ rfl rfl rfl rfl rfl (by kernel_rfl) Tryz.func6 jf
    (of_decide_eq_true (by kernel_rfl)) (by unfold Func.isWrapper; first | (rw [if_pos (by decide +kernel)]; kernel_rfl) | (rw [if_neg (by decide +kernel)]; exact ⟨rfl, rfl⟩))
    (fun os started H enc _ => lifted os started H enc)
theorem proved : Rows.FnExamplesSaid := over
end Go.Proofs.YtonbmmjagdbgaaaGreatDoor.fnExamples
namespace Go.Proofs.YtonbmmjagdbgaaaGreatDoor
/-- The row, under a short name, for the claim. -/
theorem fnExamples_holds : Rows.FnExamplesSaid := fnExamples.proved
theorem fnExamples_wf : Rows.fnExamplesRow.wfByText (OpenSpec.ofChange Rows.fnExamplesSpec) = true := by kernel_rfl
theorem fnExamples_main : Tryz.pinned.checked.prog.mainIs = some (true, "8dc5ac9b3bf4b6ceb5034456dd952353d553069532468415bd94bac34c413cf6".toList) := by kernel_rfl
theorem fnExamples_goes : false = Rows.fnExamplesRow.goesBy Tryz.pinned.checked.prog := by kernel_rfl
theorem fnExamples_fn : Tryz.prog.funcNamed "loop.example/g00596/laws.FnExamples" = some 6 := by kernel_rfl
theorem fnExamples_wants22 : Tryz.prog.wantsStandIn 22 = false := by kernel_rfl
theorem fnExamples_card : Rows.FnExamplesCardSaid :=
  Claim7.holds_tied_plain_at .later [] [.data, .data, .data, .data, .sentinel, .sentinel, .pinned] true (true, "8dc5ac9b3bf4b6ceb5034456dd952353d553069532468415bd94bac34c413cf6") true
    fnExamples_holds (fun _ h => by cases h) fnExamples_wf (fun _ h => by cases h) fnExamples_row_tie rfl ⟨rfl, rfl⟩ fnExamples_main rfl
    (fun f fn hf hfn => by
      obtain rfl : f = 6 := Option.some.inj (fnExamples_fn.symm.trans hf) |>.symm
      obtain rfl : fn = Tryz.f6 := (Option.some.inj (Tryz.func6.symm.trans hfn)).symm
      exact ⟨looksF, fun j t ht => by
        rw [Tryz.params6] at ht
        rcases j with _ | j
        · obtain rfl : t = 22 := by simpa using ht.symm
          exact fnExamples_wants22
        simp at ht⟩)
    fnExamples_goes
#print axioms fnExamples_card
end Go.Proofs.YtonbmmjagdbgaaaGreatDoor
