/- The program's law FnExactNewSession returns true for every input and leaves its arguments as they were; no condition. -/
import Derived.Test.YtonbmmjagdbgaaaDoorRows
import Derived.Test.YtonbmmjagdbgaaaDoorSymN8
import Derived.Test.YtonbmmjagdbgaaaDoorSymFactsC
import Derived.Test.YtonbmmjagdbgaaaDoorTie
import Derived.Test.YtonbmmjagdbgaaaDoorCards
import Derived.SevenTiedAt
import Derived.Test.YtonbmmjagdbgaaaDoorSymLaidC
import Derived.WalkKit
import Derived.ProofKit
import Derived.ChangeOld
import Derived.Below
import Derived.SizedLaws
namespace Go.Proofs.YtonbmmjagdbgaaaDoor.fnExactNewSession
open Go.ChangeShapes Go.WideShapes Go.ChangeAt Go.RowKit Go.Sym
set_option linter.unusedVariables false
set_option linter.unusedSimpArgs false
set_option maxHeartbeats 4000000
theorem own : ownKnob Tryd.prog.godebug = none := by kernel_rfl
set_option maxRecDepth 100000 in
theorem lifted (os : Os) (started : os.Started) (H : Type) (enc : TypeId × Value → H) :
    ReturnsInHanded {} Tryd.checked os 3 .any (fun w args => (Rows.fnExactNewSessionSpec.pre enc Tryd.prog Tryd.f3 [] false w args ∧ laidMet Tryd.prog laidList w) ∧ sizedMet enc Tryd.prog Tryd.f3 (OpenSpec.ofChange Rows.fnExactNewSessionSpec) false w args) (Rows.fnExactNewSessionSpec.post enc Tryd.prog Tryd.f3 false true false false) := by
  refine change_and_shaped (C := Tryd.checked) (X := fun w _ => laidMet Tryd.prog laidList w) (fun _ _ _ hh h => h.of_heap hh) own started (by kernel_rfl) Tryd.func3
    (ChangeSpec.witness_at (enc := enc) (C := Tryd.checked) (os := os) (X := fun w _ => laidMet Tryd.prog laidList w) false (World.laidAll Tryd.prog os laidList) #[] 8 (World.laidAll_os _ _ _) (by kernel_rfl) (by kernel_rfl) (by kernel_rfl) (by kernel_rfl) (by kernel_rfl) (met os)) ?_
  intro W base args ds gs before hval hW hcnd hsz hL hsh _
  have hW' := hW
  obtain ⟨p, q, hA, hV, rfl, hfz, hnd⟩ := hW'
  have hA : DataW.TrodAll enc Tryd.prog W 0 (fun _ => true) true Tryd.f3.params.toList args.toList ds p := hA
  rw [Tryd.params3] at hA
  obtain ⟨ha, rfl, rfl⟩ := trodAll_nil hA
  obtain rfl : args = #[] := by cases args; simp_all
  have hr : K_lawNewSession [] [] = some (.bool true, []) := by
    conv => lhs; whnf
    exact gd_s (True.intro)
  exact law_calls (s := Rows.fnExactNewSessionSpec) (bt := 4) rfl (by kernel_rfl) Tryd.underlying4 (fun ds h => match ds, h with
    | [], _ => rfl) laid (by kernel_rfl) hW ok_lawNewSession hr
    RepL_nil (globs_of hL hsh)
theorem inpF : (Rows.fnExactNewSessionRow.inPlace == Tryd.pinned.checked.prog.inPlace 3) = true := by kernel_rfl
theorem unfF : (Rows.fnExactNewSessionRow.unfollowed == Tryd.pinned.checked.prog.unfollowed 3) = true := by kernel_rfl
theorem recF : (Rows.fnExactNewSessionRow.recurses == Tryd.pinned.checked.prog.recurses 3) = true := by kernel_rfl
theorem namF : (Rows.fnExactNewSessionRow.named == Tryd.pinned.checked.prog.varsNamed 3) = true := by kernel_rfl
theorem jf : joinedFacts Tryd.pinned.checked.prog 3 Tryd.f3 Rows.fnExactNewSessionSpec Rows.fnExactNewSessionRow = true := by
  unfold joinedFacts
  repeat' (with_reducible refine ((Bool.and_eq_true _ _).mpr ⟨?_, ?_⟩))
  all_goals first
    | with_reducible exact laidF
    | with_reducible exact rowedF
    | with_reducible exact stopsF
    | with_reducible exact knobsF
    | with_reducible exact heardF
    | with_reducible exact enterF
    | with_reducible exact inpF
    | with_reducible exact unfF
    | with_reducible exact recF
    | with_reducible exact namF
    | (rw [liftF]; rfl)
    | (as_aux_lemma => kernel_rfl)
theorem over : Rows.fnExactNewSessionRow.holds Tryd.pinned (OpenSpec.ofChange Rows.fnExactNewSessionSpec) :=
  OpenClaim.holds_of_wide 3 Tryd.f3 rfl rfl rfl rfl rfl rfl rfl ⟨rfl, rfl, rfl, rfl, rfl⟩ rfl rfl rfl rfl rfl (by kernel_rfl) Tryd.func3 jf
    (of_decide_eq_true (by kernel_rfl)) (by unfold Func.isWrapper; first | (rw [if_pos (by decide +kernel)]; kernel_rfl) | (rw [if_neg (by decide +kernel)]; exact ⟨rfl, rfl⟩))
    (fun os started H enc _ => lifted os started H enc)
theorem proved : Rows.FnExactNewSessionSaid := over
end Go.Proofs.YtonbmmjagdbgaaaDoor.fnExactNewSession
namespace Go.Proofs.YtonbmmjagdbgaaaDoor
/-- The row, under a short name, for the claim. -/
theorem fnExactNewSession_holds : Rows.FnExactNewSessionSaid := fnExactNewSession.proved
theorem fnExactNewSession_wf : Rows.fnExactNewSessionRow.wfByText (OpenSpec.ofChange Rows.fnExactNewSessionSpec) = true := by kernel_rfl
theorem fnExactNewSession_main : Tryd.pinned.checked.prog.mainIs = some (true, "ed08681f3fc3cd514b217c568fc03a1d82613210e405ca187a5a519a193b5145".toList) := by kernel_rfl
theorem fnExactNewSession_goes : false = Rows.fnExactNewSessionRow.goesBy Tryd.pinned.checked.prog := by kernel_rfl
theorem fnExactNewSession_fn : Tryd.prog.funcNamed "loop.example/g00596/laws.FnExactNewSession" = some 3 := by kernel_rfl
theorem fnExactNewSession_card : Rows.FnExactNewSessionCardSaid :=
  Claim7.holds_tied_plain_at .later [] [.data, .data, .data, .data, .sentinel, .sentinel, .pinned] true (true, "ed08681f3fc3cd514b217c568fc03a1d82613210e405ca187a5a519a193b5145") true
    fnExactNewSession_holds (fun _ h => by cases h) fnExactNewSession_wf (fun _ h => by cases h) fnExactNewSession_row_tie rfl ⟨rfl, rfl⟩ fnExactNewSession_main rfl
    (fun f fn hf hfn => by
      obtain rfl : f = 3 := Option.some.inj (fnExactNewSession_fn.symm.trans hf) |>.symm
      obtain rfl : fn = Tryd.f3 := (Option.some.inj (Tryd.func3.symm.trans hfn)).symm
      exact ⟨looksF, fun j t ht => by
        rw [Tryd.params3] at ht
        simp at ht⟩)
    fnExactNewSession_goes
#print axioms fnExactNewSession_card
end Go.Proofs.YtonbmmjagdbgaaaDoor
