/- The program's law FnDiagrams returns true for every input and leaves its arguments as they were; no condition. -/
import Derived.Test.YtihpicaamaeooaaGreatDoorRows
import Derived.Test.YtihpicaamaeooaaGreatDoorSymD3
import Derived.Test.YtihpicaamaeooaaGreatDoorSymFactsG
import Derived.Test.YtihpicaamaeooaaGreatDoorTie
import Derived.Test.YtihpicaamaeooaaGreatDoorCards
import Derived.SevenTiedAt
import Derived.Test.YtihpicaamaeooaaGreatDoorSymLaidG
import Derived.WalkKit
import Derived.ProofKit
import Derived.ChangeOld
import Derived.Below
import Derived.SizedLaws
namespace Go.Proofs.YtihpicaamaeooaaGreatDoor.fnDiagrams
open Go.ChangeShapes Go.WideShapes Go.ChangeAt Go.RowKit Go.Sym
set_option linter.unusedVariables false
set_option linter.unusedSimpArgs false
set_option maxHeartbeats 4000000
theorem row2 (os : Os) : ((laidWorld os).forCall (fun _ _ => 0) ⟨#[], #[.slice none 0 0], []⟩).memory.heap[(2 : Nat)]? = some (.cells cellsG2 156 (0, 0)) := by kernel_rfl
theorem row3 (os : Os) : ((laidWorld os).forCall (fun _ _ => 0) ⟨#[], #[.slice none 0 0], []⟩).memory.heap[(3 : Nat)]? = some (.cells cellsG3 157 (0, 0)) := by kernel_rfl
theorem row0 (os : Os) : ((laidWorld os).forCall (fun _ _ => 0) ⟨#[], #[.slice none 0 0], []⟩).memory.heap[(0 : Nat)]? = some (.cells cellsG0 148 (0, 0)) := by kernel_rfl
theorem met (os : Os) : laidMet Tryz.prog laidList ((laidWorld os).forCall (fun _ _ => 0) ⟨#[], #[.slice none 0 0], []⟩).memory := by
  refine ⟨_, ⟨2, 156, cellsG2, 8, [], _, by kernel_rfl, by kernel_rfl, by kernel_rfl, by kernel_rfl, ⟨3, 157, cellsG3, 8, [], _, by kernel_rfl, by kernel_rfl, by kernel_rfl, by kernel_rfl, ⟨0, 148, cellsG0, 8, [], _, by kernel_rfl, by kernel_rfl, by kernel_rfl, by kernel_rfl, rfl, rfl⟩, rfl⟩, rfl⟩, by decide +kernel, fun b off h => ?_⟩
  have hb : b = 2 ∨ b = 3 ∨ b = 0 := by
    simp [MemPlace.row] at h
    omega
  rcases hb with rfl | rfl | rfl
  · refine ⟨⟨_, _, row2 os⟩, fun u v hc => ?_⟩
    simp only [World.cell?, row2 os] at hc
    simp [cellsG2] at hc
  · refine ⟨⟨_, _, row3 os⟩, fun u v hc => ?_⟩
    simp only [World.cell?, row3 os] at hc
    simp [cellsG3] at hc
  · refine ⟨⟨_, _, row0 os⟩, fun u v hc => ?_⟩
    simp only [World.cell?, row0 os] at hc
    simp [cellsG0] at hc
theorem own : ownKnob Tryz.prog.godebug = none := by kernel_rfl
set_option maxRecDepth 100000 in
theorem lifted (os : Os) (started : os.Started) (H : Type) (enc : TypeId × Value → H) :
    ReturnsInHanded {} Tryz.checked os 4 .any (fun w args => (Rows.fnDiagramsSpec.pre enc Tryz.prog Tryz.f4 [] false w args ∧ laidMet Tryz.prog laidList w) ∧ sizedMet enc Tryz.prog Tryz.f4 (OpenSpec.ofChange Rows.fnDiagramsSpec) false w args) (Rows.fnDiagramsSpec.post enc Tryz.prog Tryz.f4 false true false false) := by
  refine returnsInHanded_of_change_and (C := Tryz.checked) (X := fun w _ => laidMet Tryz.prog laidList w) (fun _ _ _ hh h => h.of_heap hh) own started (by kernel_rfl) Tryz.func4
    (ChangeSpec.witness_at (enc := enc) (C := Tryz.checked) (os := os) (X := fun w _ => laidMet Tryz.prog laidList w) false (laidWorld os) #[.slice none 0 0] 8 rfl (by kernel_rfl) (by kernel_rfl) (by kernel_rfl) (by kernel_rfl) (by kernel_rfl) (met os)) ?_
  intro W base args ds gs before hval hW hcnd hsz hL _
  have hW' := hW
  obtain ⟨p, q, hA, hV, rfl, hfz, hnd⟩ := hW'
  have hA : DataW.TrodAll enc Tryz.prog W 0 (fun _ => true) true Tryz.f4.params.toList args.toList ds p := hA
  rw [Tryz.params4] at hA
  obtain ⟨v0, vs0, d0, ds0, p0, q0, hargs, rfl, rfl, h0, r0⟩ := trodAll_cons hA
  obtain ⟨rfl, rfl, rfl⟩ := trodAll_nil r0
  obtain rfl : args = #[v0] := by cases args; simp_all
  obtain ⟨y0, w0, o0⟩ := openPlain (n := 9) (e := (.lst (.int .u8))) (by kernel_rfl) h0 (by kernel_rfl) (hval 0 22 v0 rfl rfl)
  have hr : K_lawDiagrams [.lst (.int .u8) y0] [] = some (.bool true, []) := by
    conv => lhs; whnf
    exact gd_s (w0.1)
  exact law_calls (s := Rows.fnDiagramsSpec) (bt := 4) rfl (by kernel_rfl) Tryz.underlying4 (fun ds h => match ds, h with
    | [_], _ => rfl) laid (by kernel_rfl) hW ok_lawDiagrams hr
    (RepL_cons (o0 _ _ rfl (fun b h => h) rfl) RepL_nil) (globs_of hL)
theorem inpF : (Rows.fnDiagramsRow.inPlace == Tryz.pinned.checked.prog.inPlace 4) = true := by kernel_rfl
theorem unfF : (Rows.fnDiagramsRow.unfollowed == Tryz.pinned.checked.prog.unfollowed 4) = true := by kernel_rfl
theorem recF : (Rows.fnDiagramsRow.recurses == Tryz.pinned.checked.prog.recurses 4) = true := by kernel_rfl
theorem namF : (Rows.fnDiagramsRow.named == Tryz.pinned.checked.prog.varsNamed 4) = true := by kernel_rfl
theorem jf : joinedFacts Tryz.pinned.checked.prog 4 Tryz.f4 Rows.fnDiagramsSpec Rows.fnDiagramsRow = true := by
  unfold joinedFacts
  repeat' (with_reducible refine ((Bool.and_eq_true _ _).mpr ⟨?_, ?_⟩))
  all_goals first
    | with_reducible exact laidF
    | with_reducible exact rowedF
    | with_reducible exact stopsF
    | with_reducible exact knobsF
    | with_reducible exact heardF
    | with_reducible exact enterF
    | with_reducible exact inpF
    | with_reducible exact unfF
    | with_reducible exact recF
    | with_reducible exact namF
    | (rw [liftF]; rfl)
    | (as_aux_lemma => kernel_rfl)
theorem over : Rows.fnDiagramsRow.holds Tryz.pinned (OpenSpec.ofChange Rows.fnDiagramsSpec) :=
  OpenClaim.holds_of_wide 4 Tryz.f4 rfl rfl rfl rfl rfl rfl rfl ⟨rfl, rfl, rfl, rfl, rfl⟩ rfl rfl rfl rfl rfl (by kernel_rfl) Tryz.func4 jf
    (of_decide_eq_true (by kernel_rfl)) (by unfold Func.isWrapper; first | (rw [if_pos (by decide +kernel)]; kernel_rfl) | (rw [if_neg (by decide +kernel)]; exact ⟨rfl, rfl⟩))
    (fun os started H enc _ => lifted os started H enc)
theorem proved : Rows.FnDiagramsSaid := over
end Go.Proofs.YtihpicaamaeooaaGreatDoor.fnDiagrams
namespace Go.Proofs.YtihpicaamaeooaaGreatDoor
/-- The row, under a short name, for the claim. -/
theorem fnDiagrams_holds : Rows.FnDiagramsSaid := fnDiagrams.proved
theorem fnDiagrams_wf : Rows.fnDiagramsRow.wfByText (OpenSpec.ofChange Rows.fnDiagramsSpec) = true := by kernel_rfl
theorem fnDiagrams_main : Tryz.pinned.checked.prog.mainIs = some (true, "8a5a1265e6e5024b76e43477b2b0c2896005e1b9269f0501031b353a1868628e".toList) := by kernel_rfl
theorem fnDiagrams_goes : false = Rows.fnDiagramsRow.goesBy Tryz.pinned.checked.prog := by kernel_rfl
theorem fnDiagrams_fn : Tryz.prog.funcNamed "loop.example/g00596/laws.FnDiagrams" = some 4 := by kernel_rfl
theorem fnDiagrams_wants22 : Tryz.prog.wantsStandIn 22 = false := by kernel_rfl
theorem fnDiagrams_card : Rows.FnDiagramsCardSaid :=
  Claim7.holds_tied_plain_at .later [] [.data, .data, .data] true (true, "8a5a1265e6e5024b76e43477b2b0c2896005e1b9269f0501031b353a1868628e") false
    fnDiagrams_holds (fun _ h => by cases h) fnDiagrams_wf (fun _ h => by cases h) fnDiagrams_row_tie rfl ⟨rfl, rfl⟩ fnDiagrams_main rfl
    (fun f fn hf hfn => by
      obtain rfl : f = 4 := Option.some.inj (fnDiagrams_fn.symm.trans hf) |>.symm
      obtain rfl : fn = Tryz.f4 := (Option.some.inj (Tryz.func4.symm.trans hfn)).symm
      exact ⟨looksF, fun j t ht => by
        rw [Tryz.params4] at ht
        rcases j with _ | j
        · obtain rfl : t = 22 := by simpa using ht.symm
          exact fnDiagrams_wants22
        simp at ht⟩)
    fnDiagrams_goes
#print axioms fnDiagrams_card
end Go.Proofs.YtihpicaamaeooaaGreatDoor
