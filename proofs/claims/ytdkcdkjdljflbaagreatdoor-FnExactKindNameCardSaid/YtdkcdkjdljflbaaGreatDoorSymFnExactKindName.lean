/- The program's law FnExactKindName returns true for every input and leaves its arguments as they were; no condition. -/
import Derived.Test.YtdkcdkjdljflbaaGreatDoorRows
import Derived.Test.YtdkcdkjdljflbaaGreatDoorSymK6
import Derived.Test.YtdkcdkjdljflbaaGreatDoorSymFactsE
import Derived.Test.YtdkcdkjdljflbaaGreatDoorTie
import Derived.Test.YtdkcdkjdljflbaaGreatDoorCards
import Derived.SevenTiedAt
import Derived.Test.YtdkcdkjdljflbaaGreatDoorSymLaidE
import Derived.WalkKit
import Derived.ProofKit
import Derived.ChangeOld
import Derived.Below
import Derived.SizedLaws
namespace Go.Proofs.YtdkcdkjdljflbaaGreatDoor.fnExactKindName
open Go.ChangeShapes Go.WideShapes Go.ChangeAt Go.RowKit Go.Sym
set_option linter.unusedVariables false
set_option linter.unusedSimpArgs false
set_option maxHeartbeats 4000000
theorem row0 (os : Os) : ((laidWorld os).forCall (fun _ _ => 0) ⟨#[], #[.agg #[.int .i64 0, .slice none 0 0]], []⟩).memory.heap[(0 : Nat)]? = some (.cells cellsG0 145 (0, 0)) := by kernel_rfl
theorem row1 (os : Os) : ((laidWorld os).forCall (fun _ _ => 0) ⟨#[], #[.agg #[.int .i64 0, .slice none 0 0]], []⟩).memory.heap[(1 : Nat)]? = some (.cells cellsG1 146 (0, 0)) := by kernel_rfl
theorem met (os : Os) : laidMet Tryz.prog laidList ((laidWorld os).forCall (fun _ _ => 0) ⟨#[], #[.agg #[.int .i64 0, .slice none 0 0]], []⟩).memory := by
  refine ⟨_, ⟨0, 145, cellsG0, 8, [], _, by kernel_rfl, by kernel_rfl, by kernel_rfl, by kernel_rfl, ⟨1, 146, cellsG1, 8, [], _, by kernel_rfl, by kernel_rfl, by kernel_rfl, by kernel_rfl, rfl, rfl⟩, rfl⟩, by decide +kernel, fun b off h => ?_⟩
  have hb : b = 0 ∨ b = 1 := by
    simp [MemPlace.row] at h
    omega
  rcases hb with rfl | rfl
  · refine ⟨⟨_, _, row0 os⟩, fun u v hc => ?_⟩
    simp only [World.cell?, row0 os] at hc
    simp [cellsG0] at hc
  · refine ⟨⟨_, _, row1 os⟩, fun u v hc => ?_⟩
    simp only [World.cell?, row1 os] at hc
    simp [cellsG1] at hc
theorem own : ownKnob Tryz.prog.godebug = none := by kernel_rfl
set_option maxRecDepth 100000 in
theorem lifted (os : Os) (started : os.Started) (H : Type) (enc : TypeId × Value → H) :
    ReturnsInHanded {} Tryz.checked os 4 .any (fun w args => (Rows.fnExactKindNameSpec.pre enc Tryz.prog Tryz.f4 [] false w args ∧ laidMet Tryz.prog laidList w) ∧ sizedMet enc Tryz.prog Tryz.f4 (OpenSpec.ofChange Rows.fnExactKindNameSpec) false w args) (Rows.fnExactKindNameSpec.post enc Tryz.prog Tryz.f4 false true false false) := by
  refine returnsInHanded_of_change_and (C := Tryz.checked) (X := fun w _ => laidMet Tryz.prog laidList w) (fun _ _ _ hh h => h.of_heap hh) own started (by kernel_rfl) Tryz.func4
    (ChangeSpec.witness_at (enc := enc) (C := Tryz.checked) (os := os) (X := fun w _ => laidMet Tryz.prog laidList w) false (laidWorld os) #[.agg #[.int .i64 0, .slice none 0 0]] 8 rfl (by kernel_rfl) (by kernel_rfl) (by kernel_rfl) (by kernel_rfl) (by kernel_rfl) (met os)) ?_
  intro W base args ds gs before hval hW hcnd hsz hL _
  have hW' := hW
  obtain ⟨p, q, hA, hV, rfl, hfz, hnd⟩ := hW'
  have hA : DataW.TrodAll enc Tryz.prog W 0 (fun _ => true) true Tryz.f4.params.toList args.toList ds p := hA
  rw [Tryz.params4] at hA
  obtain ⟨v0, vs0, d0, ds0, p0, q0, hargs, rfl, rfl, h0, r0⟩ := trodAll_cons hA
  obtain ⟨rfl, rfl, rfl⟩ := trodAll_nil r0
  obtain rfl : args = #[v0] := by cases args; simp_all
  obtain ⟨y0, w0, o0⟩ := openStruct (n := 9) (e := (.pair (.int .i64) (.lst (.int .i64)))) (by kernel_rfl) h0 (by kernel_rfl) (hval 0 49 v0 rfl rfl)
  have hr : K_lawKindName [.agg [.int .i64 y0.1, .lst (.int .i64) y0.2]] [] = some (.bool true, []) := by
    conv => lhs; whnf
    exact gd_s (w0.2.1)
  exact law_calls (s := Rows.fnExactKindNameSpec) (bt := 4) rfl (by kernel_rfl) Tryz.underlying4 (fun ds h => match ds, h with
    | [_], _ => rfl) laid (by kernel_rfl) hW ok_lawKindName hr
    (RepL_cons (o0 _ rfl (fun b h => h)) RepL_nil) (globs_of hL)
theorem inpF : (Rows.fnExactKindNameRow.inPlace == Tryz.pinned.checked.prog.inPlace 4) = true := by kernel_rfl
theorem unfF : (Rows.fnExactKindNameRow.unfollowed == Tryz.pinned.checked.prog.unfollowed 4) = true := by kernel_rfl
theorem recF : (Rows.fnExactKindNameRow.recurses == Tryz.pinned.checked.prog.recurses 4) = true := by kernel_rfl
theorem namF : (Rows.fnExactKindNameRow.named == Tryz.pinned.checked.prog.varsNamed 4) = true := by kernel_rfl
theorem jf : joinedFacts Tryz.pinned.checked.prog 4 Tryz.f4 Rows.fnExactKindNameSpec Rows.fnExactKindNameRow = true := by
  unfold joinedFacts
  repeat' (with_reducible refine ((Bool.and_eq_true _ _).mpr ⟨?_, ?_⟩))
  all_goals first
    | with_reducible exact laidF
    | with_reducible exact rowedF
    | with_reducible exact stopsF
    | with_reducible exact knobsF
    | with_reducible exact heardF
    | with_reducible exact enterF
    | with_reducible exact inpF
    | with_reducible exact unfF
    | with_reducible exact recF
    | with_reducible exact namF
    | (rw [liftF]; rfl)
    | (as_aux_lemma => kernel_rfl)
theorem over : Rows.fnExactKindNameRow.holds Tryz.pinned (OpenSpec.ofChange Rows.fnExactKindNameSpec) :=
  OpenClaim.holds_of_wide 4 Tryz.f4 rfl rfl rfl rfl rfl rfl rfl ⟨rfl, rfl, rfl, rfl, rfl⟩ rfl rfl rfl rfl rfl (by kernel_rfl) Tryz.func4 jf
    (of_decide_eq_true (by kernel_rfl)) (by unfold Func.isWrapper; first | (rw [if_pos (by decide +kernel)]; kernel_rfl) | (rw [if_neg (by decide +kernel)]; exact ⟨rfl, rfl⟩))
    (fun os started H enc _ => lifted os started H enc)
theorem proved : Rows.FnExactKindNameSaid := over
end Go.Proofs.YtdkcdkjdljflbaaGreatDoor.fnExactKindName
namespace Go.Proofs.YtdkcdkjdljflbaaGreatDoor
/-- The row, under a short name, for the claim. -/
theorem fnExactKindName_holds : Rows.FnExactKindNameSaid := fnExactKindName.proved
theorem fnExactKindName_wf : Rows.fnExactKindNameRow.wfByText (OpenSpec.ofChange Rows.fnExactKindNameSpec) = true := by kernel_rfl
theorem fnExactKindName_main : Tryz.pinned.checked.prog.mainIs = some (true, "97dfe3a0f2abf17a82f2f05cf10c09b641ce55377413ae453a7e9ff53fbc0139".toList) := by kernel_rfl
theorem fnExactKindName_goes : false = Rows.fnExactKindNameRow.goesBy Tryz.pinned.checked.prog := by kernel_rfl
theorem fnExactKindName_fn : Tryz.prog.funcNamed "loop.example/g00596/laws.FnExactKindName" = some 4 := by kernel_rfl
theorem fnExactKindName_wants49 : Tryz.prog.wantsStandIn 49 = false := by kernel_rfl
theorem fnExactKindName_card : Rows.FnExactKindNameCardSaid :=
  Claim7.holds_tied_plain_at .later [] [.data, .data] true (true, "97dfe3a0f2abf17a82f2f05cf10c09b641ce55377413ae453a7e9ff53fbc0139") false
    fnExactKindName_holds (fun _ h => by cases h) fnExactKindName_wf (fun _ h => by cases h) fnExactKindName_row_tie rfl ⟨rfl, rfl⟩ fnExactKindName_main rfl
    (fun f fn hf hfn => by
      obtain rfl : f = 4 := Option.some.inj (fnExactKindName_fn.symm.trans hf) |>.symm
      obtain rfl : fn = Tryz.f4 := (Option.some.inj (Tryz.func4.symm.trans hfn)).symm
      exact ⟨looksF, fun j t ht => by
        rw [Tryz.params4] at ht
        rcases j with _ | j
        · obtain rfl : t = 49 := by simpa using ht.symm
          exact fnExactKindName_wants49
        simp at ht⟩)
    fnExactKindName_goes
#print axioms fnExactKindName_card
end Go.Proofs.YtdkcdkjdljflbaaGreatDoor
