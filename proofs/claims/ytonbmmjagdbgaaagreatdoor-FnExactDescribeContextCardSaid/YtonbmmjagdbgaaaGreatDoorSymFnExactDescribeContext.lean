/- The program's law FnExactDescribeContext returns true for every input and leaves its arguments as they were; no condition. -/
import Derived.Test.YtonbmmjagdbgaaaGreatDoorRows
import Derived.Test.YtonbmmjagdbgaaaGreatDoorSymRC
import Derived.Test.YtonbmmjagdbgaaaGreatDoorSymFactsG
import Derived.Test.YtonbmmjagdbgaaaGreatDoorTie
import Derived.Test.YtonbmmjagdbgaaaGreatDoorCards
import Derived.SevenTiedAt
import Derived.Test.YtonbmmjagdbgaaaGreatDoorSymLaidG
import Derived.WalkKit
import Derived.ProofKit
import Derived.ChangeOld
import Derived.Below
import Derived.SizedLaws
namespace Go.Proofs.YtonbmmjagdbgaaaGreatDoor.fnExactDescribeContext
open Go.ChangeShapes Go.WideShapes Go.ChangeAt Go.RowKit Go.Sym
set_option linter.unusedVariables false
set_option linter.unusedSimpArgs false
set_option maxHeartbeats 4000000
theorem row2 (os : Os) : ((laidWorld os).forCall (fun _ _ => 0) ⟨#[], #[.agg #[.int .i64 0, .slice none 0 0]], []⟩).memory.heap[(2 : Nat)]? = some (.cells cellsG2 200 (0, 0)) := by kernel_rfl
theorem row3 (os : Os) : ((laidWorld os).forCall (fun _ _ => 0) ⟨#[], #[.agg #[.int .i64 0, .slice none 0 0]], []⟩).memory.heap[(3 : Nat)]? = some (.cells cellsG3 201 (0, 0)) := by kernel_rfl
theorem row1 (os : Os) : ((laidWorld os).forCall (fun _ _ => 0) ⟨#[], #[.agg #[.int .i64 0, .slice none 0 0]], []⟩).memory.heap[(1 : Nat)]? = some (.cells cellsG1 185 (0, 0)) := by kernel_rfl
theorem met (os : Os) : laidMet Tryz.prog laidList ((laidWorld os).forCall (fun _ _ => 0) ⟨#[], #[.agg #[.int .i64 0, .slice none 0 0]], []⟩).memory := by
  refine ⟨_, ⟨2, 200, cellsG2, 8, [], _, by kernel_rfl, by kernel_rfl, by kernel_rfl, by kernel_rfl, ⟨3, 201, cellsG3, 8, [], _, by kernel_rfl, by kernel_rfl, by kernel_rfl, by kernel_rfl, ⟨1, 185, cellsG1, 8, [], _, by kernel_rfl, by kernel_rfl, by kernel_rfl, by kernel_rfl, rfl, rfl⟩, rfl⟩, rfl⟩, by decide +kernel, fun b off h => ?_⟩
  have hb : b = 2 ∨ b = 3 ∨ b = 1 := by
    simp [MemPlace.row] at h
    omega
  rcases hb with rfl | rfl | rfl
  · refine ⟨⟨_, _, row2 os⟩, fun u v hc => ?_⟩
    simp only [World.cell?, row2 os] at hc
    simp [cellsG2] at hc
  · refine ⟨⟨_, _, row3 os⟩, fun u v hc => ?_⟩
    simp only [World.cell?, row3 os] at hc
    simp [cellsG3] at hc
  · refine ⟨⟨_, _, row1 os⟩, fun u v hc => ?_⟩
    simp only [World.cell?, row1 os] at hc
    simp [cellsG1] at hc
theorem own : ownKnob Tryz.prog.godebug = none := by kernel_rfl
set_option maxRecDepth 100000 in
theorem lifted (os : Os) (started : os.Started) (H : Type) (enc : TypeId × Value → H) :
    ReturnsInHanded {} Tryz.checked os 4 .any (fun w args => (Rows.fnExactDescribeContextSpec.pre enc Tryz.prog Tryz.f4 [] false w args ∧ laidMet Tryz.prog laidList w) ∧ sizedMet enc Tryz.prog Tryz.f4 (OpenSpec.ofChange Rows.fnExactDescribeContextSpec) false w args) (Rows.fnExactDescribeContextSpec.post enc Tryz.prog Tryz.f4 false true false false) := by
  refine returnsInHanded_of_change_and (C := Tryz.checked) (X := fun w _ => laidMet Tryz.prog laidList w) (fun _ _ _ hh h => h.of_heap hh) own started (by kernel_rfl) Tryz.func4
    (ChangeSpec.witness_at (enc := enc) (C := Tryz.checked) (os := os) (X := fun w _ => laidMet Tryz.prog laidList w) false (laidWorld os) #[.agg #[.int .i64 0, .slice none 0 0]] 8 rfl (by kernel_rfl) (by kernel_rfl) (by kernel_rfl) (by kernel_rfl) (by kernel_rfl) (met os)) ?_
  intro W base args ds gs before hval hW hcnd hsz hL _
  have hW' := hW
  obtain ⟨p, q, hA, hV, rfl, hfz, hnd⟩ := hW'
  have hA : DataW.TrodAll enc Tryz.prog W 0 (fun _ => true) true Tryz.f4.params.toList args.toList ds p := hA
  rw [Tryz.params4] at hA
  obtain ⟨v0, vs0, d0, ds0, p0, q0, hargs, rfl, rfl, h0, r0⟩ := trodAll_cons hA
  obtain ⟨rfl, rfl, rfl⟩ := trodAll_nil r0
  obtain rfl : args = #[v0] := by cases args; simp_all
  obtain ⟨y0, w0, o0⟩ := openStruct (n := 9) (e := (.pair (.int .i64) (.lst (.int .i64)))) (by kernel_rfl) h0 (by kernel_rfl) (hval 0 39 v0 rfl rfl)
  have hr : K_lawDescribe [.agg [.int .i64 y0.1, .lst (.int .i64) y0.2]] [] = some (.bool true, []) := by
    conv => lhs; whnf
    exact gd_s (w0.2.1)
  exact law_calls (s := Rows.fnExactDescribeContextSpec) (bt := 4) rfl (by kernel_rfl) Tryz.underlying4 (fun ds h => match ds, h with
    | [_], _ => rfl) laid (by kernel_rfl) hW ok_lawDescribe hr
    (RepL_cons (o0 _ rfl (fun b h => h)) RepL_nil) (globs_of hL)
theorem inpF : (Rows.fnExactDescribeContextRow.inPlace == Tryz.pinned.checked.prog.inPlace 4) = true := by kernel_rfl
theorem unfF : (Rows.fnExactDescribeContextRow.unfollowed == Tryz.pinned.checked.prog.unfollowed 4) = true := by kernel_rfl
theorem recF : (Rows.fnExactDescribeContextRow.recurses == Tryz.pinned.checked.prog.recurses 4) = true := by kernel_rfl
theorem namF : (Rows.fnExactDescribeContextRow.named == Tryz.pinned.checked.prog.varsNamed 4) = true := by kernel_rfl
theorem jf : joinedFacts Tryz.pinned.checked.prog 4 Tryz.f4 Rows.fnExactDescribeContextSpec Rows.fnExactDescribeContextRow = true := by
  unfold joinedFacts
  repeat' (with_reducible refine ((Bool.and_eq_true _ _).mpr ⟨?_, ?_⟩))
  all_goals first
    | with_reducible exact laidF
    | with_reducible exact rowedF
    | with_reducible exact stopsF
    | with_reducible exact knobsF
    | with_reducible exact heardF
    | with_reducible exact enterF
    | with_reducible exact inpF
    | with_reducible exact unfF
    | with_reducible exact recF
    | with_reducible exact namF
    | (rw [liftF]; rfl)
    | (as_aux_lemma => kernel_rfl)
theorem over : Rows.fnExactDescribeContextRow.holds Tryz.pinned (OpenSpec.ofChange Rows.fnExactDescribeContextSpec) :=
  OpenClaim.holds_of_wide 4 Tryz.f4 rfl rfl rfl rfl rfl rfl rfl ⟨rfl, rfl, rfl, rfl, rfl⟩ rfl rfl rfl rfl rfl (by kernel_rfl) Tryz.func4 jf
    (of_decide_eq_true (by kernel_rfl)) (by unfold Func.isWrapper; first | (rw [if_pos (by decide +kernel)]; kernel_rfl) | (rw [if_neg (by decide +kernel)]; exact ⟨rfl, rfl⟩))
    (fun os started H enc _ => lifted os started H enc)
theorem proved : Rows.FnExactDescribeContextSaid := over
end Go.Proofs.YtonbmmjagdbgaaaGreatDoor.fnExactDescribeContext
namespace Go.Proofs.YtonbmmjagdbgaaaGreatDoor
/-- The row, under a short name, for the claim. -/
theorem fnExactDescribeContext_holds : Rows.FnExactDescribeContextSaid := fnExactDescribeContext.proved
theorem fnExactDescribeContext_wf : Rows.fnExactDescribeContextRow.wfByText (OpenSpec.ofChange Rows.fnExactDescribeContextSpec) = true := by kernel_rfl
theorem fnExactDescribeContext_main : Tryz.pinned.checked.prog.mainIs = some (true, "8dc5ac9b3bf4b6ceb5034456dd952353d553069532468415bd94bac34c413cf6".toList) := by kernel_rfl
theorem fnExactDescribeContext_goes : false = Rows.fnExactDescribeContextRow.goesBy Tryz.pinned.checked.prog := by kernel_rfl
theorem fnExactDescribeContext_fn : Tryz.prog.funcNamed "loop.example/g00596/laws.FnExactDescribeContext" = some 4 := by kernel_rfl
theorem fnExactDescribeContext_wants39 : Tryz.prog.wantsStandIn 39 = false := by kernel_rfl
theorem fnExactDescribeContext_card : Rows.FnExactDescribeContextCardSaid :=
  Claim7.holds_tied_plain_at .later [] [.data, .data, .data] true (true, "8dc5ac9b3bf4b6ceb5034456dd952353d553069532468415bd94bac34c413cf6") true
    fnExactDescribeContext_holds (fun _ h => by cases h) fnExactDescribeContext_wf (fun _ h => by cases h) fnExactDescribeContext_row_tie rfl ⟨rfl, rfl⟩ fnExactDescribeContext_main rfl
    (fun f fn hf hfn => by
      obtain rfl : f = 4 := Option.some.inj (fnExactDescribeContext_fn.symm.trans hf) |>.symm
      obtain rfl : fn = Tryz.f4 := (Option.some.inj (Tryz.func4.symm.trans hfn)).symm
      exact ⟨looksF, fun j t ht => by
        rw [Tryz.params4] at ht
        rcases j with _ | j
        · obtain rfl : t = 39 := by simpa using ht.symm
          exact fnExactDescribeContext_wants39
        simp at ht⟩)
    fnExactDescribeContext_goes
#print axioms fnExactDescribeContext_card
end Go.Proofs.YtonbmmjagdbgaaaGreatDoor
