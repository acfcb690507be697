/- The program's law FnExactObjectBase returns true for every input and leaves its arguments as they were; no condition. -/
import Derived.Test.YtiihfodcocihjaaDoorRows
import Derived.Test.YtiihfodcocihjaaDoorSymFObjectBase
import Derived.Test.YtiihfodcocihjaaDoorSymFactsC
import Derived.Test.YtiihfodcocihjaaDoorTie
import Derived.Test.YtiihfodcocihjaaDoorCards
import Derived.SevenTiedAt
import Derived.Test.YtiihfodcocihjaaDoorSymLaidC
import Derived.WalkKit
import Derived.ProofKit
import Derived.ChangeOld
import Derived.Below
import Derived.SizedLaws
namespace Go.Proofs.YtiihfodcocihjaaDoor.fnExactObjectBase
open Go.ChangeShapes Go.WideShapes Go.ChangeAt Go.RowKit Go.Sym
set_option linter.unusedVariables false
set_option linter.unusedSimpArgs false
set_option maxHeartbeats 4000000
theorem row2 (os : Os) : ((laidWorld os).forCall (fun _ _ => 0) ⟨#[], #[.agg #[.int .i64 0, .slice none 0 0]], []⟩).memory.heap[(2 : Nat)]? = some (.cells cellsG2 214 (0, 0)) := by kernel_rfl
theorem row3 (os : Os) : ((laidWorld os).forCall (fun _ _ => 0) ⟨#[], #[.agg #[.int .i64 0, .slice none 0 0]], []⟩).memory.heap[(3 : Nat)]? = some (.cells cellsG3 215 (0, 0)) := by kernel_rfl
theorem met (os : Os) : laidMet Tryd.prog laidList ((laidWorld os).forCall (fun _ _ => 0) ⟨#[], #[.agg #[.int .i64 0, .slice none 0 0]], []⟩).memory := by
  refine ⟨_, ⟨2, 214, cellsG2, 8, [], _, by kernel_rfl, by kernel_rfl, by kernel_rfl, by kernel_rfl, ⟨3, 215, cellsG3, 8, [], _, by kernel_rfl, by kernel_rfl, by kernel_rfl, by kernel_rfl, rfl, rfl⟩, rfl⟩, by decide +kernel, fun b off h => ?_⟩
  have hb : b = 2 ∨ b = 3 := by
    simp [MemPlace.row] at h
    omega
  rcases hb with rfl | rfl
  · refine ⟨⟨_, _, row2 os⟩, fun u v hc => ?_⟩
    simp only [World.cell?, row2 os] at hc
    simp [cellsG2] at hc
  · refine ⟨⟨_, _, row3 os⟩, fun u v hc => ?_⟩
    simp only [World.cell?, row3 os] at hc
    simp [cellsG3] at hc
theorem own : ownKnob Tryd.prog.godebug = none := by kernel_rfl
set_option maxRecDepth 100000 in
theorem lifted (os : Os) (started : os.Started) (H : Type) (enc : TypeId × Value → H) :
    ReturnsInHanded {} Tryd.checked os 15 .any (fun w args => (Rows.fnExactObjectBaseSpec.pre enc Tryd.prog Tryd.f15 [] false w args ∧ laidMet Tryd.prog laidList w) ∧ sizedMet enc Tryd.prog Tryd.f15 (OpenSpec.ofChange Rows.fnExactObjectBaseSpec) false w args) (Rows.fnExactObjectBaseSpec.post enc Tryd.prog Tryd.f15 false true false false) := by
  refine returnsInHanded_of_change_and (C := Tryd.checked) (X := fun w _ => laidMet Tryd.prog laidList w) (fun _ _ _ hh h => h.of_heap hh) own started (by kernel_rfl) Tryd.func15
    (ChangeSpec.witness_at (enc := enc) (C := Tryd.checked) (os := os) (X := fun w _ => laidMet Tryd.prog laidList w) false (laidWorld os) #[.agg #[.int .i64 0, .slice none 0 0]] 8 rfl (by kernel_rfl) (by kernel_rfl) (by kernel_rfl) (by kernel_rfl) (by kernel_rfl) (met os)) ?_
  intro W base args ds gs before hval hW hcnd hsz hL _
  have hW' := hW
  obtain ⟨p, q, hA, hV, rfl, hfz, hnd⟩ := hW'
  have hA : DataW.TrodAll enc Tryd.prog W 0 (fun _ => true) true Tryd.f15.params.toList args.toList ds p := hA
  rw [Tryd.params15] at hA
  obtain ⟨v0, vs0, d0, ds0, p0, q0, hargs, rfl, rfl, h0, r0⟩ := trodAll_cons hA
  obtain ⟨rfl, rfl, rfl⟩ := trodAll_nil r0
  obtain rfl : args = #[v0] := by cases args; simp_all
  obtain ⟨y0, w0, o0⟩ := openStruct (n := 9) (e := (.pair (.int .i64) (.lst (.int .i64)))) (by kernel_rfl) h0 (by kernel_rfl) (hval 0 32 v0 rfl rfl)
  have hr : K_lawObjectBase [.agg [.int .i64 y0.1, .lst (.int .i64) y0.2]] [] = some (.bool true, []) := by
    conv => lhs; whnf
    exact gd_s (w0.2.1)
  exact law_calls (s := Rows.fnExactObjectBaseSpec) (bt := 4) rfl (by kernel_rfl) Tryd.underlying4 (fun ds h => match ds, h with
    | [_], _ => rfl) laid (by kernel_rfl) hW ok_lawObjectBase hr
    (RepL_cons (o0 _ rfl (fun b h => h)) RepL_nil) (globs_of hL)
theorem inpF : (Rows.fnExactObjectBaseRow.inPlace == Tryd.pinned.checked.prog.inPlace 15) = true := by kernel_rfl
theorem unfF : (Rows.fnExactObjectBaseRow.unfollowed == Tryd.pinned.checked.prog.unfollowed 15) = true := by kernel_rfl
theorem recF : (Rows.fnExactObjectBaseRow.recurses == Tryd.pinned.checked.prog.recurses 15) = true := by kernel_rfl
theorem namF : (Rows.fnExactObjectBaseRow.named == Tryd.pinned.checked.prog.varsNamed 15) = true := by kernel_rfl
theorem jf : joinedFacts Tryd.pinned.checked.prog 15 Tryd.f15 Rows.fnExactObjectBaseSpec Rows.fnExactObjectBaseRow = true := by
  unfold joinedFacts
  repeat' (with_reducible refine ((Bool.and_eq_true _ _).mpr ⟨?_, ?_⟩))
  all_goals first
    | with_reducible exact laidF
    | with_reducible exact rowedF
    | with_reducible exact stopsF
    | with_reducible exact knobsF
    | with_reducible exact heardF
    | with_reducible exact enterF
    | with_reducible exact inpF
    | with_reducible exact unfF
    | with_reducible exact recF
    | with_reducible exact namF
    | (rw [liftF]; rfl)
    | (as_aux_lemma => kernel_rfl)
theorem over : Rows.fnExactObjectBaseRow.holds Tryd.pinned (OpenSpec.ofChange Rows.fnExactObjectBaseSpec) :=
  OpenClaim.holds_of_wide 15 Tryd.f15 rfl rfl rfl rfl rfl rfl rfl ⟨rfl, rfl, rfl, rfl, rfl⟩ rfl rfl rfl rfl rfl (by kernel_rfl) Tryd.func15 jf
    (of_decide_eq_true (by kernel_rfl)) (by unfold Func.isWrapper; first | (rw [if_pos (by decide +kernel)]; kernel_rfl) | (rw [if_neg (by decide +kernel)]; exact ⟨rfl, rfl⟩))
    (fun os started H enc _ => lifted os started H enc)
theorem proved : Rows.FnExactObjectBaseSaid := over
end Go.Proofs.YtiihfodcocihjaaDoor.fnExactObjectBase
namespace Go.Proofs.YtiihfodcocihjaaDoor
/-- The row, under a short name, for the claim. -/
theorem fnExactObjectBase_holds : Rows.FnExactObjectBaseSaid := fnExactObjectBase.proved
theorem fnExactObjectBase_wf : Rows.fnExactObjectBaseRow.wfByText (OpenSpec.ofChange Rows.fnExactObjectBaseSpec) = true := by kernel_rfl
theorem fnExactObjectBase_main : Tryd.pinned.checked.prog.mainIs = some (true, "09ed5302a242716d0511367d56f1482c960218b0e2aa0e3ceb22bc01365ddb37".toList) := by kernel_rfl
theorem fnExactObjectBase_goes : false = Rows.fnExactObjectBaseRow.goesBy Tryd.pinned.checked.prog := by kernel_rfl
theorem fnExactObjectBase_fn : Tryd.prog.funcNamed "loop.example/g00596/laws.FnExactObjectBase" = some 15 := by kernel_rfl
theorem fnExactObjectBase_wants32 : Tryd.prog.wantsStandIn 32 = false := by kernel_rfl
theorem fnExactObjectBase_card : Rows.FnExactObjectBaseCardSaid :=
  Claim7.holds_tied_plain_at .later [] [.data, .data] true (true, "09ed5302a242716d0511367d56f1482c960218b0e2aa0e3ceb22bc01365ddb37") true
    fnExactObjectBase_holds (fun _ h => by cases h) fnExactObjectBase_wf (fun _ h => by cases h) fnExactObjectBase_row_tie rfl ⟨rfl, rfl⟩ fnExactObjectBase_main rfl
    (fun f fn hf hfn => by
      obtain rfl : f = 15 := Option.some.inj (fnExactObjectBase_fn.symm.trans hf) |>.symm
      obtain rfl : fn = Tryd.f15 := (Option.some.inj (Tryd.func15.symm.trans hfn)).symm
      exact ⟨looksF, fun j t ht => by
        rw [Tryd.params15] at ht
        rcases j with _ | j
        · obtain rfl : t = 32 := by simpa using ht.symm
          exact fnExactObjectBase_wants32
        simp at ht⟩)
    fnExactObjectBase_goes
#print axioms fnExactObjectBase_card
end Go.Proofs.YtiihfodcocihjaaDoor
