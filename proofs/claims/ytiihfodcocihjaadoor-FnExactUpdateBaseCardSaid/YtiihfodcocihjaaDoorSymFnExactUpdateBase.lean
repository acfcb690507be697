/- The program's law FnExactUpdateBase returns true for every input and leaves its arguments as they were; no condition. -/
import Derived.Test.YtiihfodcocihjaaDoorRows
import Derived.Test.YtiihfodcocihjaaDoorSymFUpdateBase
import Derived.Test.YtiihfodcocihjaaDoorSymFactsC
import Derived.Test.YtiihfodcocihjaaDoorTie
import Derived.Test.YtiihfodcocihjaaDoorCards
import Derived.SevenTiedAt
import Derived.Test.YtiihfodcocihjaaDoorSymLaidC
import Derived.WalkKit
import Derived.ProofKit
import Derived.ChangeOld
import Derived.Below
import Derived.SizedLaws
namespace Go.Proofs.YtiihfodcocihjaaDoor.fnExactUpdateBase
open Go.ChangeShapes Go.WideShapes Go.ChangeAt Go.RowKit Go.Sym
set_option linter.unusedVariables false
set_option linter.unusedSimpArgs false
set_option maxHeartbeats 4000000
theorem row2 (os : Os) : ((laidWorld os).forCall (fun _ _ => 0) ⟨#[], #[.agg #[.int .i64 0, .slice none 0 0], .int .i64 0], []⟩).memory.heap[(2 : Nat)]? = some (.cells cellsG2 214 (0, 0)) := by kernel_rfl
theorem row3 (os : Os) : ((laidWorld os).forCall (fun _ _ => 0) ⟨#[], #[.agg #[.int .i64 0, .slice none 0 0], .int .i64 0], []⟩).memory.heap[(3 : Nat)]? = some (.cells cellsG3 215 (0, 0)) := by kernel_rfl
theorem met (os : Os) : laidMet Tryd.prog laidList ((laidWorld os).forCall (fun _ _ => 0) ⟨#[], #[.agg #[.int .i64 0, .slice none 0 0], .int .i64 0], []⟩).memory := by
  refine ⟨_, ⟨2, 214, cellsG2, 8, [], _, by kernel_rfl, by kernel_rfl, by kernel_rfl, by kernel_rfl, ⟨3, 215, cellsG3, 8, [], _, by kernel_rfl, by kernel_rfl, by kernel_rfl, by kernel_rfl, rfl, rfl⟩, rfl⟩, by decide +kernel, fun b off h => ?_⟩
  have hb : b = 2 ∨ b = 3 := by
    simp [MemPlace.row] at h
    omega
  rcases hb with rfl | rfl
  · refine ⟨⟨_, _, row2 os⟩, fun u v hc => ?_⟩
    simp only [World.cell?, row2 os] at hc
    simp [cellsG2] at hc
  · refine ⟨⟨_, _, row3 os⟩, fun u v hc => ?_⟩
    simp only [World.cell?, row3 os] at hc
    simp [cellsG3] at hc
theorem own : ownKnob Tryd.prog.godebug = none := by kernel_rfl
set_option maxRecDepth 100000 in
theorem lifted (os : Os) (started : os.Started) (H : Type) (enc : TypeId × Value → H) :
    ReturnsInHanded {} Tryd.checked os 14 .any (fun w args => (Rows.fnExactUpdateBaseSpec.pre enc Tryd.prog Tryd.f14 [] false w args ∧ laidMet Tryd.prog laidList w) ∧ sizedMet enc Tryd.prog Tryd.f14 (OpenSpec.ofChange Rows.fnExactUpdateBaseSpec) false w args) (Rows.fnExactUpdateBaseSpec.post enc Tryd.prog Tryd.f14 false true false false) := by
  refine returnsInHanded_of_change_and (C := Tryd.checked) (X := fun w _ => laidMet Tryd.prog laidList w) (fun _ _ _ hh h => h.of_heap hh) own started (by kernel_rfl) Tryd.func14
    (ChangeSpec.witness_at (enc := enc) (C := Tryd.checked) (os := os) (X := fun w _ => laidMet Tryd.prog laidList w) false (laidWorld os) #[.agg #[.int .i64 0, .slice none 0 0], .int .i64 0] 8 rfl (by kernel_rfl) (by kernel_rfl) (by kernel_rfl) (by kernel_rfl) (by kernel_rfl) (met os)) ?_
  intro W base args ds gs before hval hW hcnd hsz hL _
  have hW' := hW
  obtain ⟨p, q, hA, hV, rfl, hfz, hnd⟩ := hW'
  have hA : DataW.TrodAll enc Tryd.prog W 0 (fun _ => true) true Tryd.f14.params.toList args.toList ds p := hA
  rw [Tryd.params14] at hA
  obtain ⟨v0, vs0, d0, ds0, p0, q0, hargs, rfl, rfl, h0, r0⟩ := trodAll_cons hA
  obtain ⟨v1, vs1, d1, ds1, p1, q1, rfl, rfl, rfl, h1, r1⟩ := trodAll_cons r0
  obtain ⟨rfl, rfl, rfl⟩ := trodAll_nil r1
  obtain rfl : args = #[v0, v1] := by cases args; simp_all
  obtain ⟨y0, w0, o0⟩ := openStruct (n := 9) (e := (.pair (.int .i64) (.lst (.int .i64)))) (by kernel_rfl) h0 (by kernel_rfl) (hval 0 32 v0 rfl rfl)
  obtain ⟨y1, w1, o1⟩ := openPlain (n := 9) (e := (.int .i64)) (by kernel_rfl) h1 (by kernel_rfl) (hval 1 3 v1 rfl rfl)
  have hr : K_lawUpdateBase [.agg [.int .i64 y0.1, .lst (.int .i64) y0.2], .int .i64 y1] [] = some (.bool true, []) := by
    conv => lhs; whnf
    exact gd_s (w0.2.1)
  exact law_calls (s := Rows.fnExactUpdateBaseSpec) (bt := 4) rfl (by kernel_rfl) Tryd.underlying4 (fun ds h => match ds, h with
    | [_, _], _ => rfl) laid (by kernel_rfl) hW ok_lawUpdateBase hr
    (RepL_cons (o0 _ rfl (fun b h => h)) (RepL_cons (o1 _ _ rfl (fun b h => h) rfl) RepL_nil)) (globs_of hL)
theorem inpF : (Rows.fnExactUpdateBaseRow.inPlace == Tryd.pinned.checked.prog.inPlace 14) = true := by kernel_rfl
theorem unfF : (Rows.fnExactUpdateBaseRow.unfollowed == Tryd.pinned.checked.prog.unfollowed 14) = true := by kernel_rfl
theorem recF : (Rows.fnExactUpdateBaseRow.recurses == Tryd.pinned.checked.prog.recurses 14) = true := by kernel_rfl
theorem namF : (Rows.fnExactUpdateBaseRow.named == Tryd.pinned.checked.prog.varsNamed 14) = true := by kernel_rfl
theorem jf : joinedFacts Tryd.pinned.checked.prog 14 Tryd.f14 Rows.fnExactUpdateBaseSpec Rows.fnExactUpdateBaseRow = true := by
  unfold joinedFacts
  repeat' (with_reducible refine ((Bool.and_eq_true _ _).mpr ⟨?_, ?_⟩))
  all_goals first
    | with_reducible exact laidF
    | with_reducible exact rowedF
    | with_reducible exact stopsF
    | with_reducible exact knobsF
    | with_reducible exact heardF
    | with_reducible exact enterF
    | with_reducible exact inpF
    | with_reducible exact unfF
    | with_reducible exact recF
    | with_reducible exact namF
    | (rw [liftF]; rfl)
    | (as_aux_lemma => kernel_rfl)
theorem over : Rows.fnExactUpdateBaseRow.holds Tryd.pinned (OpenSpec.ofChange Rows.fnExactUpdateBaseSpec) :=
  OpenClaim.holds_of_wide 14 Tryd.f14 rfl rfl rfl rfl rfl rfl rfl ⟨rfl, rfl, rfl, rfl, rfl⟩ rfl rfl rfl rfl rfl (by kernel_rfl) Tryd.func14 jf
    (of_decide_eq_true (by kernel_rfl)) (by unfold Func.isWrapper; first | (rw [if_pos (by decide +kernel)]; kernel_rfl) | (rw [if_neg (by decide +kernel)]; exact ⟨rfl, rfl⟩))
    (fun os started H enc _ => lifted os started H enc)
theorem proved : Rows.FnExactUpdateBaseSaid := over
end Go.Proofs.YtiihfodcocihjaaDoor.fnExactUpdateBase
namespace Go.Proofs.YtiihfodcocihjaaDoor
/-- The row, under a short name, for the claim. -/
theorem fnExactUpdateBase_holds : Rows.FnExactUpdateBaseSaid := fnExactUpdateBase.proved
theorem fnExactUpdateBase_wf : Rows.fnExactUpdateBaseRow.wfByText (OpenSpec.ofChange Rows.fnExactUpdateBaseSpec) = true := by kernel_rfl
theorem fnExactUpdateBase_main : Tryd.pinned.checked.prog.mainIs = some (true, "09ed5302a242716d0511367d56f1482c960218b0e2aa0e3ceb22bc01365ddb37".toList) := by kernel_rfl
theorem fnExactUpdateBase_goes : false = Rows.fnExactUpdateBaseRow.goesBy Tryd.pinned.checked.prog := by kernel_rfl
theorem fnExactUpdateBase_fn : Tryd.prog.funcNamed "loop.example/g00596/laws.FnExactUpdateBase" = some 14 := by kernel_rfl
theorem fnExactUpdateBase_wants3 : Tryd.prog.wantsStandIn 3 = false := by kernel_rfl
theorem fnExactUpdateBase_wants32 : Tryd.prog.wantsStandIn 32 = false := by kernel_rfl
theorem fnExactUpdateBase_card : Rows.FnExactUpdateBaseCardSaid :=
  Claim7.holds_tied_plain_at .later [] [.data, .data] true (true, "09ed5302a242716d0511367d56f1482c960218b0e2aa0e3ceb22bc01365ddb37") true
    fnExactUpdateBase_holds (fun _ h => by cases h) fnExactUpdateBase_wf (fun _ h => by cases h) fnExactUpdateBase_row_tie rfl ⟨rfl, rfl⟩ fnExactUpdateBase_main rfl
    (fun f fn hf hfn => by
      obtain rfl : f = 14 := Option.some.inj (fnExactUpdateBase_fn.symm.trans hf) |>.symm
      obtain rfl : fn = Tryd.f14 := (Option.some.inj (Tryd.func14.symm.trans hfn)).symm
      exact ⟨looksF, fun j t ht => by
        rw [Tryd.params14] at ht
        rcases j with _ | j
        · obtain rfl : t = 32 := by simpa using ht.symm
          exact fnExactUpdateBase_wants32
        rcases j with _ | j
        · obtain rfl : t = 3 := by simpa using ht.symm
          exact fnExactUpdateBase_wants3
        simp at ht⟩)
    fnExactUpdateBase_goes
#print axioms fnExactUpdateBase_card
end Go.Proofs.YtiihfodcocihjaaDoor
