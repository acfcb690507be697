/- The program's law FnMapped returns true for every input and leaves its arguments as they were; no condition. -/
import Derived.Test.YtmphbdhjdalgnaaGreatDoorRows
import Derived.Test.YtmphbdhjdalgnaaGreatDoorSymMF
import Derived.Test.YtmphbdhjdalgnaaGreatDoorSymFactsM
import Derived.Test.YtmphbdhjdalgnaaGreatDoorTie
import Derived.Test.YtmphbdhjdalgnaaGreatDoorCards
import Derived.SevenTiedAt
import Derived.Test.YtmphbdhjdalgnaaGreatDoorSymLaidM
import Derived.WalkKit
import Derived.ProofKit
import Derived.ChangeOld
import Derived.Below
import Derived.SizedLaws
namespace Go.Proofs.YtmphbdhjdalgnaaGreatDoor.fnMapped
open Go.ChangeShapes Go.WideShapes Go.ChangeAt Go.RowKit Go.Sym
set_option linter.unusedVariables false
set_option linter.unusedSimpArgs false
set_option maxHeartbeats 4000000
theorem row0 (os : Os) : ((laidWorld os).forCall (fun _ _ => 0) ⟨#[], #[.slice none 0 0], []⟩).memory.heap[(0 : Nat)]? = some (.cells cellsG0 115 (0, 0)) := by kernel_rfl
theorem row1 (os : Os) : ((laidWorld os).forCall (fun _ _ => 0) ⟨#[], #[.slice none 0 0], []⟩).memory.heap[(1 : Nat)]? = some (.cells cellsG1 116 (0, 0)) := by kernel_rfl
theorem met (os : Os) : laidMet Tryz.prog laidList ((laidWorld os).forCall (fun _ _ => 0) ⟨#[], #[.slice none 0 0], []⟩).memory := by
  refine ⟨_, ⟨0, 115, cellsG0, 8, [], _, by kernel_rfl, by kernel_rfl, by kernel_rfl, by kernel_rfl, ⟨1, 116, cellsG1, 8, [], _, by kernel_rfl, by kernel_rfl, by kernel_rfl, by kernel_rfl, rfl, rfl⟩, rfl⟩, by decide +kernel, fun b off h => ?_⟩
  have hb : b = 0 ∨ b = 1 := by
    simp [MemPlace.row] at h
    omega
  rcases hb with rfl | rfl
  · refine ⟨⟨_, _, row0 os⟩, fun u v hc => ?_⟩
    simp only [World.cell?, row0 os] at hc
    simp [cellsG0] at hc
  · refine ⟨⟨_, _, row1 os⟩, fun u v hc => ?_⟩
    simp only [World.cell?, row1 os] at hc
    simp [cellsG1] at hc
theorem own : ownKnob Tryz.prog.godebug = none := by kernel_rfl
set_option maxRecDepth 100000 in
theorem lifted (os : Os) (started : os.Started) (H : Type) (enc : TypeId × Value → H) :
    ReturnsInHanded {} Tryz.checked os 3 .any (fun w args => (Rows.fnMappedSpec.pre enc Tryz.prog Tryz.f3 [] false w args ∧ laidMet Tryz.prog laidList w) ∧ sizedMet enc Tryz.prog Tryz.f3 (OpenSpec.ofChange Rows.fnMappedSpec) false w args) (Rows.fnMappedSpec.post enc Tryz.prog Tryz.f3 false true false false) := by
  refine returnsInHanded_of_change_and (C := Tryz.checked) (X := fun w _ => laidMet Tryz.prog laidList w) (fun _ _ _ hh h => h.of_heap hh) own started (by kernel_rfl) Tryz.func3
    (ChangeSpec.witness_at (enc := enc) (C := Tryz.checked) (os := os) (X := fun w _ => laidMet Tryz.prog laidList w) false (laidWorld os) #[.slice none 0 0] 8 rfl (by kernel_rfl) (by kernel_rfl) (by kernel_rfl) (by kernel_rfl) (by kernel_rfl) (met os)) ?_
  intro W base args ds gs before hval hW hcnd hsz hL _
  have hW' := hW
  obtain ⟨p, q, hA, hV, rfl, hfz, hnd⟩ := hW'
  have hA : DataW.TrodAll enc Tryz.prog W 0 (fun _ => true) true Tryz.f3.params.toList args.toList ds p := hA
  rw [Tryz.params3] at hA
  obtain ⟨v0, vs0, d0, ds0, p0, q0, hargs, rfl, rfl, h0, r0⟩ := trodAll_cons hA
  obtain ⟨rfl, rfl, rfl⟩ := trodAll_nil r0
  obtain rfl : args = #[v0] := by cases args; simp_all
  obtain ⟨y0, w0, o0⟩ := openPlain (n := 9) (e := (.lst (.int .u8))) (by kernel_rfl) h0 (by kernel_rfl) (hval 0 22 v0 rfl rfl)
  have hr : K_lawMapped [.lst (.int .u8) y0] [] = some (.bool true, []) := by
    conv => lhs; whnf
    exact gd_s (w0.1)
  exact law_calls (s := Rows.fnMappedSpec) (bt := 4) rfl (by kernel_rfl) Tryz.underlying4 (fun ds h => match ds, h with
    | [_], _ => rfl) laid (by kernel_rfl) hW ok_lawMapped hr
    (RepL_cons (o0 _ _ rfl (fun b h => h) rfl) RepL_nil) (globs_of hL)
theorem inpF : (Rows.fnMappedRow.inPlace == Tryz.pinned.checked.prog.inPlace 3) = true := by kernel_rfl
theorem unfF : (Rows.fnMappedRow.unfollowed == Tryz.pinned.checked.prog.unfollowed 3) = true := by kernel_rfl
theorem recF : (Rows.fnMappedRow.recurses == Tryz.pinned.checked.prog.recurses 3) = true := by kernel_rfl
theorem namF : (Rows.fnMappedRow.named == Tryz.pinned.checked.prog.varsNamed 3) = true := by kernel_rfl
theorem jf : joinedFacts Tryz.pinned.checked.prog 3 Tryz.f3 Rows.fnMappedSpec Rows.fnMappedRow = true := by
  unfold joinedFacts
  repeat' (with_reducible refine ((Bool.and_eq_true _ _).mpr ⟨?_, ?_⟩))
  all_goals first
    | with_reducible exact laidF
    | with_reducible exact rowedF
    | with_reducible exact stopsF
    | with_reducible exact knobsF
    | with_reducible exact heardF
    | with_reducible exact enterF
    | with_reducible exact inpF
    | with_reducible exact unfF
    | with_reducible exact recF
    | with_reducible exact namF
    | (rw [liftF]; rfl)
    | (as_aux_lemma => kernel_rfl)
theorem over : Rows.fnMappedRow.holds Tryz.pinned (OpenSpec.ofChange Rows.fnMappedSpec) :=
  OpenClaim.holds_of_wide 3 Tryz.f3 rfl rfl rfl rfl rfl rfl rfl ⟨rfl, rfl, rfl, rfl, rfl⟩ rfl rfl rfl rfl rfl (by kernel_rfl) Tryz.func3 jf
    (of_decide_eq_true (by kernel_rfl)) (by unfold Func.isWrapper; first | (rw [if_pos (by decide +kernel)]; kernel_rfl) | (rw [if_neg (by decide +kernel)]; exact ⟨rfl, rfl⟩))
    (fun os started H enc _ => lifted os started H enc)
theorem proved : Rows.FnMappedSaid := over
end Go.Proofs.YtmphbdhjdalgnaaGreatDoor.fnMapped
namespace Go.Proofs.YtmphbdhjdalgnaaGreatDoor
/-- The row, under a short name, for the claim. -/
theorem fnMapped_holds : Rows.FnMappedSaid := fnMapped.proved
theorem fnMapped_wf : Rows.fnMappedRow.wfByText (OpenSpec.ofChange Rows.fnMappedSpec) = true := by kernel_rfl
theorem fnMapped_main : Tryz.pinned.checked.prog.mainIs = some (true, "45857ab20c0601e23dcf6f89b2aa8df19854dc406fada41c8735d1364a091c75".toList) := by kernel_rfl
theorem fnMapped_goes : false = Rows.fnMappedRow.goesBy Tryz.pinned.checked.prog := by kernel_rfl
theorem fnMapped_fn : Tryz.prog.funcNamed "loop.example/g00596/laws.FnMapped" = some 3 := by kernel_rfl
theorem fnMapped_wants22 : Tryz.prog.wantsStandIn 22 = false := by kernel_rfl
theorem fnMapped_card : Rows.FnMappedCardSaid :=
  Claim7.holds_tied_plain_at .later [] [.data, .data] true (true, "45857ab20c0601e23dcf6f89b2aa8df19854dc406fada41c8735d1364a091c75") false
    fnMapped_holds (fun _ h => by cases h) fnMapped_wf (fun _ h => by cases h) fnMapped_row_tie rfl ⟨rfl, rfl⟩ fnMapped_main rfl
    (fun f fn hf hfn => by
      obtain rfl : f = 3 := Option.some.inj (fnMapped_fn.symm.trans hf) |>.symm
      obtain rfl : fn = Tryz.f3 := (Option.some.inj (Tryz.func3.symm.trans hfn)).symm
      exact ⟨looksF, fun j t ht => by
        rw [Tryz.params3] at ht
        rcases j with _ | j
        · obtain rfl : t = 22 := by simpa using ht.symm
          exact fnMapped_wants22
        simp at ht⟩)
    fnMapped_goes
#print axioms fnMapped_card
end Go.Proofs.YtmphbdhjdalgnaaGreatDoor
