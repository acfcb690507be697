/- The program's law FnExactContextOfOrder returns true for every input and leaves its arguments as they were; no condition. -/
import Derived.Test.YtgipkopdifngpaaRows
import Derived.Test.YtgipkopdifngpaaSymFContextOfOrder
import Derived.WalkKit
import Derived.ProofKit
import Derived.ChangeOld
import Derived.Below
import Derived.SizedLaws
namespace Go.Proofs.Ytgipkopdifngpaa.fnExactContextOfOrder
open Go.ChangeShapes Go.WideShapes Go.ChangeAt Go.RowKit Go.Sym
set_option linter.unusedVariables false
set_option linter.unusedSimpArgs false
theorem own : ownKnob Try.prog.godebug = none := by kernel_rfl
set_option maxRecDepth 100000 in
theorem lifted (os : Os) (started : os.Started) (H : Type) (enc : TypeId × Value → H) :
    ReturnsInHanded {} Try.checked os 13 .any (Rows.fnExactContextOfOrderSpec.pre6 enc Try.prog Try.f13 Rows.fnExactContextOfOrderRow.domain false) (Rows.fnExactContextOfOrderSpec.post enc Try.prog Try.f13 false true false false) := by
  refine returnsInHanded_of_change_sized (C := Try.checked) own started (by kernel_rfl) Try.func13
    (ChangeSpec.witness6 (enc := enc) (C := Try.checked) false ⟨#[], #[.agg #[.slice none 0 0]], []⟩ 8 (by kernel_rfl) (by kernel_rfl) (by kernel_rfl) (by kernel_rfl)) ?_
  intro W base args ds gs before hval hW hcnd hsz _
  have hW' := hW
  obtain ⟨p, q, hA, hV, rfl, hfz, hnd⟩ := hW'
  have hA : DataW.TrodAll enc Try.prog W 0 (fun _ => true) true Try.f13.params.toList args.toList ds p := hA
  rw [Try.params13] at hA
  obtain ⟨v0, vs0, d0, ds0, p0, q0, hargs, rfl, rfl, h0, r0⟩ := trodAll_cons hA
  obtain ⟨rfl, rfl, rfl⟩ := trodAll_nil r0
  obtain rfl : args = #[v0] := by cases args; simp_all
  obtain ⟨y0, w0, o0⟩ := openStruct (n := 9) (e := (.lst (.int .i64))) (by kernel_rfl) h0 (by kernel_rfl) (hval 0 74 v0 rfl rfl)
  have hr : K_lawContextOfOrder [.agg [.lst (.int .i64) y0]] [] = some (.bool true, []) := by
    conv => lhs; whnf
    exact gd_s (w0.1)
  exact law_calls (s := Rows.fnExactContextOfOrderSpec) (bt := 4) rfl (by kernel_rfl) Try.underlying4 (fun ds h => match ds, h with
    | [_], _ => rfl) laid (by kernel_rfl) hW ok_lawContextOfOrder hr
    (RepL_cons (o0 _ rfl (fun b h => h)) RepL_nil)
theorem over : Rows.fnExactContextOfOrderRow.holds Try.pinned (OpenSpec.ofChange Rows.fnExactContextOfOrderSpec) :=
  OpenClaim.holds_of_wide 13 Try.f13 rfl rfl rfl rfl rfl rfl rfl ⟨rfl, rfl, rfl, rfl, rfl⟩ rfl rfl rfl rfl rfl (by kernel_rfl) Try.func13 (by kernel_rfl)
    (of_decide_eq_true (by kernel_rfl)) (by unfold Func.isWrapper; first | (rw [if_pos (by decide +kernel)]; kernel_rfl) | (rw [if_neg (by decide +kernel)]; exact ⟨rfl, rfl⟩))
    (fun os started H enc _ => lifted os started H enc)
theorem proved : Rows.FnExactContextOfOrderSaid := over
end Go.Proofs.Ytgipkopdifngpaa.fnExactContextOfOrder
namespace Go.Proofs.Ytgipkopdifngpaa
/-- The row, under a short name, for the claim. -/
theorem fnExactContextOfOrder_holds : Rows.FnExactContextOfOrderSaid := fnExactContextOfOrder.proved
#print axioms fnExactContextOfOrder_holds
end Go.Proofs.Ytgipkopdifngpaa
