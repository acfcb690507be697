/- The program's law FnPure returns true for every input and leaves its arguments as they were; no condition. -/
import Derived.Test.YtdkcdkjdljflbaaRows
import Derived.Test.YtdkcdkjdljflbaaSymQC
import Derived.WalkKit
import Derived.ProofKit
import Derived.ChangeOld
import Derived.Below
import Derived.SizedLaws
namespace Go.Proofs.Ytdkcdkjdljflbaa.fnPure
open Go.ChangeShapes Go.WideShapes Go.ChangeAt Go.RowKit Go.Sym
set_option linter.unusedVariables false
set_option linter.unusedSimpArgs false
theorem own : ownKnob Try.prog.godebug = none := by kernel_rfl
set_option maxRecDepth 100000 in
theorem lifted (os : Os) (started : os.Started) (H : Type) (enc : TypeId × Value → H) :
    ReturnsInHanded {} Try.checked os 5 .any (Rows.fnPureSpec.pre6 enc Try.prog Try.f5 Rows.fnPureRow.domain false) (Rows.fnPureSpec.post enc Try.prog Try.f5 false true false false) := by
  refine returnsInHanded_of_change_sized (C := Try.checked) own started (by kernel_rfl) Try.func5
    (ChangeSpec.witness6 (enc := enc) (C := Try.checked) false ⟨#[], #[.slice none 0 0], []⟩ 8 (by kernel_rfl) (by kernel_rfl) (by kernel_rfl) (by kernel_rfl)) ?_
  intro W base args ds gs before hval hW hcnd hsz _
  have hW' := hW
  obtain ⟨p, q, hA, hV, rfl, hfz, hnd⟩ := hW'
  have hA : DataW.TrodAll enc Try.prog W 0 (fun _ => true) true Try.f5.params.toList args.toList ds p := hA
  rw [Try.params5] at hA
  obtain ⟨v0, vs0, d0, ds0, p0, q0, hargs, rfl, rfl, h0, r0⟩ := trodAll_cons hA
  obtain ⟨rfl, rfl, rfl⟩ := trodAll_nil r0
  obtain rfl : args = #[v0] := by cases args; simp_all
  obtain ⟨y0, w0, o0⟩ := openPlain (n := 9) (e := (.lst (.int .u8))) (by kernel_rfl) h0 (by kernel_rfl) (hval 0 38 v0 rfl rfl)
  have hr : K_lawPure [.lst (.int .u8) y0] [] = some (.bool true, []) := by
    conv => lhs; whnf
    exact gd_s (w0.1)
  exact law_calls (s := Rows.fnPureSpec) (bt := 4) rfl (by kernel_rfl) Try.underlying4 (fun ds h => match ds, h with
    | [_], _ => rfl) laid (by kernel_rfl) hW ok_lawPure hr
    (RepL_cons (o0 _ _ rfl (fun b h => h) rfl) RepL_nil) (globs _)
theorem over : Rows.fnPureRow.holds Try.pinned (OpenSpec.ofChange Rows.fnPureSpec) :=
  OpenClaim.holds_of_wide 5 Try.f5 rfl rfl rfl rfl rfl rfl rfl ⟨rfl, rfl, rfl, rfl, rfl⟩ rfl rfl rfl rfl rfl (by kernel_rfl) Try.func5 (by kernel_rfl)
    (of_decide_eq_true (by kernel_rfl)) (by unfold Func.isWrapper; first | (rw [if_pos (by decide +kernel)]; kernel_rfl) | (rw [if_neg (by decide +kernel)]; exact ⟨rfl, rfl⟩))
    (fun os started H enc _ => lifted os started H enc)
theorem proved : Rows.FnPureSaid := over
end Go.Proofs.Ytdkcdkjdljflbaa.fnPure
namespace Go.Proofs.Ytdkcdkjdljflbaa
/-- The row, under a short name, for the claim. -/
theorem fnPure_holds : Rows.FnPureSaid := fnPure.proved
#print axioms fnPure_holds
end Go.Proofs.Ytdkcdkjdljflbaa
