/- The program's law FnExactHullOf returns true for every input and leaves its arguments as they were; no condition. -/
import Derived.Test.YtdkcdkjdljflbaaRows
import Derived.Test.YtdkcdkjdljflbaaSymFHullOf
import Derived.WalkKit
import Derived.ProofKit
import Derived.ChangeOld
import Derived.Below
import Derived.SizedLaws
namespace Go.Proofs.Ytdkcdkjdljflbaa.fnExactHullOf
open Go.ChangeShapes Go.WideShapes Go.ChangeAt Go.RowKit Go.Sym
set_option linter.unusedVariables false
set_option linter.unusedSimpArgs false
theorem own : ownKnob Try.prog.godebug = none := by kernel_rfl
set_option maxRecDepth 100000 in
theorem lifted (os : Os) (started : os.Started) (H : Type) (enc : TypeId × Value → H) :
    ReturnsInHanded {} Try.checked os 3 .any (Rows.fnExactHullOfSpec.pre6 enc Try.prog Try.f3 Rows.fnExactHullOfRow.domain false) (Rows.fnExactHullOfSpec.post enc Try.prog Try.f3 false true false false) := by
  refine returnsInHanded_of_change_sized (C := Try.checked) own started (by kernel_rfl) Try.func3
    (ChangeSpec.witness6 (enc := enc) (C := Try.checked) false ⟨#[], #[.slice none 0 0, .int .i64 0], []⟩ 8 (by kernel_rfl) (by kernel_rfl) (by kernel_rfl) (by kernel_rfl)) ?_
  intro W base args ds gs before hval hW hcnd hsz _
  have hW' := hW
  obtain ⟨p, q, hA, hV, rfl, hfz, hnd⟩ := hW'
  have hA : DataW.TrodAll enc Try.prog W 0 (fun _ => true) true Try.f3.params.toList args.toList ds p := hA
  rw [Try.params3] at hA
  obtain ⟨v0, vs0, d0, ds0, p0, q0, hargs, rfl, rfl, h0, r0⟩ := trodAll_cons hA
  obtain ⟨v1, vs1, d1, ds1, p1, q1, rfl, rfl, rfl, h1, r1⟩ := trodAll_cons r0
  obtain ⟨rfl, rfl, rfl⟩ := trodAll_nil r1
  obtain rfl : args = #[v0, v1] := by cases args; simp_all
  obtain ⟨y0, w0, o0⟩ := openPlain (n := 9) (e := (.lst (.lst (.int .i64)))) (by kernel_rfl) h0 (by kernel_rfl) (hval 0 22 v0 rfl rfl)
  obtain ⟨y1, w1, o1⟩ := openPlain (n := 9) (e := (.int .i64)) (by kernel_rfl) h1 (by kernel_rfl) (hval 1 3 v1 rfl rfl)
  have hr : K_lawHullOf [.lst (.lst (.int .i64)) y0, .int .i64 y1] [] = some (.bool true, []) := by
    conv => lhs; whnf
    exact gd_s (⟨w0.1, fun x hx => (w0.2 x hx).1⟩)
  exact law_calls (s := Rows.fnExactHullOfSpec) (bt := 4) rfl (by kernel_rfl) Try.underlying4 (fun ds h => match ds, h with
    | [_, _], _ => rfl) laid (by kernel_rfl) hW ok_lawHullOf hr
    (RepL_cons (o0 _ _ rfl (fun b h => h) rfl) (RepL_cons (o1 _ _ rfl (fun b h => h) rfl) RepL_nil)) (globs _)
theorem over : Rows.fnExactHullOfRow.holds Try.pinned (OpenSpec.ofChange Rows.fnExactHullOfSpec) :=
  OpenClaim.holds_of_wide 3 Try.f3 rfl rfl rfl rfl rfl rfl rfl ⟨rfl, rfl, rfl, rfl, rfl⟩ rfl rfl rfl rfl rfl (by kernel_rfl) Try.func3 (by kernel_rfl)
    (of_decide_eq_true (by kernel_rfl)) (by unfold Func.isWrapper; first | (rw [if_pos (by decide +kernel)]; kernel_rfl) | (rw [if_neg (by decide +kernel)]; exact ⟨rfl, rfl⟩))
    (fun os started H enc _ => lifted os started H enc)
theorem proved : Rows.FnExactHullOfSaid := over
end Go.Proofs.Ytdkcdkjdljflbaa.fnExactHullOf
namespace Go.Proofs.Ytdkcdkjdljflbaa
/-- The row, under a short name, for the claim. -/
theorem fnExactHullOf_holds : Rows.FnExactHullOfSaid := fnExactHullOf.proved
#print axioms fnExactHullOf_holds
end Go.Proofs.Ytdkcdkjdljflbaa
