/-
  No cell of these rows narrows 'for every input' (looked for: loops, veiled, ifaces, maps, wideKeys, modest, calm, conditions, laid).
  DERIVED. THE GIVEN ROWS OF THIS SEAT. 11 by the template 'for every input the law returns true; each argument reads behind the call as it read before'; 0 by the template 'total and deterministic' (their statements: YtgipkopdifngpaaTotals.lean).
  GIVEN WITH THE SEED: the statements are not yours to turn. If you find one false, say at which input.
  Laid BY PROGRAM, IN A SANDBOX (cutbox-rows.mjs): the forced cells as the released guide's own fill.sh prints them over the translation bc378b2b0a81f6bc… (all of the seat's roots in one cut). By AI agents, Wed Nov 11 2026. No macro, syntax, notation, axiom, sorry.
-/
import Derived.Test.YtgipkopdifngpaaChecked
import GoSem.Claim
import GoSem.ClaimJoined
import GoSem.ClaimMapViews
import Derived.JoinedTies
import Derived.KernelRfl
namespace Go.Proofs.Ytgipkopdifngpaa
/- THE CELL 'sum', in the pinned program and in every row, IS THE sha256 OF THE DUMP (.gsa) THAT YtgipkopdifngpaaProg.lean LOADS. Nothing in Lean hashes anything: it is a label: what it is worth is what the hold of that sum in a sandbox is worth. -/
noncomputable def Try.pinned : Pinned := { name := "ytgipkopdifngpaa", sum := "bc378b2b0a81f6bcb3aba10aa15a6e9de77e9d0aef1ce054cda30d4dfc9cefee", checked := Try.checked }
namespace Rows
def none {H : Type} : Left H := { results := [], args := [] }

/-- 'laws.FnExactExampleText': WHATEVER THE INPUT: true; the input reads as it did. -/
def fnExactExampleTextSpec : ChangeSpec := { name := "fnExactExampleText", fn := fun _ => fun
  | [d] => { results := [.lit (.bool true)], args := [d] }
  | _ => none }
def fnExactExampleTextRow : OpenClaim := { program := "ytgipkopdifngpaa", sum := "bc378b2b0a81f6bcb3aba10aa15a6e9de77e9d0aef1ce054cda30d4dfc9cefee", func := "loop.example/g00596/laws.FnExactExampleText", spec := "fnExactExampleText", apart := false }
def FnExactExampleTextSaid : Prop := fnExactExampleTextRow.holds Try.pinned (OpenSpec.ofChange fnExactExampleTextSpec)

/-- ITS FALSE NEIGHBOUR: 'it returns false'. Refute it at one input. -/
def fnExactExampleTextWrong : ChangeSpec := { name := "fnExactExampleText", fn := fun _ => fun
  | [d] => { results := [.lit (.bool false)], args := [d] }
  | _ => none }
def FnExactExampleTextWrongFalsely : Prop := fnExactExampleTextRow.holds Try.pinned (OpenSpec.ofChange fnExactExampleTextWrong)

/-- 'laws.FnExactIsWider': WHATEVER THE INPUT: true; the input reads as it did. -/
def fnExactIsWiderSpec : ChangeSpec := { name := "fnExactIsWider", fn := fun _ => fun
  | [d1, d2] => { results := [.lit (.bool true)], args := [d1, d2] }
  | _ => none }
def fnExactIsWiderRow : OpenClaim := { program := "ytgipkopdifngpaa", sum := "bc378b2b0a81f6bcb3aba10aa15a6e9de77e9d0aef1ce054cda30d4dfc9cefee", func := "loop.example/g00596/laws.FnExactIsWider", spec := "fnExactIsWider", apart := false }
def FnExactIsWiderSaid : Prop := fnExactIsWiderRow.holds Try.pinned (OpenSpec.ofChange fnExactIsWiderSpec)

/-- ITS FALSE NEIGHBOUR: 'it returns false'. Refute it at one input. -/
def fnExactIsWiderWrong : ChangeSpec := { name := "fnExactIsWider", fn := fun _ => fun
  | [d1, d2] => { results := [.lit (.bool false)], args := [d1, d2] }
  | _ => none }
def FnExactIsWiderWrongFalsely : Prop := fnExactIsWiderRow.holds Try.pinned (OpenSpec.ofChange fnExactIsWiderWrong)

/-- 'laws.FnExactArePoints': WHATEVER THE INPUT: true; the input reads as it did. -/
def fnExactArePointsSpec : ChangeSpec := { name := "fnExactArePoints", fn := fun _ => fun
  | [d] => { results := [.lit (.bool true)], args := [d] }
  | _ => none }
def fnExactArePointsRow : OpenClaim := { program := "ytgipkopdifngpaa", sum := "bc378b2b0a81f6bcb3aba10aa15a6e9de77e9d0aef1ce054cda30d4dfc9cefee", func := "loop.example/g00596/laws.FnExactArePoints", spec := "fnExactArePoints", unfollowed := true, recurses := true, apart := false }
def FnExactArePointsSaid : Prop := fnExactArePointsRow.holds Try.pinned (OpenSpec.ofChange fnExactArePointsSpec)

/-- ITS FALSE NEIGHBOUR: 'it returns false'. Refute it at one input. -/
def fnExactArePointsWrong : ChangeSpec := { name := "fnExactArePoints", fn := fun _ => fun
  | [d] => { results := [.lit (.bool false)], args := [d] }
  | _ => none }
def FnExactArePointsWrongFalsely : Prop := fnExactArePointsRow.holds Try.pinned (OpenSpec.ofChange fnExactArePointsWrong)

/-- 'laws.FnExactEqualSession': WHATEVER THE INPUT: true; the input reads as it did. -/
def fnExactEqualSessionSpec : ChangeSpec := { name := "fnExactEqualSession", fn := fun _ => fun
  | [d1, d2] => { results := [.lit (.bool true)], args := [d1, d2] }
  | _ => none }
def fnExactEqualSessionRow : OpenClaim := { program := "ytgipkopdifngpaa", sum := "bc378b2b0a81f6bcb3aba10aa15a6e9de77e9d0aef1ce054cda30d4dfc9cefee", func := "loop.example/g00596/laws.FnExactEqualSession", spec := "fnExactEqualSession", apart := false }
def FnExactEqualSessionSaid : Prop := fnExactEqualSessionRow.holds Try.pinned (OpenSpec.ofChange fnExactEqualSessionSpec)

/-- ITS FALSE NEIGHBOUR: 'it returns false'. Refute it at one input. -/
def fnExactEqualSessionWrong : ChangeSpec := { name := "fnExactEqualSession", fn := fun _ => fun
  | [d1, d2] => { results := [.lit (.bool false)], args := [d1, d2] }
  | _ => none }
def FnExactEqualSessionWrongFalsely : Prop := fnExactEqualSessionRow.holds Try.pinned (OpenSpec.ofChange fnExactEqualSessionWrong)

/-- 'laws.FnExactBrokenRules': WHATEVER THE INPUT: true; the input reads as it did. -/
def fnExactBrokenRulesSpec : ChangeSpec := { name := "fnExactBrokenRules", fn := fun _ => fun
  | [d1, d2] => { results := [.lit (.bool true)], args := [d1, d2] }
  | _ => none }
def fnExactBrokenRulesRow : OpenClaim := { program := "ytgipkopdifngpaa", sum := "bc378b2b0a81f6bcb3aba10aa15a6e9de77e9d0aef1ce054cda30d4dfc9cefee", func := "loop.example/g00596/laws.FnExactBrokenRules", spec := "fnExactBrokenRules", unfollowed := true, recurses := true, apart := false }
def FnExactBrokenRulesSaid : Prop := fnExactBrokenRulesRow.holds Try.pinned (OpenSpec.ofChange fnExactBrokenRulesSpec)

/-- ITS FALSE NEIGHBOUR: 'it returns false'. Refute it at one input. -/
def fnExactBrokenRulesWrong : ChangeSpec := { name := "fnExactBrokenRules", fn := fun _ => fun
  | [d1, d2] => { results := [.lit (.bool false)], args := [d1, d2] }
  | _ => none }
def FnExactBrokenRulesWrongFalsely : Prop := fnExactBrokenRulesRow.holds Try.pinned (OpenSpec.ofChange fnExactBrokenRulesWrong)

/-- 'laws.FnExactInsertRow': WHATEVER THE INPUT: true; the input reads as it did. -/
def fnExactInsertRowSpec : ChangeSpec := { name := "fnExactInsertRow", fn := fun _ => fun
  | [d1, d2] => { results := [.lit (.bool true)], args := [d1, d2] }
  | _ => none }
def fnExactInsertRowRow : OpenClaim := { program := "ytgipkopdifngpaa", sum := "bc378b2b0a81f6bcb3aba10aa15a6e9de77e9d0aef1ce054cda30d4dfc9cefee", func := "loop.example/g00596/laws.FnExactInsertRow", spec := "fnExactInsertRow", unfollowed := true, recurses := true, apart := false }
def FnExactInsertRowSaid : Prop := fnExactInsertRowRow.holds Try.pinned (OpenSpec.ofChange fnExactInsertRowSpec)

/-- ITS FALSE NEIGHBOUR: 'it returns false'. Refute it at one input. -/
def fnExactInsertRowWrong : ChangeSpec := { name := "fnExactInsertRow", fn := fun _ => fun
  | [d1, d2] => { results := [.lit (.bool false)], args := [d1, d2] }
  | _ => none }
def FnExactInsertRowWrongFalsely : Prop := fnExactInsertRowRow.holds Try.pinned (OpenSpec.ofChange fnExactInsertRowWrong)

/-- 'laws.FnExactObjectRuleHolds': WHATEVER THE INPUT: true; the input reads as it did. -/
def fnExactObjectRuleHoldsSpec : ChangeSpec := { name := "fnExactObjectRuleHolds", fn := fun _ => fun
  | [d1, d2] => { results := [.lit (.bool true)], args := [d1, d2] }
  | _ => none }
def fnExactObjectRuleHoldsRow : OpenClaim := { program := "ytgipkopdifngpaa", sum := "bc378b2b0a81f6bcb3aba10aa15a6e9de77e9d0aef1ce054cda30d4dfc9cefee", func := "loop.example/g00596/laws.FnExactObjectRuleHolds", spec := "fnExactObjectRuleHolds", unfollowed := true, recurses := true, apart := false }
def FnExactObjectRuleHoldsSaid : Prop := fnExactObjectRuleHoldsRow.holds Try.pinned (OpenSpec.ofChange fnExactObjectRuleHoldsSpec)

/-- ITS FALSE NEIGHBOUR: 'it returns false'. Refute it at one input. -/
def fnExactObjectRuleHoldsWrong : ChangeSpec := { name := "fnExactObjectRuleHolds", fn := fun _ => fun
  | [d1, d2] => { results := [.lit (.bool false)], args := [d1, d2] }
  | _ => none }
def FnExactObjectRuleHoldsWrongFalsely : Prop := fnExactObjectRuleHoldsRow.holds Try.pinned (OpenSpec.ofChange fnExactObjectRuleHoldsWrong)

/-- 'laws.FnExactFittingPoints': WHATEVER THE INPUT: true; the input reads as it did. -/
def fnExactFittingPointsSpec : ChangeSpec := { name := "fnExactFittingPoints", fn := fun _ => fun
  | [d1, d2] => { results := [.lit (.bool true)], args := [d1, d2] }
  | _ => none }
def fnExactFittingPointsRow : OpenClaim := { program := "ytgipkopdifngpaa", sum := "bc378b2b0a81f6bcb3aba10aa15a6e9de77e9d0aef1ce054cda30d4dfc9cefee", func := "loop.example/g00596/laws.FnExactFittingPoints", spec := "fnExactFittingPoints", unfollowed := true, recurses := true, apart := false }
def FnExactFittingPointsSaid : Prop := fnExactFittingPointsRow.holds Try.pinned (OpenSpec.ofChange fnExactFittingPointsSpec)

/-- ITS FALSE NEIGHBOUR: 'it returns false'. Refute it at one input. -/
def fnExactFittingPointsWrong : ChangeSpec := { name := "fnExactFittingPoints", fn := fun _ => fun
  | [d1, d2] => { results := [.lit (.bool false)], args := [d1, d2] }
  | _ => none }
def FnExactFittingPointsWrongFalsely : Prop := fnExactFittingPointsRow.holds Try.pinned (OpenSpec.ofChange fnExactFittingPointsWrong)

/-- 'laws.FnExactIdealsOf': WHATEVER THE INPUT: true; the input reads as it did. -/
def fnExactIdealsOfSpec : ChangeSpec := { name := "fnExactIdealsOf", fn := fun _ => fun
  | [d] => { results := [.lit (.bool true)], args := [d] }
  | _ => none }
def fnExactIdealsOfRow : OpenClaim := { program := "ytgipkopdifngpaa", sum := "bc378b2b0a81f6bcb3aba10aa15a6e9de77e9d0aef1ce054cda30d4dfc9cefee", func := "loop.example/g00596/laws.FnExactIdealsOf", spec := "fnExactIdealsOf", unfollowed := true, recurses := true, apart := false }
def FnExactIdealsOfSaid : Prop := fnExactIdealsOfRow.holds Try.pinned (OpenSpec.ofChange fnExactIdealsOfSpec)

/-- ITS FALSE NEIGHBOUR: 'it returns false'. Refute it at one input. -/
def fnExactIdealsOfWrong : ChangeSpec := { name := "fnExactIdealsOf", fn := fun _ => fun
  | [d] => { results := [.lit (.bool false)], args := [d] }
  | _ => none }
def FnExactIdealsOfWrongFalsely : Prop := fnExactIdealsOfRow.holds Try.pinned (OpenSpec.ofChange fnExactIdealsOfWrong)

/-- 'laws.FnExactSharedBy': WHATEVER THE INPUT: true; the input reads as it did. -/
def fnExactSharedBySpec : ChangeSpec := { name := "fnExactSharedBy", fn := fun _ => fun
  | [d1, d2] => { results := [.lit (.bool true)], args := [d1, d2] }
  | _ => none }
def fnExactSharedByRow : OpenClaim := { program := "ytgipkopdifngpaa", sum := "bc378b2b0a81f6bcb3aba10aa15a6e9de77e9d0aef1ce054cda30d4dfc9cefee", func := "loop.example/g00596/laws.FnExactSharedBy", spec := "fnExactSharedBy", unfollowed := true, recurses := true, apart := false }
def FnExactSharedBySaid : Prop := fnExactSharedByRow.holds Try.pinned (OpenSpec.ofChange fnExactSharedBySpec)

/-- ITS FALSE NEIGHBOUR: 'it returns false'. Refute it at one input. -/
def fnExactSharedByWrong : ChangeSpec := { name := "fnExactSharedBy", fn := fun _ => fun
  | [d1, d2] => { results := [.lit (.bool false)], args := [d1, d2] }
  | _ => none }
def FnExactSharedByWrongFalsely : Prop := fnExactSharedByRow.holds Try.pinned (OpenSpec.ofChange fnExactSharedByWrong)

/-- 'laws.FnExactContextOfOrder': WHATEVER THE INPUT: true; the input reads as it did. -/
def fnExactContextOfOrderSpec : ChangeSpec := { name := "fnExactContextOfOrder", fn := fun _ => fun
  | [d] => { results := [.lit (.bool true)], args := [d] }
  | _ => none }
def fnExactContextOfOrderRow : OpenClaim := { program := "ytgipkopdifngpaa", sum := "bc378b2b0a81f6bcb3aba10aa15a6e9de77e9d0aef1ce054cda30d4dfc9cefee", func := "loop.example/g00596/laws.FnExactContextOfOrder", spec := "fnExactContextOfOrder", unfollowed := true, recurses := true, apart := false }
def FnExactContextOfOrderSaid : Prop := fnExactContextOfOrderRow.holds Try.pinned (OpenSpec.ofChange fnExactContextOfOrderSpec)

/-- ITS FALSE NEIGHBOUR: 'it returns false'. Refute it at one input. -/
def fnExactContextOfOrderWrong : ChangeSpec := { name := "fnExactContextOfOrder", fn := fun _ => fun
  | [d] => { results := [.lit (.bool false)], args := [d] }
  | _ => none }
def FnExactContextOfOrderWrongFalsely : Prop := fnExactContextOfOrderRow.holds Try.pinned (OpenSpec.ofChange fnExactContextOfOrderWrong)

/- THE SECOND FORM. 'bulk': how many values and letters a reading holds, each counted each time it is reached (what is shared counts as often as it is met; a slice's spare places count too). A statement '..UptoSaid' is the law's where the arguments, and the package variables that the reading takes, are together of bulk at most 1048576: NARROWER than '..Said'. Prove '..Said' where nothing that the law and all that it calls make is longer than what came in: it says more and counts as full. Else prove '..UptoSaid'. A law counts once. -/
mutual
def uptoBulk {H : Type} : DataW H → Nat
  | .lit (.string bytes) => bytes.length + 1
  | .lit _ => 1
  | .nil => 1
  | .ptr d => uptoBulk d + 1
  | .slice elems spare => uptoBulkAll elems + uptoBulkAll spare + 1
  | .agg parts => uptoBulkAll parts + 1
  | .iface _ d => uptoBulk d + 1
  | .map entries => uptoBulkEntries entries + 1
  | .held _ => 1
def uptoBulkAll {H : Type} : List (DataW H) → Nat
  | [] => 0
  | d :: r => uptoBulk d + uptoBulkAll r
def uptoBulkEntries {H : Type} : List (Lit × DataW H) → Nat
  | [] => 0
  | x :: r => uptoBulkEntry x + uptoBulkEntries r
def uptoBulkEntry {H : Type} : Lit × DataW H → Nat
  | (.string bytes, d) => bytes.length + uptoBulk d + 1
  | (_, d) => uptoBulk d + 1
 end
def uptoSmall : (H : Type) → List (DataW H) → Bool := fun _ ds => decide (uptoBulkAll ds ≤ 1048576)
def OpenSpec.upto (s : _root_.Go.ChangeSpec) : _root_.Go.OpenSpec := { _root_.Go.OpenSpec.ofChange s with cond := some uptoSmall }

/-- 'laws.FnExactExampleText', WHERE WHAT IT READS IS OF BULK AT MOST 1048576: true; the input reads as it did. -/
def fnExactExampleTextUptoRow : OpenClaim := { program := "ytgipkopdifngpaa", sum := "bc378b2b0a81f6bcb3aba10aa15a6e9de77e9d0aef1ce054cda30d4dfc9cefee", func := "loop.example/g00596/laws.FnExactExampleText", spec := "fnExactExampleText", apart := false, narrowed := true }
def FnExactExampleTextUptoSaid : Prop := fnExactExampleTextUptoRow.holds Try.pinned (OpenSpec.upto fnExactExampleTextSpec)

/-- 'laws.FnExactIsWider', WHERE WHAT IT READS IS OF BULK AT MOST 1048576: true; the input reads as it did. -/
def fnExactIsWiderUptoRow : OpenClaim := { program := "ytgipkopdifngpaa", sum := "bc378b2b0a81f6bcb3aba10aa15a6e9de77e9d0aef1ce054cda30d4dfc9cefee", func := "loop.example/g00596/laws.FnExactIsWider", spec := "fnExactIsWider", apart := false, narrowed := true }
def FnExactIsWiderUptoSaid : Prop := fnExactIsWiderUptoRow.holds Try.pinned (OpenSpec.upto fnExactIsWiderSpec)

/-- 'laws.FnExactArePoints', WHERE WHAT IT READS IS OF BULK AT MOST 1048576: true; the input reads as it did. -/
def fnExactArePointsUptoRow : OpenClaim := { program := "ytgipkopdifngpaa", sum := "bc378b2b0a81f6bcb3aba10aa15a6e9de77e9d0aef1ce054cda30d4dfc9cefee", func := "loop.example/g00596/laws.FnExactArePoints", spec := "fnExactArePoints", unfollowed := true, recurses := true, apart := false, narrowed := true }
def FnExactArePointsUptoSaid : Prop := fnExactArePointsUptoRow.holds Try.pinned (OpenSpec.upto fnExactArePointsSpec)

/-- 'laws.FnExactEqualSession', WHERE WHAT IT READS IS OF BULK AT MOST 1048576: true; the input reads as it did. -/
def fnExactEqualSessionUptoRow : OpenClaim := { program := "ytgipkopdifngpaa", sum := "bc378b2b0a81f6bcb3aba10aa15a6e9de77e9d0aef1ce054cda30d4dfc9cefee", func := "loop.example/g00596/laws.FnExactEqualSession", spec := "fnExactEqualSession", apart := false, narrowed := true }
def FnExactEqualSessionUptoSaid : Prop := fnExactEqualSessionUptoRow.holds Try.pinned (OpenSpec.upto fnExactEqualSessionSpec)

/-- 'laws.FnExactBrokenRules', WHERE WHAT IT READS IS OF BULK AT MOST 1048576: true; the input reads as it did. -/
def fnExactBrokenRulesUptoRow : OpenClaim := { program := "ytgipkopdifngpaa", sum := "bc378b2b0a81f6bcb3aba10aa15a6e9de77e9d0aef1ce054cda30d4dfc9cefee", func := "loop.example/g00596/laws.FnExactBrokenRules", spec := "fnExactBrokenRules", unfollowed := true, recurses := true, apart := false, narrowed := true }
def FnExactBrokenRulesUptoSaid : Prop := fnExactBrokenRulesUptoRow.holds Try.pinned (OpenSpec.upto fnExactBrokenRulesSpec)

/-- 'laws.FnExactInsertRow', WHERE WHAT IT READS IS OF BULK AT MOST 1048576: true; the input reads as it did. -/
def fnExactInsertRowUptoRow : OpenClaim := { program := "ytgipkopdifngpaa", sum := "bc378b2b0a81f6bcb3aba10aa15a6e9de77e9d0aef1ce054cda30d4dfc9cefee", func := "loop.example/g00596/laws.FnExactInsertRow", spec := "fnExactInsertRow", unfollowed := true, recurses := true, apart := false, narrowed := true }
def FnExactInsertRowUptoSaid : Prop := fnExactInsertRowUptoRow.holds Try.pinned (OpenSpec.upto fnExactInsertRowSpec)

/-- 'laws.FnExactObjectRuleHolds', WHERE WHAT IT READS IS OF BULK AT MOST 1048576: true; the input reads as it did. -/
def fnExactObjectRuleHoldsUptoRow : OpenClaim := { program := "ytgipkopdifngpaa", sum := "bc378b2b0a81f6bcb3aba10aa15a6e9de77e9d0aef1ce054cda30d4dfc9cefee", func := "loop.example/g00596/laws.FnExactObjectRuleHolds", spec := "fnExactObjectRuleHolds", unfollowed := true, recurses := true, apart := false, narrowed := true }
def FnExactObjectRuleHoldsUptoSaid : Prop := fnExactObjectRuleHoldsUptoRow.holds Try.pinned (OpenSpec.upto fnExactObjectRuleHoldsSpec)

/-- 'laws.FnExactFittingPoints', WHERE WHAT IT READS IS OF BULK AT MOST 1048576: true; the input reads as it did. -/
def fnExactFittingPointsUptoRow : OpenClaim := { program := "ytgipkopdifngpaa", sum := "bc378b2b0a81f6bcb3aba10aa15a6e9de77e9d0aef1ce054cda30d4dfc9cefee", func := "loop.example/g00596/laws.FnExactFittingPoints", spec := "fnExactFittingPoints", unfollowed := true, recurses := true, apart := false, narrowed := true }
def FnExactFittingPointsUptoSaid : Prop := fnExactFittingPointsUptoRow.holds Try.pinned (OpenSpec.upto fnExactFittingPointsSpec)

/-- 'laws.FnExactIdealsOf', WHERE WHAT IT READS IS OF BULK AT MOST 1048576: true; the input reads as it did. -/
def fnExactIdealsOfUptoRow : OpenClaim := { program := "ytgipkopdifngpaa", sum := "bc378b2b0a81f6bcb3aba10aa15a6e9de77e9d0aef1ce054cda30d4dfc9cefee", func := "loop.example/g00596/laws.FnExactIdealsOf", spec := "fnExactIdealsOf", unfollowed := true, recurses := true, apart := false, narrowed := true }
def FnExactIdealsOfUptoSaid : Prop := fnExactIdealsOfUptoRow.holds Try.pinned (OpenSpec.upto fnExactIdealsOfSpec)

/-- 'laws.FnExactSharedBy', WHERE WHAT IT READS IS OF BULK AT MOST 1048576: true; the input reads as it did. -/
def fnExactSharedByUptoRow : OpenClaim := { program := "ytgipkopdifngpaa", sum := "bc378b2b0a81f6bcb3aba10aa15a6e9de77e9d0aef1ce054cda30d4dfc9cefee", func := "loop.example/g00596/laws.FnExactSharedBy", spec := "fnExactSharedBy", unfollowed := true, recurses := true, apart := false, narrowed := true }
def FnExactSharedByUptoSaid : Prop := fnExactSharedByUptoRow.holds Try.pinned (OpenSpec.upto fnExactSharedBySpec)

/-- 'laws.FnExactContextOfOrder', WHERE WHAT IT READS IS OF BULK AT MOST 1048576: true; the input reads as it did. -/
def fnExactContextOfOrderUptoRow : OpenClaim := { program := "ytgipkopdifngpaa", sum := "bc378b2b0a81f6bcb3aba10aa15a6e9de77e9d0aef1ce054cda30d4dfc9cefee", func := "loop.example/g00596/laws.FnExactContextOfOrder", spec := "fnExactContextOfOrder", unfollowed := true, recurses := true, apart := false, narrowed := true }
def FnExactContextOfOrderUptoSaid : Prop := fnExactContextOfOrderUptoRow.holds Try.pinned (OpenSpec.upto fnExactContextOfOrderSpec)

end Rows
end Go.Proofs.Ytgipkopdifngpaa
