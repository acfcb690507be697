/- Functions of the program, each told as a plain equation. -/
import Derived.Test.YtgipkopdifngpaaSymX
namespace Go.Sym
open Go.Proofs
set_option linter.unusedVariables false
set_option linter.unusedSimpArgs false
set_option maxRecDepth 100000
set_option maxHeartbeats 4000000

def exText (k : Int) : ByteArray :=
  if k = 1 then ⟨#[51, 32, 97, 98, 44, 98, 99, 44, 97, 99]⟩ else if k = 2 then ⟨#[51, 32, 97, 44, 97, 98, 44, 97, 98, 99]⟩ else if k = 3 then ⟨#[52, 32, 97, 98, 99, 44, 97, 98, 100, 44, 97, 99, 100, 44, 98, 99, 100]⟩
  else if k = 4 then ⟨#[52, 32, 97, 98, 44, 98, 44, 98, 99, 44, 99, 100]⟩ else if k = 5 then ⟨#[50, 32, 110, 111, 110, 101]⟩ else if k = 6 then ⟨#[48, 32, 45]⟩ else ⟨#[]⟩
/- spec.ExampleText -/
def K_specExampleText : List AV → List Ob → Option (AV × List Ob)
  | [.int .i64 k], [] => gd (True) (.str (exText k), [])
  | _, _ => none
@[reducible] def E_specExampleText : Env := mkE (tb []) (fun f => false) (fun r => ([], []))
theorem ev_specExampleText (k : Int) (hp : True) : evF E_specExampleText (1) Try.f14 [.int .i64 k] [] = some (.str (exText k), []) := by
  conv => lhs; whnf
  refine br_c (fun h1 => ?_) (fun h1 => ?_)
  · conv => lhs; whnf
    simp at h1
    subst h1
    rfl
  · conv => lhs; whnf
    refine br_c (fun h2 => ?_) (fun h2 => ?_)
    · conv => lhs; whnf
      simp at h2
      subst h2
      rfl
    · conv => lhs; whnf
      refine br_c (fun h3 => ?_) (fun h3 => ?_)
      · conv => lhs; whnf
        simp at h3
        subst h3
        rfl
      · conv => lhs; whnf
        refine br_c (fun h4 => ?_) (fun h4 => ?_)
        · conv => lhs; whnf
          simp at h4
          subst h4
          rfl
        · conv => lhs; whnf
          refine br_c (fun h5 => ?_) (fun h5 => ?_)
          · conv => lhs; whnf
            simp at h5
            subst h5
            rfl
          · conv => lhs; whnf
            refine br_c (fun h6 => ?_) (fun h6 => ?_)
            · conv => lhs; whnf
              simp at h6
              subst h6
              rfl
            · conv => lhs; whnf
              simp at h1 h2 h3 h4 h5 h6
              simp [exText, h1, h2, h3, h4, h5, h6]
theorem ok_specExampleText : FnOk Try.prog 14 K_specExampleText := by
  refine fn_ok (fn := Try.f14) (k := Try.f14.ntmps) (E := E_specExampleText) (facts_of (List.forall_mem_nil _)) (by kernel_rfl) rfl (by decide +kernel) (by decide +kernel) ?_
  intro avs hin r h
  unfold K_specExampleText at h
  split at h
  · obtain ⟨hp, rfl⟩ := gd_o h
    exact ⟨_, ev_specExampleText _ hp, rfl⟩
  · cases h

/- impl.within -/
def K_within : List AV → List Ob → Option (AV × List Ob)
  | [.int .i64 n, .int .i64 l, .int .i64 h], [] => gd (True) (.bool (decide (l ≤ n ∧ n ≤ h)), [])
  | _, _ => none
@[reducible] def E_within : Env := mkE (tb []) (fun f => false) (fun r => ([], []))
theorem ev_within (n l h : Int) (hp : True) : evF E_within (1) Try.f63 [.int .i64 n, .int .i64 l, .int .i64 h] [] = some (.bool (decide (l ≤ n ∧ n ≤ h)), []) := by
  conv => lhs; whnf
  refine br_c (fun h1 => ?_) (fun h1 => ?_)
  · conv => lhs; whnf
    repeat ((first | with_reducible apply br_tt | with_reducible apply br_ff | with_reducible refine br_d ?_ (by kernel_rfl) | with_reducible apply br_t h1 | with_reducible apply br_f h1); conv => lhs; whnf)
    have := ofd h1
    simp [this]
  · conv => lhs; whnf
    repeat ((first | with_reducible apply br_tt | with_reducible apply br_ff | with_reducible refine br_d ?_ (by kernel_rfl) | with_reducible apply br_t h1 | with_reducible apply br_f h1); conv => lhs; whnf)
    have := ofn h1
    simp [this]
theorem ok_within : FnOk Try.prog 63 K_within := by
  refine fn_ok (fn := Try.f63) (k := Try.f63.ntmps) (E := E_within) (facts_of (List.forall_mem_nil _)) (by kernel_rfl) rfl (by decide +kernel) (by decide +kernel) ?_
  intro avs hin r h
  unfold K_within at h
  split at h
  · obtain ⟨hp, rfl⟩ := gd_o h
    exact ⟨_, ev_within _ _ _ hp, rfl⟩
  · cases h

/- impl.ExampleText -/
def K_implExampleText : List AV → List Ob → Option (AV × List Ob)
  | [.int .i64 k], [] => gd (True) (.str (exText k), [])
  | _, _ => none
@[reducible] def E_implExampleText : Env := mkE (tb [(63, K_within)]) (fun f => false) (fun r => ([], []))
theorem ev_implExampleText (k : Int) (hp : True) : evF E_implExampleText (1) Try.f15 [.int .i64 k] [] = some (.str (exText k), []) := by
  conv => lhs; whnf
  conv => lhs; arg 1; whnf
  refine bnd_g (by trivial) ?_
  conv => lhs; whnf
  refine br_c (fun h1 => ?_) (fun h1 => ?_)
  · conv => lhs; whnf
    simp at h1
    have : exText k = ⟨#[]⟩ := by
      unfold exText
      repeat rw [if_neg (by omega)]
    rw [this]
  · conv => lhs; whnf
    simp at h1
    have hk : k = 1 ∨ k = 2 ∨ k = 3 ∨ k = 4 ∨ k = 5 ∨ k = 6 := by omega
    rcases hk with rfl | rfl | rfl | rfl | rfl | rfl
    all_goals
      refine br_t (by decide) ?_
      conv => lhs; whnf
      refine br_t (by decide) ?_
      conv => lhs; whnf
      rfl
theorem ok_implExampleText : FnOk Try.prog 15 K_implExampleText := by
  refine fn_ok (fn := Try.f15) (k := Try.f15.ntmps) (E := E_implExampleText) (facts_of (List.forall_mem_cons.2 ⟨ok_within, List.forall_mem_nil _⟩)) (by kernel_rfl) rfl (by decide +kernel) (by decide +kernel) ?_
  intro avs hin r h
  unfold K_implExampleText at h
  split at h
  · obtain ⟨hp, rfl⟩ := gd_o h
    exact ⟨_, ev_implExampleText _ hp, rfl⟩
  · cases h

/- laws.FnExactExampleText -/
def K_lawExampleText : List AV → List Ob → Option (AV × List Ob)
  | [.int .i64 k], [] => gd (True) (.bool true, [])
  | _, _ => none
@[reducible] def E_lawExampleText : Env := mkE (tb [(14, K_specExampleText), (15, K_implExampleText)]) (fun f => false) (fun r => ([], []))
theorem ev_lawExampleText (k : Int) (hp : True) : evF E_lawExampleText (1) Try.f3 [.int .i64 k] [] = some (.bool true, []) := by
  conv => lhs; whnf
  conv => lhs; arg 1; whnf
  refine bnd_g (by trivial) ?_
  conv => lhs; whnf
  conv => lhs; arg 1; whnf
  refine bnd_g (by trivial) ?_
  conv => lhs; whnf
  refine br_f (by simp) ?_
  conv => lhs; whnf
theorem ok_lawExampleText : FnOk Try.prog 3 K_lawExampleText := by
  refine fn_ok (fn := Try.f3) (k := Try.f3.ntmps) (E := E_lawExampleText) (facts_of (List.forall_mem_cons.2 ⟨ok_specExampleText, List.forall_mem_cons.2 ⟨ok_implExampleText, List.forall_mem_nil _⟩⟩)) (by kernel_rfl) rfl (by decide +kernel) (by decide +kernel) ?_
  intro avs hin r h
  unfold K_lawExampleText at h
  split at h
  · obtain ⟨hp, rfl⟩ := gd_o h
    exact ⟨_, ev_lawExampleText _ hp, rfl⟩
  · cases h

end Go.Sym
