/- Functions of the program, each told as a plain equation. -/
import Derived.Test.YtonbmmjagdbgaaaDoorSymN6
namespace Go.Sym
open Go.Proofs
set_option linter.unusedVariables false
set_option linter.unusedSimpArgs false
set_option maxRecDepth 100000
set_option maxHeartbeats 4000000

def exText (k : Int) : ByteArray :=
  if k = 1 then ⟨#[51, 32, 97, 98, 44, 98, 99, 44, 97, 99]⟩ else if k = 2 then ⟨#[51, 32, 97, 44, 97, 98, 44, 97, 98, 99]⟩ else if k = 3 then ⟨#[52, 32, 97, 98, 99, 44, 97, 98, 100, 44, 97, 99, 100, 44, 98, 99, 100]⟩
  else if k = 4 then ⟨#[52, 32, 97, 98, 44, 98, 44, 98, 99, 44, 99, 100]⟩ else if k = 5 then ⟨#[50, 32, 110, 111, 110, 101]⟩ else if k = 6 then ⟨#[48, 32, 45]⟩ else ⟨#[]⟩
def iotaI : Int → Nat → List Int
  | _, 0 => []
  | k, n + 1 => k :: iotaI (k + 1) n
@[simp] theorem iotaI_length : ∀ (n : Nat) (k : Int), (iotaI k n).length = n
  | 0, _ => rfl
  | n + 1, k => by simp [iotaI, iotaI_length n]
def held (a : List Int) (k : Int) : Int := if a = iotaI k a.length then k + a.length else -1
theorem held_iota (k : Int) (n : Nat) : held (iotaI k n) k = k + n := by simp [held]
theorem take_set_succ {α : Type} {ys : List α} {i : Nat} {v : α} (h : i < ys.length) : (ys.set i v).take (i + 1) = ys.take i ++ [v] := by
  rw [List.take_succ_eq_append_getElem (by simpa using h), List.take_set_of_le (by omega)]
  simp
theorem getD_set_self {α : Type} {ys : List α} {i : Nat} {v d : α} (h : i < ys.length) : (ys.set i v).getD i d = v := by
  simp [List.getD, h]
theorem ex1_pI : (exText 1).size ≤ 900 ∧ (atO (cutB (exText 1) ⟨#[32]⟩).1 || atS (cutB (exText 1) ⟨#[32]⟩).1) = true := by decide +kernel
theorem ex1_pS : (exText 1).size ≤ 900 ∧ (okCS (exText 1) || decide ((splB (exText 1) 32).length ≠ 2)) = true := by decide +kernel
theorem ex1_I : pcI (exText 1) = (3, [3, 6, 5], true) := by decide +kernel
theorem ex1_S : pcS (exText 1) = (3, [3, 6, 5], true) := by decide +kernel
/- impl.ExampleText -/
def K_implExampleText : List AV → List Ob → Option (AV × List Ob)
  | [.int .i64 k], [] => gd (True) (.str (exText k), [])
  | _, _ => none
@[reducible] def E_implExampleText : Env := mkE (tb [(26, K_within)]) (fun f => false) (fun r => ([], []))
theorem ev_implExampleText (k : Int) (hp : True) : evF E_implExampleText (1) Tryd.f13 [.int .i64 k] [] = some (.str (exText k), []) := by
  conv => lhs; whnf
  conv => lhs; arg 1; whnf
  refine bnd_g (by exact True.intro) ?_
  conv => lhs; whnf
  refine br_c (fun h1 => ?_) (fun h1 => ?_)
  · conv => lhs; whnf
    simp at h1
    have : exText k = ⟨#[]⟩ := by
      unfold exText
      repeat rw [if_neg (by omega)]
    rw [this]
  · conv => lhs; whnf
    simp at h1
    have hk : k = 1 ∨ k = 2 ∨ k = 3 ∨ k = 4 ∨ k = 5 ∨ k = 6 := by omega
    rcases hk with rfl | rfl | rfl | rfl | rfl | rfl
    all_goals
      refine br_t (by decide) ?_
      conv => lhs; whnf
      refine br_t (by decide) ?_
      conv => lhs; whnf
      rfl
theorem ok_implExampleText : FnOk Tryd.prog 13 K_implExampleText := by
  refine fn_ok (fn := Tryd.f13) (k := Tryd.f13.ntmps) (E := E_implExampleText) (facts_of (List.forall_mem_cons.2 ⟨ok_within, List.forall_mem_nil _⟩)) (by kernel_rfl) rfl (by decide +kernel) (by decide +kernel) ?_
  intro avs hin r h
  unfold K_implExampleText at h
  split at h
  · obtain ⟨hp, rfl⟩ := gd_o h
    exact ⟨_, ev_implExampleText _ hp, rfl⟩
  · cases h

/- slices.Clone[[]int,int] -/
def K_cloneInt : List AV → List Ob → Option (AV × List Ob)
  | [.lst (.int .i64) a], [] => gd (a.length ≤ 1048576) (.own 0, [.row 3 (.int .i64) a])
  | _, _ => none
@[reducible] def E_cloneInt : Env := mkE (tb []) (fun f => false) (fun r => ([], []))
theorem ev_cloneInt (a : List Int) (hp : a.length ≤ 1048576) : evF E_cloneInt (1) Tryd.f27 [.lst (.int .i64) a] [] = some (.own 0, [.row 3 (.int .i64) a]) := by
  conv => lhs; whnf
  refine br_c (fun h => ?_) (fun h => ?_)
  · conv => lhs; whnf
    refine br_f (by rfl) ?_
    conv => lhs; whnf
    refine br_t (dt (by simp [room]; omega)) ?_
    conv => lhs; whnf
    simp
  · have h0 : a = [] := by
      have := ofn h
      cases a
      · rfl
      · simp at this
    subst h0
    conv => lhs; whnf
    refine both_i ?_ ?_
    · conv => lhs; whnf
    · conv => lhs; whnf
      refine br_t (dt (by simp [room])) ?_
      conv => lhs; whnf
      rfl
theorem ok_cloneInt : FnOk Tryd.prog 27 K_cloneInt := by
  refine fn_ok (fn := Tryd.f27) (k := Tryd.f27.ntmps) (E := E_cloneInt) (facts_of (List.forall_mem_nil _)) (by kernel_rfl) rfl (by decide +kernel) (by decide +kernel) ?_
  intro avs hin r h
  unfold K_cloneInt at h
  split at h
  · obtain ⟨hp, rfl⟩ := gd_o h
    exact ⟨_, ev_cloneInt _ hp, rfl⟩
  · cases h

/- (impl.Context).own -/
def K_implOwnCtx : List AV → List Ob → Option (AV × List Ob)
  | [.agg [.int .i64 m, .lst (.int .i64) a]], [] => gd (a.length ≤ 1048576) (.agg [.int .i64 m, .own 0], [.row 3 (.int .i64) a])
  | _, _ => none
@[reducible] def E_implOwnCtx : Env := mkE (tb [(27, K_cloneInt)]) (fun f => false) (fun r => ([], []))
theorem ev_implOwnCtx (m : Int) (a : List Int) (hp : a.length ≤ 1048576) : evF E_implOwnCtx (1) Tryd.f14 [.agg [.int .i64 m, .lst (.int .i64) a]] [] = some (.agg [.int .i64 m, .own 0], [.row 3 (.int .i64) a]) := by
  conv => lhs; whnf
  conv => lhs; arg 1; whnf
  refine bnd_g (by exact hp) ?_
  conv => lhs; whnf
  repeat ((first | with_reducible apply br_tt | with_reducible apply br_ff | with_reducible apply br_nf | with_reducible apply br_nt | with_reducible refine br_d ?_ (by kernel_rfl)); conv => lhs; whnf)
theorem ok_implOwnCtx : FnOk Tryd.prog 14 K_implOwnCtx := by
  refine fn_ok (fn := Tryd.f14) (k := Tryd.f14.ntmps) (E := E_implOwnCtx) (facts_of (List.forall_mem_cons.2 ⟨ok_cloneInt, List.forall_mem_nil _⟩)) (by kernel_rfl) rfl (by decide +kernel) (by decide +kernel) ?_
  intro avs hin r h
  unfold K_implOwnCtx at h
  split at h
  · obtain ⟨hp, rfl⟩ := gd_o h
    exact ⟨_, ev_implOwnCtx _ _ hp, rfl⟩
  · cases h

/- impl.NewSession -/
def K_implNewSession : List AV → List Ob → Option (AV × List Ob)
  | [], [] => gd (True) (.agg [.int .i64 3, .own 0, .int .i64 3, .own 1], [.row 3 (.int .i64) [3, 6, 5], .row 3 (.int .i64) [3, 6, 5]])
  | _, _ => none
@[reducible] def E_implNewSession : Env := mkE (tb [(13, K_implExampleText), (12, K_implParseContext), (14, K_implOwnCtx)]) (fun f => false) (fun r => ([], []))
theorem ev_implNewSession  (hp : True) : evF E_implNewSession (1) Tryd.f5 [] [] = some (.agg [.int .i64 3, .own 0, .int .i64 3, .own 1], [.row 3 (.int .i64) [3, 6, 5], .row 3 (.int .i64) [3, 6, 5]]) := by
  have hl : (pcI (exText 1)).2.1.length ≤ 1048576 := by rw [ex1_I]; decide
  conv => lhs; whnf
  conv => lhs; arg 1; whnf
  refine bnd_g (by exact True.intro) ?_
  conv => lhs; whnf
  conv => lhs; arg 1; whnf
  refine bnd_g (by exact ex1_pI) ?_
  conv => lhs; whnf
  conv => lhs; arg 1; whnf
  refine bnd_g (by exact hl) ?_
  conv => lhs; whnf
  repeat ((first | with_reducible apply br_tt | with_reducible apply br_ff | with_reducible apply br_nf | with_reducible apply br_nt | with_reducible refine br_d ?_ (by kernel_rfl)); conv => lhs; whnf)
  rw [ex1_I]
  all_goals rfl
theorem ok_implNewSession : FnOk Tryd.prog 5 K_implNewSession := by
  refine fn_ok (fn := Tryd.f5) (k := Tryd.f5.ntmps) (E := E_implNewSession) (facts_of (List.forall_mem_cons.2 ⟨ok_implExampleText, List.forall_mem_cons.2 ⟨ok_implParseContext, List.forall_mem_cons.2 ⟨ok_implOwnCtx, List.forall_mem_nil _⟩⟩⟩)) (by kernel_rfl) rfl (by decide +kernel) (by decide +kernel) ?_
  intro avs hin r h
  unfold K_implNewSession at h
  split at h
  · obtain ⟨hp, rfl⟩ := gd_o h
    exact ⟨_, ev_implNewSession hp, rfl⟩
  · cases h

/- spec.ExampleText -/
def K_specExampleText : List AV → List Ob → Option (AV × List Ob)
  | [.int .i64 k], [] => gd (True) (.str (exText k), [])
  | _, _ => none
@[reducible] def E_specExampleText : Env := mkE (tb []) (fun f => false) (fun r => ([], []))
theorem ev_specExampleText (k : Int) (hp : True) : evF E_specExampleText (1) Tryd.f10 [.int .i64 k] [] = some (.str (exText k), []) := by
  conv => lhs; whnf
  refine br_c (fun h1 => ?_) (fun h1 => ?_)
  · conv => lhs; whnf
    simp at h1
    subst h1
    rfl
  · conv => lhs; whnf
    refine br_c (fun h2 => ?_) (fun h2 => ?_)
    · conv => lhs; whnf
      simp at h2
      subst h2
      rfl
    · conv => lhs; whnf
      refine br_c (fun h3 => ?_) (fun h3 => ?_)
      · conv => lhs; whnf
        simp at h3
        subst h3
        rfl
      · conv => lhs; whnf
        refine br_c (fun h4 => ?_) (fun h4 => ?_)
        · conv => lhs; whnf
          simp at h4
          subst h4
          rfl
        · conv => lhs; whnf
          refine br_c (fun h5 => ?_) (fun h5 => ?_)
          · conv => lhs; whnf
            simp at h5
            subst h5
            rfl
          · conv => lhs; whnf
            refine br_c (fun h6 => ?_) (fun h6 => ?_)
            · conv => lhs; whnf
              simp at h6
              subst h6
              rfl
            · conv => lhs; whnf
              simp at h1 h2 h3 h4 h5 h6
              simp [exText, h1, h2, h3, h4, h5, h6]
theorem ok_specExampleText : FnOk Tryd.prog 10 K_specExampleText := by
  refine fn_ok (fn := Tryd.f10) (k := Tryd.f10.ntmps) (E := E_specExampleText) (facts_of (List.forall_mem_nil _)) (by kernel_rfl) rfl (by decide +kernel) (by decide +kernel) ?_
  intro avs hin r h
  unfold K_specExampleText at h
  split at h
  · obtain ⟨hp, rfl⟩ := gd_o h
    exact ⟨_, ev_specExampleText _ hp, rfl⟩
  · cases h

/- spec.l3Copy -/
def K_l3Copy : List AV → List Ob → Option (AV × List Ob)
  | [.agg [.int .i64 m, .lst (.int .i64) a]], [] => gd (a.length ≤ 1048576) (.agg [.int .i64 m, .own 0], [.row 3 (.int .i64) a])
  | _, _ => none
@[reducible] def E_l3Copy : Env := mkE (tb []) (fun f => false) (fun r => ([], []))
theorem ev_l3Copy (m : Int) (a : List Int) (hp : a.length ≤ 1048576) : evF E_l3Copy (1) Tryd.f11 [.agg [.int .i64 m, .lst (.int .i64) a]] [] = some (.agg [.int .i64 m, .own 0], [.row 3 (.int .i64) a]) := by
  conv => lhs; whnf
  refine br_t (dt (by simp [room]; omega)) ?_
  conv => lhs; whnf
  repeat ((first | with_reducible apply br_tt | with_reducible apply br_ff | with_reducible apply br_nf | with_reducible apply br_nt | with_reducible refine br_d ?_ (by kernel_rfl)); conv => lhs; whnf)
  simp
theorem ok_l3Copy : FnOk Tryd.prog 11 K_l3Copy := by
  refine fn_ok (fn := Tryd.f11) (k := Tryd.f11.ntmps) (E := E_l3Copy) (facts_of (List.forall_mem_nil _)) (by kernel_rfl) rfl (by decide +kernel) (by decide +kernel) ?_
  intro avs hin r h
  unfold K_l3Copy at h
  split at h
  · obtain ⟨hp, rfl⟩ := gd_o h
    exact ⟨_, ev_l3Copy _ _ hp, rfl⟩
  · cases h

/- spec.NewSession -/
def K_specNewSession : List AV → List Ob → Option (AV × List Ob)
  | [], [] => gd (True) (.agg [.int .i64 3, .own 0, .int .i64 3, .own 1], [.row 3 (.int .i64) [3, 6, 5], .row 3 (.int .i64) [3, 6, 5]])
  | _, _ => none
@[reducible] def E_specNewSession : Env := mkE (tb [(10, K_specExampleText), (9, K_specParseContext), (11, K_l3Copy)]) (fun f => false) (fun r => ([], []))
theorem ev_specNewSession  (hp : True) : evF E_specNewSession (1) Tryd.f4 [] [] = some (.agg [.int .i64 3, .own 0, .int .i64 3, .own 1], [.row 3 (.int .i64) [3, 6, 5], .row 3 (.int .i64) [3, 6, 5]]) := by
  have hl : (pcS (exText 1)).2.1.length ≤ 1048576 := by rw [ex1_S]; decide
  conv => lhs; whnf
  conv => lhs; arg 1; whnf
  refine bnd_g (by exact True.intro) ?_
  conv => lhs; whnf
  conv => lhs; arg 1; whnf
  refine bnd_g (by exact ex1_pS) ?_
  conv => lhs; whnf
  conv => lhs; arg 1; whnf
  refine bnd_g (by exact hl) ?_
  conv => lhs; whnf
  repeat ((first | with_reducible apply br_tt | with_reducible apply br_ff | with_reducible apply br_nf | with_reducible apply br_nt | with_reducible refine br_d ?_ (by kernel_rfl)); conv => lhs; whnf)
  rw [ex1_S]
  all_goals rfl
theorem ok_specNewSession : FnOk Tryd.prog 4 K_specNewSession := by
  refine fn_ok (fn := Tryd.f4) (k := Tryd.f4.ntmps) (E := E_specNewSession) (facts_of (List.forall_mem_cons.2 ⟨ok_specExampleText, List.forall_mem_cons.2 ⟨ok_specParseContext, List.forall_mem_cons.2 ⟨ok_l3Copy, List.forall_mem_nil _⟩⟩⟩)) (by kernel_rfl) rfl (by decide +kernel) (by decide +kernel) ?_
  intro avs hin r h
  unfold K_specNewSession at h
  split at h
  · obtain ⟨hp, rfl⟩ := gd_o h
    exact ⟨_, ev_specNewSession hp, rfl⟩
  · cases h

end Go.Sym
