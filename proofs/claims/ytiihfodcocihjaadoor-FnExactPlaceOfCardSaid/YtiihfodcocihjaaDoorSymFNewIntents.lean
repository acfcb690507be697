/- Functions of the program, each told as a plain equation. -/
import Derived.Test.YtiihfodcocihjaaDoorSymFStabilityOf
namespace Go.Sym
open Go.Proofs
set_option linter.unusedVariables false
set_option linter.unusedSimpArgs false
set_option maxRecDepth 100000
set_option maxHeartbeats 4000000

def inlF (m : Int) (a : List Int) : List Int := (concF m a).map (·.2)
def missF (a b : List Int) : List Int := a.filter (fun v => !b.any (fun y => y == v))
def onlyF (m : Int) (a : List Int) (m' : Int) (b : List Int) : List Int := (inlF m a).filter (fun v => !((isCtx m' b && isSet m' v) && closedI m' b v))
theorem inlF_len (m : Int) (a : List Int) : (inlF m a).length ≤ 64 := by
  unfold inlF
  rw [List.length_map]
  exact concF_len m a
theorem missF_len (a b : List Int) : (missF a b).length ≤ a.length := List.length_filter_le _ _
theorem lecI_of_set {m v : Int} (hm : 0 ≤ m ∧ m ≤ 6) (h : isSet m v = true) : v ∈ lecI m.toNat := by
  obtain ⟨s, rfl, hs⟩ := isSet_ex h
  unfold lecI
  exact List.mem_map.2 ⟨s, (lecL_mem (by omega)).2 hs, rfl⟩
theorem inlF_any (m : Int) (b : List Int) (v : Int) : (inlF m b).any (fun y => y == v) = ((isCtx m b && isSet m v) && closedI m b v) := by
  unfold inlF concF
  cases hc : isCtx m b with
  | false => rfl
  | true =>
    have hl := isCtx_len hc
    rw [cond_true, Bool.true_and, Bool.eq_iff_iff, List.any_eq_true, Bool.and_eq_true]
    constructor
    · rintro ⟨y, hy, hv⟩
      obtain ⟨p, hp, rfl⟩ := List.mem_map.1 hy
      obtain ⟨x, hx, rfl⟩ := List.mem_map.1 hp
      have hx := List.mem_filter.1 hx
      have e : x = v := eq_of_beq hv
      subst e
      exact ⟨(lecI_isSet ⟨by omega, by omega⟩ hx.1).1, hx.2⟩
    · rintro ⟨h1, h2⟩
      refine ⟨v, List.mem_map.2 ⟨pairI b v, List.mem_map.2 ⟨v, List.mem_filter.2 ⟨lecI_of_set ⟨by omega, by omega⟩ h1, h2⟩, rfl⟩, rfl⟩, ?_⟩
      exact beq_self_eq_true v
theorem miss_only (m : Int) (a : List Int) (m' : Int) (b : List Int) : onlyF m a m' b = missF (inlF m a) (inlF m' b) := by
  unfold onlyF missF
  refine List.filter_congr fun v _ => ?_
  rw [inlF_any]
def insF (m : Int) (a : List Int) (r : Int) : Int × List Int × Bool :=
  bif isCtx m a && isSet m r && decide (a.length < 8) then (m, a ++ [r], true) else (0, [], false)
theorem insF_len (m : Int) (a : List Int) (r : Int) : (insF m a r).2.1.length ≤ 8 := by
  unfold insF
  cases h : (isCtx m a && isSet m r && decide (a.length < 8))
  · simp
  · simp only [Bool.and_eq_true, decide_eq_true_eq] at h
    simp
    omega
def newF (m : Int) (a : List Int) (r : Int) : List Int := bif (insF m a r).2.2 then missF (inlF (insF m a r).1 (insF m a r).2.1) (inlF m a) else []
theorem newF_len (m : Int) (a : List Int) (r : Int) : (newF m a r).length ≤ 64 := by
  unfold newF
  cases (insF m a r).2.2
  · simp
  · have h1 := missF_len (inlF (insF m a r).1 (insF m a r).2.1) (inlF m a)
    have h2 := inlF_len (insF m a r).1 (insF m a r).2.1
    rw [cond_true]
    omega
/- spec.l3Copy -/
def K_l3Copy : List AV → List Ob → Option (AV × List Ob)
  | [.agg [.int .i64 m, .lst (.int .i64) a]], [] => gd (a.length ≤ 1048576) (.agg [.int .i64 m, .own 0], [.row 3 (.int .i64) a])
  | _, _ => none
@[reducible] def E_l3Copy : Env := mkE (tb []) (fun f => false) (fun r => ([], []))
theorem ev_l3Copy (m : Int) (a : List Int) (hp : a.length ≤ 1048576) : evF E_l3Copy (1) Tryd.f119 [.agg [.int .i64 m, .lst (.int .i64) a]] [] = some (.agg [.int .i64 m, .own 0], [.row 3 (.int .i64) a]) := by
  conv => lhs; whnf
  refine br_t (dt (by simp [room]; omega)) ?_
  conv => lhs; whnf
  repeat ((first | with_reducible apply br_tt | with_reducible apply br_ff | with_reducible apply br_nf | with_reducible apply br_nt | with_reducible refine br_d ?_ (by kernel_rfl)); conv => lhs; whnf)
  simp
theorem ok_l3Copy : FnOk Tryd.prog 119 K_l3Copy := by
  refine fn_ok (fn := Tryd.f119) (k := Tryd.f119.ntmps) (E := E_l3Copy) (facts_of (List.forall_mem_nil _)) (by kernel_rfl) rfl (by decide +kernel) (by decide +kernel) ?_
  intro avs hin r h
  unfold K_l3Copy at h
  split at h
  · obtain ⟨hp, rfl⟩ := gd_o h
    exact ⟨_, ev_l3Copy _ _ hp, rfl⟩
  · cases h

/- spec.InsertRow -/
def K_specInsertRow : List AV → List Ob → Option (AV × List Ob)
  | [.agg [.int .i64 m, .lst (.int .i64) a], .int .i64 r], [] => gd (a.length ≤ 1048576) (.tup [.agg [.int .i64 (insF m a r).1, .own 0], .bool (insF m a r).2.2], [.row 3 (.int .i64) (insF m a r).2.1])
  | _, _ => none
@[reducible] def E_specInsertRow : Env := mkE (tb [(104, K_specIsContext), (132, K_specIsSet), (119, K_l3Copy)]) (fun f => false) (fun r => ([], []))
theorem ev_specInsertRow (m : Int) (a : List Int) (r : Int) (hp : a.length ≤ 1048576) : evF E_specInsertRow (1) Tryd.f81 [.agg [.int .i64 m, .lst (.int .i64) a], .int .i64 r] [] = some (.tup [.agg [.int .i64 (insF m a r).1, .own 0], .bool (insF m a r).2.2], [.row 3 (.int .i64) (insF m a r).2.1]) := by
  conv => lhs; whnf
  conv => lhs; arg 1; whnf
  refine bnd_g (by omega) ?_
  conv => lhs; whnf
  refine br_c (fun h => ?_) (fun h => ?_)
  · have hf : insF m a r = (0, [], false) := by
      unfold insF
      rw [bnt h]
      rfl
    rw [hf]
    conv => lhs; whnf
    repeat ((first | with_reducible apply br_tt | with_reducible apply br_ff | with_reducible apply br_nf | with_reducible apply br_nt | with_reducible refine br_d ?_ (by kernel_rfl) | with_reducible apply br_t h | with_reducible apply br_f h); conv => lhs; whnf)
  · conv => lhs; whnf
    repeat ((first | with_reducible apply br_tt | with_reducible apply br_ff | with_reducible apply br_nf | with_reducible apply br_nt | with_reducible refine br_d ?_ (by kernel_rfl) | with_reducible apply br_t h | with_reducible apply br_f h); conv => lhs; whnf)
    conv => lhs; arg 1; whnf
    refine bnd_g (by exact True.intro) ?_
    conv => lhs; whnf
    repeat ((first | with_reducible apply br_tt | with_reducible apply br_ff | with_reducible apply br_nf | with_reducible apply br_nt | with_reducible refine br_d ?_ (by kernel_rfl) | with_reducible apply br_t h | with_reducible apply br_f h); conv => lhs; whnf)
    refine br_c (fun h2 => ?_) (fun h2 => ?_)
    · have hf : insF m a r = (0, [], false) := by
        unfold insF
        rw [bnf h, bnt h2]
        rfl
      rw [hf]
      conv => lhs; whnf
      repeat ((first | with_reducible apply br_tt | with_reducible apply br_ff | with_reducible apply br_nf | with_reducible apply br_nt | with_reducible refine br_d ?_ (by kernel_rfl) | with_reducible apply br_t h2 | with_reducible apply br_f h2); conv => lhs; whnf)
    · conv => lhs; whnf
      repeat ((first | with_reducible apply br_tt | with_reducible apply br_ff | with_reducible apply br_nf | with_reducible apply br_nt | with_reducible refine br_d ?_ (by kernel_rfl) | with_reducible apply br_t h2 | with_reducible apply br_f h2); conv => lhs; whnf)
      refine br_c (fun h3 => ?_) (fun h3 => ?_)
      · have hf : insF m a r = (0, [], false) := by
          unfold insF
          have := ofd h3
          rw [bnf h, bnf h2, df (by omega)]
          rfl
        rw [hf]
        conv => lhs; whnf
      · have hf : insF m a r = (m, a ++ [r], true) := by
          unfold insF
          have := ofn h3
          rw [bnf h, bnf h2, dt (by omega)]
          rfl
        rw [hf]
        conv => lhs; whnf
        conv => lhs; arg 1; whnf
        refine bnd_g (by exact hp) ?_
        conv => lhs; whnf
        refine br_t (dt (by simp [room]; omega)) ?_
        conv => lhs; whnf
theorem ok_specInsertRow : FnOk Tryd.prog 81 K_specInsertRow := by
  refine fn_ok (fn := Tryd.f81) (k := Tryd.f81.ntmps) (E := E_specInsertRow) (facts_of (List.forall_mem_cons.2 ⟨ok_specIsContext, List.forall_mem_cons.2 ⟨ok_specIsSet, List.forall_mem_cons.2 ⟨ok_l3Copy, List.forall_mem_nil _⟩⟩⟩)) (by kernel_rfl) rfl (by decide +kernel) (by decide +kernel) ?_
  intro avs hin r h
  unfold K_specInsertRow at h
  split at h
  · obtain ⟨hp, rfl⟩ := gd_o h
    exact ⟨_, ev_specInsertRow _ _ _ hp, rfl⟩
  · cases h

/- spec.l27Intents -/
def K_l27Intents : List AV → List Ob → Option (AV × List Ob)
  | [.agg [.int .i64 m, .lst (.int .i64) a]], [] => gd (a.length ≤ 1048576) (.own 0, [.row 3 (.int .i64) (inlF m a)])
  | _, _ => none
@[reducible] def E_l27Intents : Env := mkE (tb [(74, K_specConcepts)]) (fun f => false) (fun r => bif r == 4 then ([3, 4, 5], [3]) else ([], []))
theorem lp_l27Intents (l : List (Int × Int)) (hl : l.length ≤ 64) (k : AX → S → Option (AV × List Ob)) (d : Nat) : ∀ (n i : Nat) (x : Int) (ys : List Int), l.length - i = d → i ≤ l.length → x = i → d < n → ys.length ≤ i →
    lpAt E_l27Intents (lp E_l27Intents 0 n) 0 (loopAt Tryd.f83 0) (mkS [3, 4, 5] [.own 0, .own 1, .int .i64 x] [some (.row 3 (.int .i64) ys), some (.row 84 (.pair (.int .i64) (.int .i64)) l)]) k =
      k (.exit 0) (mkS [3] [.own 0] [some (.row 3 (.int .i64) (ys ++ (l.drop i).map (·.2)))]) := by
  induction d with
  | zero =>
    intro n i x ys hd hi hx hn hz
    subst hx
    rw [lpAt_def]
    conv => lhs; whnf
    refine br_f (df (by omega)) ?_
    conv => lhs; whnf
    rw [List.drop_of_length_le (by omega)]
    simp
  | succ d ih =>
    intro n i x ys hd hi hx hn hz
    obtain ⟨n, rfl⟩ : ∃ m, n = m + 1 := ⟨n - 1, by omega⟩
    subst hx
    rw [lpAt_def]
    conv => lhs; whnf
    refine br_t (dt (by omega)) ?_
    conv => lhs; whnf
    refine br_t (dt2 (by omega) (by omega)) ?_
    conv => lhs; whnf
    refine br_t (dt (by omega)) ?_
    conv => lhs; whnf
    refine br_t (dt (by simp [room]; omega)) ?_
    conv => lhs; whnf
    rw [ih n (i + 1) _ _ (by omega) (by omega) (by rw [wrap64 (n := (i : Int) + 1) (by omega) (by omega)]; simp) (by omega) (by simp; omega)]
    rw [getD_drop (l := l) (i := i) (d := (0, 0)) (by omega), List.map_cons]
    simp only [List.append_assoc]
    rfl
theorem ev_l27Intents (m : Int) (a : List Int) (hp : a.length ≤ 1048576) : evF E_l27Intents (100) Tryd.f83 [.agg [.int .i64 m, .lst (.int .i64) a]] [] = some (.own 0, [.row 3 (.int .i64) (inlF m a)]) := by
  have hl := concF_len m a
  conv => lhs; whnf
  conv => lhs; arg 1; whnf
  refine bnd_g (by exact hp) ?_
  conv => lhs; whnf
  refine (lp_l27Intents (concF m a) hl _ (concF m a).length _ 0 0 [] rfl (by omega) rfl (by change _ < 99; omega) (by simp)).trans ?_
  conv => lhs; whnf
  rfl
theorem ok_l27Intents : FnOk Tryd.prog 83 K_l27Intents := by
  refine fn_ok (fn := Tryd.f83) (k := Tryd.f83.ntmps) (E := E_l27Intents) (facts_of (List.forall_mem_cons.2 ⟨ok_specConcepts, List.forall_mem_nil _⟩)) (by kernel_rfl) rfl (by decide +kernel) (by decide +kernel) ?_
  intro avs hin r h
  unfold K_l27Intents at h
  split at h
  · obtain ⟨hp, rfl⟩ := gd_o h
    exact ⟨_, ev_l27Intents _ _ hp, rfl⟩
  · cases h

/- spec.l2In -/
def K_l2In : List AV → List Ob → Option (AV × List Ob)
  | [.lst (.int .i64) a, .int .i64 v], [] => gd (a.length < 4611686018427387904) (.bool (a.any (fun y => y == v)), [])
  | _, _ => none
@[reducible] def E_l2In : Env := mkE (tb []) (fun f => false) (fun r => bif r == 2 then ([0, 1, 5], [4]) else ([], []))
theorem lp_l2In (a : List Int) (v : Int) (ha : a.length < 4611686018427387904) (k : AX → S → Option (AV × List Ob)) (d : Nat) : ∀ (n i : Nat) (x : Int), a.length - i = d → i ≤ a.length → x = i → d < n →
    lpAt E_l2In (lp E_l2In 0 n) 0 (loopAt Tryd.f133 0) (mkS [0, 1, 5] [.lst (.int .i64) a, .int .i64 v, .int .i64 x] []) k =
      if (a.drop i).any (fun y => y == v) then k .ret (mkS [4] [.bool true] []) else k (.exit 0) (mkS [4] [.any] []) := by
  induction d with
  | zero =>
    intro n i x hd hi hx hn
    subst hx
    rw [lpAt_def]
    conv => lhs; whnf
    refine br_f (df (by omega)) ?_
    conv => lhs; whnf
    rw [List.drop_of_length_le (by omega)]
    simp
  | succ d ih =>
    intro n i x hd hi hx hn
    obtain ⟨n, rfl⟩ : ∃ m, n = m + 1 := ⟨n - 1, by omega⟩
    subst hx
    rw [lpAt_def]
    conv => lhs; whnf
    refine br_t (dt (by omega)) ?_
    conv => lhs; whnf
    refine br_t (dt2 (by omega) (by omega)) ?_
    conv => lhs; whnf
    rw [getD_drop (l := a) (i := i) (d := 0) (by omega)]
    refine br_c (fun h => ?_) (fun h => ?_)
    · have h' : (a.getD i 0 == v) = true := h
      conv => lhs; whnf
      rw [if_pos (by simp only [List.any_cons, h', Bool.true_or])]
    · have h' : (a.getD i 0 == v) = false := h
      conv => lhs; whnf
      rw [ih n (i + 1) _ (by omega) (by omega) (by rw [wrap64 (by omega) (by omega)]; simp) (by omega)]
      simp only [List.any_cons, h', Bool.false_or]
theorem ev_l2In (a : List Int) (v : Int) (hp : a.length < 4611686018427387904) : evF E_l2In (a.length + 2) Tryd.f133 [.lst (.int .i64) a, .int .i64 v] [] = some (.bool (a.any (fun y => y == v)), []) := by
  conv => lhs; whnf
  refine (lp_l2In a v hp _ a.length _ 0 0 rfl (by omega) rfl (by omega)).trans ?_
  simp only [List.drop_zero]
  split
  · rename_i he
    conv => lhs; whnf
    rw [he]
  · rename_i he
    conv => lhs; whnf
    rw [Bool.not_eq_true] at he
    rw [he]
theorem ok_l2In : FnOk Tryd.prog 133 K_l2In := by
  refine fn_ok (fn := Tryd.f133) (k := Tryd.f133.ntmps) (E := E_l2In) (facts_of (List.forall_mem_nil _)) (by kernel_rfl) rfl (by decide +kernel) (by decide +kernel) ?_
  intro avs hin r h
  unfold K_l2In at h
  split at h
  · obtain ⟨hp, rfl⟩ := gd_o h
    exact ⟨_, ev_l2In _ _ hp, rfl⟩
  · cases h

/- spec.l27Missing -/
def K_l27Missing : List AV → List Ob → Option (AV × List Ob)
  | [.lst (.int .i64) a, .lst (.int .i64) b], [] => gd (a.length ≤ 64 ∧ b.length ≤ 64) (.own 0, [.row 3 (.int .i64) (missF a b)])
  | _, _ => none
@[reducible] def E_l27Missing : Env := mkE (tb [(133, K_l2In)]) (fun f => false) (fun r => bif r == 3 then ([0, 1, 5, 6], [5]) else ([], []))
theorem lp_l27Missing (a b : List Int) (hl : a.length ≤ 64) (hb : b.length ≤ 64) (k : AX → S → Option (AV × List Ob)) (d : Nat) : ∀ (n i : Nat) (x : Int) (ys : List Int), a.length - i = d → i ≤ a.length → x = i → d < n → ys.length ≤ i →
    lpAt E_l27Missing (lp E_l27Missing 0 n) 0 (loopAt Tryd.f82 0) (mkS [0, 1, 5, 6] [.lst (.int .i64) a, .lst (.int .i64) b, .own 0, .int .i64 x] [some (.row 3 (.int .i64) ys)]) k =
      k (.exit 0) (mkS [5] [.own 0] [some (.row 3 (.int .i64) (ys ++ missF (a.drop i) b))]) := by
  induction d with
  | zero =>
    intro n i x ys hd hi hx hn hz
    subst hx
    rw [lpAt_def]
    conv => lhs; whnf
    refine br_f (df (by omega)) ?_
    conv => lhs; whnf
    rw [List.drop_of_length_le (by omega)]
    simp [missF]
  | succ d ih =>
    intro n i x ys hd hi hx hn hz
    obtain ⟨n, rfl⟩ : ∃ m, n = m + 1 := ⟨n - 1, by omega⟩
    subst hx
    rw [lpAt_def]
    conv => lhs; whnf
    refine br_t (dt (by omega)) ?_
    conv => lhs; whnf
    refine br_t (dt2 (by omega) (by omega)) ?_
    conv => lhs; whnf
    conv => lhs; arg 1; whnf
    refine bnd_g (by omega) ?_
    conv => lhs; whnf
    refine br_c (fun h => ?_) (fun h => ?_)
    · have h' : (!b.any (fun y => y == a.getD i 0)) = true := h
      conv => lhs; whnf
      refine br_t (dt2 (by omega) (by omega)) ?_
      conv => lhs; whnf
      refine br_t (dt (by simp [room]; omega)) ?_
      conv => lhs; whnf
      rw [ih n (i + 1) _ _ (by omega) (by omega) (by rw [wrap64 (n := (i : Int) + 1) (by omega) (by omega)]; simp) (by omega) (by simp; omega)]
      rw [getD_drop (l := a) (i := i) (d := 0) (by omega)]
      unfold missF
      rw [List.filter_cons_of_pos (by exact h')]
      simp only [List.append_assoc]
      rfl
    · have h' : (!b.any (fun y => y == a.getD i 0)) = false := h
      conv => lhs; whnf
      rw [ih n (i + 1) _ _ (by omega) (by omega) (by rw [wrap64 (n := (i : Int) + 1) (by omega) (by omega)]; simp) (by omega) (by omega)]
      rw [getD_drop (l := a) (i := i) (d := 0) (by omega)]
      unfold missF
      rw [List.filter_cons_of_neg (by rw [h']; exact Bool.false_ne_true)]
theorem ev_l27Missing (a b : List Int) (hp : a.length ≤ 64 ∧ b.length ≤ 64) : evF E_l27Missing (100) Tryd.f82 [.lst (.int .i64) a, .lst (.int .i64) b] [] = some (.own 0, [.row 3 (.int .i64) (missF a b)]) := by
  conv => lhs; whnf
  refine (lp_l27Missing a b hp.1 hp.2 _ a.length _ 0 0 [] rfl (by omega) rfl (by change _ < 99; omega) (by simp)).trans ?_
  conv => lhs; whnf
  rfl
theorem ok_l27Missing : FnOk Tryd.prog 82 K_l27Missing := by
  refine fn_ok (fn := Tryd.f82) (k := Tryd.f82.ntmps) (E := E_l27Missing) (facts_of (List.forall_mem_cons.2 ⟨ok_l2In, List.forall_mem_nil _⟩)) (by kernel_rfl) rfl (by decide +kernel) (by decide +kernel) ?_
  intro avs hin r h
  unfold K_l27Missing at h
  split at h
  · obtain ⟨hp, rfl⟩ := gd_o h
    exact ⟨_, ev_l27Missing _ _ hp, rfl⟩
  · cases h

/- spec.NewIntents -/
def K_specNewIntents : List AV → List Ob → Option (AV × List Ob)
  | [.agg [.int .i64 m, .lst (.int .i64) a], .int .i64 r], [] => gd (a.length ≤ 1048576) (.own 0, [.row 3 (.int .i64) (newF m a r)])
  | _, _ => none
@[reducible] def E_specNewIntents : Env := mkE (tb [(81, K_specInsertRow), (83, K_l27Intents), (82, K_l27Missing)]) (fun f => false) (fun r => ([], []))
theorem ev_specNewIntents (m : Int) (a : List Int) (r : Int) (hp : a.length ≤ 1048576) : evF E_specNewIntents (1) Tryd.f32 [.agg [.int .i64 m, .lst (.int .i64) a], .int .i64 r] [] = some (.own 0, [.row 3 (.int .i64) (newF m a r)]) := by
  have hb := insF_len m a r
  have h1 := inlF_len (insF m a r).1 (insF m a r).2.1
  have h2 := inlF_len m a
  conv => lhs; whnf
  conv => lhs; arg 1; whnf
  refine bnd_g (by exact hp) ?_
  conv => lhs; whnf
  refine br_c (fun h => ?_) (fun h => ?_)
  · unfold newF
    rw [bnt h]
    conv => lhs; whnf
    rfl
  · unfold newF
    rw [bnf h]
    conv => lhs; whnf
    conv => lhs; arg 1; whnf
    refine bnd_g (by omega) ?_
    conv => lhs; whnf
    conv => lhs; arg 1; whnf
    refine bnd_g (by exact hp) ?_
    conv => lhs; whnf
    conv => lhs; arg 1; whnf
    refine bnd_g (by exact ⟨h1, h2⟩) ?_
    conv => lhs; whnf
    repeat ((first | with_reducible apply br_tt | with_reducible apply br_ff | with_reducible apply br_nf | with_reducible apply br_nt | with_reducible refine br_d ?_ (by kernel_rfl)); conv => lhs; whnf)
    rfl
theorem ok_specNewIntents : FnOk Tryd.prog 32 K_specNewIntents := by
  refine fn_ok (fn := Tryd.f32) (k := Tryd.f32.ntmps) (E := E_specNewIntents) (facts_of (List.forall_mem_cons.2 ⟨ok_specInsertRow, List.forall_mem_cons.2 ⟨ok_l27Intents, List.forall_mem_cons.2 ⟨ok_l27Missing, List.forall_mem_nil _⟩⟩⟩)) (by kernel_rfl) rfl (by decide +kernel) (by decide +kernel) ?_
  intro avs hin r h
  unfold K_specNewIntents at h
  split at h
  · obtain ⟨hp, rfl⟩ := gd_o h
    exact ⟨_, ev_specNewIntents _ _ _ hp, rfl⟩
  · cases h

/- impl.InsertRow -/
def K_implInsertRow : List AV → List Ob → Option (AV × List Ob)
  | [.agg [.int .i64 m, .lst (.int .i64) a], .int .i64 r], [] => gd (a.length ≤ 1048576) (.tup [.agg [.int .i64 (insF m a r).1, .own 0], .bool (insF m a r).2.2], [.row 3 (.int .i64) (insF m a r).2.1])
  | _, _ => none
@[reducible] def E_implInsertRow : Env := mkE (tb [(130, K_areAttributes), (134, K_cloneInt)]) (fun f => false) (fun r => ([], []))
theorem ev_implInsertRow (m : Int) (a : List Int) (r : Int) (hp : a.length ≤ 1048576) : evF E_implInsertRow (1) Tryd.f84 [.agg [.int .i64 m, .lst (.int .i64) a], .int .i64 r] [] = some (.tup [.agg [.int .i64 (insF m a r).1, .own 0], .bool (insF m a r).2.2], [.row 3 (.int .i64) (insF m a r).2.1]) := by
  conv => lhs; whnf
  conv => lhs; arg 1; whnf
  refine bnd_g (by omega) ?_
  conv => lhs; whnf
  refine br_c (fun h => ?_) (fun h => ?_)
  · have hf : insF m a r = (0, [], false) := by
      unfold insF
      rw [bnt h]
      rfl
    rw [hf]
    conv => lhs; whnf
    repeat ((first | with_reducible apply br_tt | with_reducible apply br_ff | with_reducible apply br_nf | with_reducible apply br_nt | with_reducible refine br_d ?_ (by kernel_rfl) | with_reducible apply br_t h | with_reducible apply br_f h); conv => lhs; whnf)
  · conv => lhs; whnf
    repeat ((first | with_reducible apply br_tt | with_reducible apply br_ff | with_reducible apply br_nf | with_reducible apply br_nt | with_reducible refine br_d ?_ (by kernel_rfl) | with_reducible apply br_t h | with_reducible apply br_f h); conv => lhs; whnf)
    have h' := bnf h
    have hl := (isCtx_len (Bool.and_eq_true_iff.1 h').1).1
    refine br_c (fun h3 => ?_) (fun h3 => ?_)
    · have hf : insF m a r = (0, [], false) := by
        unfold insF
        have : (a.length : Int) = 8 := by simpa using h3
        rw [h', df (by omega)]
        rfl
      rw [hf]
      conv => lhs; whnf
    · have hf : insF m a r = (m, a ++ [r], true) := by
        unfold insF
        have : ¬ (a.length : Int) = 8 := by simpa using h3
        rw [h', dt (by omega)]
        rfl
      rw [hf]
      conv => lhs; whnf
      conv => lhs; arg 1; whnf
      refine bnd_g (by exact hp) ?_
      conv => lhs; whnf
      refine br_t (dt (by simp [room]; omega)) ?_
      conv => lhs; whnf
      repeat ((first | with_reducible apply br_tt | with_reducible apply br_ff | with_reducible apply br_nf | with_reducible apply br_nt | with_reducible refine br_d ?_ (by kernel_rfl)); conv => lhs; whnf)
theorem ok_implInsertRow : FnOk Tryd.prog 84 K_implInsertRow := by
  refine fn_ok (fn := Tryd.f84) (k := Tryd.f84.ntmps) (E := E_implInsertRow) (facts_of (List.forall_mem_cons.2 ⟨ok_areAttributes, List.forall_mem_cons.2 ⟨ok_cloneInt, List.forall_mem_nil _⟩⟩)) (by kernel_rfl) rfl (by decide +kernel) (by decide +kernel) ?_
  intro avs hin r h
  unfold K_implInsertRow at h
  split at h
  · obtain ⟨hp, rfl⟩ := gd_o h
    exact ⟨_, ev_implInsertRow _ _ _ hp, rfl⟩
  · cases h

/- impl.onlyIn -/
def K_onlyIn : List AV → List Ob → Option (AV × List Ob)
  | [.agg [.int .i64 m, .lst (.int .i64) a], .agg [.int .i64 m', .lst (.int .i64) b]], [] => gd (a.length ≤ 1048576 ∧ b.length ≤ 1048576) (.own 0, [.row 3 (.int .i64) (missF (inlF m a) (inlF m' b))])
  | _, _ => none
@[reducible] def E_onlyIn : Env := mkE (tb [(100, K_implConcepts), (135, K_isClosed)]) (fun f => false) (fun r => bif r == 3 then ([3, 5, 10, 11, 12], [5]) else ([], []))
theorem lp_onlyIn (m : Int) (b : List Int) (hb : b.length ≤ 1048576) (l : List (Int × Int)) (hl : l.length ≤ 64) (k : AX → S → Option (AV × List Ob)) (d : Nat) : ∀ (n i : Nat) (x : Int) (ys : List Int), l.length - i = d → i ≤ l.length → x = i → d < n → ys.length ≤ i →
    lpAt E_onlyIn (lp E_onlyIn 0 n) 0 (loopAt Tryd.f85 0) (mkS [3, 5, 10, 11, 12] [.ptr 0 0, .own 1, .own 2, .int .i64 l.length, .int .i64 x] [some (.box 35 [.int .i64 m, .lst (.int .i64) b]), some (.row 3 (.int .i64) ys), some (.row 84 (.pair (.int .i64) (.int .i64)) l)]) k =
      k (.exit 0) (mkS [5] [.own 0] [some (.row 3 (.int .i64) (ys ++ ((l.drop i).map (·.2)).filter (fun v => !((isCtx m b && isSet m v) && closedI m b v))))]) := by
  induction d with
  | zero =>
    intro n i x ys hd hi hx hn hz
    subst hx
    rw [lpAt_def]
    conv => lhs; whnf
    refine br_f (df (by omega)) ?_
    conv => lhs; whnf
    rw [List.drop_of_length_le (by omega)]
    simp
  | succ d ih =>
    intro n i x ys hd hi hx hn hz
    obtain ⟨n, rfl⟩ : ∃ m, n = m + 1 := ⟨n - 1, by omega⟩
    subst hx
    rw [lpAt_def]
    conv => lhs; whnf
    refine br_t (dt (by omega)) ?_
    conv => lhs; whnf
    refine br_t (dt2 (by omega) (by omega)) ?_
    conv => lhs; whnf
    refine br_t (dt (by omega)) ?_
    conv => lhs; whnf
    conv => lhs; arg 1; whnf
    refine bnd_g (by omega) ?_
    conv => lhs; whnf
    refine br_c (fun h => ?_) (fun h => ?_)
    · have h' : (!((isCtx m b && isSet m (l.getD i (0, 0)).2) && closedI m b (l.getD i (0, 0)).2)) = true := h
      conv => lhs; whnf
      refine br_t (dt (by simp [room]; omega)) ?_
      conv => lhs; whnf
      rw [ih n (i + 1) _ _ (by omega) (by omega) (by rw [wrap64 (n := (i : Int) + 1) (by omega) (by omega)]; simp) (by omega) (by simp; omega)]
      rw [getD_drop (l := l) (i := i) (d := (0, 0)) (by omega), List.map_cons, List.filter_cons_of_pos (by exact h')]
      simp only [List.append_assoc]
      rfl
    · have h' : (!((isCtx m b && isSet m (l.getD i (0, 0)).2) && closedI m b (l.getD i (0, 0)).2)) = false := h
      conv => lhs; whnf
      rw [ih n (i + 1) _ _ (by omega) (by omega) (by rw [wrap64 (n := (i : Int) + 1) (by omega) (by omega)]; simp) (by omega) (by omega)]
      rw [getD_drop (l := l) (i := i) (d := (0, 0)) (by omega), List.map_cons, List.filter_cons_of_neg (by rw [h']; exact Bool.false_ne_true)]
theorem ev_onlyIn (m : Int) (a : List Int) (m' : Int) (b : List Int) (hp : a.length ≤ 1048576 ∧ b.length ≤ 1048576) : evF E_onlyIn (100) Tryd.f85 [.agg [.int .i64 m, .lst (.int .i64) a], .agg [.int .i64 m', .lst (.int .i64) b]] [] = some (.own 0, [.row 3 (.int .i64) (missF (inlF m a) (inlF m' b))]) := by
  have hl := concF_len m a
  conv => lhs; whnf
  conv => lhs; arg 1; whnf
  refine bnd_g (by exact hp.1) ?_
  conv => lhs; whnf
  refine (lp_onlyIn m' b hp.2 (concF m a) hl _ (concF m a).length _ 0 0 [] rfl (by omega) rfl (by change _ < 99; omega) (by simp)).trans ?_
  conv => lhs; whnf
  rw [← miss_only]
  rfl
theorem ok_onlyIn : FnOk Tryd.prog 85 K_onlyIn := by
  refine fn_ok (fn := Tryd.f85) (k := Tryd.f85.ntmps) (E := E_onlyIn) (facts_of (List.forall_mem_cons.2 ⟨ok_implConcepts, List.forall_mem_cons.2 ⟨ok_isClosed, List.forall_mem_nil _⟩⟩)) (by kernel_rfl) rfl (by decide +kernel) (by decide +kernel) ?_
  intro avs hin r h
  unfold K_onlyIn at h
  split at h
  · obtain ⟨hp, rfl⟩ := gd_o h
    exact ⟨_, ev_onlyIn _ _ _ _ hp, rfl⟩
  · cases h

/- impl.NewIntents -/
def K_implNewIntents : List AV → List Ob → Option (AV × List Ob)
  | [.agg [.int .i64 m, .lst (.int .i64) a], .int .i64 r], [] => gd (a.length ≤ 1048576) (.own 0, [.row 3 (.int .i64) (newF m a r)])
  | _, _ => none
@[reducible] def E_implNewIntents : Env := mkE (tb [(84, K_implInsertRow), (85, K_onlyIn)]) (fun f => false) (fun r => ([], []))
theorem ev_implNewIntents (m : Int) (a : List Int) (r : Int) (hp : a.length ≤ 1048576) : evF E_implNewIntents (1) Tryd.f33 [.agg [.int .i64 m, .lst (.int .i64) a], .int .i64 r] [] = some (.own 0, [.row 3 (.int .i64) (newF m a r)]) := by
  have hb := insF_len m a r
  conv => lhs; whnf
  conv => lhs; arg 1; whnf
  refine bnd_g (by exact hp) ?_
  conv => lhs; whnf
  refine br_c (fun h => ?_) (fun h => ?_)
  · unfold newF
    rw [bnt h]
    conv => lhs; whnf
    rfl
  · unfold newF
    rw [bnf h]
    conv => lhs; whnf
    conv => lhs; arg 1; whnf
    refine bnd_g (by exact ⟨by omega, hp⟩) ?_
    conv => lhs; whnf
    repeat ((first | with_reducible apply br_tt | with_reducible apply br_ff | with_reducible apply br_nf | with_reducible apply br_nt | with_reducible refine br_d ?_ (by kernel_rfl)); conv => lhs; whnf)
    rfl
theorem ok_implNewIntents : FnOk Tryd.prog 33 K_implNewIntents := by
  refine fn_ok (fn := Tryd.f33) (k := Tryd.f33.ntmps) (E := E_implNewIntents) (facts_of (List.forall_mem_cons.2 ⟨ok_implInsertRow, List.forall_mem_cons.2 ⟨ok_onlyIn, List.forall_mem_nil _⟩⟩)) (by kernel_rfl) rfl (by decide +kernel) (by decide +kernel) ?_
  intro avs hin r h
  unfold K_implNewIntents at h
  split at h
  · obtain ⟨hp, rfl⟩ := gd_o h
    exact ⟨_, ev_implNewIntents _ _ _ hp, rfl⟩
  · cases h

def iotaI : Int → Nat → List Int
  | _, 0 => []
  | k, n + 1 => k :: iotaI (k + 1) n
@[simp] theorem iotaI_length : ∀ (n : Nat) (k : Int), (iotaI k n).length = n
  | 0, _ => rfl
  | n + 1, k => by simp [iotaI, iotaI_length n]
def held (a : List Int) (k : Int) : Int := if a = iotaI k a.length then k + a.length else -1
theorem held_iota (k : Int) (n : Nat) : held (iotaI k n) k = k + n := by simp [held]
theorem take_set_succ {α : Type} {ys : List α} {i : Nat} {v : α} (h : i < ys.length) : (ys.set i v).take (i + 1) = ys.take i ++ [v] := by
  rw [List.take_succ_eq_append_getElem (by simpa using h), List.take_set_of_le (by omega)]
  simp
theorem getD_set_self {α : Type} {ys : List α} {i : Nat} {v d : α} (h : i < ys.length) : (ys.set i v).getD i d = v := by
  simp [List.getD, h]
/- laws.heldIntS -/
def K_heldIntS : List AV → List Ob → Option (AV × List Ob)
  | [.lst (.int .i64) a, .int .i64 q], [] => gd (a.length ≤ 16777216 ∧ 0 ≤ q ∧ q ≤ 1152921504606846976) (.int .i64 (held a q), [])
  | _, _ => none
@[reducible] def E_heldIntS : Env := mkE (tb []) (fun f => false) (fun r => bif r == 2 then ([0, 1, 5], [1, 4]) else ([], []))
theorem lp_heldIntS (a : List Int) (ha : a.length ≤ 16777216) (k : AX → S → Option (AV × List Ob)) (r : Option (AV × List Ob)) (hk : ∀ q, k .ret (mkS [1, 4] [.int .i64 q, .int .i64 (-1)] []) = r) (d : Nat) : ∀ (n i : Nat) (x q : Int), a.length - i = d → i ≤ a.length → 0 ≤ q → q ≤ 1152921504606846976 + i → x = i → d < n →
    lpAt E_heldIntS (lp E_heldIntS 0 n) 0 (loopAt Tryd.f31 0) (mkS [0, 1, 5] [.lst (.int .i64) a, .int .i64 q, .int .i64 x] []) k =
      if a.drop i = iotaI q d then k (.exit 0) (mkS [1, 4] [.int .i64 (q + d), .any] []) else r := by
  induction d with
  | zero =>
    intro n i x q hd hi hq hq' hx hn
    subst hx
    rw [lpAt_def]
    conv => lhs; whnf
    refine br_f (df (by omega)) ?_
    conv => lhs; whnf
    rw [if_pos (by rw [List.drop_of_length_le (by omega)]; rfl)]
    simp
  | succ d ih =>
    intro n i x q hd hi hq hq' hx hn
    obtain ⟨n, rfl⟩ : ∃ m, n = m + 1 := ⟨n - 1, by omega⟩
    subst hx
    rw [lpAt_def]
    conv => lhs; whnf
    refine br_t (dt (by omega)) ?_
    conv => lhs; whnf
    refine br_t (dt2 (by omega) (by omega)) ?_
    conv => lhs; whnf
    rw [getD_drop (l := a) (i := i) (d := 0) (by omega)]
    refine br_c (fun h => ?_) (fun h => ?_)
    · conv => lhs; whnf
      rw [if_neg]
      · exact hk _
      · intro he
        have := (List.cons.inj he).1
        simp at h
        exact h this
    · conv => lhs; whnf
      rw [wrap64 (n := q + 1) (by omega) (by omega)]
      rw [ih n (i + 1) _ (q + 1) (by omega) (by omega) (by omega) (by omega) (by rw [wrap64 (by omega) (by omega)]; simp) (by omega)]
      have e1 : q + 1 + (d : Int) = q + ((d + 1 : Nat) : Int) := by push_cast; omega
      rw [e1]
      simp at h
      simp [h, iotaI]
theorem ev_heldIntS (a : List Int) (q : Int) (hp : a.length ≤ 16777216 ∧ 0 ≤ q ∧ q ≤ 1152921504606846976) : evF E_heldIntS (a.length + 2) Tryd.f31 [.lst (.int .i64) a, .int .i64 q] [] = some (.int .i64 (held a q), []) := by
  conv => lhs; whnf
  refine (lp_heldIntS a hp.1 _ _ (fun _ => by conv => lhs; whnf; rfl) a.length _ 0 0 q rfl (by omega) hp.2.1 (by omega) rfl (by omega)).trans ?_
  simp only [List.drop_zero]
  unfold held
  split
  · rename_i he
    conv => lhs; whnf
  · rename_i he
    rfl
theorem ok_heldIntS : FnOk Tryd.prog 31 K_heldIntS := by
  refine fn_ok (fn := Tryd.f31) (k := Tryd.f31.ntmps) (E := E_heldIntS) (facts_of (List.forall_mem_nil _)) (by kernel_rfl) rfl (by decide +kernel) (by decide +kernel) ?_
  intro avs hin r h
  unfold K_heldIntS at h
  split at h
  · obtain ⟨hp, rfl⟩ := gd_o h
    exact ⟨_, ev_heldIntS _ _ hp, rfl⟩
  · cases h

/- laws.markIntS -/
def K_markIntS : List AV → List Ob → Option (AV × List Ob)
  | [.own 0, .int .i64 q], [.row 3 (.int .i64) a] => gd (a.length ≤ 16777216 ∧ 0 ≤ q ∧ q ≤ 1152921504606846976) (.int .i64 (q + a.length), [.row 3 (.int .i64) (iotaI q a.length)])
  | _, _ => none
@[reducible] def E_markIntS : Env := mkE (tb []) (fun f => false) (fun r => bif r == 2 then ([0, 1, 5], [1]) else ([], []))
theorem lp_markIntS (k : AX → S → Option (AV × List Ob)) (d : Nat) : ∀ (n i : Nat) (x q : Int) (ys : List Int), ys.length - i = d → i ≤ ys.length → ys.length ≤ 16777216 → 0 ≤ q → q ≤ 1152921504606846976 + i → x = i → d < n →
    lpAt E_markIntS (lp E_markIntS 1 n) 1 (loopAt Tryd.f30 0) (mkS [0, 1, 5] [.own 0, .int .i64 q, .int .i64 x] [some (.row 3 (.int .i64) ys)]) k =
      k (.exit 0) (mkS [1] [.int .i64 (q + d)] [some (.row 3 (.int .i64) (ys.take i ++ iotaI q d))]) := by
  induction d with
  | zero =>
    intro n i x q ys hd hi hl hq hq' hx hn
    subst hx
    rw [lpAt_def]
    conv => lhs; whnf
    refine br_f (df (by omega)) ?_
    conv => lhs; whnf
    simp only [iotaI, List.append_nil, List.take_of_length_le (show ys.length ≤ i by omega)]
    simp
  | succ d ih =>
    intro n i x q ys hd hi hl hq hq' hx hn
    obtain ⟨n, rfl⟩ : ∃ m, n = m + 1 := ⟨n - 1, by omega⟩
    subst hx
    rw [lpAt_def]
    conv => lhs; whnf
    refine br_t (dt (by omega)) ?_
    conv => lhs; whnf
    refine br_t (dt2 (by omega) (by omega)) ?_
    conv => lhs; whnf
    refine br_t (dt (by omega)) ?_
    conv => lhs; whnf
    rw [wrap64 (n := q + 1) (by omega) (by omega)]
    rw [ih n (i + 1) _ (q + 1) _ (by simp; omega) (by simp; omega) (by simp; omega) (by omega) (by omega) (by rw [wrap64 (by omega) (by omega)]; simp) (by omega)]
    simp only [Int.toNat_natCast]
    rw [take_set_succ (by omega)]
    have e1 : q + 1 + (d : Int) = q + ((d + 1 : Nat) : Int) := by push_cast; omega
    rw [e1]
    simp [iotaI]
theorem ev_markIntS (a : List Int) (q : Int) (hp : a.length ≤ 16777216 ∧ 0 ≤ q ∧ q ≤ 1152921504606846976) : evF E_markIntS (a.length + 2) Tryd.f30 [.own 0, .int .i64 q] [.row 3 (.int .i64) a] = some (.int .i64 (q + a.length), [.row 3 (.int .i64) (iotaI q a.length)]) := by
  conv => lhs; whnf
  refine (lp_markIntS _ a.length _ 0 0 q a rfl (by omega) hp.1 hp.2.1 (by omega) rfl (by omega)).trans ?_
  conv => lhs; whnf
  simp
theorem ok_markIntS : FnOk Tryd.prog 30 K_markIntS := by
  refine fn_ok (fn := Tryd.f30) (k := Tryd.f30.ntmps) (E := E_markIntS) (facts_of (List.forall_mem_nil _)) (by kernel_rfl) rfl (by decide +kernel) (by decide +kernel) ?_
  intro avs hin r h
  unfold K_markIntS at h
  split at h
  · obtain ⟨hp, rfl⟩ := gd_o h
    exact ⟨_, ev_markIntS _ _ hp, rfl⟩
  · cases h

/- laws.markContext -/
def K_markContext : List AV → List Ob → Option (AV × List Ob)
  | [.agg [.int .i64 m, .own 0], .int .i64 q], [.row 3 (.int .i64) a] => gd (a.length ≤ 16777216 ∧ 0 ≤ q ∧ q ≤ 1152921504606846976) (.int .i64 (q + a.length), [.row 3 (.int .i64) (iotaI q a.length)])
  | _, _ => none
@[reducible] def E_markContext : Env := mkE (tb [(30, K_markIntS)]) (fun f => [30].contains f) (fun r => ([], []))
theorem ev_markContext (m : Int) (a : List Int) (q : Int) (hp : a.length ≤ 16777216 ∧ 0 ≤ q ∧ q ≤ 1152921504606846976) : evF E_markContext (1) Tryd.f29 [.agg [.int .i64 m, .own 0], .int .i64 q] [.row 3 (.int .i64) a] = some (.int .i64 (q + a.length), [.row 3 (.int .i64) (iotaI q a.length)]) := by
  conv => lhs; whnf
  conv => lhs; arg 1; whnf
  refine bnd_g (by exact hp) ?_
  conv => lhs; whnf
theorem ok_markContext : FnOk Tryd.prog 29 K_markContext := by
  refine fn_ok (fn := Tryd.f29) (k := Tryd.f29.ntmps) (E := E_markContext) (facts_of (List.forall_mem_cons.2 ⟨ok_markIntS, List.forall_mem_nil _⟩)) (by kernel_rfl) rfl (by decide +kernel) (by decide +kernel) ?_
  intro avs hin r h
  unfold K_markContext at h
  split at h
  · obtain ⟨hp, rfl⟩ := gd_o h
    exact ⟨_, ev_markContext _ _ _ hp, rfl⟩
  · cases h

/- laws.FnExactNewIntents -/
def K_lawNewIntents : List AV → List Ob → Option (AV × List Ob)
  | [.agg [.int .i64 m, .lst (.int .i64) a], .int .i64 s], [] => gd (a.length ≤ maxLen) (.bool true, [])
  | _, _ => none
@[reducible] def E_lawNewIntents : Env := mkE (tb [(23, K_szContext), (25, K_toContext), (32, K_specNewIntents), (33, K_implNewIntents), (27, K_eqIntS), (28, K_eqContext), (31, K_heldIntS), (29, K_markContext), (30, K_markIntS)]) (fun f => [29, 30].contains f) (fun r => ([], []))
theorem ev_lawNewIntents (m : Int) (a : List Int) (s : Int) (hp : a.length ≤ maxLen) : evF E_lawNewIntents (1) Tryd.f5 [.agg [.int .i64 m, .lst (.int .i64) a], .int .i64 s] [] = some (.bool true, []) := by
  conv => lhs; whnf
  conv => lhs; arg 1; whnf
  refine bnd_g (by exact ⟨by omega, by omega, hp⟩) ?_
  conv => lhs; whnf
  refine br_c (fun h1 => ?_) (fun h1 => ?_)
  · conv => lhs; whnf
  · conv => lhs; whnf
    obtain ⟨e1, l1⟩ := szI_ok (ofn h1)
    have hb := newF_len m a s
    conv => lhs; arg 1; whnf
    refine bnd_g (by omega) ?_
    conv => lhs; whnf
    conv => lhs; arg 1; whnf
    refine bnd_g (by omega) ?_
    conv => lhs; whnf
    conv => lhs; arg 1; whnf
    refine bnd_g (by omega) ?_
    conv => lhs; whnf
    conv => lhs; arg 1; whnf
    refine bnd_g (by omega) ?_
    conv => lhs; whnf
    conv => lhs; arg 1; whnf
    refine bnd_g (by exact ⟨by omega, by omega⟩) ?_
    conv => lhs; whnf
    repeat ((first | with_reducible apply br_tt | with_reducible apply br_ff | with_reducible apply br_nf | with_reducible apply br_nt | with_reducible refine br_d ?_ (by kernel_rfl) | with_reducible refine br_f (by simp; done) ?_); conv => lhs; whnf)
    conv => lhs; arg 1; whnf
    refine bnd_g (by omega) ?_
    conv => lhs; whnf
    conv => lhs; arg 1; whnf
    refine bnd_g (by exact ⟨by omega, by omega⟩) ?_
    conv => lhs; whnf
    repeat ((first | with_reducible apply br_tt | with_reducible apply br_ff | with_reducible apply br_nf | with_reducible apply br_nt | with_reducible refine br_d ?_ (by kernel_rfl) | with_reducible refine br_f (by simp; done) ?_); conv => lhs; whnf)
    conv => lhs; arg 1; whnf
    refine bnd_g (by exact ⟨by omega, by omega, by omega⟩) ?_
    conv => lhs; whnf
    have hk : decide ((1 : Int) + (a.length : Int) < 0) = false := df (by omega)
    repeat ((first | with_reducible apply br_tt | with_reducible apply br_ff | with_reducible apply br_nf | with_reducible apply br_nt | with_reducible refine br_d ?_ (by kernel_rfl) | with_reducible apply br_t hk | with_reducible apply br_f hk); conv => lhs; whnf)
    conv => lhs; arg 1; whnf
    refine bnd_g (by exact ⟨by omega, by omega⟩) ?_
    conv => lhs; whnf
    repeat ((first | with_reducible apply br_tt | with_reducible apply br_ff | with_reducible apply br_nf | with_reducible apply br_nt | with_reducible refine br_d ?_ (by kernel_rfl) | with_reducible apply br_t hk | with_reducible apply br_f hk | with_reducible refine br_f (by simp; done) ?_); conv => lhs; whnf)
    conv => lhs; arg 1; whnf
    refine bnd_g (by exact ⟨by omega, by omega, by omega⟩) ?_
    conv => lhs; whnf
    conv => lhs; arg 1; whnf
    refine bnd_g (by exact ⟨by simp; omega, by omega, by omega⟩) ?_
    conv => lhs; whnf
    refine br_f (by (apply decide_eq_false; rw [held_iota]; omega)) ?_
    conv => lhs; whnf
    refine br_f (by (rw [held_iota]; simp)) ?_
    conv => lhs; whnf
    conv => lhs; arg 1; whnf
    refine bnd_g (by omega) ?_
    conv => lhs; whnf
    conv => lhs; arg 1; whnf
    refine bnd_g (by omega) ?_
    conv => lhs; whnf
    conv => lhs; arg 1; whnf
    refine bnd_g (by exact ⟨by omega, by omega⟩) ?_
    conv => lhs; whnf
    repeat ((first | with_reducible apply br_tt | with_reducible apply br_ff | with_reducible apply br_nf | with_reducible apply br_nt | with_reducible refine br_d ?_ (by kernel_rfl) | with_reducible refine br_f (by simp; done) ?_); conv => lhs; whnf)
    conv => lhs; arg 1; whnf
    refine bnd_g (by exact ⟨by simp; omega, by omega, by omega⟩) ?_
    conv => lhs; whnf
    refine br_f (by (apply decide_eq_false; rw [held_iota]; omega)) ?_
    conv => lhs; whnf
    refine br_f (by (rw [held_iota]; simp)) ?_
    conv => lhs; whnf
theorem ok_lawNewIntents : FnOk Tryd.prog 5 K_lawNewIntents := by
  refine fn_ok (fn := Tryd.f5) (k := Tryd.f5.ntmps) (E := E_lawNewIntents) (facts_of (List.forall_mem_cons.2 ⟨ok_szContext, List.forall_mem_cons.2 ⟨ok_toContext, List.forall_mem_cons.2 ⟨ok_specNewIntents, List.forall_mem_cons.2 ⟨ok_implNewIntents, List.forall_mem_cons.2 ⟨ok_eqIntS, List.forall_mem_cons.2 ⟨ok_eqContext, List.forall_mem_cons.2 ⟨ok_heldIntS, List.forall_mem_cons.2 ⟨ok_markContext, List.forall_mem_cons.2 ⟨ok_markIntS, List.forall_mem_nil _⟩⟩⟩⟩⟩⟩⟩⟩⟩)) (by kernel_rfl) rfl (by decide +kernel) (by decide +kernel) ?_
  intro avs hin r h
  unfold K_lawNewIntents at h
  split at h
  · obtain ⟨hp, rfl⟩ := gd_o h
    exact ⟨_, ev_lawNewIntents _ _ _ hp, rfl⟩
  · cases h

end Go.Sym
