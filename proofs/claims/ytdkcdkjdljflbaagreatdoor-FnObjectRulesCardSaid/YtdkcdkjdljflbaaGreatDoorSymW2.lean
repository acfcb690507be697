/- Functions of the program, each told as a plain equation. -/
import Derived.Test.YtdkcdkjdljflbaaGreatDoorSymW1
namespace Go.Sym
open Go.Proofs
set_option linter.unusedVariables false
set_option linter.unusedSimpArgs false
set_option maxRecDepth 100000
set_option maxHeartbeats 4000000

/- slices.stableCmpFunc[int] -/
def K_stableC : List AV → List Ob → Option (AV × List Ob)
  | [.own 0, .int .i64 m, .clo 172 []], [.row 3 (.int .i64) ys] => gd (m = ys.length ∧ ys.length ≤ 64) (.tup [], [.row 3 (.int .i64) (stableF ys)])
  | _, _ => none
@[reducible] def E_stableC : Env := mkE (tb [(198, K_insertionC), (199, K_symMerge6)]) (fun f => [198, 199].contains f) (fun r => bif r == 2 then ([0, 1, 2, 6, 7, 8], [0, 1, 2, 6, 7]) else bif r == 7 then ([0, 1, 2, 6], [0, 1, 2, 6, 7]) else bif r == 9 then ([0, 1, 2, 6, 7, 8], [0, 1, 2, 6, 7]) else ([], []))
theorem l0_stableC (n : Nat) (hn : n ≤ 64) (k : AX → S → Option (AV × List Ob)) (d : Nat) : ∀ (f a : Nat) (x : Int) (ys : List Int), n < a + 20 * (d + 1) → d < f → a ≤ n → x = ((a + 20 : Nat) : Int) → ys.length = n →
    ∃ (a' : Nat) (zs : List Int) (w : Int), a' ≤ n ∧ zs.length = n ∧ insSort zs a' n = blksF n (d + 1) a ys ∧
    lpAt E_stableC (lp E_stableC 1 f) 1 (loopAt Tryz.f190 0) (mkS [0, 1, 2, 6, 7, 8] [.own 0, .int .i64 (n : Int), .clo 172 [], .int .i64 20, .int .i64 (a : Int), .int .i64 x] [some (.row 3 (.int .i64) ys)]) k =
      k (.exit 0) (mkS [0, 1, 2, 6, 7] [.own 0, .int .i64 (n : Int), .clo 172 [], .int .i64 20, .int .i64 (a' : Int)] [some (.row 3 (.int .i64) zs)]) := by
  induction d with
  | zero =>
    intro f a x ys h1 h2 h3 hx h4
    obtain ⟨f, rfl⟩ : ∃ m, f = m + 1 := ⟨f - 1, by omega⟩
    subst hx
    refine ⟨a, ys, 0, h3, h4, by rw [blksF, decide_eq_false (by omega), cond_false], ?_⟩
    rw [lpAt_def]
    conv => lhs; whnf
    refine br_f (df (by omega)) ?_
    conv => lhs; whnf
  | succ d ih =>
    intro f a x ys h1 h2 h3 hx h4
    obtain ⟨f, rfl⟩ : ∃ m, f = m + 1 := ⟨f - 1, by omega⟩
    subst hx
    by_cases hc : a + 20 ≤ n
    · have hw : IntKind.i64.wrap (((a + 20 : Nat) : Int) + 20) = ((a + 20 + 20 : Nat) : Int) := by rw [wrap64 (by omega) (by omega)]; push_cast; rfl
      obtain ⟨a', zs, w, g1, g2, g3, g4⟩ := ih f (a + 20) _ (insSort ys a (a + 20)) (by omega) (by omega) hc hw (by rw [insSort_len]; exact h4)
      refine ⟨a', zs, w, g1, g2, by rw [g3]; conv => rhs; rw [blksF, decide_eq_true hc, cond_true], ?_⟩
      rw [lpAt_def]
      conv => lhs; whnf
      refine br_t (dt (by omega)) ?_
      conv => lhs; whnf
      conv => lhs; arg 1; whnf
      refine bnd_g (by exact ⟨⟨by omega, by omega⟩, by omega, by omega⟩) ?_
      conv => lhs; whnf
      refine Eq.trans ?_ g4
      rfl
    · refine ⟨a, ys, 0, h3, h4, by rw [blksF, decide_eq_false hc, cond_false], ?_⟩
      rw [lpAt_def]
      conv => lhs; whnf
      refine br_f (df (by omega)) ?_
      conv => lhs; whnf

theorem l2_stableC (n bs : Nat) (hn : n ≤ 64) (hb : 0 < bs ∧ bs ≤ 64) (k : AX → S → Option (AV × List Ob)) (d : Nat) : ∀ (f a : Nat) (x : Int) (ys : List Int), n < a + 40 * (d + 1) → 20 ≤ bs → d < f → a ≤ n → x = ((a + 2 * bs : Nat) : Int) → ys.length = n →
    ∃ (a' : Nat) (zs : List Int), a' ≤ n ∧ zs.length = n ∧ (bif decide (a' + bs < n) then symM 6 a' (a' + bs) n zs else zs) = mrgF n bs (d + 1) a ys ∧
    lpAt E_stableC (lp E_stableC 1 f) 1 (loopAt Tryz.f190 2) (mkS [0, 1, 2, 6, 7, 8] [.own 0, .int .i64 (n : Int), .clo 172 [], .int .i64 (bs : Int), .int .i64 (a : Int), .int .i64 x] [some (.row 3 (.int .i64) ys)]) k =
      k (.exit 4) (mkS [0, 1, 2, 6, 7] [.own 0, .int .i64 (n : Int), .clo 172 [], .int .i64 (bs : Int), .int .i64 (a' : Int)] [some (.row 3 (.int .i64) zs)]) := by
  induction d with
  | zero =>
    intro f a x ys h1 h1' h2 h3 hx h4
    obtain ⟨f, rfl⟩ : ∃ m, f = m + 1 := ⟨f - 1, by omega⟩
    subst hx
    refine ⟨a, ys, h3, h4, by conv => rhs; rw [mrgF, decide_eq_false (by omega), cond_false], ?_⟩
    rw [lpAt_def]
    conv => lhs; whnf
    refine br_f (df (by omega)) ?_
    conv => lhs; whnf
  | succ d ih =>
    intro f a x ys h1 h1' h2 h3 hx h4
    obtain ⟨f, rfl⟩ : ∃ m, f = m + 1 := ⟨f - 1, by omega⟩
    subst hx
    by_cases hc : a + 2 * bs ≤ n
    · have hw0 : IntKind.i64.wrap (2 * (bs : Int)) = ((2 * bs : Nat) : Int) := by rw [wrap64 (by omega) (by omega)]; push_cast; rfl
      have hw : IntKind.i64.wrap (((a + 2 * bs : Nat) : Int) + IntKind.i64.wrap (2 * (bs : Int))) = ((a + 2 * bs + 2 * bs : Nat) : Int) := by rw [hw0, wrap64 (by omega) (by omega)]; push_cast; rfl
      have hm : IntKind.i64.wrap ((a : Int) + (bs : Int)) = ((a + bs : Nat) : Int) := by rw [wrap64 (by omega) (by omega)]; push_cast; rfl
      have hm' : (IntKind.i64.wrap ((a : Int) + (bs : Int))).toNat = a + bs := by rw [hm]; rfl
      obtain ⟨a', zs, g1, g2, g3, g4⟩ := ih f (a + 2 * bs) _ (symM 6 a (a + bs) (a + 2 * bs) ys) (by omega) h1' (by omega) hc hw (by rw [symM_len]; exact h4)
      refine ⟨a', zs, g1, g2, by rw [g3]; conv => rhs; rw [mrgF, decide_eq_true hc, cond_true], ?_⟩
      rw [lpAt_def]
      conv => lhs; whnf
      refine br_t (dt (by omega)) ?_
      conv => lhs; whnf
      conv => lhs; arg 1; whnf
      refine bnd_g (by exact ⟨⟨⟨by omega, by rw [hm]; omega, by rw [hm]; omega⟩, by omega, by omega⟩, by omega⟩) ?_
      conv => lhs; whnf
      refine Eq.trans ?_ g4
      rw [hm']
      rfl
    · refine ⟨a, ys, h3, h4, by conv => rhs; rw [mrgF, decide_eq_false hc, cond_false], ?_⟩
      rw [lpAt_def]
      conv => lhs; whnf
      refine br_f (df (by omega)) ?_
      conv => lhs; whnf

theorem l1_stableC (n : Nat) (hn : n ≤ 64) (k : AX → S → Option (AV × List Ob)) (d : Nat) : ∀ (f bs : Nat) (x : Int) (ys : List Int), n ≤ bs * 2 ^ d → 20 ≤ bs → bs ≤ 128 → d + 10 < f → x = bs → ys.length = n →
    ∃ bs' : Int, lpAt E_stableC (lp E_stableC 1 f) 1 (loopAt Tryz.f190 1) (mkS [0, 1, 2, 6] [.own 0, .int .i64 (n : Int), .clo 172 [], .int .i64 x] [some (.row 3 (.int .i64) ys)]) k =
      k (.exit 2) (mkS [0, 1, 2, 6, 7] [.own 0, .int .i64 (n : Int), .clo 172 [], .int .i64 bs', .any] [some (.row 3 (.int .i64) (lvlF n (d + 1) bs ys))]) := by
  induction d with
  | zero =>
    intro f bs x ys h1 h2 h3 h4 hx h5
    obtain ⟨f, rfl⟩ : ∃ m, f = m + 1 := ⟨f - 1, by omega⟩
    subst hx
    have hnb : ¬ bs < n := by omega
    refine ⟨(bs : Int), ?_⟩
    rw [lpAt_def]
    conv => lhs; whnf
    refine br_f (df (by omega)) ?_
    conv => lhs; whnf
    rw [lvlF, decide_eq_false hnb, cond_false]
  | succ d ih =>
    intro f bs x ys h1 h2 h3 h4 hx h5
    obtain ⟨f, rfl⟩ : ∃ m, f = m + 1 := ⟨f - 1, by omega⟩
    subst hx
    by_cases hc : bs < n
    · have hp : bs * 2 ^ (d + 1) = bs * 2 * 2 ^ d := by rw [Nat.pow_succ, Nat.mul_comm (2 ^ d) 2, Nat.mul_assoc]
      have hw0 : IntKind.i64.wrap (2 * (bs : Int)) = ((0 + 2 * bs : Nat) : Int) := by rw [wrap64 (by omega) (by omega)]; omega
      have hw2 : IntKind.i64.wrap ((bs : Int) * 2) = ((bs * 2 : Nat) : Int) := by rw [wrap64 (by omega) (by omega)]; push_cast; rfl
      have L := fun k => l2_stableC n bs hn ⟨by omega, by omega⟩ k 4 f 0 _ ys (by omega) h2 (by omega) (Nat.zero_le _) hw0 h5
      obtain ⟨bs', hi⟩ := ih f (bs * 2) _ (mrgF n bs 5 0 ys) (by omega) (by omega) (by omega) (by omega) hw2 (by rw [mrgF_len]; exact h5)
      refine ⟨bs', ?_⟩
      rw [lpAt_def]
      conv => lhs; whnf
      refine br_t (dt (by omega)) ?_
      conv => lhs; whnf
      obtain ⟨a', zs, g1, g2, g3, g4⟩ := L _
      refine g4.trans ?_
      have hm : IntKind.i64.wrap ((a' : Int) + (bs : Int)) = ((a' + bs : Nat) : Int) := by rw [wrap64 (by omega) (by omega)]; push_cast; rfl
      have hm' : (IntKind.i64.wrap ((a' : Int) + (bs : Int))).toNat = a' + bs := by rw [hm]; rfl
      have e : lvlF n (d + 1 + 1) bs ys = lvlF n (d + 1) (bs * 2) (mrgF n bs 5 0 ys) := by rw [lvlF, decide_eq_true hc, cond_true]
      rw [e]
      refine Eq.trans ?_ hi
      conv => lhs; whnf
      by_cases hc2 : a' + bs < n
      · rw [decide_eq_true hc2, cond_true] at g3
        refine br_t (by (refine dt ?_; rw [hm]; omega)) ?_
        conv => lhs; whnf
        conv => lhs; arg 1; whnf
        refine bnd_g (by exact ⟨⟨⟨by omega, by rw [hm]; omega, by rw [hm]; omega⟩, by omega, by omega⟩, by omega⟩) ?_
        conv => lhs; whnf
        rw [← g3, hm']
        rfl
      · rw [decide_eq_false hc2, cond_false] at g3
        refine br_f (by (refine df ?_; rw [hm]; omega)) ?_
        conv => lhs; whnf
        rw [← g3]
    · refine ⟨(bs : Int), ?_⟩
      rw [lpAt_def]
      conv => lhs; whnf
      refine br_f (df (by omega)) ?_
      conv => lhs; whnf
      rw [lvlF, decide_eq_false hc, cond_false]
theorem ev_stableC (m : Int) (ys : List Int) (hp : m = ys.length ∧ ys.length ≤ 64) : evF E_stableC (100) Tryz.f190 [.own 0, .int .i64 m, .clo 172 []] [.row 3 (.int .i64) ys] = some (.tup [], [.row 3 (.int .i64) (stableF ys)]) := by
  obtain ⟨rfl, hl⟩ := hp
  have L0 := fun k => l0_stableC ys.length hl k 4 99 0 20 ys (by omega) (by omega) (Nat.zero_le _) rfl rfl
  conv => lhs; whnf
  obtain ⟨a', zs, w, g1, g2, g3, g4⟩ := L0 _
  refine g4.trans ?_
  conv => lhs; whnf
  conv => lhs; arg 1; whnf
  refine bnd_g (by exact ⟨⟨by omega, by omega⟩, by omega, by omega⟩) ?_
  conv => lhs; whnf
  have hl2 : (insSort zs a' ys.length).length = ys.length := by rw [insSort_len]; exact g2
  obtain ⟨bs', hi⟩ := l1_stableC ys.length hl _ 4 99 20 20 (insSort zs ((a' : Int)).toNat ((ys.length : Int)).toNat) (by omega) (by omega) (by omega) (by omega) rfl hl2
  refine hi.trans ?_
  conv => lhs; whnf
  have e : stableF ys = lvlF ys.length 5 20 (insSort zs a' ys.length) := by unfold stableF; rw [g3]
  rw [e]
  rfl
theorem ok_stableC : FnOk Tryz.prog 190 K_stableC := by
  refine fn_ok (fn := Tryz.f190) (k := Tryz.f190.ntmps) (E := E_stableC) (facts_of (List.forall_mem_cons.2 ⟨ok_insertionC, List.forall_mem_cons.2 ⟨ok_symMerge6, List.forall_mem_nil _⟩⟩)) (by kernel_rfl) rfl (by decide +kernel) (by decide +kernel) ?_
  intro avs hin r h
  unfold K_stableC at h
  split at h
  · obtain ⟨hp, rfl⟩ := gd_o h
    exact ⟨_, ev_stableC _ _ hp, rfl⟩
  · cases h

/- slices.SortStableFunc[[]int,int] -/
def K_sortStable : List AV → List Ob → Option (AV × List Ob)
  | [.own 0, .clo 172 []], [.row 3 (.int .i64) ys] => gd (ys.length ≤ 64) (.tup [], [.row 3 (.int .i64) (stableF ys)])
  | _, _ => none
@[reducible] def E_sortStable : Env := mkE (tb [(190, K_stableC)]) (fun f => [190].contains f) (fun r => ([], []))
theorem ev_sortStable (ys : List Int) (hp : ys.length ≤ 64) : evF E_sortStable (1) Tryz.f171 [.own 0, .clo 172 []] [.row 3 (.int .i64) ys] = some (.tup [], [.row 3 (.int .i64) (stableF ys)]) := by
  conv => lhs; whnf
  conv => lhs; arg 1; whnf
  refine bnd_g (by exact ⟨rfl, hp⟩) ?_
  conv => lhs; whnf
theorem ok_sortStable : FnOk Tryz.prog 171 K_sortStable := by
  refine fn_ok (fn := Tryz.f171) (k := Tryz.f171.ntmps) (E := E_sortStable) (facts_of (List.forall_mem_cons.2 ⟨ok_stableC, List.forall_mem_nil _⟩)) (by kernel_rfl) rfl (by decide +kernel) (by decide +kernel) ?_
  intro avs hin r h
  unfold K_sortStable at h
  split at h
  · obtain ⟨hp, rfl⟩ := gd_o h
    exact ⟨_, ev_sortStable _ hp, rfl⟩
  · cases h

end Go.Sym
