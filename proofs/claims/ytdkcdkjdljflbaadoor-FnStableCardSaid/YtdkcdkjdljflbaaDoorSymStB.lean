/- Functions of the program, each told as a plain equation. -/
import Derived.Test.YtdkcdkjdljflbaaDoorSymStA
namespace Go.Sym
open Go.Proofs
set_option linter.unusedVariables false
set_option linter.unusedSimpArgs false
set_option maxRecDepth 100000
set_option maxHeartbeats 4000000

/- laws.FnStable -/
def K_lawStable : List AV → List Ob → Option (AV × List Ob)
  | [.lst (.int .u8) b], [] => gd (b.length ≤ maxLen) (.bool true, [])
  | _, _ => none
@[reducible] def E_lawStable : Env := mkE (tb [(5, K_bigL), (27, K_drawMostStable), (29, K_drawStabilityOf), (28, K_implMostStable), (35, K_specMostStable), (30, K_implStability), (31, K_specStability), (32, K_implSeparation), (33, K_specSeparation), (34, K_implGeneratorsOf), (36, K_specGeneratorsOf), (19, K_sameInts), (37, K_specConcepts), (38, K_specClosureOf), (25, K_specIsSubset), (39, K_specIsContext)]) (fun f => false) (fun r => bif r == 15 then ([3, 4, 5, 6, 15, 16, 17], [2, 3, 4, 5, 6, 15, 16, 17]) else bif r == 20 then ([3, 4, 5, 6, 15, 16, 17, 18], [2, 3, 4, 5, 6, 15, 16, 17]) else bif r == 29 then ([3, 19, 20, 21], [3, 19]) else ([], []))
theorem lq_lawStable (best a m xm : Int) (c x gs : List Int) (l : List (Int × Int)) (j : Nat) (hj : j < gs.length) (hgs : gs.length ≤ 64) (hg : ∀ i, i < j → (band (gs.getD i 0) (gs.getD j 0) == gs.getD i 0) = false ∧ (band (gs.getD j 0) (gs.getD i 0) == gs.getD j 0) = false) (k : AX → S → Option (AV × List Ob)) (d : Nat) : ∀ (n i : Nat) (z : Int), j - i = d → i ≤ j → z = i → d < n →
    lpAt E_lawStable (lp E_lawStable 0 n) 0 (loopAt Tryd.f4 1) (mkS [3, 4, 5, 6, 15, 16, 17, 18] [.ptr 0 0, .int .i64 best, .ptr 2 0, .int .i64 a, .own 4, .own 5, .int .i64 (j : Int), .int .i64 z] [some (.box 47 [.int .i64 m, .own 1]), some (.row 3 (.int .i64) c), some (.box 47 [.int .i64 xm, .own 3]), some (.row 3 (.int .i64) x), some (.row 3 (.int .i64) gs), some (.row 59 (.pair (.int .i64) (.int .i64)) l)]) k =
      k (.exit 2) (mkS [2, 3, 4, 5, 6, 15, 16, 17] [.any, .ptr 0 0, .int .i64 best, .ptr 2 0, .int .i64 a, .own 4, .own 5, .int .i64 (j : Int)] [some (.box 47 [.int .i64 m, .own 1]), some (.row 3 (.int .i64) c), some (.box 47 [.int .i64 xm, .own 3]), some (.row 3 (.int .i64) x), some (.row 3 (.int .i64) gs), some (.row 59 (.pair (.int .i64) (.int .i64)) l)]) := by
  induction d with
  | zero =>
    intro n i z hd hi hx hn
    subst hx
    rw [lpAt_def]
    conv => lhs; whnf
    refine br_f (df (by omega)) ?_
    conv => lhs; whnf
  | succ d ih =>
    intro n i z hd hi hx hn
    obtain ⟨n, rfl⟩ : ∃ m, n = m + 1 := ⟨n - 1, by omega⟩
    subst hx
    have h1 := (hg i (by omega)).1
    have h2 := (hg i (by omega)).2
    have s1 : subB (gs.getD (i : Int).toNat (ET.int IntKind.i64).dft) (gs.getD (j : Int).toNat (ET.int IntKind.i64).dft) = false := subB_no h1
    have s2 : subB (gs.getD (j : Int).toNat (ET.int IntKind.i64).dft) (gs.getD (i : Int).toNat (ET.int IntKind.i64).dft) = false := subB_no h2
    rw [lpAt_def]
    conv => lhs; whnf
    refine br_t (dt (by omega)) ?_
    conv => lhs; whnf
    refine br_t (dt2 (by omega) (by omega)) ?_
    conv => lhs; whnf
    refine br_t (dt (by omega)) ?_
    conv => lhs; whnf
    refine br_t (dt2 (by omega) (by omega)) ?_
    conv => lhs; whnf
    refine br_t (dt (by omega)) ?_
    conv => lhs; whnf
    conv => lhs; arg 1; whnf
    refine bnd_g (by exact True.intro) ?_
    conv => lhs; whnf
    refine br_f (by exact s1) ?_
    conv => lhs; whnf
    repeat ((first | with_reducible apply br_tt | with_reducible apply br_ff | with_reducible apply br_nf | with_reducible apply br_nt | with_reducible refine br_d ?_ (by kernel_rfl) | with_reducible apply br_t s1 | with_reducible apply br_f s1 | with_reducible refine br_t (dt2 (by omega) (by omega)) ?_ | with_reducible refine br_t (dt (by omega)) ?_); conv => lhs; whnf)
    conv => lhs; arg 1; whnf
    refine bnd_g (by exact True.intro) ?_
    conv => lhs; whnf
    repeat ((first | with_reducible apply br_tt | with_reducible apply br_ff | with_reducible apply br_nf | with_reducible apply br_nt | with_reducible refine br_d ?_ (by kernel_rfl) | with_reducible apply br_t s1 | with_reducible apply br_f s1 | with_reducible refine br_t (dt2 (by omega) (by omega)) ?_ | with_reducible refine br_t (dt (by omega)) ?_); conv => lhs; whnf)
    refine br_f (by exact s2) ?_
    conv => lhs; whnf
    exact ih n (i + 1) (IntKind.i64.wrap ((i : Int) + 1)) (by omega) (by omega) (by rw [wrap64 (by omega) (by omega)]; simp) (by omega)
theorem lp_lawStable (best a m xm : Int) (c x gs : List Int) (l : List (Int × Int)) (hx' : gs ≠ [] → isCtx xm x = true) (hgs : gs.length ≤ 64) (ha : gs ≠ [] → 0 ≤ a ∧ a < (l.length : Int)) (hm : ∀ g ∈ gs, isSet xm g = true ∧ intentF xm x (extF x g) = (l.getD a.toNat (0, 0)).2) (hg : ∀ j i, j < gs.length → i < j → (band (gs.getD i 0) (gs.getD j 0) == gs.getD i 0) = false ∧ (band (gs.getD j 0) (gs.getD i 0) == gs.getD j 0) = false) (k : AX → S → Option (AV × List Ob)) (d : Nat) : ∀ (n i : Nat) (z : Int), gs.length - i = d → i ≤ gs.length → z = i → d + 100 < n →
    lpAt E_lawStable (lp E_lawStable 0 n) 0 (loopAt Tryd.f4 0) (mkS [3, 4, 5, 6, 15, 16, 17] [.ptr 0 0, .int .i64 best, .ptr 2 0, .int .i64 a, .own 4, .own 5, .int .i64 z] [some (.box 47 [.int .i64 m, .own 1]), some (.row 3 (.int .i64) c), some (.box 47 [.int .i64 xm, .own 3]), some (.row 3 (.int .i64) x), some (.row 3 (.int .i64) gs), some (.row 59 (.pair (.int .i64) (.int .i64)) l)]) k =
      k (.exit 0) (mkS [2, 3, 4, 5, 6, 15, 16, 17] [.any, .ptr 0 0, .int .i64 best, .ptr 2 0, .int .i64 a, .own 4, .own 5, .int .i64 (gs.length : Int)] [some (.box 47 [.int .i64 m, .own 1]), some (.row 3 (.int .i64) c), some (.box 47 [.int .i64 xm, .own 3]), some (.row 3 (.int .i64) x), some (.row 3 (.int .i64) gs), some (.row 59 (.pair (.int .i64) (.int .i64)) l)]) := by
  induction d with
  | zero =>
    intro n i z hd hi hz hn
    subst hz
    rw [lpAt_def]
    conv => lhs; whnf
    refine br_f (df (by omega)) ?_
    conv => lhs; whnf
    have : i = gs.length := by omega
    rw [this]
  | succ d ih =>
    intro n i z hd hi hz hn
    obtain ⟨n, rfl⟩ : ∃ m, n = m + 1 := ⟨n - 1, by omega⟩
    subst hz
    have hv := hm _ (mem_getD (d := 0) (show i < gs.length by omega))
    have hv1 := hv.1
    have hv2 := hv.2
    have hane : gs ≠ [] := by intro e; rw [e] at hi hd; simp at hd
    have ha' := ha hane
    have hx := hx' hane
    have hxl := isCtx_len hx
    rw [lpAt_def]
    conv => lhs; whnf
    refine br_t (dt (by omega)) ?_
    conv => lhs; whnf
    refine br_t (dt2 (by omega) (by omega)) ?_
    conv => lhs; whnf
    refine br_t (dt (by omega)) ?_
    conv => lhs; whnf
    conv => lhs; arg 1; whnf
    refine bnd_g (by exact ⟨hx, hv1⟩) ?_
    conv => lhs; whnf
    refine br_t (dt2 (by omega) (by omega)) ?_
    conv => lhs; whnf
    refine br_t (dt (by omega)) ?_
    conv => lhs; whnf
    refine br_t (by kernel_rfl) ?_
    conv => lhs; whnf
    refine br_f (by change (intentF xm x (extF x (gs.getD i 0)) != (l.getD a.toNat (0, 0)).2) = false; rw [hv2]; exact bne_self_eq_false _) ?_
    conv => lhs; whnf
    refine (lq_lawStable best a m xm c x gs l i (by omega) hgs (fun i' hi' => hg i i' (by omega) hi') _ i _ 0 0 rfl (by omega) rfl (by omega)).trans ?_
    conv => lhs; whnf
    exact ih n (i + 1) (IntKind.i64.wrap ((i : Int) + 1)) (by omega) (by omega) (by rw [wrap64 (by omega) (by omega)]; simp) (by omega)
theorem l3_lawStable (m : Int) (c : List Int) (hc : c.length ≤ 1048576) (N : Nat) (hN : N ≤ 64) (k : AX → S → Option (AV × List Ob)) (d : Nat) : ∀ (n i : Nat) (z q : Int), N - i = d → i ≤ N → z = i → d < n → 0 ≤ q → q ≤ 256 * i →
    lpAt E_lawStable (lp E_lawStable 0 n) 0 (loopAt Tryd.f4 2) (mkS [3, 19, 20, 21] [.ptr 0 0, .int .i64 q, .int .i64 (N : Int), .int .i64 z] [some (.box 47 [.int .i64 m, .own 1]), some (.row 3 (.int .i64) c)]) k =
      k (.exit 4) (mkS [3, 19] [.ptr 0 0, .int .i64 (sumS m c d i q)] [some (.box 47 [.int .i64 m, .own 1]), some (.row 3 (.int .i64) c)]) := by
  induction d with
  | zero =>
    intro n i z q hd hi hx hn h0 hq
    subst hx
    rw [lpAt_def]
    conv => lhs; whnf
    refine br_f (df (by omega)) ?_
    conv => lhs; whnf
    rw [sumS]
  | succ d ih =>
    intro n i z q hd hi hx hn h0 hq
    obtain ⟨n, rfl⟩ : ∃ m, n = m + 1 := ⟨n - 1, by omega⟩
    subst hx
    have hr := stabF_rng m c (i : Int)
    rw [lpAt_def]
    conv => lhs; whnf
    refine br_t (dt (by omega)) ?_
    conv => lhs; whnf
    conv => lhs; arg 1; whnf
    refine bnd_g (by omega) ?_
    conv => lhs; whnf
    refine (ih n (i + 1) (IntKind.i64.wrap ((i : Int) + 1)) _ (by omega) (by omega) (by rw [wrap64 (n := (i : Int) + 1) (by omega) (by omega)]; simp) (by omega) (by rw [wrap64 (by omega) (by omega)]; omega) (by rw [wrap64 (by omega) (by omega)]; push_cast; omega)).trans ?_
    rw [sumS, wrap64 (n := q + (stabF m c (i : Int)).1) (by omega) (by omega)]
theorem ev_lawStable (b : List Int) (hp : b.length ≤ maxLen) : evF E_lawStable (400) Tryd.f4 [.lst (.int .u8) b] [] = some (.bool true, []) := by
  conv => lhs; whnf
  conv => lhs; arg 1; whnf
  refine bnd_g (by exact True.intro) ?_
  conv => lhs; whnf
  refine br_c (fun g => ?_) (fun g => ?_)
  · conv => lhs; whnf
  · have hb : b.length ≤ 1048576 := by have := ofn g; omega
    have n0 := newC_ok hb
    have l1 := (bent3_ok n0).1
    have hc := concF_len (bent3 b (newC b)).1 (bent3 b (newC b)).2.1
    have hgl := genF_len (bent3 b (newC b)).1 (bent3 b (newC b)).2.1 (two6a b (newC b))
    have hs1 := sep_pq (bent3 b (newC b)).1 (bent3 b (newC b)).2.1 (two6a b (newC b))
    have hs2 := stab_pq (bent3 b (newC b)).1 (bent3 b (newC b)).2.1 (two6a b (newC b))
    conv => lhs; whnf
    conv => lhs; arg 1; whnf
    refine bnd_g (by exact hb) ?_
    conv => lhs; whnf
    conv => lhs; arg 1; whnf
    refine bnd_g (by omega) ?_
    conv => lhs; whnf
    conv => lhs; arg 1; whnf
    refine bnd_g (by exact hb) ?_
    conv => lhs; whnf
    conv => lhs; arg 1; whnf
    refine bnd_g (by omega) ?_
    conv => lhs; whnf
    conv => lhs; arg 1; whnf
    refine bnd_g (by omega) ?_
    conv => lhs; whnf
    conv => lhs; arg 1; whnf
    refine bnd_g (by omega) ?_
    conv => lhs; whnf
    conv => lhs; arg 1; whnf
    refine bnd_g (by omega) ?_
    conv => lhs; whnf
    conv => lhs; arg 1; whnf
    refine bnd_g (by omega) ?_
    conv => lhs; whnf
    conv => lhs; arg 1; whnf
    refine bnd_g (by omega) ?_
    conv => lhs; whnf
    repeat ((first | with_reducible apply br_tt | with_reducible apply br_ff | with_reducible apply br_nf | with_reducible apply br_nt | with_reducible refine br_d ?_ (by kernel_rfl) | with_reducible refine br_f (by simp; done) ?_); conv => lhs; whnf)
    conv => lhs; arg 1; whnf
    refine bnd_g (by omega) ?_
    conv => lhs; whnf
    repeat ((first | with_reducible apply br_tt | with_reducible apply br_ff | with_reducible apply br_nf | with_reducible apply br_nt | with_reducible refine br_d ?_ (by kernel_rfl) | with_reducible refine br_f (by simp; done) ?_); conv => lhs; whnf)
    conv => lhs; arg 1; whnf
    refine bnd_g (by exact ⟨by omega, by omega⟩) ?_
    conv => lhs; whnf
    have hk1 : decide ((sepF (bent3 b (newC b)).1 (bent3 b (newC b)).2.1 (two6a b (newC b))).1 > (sepF (bent3 b (newC b)).1 (bent3 b (newC b)).2.1 (two6a b (newC b))).2) = false := df (by omega)
    have hk2 : decide ((stabF (bent3 b (newC b)).1 (bent3 b (newC b)).2.1 (two6a b (newC b))).1 > (stabF (bent3 b (newC b)).1 (bent3 b (newC b)).2.1 (two6a b (newC b))).2) = false := df (by omega)
    have hin := gen_at0 (bent3 b (newC b)).1 (bent3 b (newC b)).2.1 (two6a b (newC b))
    have hgf := fun j i (h1 : j < (genF (bent3 b (newC b)).1 (bent3 b (newC b)).2.1 (two6a b (newC b))).length) (h2 : i < j) => gen_free (i := j) (j := i) h2 h1
    repeat ((first | with_reducible apply br_tt | with_reducible apply br_ff | with_reducible apply br_nf | with_reducible apply br_nt | with_reducible refine br_d ?_ (by kernel_rfl) | with_reducible apply br_t hk1 | with_reducible apply br_f hk1 | with_reducible apply br_t hk2 | with_reducible apply br_f hk2 | with_reducible refine br_f (by simp; done) ?_); conv => lhs; whnf)
    conv => lhs; arg 1; whnf
    refine bnd_g (by omega) ?_
    conv => lhs; whnf
    refine (lp_lawStable _ (two6a b (newC b)) (bent3 b (newC b)).1 (bent3 b (newC b)).1 (bent3 b (newC b)).2.1 (bent3 b (newC b)).2.1 (genF (bent3 b (newC b)).1 (bent3 b (newC b)).2.1 (two6a b (newC b))) (concF (bent3 b (newC b)).1 (bent3 b (newC b)).2.1) (fun q => (hin.2 q).1) hgl (fun q => (hin.2 q).2) hin.1 hgf _ (genF (bent3 b (newC b)).1 (bent3 b (newC b)).2.1 (two6a b (newC b))).length _ 0 0 rfl (by omega) rfl (by change _ < 399; omega)).trans ?_
    conv => lhs; whnf
    conv => lhs; arg 1; whnf
    refine bnd_g (by omega) ?_
    conv => lhs; whnf
    refine br_c (fun h3 => ?_) (fun h3 => ?_)
    · have h3' := bnt h3
      have e0 : concF (bent3 b (newC b)).1 (bent3 b (newC b)).2.1 = [] := by unfold concF; rw [h3']; rfl
      conv => lhs; whnf
      refine okB ?_
      rw [e0]
      rfl
    · have h3' := bnf h3
      have hbl := isCtx_len h3'
      have hsum := stab_sum h3'
      have hsh := shlI_nat (n := (bent3 b (newC b)).2.1.length) hbl.1
      conv => lhs; whnf
      conv => lhs; arg 1; whnf
      refine bnd_g (by omega) ?_
      conv => lhs; whnf
      refine (l3_lawStable (bent3 b (newC b)).1 (bent3 b (newC b)).2.1 (by omega) (concF (bent3 b (newC b)).1 (bent3 b (newC b)).2.1).length hc _ (concF (bent3 b (newC b)).1 (bent3 b (newC b)).2.1).length _ 0 0 0 rfl (by omega) rfl (by change _ < 399; omega) (by omega) (by omega)).trans ?_
      conv => lhs; whnf
      rw [wrapu (n := ((bent3 b (newC b)).2.1.length : Int)) (by omega) (by omega)]
      refine br_f (df (by omega)) ?_
      conv => lhs; whnf
      refine okB ?_
      rw [hsum]
      exact beq_iff_eq.2 hsh.symm
theorem ok_lawStable : FnOk Tryd.prog 4 K_lawStable := by
  refine fn_ok (fn := Tryd.f4) (k := Tryd.f4.ntmps) (E := E_lawStable) (facts_of (List.forall_mem_cons.2 ⟨ok_bigL, List.forall_mem_cons.2 ⟨ok_drawMostStable, List.forall_mem_cons.2 ⟨ok_drawStabilityOf, List.forall_mem_cons.2 ⟨ok_implMostStable, List.forall_mem_cons.2 ⟨ok_specMostStable, List.forall_mem_cons.2 ⟨ok_implStability, List.forall_mem_cons.2 ⟨ok_specStability, List.forall_mem_cons.2 ⟨ok_implSeparation, List.forall_mem_cons.2 ⟨ok_specSeparation, List.forall_mem_cons.2 ⟨ok_implGeneratorsOf, List.forall_mem_cons.2 ⟨ok_specGeneratorsOf, List.forall_mem_cons.2 ⟨ok_sameInts, List.forall_mem_cons.2 ⟨ok_specConcepts, List.forall_mem_cons.2 ⟨ok_specClosureOf, List.forall_mem_cons.2 ⟨ok_specIsSubset, List.forall_mem_cons.2 ⟨ok_specIsContext, List.forall_mem_nil _⟩⟩⟩⟩⟩⟩⟩⟩⟩⟩⟩⟩⟩⟩⟩⟩)) (by kernel_rfl) rfl (by decide +kernel) (by decide +kernel) ?_
  intro avs hin r h
  unfold K_lawStable at h
  split at h
  · obtain ⟨hp, rfl⟩ := gd_o h
    exact ⟨_, ev_lawStable _ hp, rfl⟩
  · cases h

end Go.Sym
