/- Functions of the program, each told as a plain equation. -/
import Derived.Test.YtdkcdkjdljflbaaGreatDoorSymO2
namespace Go.Sym
open Go.Proofs
set_option linter.unusedVariables false
set_option linter.unusedSimpArgs false
set_option maxRecDepth 100000
set_option maxHeartbeats 4000000

/- impl.nextModel -/
def K_nextModel : List AV → List Ob → Option (AV × List Ob)
  | [.int .i64 n, .lst (.pair (.int .i64) (.int .i64)) R, .int .i64 s], [] => gd ((0 ≤ n ∧ n ≤ 6) ∧ R.length ≤ 64 ∧ R.any badR = false ∧ (0 ≤ s ∧ s ≤ 63)) (.tup [.int .i64 (nmX n R s), .bool (nmK n R s)], [])
  | _, _ => none
@[reducible] def E_nextModel : Env := mkE (tb [(147, K_allSets), (163, K_beforeSet), (164, K_closedBy)]) (fun f => false) (fun r => bif r == 2 then ([1, 2, 11, 12, 13], [6, 7]) else ([], []))
theorem lp_nextModel (R : List (Int × Int)) (hR : R.length ≤ 64) (hb : R.any badR = false) (a : Nat) (ha : a < 64) (L : List Nat) (hL : ∀ x ∈ L, x < 64) (hn0 : L.length ≤ 64) (k : AX → S → Option (AV × List Ob)) (d : Nat) : ∀ (n i : Nat) (x : Int), L.length - i = d → i ≤ L.length → x = i → d < n →
    lpAt E_nextModel (lp E_nextModel 0 n) 0 (loopAt Tryz.f137 0) (mkS [1, 2, 11, 12, 13] [.lst (.pair (.int .i64) (.int .i64)) R, .int .i64 (a : Int), .own 0, .int .i64 (castN L).length, .int .i64 x] [some (.row 3 (.int .i64) (castN L))]) k =
      match (L.drop i).find? (modB R a) with
      | some y => k .ret (mkS [6, 7] [.int .i64 (y : Int), .bool true] [])
      | none => k (.exit 0) (mkS [6, 7] [.any, .any] []) := by
  have hlen : (castN L).length = L.length := by simp [castN]
  induction d with
  | zero =>
    intro n i x hd hi hx hn
    subst hx
    rw [List.drop_of_length_le (by omega), lpAt_def]
    conv => lhs; whnf
    refine br_f (df (by omega)) ?_
    conv => lhs; whnf
    rfl
  | succ d ih =>
    intro n i x hd hi hx hn
    obtain ⟨n, rfl⟩ : ∃ m, n = m + 1 := ⟨n - 1, by omega⟩
    subst hx
    have hih := ih n (i + 1) (IntKind.i64.wrap ((i : Int) + 1)) (by omega) (by omega) (by rw [wrap64 (n := (i : Int) + 1) (by omega) (by omega)]; simp) (by omega)
    clear ih
    have hx := hL _ (mem_getD (l := L) (i := i) (d := 0) (by omega))
    have hg := castN_getD (L := L) (i := i) (by omega)
    have hs8 : isSet 8 ((L.getD i 0 : Nat) : Int) = true := by rw [isSet8]; exact dt (by omega)
    have e1 : lecB (a : Int) ((castN L).getD (i : Int).toNat (ET.int .i64).dft) = lecN a (L.getD i 0) := by
      rw [← lecB_nat ha hx]
      exact congrArg (lecB (a : Int)) hg
    have e2 : (bif !R.any badR && isSet 8 ((castN L).getD (i : Int).toNat (ET.int .i64).dft) then clR R ((castN L).getD (i : Int).toNat (ET.int .i64).dft) else (castN L).getD (i : Int).toNat (ET.int .i64).dft) = clR R ((L.getD i 0 : Nat) : Int) := by
      have : (castN L).getD (i : Int).toNat (ET.int .i64).dft = ((L.getD i 0 : Nat) : Int) := hg
      rw [this, hb, hs8]
      rfl
    rw [getD_drop (l := L) (i := i) (d := 0) (by omega), List.find?_cons, lpAt_def]
    conv => lhs; whnf
    refine br_t (dt (by omega)) ?_
    conv => lhs; whnf
    refine br_t (dt2 (by omega) (by omega)) ?_
    conv => lhs; whnf
    refine br_t (dt (by omega)) ?_
    conv => lhs; whnf
    conv => lhs; arg 1; whnf
    refine bnd_g (by exact True.intro) ?_
    conv => lhs; whnf
    repeat ((first | with_reducible apply br_tt | with_reducible apply br_ff | with_reducible apply br_nf | with_reducible apply br_nt | with_reducible refine br_d ?_ (by kernel_rfl)); conv => lhs; whnf)
    refine br_c (fun h => ?_) (fun h => ?_)
    · have h' : lecN a (L.getD i 0) = true := e1.symm.trans h
      conv => lhs; whnf
      repeat ((first | with_reducible apply br_tt | with_reducible apply br_ff | with_reducible apply br_nf | with_reducible apply br_nt | with_reducible refine br_d ?_ (by kernel_rfl) | with_reducible apply br_t h | with_reducible apply br_f h); conv => lhs; whnf)
      conv => lhs; arg 1; whnf
      refine bnd_g (by omega) ?_
      conv => lhs; whnf
      repeat ((first | with_reducible apply br_tt | with_reducible apply br_ff | with_reducible apply br_nf | with_reducible apply br_nt | with_reducible refine br_d ?_ (by kernel_rfl) | with_reducible apply br_t h | with_reducible apply br_f h); conv => lhs; whnf)
      refine br_c (fun h2 => ?_) (fun h2 => ?_)
      · have h2' : (clR R ((L.getD i 0 : Nat) : Int) == ((L.getD i 0 : Nat) : Int)) = true := by
          have h2 : ((bif !R.any badR && isSet 8 ((castN L).getD (i : Int).toNat (ET.int .i64).dft) then clR R ((castN L).getD (i : Int).toNat (ET.int .i64).dft) else (castN L).getD (i : Int).toNat (ET.int .i64).dft) == (castN L).getD (i : Int).toNat (ET.int .i64).dft) = true := h2
          rw [e2] at h2
          rw [← h2]
          exact congrArg (fun z => clR R ((L.getD i 0 : Nat) : Int) == z) hg.symm
        have hm : modB R a (L.getD i 0) = true := by unfold modB; rw [h', h2']; rfl
        rw [hm]
        conv => lhs; whnf
        exact congrArg (fun z => k .ret (mkS [6, 7] [.int .i64 z, .bool true] [])) hg
      · have h2' : (clR R ((L.getD i 0 : Nat) : Int) == ((L.getD i 0 : Nat) : Int)) = false := by
          have h2 : ((bif !R.any badR && isSet 8 ((castN L).getD (i : Int).toNat (ET.int .i64).dft) then clR R ((castN L).getD (i : Int).toNat (ET.int .i64).dft) else (castN L).getD (i : Int).toNat (ET.int .i64).dft) == (castN L).getD (i : Int).toNat (ET.int .i64).dft) = false := h2
          rw [e2] at h2
          rw [← h2]
          exact congrArg (fun z => clR R ((L.getD i 0 : Nat) : Int) == z) hg.symm
        have hm : modB R a (L.getD i 0) = false := by unfold modB; rw [h', h2']; rfl
        rw [hm]
        conv => lhs; whnf
        exact hih
    · have h' : lecN a (L.getD i 0) = false := e1.symm.trans h
      have hm : modB R a (L.getD i 0) = false := by unfold modB; rw [h']; rfl
      rw [hm]
      conv => lhs; whnf
      repeat ((first | with_reducible apply br_tt | with_reducible apply br_ff | with_reducible apply br_nf | with_reducible apply br_nt | with_reducible refine br_d ?_ (by kernel_rfl) | with_reducible apply br_t h | with_reducible apply br_f h); conv => lhs; whnf)
      exact hih
theorem ev_nextModel (n : Int) (R : List (Int × Int)) (s : Int) (hp : (0 ≤ n ∧ n ≤ 6) ∧ R.length ≤ 64 ∧ R.any badR = false ∧ (0 ≤ s ∧ s ≤ 63)) : evF E_nextModel (80) Tryz.f137 [.int .i64 n, .lst (.pair (.int .i64) (.int .i64)) R, .int .i64 s] [] = some (.tup [.int .i64 (nmX n R s), .bool (nmK n R s)], []) := by
  obtain ⟨h1, h2, h3, h4⟩ := hp
  obtain ⟨a, rfl⟩ : ∃ a : Nat, s = a := ⟨s.toNat, by omega⟩
  have hpw := pow64 (n := n.toNat) (by omega)
  have hll := lecL_length n.toNat
  conv => lhs; whnf
  conv => lhs; arg 1; whnf
  refine bnd_g (by exact h1) ?_
  conv => lhs; whnf
  refine (lp_nextModel R h2 h3 a (by omega) (lecL n.toNat) (fun x hx => by have := (lecL_mem (n := n.toNat) (by omega)).1 hx; omega) (by omega) _ (lecL n.toNat).length _ 0 0 rfl (Nat.zero_le _) rfl (by change _ < 79; omega)).trans ?_
  rw [List.drop_zero]
  unfold nmX nmK nmV nmO
  rw [Int.toNat_natCast]
  cases hf : (lecL n.toNat).find? (modB R a) with
  | none =>
    conv => lhs; whnf
    rfl
  | some y =>
    conv => lhs; whnf
    rfl
theorem ok_nextModel : FnOk Tryz.prog 137 K_nextModel := by
  refine fn_ok (fn := Tryz.f137) (k := Tryz.f137.ntmps) (E := E_nextModel) (facts_of (List.forall_mem_cons.2 ⟨ok_allSets, List.forall_mem_cons.2 ⟨ok_beforeSet, List.forall_mem_cons.2 ⟨ok_closedBy, List.forall_mem_nil _⟩⟩⟩)) (by kernel_rfl) rfl (by decide +kernel) (by decide +kernel) ?_
  intro avs hin r h
  unfold K_nextModel at h
  split at h
  · obtain ⟨hp, rfl⟩ := gd_o h
    exact ⟨_, ev_nextModel _ _ _ hp, rfl⟩
  · cases h

/- impl.HoldsIn -/
def K_holdsIn : List AV → List Ob → Option (AV × List Ob)
  | [.agg [.int .i64 m, .lst (.int .i64) b], .agg [.int .i64 p, .int .i64 q]], [] => gd (b.length ≤ 1048576) (.bool (holdB m b p q), [])
  | _, _ => none
@[reducible] def E_holdsIn : Env := mkE (tb [(51, K_areAttributes), (119, K_implClosureOf), (91, K_inSet)]) (fun f => false) (fun r => ([], []))
theorem ev_holdsIn (m : Int) (b : List Int) (p q : Int) (hp : b.length ≤ 1048576) : evF E_holdsIn (1) Tryz.f138 [.agg [.int .i64 m, .lst (.int .i64) b], .agg [.int .i64 p, .int .i64 q]] [] = some (.bool (holdB m b p q), []) := by
  conv => lhs; whnf
  conv => lhs; arg 1; whnf
  refine bnd_g (by omega) ?_
  conv => lhs; whnf
  refine br_c (fun h => ?_) (fun h => ?_)
  · have hc := (Bool.and_eq_true_iff.1 h).1
    conv => lhs; whnf
    repeat ((first | with_reducible apply br_tt | with_reducible apply br_ff | with_reducible apply br_nf | with_reducible apply br_nt | with_reducible refine br_d ?_ (by kernel_rfl) | with_reducible apply br_t h | with_reducible apply br_f h); conv => lhs; whnf)
    conv => lhs; arg 1; whnf
    refine bnd_g (by omega) ?_
    conv => lhs; whnf
    repeat ((first | with_reducible apply br_tt | with_reducible apply br_ff | with_reducible apply br_nf | with_reducible apply br_nt | with_reducible refine br_d ?_ (by kernel_rfl) | with_reducible apply br_t h | with_reducible apply br_f h); conv => lhs; whnf)
    refine br_c (fun h2 => ?_) (fun h2 => ?_)
    · have hq := (Bool.and_eq_true_iff.1 h2).2
      conv => lhs; whnf
      repeat ((first | with_reducible apply br_tt | with_reducible apply br_ff | with_reducible apply br_nf | with_reducible apply br_nt | with_reducible refine br_d ?_ (by kernel_rfl) | with_reducible apply br_t h | with_reducible apply br_f h | with_reducible apply br_t h2 | with_reducible apply br_f h2); conv => lhs; whnf)
      conv => lhs; arg 1; whnf
      refine bnd_g (by omega) ?_
      conv => lhs; whnf
      repeat ((first | with_reducible apply br_tt | with_reducible apply br_ff | with_reducible apply br_nf | with_reducible apply br_nt | with_reducible refine br_d ?_ (by kernel_rfl) | with_reducible apply br_t h | with_reducible apply br_f h | with_reducible apply br_t h2 | with_reducible apply br_f h2); conv => lhs; whnf)
      conv => lhs; arg 1; whnf
      refine bnd_g (by exact True.intro) ?_
      conv => lhs; whnf
      repeat ((first | with_reducible apply br_tt | with_reducible apply br_ff | with_reducible apply br_nf | with_reducible apply br_nt | with_reducible refine br_d ?_ (by kernel_rfl) | with_reducible apply br_t h | with_reducible apply br_f h | with_reducible apply br_t h2 | with_reducible apply br_f h2); conv => lhs; whnf)
      refine okB ?_
      unfold holdB
      rw [h, hq, cond_true, Bool.true_and, Bool.true_and]
    · have h2' : (isCtx m b && isSet m q) = false := h2
      rw [hc, Bool.true_and] at h2'
      conv => lhs; whnf
      repeat ((first | with_reducible apply br_tt | with_reducible apply br_ff | with_reducible apply br_nf | with_reducible apply br_nt | with_reducible refine br_d ?_ (by kernel_rfl) | with_reducible apply br_t h | with_reducible apply br_f h | with_reducible apply br_t h2 | with_reducible apply br_f h2); conv => lhs; whnf)
      refine okB ?_
      unfold holdB
      rw [h2', Bool.false_and, Bool.and_false]
  · have h' : (isCtx m b && isSet m p) = false := h
    conv => lhs; whnf
    repeat ((first | with_reducible apply br_tt | with_reducible apply br_ff | with_reducible apply br_nf | with_reducible apply br_nt | with_reducible refine br_d ?_ (by kernel_rfl) | with_reducible apply br_t h | with_reducible apply br_f h); conv => lhs; whnf)
    refine okB ?_
    unfold holdB
    rw [h', Bool.false_and]
theorem ok_holdsIn : FnOk Tryz.prog 138 K_holdsIn := by
  refine fn_ok (fn := Tryz.f138) (k := Tryz.f138.ntmps) (E := E_holdsIn) (facts_of (List.forall_mem_cons.2 ⟨ok_areAttributes, List.forall_mem_cons.2 ⟨ok_implClosureOf, List.forall_mem_cons.2 ⟨ok_inSet, List.forall_mem_nil _⟩⟩⟩)) (by kernel_rfl) rfl (by decide +kernel) (by decide +kernel) ?_
  intro avs hin r h
  unfold K_holdsIn at h
  split at h
  · obtain ⟨hp, rfl⟩ := gd_o h
    exact ⟨_, ev_holdsIn _ _ _ _ hp, rfl⟩
  · cases h

/- slices.IndexFunc[[]int,int] -/
def K_idx_explCex : List AV → List Ob → Option (AV × List Ob)
  | [.lst (.int .i64) a, .clo 140 [.vptr [.int .i64 p] 0, .vptr [.int .i64 q] 0]], [] => gd (a.length < 4611686018427387904 ∧ True) (.int .i64 (firstI (cexB p q) a 0), [])
  | _, _ => none
@[reducible] def E_idx_explCex : Env := mkE (tb [(140, K_explCex)]) (fun f => false) (fun r => bif r == 2 then ([0, 1, 7, 8], [4]) else ([], []))
theorem lp_idx_explCex (a : List Int) (p q : Int) (ht : True) (ha : a.length < 4611686018427387904) (k : AX → S → Option (AV × List Ob)) (d : Nat) : ∀ (n i : Nat) (x : Int), a.length - i = d → i ≤ a.length → x = i → d < n →
    lpAt E_idx_explCex (lp E_idx_explCex 0 n) 0 (loopAt Tryz.f139 0) (mkS [0, 1, 7, 8] [.lst (.int .i64) a, .clo 140 [.vptr [.int .i64 p] 0, .vptr [.int .i64 q] 0], .int .i64 a.length, .int .i64 x] []) k =
      if (a.drop i).any (cexB p q) then k .ret (mkS [4] [.int .i64 (firstI (cexB p q) (a.drop i) i)] []) else k (.exit 0) (mkS [4] [.any] []) := by
  induction d with
  | zero =>
    intro n i x hd hi hx hn
    subst hx
    rw [lpAt_def]
    conv => lhs; whnf
    refine br_f (df (by omega)) ?_
    conv => lhs; whnf
    rw [List.drop_of_length_le (by omega)]
    simp
  | succ d ih =>
    intro n i x hd hi hx hn
    obtain ⟨n, rfl⟩ : ∃ m, n = m + 1 := ⟨n - 1, by omega⟩
    subst hx
    rw [lpAt_def]
    conv => lhs; whnf
    refine br_t (dt (by omega)) ?_
    conv => lhs; whnf
    refine br_t (dt2 (by omega) (by omega)) ?_
    conv => lhs; whnf
    conv => lhs; arg 1; whnf
    refine bnd_g (by exact True.intro) ?_
    conv => lhs; whnf
    rw [getD_drop (l := a) (i := i) (d := 0) (by omega)]
    refine br_c (fun h => ?_) (fun h => ?_)
    · have h' : (cexB p q) (a.getD i 0) = true := h
      conv => lhs; whnf
      rw [if_pos (by rw [List.any_cons, h', Bool.true_or])]
      rw [firstI, h', cond_true]
    · have h' : (cexB p q) (a.getD i 0) = false := h
      conv => lhs; whnf
      rw [ih n (i + 1) _ (by omega) (by omega) (by rw [wrap64 (by omega) (by omega)]; simp) (by omega)]
      rw [List.any_cons, h', Bool.false_or, firstI, h', cond_false]
      rfl
theorem ev_idx_explCex (a : List Int) (p q : Int) (hp : a.length < 4611686018427387904 ∧ True) : evF E_idx_explCex (a.length + 2) Tryz.f139 [.lst (.int .i64) a, .clo 140 [.vptr [.int .i64 p] 0, .vptr [.int .i64 q] 0]] [] = some (.int .i64 (firstI (cexB p q) a 0), []) := by
  conv => lhs; whnf
  refine (lp_idx_explCex a p q hp.2 hp.1 _ a.length _ 0 0 rfl (by omega) rfl (by omega)).trans ?_
  simp only [List.drop_zero]
  split
  · conv => lhs; whnf
    rfl
  · rename_i he
    conv => lhs; whnf
    have : firstI (cexB p q) a 0 = -1 := firstI_none (cexB p q) a 0 (by simpa using he)
    rw [this]
theorem ok_idx_explCex : FnOk Tryz.prog 139 K_idx_explCex := by
  refine fn_ok (fn := Tryz.f139) (k := Tryz.f139.ntmps) (E := E_idx_explCex) (facts_of (List.forall_mem_cons.2 ⟨ok_explCex, List.forall_mem_nil _⟩)) (by kernel_rfl) rfl (by decide +kernel) (by decide +kernel) ?_
  intro avs hin r h
  unfold K_idx_explCex at h
  split at h
  · obtain ⟨hp, rfl⟩ := gd_o h
    exact ⟨_, ev_idx_explCex _ _ _ hp, rfl⟩
  · cases h

/- impl.Explore -/
def K_implExplore : List AV → List Ob → Option (AV × List Ob)
  | [.agg [.int .i64 m, .lst (.int .i64) B], .lst (.int .i64) []], [] => gd (B.length ≤ 1048576) (.tup [.agg [.own 0, .own 1, .int .i64 (explM m B), .own 2], .bool (isCtx m B)], [.row 97 (.pair (.pair (.int .i64) (.int .i64)) (.pair .bool (.int .i64))) (explF m B).2.2, .row 48 (.pair (.int .i64) (.int .i64)) (explF m B).2.1, .row 3 (.int .i64) (explF m B).1])
  | _, _ => none
@[reducible] def E_implExplore : Env := mkE (tb [(80, K_implIsContext), (102, K_implFullSet), (119, K_implClosureOf), (137, K_nextModel), (138, K_holdsIn), (139, K_idx_explCex)]) (fun f => false) (fun r => bif r == 3 then ([1, 2, 4, 6, 16, 17, 18], [2, 4, 5, 6]) else bif r == 12 then ([2, 4, 6, 9], [2, 4, 6, 9]) else ([], []))
set_option maxHeartbeats 40000000 in
theorem lp_implExplore (m : Int) (B : List Int) (k : AX → S → Option (AV × List Ob)) (d : Nat) : ∀ (n a : Nat) (ex : List Int) (R : List (Int × Int)) (Q : QL), ExI m B a ex R → (64 - brev 6 a) + (8 - ex.length) ≤ d → d < n → Q.length + d ≤ 200 →
    lpAt E_implExplore (lp E_implExplore 0 n) 0 (loopAt Tryz.f94 1) (mkS [2, 4, 6, 9] [.ptr 0 0, .ptr 1 0, .ptr 5 0, .ptr 9 0] [some (.box 26 [.int .i64 m, .lst (.int .i64) B]), some (.box 60 [.own 2, .own 3, .int .i64 0, .own 4]), some (.row 97 (.pair (.pair (.int .i64) (.int .i64)) (.pair .bool (.int .i64))) []), some (.row 48 (.pair (.int .i64) (.int .i64)) []), some (.row 3 (.int .i64) []), some (.box 60 [.own 6, .own 7, .int .i64 m, .own 8]), some (.row 97 (.pair (.pair (.int .i64) (.int .i64)) (.pair .bool (.int .i64))) Q), some (.row 48 (.pair (.int .i64) (.int .i64)) R), some (.row 3 (.int .i64) ex), some (.box 3 [.int .i64 (a : Int)])]) k =
      k (.exit 2) (mkS [2, 4, 6, 9] [.ptr 0 0, .ptr 1 0, .ptr 5 0, .ptr 9 0] [some (.box 26 [.int .i64 m, .lst (.int .i64) B]), some (.box 60 [.own 2, .own 3, .int .i64 0, .own 4]), some (.row 97 (.pair (.pair (.int .i64) (.int .i64)) (.pair .bool (.int .i64))) []), some (.row 48 (.pair (.int .i64) (.int .i64)) []), some (.row 3 (.int .i64) []), some (.box 60 [.own 6, .own 7, .int .i64 m, .own 8]), some (.row 97 (.pair (.pair (.int .i64) (.int .i64)) (.pair .bool (.int .i64))) (exR m B d a ex R Q).2.2), some (.row 48 (.pair (.int .i64) (.int .i64)) (exR m B d a ex R Q).2.1), some (.row 3 (.int .i64) (exR m B d a ex R Q).1), some (.box 3 [.int .i64 (fullSet m)])]) := by
  induction d with
  | zero =>
    intro n a ex R Q hI hd hn hq
    have := hI.pos
    omega
  | succ d ih =>
    intro n a ex R Q hI hd hn hq
    obtain ⟨n, rfl⟩ : ∃ m, n = m + 1 := ⟨n - 1, by omega⟩
    have hl := isCtx_len hI.ctx
    have hpw := pow64 (n := m.toNat) (by omega)
    have hlt := hI.lt
    have hpos := hI.pos
    have hexl := hI.exlen
    have hRl := hI.len
    have hce := hI.ctxe
    have hcl := (cl_clo hce).lt a hlt
    have hset := set_of_lt hce hlt
    have hci : (bif isCtx m ex && isSet m (a : Int) then intentF m ex (extF ex (a : Int)) else 0) = ((clN m ex a : Nat) : Int) := by
      rw [hce, hset, Bool.and_self, cond_true]
      exact clN_int hce (by omega)
    rw [exR, lpAt_def]
    conv => lhs; whnf
    conv => lhs; arg 1; whnf
    refine bnd_g (by exact True.intro) ?_
    conv => lhs; whnf
    repeat ((first | with_reducible apply br_tt | with_reducible apply br_ff | with_reducible apply br_nf | with_reducible apply br_nt | with_reducible refine br_d ?_ (by kernel_rfl)); conv => lhs; whnf)
    refine br_c (fun h => ?_) (fun h => ?_)
    · have h1 : ((a : Int) == fullSet m) = false := by
        have h : ((a : Int) != fullSet m) = true := h
        rw [bne, Bool.not_eq_true'] at h
        exact h
      have hf : ¬ (a : Int) = fullSet m := by simpa using h1
      conv => lhs; whnf
      conv => lhs; arg 1; whnf
      refine bnd_g (by omega) ?_
      conv => lhs; whnf
      refine br_c (fun h2 => ?_) (fun h2 => ?_)
      · have h2' : ((a : Int) == ((clN m ex a : Nat) : Int)) = true := by
          have h2 : ((a : Int) == (bif isCtx m ex && isSet m (a : Int) then intentF m ex (extF ex (a : Int)) else 0)) = true := h2
          rw [hci] at h2
          exact h2
        have g := hI.move hf
        have g1 := g.1
        have g2 := g.2.1
        have g3 := g.2.2
        have hih := ih n (nmV m.toNat R a) ex R Q g2 (by omega) (by omega) (by omega)
        conv => rhs; rw [h1, cond_false, h2', cond_true]
        conv => lhs; whnf
        conv => lhs; arg 1; whnf
        refine bnd_g (by exact ⟨⟨by omega, by omega⟩, by omega, RSet_bad hI.rset, by omega, by omega⟩) ?_
        conv => lhs; whnf
        exact hih
      · have h2' : ((a : Int) == ((clN m ex a : Nat) : Int)) = false := by
          have h2 : ((a : Int) == (bif isCtx m ex && isSet m (a : Int) then intentF m ex (extF ex (a : Int)) else 0)) = false := h2
          rw [hci] at h2
          exact h2
        have hne : ¬ (a : Int) = ((clN m ex a : Nat) : Int) := by simpa using h2'
        have hh := hold_cex hI.ctx hlt hcl
        conv => lhs; whnf
        conv => lhs; arg 1; whnf
        refine bnd_g (by omega) ?_
        conv => lhs; whnf
        refine br_c (fun h3 => ?_) (fun h3 => ?_)
        · have h3' : decide (cexF B a (clN m ex a : Nat) ≥ 0) = false := by
            have h3 : holdB m B (a : Int) (bif isCtx m ex && isSet m (a : Int) then intentF m ex (extF ex (a : Int)) else 0) = true := h3
            rw [hci, hh] at h3
            exact bnt h3
          have g := hI.accept hf hne (ofn h3')
          have g1 := g.1
          have g2 := g.2.1
          have g3 := g.2.2
          have g4 := g2.len
          have g5 := RSet_bad g2.rset
          have hih := ih n (nmV m.toNat (R ++ [((a : Int), ((clN m ex a : Nat) : Int))]) a) ex _ (Q ++ [(((a : Int), ((clN m ex a : Nat) : Int)), true, -1)]) g2 (by omega) (by omega) (by simp only [List.length_append, List.length_singleton]; omega)
          rw [← hci] at hih g4 g5
          conv => rhs; rw [h1, cond_false, h2', cond_false, h3', cond_false, ← hci]
          conv => lhs; whnf
          refine br_t (dt (by simp [room]; omega)) ?_
          conv => lhs; whnf
          conv => lhs; arg 1; whnf
          refine bnd_g (by exact ⟨⟨by omega, by omega⟩, Nat.le_trans g4 (by omega), g5, by omega, by omega⟩) ?_
          conv => lhs; whnf
          refine br_t (dt (by simp [room]; omega)) ?_
          conv => lhs; whnf
          exact hih
        · have h3' : decide (cexF B a (clN m ex a : Nat) ≥ 0) = true := by
            have h3 : holdB m B (a : Int) (bif isCtx m ex && isSet m (a : Int) then intentF m ex (extF ex (a : Int)) else 0) = false := h3
            rw [hci, hh] at h3
            exact bnf h3
          have g := hI.counter (ofd h3')
          have g1 := g.1
          have g2 := g.2
          have g0 := ofd h3'
          have hih := ih n a _ R (Q ++ [(((a : Int), ((clN m ex a : Nat) : Int)), false, cexF B a (clN m ex a : Nat))]) g2 (by have := g2.exlen; simp only [List.length_append, List.length_singleton] at this ⊢; omega) (by omega) (by simp only [List.length_append, List.length_singleton]; omega)
          rw [← hci] at hih g0 g1
          conv => rhs; rw [h1, cond_false, h2', cond_false, h3', cond_true, ← hci]
          conv => lhs; whnf
          conv => lhs; arg 1; whnf
          refine bnd_g (by exact ⟨by omega, True.intro⟩) ?_
          conv => lhs; whnf
          refine br_t (dt2 g0 (by unfold cexF at g1; omega)) ?_
          conv => lhs; whnf
          refine br_t (dt (by simp [room]; omega)) ?_
          conv => lhs; whnf
          repeat ((first | with_reducible apply br_tt | with_reducible apply br_ff | with_reducible apply br_nf | with_reducible apply br_nt | with_reducible refine br_d ?_ (by kernel_rfl)); conv => lhs; whnf)
          refine br_t (dt (by simp [room]; omega)) ?_
          conv => lhs; whnf
          exact hih
    · have h1 : ((a : Int) == fullSet m) = true := by
        have h : ((a : Int) != fullSet m) = false := h
        rw [bne, Bool.not_eq_false'] at h
        exact h
      have hf : (a : Int) = fullSet m := by simpa using h1
      conv => rhs; rw [h1, cond_true, ← hf]
      conv => lhs; whnf
theorem ev_implExplore (m : Int) (B : List Int) (hp : B.length ≤ 1048576) : evF E_implExplore (100) Tryz.f94 [.agg [.int .i64 m, .lst (.int .i64) B], .lst (.int .i64) []] [] = some (.tup [.agg [.own 0, .own 1, .int .i64 (explM m B), .own 2], .bool (isCtx m B)], [.row 97 (.pair (.pair (.int .i64) (.int .i64)) (.pair .bool (.int .i64))) (explF m B).2.2, .row 48 (.pair (.int .i64) (.int .i64)) (explF m B).2.1, .row 3 (.int .i64) (explF m B).1]) := by
  conv => lhs; whnf
  rw [lpAt_def]
  conv => lhs; whnf
  refine br_f (by rfl) ?_
  conv => lhs; whnf
  conv => lhs; arg 1; whnf
  refine bnd_g (by omega) ?_
  conv => lhs; whnf
  unfold explF explM
  refine br_c (fun h => ?_) (fun h => ?_)
  · conv => rhs; rw [bnt h]
    conv => lhs; whnf
    rfl
  · have hc := bnf h
    have hI := ExI.start hc
    have hpos := hI.pos
    conv => rhs; rw [hc, cond_true]
    conv => lhs; whnf
    refine (lp_implExplore m B _ 80 _ 0 [] [] [] hI (by simp only [List.length_nil]; omega) (by change _ < 99; omega) (by simp)).trans ?_
    conv => lhs; whnf
    rfl
theorem ok_implExplore : FnOk Tryz.prog 94 K_implExplore := by
  refine fn_ok (fn := Tryz.f94) (k := Tryz.f94.ntmps) (E := E_implExplore) (facts_of (List.forall_mem_cons.2 ⟨ok_implIsContext, List.forall_mem_cons.2 ⟨ok_implFullSet, List.forall_mem_cons.2 ⟨ok_implClosureOf, List.forall_mem_cons.2 ⟨ok_nextModel, List.forall_mem_cons.2 ⟨ok_holdsIn, List.forall_mem_cons.2 ⟨ok_idx_explCex, List.forall_mem_nil _⟩⟩⟩⟩⟩⟩)) (by kernel_rfl) rfl (by decide +kernel) (by decide +kernel) ?_
  intro avs hin r h
  unfold K_implExplore at h
  split at h
  · obtain ⟨hp, rfl⟩ := gd_o h
    exact ⟨_, ev_implExplore _ _ hp, rfl⟩
  · cases h

end Go.Sym
