/- Functions of the program, each told as a plain equation. -/
import Derived.Test.YtdkcdkjdljflbaaGreatDoorSymW3
namespace Go.Sym
open Go.Proofs
set_option linter.unusedVariables false
set_option linter.unusedSimpArgs false
set_option maxRecDepth 100000
set_option maxHeartbeats 4000000

/- spec.l10Pseudo -/
def K_specPseudo : List AV → List Ob → Option (AV × List Ob)
  | [.agg [.int .i64 m, .lst (.int .i64) b]], [] => gd (isCtx m b = true) (.own 0, [.row 3 (.int .i64) (stemI m b)])
  | _, _ => none
@[reducible] def E_specPseudo : Env := mkE (tb [(103, K_specFullSet), (70, K_specClosure), (153, K_specSortLectic)]) (fun f => false) (fun r => bif r == 3 then ([1, 3, 4], [1, 3, 4, 5]) else bif r == 8 then ([1, 3, 4, 5, 6], [1, 3, 4, 5]) else ([], []))
theorem lq_specPseudo (m : Int) (b : List Int) (hc : isCtx m b = true) (s : Int) (ys : List Int) (hy : ys.length ≤ 64) (hys : ∀ y ∈ ys, 0 ≤ y ∧ y ≤ 63) (k : AX → S → Option (AV × List Ob)) (d : Nat) : ∀ (n i : Nat) (x : Int) (f : Bool), ys.length - i = d → i ≤ ys.length → x = i → d < n →
    lpAt E_specPseudo (lp E_specPseudo 0 n) 0 (loopAt Tryz.f120 1) (mkS [1, 3, 4, 5, 6] [.ptr 0 0, .own 1, .int .i64 s, .bool f, .int .i64 x] [some (.box 26 [.int .i64 m, .lst (.int .i64) b]), some (.row 3 (.int .i64) ys)]) k =
      k (.exit 2) (mkS [1, 3, 4, 5] [.ptr 0 0, .own 1, .int .i64 s, .bool (f && (ys.drop i).all (fineP m b s))] [some (.box 26 [.int .i64 m, .lst (.int .i64) b]), some (.row 3 (.int .i64) ys)]) := by
  induction d with
  | zero =>
    intro n i x f hd hi hx hn
    subst hx
    rw [lpAt_def]
    conv => lhs; whnf
    refine br_f (df (by omega)) ?_
    conv => lhs; whnf
    rw [List.drop_of_length_le (by omega), List.all_nil, Bool.and_true]
  | succ d ih =>
    intro n i x f hd hi hx hn
    obtain ⟨n, rfl⟩ : ∃ m, n = m + 1 := ⟨n - 1, by omega⟩
    subst hx
    have hyi := hys _ (mem_getD (l := ys) (i := i) (d := 0) (by omega))
    rw [lpAt_def]
    conv => lhs; whnf
    refine br_t (dt (by omega)) ?_
    conv => lhs; whnf
    refine br_c (fun h => ?_) (fun h => ?_)
    · conv => lhs; whnf
      repeat ((first | with_reducible apply br_tt | with_reducible apply br_ff | with_reducible apply br_nf | with_reducible apply br_nt | with_reducible refine br_d ?_ (by kernel_rfl) | with_reducible apply br_t h | with_reducible apply br_f h | with_reducible refine br_t (dt2 (by omega) (by omega)) ?_ | with_reducible refine br_t (dt (by omega)) ?_); conv => lhs; whnf)
      refine br_c (fun h2 => ?_) (fun h2 => ?_)
      · have h2' : (band (ys.getD i 0) s != ys.getD i 0) = true := h2
        conv => lhs; whnf
        repeat ((first | with_reducible apply br_tt | with_reducible apply br_ff | with_reducible apply br_nf | with_reducible apply br_nt | with_reducible refine br_d ?_ (by kernel_rfl) | with_reducible apply br_t h | with_reducible apply br_f h | with_reducible apply br_t h2 | with_reducible apply br_f h2 | with_reducible refine br_t (dt2 (by omega) (by omega)) ?_ | with_reducible refine br_t (dt (by omega)) ?_); conv => lhs; whnf)
        refine Eq.trans (ih n (i + 1) _ _ (by omega) (by omega) (by rw [wrap64 (n := (i : Int) + 1) (by omega) (by omega)]; simp) (by omega)) ?_
        rw [getD_drop (l := ys) (i := i) (d := 0) (by omega), List.all_cons, h, Bool.true_and]
        unfold fineP
        rw [h2', Bool.true_or]
        rfl
      · have h2' : (band (ys.getD i 0) s != ys.getD i 0) = false := h2
        conv => lhs; whnf
        repeat ((first | with_reducible apply br_tt | with_reducible apply br_ff | with_reducible apply br_nf | with_reducible apply br_nt | with_reducible refine br_d ?_ (by kernel_rfl) | with_reducible apply br_t h | with_reducible apply br_f h | with_reducible apply br_t h2 | with_reducible apply br_f h2 | with_reducible refine br_t (dt2 (by omega) (by omega)) ?_ | with_reducible refine br_t (dt (by omega)) ?_); conv => lhs; whnf)
        conv => lhs; arg 1; whnf
        refine bnd_g (by exact ⟨hc, hyi.1, Int.le_trans hyi.2 (by decide)⟩) ?_
        conv => lhs; whnf
        repeat ((first | with_reducible apply br_tt | with_reducible apply br_ff | with_reducible apply br_nf | with_reducible apply br_nt | with_reducible refine br_d ?_ (by kernel_rfl) | with_reducible apply br_t h | with_reducible apply br_f h | with_reducible apply br_t h2 | with_reducible apply br_f h2 | with_reducible refine br_t (dt2 (by omega) (by omega)) ?_ | with_reducible refine br_t (dt (by omega)) ?_); conv => lhs; whnf)
        conv => lhs; arg 1; whnf
        refine bnd_g (by exact ⟨hc, hyi.1, Int.le_trans hyi.2 (by decide)⟩) ?_
        conv => lhs; whnf
        repeat ((first | with_reducible apply br_tt | with_reducible apply br_ff | with_reducible apply br_nf | with_reducible apply br_nt | with_reducible refine br_d ?_ (by kernel_rfl) | with_reducible apply br_t h | with_reducible apply br_f h | with_reducible apply br_t h2 | with_reducible apply br_f h2 | with_reducible refine br_t (dt2 (by omega) (by omega)) ?_ | with_reducible refine br_t (dt (by omega)) ?_); conv => lhs; whnf)
        refine Eq.trans (ih n (i + 1) _ _ (by omega) (by omega) (by rw [wrap64 (n := (i : Int) + 1) (by omega) (by omega)]; simp) (by omega)) ?_
        rw [getD_drop (l := ys) (i := i) (d := 0) (by omega), List.all_cons, h, Bool.true_and]
        conv => rhs; unfold fineP
        rw [h2', Bool.false_or]
        rfl
    · conv => lhs; whnf
      repeat ((first | with_reducible apply br_tt | with_reducible apply br_ff | with_reducible apply br_nf | with_reducible apply br_nt | with_reducible refine br_d ?_ (by kernel_rfl) | with_reducible apply br_t h | with_reducible apply br_f h | with_reducible refine br_t (dt2 (by omega) (by omega)) ?_ | with_reducible refine br_t (dt (by omega)) ?_); conv => lhs; whnf)
      refine Eq.trans (ih n (i + 1) _ _ (by omega) (by omega) (by rw [wrap64 (n := (i : Int) + 1) (by omega) (by omega)]; simp) (by omega)) ?_
      simp only [h, Bool.false_and]

theorem lp_specPseudo (m : Nat) (hm : m ≤ 6) (b : List Int) (hc : isCtx (m : Int) b = true) (k : AX → S → Option (AV × List Ob)) (d : Nat) : ∀ (n i : Nat) (x : Int) (L : List Nat), 2 ^ m - i = d → i ≤ 2 ^ m → x = i → d + 70 < n → L.length ≤ i → (∀ y ∈ L, y < i) →
    lpAt E_specPseudo (lp E_specPseudo 0 n) 0 (loopAt Tryz.f120 0) (mkS [1, 3, 4] [.ptr 0 0, .own 1, .int .i64 x] [some (.box 26 [.int .i64 (m : Int), .lst (.int .i64) b]), some (.row 3 (.int .i64) (castN L))]) k =
      k (.exit 0) (mkS [1, 3, 4, 5] [.ptr 0 0, .own 1, .int .i64 ((2 ^ m : Nat) : Int), .any] [some (.box 26 [.int .i64 (m : Int), .lst (.int .i64) b]), some (.row 3 (.int .i64) (castN (greedy (okS (clN (m : Int) b)) (List.range' i d) L)))]) := by
  have hp : 2 ^ m ≤ 2 ^ 6 := Nat.pow_le_pow_right (by omega) hm
  have hp1 := Nat.two_pow_pos m
  have hf := fullSet_nat hm
  induction d with
  | zero =>
    intro n i x L hd hi hx hn hz hL
    subst hx
    rw [lpAt_def]
    conv => lhs; whnf
    conv => lhs; arg 1; whnf
    refine bnd_g (by exact True.intro) ?_
    conv => lhs; whnf
    rw [hf]
    refine br_f (df (by omega)) ?_
    conv => lhs; whnf
    have : i = 2 ^ m := by omega
    rw [this]
    rfl
  | succ d ih =>
    intro n i x L hd hi hx hn hz hL
    obtain ⟨n, rfl⟩ : ∃ m, n = m + 1 := ⟨n - 1, by omega⟩
    subst hx
    have hcl := clN_int hc (s := i) (by omega)
    have e0 : (intentF (m : Int) b (extF b (i : Int)) == (i : Int)) = (clN (m : Int) b i == i) := by rw [hcl, Bool.eq_iff_iff, beq_iff_eq, beq_iff_eq]; omega
    have hlen : (castN L).length = L.length := List.length_map _
    have ea := all_fine hc (s := i) (by rw [Int.toNat_natCast]; omega) L (fun y hy => by have := hL y hy; rw [Int.toNat_natCast]; omega)
    have hsm : ∀ y ∈ castN L, 0 ≤ y ∧ y ≤ 63 := by
      intro y hy
      obtain ⟨z, hz, rfl⟩ := List.mem_map.1 hy
      have := hL z hz
      omega
    rw [lpAt_def, List.range'_succ, greedy]
    conv => lhs; whnf
    conv => lhs; arg 1; whnf
    refine bnd_g (by exact True.intro) ?_
    conv => lhs; whnf
    rw [hf]
    refine br_t (dt (by omega)) ?_
    conv => lhs; whnf
    conv => lhs; arg 1; whnf
    refine bnd_g (by exact ⟨hc, by omega, by omega⟩) ?_
    conv => lhs; whnf
    refine br_c (fun h => ?_) (fun h => ?_)
    · have h' : (intentF (m : Int) b (extF b (i : Int)) == (i : Int)) = true := h
      have e1 : okS (clN (m : Int) b) L i = false := by unfold okS; rw [← e0, h']; rfl
      conv => lhs; whnf
      refine Eq.trans (ih n (i + 1) _ _ (by omega) (by omega) (by rw [wrap64 (n := (i : Int) + 1) (by omega) (by omega)]; simp) (by omega) (by omega) (fun y hy => by have := hL y hy; omega)) ?_
      rw [e1, cond_false]
    · have h' : (intentF (m : Int) b (extF b (i : Int)) == (i : Int)) = false := h
      have e1 : okS (clN (m : Int) b) L i = (castN L).all (fineP (m : Int) b (i : Int)) := by rw [ea]; unfold okS; rw [← e0, h', Bool.not_false, Bool.true_and]
      conv => lhs; whnf
      refine (lq_specPseudo (m : Int) b hc (i : Int) (castN L) (by rw [hlen]; omega) hsm _ _ _ 0 0 true rfl (Nat.zero_le _) rfl (by rw [hlen]; omega)).trans ?_
      rw [Bool.true_and, List.drop_zero, ← e1]
      conv => lhs; whnf
      refine br_c (fun h2 => ?_) (fun h2 => ?_)
      · have h2' : okS (clN (m : Int) b) L i = true := h2
        conv => lhs; whnf
        refine br_t (dt (by rw [hlen]; simp [room]; omega)) ?_
        conv => lhs; whnf
        have e2 : castN L ++ [(i : Int)] = castN (L ++ [i]) := by unfold castN; rw [List.map_append]; rfl
        rw [e2]
        refine Eq.trans (ih n (i + 1) _ _ (by omega) (by omega) (by rw [wrap64 (n := (i : Int) + 1) (by omega) (by omega)]; simp) (by omega) (by simp; omega) (fun y hy => ?_)) ?_
        · rcases List.mem_append.1 hy with hy | hy
          · have := hL y hy; omega
          · have : y = i := by simpa using hy
            omega
        · rw [h2', cond_true]
      · have h2' : okS (clN (m : Int) b) L i = false := h2
        conv => lhs; whnf
        refine Eq.trans (ih n (i + 1) _ _ (by omega) (by omega) (by rw [wrap64 (n := (i : Int) + 1) (by omega) (by omega)]; simp) (by omega) (by omega) (fun y hy => by have := hL y hy; omega)) ?_
        rw [h2', cond_false]
theorem ev_specPseudo (m : Int) (b : List Int) (hp : isCtx m b = true) : evF E_specPseudo (300) Tryz.f120 [.agg [.int .i64 m, .lst (.int .i64) b]] [] = some (.own 0, [.row 3 (.int .i64) (stemI m b)]) := by
  have hlen := isCtx_len hp
  obtain ⟨mm, rfl⟩ : ∃ mm : Nat, m = mm := ⟨m.toNat, by omega⟩
  have hpw : 2 ^ mm ≤ 2 ^ 6 := Nat.pow_le_pow_right (by omega) (by omega)
  have hgl := greedy_len (okS (clN (mm : Int) b)) (List.range' 0 (2 ^ mm)) []
  have hcl : (castN (greedy (okS (clN (mm : Int) b)) (List.range' 0 (2 ^ mm)) [])).length = (greedy (okS (clN (mm : Int) b)) (List.range' 0 (2 ^ mm)) []).length := List.length_map _
  rw [List.length_range', List.length_nil] at hgl
  have hst := stem_S (mm : Int) b (by rw [Int.toNat_natCast]; omega)
  rw [Int.toNat_natCast, List.range_eq_range'] at hst
  have hss := greedy_S_sets (clN (mm : Int) b) (n := mm) (by omega)
  rw [List.range_eq_range'] at hss
  rw [sortL_eq hss] at hst
  conv => lhs; whnf
  refine (lp_specPseudo mm (by omega) b hp _ (2 ^ mm) _ 0 0 [] rfl (Nat.zero_le _) rfl (by change _ < 299; omega) (Nat.le_refl _) (fun y hy => by cases hy)).trans ?_
  conv => lhs; whnf
  conv => lhs; arg 1; whnf
  refine bnd_g (by exact ⟨by omega, hss⟩) ?_
  conv => lhs; whnf
  rw [hst]
theorem ok_specPseudo : FnOk Tryz.prog 120 K_specPseudo := by
  refine fn_ok (fn := Tryz.f120) (k := Tryz.f120.ntmps) (E := E_specPseudo) (facts_of (List.forall_mem_cons.2 ⟨ok_specFullSet, List.forall_mem_cons.2 ⟨ok_specClosure, List.forall_mem_cons.2 ⟨ok_specSortLectic, List.forall_mem_nil _⟩⟩⟩)) (by kernel_rfl) rfl (by decide +kernel) (by decide +kernel) ?_
  intro avs hin r h
  unfold K_specPseudo at h
  split at h
  · obtain ⟨hp, rfl⟩ := gd_o h
    exact ⟨_, ev_specPseudo _ _ hp, rfl⟩
  · cases h

/- spec.l10Stem -/
def K_specStem : List AV → List Ob → Option (AV × List Ob)
  | [.agg [.int .i64 m, .lst (.int .i64) b]], [] => gd (isCtx m b = true) (.own 0, [.row 48 (.pair (.int .i64) (.int .i64)) (stemR m b)])
  | _, _ => none
@[reducible] def E_specStem : Env := mkE (tb [(120, K_specPseudo), (70, K_specClosure)]) (fun f => false) (fun r => bif r == 4 then ([1, 3, 4, 5], [3]) else ([], []))
theorem lp_specStem (m : Int) (b : List Int) (hc : isCtx m b = true) (l : List Int) (hl : l.length ≤ 64) (hls : ∀ y ∈ l, 0 ≤ y ∧ y ≤ 63) (k : AX → S → Option (AV × List Ob)) (d : Nat) : ∀ (n i : Nat) (x : Int) (zs : List (Int × Int)), l.length - i = d → i ≤ l.length → x = i → d < n → zs.length ≤ i →
    lpAt E_specStem (lp E_specStem 0 n) 0 (loopAt Tryz.f62 0) (mkS [1, 3, 4, 5] [.ptr 0 0, .own 1, .own 2, .int .i64 x] [some (.box 26 [.int .i64 m, .lst (.int .i64) b]), some (.row 48 (.pair (.int .i64) (.int .i64)) zs), some (.row 3 (.int .i64) l)]) k =
      k (.exit 0) (mkS [3] [.own 0] [some (.row 48 (.pair (.int .i64) (.int .i64)) (zs ++ (l.drop i).map (fun s => (s, intentF m b (extF b s)))))]) := by
  induction d with
  | zero =>
    intro n i x zs hd hi hx hn hz
    subst hx
    rw [lpAt_def]
    conv => lhs; whnf
    refine br_f (df (by omega)) ?_
    conv => lhs; whnf
    rw [List.drop_of_length_le (by omega), List.map_nil, List.append_nil]
  | succ d ih =>
    intro n i x zs hd hi hx hn hz
    obtain ⟨n, rfl⟩ : ∃ m, n = m + 1 := ⟨n - 1, by omega⟩
    subst hx
    have hli := hls _ (mem_getD (l := l) (i := i) (d := 0) (by omega))
    rw [lpAt_def]
    conv => lhs; whnf
    refine br_t (dt (by omega)) ?_
    conv => lhs; whnf
    refine br_t (dt2 (by omega) (by omega)) ?_
    conv => lhs; whnf
    refine br_t (dt (by omega)) ?_
    conv => lhs; whnf
    refine br_t (dt2 (by omega) (by omega)) ?_
    conv => lhs; whnf
    refine br_t (dt (by omega)) ?_
    conv => lhs; whnf
    conv => lhs; arg 1; whnf
    refine bnd_g (by exact ⟨hc, hli.1, Int.le_trans hli.2 (by decide)⟩) ?_
    conv => lhs; whnf
    refine br_t (dt (by simp [room]; omega)) ?_
    conv => lhs; whnf
    repeat ((first | with_reducible apply br_tt | with_reducible apply br_ff | with_reducible apply br_nf | with_reducible apply br_nt | with_reducible refine br_d ?_ (by kernel_rfl)); conv => lhs; whnf)
    refine Eq.trans (ih n (i + 1) _ _ (by omega) (by omega) (by rw [wrap64 (n := (i : Int) + 1) (by omega) (by omega)]; simp) (by omega) (by simp; omega)) ?_
    rw [getD_drop (l := l) (i := i) (d := 0) (by omega), List.map_cons]
    simp only [List.append_assoc]
    rfl
theorem ev_specStem (m : Int) (b : List Int) (hp : isCtx m b = true) : evF E_specStem (100) Tryz.f62 [.agg [.int .i64 m, .lst (.int .i64) b]] [] = some (.own 0, [.row 48 (.pair (.int .i64) (.int .i64)) (stemR m b)]) := by
  have hl := stemI_len m b
  conv => lhs; whnf
  conv => lhs; arg 1; whnf
  refine bnd_g (by exact hp) ?_
  conv => lhs; whnf
  refine (lp_specStem m b hp (stemI m b) hl (setsB_iff.1 (stemI_sets m b)) _ _ _ 0 0 [] rfl (Nat.zero_le _) rfl (by change _ < 99; omega) (Nat.le_refl _)).trans ?_
  conv => lhs; whnf
  rfl
theorem ok_specStem : FnOk Tryz.prog 62 K_specStem := by
  refine fn_ok (fn := Tryz.f62) (k := Tryz.f62.ntmps) (E := E_specStem) (facts_of (List.forall_mem_cons.2 ⟨ok_specPseudo, List.forall_mem_cons.2 ⟨ok_specClosure, List.forall_mem_nil _⟩⟩)) (by kernel_rfl) rfl (by decide +kernel) (by decide +kernel) ?_
  intro avs hin r h
  unfold K_specStem at h
  split at h
  · obtain ⟨hp, rfl⟩ := gd_o h
    exact ⟨_, ev_specStem _ _ hp, rfl⟩
  · cases h

/- impl.inSet -/
def K_inSet : List AV → List Ob → Option (AV × List Ob)
  | [.int .i64 a, .int .i64 b], [] => gd (True) (.bool (bnot a b == 0), [])
  | _, _ => none
@[reducible] def E_inSet : Env := mkE (tb []) (fun f => false) (fun r => ([], []))
theorem ev_inSet (a b : Int) (hp : True) : evF E_inSet (1) Tryz.f91 [.int .i64 a, .int .i64 b] [] = some (.bool (bnot a b == 0), []) := by
  conv => lhs; whnf
  rfl
theorem ok_inSet : FnOk Tryz.prog 91 K_inSet := by
  refine fn_ok (fn := Tryz.f91) (k := Tryz.f91.ntmps) (E := E_inSet) (facts_of (List.forall_mem_nil _)) (by kernel_rfl) rfl (by decide +kernel) (by decide +kernel) ?_
  intro avs hin r h
  unfold K_inSet at h
  split at h
  · obtain ⟨hp, rfl⟩ := gd_o h
    exact ⟨_, ev_inSet _ _ hp, rfl⟩
  · cases h

/- impl.PseudoIntents$1 -/
def K_pseudo1 : List AV → List Ob → Option (AV × List Ob)
  | [.int .i64 s, .vptr [.int .i64 m, .lst (.int .i64) b] 0], [] => gd (b.length ≤ 1048576) (.int .i64 (clI m b s), [])
  | _, _ => none
@[reducible] def E_pseudo1 : Env := mkE (tb [(119, K_implClosureOf)]) (fun f => false) (fun r => ([], []))
theorem ev_pseudo1 (s m : Int) (b : List Int) (hp : b.length ≤ 1048576) : evF E_pseudo1 (1) Tryz.f152 [.int .i64 s, .vptr [.int .i64 m, .lst (.int .i64) b] 0] [] = some (.int .i64 (clI m b s), []) := by
  conv => lhs; whnf
  conv => lhs; arg 1; whnf
  refine bnd_g (by exact hp) ?_
  conv => lhs; whnf
  rfl
theorem ok_pseudo1 : FnOk Tryz.prog 152 K_pseudo1 := by
  refine fn_ok (fn := Tryz.f152) (k := Tryz.f152.ntmps) (E := E_pseudo1) (facts_of (List.forall_mem_cons.2 ⟨ok_implClosureOf, List.forall_mem_nil _⟩)) (by kernel_rfl) rfl (by decide +kernel) (by decide +kernel) ?_
  intro avs hin r h
  unfold K_pseudo1 at h
  split at h
  · obtain ⟨hp, rfl⟩ := gd_o h
    exact ⟨_, ev_pseudo1 _ _ _ hp, rfl⟩
  · cases h

/- impl.stem$2 -/
def K_stem2 : List AV → List Ob → Option (AV × List Ob)
  | [.int .i64 p, .vptr [.int .i64 s] 0, .vptr [.clo 152 [.vptr [.int .i64 m, .lst (.int .i64) b] 0]] 0], [] => gd (b.length ≤ 1048576) (.bool (badP m b s p), [])
  | _, _ => none
@[reducible] def E_stem2 : Env := mkE (tb [(91, K_inSet), (152, K_pseudo1)]) (fun f => false) (fun r => ([], []))
theorem ev_stem2 (p s m : Int) (b : List Int) (hp : b.length ≤ 1048576) : evF E_stem2 (1) Tryz.f173 [.int .i64 p, .vptr [.int .i64 s] 0, .vptr [.clo 152 [.vptr [.int .i64 m, .lst (.int .i64) b] 0]] 0] [] = some (.bool (badP m b s p), []) := by
  conv => lhs; whnf
  refine br_c (fun h => ?_) (fun h => ?_)
  · have h' : (p != s) = true := h
    conv => lhs; whnf
    repeat ((first | with_reducible apply br_tt | with_reducible apply br_ff | with_reducible apply br_nf | with_reducible apply br_nt | with_reducible refine br_d ?_ (by kernel_rfl) | with_reducible apply br_t h | with_reducible apply br_f h | with_reducible refine br_t (dt2 (by omega) (by omega)) ?_ | with_reducible refine br_t (dt (by omega)) ?_); conv => lhs; whnf)
    conv => lhs; arg 1; whnf
    refine bnd_g (by exact True.intro) ?_
    conv => lhs; whnf
    repeat ((first | with_reducible apply br_tt | with_reducible apply br_ff | with_reducible apply br_nf | with_reducible apply br_nt | with_reducible refine br_d ?_ (by kernel_rfl) | with_reducible apply br_t h | with_reducible apply br_f h | with_reducible refine br_t (dt2 (by omega) (by omega)) ?_ | with_reducible refine br_t (dt (by omega)) ?_); conv => lhs; whnf)
    refine br_c (fun h2 => ?_) (fun h2 => ?_)
    · have h2' : (bnot p s == 0) = true := h2
      conv => lhs; whnf
      repeat ((first | with_reducible apply br_tt | with_reducible apply br_ff | with_reducible apply br_nf | with_reducible apply br_nt | with_reducible refine br_d ?_ (by kernel_rfl) | with_reducible apply br_t h | with_reducible apply br_f h | with_reducible apply br_t h2 | with_reducible apply br_f h2 | with_reducible refine br_t (dt2 (by omega) (by omega)) ?_ | with_reducible refine br_t (dt (by omega)) ?_); conv => lhs; whnf)
      conv => lhs; arg 1; whnf
      refine bnd_g (by exact hp) ?_
      conv => lhs; whnf
      repeat ((first | with_reducible apply br_tt | with_reducible apply br_ff | with_reducible apply br_nf | with_reducible apply br_nt | with_reducible refine br_d ?_ (by kernel_rfl) | with_reducible apply br_t h | with_reducible apply br_f h | with_reducible apply br_t h2 | with_reducible apply br_f h2 | with_reducible refine br_t (dt2 (by omega) (by omega)) ?_ | with_reducible refine br_t (dt (by omega)) ?_); conv => lhs; whnf)
      conv => lhs; arg 1; whnf
      refine bnd_g (by exact True.intro) ?_
      conv => lhs; whnf
      repeat ((first | with_reducible apply br_tt | with_reducible apply br_ff | with_reducible apply br_nf | with_reducible apply br_nt | with_reducible refine br_d ?_ (by kernel_rfl) | with_reducible apply br_t h | with_reducible apply br_f h | with_reducible apply br_t h2 | with_reducible apply br_f h2 | with_reducible refine br_t (dt2 (by omega) (by omega)) ?_ | with_reducible refine br_t (dt (by omega)) ?_); conv => lhs; whnf)
      refine okB ?_
      unfold badP
      rw [h', h2']
      rfl
    · have h2' : (bnot p s == 0) = false := h2
      conv => lhs; whnf
      repeat ((first | with_reducible apply br_tt | with_reducible apply br_ff | with_reducible apply br_nf | with_reducible apply br_nt | with_reducible refine br_d ?_ (by kernel_rfl) | with_reducible apply br_t h | with_reducible apply br_f h | with_reducible apply br_t h2 | with_reducible apply br_f h2 | with_reducible refine br_t (dt2 (by omega) (by omega)) ?_ | with_reducible refine br_t (dt (by omega)) ?_); conv => lhs; whnf)
      refine okB ?_
      unfold badP
      rw [h', h2']
      rfl
  · have h' : (p != s) = false := h
    conv => lhs; whnf
    repeat ((first | with_reducible apply br_tt | with_reducible apply br_ff | with_reducible apply br_nf | with_reducible apply br_nt | with_reducible refine br_d ?_ (by kernel_rfl) | with_reducible apply br_t h | with_reducible apply br_f h | with_reducible refine br_t (dt2 (by omega) (by omega)) ?_ | with_reducible refine br_t (dt (by omega)) ?_); conv => lhs; whnf)
    refine okB ?_
    unfold badP
    rw [h']
    rfl
theorem ok_stem2 : FnOk Tryz.prog 173 K_stem2 := by
  refine fn_ok (fn := Tryz.f173) (k := Tryz.f173.ntmps) (E := E_stem2) (facts_of (List.forall_mem_cons.2 ⟨ok_inSet, List.forall_mem_cons.2 ⟨ok_pseudo1, List.forall_mem_nil _⟩⟩)) (by kernel_rfl) rfl (by decide +kernel) (by decide +kernel) ?_
  intro avs hin r h
  unfold K_stem2 at h
  split at h
  · obtain ⟨hp, rfl⟩ := gd_o h
    exact ⟨_, ev_stem2 _ _ _ _ hp, rfl⟩
  · cases h

def K_sortLecG : List AV → List Ob → Option (AV × List Ob)
  | [.own 0, .clo 188 []], [.row 3 (.int .i64) a] => gd (setsB a = true ∧ a.Nodup) (.tup [], [.row 3 (.int .i64) (lsortI a)])
  | _, _ => none
theorem ok_sortLecG : FnOk Tryz.prog 187 K_sortLecG := by
  refine ⟨⟨Tryz.f187, by kernel_rfl, by kernel_rfl, by kernel_rfl⟩, fun avs hin r hout hk C L vs hH hm hA => ?_⟩
  unfold K_sortLecG at hk
  split at hk
  · rename_i a
    obtain ⟨⟨hs, hn⟩, he⟩ := gd_o hk
    cases he
    by_cases h0 : a = []
    · subst h0
      have e : lsortI [] = [] := List.eq_nil_of_length_eq_zero (by rw [lsortI_len rfl List.nodup_nil]; rfl)
      rw [e]
      exact sort_calls0 Tryz.sortLay0 hH hA
    have hl := nodup_le hs hn
    have hpos : 0 < a.length := List.length_pos_iff.2 h0
    have s0 := finL_size a
    have s1 : (finL (lsortI a)).size = a.length := by rw [finL_size, lsortI_len hs hn]
    have eg : ∀ args w, (callFunc 188 args).run Tryz.prog w = .ok (.enter 188 args) w := enters_of Tryz.func188 (by kernel_rfl) rfl
    rw [← finL_ints hs] at hH
    rw [← finL_ints (lsortI_sets a)]
    refine sort_calls True.intro Tryz.sortLay eg ok_lecCmp cfL (fun x y => gd_s True.intro) swoL totL (d0 := finL a) (d1 := finL (lsortI a)) ⟨by rw [s1, s0], fun i hi => ?_, ?_⟩ (fun i j _ hij hj => ?_) (by rw [s0]; exact hpos) (by rw [s0]; exact hl) hH hA
    · rw [getElem!_neg _ i (by omega), getElem!_neg _ i (by omega)]
    · rw [← s1.trans s0.symm]
      rw [Array.extract_size, s1.trans s0.symm, Array.extract_size]
      exact lsort_perm hs hn
    · exact lsort_sorted a i j hij (by rw [lsortI_len hs hn]; omega)
  · cases hk

/- impl.SortLectic -/
def K_sortLecticG : List AV → List Ob → Option (AV × List Ob)
  | [.lst (.int .i64) a], [] => gd (setsB a = true ∧ a.Nodup) (.own 0, [.row 3 (.int .i64) (lsortI a)])
  | _, _ => none
@[reducible] def E_sortLecticG : Env := mkE (tb [(100, K_has_badSet1), (52, K_cloneInt), (187, K_sortLecG), (189, K_compactInt)]) (fun f => [187, 189].contains f) (fun r => ([], []))
theorem ev_sortLecticG (a : List Int) (hp : setsB a = true ∧ a.Nodup) : evF E_sortLecticG (1) Tryz.f170 [.lst (.int .i64) a] [] = some (.own 0, [.row 3 (.int .i64) (lsortI a)]) := by
  have hl := nodup_le hp.1 hp.2
  have hl2 := lsortI_len hp.1 hp.2
  have hb : a.any (badRow 8) = false := by
    rw [List.any_eq_false]
    intro x hx
    have := setsB_iff.1 hp.1 x hx
    unfold badRow
    rw [isSet8, dt (show 0 ≤ x ∧ x ≤ 255 by omega)]
    simp
  conv => lhs; whnf
  conv => lhs; arg 1; whnf
  refine bnd_g (by exact ⟨by omega, True.intro⟩) ?_
  conv => lhs; whnf
  refine br_f (by exact hb) ?_
  conv => lhs; whnf
  conv => lhs; arg 1; whnf
  refine bnd_g (by omega) ?_
  conv => lhs; whnf
  conv => lhs; arg 1; whnf
  refine bnd_g (by exact hp) ?_
  conv => lhs; whnf
  conv => lhs; arg 1; whnf
  refine bnd_g (by exact ⟨by omega, nodup_noAdj _ (lsortI_nodup a)⟩) ?_
  conv => lhs; whnf
theorem ok_sortLecticG : FnOk Tryz.prog 170 K_sortLecticG := by
  refine fn_ok (fn := Tryz.f170) (k := Tryz.f170.ntmps) (E := E_sortLecticG) (facts_of (List.forall_mem_cons.2 ⟨ok_has_badSet1, List.forall_mem_cons.2 ⟨ok_cloneInt, List.forall_mem_cons.2 ⟨ok_sortLecG, List.forall_mem_cons.2 ⟨ok_compactInt, List.forall_mem_nil _⟩⟩⟩⟩)) (by kernel_rfl) rfl (by decide +kernel) (by decide +kernel) ?_
  intro avs hin r h
  unfold K_sortLecticG at h
  split at h
  · obtain ⟨hp, rfl⟩ := gd_o h
    exact ⟨_, ev_sortLecticG _ hp, rfl⟩
  · cases h

end Go.Sym
