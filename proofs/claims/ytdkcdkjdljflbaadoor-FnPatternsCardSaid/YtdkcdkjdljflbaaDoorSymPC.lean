/- Functions of the program, each told as a plain equation. -/
import Derived.Test.YtdkcdkjdljflbaaDoorSymPB
namespace Go.Sym
open Go.Proofs
set_option linter.unusedVariables false
set_option linter.unusedSimpArgs false
set_option maxRecDepth 100000
set_option maxHeartbeats 4000000

/- spec.DrawIsWider -/
def K_drawIsWider : List AV → List Ob → Option (AV × List Ob)
  | [.lst (.int .u8) b], [] => gd (b.length ≤ 1048576) (.tup [.agg [.own 0, .own 1], .agg [.own 2, .own 3]], [.row 3 (.int .i64) (fitX b).1, .row 3 (.int .i64) (fitX b).2.1, .row 3 (.int .i64) (widY b).1, .row 3 (.int .i64) (widY b).2.1])
  | _, _ => none
@[reducible] def E_drawIsWider : Env := mkE (tb [(40, K_l1New), (8, K_specHullOf), (41, K_l24Draw), (42, K_l1Below)]) (fun f => [41, 42].contains f) (fun r => ([], []))
theorem ev_drawIsWider (b : List Int) (hp : b.length ≤ 1048576) : evF E_drawIsWider (1) Tryd.f11 [.lst (.int .u8) b] [] = some (.tup [.agg [.own 0, .own 1], .agg [.own 2, .own 3]], [.row 3 (.int .i64) (fitX b).1, .row 3 (.int .i64) (fitX b).2.1, .row 3 (.int .i64) (widY b).1, .row 3 (.int .i64) (widY b).2.1]) := by
  have n0 := newC_ok hp
  have hd := PH_ok hp
  have hn := NP_rng hp
  have hu := wrapu (n := ((PH b).1.length : Int)) (by omega) (by omega)
  have h0 : ¬ ((PH b).1.length : Int) < 0 := by omega
  have w5 : 1 ≤ NP b ∧ NP b ≤ 256 := by omega
  have n1 := nx_ok hd.2
  have e2 : IntKind.i64.wrap (1 * 2 ^ min (IntKind.u64.wrap ((PH b).1.length : Int)).toNat IntKind.i64.bits) = NP b := by rw [hu]; rfl
  have w6 : 1 ≤ IntKind.i64.wrap (1 * 2 ^ min (IntKind.u64.wrap ((PH b).1.length : Int)).toNat IntKind.i64.bits) ∧ IntKind.i64.wrap (1 * 2 ^ min (IntKind.u64.wrap ((PH b).1.length : Int)).toNat IntKind.i64.bits) ≤ 256 := by rw [e2]; exact w5
  have hrows : ∀ r ∈ (PH b).1, r.length ≤ 1048576 := fun r hr => by have := (hd.1.2 r hr).1; omega
  conv => lhs; whnf
  conv => lhs; arg 1; whnf
  refine bnd_g (by exact hp) ?_
  conv => lhs; whnf
  conv => lhs; arg 1; whnf
  refine bnd_g (by exact n0) ?_
  conv => lhs; whnf
  rw [show IntKind.u64.wrap ((drawP b ((newC b).1, (newC b).2)).1.length : Int) = ((PH b).1.length : Int) from hu]
  refine br_f (df h0) ?_
  conv => lhs; whnf
  conv => lhs; arg 1; whnf
  refine bnd_g (by exact ⟨hd.2, w5.1, w5.2⟩) ?_
  conv => lhs; whnf
  conv => lhs; arg 1; whnf
  refine bnd_g (by exact ⟨by change (PH b).1.length ≤ 1048576; omega, hrows⟩) ?_
  conv => lhs; whnf
  refine br_f (df (by rw [show IntKind.u64.wrap ((drawP b ((newC b).1, (newC b).2)).1.length : Int) = ((PH b).1.length : Int) from hu]; exact h0)) ?_
  conv => lhs; whnf
  conv => lhs; arg 1; whnf
  refine bnd_g (by exact ⟨n1, w6.1, w6.2⟩) ?_
  conv => lhs; whnf
  conv => lhs; arg 1; whnf
  refine bnd_g (by exact ⟨by change (PH b).1.length ≤ 1048576; omega, hrows⟩) ?_
  conv => lhs; whnf
  refine br_t (by kernel_rfl) ?_
  conv => lhs; whnf
  have z : widY b = hullF (PH b).1 (be b (nx b (PH b).2) (IntKind.i64.wrap (1 * 2 ^ min (IntKind.u64.wrap ((PH b).1.length : Int)).toNat IntKind.i64.bits))) := by rw [e2]; rfl
  conv => rhs; rw [z]; unfold fitX NP PH shlI
  all_goals rfl
theorem ok_drawIsWider : FnOk Tryd.prog 11 K_drawIsWider := by
  refine fn_ok (fn := Tryd.f11) (k := Tryd.f11.ntmps) (E := E_drawIsWider) (facts_of (List.forall_mem_cons.2 ⟨ok_l1New, List.forall_mem_cons.2 ⟨ok_specHullOf, List.forall_mem_cons.2 ⟨ok_l24Draw, List.forall_mem_cons.2 ⟨ok_l1Below, List.forall_mem_nil _⟩⟩⟩⟩)) (by kernel_rfl) rfl (by decide +kernel) (by decide +kernel) ?_
  intro avs hin r h
  unfold K_drawIsWider at h
  split at h
  · obtain ⟨hp, rfl⟩ := gd_o h
    exact ⟨_, ev_drawIsWider _ hp, rfl⟩
  · cases h

/- spec.DrawPatternText -/
def K_drawPatternText : List AV → List Ob → Option (AV × List Ob)
  | [.lst (.int .u8) b], [] => gd (b.length ≤ 1048576) (.agg [.own 0, .own 1], [.row 3 (.int .i64) (txtLo b), .row 3 (.int .i64) (fitX b).2.1])
  | _, _ => none
@[reducible] def E_drawPatternText : Env := mkE (tb [(11, K_drawIsWider), (40, K_l1New), (48, K_l1Once)]) (fun f => [48].contains f) (fun r => ([], []))
theorem ev_drawPatternText (b : List Int) (hp : b.length ≤ 1048576) : evF E_drawPatternText (1) Tryd.f14 [.lst (.int .u8) b] [] = some (.agg [.own 0, .own 1], [.row 3 (.int .i64) (txtLo b), .row 3 (.int .i64) (fitX b).2.1]) := by
  have n0 := newC_ok hp
  have hxl := hullF_len (a := (PH b).1) (be b (PH b).2 (NP b))
  have hxl1 : (fitX b).1.length ≤ 3 := hxl.1
  conv => lhs; whnf
  conv => lhs; arg 1; whnf
  refine bnd_g (by exact hp) ?_
  conv => lhs; whnf
  conv => lhs; arg 1; whnf
  refine bnd_g (by exact hp) ?_
  conv => lhs; whnf
  conv => lhs; arg 1; whnf
  refine bnd_g (by exact ⟨n0, by omega, by omega⟩) ?_
  conv => lhs; whnf
  refine br_c (fun g => ?_) (fun g => ?_)
  · have g' : (be b (newC b) 8 == 0) = true := g
    have e : txtLo b = (fitX b).1 ++ [1] := by unfold txtLo; rw [g']; rfl
    conv => rhs; rw [e]
    conv => lhs; whnf
    refine br_t (dt (by simp [room]; omega)) ?_
    conv => lhs; whnf
    all_goals rfl
  · have g' : (be b (newC b) 8 == 0) = false := g
    have e : txtLo b = (fitX b).1 := by unfold txtLo; rw [g']; rfl
    conv => rhs; rw [e]
    conv => lhs; whnf
    all_goals rfl
theorem ok_drawPatternText : FnOk Tryd.prog 14 K_drawPatternText := by
  refine fn_ok (fn := Tryd.f14) (k := Tryd.f14.ntmps) (E := E_drawPatternText) (facts_of (List.forall_mem_cons.2 ⟨ok_drawIsWider, List.forall_mem_cons.2 ⟨ok_l1New, List.forall_mem_cons.2 ⟨ok_l1Once, List.forall_mem_nil _⟩⟩⟩)) (by kernel_rfl) rfl (by decide +kernel) (by decide +kernel) ?_
  intro avs hin r h
  unfold K_drawPatternText at h
  split at h
  · obtain ⟨hp, rfl⟩ := gd_o h
    exact ⟨_, ev_drawPatternText _ hp, rfl⟩
  · cases h

/- impl.within -/
def K_within : List AV → List Ob → Option (AV × List Ob)
  | [.int .i64 n, .int .i64 l, .int .i64 h], [] => gd (True) (.bool (decide (l ≤ n ∧ n ≤ h)), [])
  | _, _ => none
@[reducible] def E_within : Env := mkE (tb []) (fun f => false) (fun r => ([], []))
theorem ev_within (n l h : Int) (hp : True) : evF E_within (1) Tryd.f51 [.int .i64 n, .int .i64 l, .int .i64 h] [] = some (.bool (decide (l ≤ n ∧ n ≤ h)), []) := by
  conv => lhs; whnf
  refine br_c (fun h1 => ?_) (fun h1 => ?_)
  · conv => lhs; whnf
    repeat ((first | with_reducible apply br_tt | with_reducible apply br_ff | with_reducible apply br_nf | with_reducible apply br_nt | with_reducible refine br_d ?_ (by kernel_rfl) | with_reducible apply br_t h1 | with_reducible apply br_f h1); conv => lhs; whnf)
    have := ofd h1
    simp [this]
  · conv => lhs; whnf
    repeat ((first | with_reducible apply br_tt | with_reducible apply br_ff | with_reducible apply br_nf | with_reducible apply br_nt | with_reducible refine br_d ?_ (by kernel_rfl) | with_reducible apply br_t h1 | with_reducible apply br_f h1); conv => lhs; whnf)
    have := ofn h1
    simp [this]
theorem ok_within : FnOk Tryd.prog 51 K_within := by
  refine fn_ok (fn := Tryd.f51) (k := Tryd.f51.ntmps) (E := E_within) (facts_of (List.forall_mem_nil _)) (by kernel_rfl) rfl (by decide +kernel) (by decide +kernel) ?_
  intro avs hin r h
  unfold K_within at h
  split at h
  · obtain ⟨hp, rfl⟩ := gd_o h
    exact ⟨_, ev_within _ _ _ hp, rfl⟩
  · cases h

/- impl.ArePoints$1$1 -/
def K_badNum1 : List AV → List Ob → Option (AV × List Ob)
  | [.int .i64 x], [] => gd (True) (.bool (badNum x), [])
  | _, _ => none
@[reducible] def E_badNum1 : Env := mkE (tb [(51, K_within)]) (fun f => false) (fun r => ([], []))
theorem ev_badNum1 (x : Int) (hp : True) : evF E_badNum1 (1) Tryd.f61 [.int .i64 x] [] = some (.bool (badNum x), []) := by
  conv => lhs; whnf
  conv => lhs; arg 1; whnf
  refine bnd_g (by exact True.intro) ?_
  conv => lhs; whnf
  rfl
theorem ok_badNum1 : FnOk Tryd.prog 61 K_badNum1 := by
  refine fn_ok (fn := Tryd.f61) (k := Tryd.f61.ntmps) (E := E_badNum1) (facts_of (List.forall_mem_cons.2 ⟨ok_within, List.forall_mem_nil _⟩)) (by kernel_rfl) rfl (by decide +kernel) (by decide +kernel) ?_
  intro avs hin r h
  unfold K_badNum1 at h
  split at h
  · obtain ⟨hp, rfl⟩ := gd_o h
    exact ⟨_, ev_badNum1 _ hp, rfl⟩
  · cases h

/- slices.IndexFunc[[]int,int] -/
def K_idx_badNum1 : List AV → List Ob → Option (AV × List Ob)
  | [.lst (.int .i64) a, .clo 61 []], [] => gd (a.length < 4611686018427387904 ∧ True) (.int .i64 (firstI badNum a 0), [])
  | _, _ => none
@[reducible] def E_idx_badNum1 : Env := mkE (tb [(61, K_badNum1)]) (fun f => false) (fun r => bif r == 2 then ([0, 1, 7, 8], [4]) else ([], []))
theorem lp_idx_badNum1 (a : List Int)  (ht : True) (ha : a.length < 4611686018427387904) (k : AX → S → Option (AV × List Ob)) (d : Nat) : ∀ (n i : Nat) (x : Int), a.length - i = d → i ≤ a.length → x = i → d < n →
    lpAt E_idx_badNum1 (lp E_idx_badNum1 0 n) 0 (loopAt Tryd.f86 0) (mkS [0, 1, 7, 8] [.lst (.int .i64) a, .clo 61 [], .int .i64 a.length, .int .i64 x] []) k =
      if (a.drop i).any badNum then k .ret (mkS [4] [.int .i64 (firstI badNum (a.drop i) i)] []) else k (.exit 0) (mkS [4] [.any] []) := by
  induction d with
  | zero =>
    intro n i x hd hi hx hn
    subst hx
    rw [lpAt_def]
    conv => lhs; whnf
    refine br_f (df (by omega)) ?_
    conv => lhs; whnf
    rw [List.drop_of_length_le (by omega)]
    simp
  | succ d ih =>
    intro n i x hd hi hx hn
    obtain ⟨n, rfl⟩ : ∃ m, n = m + 1 := ⟨n - 1, by omega⟩
    subst hx
    rw [lpAt_def]
    conv => lhs; whnf
    refine br_t (dt (by omega)) ?_
    conv => lhs; whnf
    refine br_t (dt2 (by omega) (by omega)) ?_
    conv => lhs; whnf
    conv => lhs; arg 1; whnf
    refine bnd_g (by exact True.intro) ?_
    conv => lhs; whnf
    rw [getD_drop (l := a) (i := i) (d := 0) (by omega)]
    refine br_c (fun h => ?_) (fun h => ?_)
    · have h' : badNum (a.getD i 0) = true := h
      conv => lhs; whnf
      rw [if_pos (by rw [List.any_cons, h', Bool.true_or])]
      rw [firstI, h', cond_true]
    · have h' : badNum (a.getD i 0) = false := h
      conv => lhs; whnf
      rw [ih n (i + 1) _ (by omega) (by omega) (by rw [wrap64 (by omega) (by omega)]; simp) (by omega)]
      rw [List.any_cons, h', Bool.false_or, firstI, h', cond_false]
      rfl
theorem ev_idx_badNum1 (a : List Int) (hp : a.length < 4611686018427387904 ∧ True) : evF E_idx_badNum1 (a.length + 2) Tryd.f86 [.lst (.int .i64) a, .clo 61 []] [] = some (.int .i64 (firstI badNum a 0), []) := by
  conv => lhs; whnf
  refine (lp_idx_badNum1 a  hp.2 hp.1 _ a.length _ 0 0 rfl (by omega) rfl (by omega)).trans ?_
  simp only [List.drop_zero]
  split
  · conv => lhs; whnf
    rfl
  · rename_i he
    conv => lhs; whnf
    have : firstI badNum a 0 = -1 := firstI_none badNum a 0 (by simpa using he)
    rw [this]
theorem ok_idx_badNum1 : FnOk Tryd.prog 86 K_idx_badNum1 := by
  refine fn_ok (fn := Tryd.f86) (k := Tryd.f86.ntmps) (E := E_idx_badNum1) (facts_of (List.forall_mem_cons.2 ⟨ok_badNum1, List.forall_mem_nil _⟩)) (by kernel_rfl) rfl (by decide +kernel) (by decide +kernel) ?_
  intro avs hin r h
  unfold K_idx_badNum1 at h
  split at h
  · obtain ⟨hp, rfl⟩ := gd_o h
    exact ⟨_, ev_idx_badNum1 _ hp, rfl⟩
  · cases h

/- slices.ContainsFunc[[]int,int] -/
def K_has_badNum1 : List AV → List Ob → Option (AV × List Ob)
  | [.lst (.int .i64) a, .clo 61 []], [] => gd (a.length < 4611686018427387904 ∧ True) (.bool (a.any badNum), [])
  | _, _ => none
@[reducible] def E_has_badNum1 : Env := mkE (tb [(86, K_idx_badNum1)]) (fun f => false) (fun r => ([], []))
theorem ev_has_badNum1 (a : List Int) (hp : a.length < 4611686018427387904 ∧ True) : evF E_has_badNum1 (1) Tryd.f60 [.lst (.int .i64) a, .clo 61 []] [] = some (.bool (a.any badNum), []) := by
  conv => lhs; whnf
  conv => lhs; arg 1; whnf
  refine bnd_g (by exact hp) ?_
  conv => lhs; whnf
  refine okB ?_
  exact firstI_iff badNum a 0 (by omega)
theorem ok_has_badNum1 : FnOk Tryd.prog 60 K_has_badNum1 := by
  refine fn_ok (fn := Tryd.f60) (k := Tryd.f60.ntmps) (E := E_has_badNum1) (facts_of (List.forall_mem_cons.2 ⟨ok_idx_badNum1, List.forall_mem_nil _⟩)) (by kernel_rfl) rfl (by decide +kernel) (by decide +kernel) ?_
  intro avs hin r h
  unfold K_has_badNum1 at h
  split at h
  · obtain ⟨hp, rfl⟩ := gd_o h
    exact ⟨_, ev_has_badNum1 _ hp, rfl⟩
  · cases h

/- impl.ArePoints$1 -/
def K_badPt1 : List AV → List Ob → Option (AV × List Ob)
  | [.lst (.int .i64) x, .vptr [.lst (.lst (.int .i64)) b] 0], [] => gd (1 ≤ b.length ∧ x.length ≤ 1048576) (.bool (badPt b x), [])
  | _, _ => none
@[reducible] def E_badPt1 : Env := mkE (tb [(60, K_has_badNum1)]) (fun f => false) (fun r => ([], []))
theorem ev_badPt1 (x : List Int) (b : List (List Int)) (hp : 1 ≤ b.length ∧ x.length ≤ 1048576) : evF E_badPt1 (1) Tryd.f59 [.lst (.int .i64) x, .vptr [.lst (.lst (.int .i64)) b] 0] [] = some (.bool (badPt b x), []) := by
  conv => lhs; whnf
  refine br_t (dt2 (by omega) (by change (0 : Int) < (b.length : Int); omega)) ?_
  conv => lhs; whnf
  refine br_c (fun h => ?_) (fun h => ?_)
  · have h' : decide (x.length ≠ (b.getD 0 []).length) = true := by
      refine dt fun e => ?_
      have h2 : ((x.length : Int) != ((b.getD 0 []).length : Int)) = true := h
      rw [e] at h2
      simp at h2
    conv => lhs; whnf
    repeat ((first | with_reducible apply br_tt | with_reducible apply br_ff | with_reducible apply br_nf | with_reducible apply br_nt | with_reducible refine br_d ?_ (by kernel_rfl) | with_reducible apply br_t h | with_reducible apply br_f h); conv => lhs; whnf)
    refine okB ?_
    unfold badPt
    rw [h']
    rfl
  · have h' : decide (x.length ≠ (b.getD 0 []).length) = false := by
      have h2 : ((x.length : Int) != ((b.getD 0 []).length : Int)) = false := h
      simp only [bne_eq_false_iff_eq] at h2
      refine df fun e => e (by omega)
    conv => lhs; whnf
    repeat ((first | with_reducible apply br_tt | with_reducible apply br_ff | with_reducible apply br_nf | with_reducible apply br_nt | with_reducible refine br_d ?_ (by kernel_rfl) | with_reducible apply br_t h | with_reducible apply br_f h); conv => lhs; whnf)
    refine br_c (fun h2 => ?_) (fun h2 => ?_)
    · conv => lhs; whnf
      repeat ((first | with_reducible apply br_tt | with_reducible apply br_ff | with_reducible apply br_nf | with_reducible apply br_nt | with_reducible refine br_d ?_ (by kernel_rfl) | with_reducible apply br_t h | with_reducible apply br_f h | with_reducible apply br_t h2 | with_reducible apply br_f h2); conv => lhs; whnf)
      refine okB ?_
      unfold badPt
      have := ofd h2
      rw [h', dt (by omega)]
      rfl
    · conv => lhs; whnf
      repeat ((first | with_reducible apply br_tt | with_reducible apply br_ff | with_reducible apply br_nf | with_reducible apply br_nt | with_reducible refine br_d ?_ (by kernel_rfl) | with_reducible apply br_t h | with_reducible apply br_f h | with_reducible apply br_t h2 | with_reducible apply br_f h2); conv => lhs; whnf)
      conv => lhs; arg 1; whnf
      refine bnd_g (by exact ⟨by omega, True.intro⟩) ?_
      conv => lhs; whnf
      repeat ((first | with_reducible apply br_tt | with_reducible apply br_ff | with_reducible apply br_nf | with_reducible apply br_nt | with_reducible refine br_d ?_ (by kernel_rfl) | with_reducible apply br_t h | with_reducible apply br_f h | with_reducible apply br_t h2 | with_reducible apply br_f h2); conv => lhs; whnf)
      refine okB ?_
      unfold badPt
      have := ofn h2
      rw [h', df (by omega)]
      rfl
theorem ok_badPt1 : FnOk Tryd.prog 59 K_badPt1 := by
  refine fn_ok (fn := Tryd.f59) (k := Tryd.f59.ntmps) (E := E_badPt1) (facts_of (List.forall_mem_cons.2 ⟨ok_has_badNum1, List.forall_mem_nil _⟩)) (by kernel_rfl) rfl (by decide +kernel) (by decide +kernel) ?_
  intro avs hin r h
  unfold K_badPt1 at h
  split at h
  · obtain ⟨hp, rfl⟩ := gd_o h
    exact ⟨_, ev_badPt1 _ _ hp, rfl⟩
  · cases h

/- slices.IndexFunc[[][]int,[]int] -/
def K_idx_badPt1 : List AV → List Ob → Option (AV × List Ob)
  | [.lst (.lst (.int .i64)) a, .clo 59 [.vptr [.lst (.lst (.int .i64)) b] 0]], [] => gd (a.length < 4611686018427387904 ∧ (1 ≤ b.length ∧ ∀ x ∈ a, x.length ≤ 1048576)) (.int .i64 (firstI (badPt b) a 0), [])
  | _, _ => none
@[reducible] def E_idx_badPt1 : Env := mkE (tb [(59, K_badPt1)]) (fun f => false) (fun r => bif r == 2 then ([0, 1, 7, 8], [4]) else ([], []))
theorem lp_idx_badPt1 (a : List (List Int)) (b : List (List Int)) (ht : 1 ≤ b.length ∧ ∀ x ∈ a, x.length ≤ 1048576) (ha : a.length < 4611686018427387904) (k : AX → S → Option (AV × List Ob)) (d : Nat) : ∀ (n i : Nat) (x : Int), a.length - i = d → i ≤ a.length → x = i → d < n →
    lpAt E_idx_badPt1 (lp E_idx_badPt1 0 n) 0 (loopAt Tryd.f85 0) (mkS [0, 1, 7, 8] [.lst (.lst (.int .i64)) a, .clo 59 [.vptr [.lst (.lst (.int .i64)) b] 0], .int .i64 a.length, .int .i64 x] []) k =
      if (a.drop i).any (badPt b) then k .ret (mkS [4] [.int .i64 (firstI (badPt b) (a.drop i) i)] []) else k (.exit 0) (mkS [4] [.any] []) := by
  induction d with
  | zero =>
    intro n i x hd hi hx hn
    subst hx
    rw [lpAt_def]
    conv => lhs; whnf
    refine br_f (df (by omega)) ?_
    conv => lhs; whnf
    rw [List.drop_of_length_le (by omega)]
    simp
  | succ d ih =>
    intro n i x hd hi hx hn
    obtain ⟨n, rfl⟩ : ∃ m, n = m + 1 := ⟨n - 1, by omega⟩
    subst hx
    rw [lpAt_def]
    conv => lhs; whnf
    refine br_t (dt (by omega)) ?_
    conv => lhs; whnf
    refine br_t (dt2 (by omega) (by omega)) ?_
    conv => lhs; whnf
    conv => lhs; arg 1; whnf
    refine bnd_g (by exact ⟨ht.1, ht.2 _ (mem_getD (by omega))⟩) ?_
    conv => lhs; whnf
    rw [getD_drop (l := a) (i := i) (d := []) (by omega)]
    refine br_c (fun h => ?_) (fun h => ?_)
    · have h' : (badPt b) (a.getD i []) = true := h
      conv => lhs; whnf
      rw [if_pos (by rw [List.any_cons, h', Bool.true_or])]
      rw [firstI, h', cond_true]
    · have h' : (badPt b) (a.getD i []) = false := h
      conv => lhs; whnf
      rw [ih n (i + 1) _ (by omega) (by omega) (by rw [wrap64 (by omega) (by omega)]; simp) (by omega)]
      rw [List.any_cons, h', Bool.false_or, firstI, h', cond_false]
      rfl
theorem ev_idx_badPt1 (a : List (List Int)) (b : List (List Int)) (hp : a.length < 4611686018427387904 ∧ (1 ≤ b.length ∧ ∀ x ∈ a, x.length ≤ 1048576)) : evF E_idx_badPt1 (a.length + 2) Tryd.f85 [.lst (.lst (.int .i64)) a, .clo 59 [.vptr [.lst (.lst (.int .i64)) b] 0]] [] = some (.int .i64 (firstI (badPt b) a 0), []) := by
  conv => lhs; whnf
  refine (lp_idx_badPt1 a b hp.2 hp.1 _ a.length _ 0 0 rfl (by omega) rfl (by omega)).trans ?_
  simp only [List.drop_zero]
  split
  · conv => lhs; whnf
    rfl
  · rename_i he
    conv => lhs; whnf
    have : firstI (badPt b) a 0 = -1 := firstI_none (badPt b) a 0 (by simpa using he)
    rw [this]
theorem ok_idx_badPt1 : FnOk Tryd.prog 85 K_idx_badPt1 := by
  refine fn_ok (fn := Tryd.f85) (k := Tryd.f85.ntmps) (E := E_idx_badPt1) (facts_of (List.forall_mem_cons.2 ⟨ok_badPt1, List.forall_mem_nil _⟩)) (by kernel_rfl) rfl (by decide +kernel) (by decide +kernel) ?_
  intro avs hin r h
  unfold K_idx_badPt1 at h
  split at h
  · obtain ⟨hp, rfl⟩ := gd_o h
    exact ⟨_, ev_idx_badPt1 _ _ hp, rfl⟩
  · cases h

/- slices.ContainsFunc[[][]int,[]int] -/
def K_has_badPt1 : List AV → List Ob → Option (AV × List Ob)
  | [.lst (.lst (.int .i64)) a, .clo 59 [.vptr [.lst (.lst (.int .i64)) b] 0]], [] => gd (a.length < 4611686018427387904 ∧ (1 ≤ b.length ∧ ∀ x ∈ a, x.length ≤ 1048576)) (.bool (a.any (badPt b)), [])
  | _, _ => none
@[reducible] def E_has_badPt1 : Env := mkE (tb [(85, K_idx_badPt1)]) (fun f => false) (fun r => ([], []))
theorem ev_has_badPt1 (a : List (List Int)) (b : List (List Int)) (hp : a.length < 4611686018427387904 ∧ (1 ≤ b.length ∧ ∀ x ∈ a, x.length ≤ 1048576)) : evF E_has_badPt1 (1) Tryd.f58 [.lst (.lst (.int .i64)) a, .clo 59 [.vptr [.lst (.lst (.int .i64)) b] 0]] [] = some (.bool (a.any (badPt b)), []) := by
  conv => lhs; whnf
  conv => lhs; arg 1; whnf
  refine bnd_g (by exact hp) ?_
  conv => lhs; whnf
  refine okB ?_
  exact firstI_iff (badPt b) a 0 (by omega)
theorem ok_has_badPt1 : FnOk Tryd.prog 58 K_has_badPt1 := by
  refine fn_ok (fn := Tryd.f58) (k := Tryd.f58.ntmps) (E := E_has_badPt1) (facts_of (List.forall_mem_cons.2 ⟨ok_idx_badPt1, List.forall_mem_nil _⟩)) (by kernel_rfl) rfl (by decide +kernel) (by decide +kernel) ?_
  intro avs hin r h
  unfold K_has_badPt1 at h
  split at h
  · obtain ⟨hp, rfl⟩ := gd_o h
    exact ⟨_, ev_has_badPt1 _ _ hp, rfl⟩
  · cases h

/- impl.ArePoints -/
def K_implArePoints : List AV → List Ob → Option (AV × List Ob)
  | [.lst (.lst (.int .i64)) a], [] => gd (a.length ≤ 1048576 ∧ ∀ x ∈ a, x.length ≤ 1048576) (.bool (arePts a), [])
  | _, _ => none
@[reducible] def E_implArePoints : Env := mkE (tb [(51, K_within), (58, K_has_badPt1)]) (fun f => false) (fun r => ([], []))
theorem ev_implArePoints (a : List (List Int)) (hp : a.length ≤ 1048576 ∧ ∀ x ∈ a, x.length ≤ 1048576) : evF E_implArePoints (1) Tryd.f23 [.lst (.lst (.int .i64)) a] [] = some (.bool (arePts a), []) := by
  conv => lhs; whnf
  conv => lhs; arg 1; whnf
  refine bnd_g (by exact True.intro) ?_
  conv => lhs; whnf
  refine br_c (fun h => ?_) (fun h => ?_)
  · have h' := ofnt h
    conv => lhs; whnf
    refine okB ?_
    unfold arePts
    rw [df (by omega), Bool.false_and]
  · have h' := ofnf h
    conv => lhs; whnf
    conv => lhs; arg 1; whnf
    refine bnd_g (by exact ⟨by omega, by omega, hp.2⟩) ?_
    conv => lhs; whnf
    refine okB ?_
    unfold arePts
    rw [any_badPt (by omega), Bool.not_not, show decide (1 ≤ a.length ∧ a.length ≤ 8) = true from dt (by omega), Bool.true_and]
theorem ok_implArePoints : FnOk Tryd.prog 23 K_implArePoints := by
  refine fn_ok (fn := Tryd.f23) (k := Tryd.f23.ntmps) (E := E_implArePoints) (facts_of (List.forall_mem_cons.2 ⟨ok_within, List.forall_mem_cons.2 ⟨ok_has_badPt1, List.forall_mem_nil _⟩⟩)) (by kernel_rfl) rfl (by decide +kernel) (by decide +kernel) ?_
  intro avs hin r h
  unfold K_implArePoints at h
  split at h
  · obtain ⟨hp, rfl⟩ := gd_o h
    exact ⟨_, ev_implArePoints _ hp, rfl⟩
  · cases h

/- impl.IsSet -/
def K_implIsSet : List AV → List Ob → Option (AV × List Ob)
  | [.int .i64 n, .int .i64 s], [] => gd (True) (.bool (isSet n s), [])
  | _, _ => none
@[reducible] def E_implIsSet : Env := mkE (tb [(51, K_within)]) (fun f => false) (fun r => ([], []))
theorem ev_implIsSet (n s : Int) (hp : True) : evF E_implIsSet (1) Tryd.f43 [.int .i64 n, .int .i64 s] [] = some (.bool (isSet n s), []) := by
  conv => lhs; whnf
  conv => lhs; arg 1; whnf
  refine bnd_g (by exact True.intro) ?_
  conv => lhs; whnf
  refine br_c (fun h => ?_) (fun h => ?_)
  · conv => lhs; whnf
    have h8 := ofd h
    repeat ((first | with_reducible apply br_tt | with_reducible apply br_ff | with_reducible apply br_nf | with_reducible apply br_nt | with_reducible refine br_d ?_ (by kernel_rfl) | with_reducible apply br_t h | with_reducible apply br_f h); conv => lhs; whnf)
    refine br_f (df (by omega)) ?_
    conv => lhs; whnf
    repeat ((first | with_reducible apply br_tt | with_reducible apply br_ff | with_reducible apply br_nf | with_reducible apply br_nt | with_reducible refine br_d ?_ (by kernel_rfl) | with_reducible apply br_t h | with_reducible apply br_f h); conv => lhs; whnf)
    conv => lhs; arg 1; whnf
    refine bnd_g (by exact True.intro) ?_
    conv => lhs; whnf
    repeat ((first | with_reducible apply br_tt | with_reducible apply br_ff | with_reducible apply br_nf | with_reducible apply br_nt | with_reducible refine br_d ?_ (by kernel_rfl) | with_reducible apply br_t h | with_reducible apply br_f h); conv => lhs; whnf)
    refine okB ?_
    unfold isSet
    refine decide_eq_decide.2 ?_
    rw [shl_set h8.1 h8.2]
    exact ⟨fun h => ⟨h8, h⟩, fun h => h.2⟩
  · conv => lhs; whnf
    repeat ((first | with_reducible apply br_tt | with_reducible apply br_ff | with_reducible apply br_nf | with_reducible apply br_nt | with_reducible refine br_d ?_ (by kernel_rfl) | with_reducible apply br_t h | with_reducible apply br_f h); conv => lhs; whnf)
    have h8 := ofn h
    simp [isSet, h8]
theorem ok_implIsSet : FnOk Tryd.prog 43 K_implIsSet := by
  refine fn_ok (fn := Tryd.f43) (k := Tryd.f43.ntmps) (E := E_implIsSet) (facts_of (List.forall_mem_cons.2 ⟨ok_within, List.forall_mem_nil _⟩)) (by kernel_rfl) rfl (by decide +kernel) (by decide +kernel) ?_
  intro avs hin r h
  unfold K_implIsSet at h
  split at h
  · obtain ⟨hp, rfl⟩ := gd_o h
    exact ⟨_, ev_implIsSet _ _ hp, rfl⟩
  · cases h

/- impl.isAnySet -/
def K_isAnySet : List AV → List Ob → Option (AV × List Ob)
  | [.int .i64 s], [] => gd (True) (.bool (isSet 8 s), [])
  | _, _ => none
@[reducible] def E_isAnySet : Env := mkE (tb [(43, K_implIsSet)]) (fun f => false) (fun r => ([], []))
theorem ev_isAnySet (s : Int) (hp : True) : evF E_isAnySet (1) Tryd.f97 [.int .i64 s] [] = some (.bool (isSet 8 s), []) := by
  conv => lhs; whnf
  conv => lhs; arg 1; whnf
  refine bnd_g (by exact True.intro) ?_
  conv => lhs; whnf
theorem ok_isAnySet : FnOk Tryd.prog 97 K_isAnySet := by
  refine fn_ok (fn := Tryd.f97) (k := Tryd.f97.ntmps) (E := E_isAnySet) (facts_of (List.forall_mem_cons.2 ⟨ok_implIsSet, List.forall_mem_nil _⟩)) (by kernel_rfl) rfl (by decide +kernel) (by decide +kernel) ?_
  intro avs hin r h
  unfold K_isAnySet at h
  split at h
  · obtain ⟨hp, rfl⟩ := gd_o h
    exact ⟨_, ev_isAnySet _ hp, rfl⟩
  · cases h

/- impl.HasElement -/
def K_hasElement : List AV → List Ob → Option (AV × List Ob)
  | [.int .i64 s, .int .i64 e], [] => gd (True) (.bool (hasE s e), [])
  | _, _ => none
@[reducible] def E_hasElement : Env := mkE (tb [(97, K_isAnySet), (51, K_within)]) (fun f => false) (fun r => ([], []))
theorem ev_hasElement (s e : Int) (hp : True) : evF E_hasElement (1) Tryd.f73 [.int .i64 s, .int .i64 e] [] = some (.bool (hasE s e), []) := by
  conv => lhs; whnf
  conv => lhs; arg 1; whnf
  refine bnd_g (by exact True.intro) ?_
  conv => lhs; whnf
  refine br_c (fun h => ?_) (fun h => ?_)
  · conv => lhs; whnf
    repeat ((first | with_reducible apply br_tt | with_reducible apply br_ff | with_reducible apply br_nf | with_reducible apply br_nt | with_reducible refine br_d ?_ (by kernel_rfl) | with_reducible apply br_t h | with_reducible apply br_f h); conv => lhs; whnf)
    conv => lhs; arg 1; whnf
    refine bnd_g (by exact True.intro) ?_
    conv => lhs; whnf
    repeat ((first | with_reducible apply br_tt | with_reducible apply br_ff | with_reducible apply br_nf | with_reducible apply br_nt | with_reducible refine br_d ?_ (by kernel_rfl) | with_reducible apply br_t h | with_reducible apply br_f h); conv => lhs; whnf)
    refine br_c (fun h2 => ?_) (fun h2 => ?_)
    · conv => lhs; whnf
      repeat ((first | with_reducible apply br_tt | with_reducible apply br_ff | with_reducible apply br_nf | with_reducible apply br_nt | with_reducible refine br_d ?_ (by kernel_rfl) | with_reducible apply br_t h | with_reducible apply br_f h | with_reducible apply br_t h2 | with_reducible apply br_f h2); conv => lhs; whnf)
      have h2' := ofd h2
      refine br_f (df (by omega)) ?_
      conv => lhs; whnf
      repeat ((first | with_reducible apply br_tt | with_reducible apply br_ff | with_reducible apply br_nf | with_reducible apply br_nt | with_reducible refine br_d ?_ (by kernel_rfl) | with_reducible apply br_t h | with_reducible apply br_f h | with_reducible apply br_t h2 | with_reducible apply br_f h2); conv => lhs; whnf)
      refine okB ?_
      have hs := isSet_le h
      unfold hasE
      rw [h, h2, Bool.true_and, Bool.true_and]
      exact bit_of (by omega) (by omega) (by omega) (by omega)
    · conv => lhs; whnf
      repeat ((first | with_reducible apply br_tt | with_reducible apply br_ff | with_reducible apply br_nf | with_reducible apply br_nt | with_reducible refine br_d ?_ (by kernel_rfl) | with_reducible apply br_t h | with_reducible apply br_f h | with_reducible apply br_t h2 | with_reducible apply br_f h2); conv => lhs; whnf)
      refine okB ?_
      unfold hasE
      rw [h, h2]
      rfl
  · conv => lhs; whnf
    repeat ((first | with_reducible apply br_tt | with_reducible apply br_ff | with_reducible apply br_nf | with_reducible apply br_nt | with_reducible refine br_d ?_ (by kernel_rfl) | with_reducible apply br_t h | with_reducible apply br_f h); conv => lhs; whnf)
    refine okB ?_
    unfold hasE
    rw [h]
    rfl
theorem ok_hasElement : FnOk Tryd.prog 73 K_hasElement := by
  refine fn_ok (fn := Tryd.f73) (k := Tryd.f73.ntmps) (E := E_hasElement) (facts_of (List.forall_mem_cons.2 ⟨ok_isAnySet, List.forall_mem_cons.2 ⟨ok_within, List.forall_mem_nil _⟩⟩)) (by kernel_rfl) rfl (by decide +kernel) (by decide +kernel) ?_
  intro avs hin r h
  unfold K_hasElement at h
  split at h
  · obtain ⟨hp, rfl⟩ := gd_o h
    exact ⟨_, ev_hasElement _ _ hp, rfl⟩
  · cases h

/- impl.ElementsOf -/
def K_elementsOf : List AV → List Ob → Option (AV × List Ob)
  | [.int .i64 s], [] => gd (True) (.own 0, [.row 3 (.int .i64) (elemsF s)])
  | _, _ => none
@[reducible] def E_elementsOf : Env := mkE (tb [(73, K_hasElement)]) (fun f => false) (fun r => bif r == 3 then ([0, 3, 6], [3]) else ([], []))
theorem lp_elementsOf (s : Int) (k : AX → S → Option (AV × List Ob)) (d : Nat) : ∀ (n i : Nat) (x : Int) (ys : List Int), 8 - i = d → i ≤ 8 → x = i → d < n → ys.length ≤ i →
    lpAt E_elementsOf (lp E_elementsOf 0 n) 0 (loopAt Tryd.f44 0) (mkS [0, 3, 6] [.int .i64 s, .own 0, .int .i64 x] [some (.row 3 (.int .i64) ys)]) k =
      k (.exit 0) (mkS [3] [.own 0] [some (.row 3 (.int .i64) (ys ++ elemsL s d i))]) := by
  induction d with
  | zero =>
    intro n i x ys hd hi hx hn hl
    subst hx
    rw [lpAt_def]
    conv => lhs; whnf
    refine br_f (df (by omega)) ?_
    conv => lhs; whnf
    rw [elemsL, List.append_nil]
  | succ d ih =>
    intro n i x ys hd hi hx hn hl
    obtain ⟨n, rfl⟩ : ∃ m, n = m + 1 := ⟨n - 1, by omega⟩
    subst hx
    rw [lpAt_def]
    conv => lhs; whnf
    refine br_t (dt (by omega)) ?_
    conv => lhs; whnf
    conv => lhs; arg 1; whnf
    refine bnd_g (by exact True.intro) ?_
    conv => lhs; whnf
    refine br_c (fun h => ?_) (fun h => ?_)
    · conv => lhs; whnf
      refine br_t (dt (by simp [room]; omega)) ?_
      conv => lhs; whnf
      rw [ih n (i + 1) _ _ (by omega) (by omega) (by rw [wrap64 (by omega) (by omega)]; simp) (by omega) (by simp; omega)]
      rw [elemsL, h, cond_true]
      simp
    · conv => lhs; whnf
      rw [ih n (i + 1) _ _ (by omega) (by omega) (by rw [wrap64 (by omega) (by omega)]; simp) (by omega) (by omega)]
      rw [elemsL, h, cond_false]
theorem ev_elementsOf (s : Int) (hp : True) : evF E_elementsOf (20) Tryd.f44 [.int .i64 s] [] = some (.own 0, [.row 3 (.int .i64) (elemsF s)]) := by
  conv => lhs; whnf
  refine (lp_elementsOf s _ 8 _ 0 0 _ rfl (by omega) rfl (by decide) (by simp)).trans ?_
  conv => lhs; whnf
  rfl
theorem ok_elementsOf : FnOk Tryd.prog 44 K_elementsOf := by
  refine fn_ok (fn := Tryd.f44) (k := Tryd.f44.ntmps) (E := E_elementsOf) (facts_of (List.forall_mem_cons.2 ⟨ok_hasElement, List.forall_mem_nil _⟩)) (by kernel_rfl) rfl (by decide +kernel) (by decide +kernel) ?_
  intro avs hin r h
  unfold K_elementsOf at h
  split at h
  · obtain ⟨hp, rfl⟩ := gd_o h
    exact ⟨_, ev_elementsOf _ hp, rfl⟩
  · cases h

/- slices.Clone[[]int,int] -/
def K_cloneInt : List AV → List Ob → Option (AV × List Ob)
  | [.lst (.int .i64) a], [] => gd (a.length ≤ 1048576) (.own 0, [.row 3 (.int .i64) a])
  | _, _ => none
@[reducible] def E_cloneInt : Env := mkE (tb []) (fun f => false) (fun r => ([], []))
theorem ev_cloneInt (a : List Int) (hp : a.length ≤ 1048576) : evF E_cloneInt (1) Tryd.f45 [.lst (.int .i64) a] [] = some (.own 0, [.row 3 (.int .i64) a]) := by
  conv => lhs; whnf
  refine br_c (fun h => ?_) (fun h => ?_)
  · conv => lhs; whnf
    refine br_f (by rfl) ?_
    conv => lhs; whnf
    refine br_t (dt (by simp [room]; omega)) ?_
    conv => lhs; whnf
    simp
  · have h0 : a = [] := by
      have := ofn h
      cases a
      · rfl
      · simp at this
    subst h0
    conv => lhs; whnf
    refine both_i ?_ ?_
    · conv => lhs; whnf
    · conv => lhs; whnf
      refine br_t (dt (by simp [room])) ?_
      conv => lhs; whnf
      rfl
theorem ok_cloneInt : FnOk Tryd.prog 45 K_cloneInt := by
  refine fn_ok (fn := Tryd.f45) (k := Tryd.f45.ntmps) (E := E_cloneInt) (facts_of (List.forall_mem_nil _)) (by kernel_rfl) rfl (by decide +kernel) (by decide +kernel) ?_
  intro avs hin r h
  unfold K_cloneInt at h
  split at h
  · obtain ⟨hp, rfl⟩ := gd_o h
    exact ⟨_, ev_cloneInt _ hp, rfl⟩
  · cases h

/- impl.HullOf -/
def K_implHullOf : List AV → List Ob → Option (AV × List Ob)
  | [.lst (.lst (.int .i64)) a, .int .i64 s], [] => gd (a.length ≤ 1048576 ∧ ∀ x ∈ a, x.length ≤ 1048576) (.tup [.agg [.own 0, .own 1], .bool (hullF a s).2.2], [.row 3 (.int .i64) (hullF a s).1, .row 3 (.int .i64) (hullF a s).2.1])
  | _, _ => none
@[reducible] def E_implHullOf : Env := mkE (tb [(23, K_implArePoints), (43, K_implIsSet), (44, K_elementsOf), (45, K_cloneInt)]) (fun f => false) (fun r => bif r == 6 then ([0, 4, 7, 44, 45, 46], [0, 4, 7, 44, 45, 46]) else bif r == 9 then ([0, 4, 7, 44, 45, 46, 53, 54, 55], [0, 4, 7, 44, 45, 46]) else ([], []))
theorem lq_implHullOf (a : List (List Int)) (l : List Int) (y : List Int) (h3 : y.length ≤ 3) (M E : Int) (k : AX → S → Option (AV × List Ob)) (d : Nat) : ∀ (n i : Nat) (x : Int) (lo hi : List Int), y.length - i = d → i ≤ y.length → x = i → d < n → lo.length = y.length → hi.length = y.length →
    lpAt E_implHullOf (lp E_implHullOf 0 n) 0 (loopAt Tryd.f7 1) (mkS [0, 4, 7, 44, 45, 46, 53, 54, 55] [.lst (.lst (.int .i64)) a, .ptr 0 0, .ptr 3 0, .own 6, .int .i64 M, .int .i64 E, .lst (.int .i64) y, .int .i64 y.length, .int .i64 x] [some (.box 29 [.own 1, .own 2]), some (.row 3 (.int .i64) []), some (.row 3 (.int .i64) []), some (.box 29 [.own 4, .own 5]), some (.row 3 (.int .i64) lo), some (.row 3 (.int .i64) hi), some (.row 3 (.int .i64) l)]) k =
      k (.exit 2) (mkS [0, 4, 7, 44, 45, 46] [.lst (.lst (.int .i64)) a, .ptr 0 0, .ptr 3 0, .own 6, .int .i64 M, .int .i64 E] [some (.box 29 [.own 1, .own 2]), some (.row 3 (.int .i64) []), some (.row 3 (.int .i64) []), some (.box 29 [.own 4, .own 5]), some (.row 3 (.int .i64) (lo.take i ++ List.zipWith min (lo.drop i) (y.drop i))), some (.row 3 (.int .i64) (hi.take i ++ List.zipWith max (hi.drop i) (y.drop i))), some (.row 3 (.int .i64) l)]) := by
  induction d with
  | zero =>
    intro n i x lo hi hd hi' hx hn hlo hhi
    subst hx
    rw [lpAt_def]
    conv => lhs; whnf
    refine br_f (df (by omega)) ?_
    conv => lhs; whnf
    rw [List.take_of_length_le (by omega), List.take_of_length_le (by omega), List.drop_of_length_le (by omega), List.drop_of_length_le (by omega)]
    simp
  | succ d ih =>
    intro n i x lo hi hd hi' hx hn hlo hhi
    obtain ⟨n, rfl⟩ : ∃ m, n = m + 1 := ⟨n - 1, by omega⟩
    subst hx
    rw [lpAt_def]
    conv => lhs; whnf
    refine br_t (dt (by omega)) ?_
    conv => lhs; whnf
    refine br_t (dt2 (by omega) (by omega)) ?_
    conv => lhs; whnf
    refine br_t (dt2 (by omega) (by omega)) ?_
    conv => lhs; whnf
    refine br_t (dt (by change i < lo.length; omega)) ?_
    conv => lhs; whnf
    refine br_t (dt2 (by omega) (by omega)) ?_
    conv => lhs; whnf
    refine br_t (dt (by change i < hi.length; omega)) ?_
    conv => lhs; whnf
    refine br_t (dt2 (by omega) (by omega)) ?_
    conv => lhs; whnf
    refine br_t (dt (by change i < lo.length; omega)) ?_
    conv => lhs; whnf
    refine br_t (dt2 (by omega) (by omega)) ?_
    conv => lhs; whnf
    refine br_t (dt (by change i < hi.length; omega)) ?_
    conv => lhs; whnf
    refine br_t (by kernel_rfl) ?_
    conv => lhs; whnf
    refine (ih n (i + 1) (IntKind.i64.wrap ((i : Int) + 1)) _ _ (by omega) (by omega) (by rw [wrap64 (n := (i : Int) + 1) (by omega) (by omega)]; simp) (by omega) (by simp [hlo]) (by simp [hhi])).trans ?_
    have e1 := zip_set (f := min) (l := lo) (y := y) (i := i) hlo (by omega)
    have e2 := zip_set (f := max) (l := hi) (y := y) (i := i) hhi (by omega)
    rw [← e1, ← e2]
    rfl
theorem lp_implHullOf (a : List (List Int)) (h8 : a.length ≤ 8) (w : Nat) (hw : ∀ x ∈ a, x.length = w) (h3 : w ≤ 3) (l : List Int) (hl : l.length ≤ 8) (hm : ∀ x ∈ l, 0 ≤ x ∧ x < a.length ∧ x ≤ 7) (M : Int) (hM : M = l.length) (k : AX → S → Option (AV × List Ob)) (d : Nat) : ∀ (n i : Nat) (x : Int) (lo hi : List Int), l.length - i = d → i ≤ l.length → x = i → d + 10 < n → lo.length = w → hi.length = w →
    lpAt E_implHullOf (lp E_implHullOf 0 n) 0 (loopAt Tryd.f7 0) (mkS [0, 4, 7, 44, 45, 46] [.lst (.lst (.int .i64)) a, .ptr 0 0, .ptr 3 0, .own 6, .int .i64 M, .int .i64 x] [some (.box 29 [.own 1, .own 2]), some (.row 3 (.int .i64) []), some (.row 3 (.int .i64) []), some (.box 29 [.own 4, .own 5]), some (.row 3 (.int .i64) lo), some (.row 3 (.int .i64) hi), some (.row 3 (.int .i64) l)]) k =
      k (.exit 0) (mkS [0, 4, 7, 44, 45, 46] [.lst (.lst (.int .i64)) a, .ptr 0 0, .ptr 3 0, .own 6, .int .i64 M, .int .i64 (l.length : Int)] [some (.box 29 [.own 1, .own 2]), some (.row 3 (.int .i64) []), some (.row 3 (.int .i64) []), some (.box 29 [.own 4, .own 5]), some (.row 3 (.int .i64) (hullG min a (l.drop i) lo)), some (.row 3 (.int .i64) (hullG max a (l.drop i) hi)), some (.row 3 (.int .i64) l)]) := by
  subst hM
  induction d with
  | zero =>
    intro n i x lo hi hd hi' hx hn hlo hhi
    subst hx
    rw [lpAt_def]
    conv => lhs; whnf
    refine br_f (df (by omega)) ?_
    conv => lhs; whnf
    have : i = l.length := by omega
    rw [List.drop_of_length_le (by omega), this]
    rfl
  | succ d ih =>
    intro n i x lo hi hd hi' hx hn hlo hhi
    obtain ⟨n, rfl⟩ : ∃ m, n = m + 1 := ⟨n - 1, by omega⟩
    subst hx
    have hg := hm _ (mem_getD (d := 0) (show i < l.length by omega))
    have hwi := hw _ (mem_getD (d := []) (show (l.getD i 0).toNat < a.length by omega))
    rw [lpAt_def]
    conv => lhs; whnf
    refine br_t (dt (by omega)) ?_
    conv => lhs; whnf
    refine br_t (dt2 (by omega) (by omega)) ?_
    conv => lhs; whnf
    refine br_t (dt (by change i < l.length; omega)) ?_
    conv => lhs; whnf
    refine br_t (dt2 (by change 0 ≤ l.getD i 0; omega) (by change l.getD i 0 < a.length; omega)) ?_
    conv => lhs; whnf
    refine (lq_implHullOf a l (a.getD (l.getD i 0).toNat []) (by omega) _ _ _ (a.getD (l.getD i 0).toNat []).length _ 0 0 _ _ rfl (by omega) rfl (by omega) (by omega) (by omega)).trans ?_
    have q1 : (lo.take 0 ++ List.zipWith min (lo.drop 0) ((a.getD (l.getD i 0).toNat []).drop 0)).length = w := by rw [List.take_zero, List.drop_zero, List.drop_zero, List.nil_append, List.length_zipWith]; omega
    have q2 : (hi.take 0 ++ List.zipWith max (hi.drop 0) ((a.getD (l.getD i 0).toNat []).drop 0)).length = w := by rw [List.take_zero, List.drop_zero, List.drop_zero, List.nil_append, List.length_zipWith]; omega
    conv => lhs; whnf
    refine (ih n (i + 1) (IntKind.i64.wrap ((i : Int) + 1)) _ _ (by omega) (by omega) (by rw [wrap64 (n := (i : Int) + 1) (by omega) (by omega)]; simp) (by omega) q1 q2).trans ?_
    have e1 : hullStep min a lo (l.getD i 0) = lo.take 0 ++ List.zipWith min (lo.drop 0) ((a.getD (l.getD i 0).toNat []).drop 0) := mixL_zip min (by omega)
    have e2 : hullStep max a hi (l.getD i 0) = hi.take 0 ++ List.zipWith max (hi.drop 0) ((a.getD (l.getD i 0).toNat []).drop 0) := mixL_zip max (by omega)
    rw [getD_drop (l := l) (i := i) (d := 0) (by omega), ← e1, ← e2]
    rfl
theorem ev_implHullOf (a : List (List Int)) (s : Int) (hp : a.length ≤ 1048576 ∧ ∀ x ∈ a, x.length ≤ 1048576) : evF E_implHullOf (100) Tryd.f7 [.lst (.lst (.int .i64)) a, .int .i64 s] [] = some (.tup [.agg [.own 0, .own 1], .bool (hullF a s).2.2], [.row 3 (.int .i64) (hullF a s).1, .row 3 (.int .i64) (hullF a s).2.1]) := by
  conv => lhs; whnf
  conv => lhs; arg 1; whnf
  refine bnd_g (by exact hp) ?_
  conv => lhs; whnf
  refine br_c (fun h => ?_) (fun h => ?_)
  · have hf : hullF a s = ([], [], false) := by unfold hullF; rw [bnt h]; rfl
    rw [hf]
    conv => lhs; whnf
    repeat ((first | with_reducible apply br_tt | with_reducible apply br_ff | with_reducible apply br_nf | with_reducible apply br_nt | with_reducible refine br_d ?_ (by kernel_rfl) | with_reducible apply br_t h | with_reducible apply br_f h); conv => lhs; whnf)
  · conv => lhs; whnf
    repeat ((first | with_reducible apply br_tt | with_reducible apply br_ff | with_reducible apply br_nf | with_reducible apply br_nt | with_reducible refine br_d ?_ (by kernel_rfl) | with_reducible apply br_t h | with_reducible apply br_f h); conv => lhs; whnf)
    refine br_c (fun h2 => ?_) (fun h2 => ?_)
    · have hf : hullF a s = ([], [], false) := by unfold hullF; rw [bnf h, h2]; rfl
      rw [hf]
      conv => lhs; whnf
      repeat ((first | with_reducible apply br_tt | with_reducible apply br_ff | with_reducible apply br_nf | with_reducible apply br_nt | with_reducible refine br_d ?_ (by kernel_rfl) | with_reducible apply br_t h | with_reducible apply br_f h | with_reducible apply br_t h2 | with_reducible apply br_f h2); conv => lhs; whnf)
    · conv => lhs; whnf
      repeat ((first | with_reducible apply br_tt | with_reducible apply br_ff | with_reducible apply br_nf | with_reducible apply br_nt | with_reducible refine br_d ?_ (by kernel_rfl) | with_reducible apply br_t h | with_reducible apply br_f h | with_reducible apply br_t h2 | with_reducible apply br_f h2); conv => lhs; whnf)
      conv => lhs; arg 1; whnf
      refine bnd_g (by exact True.intro) ?_
      conv => lhs; whnf
      repeat ((first | with_reducible apply br_tt | with_reducible apply br_ff | with_reducible apply br_nf | with_reducible apply br_nt | with_reducible refine br_d ?_ (by kernel_rfl) | with_reducible apply br_t h | with_reducible apply br_f h | with_reducible apply br_t h2 | with_reducible apply br_f h2); conv => lhs; whnf)
      refine br_c (fun h3 => ?_) (fun h3 => ?_)
      · have hf : hullF a s = ([], [], false) := by unfold hullF; rw [bnf h, h2, bnt h3]; rfl
        rw [hf]
        conv => lhs; whnf
        repeat ((first | with_reducible apply br_tt | with_reducible apply br_ff | with_reducible apply br_nf | with_reducible apply br_nt | with_reducible refine br_d ?_ (by kernel_rfl) | with_reducible apply br_t h | with_reducible apply br_f h | with_reducible apply br_t h2 | with_reducible apply br_f h2 | with_reducible apply br_t h3 | with_reducible apply br_f h3); conv => lhs; whnf)
      · have hf : hullF a s = (hullL min a s, hullL max a s, true) := by unfold hullF; rw [bnf h, h2, bnf h3]; rfl
        have hs0 : s ≠ 0 := beq_eq_false_iff_ne.1 h2
        have hp' := arePts_parts (bnf h)
        have hA := bnf h
        have hE := elems_first hp'.1.2 (bnf h3) hs0
        rw [hf]
        have hlen : 0 < (elemsF s).length := by
          obtain ⟨g, l, he, _⟩ := hE
          rw [he]
          exact Nat.succ_pos _
        have hm : ∀ x ∈ elemsF s, 0 ≤ x ∧ x < (a.length : Int) ∧ x ≤ 7 := by
          obtain ⟨_, _, _, h⟩ := hE
          exact h
        have hg := hm _ (mem_getD (d := 0) hlen)
        have hwi := hp'.2.2 _ (mem_getD (d := []) (show ((elemsF s).getD 0 0).toNat < a.length by omega))
        have hw3 := hp'.2.1
        have hl8 : (elemsF s).length ≤ 8 := elemsL_length s 8 0
        conv => lhs; whnf
        repeat ((first | with_reducible apply br_tt | with_reducible apply br_ff | with_reducible apply br_nf | with_reducible apply br_nt | with_reducible refine br_d ?_ (by kernel_rfl) | with_reducible apply br_t h | with_reducible apply br_f h | with_reducible apply br_t h2 | with_reducible apply br_f h2 | with_reducible apply br_t h3 | with_reducible apply br_f h3); conv => lhs; whnf)
        conv => lhs; arg 1; whnf
        refine bnd_g (by exact True.intro) ?_
        conv => lhs; whnf
        refine br_t (dt2 (by omega) (by omega)) ?_
        conv => lhs; whnf
        refine br_t (dt (by omega)) ?_
        conv => lhs; whnf
        refine br_t (dt2 (by change 0 ≤ (elemsF s).getD 0 0; omega) (by change (elemsF s).getD 0 0 < a.length; omega)) ?_
        conv => lhs; whnf
        conv => lhs; arg 1; whnf
        refine bnd_g (by (change (a.getD ((elemsF s).getD 0 0).toNat []).length ≤ 1048576; omega)) ?_
        conv => lhs; whnf
        refine br_t (dt2 (by omega) (by omega)) ?_
        conv => lhs; whnf
        refine br_t (dt (by omega)) ?_
        conv => lhs; whnf
        refine br_t (dt2 (by change 0 ≤ (elemsF s).getD 0 0; omega) (by change (elemsF s).getD 0 0 < a.length; omega)) ?_
        conv => lhs; whnf
        conv => lhs; arg 1; whnf
        refine bnd_g (by (change (a.getD ((elemsF s).getD 0 0).toNat []).length ≤ 1048576; omega)) ?_
        conv => lhs; whnf
        refine br_t (by kernel_rfl) ?_
        conv => lhs; whnf
        refine (lp_implHullOf a hp'.1.2 _ hp'.2.2 hp'.2.1 (elemsF s) hl8 hm _ rfl _ (elemsF s).length _ 0 0 (a.getD ((elemsF s).getD 0 0).toNat []) (a.getD ((elemsF s).getD 0 0).toNat []) rfl (by omega) rfl (by change _ < 99; omega) hwi hwi).trans ?_
        conv => lhs; whnf
        have e : ∀ f : Int → Int → Int, (∀ n, f n n = n) → hullG f a ((elemsF s).drop 0) (a.getD ((elemsF s).getD 0 0).toNat []) = hullL f a s := by
          intro f hf
          obtain ⟨g, l, he, _⟩ := hE
          unfold hullL
          rw [he]
          exact hull_first f hf a
        rw [e min (fun n => by omega), e max (fun n => by omega)]
theorem ok_implHullOf : FnOk Tryd.prog 7 K_implHullOf := by
  refine fn_ok (fn := Tryd.f7) (k := Tryd.f7.ntmps) (E := E_implHullOf) (facts_of (List.forall_mem_cons.2 ⟨ok_implArePoints, List.forall_mem_cons.2 ⟨ok_implIsSet, List.forall_mem_cons.2 ⟨ok_elementsOf, List.forall_mem_cons.2 ⟨ok_cloneInt, List.forall_mem_nil _⟩⟩⟩⟩)) (by kernel_rfl) rfl (by decide +kernel) (by decide +kernel) ?_
  intro avs hin r h
  unfold K_implHullOf at h
  split at h
  · obtain ⟨hp, rfl⟩ := gd_o h
    exact ⟨_, ev_implHullOf _ _ hp, rfl⟩
  · cases h

/- impl.FittingPoints$1 -/
def K_fit1 : List AV → List Ob → Option (AV × List Ob)
  | [.int .i64 g, .vptr [.lst (.lst (.int .i64)) a] 0, .vptr [.lst (.int .i64) lo, .lst (.int .i64) hi] 0], [] => gd ((0 ≤ g ∧ g < a.length) ∧ (∀ x ∈ a, x.length = (a.getD 0 []).length) ∧ (lo.length = (a.getD 0 []).length ∧ hi.length = (a.getD 0 []).length ∧ (a.getD 0 []).length ≤ 3)) (.bool (fitP a lo hi g), [])
  | _, _ => none
@[reducible] def E_fit1 : Env := mkE (tb [(51, K_within)]) (fun f => false) (fun r => bif r == 2 then ([2, 10, 11, 12], [4]) else ([], []))
theorem lp_fit1 (y lo hi : List Int) (hl : lo.length = y.length) (hh : hi.length = y.length) (hy : y.length ≤ 1048576) (k : AX → S → Option (AV × List Ob)) (d : Nat) : ∀ (n i : Nat) (x : Int), y.length - i = d → i ≤ y.length → x = i → d < n →
    lpAt E_fit1 (lp E_fit1 0 n) 0 (loopAt Tryd.f50 0) (mkS [2, 10, 11, 12] [.vptr [.lst (.int .i64) lo, .lst (.int .i64) hi] 0, .lst (.int .i64) y, .int .i64 y.length, .int .i64 x] []) k =
      if allB (fitAt y lo hi) d i then k (.exit 0) (mkS [4] [.any] []) else k .ret (mkS [4] [.bool false] []) := by
  induction d with
  | zero =>
    intro n i x hd hi' hx hn
    subst hx
    rw [lpAt_def]
    conv => lhs; whnf
    refine br_f (df (by omega)) ?_
    conv => lhs; whnf
    rfl
  | succ d ih =>
    intro n i x hd hi' hx hn
    obtain ⟨n, rfl⟩ : ∃ m, n = m + 1 := ⟨n - 1, by omega⟩
    subst hx
    rw [lpAt_def]
    conv => lhs; whnf
    refine br_t (dt (by omega)) ?_
    conv => lhs; whnf
    refine br_t (dt2 (by omega) (by omega)) ?_
    conv => lhs; whnf
    refine br_t (dt2 (by omega) (by omega)) ?_
    conv => lhs; whnf
    refine br_t (dt2 (by omega) (by omega)) ?_
    conv => lhs; whnf
    conv => lhs; arg 1; whnf
    refine bnd_g (by exact True.intro) ?_
    conv => lhs; whnf
    refine br_t (by kernel_rfl) ?_
    conv => lhs; whnf
    refine br_c (fun h => ?_) (fun h => ?_)
    · have h' : fitAt y lo hi i = false := bnt h
      conv => lhs; whnf
      rw [if_neg (by rw [allB, h']; exact Bool.false_ne_true)]
    · have h' : fitAt y lo hi i = true := bnf h
      conv => lhs; whnf
      rw [ih n (i + 1) _ (by omega) (by omega) (by rw [wrap64 (by omega) (by omega)]; simp) (by omega)]
      rw [allB, h', Bool.true_and]
theorem ev_fit1 (g : Int) (a : List (List Int)) (lo hi : List Int) (hp : (0 ≤ g ∧ g < a.length) ∧ (∀ x ∈ a, x.length = (a.getD 0 []).length) ∧ (lo.length = (a.getD 0 []).length ∧ hi.length = (a.getD 0 []).length ∧ (a.getD 0 []).length ≤ 3)) : evF E_fit1 (20) Tryd.f50 [.int .i64 g, .vptr [.lst (.lst (.int .i64)) a] 0, .vptr [.lst (.int .i64) lo, .lst (.int .i64) hi] 0] [] = some (.bool (fitP a lo hi g), []) := by
  obtain ⟨⟨h0, h1⟩, h2, h3, h4, h5⟩ := hp
  have hm := h2 (a.getD g.toNat []) (mem_getD (by omega))
  conv => lhs; whnf
  refine br_t (dt2 h0 h1) ?_
  conv => lhs; whnf
  refine (lp_fit1 (a.getD g.toNat []) lo hi (by omega) (by omega) (by omega) _ (a.getD g.toNat []).length _ 0 0 rfl (by omega) rfl (by change _ < 19; omega)).trans ?_
  split
  · rename_i h
    conv => lhs; whnf
    exact okB h.symm
  · rename_i h
    conv => lhs; whnf
    rw [Bool.not_eq_true] at h
    exact okB h.symm
theorem ok_fit1 : FnOk Tryd.prog 50 K_fit1 := by
  refine fn_ok (fn := Tryd.f50) (k := Tryd.f50.ntmps) (E := E_fit1) (facts_of (List.forall_mem_cons.2 ⟨ok_within, List.forall_mem_nil _⟩)) (by kernel_rfl) rfl (by decide +kernel) (by decide +kernel) ?_
  intro avs hin r h
  unfold K_fit1 at h
  split at h
  · obtain ⟨hp, rfl⟩ := gd_o h
    exact ⟨_, ev_fit1 _ _ _ _ hp, rfl⟩
  · cases h

/- impl.accepted -/
def K_acc_fit1 : List AV → List Ob → Option (AV × List Ob)
  | [.int .i64 N, .clo 50 [.vptr [.lst (.lst (.int .i64)) a] 0, .vptr [.lst (.int .i64) lo, .lst (.int .i64) hi] 0]], [] => gd ((0 ≤ N ∧ N ≤ 8) ∧ N = (a.length : Int) ∧ (∀ x ∈ a, x.length = (a.getD 0 []).length) ∧ (lo.length = (a.getD 0 []).length ∧ hi.length = (a.getD 0 []).length ∧ (a.getD 0 []).length ≤ 3)) (.int .i64 (orF (fitP a lo hi) N.toNat 0 0), [])
  | _, _ => none
@[reducible] def E_acc_fit1 : Env := mkE (tb [(50, K_fit1)]) (fun f => false) (fun r => bif r == 3 then ([1, 5, 7, 8], [5]) else ([], []))
theorem lp_acc_fit1 (N : Nat) (a : List (List Int)) (lo hi : List Int) (ht : N = a.length ∧ (∀ x ∈ a, x.length = (a.getD 0 []).length) ∧ (lo.length = (a.getD 0 []).length ∧ hi.length = (a.getD 0 []).length ∧ (a.getD 0 []).length ≤ 3)) (hN : N ≤ 8) (k : AX → S → Option (AV × List Ob)) (d : Nat) : ∀ (n i : Nat) (x q : Int), N - i = d → i ≤ N → x = i → d < n →
    lpAt E_acc_fit1 (lp E_acc_fit1 0 n) 0 (loopAt Tryd.f49 0) (mkS [1, 5, 7, 8] [.clo 50 [.vptr [.lst (.lst (.int .i64)) a] 0, .vptr [.lst (.int .i64) lo, .lst (.int .i64) hi] 0], .int .i64 q, .int .i64 N, .int .i64 x] []) k =
      k (.exit 0) (mkS [5] [.int .i64 (orF (fitP a lo hi) d i q)] []) := by
  induction d with
  | zero =>
    intro n i x q hd hI hx hn
    subst hx
    rw [lpAt_def]
    conv => lhs; whnf
    refine br_f (df (by omega)) ?_
    conv => lhs; whnf
    rfl
  | succ d ih =>
    intro n i x q hd hI hx hn
    obtain ⟨n, rfl⟩ : ∃ m, n = m + 1 := ⟨n - 1, by omega⟩
    subst hx
    rw [lpAt_def]
    conv => lhs; whnf
    refine br_t (dt (by omega)) ?_
    conv => lhs; whnf
    conv => lhs; arg 1; whnf
    refine bnd_g (by exact ⟨⟨by omega, by omega⟩, ht.2⟩) ?_
    conv => lhs; whnf
    refine br_c (fun h => ?_) (fun h => ?_)
    · have h' : (fitP a lo hi) (i : Int) = true := h
      conv => lhs; whnf
      refine br_f (df (by omega)) ?_
      conv => lhs; whnf
      rw [shl1 (by omega)]
      rw [ih n (i + 1) _ _ (by omega) (by omega) (by rw [wrap64 (by omega) (by omega)]; simp) (by omega)]
      rw [orF, h', cond_true]
      rfl
    · have h' : (fitP a lo hi) (i : Int) = false := h
      conv => lhs; whnf
      rw [ih n (i + 1) _ _ (by omega) (by omega) (by rw [wrap64 (by omega) (by omega)]; simp) (by omega)]
      rw [orF, h', cond_false]
theorem ev_acc_fit1 (N : Int) (a : List (List Int)) (lo hi : List Int) (hp : (0 ≤ N ∧ N ≤ 8) ∧ N = (a.length : Int) ∧ (∀ x ∈ a, x.length = (a.getD 0 []).length) ∧ (lo.length = (a.getD 0 []).length ∧ hi.length = (a.getD 0 []).length ∧ (a.getD 0 []).length ≤ 3)) : evF E_acc_fit1 (20) Tryd.f49 [.int .i64 N, .clo 50 [.vptr [.lst (.lst (.int .i64)) a] 0, .vptr [.lst (.int .i64) lo, .lst (.int .i64) hi] 0]] [] = some (.int .i64 (orF (fitP a lo hi) N.toNat 0 0), []) := by
  obtain ⟨M, rfl⟩ : ∃ M : Nat, N = M := ⟨N.toNat, by omega⟩
  rw [Int.toNat_natCast]
  conv => lhs; whnf
  refine (lp_acc_fit1 M a lo hi ⟨by omega, hp.2.2⟩ (by omega) _ M _ 0 0 _ rfl (by omega) rfl (by change M < 19; omega)).trans ?_
  conv => lhs; whnf
theorem ok_acc_fit1 : FnOk Tryd.prog 49 K_acc_fit1 := by
  refine fn_ok (fn := Tryd.f49) (k := Tryd.f49.ntmps) (E := E_acc_fit1) (facts_of (List.forall_mem_cons.2 ⟨ok_fit1, List.forall_mem_nil _⟩)) (by kernel_rfl) rfl (by decide +kernel) (by decide +kernel) ?_
  intro avs hin r h
  unfold K_acc_fit1 at h
  split at h
  · obtain ⟨hp, rfl⟩ := gd_o h
    exact ⟨_, ev_acc_fit1 _ _ _ _ hp, rfl⟩
  · cases h

/- impl.FittingPoints -/
def K_implFittingPoints : List AV → List Ob → Option (AV × List Ob)
  | [.lst (.lst (.int .i64)) a, .agg [.lst (.int .i64) lo, .lst (.int .i64) hi]], [] => gd ((a.length ≤ 1048576 ∧ ∀ x ∈ a, x.length ≤ 1048576) ∧ (lo.length ≤ 1048576 ∧ hi.length ≤ 1048576)) (.int .i64 (fitF a lo hi), [])
  | _, _ => none
@[reducible] def E_implFittingPoints : Env := mkE (tb [(23, K_implArePoints), (49, K_acc_fit1)]) (fun f => false) (fun r => ([], []))
theorem ev_implFittingPoints (a : List (List Int)) (lo hi : List Int) (hp : (a.length ≤ 1048576 ∧ ∀ x ∈ a, x.length ≤ 1048576) ∧ (lo.length ≤ 1048576 ∧ hi.length ≤ 1048576)) : evF E_implFittingPoints (1) Tryd.f10 [.lst (.lst (.int .i64)) a, .agg [.lst (.int .i64) lo, .lst (.int .i64) hi]] [] = some (.int .i64 (fitF a lo hi), []) := by
  conv => lhs; whnf
  conv => lhs; arg 1; whnf
  refine bnd_g (by exact hp.1) ?_
  conv => lhs; whnf
  refine br_c (fun h => ?_) (fun h => ?_)
  · conv => lhs; whnf
    repeat ((first | with_reducible apply br_tt | with_reducible apply br_ff | with_reducible apply br_nf | with_reducible apply br_nt | with_reducible refine br_d ?_ (by kernel_rfl) | with_reducible apply br_t h | with_reducible apply br_f h); conv => lhs; whnf)
    refine okI ?_
    unfold fitF
    rw [bnt h]
    rfl
  · have hA := arePts_parts (bnf h)
    conv => lhs; whnf
    repeat ((first | with_reducible apply br_tt | with_reducible apply br_ff | with_reducible apply br_nf | with_reducible apply br_nt | with_reducible refine br_d ?_ (by kernel_rfl) | with_reducible apply br_t h | with_reducible apply br_f h); conv => lhs; whnf)
    refine br_t (dt2 (by omega) (by change (0 : Int) < (a.length : Int); omega)) ?_
    conv => lhs; whnf
    repeat ((first | with_reducible apply br_tt | with_reducible apply br_ff | with_reducible apply br_nf | with_reducible apply br_nt | with_reducible refine br_d ?_ (by kernel_rfl) | with_reducible apply br_t h | with_reducible apply br_f h); conv => lhs; whnf)
    refine br_c (fun h2 => ?_) (fun h2 => ?_)
    · have h' : decide (lo.length = (a.getD 0 []).length) = false := by
        refine df fun e => ?_
        have h2 : ((lo.length : Int) != ((a.getD 0 []).length : Int)) = true := h2
        rw [e] at h2
        simp at h2
      conv => lhs; whnf
      repeat ((first | with_reducible apply br_tt | with_reducible apply br_ff | with_reducible apply br_nf | with_reducible apply br_nt | with_reducible refine br_d ?_ (by kernel_rfl) | with_reducible apply br_t h2 | with_reducible apply br_f h2); conv => lhs; whnf)
      refine okI ?_
      unfold fitF
      rw [h', Bool.and_false, Bool.false_and]
      rfl
    · have h' : lo.length = (a.getD 0 []).length := by
        have h2 : ((lo.length : Int) != ((a.getD 0 []).length : Int)) = false := h2
        simp only [bne_eq_false_iff_eq] at h2
        omega
      conv => lhs; whnf
      repeat ((first | with_reducible apply br_tt | with_reducible apply br_ff | with_reducible apply br_nf | with_reducible apply br_nt | with_reducible refine br_d ?_ (by kernel_rfl) | with_reducible apply br_t h2 | with_reducible apply br_f h2); conv => lhs; whnf)
      refine br_t (dt2 (by omega) (by change (0 : Int) < (a.length : Int); omega)) ?_
      conv => lhs; whnf
      repeat ((first | with_reducible apply br_tt | with_reducible apply br_ff | with_reducible apply br_nf | with_reducible apply br_nt | with_reducible refine br_d ?_ (by kernel_rfl) | with_reducible apply br_t h2 | with_reducible apply br_f h2); conv => lhs; whnf)
      refine br_c (fun h3 => ?_) (fun h3 => ?_)
      · have h'' : decide (hi.length = (a.getD 0 []).length) = false := by
          refine df fun e => ?_
          have h2 : ((hi.length : Int) != ((a.getD 0 []).length : Int)) = true := h3
          rw [e] at h2
          simp at h2
        conv => lhs; whnf
        refine okI ?_
        unfold fitF
        rw [h'', Bool.and_false]
        rfl
      · have h'' : hi.length = (a.getD 0 []).length := by
          have h2 : ((hi.length : Int) != ((a.getD 0 []).length : Int)) = false := h3
          simp only [bne_eq_false_iff_eq] at h2
          omega
        conv => lhs; whnf
        conv => lhs; arg 1; whnf
        refine bnd_g (by exact ⟨⟨by omega, by omega⟩, rfl, hA.2.2, h', h'', hA.2.1⟩) ?_
        conv => lhs; whnf
        refine okI ?_
        unfold fitF
        rw [bnf h, dt h', dt h'']
        rfl
theorem ok_implFittingPoints : FnOk Tryd.prog 10 K_implFittingPoints := by
  refine fn_ok (fn := Tryd.f10) (k := Tryd.f10.ntmps) (E := E_implFittingPoints) (facts_of (List.forall_mem_cons.2 ⟨ok_implArePoints, List.forall_mem_cons.2 ⟨ok_acc_fit1, List.forall_mem_nil _⟩⟩)) (by kernel_rfl) rfl (by decide +kernel) (by decide +kernel) ?_
  intro avs hin r h
  unfold K_implFittingPoints at h
  split at h
  · obtain ⟨hp, rfl⟩ := gd_o h
    exact ⟨_, ev_implFittingPoints _ _ _ hp, rfl⟩
  · cases h

/- spec.FittingPoints -/
def K_specFittingPoints : List AV → List Ob → Option (AV × List Ob)
  | [.lst (.lst (.int .i64)) a, .agg [.lst (.int .i64) lo, .lst (.int .i64) hi]], [] => gd ((a.length ≤ 1048576 ∧ ∀ x ∈ a, x.length ≤ 1048576) ∧ (lo.length ≤ 1048576 ∧ hi.length ≤ 1048576)) (.int .i64 (fitF a lo hi), [])
  | _, _ => none
@[reducible] def E_specFittingPoints : Env := mkE (tb [(24, K_specArePoints), (52, K_l1In)]) (fun f => false) (fun r => bif r == 5 then ([0, 3, 5, 6], [0, 3, 5, 6, 7]) else bif r == 9 then ([0, 3, 5, 6, 7, 8], [0, 3, 5, 6, 7]) else ([], []))
theorem lq_specFittingPoints (a : List (List Int)) (lo hi : List Int) (g : Nat) (hg : g < a.length) (y : List Int) (hy : a.getD g [] = y) (hl : lo.length = y.length) (hh : hi.length = y.length) (h3 : y.length ≤ 3) (q : Int) (k : AX → S → Option (AV × List Ob)) (d : Nat) : ∀ (n i : Nat) (x : Int) (f : Bool), y.length - i = d → i ≤ y.length → x = i → d < n →
    lpAt E_specFittingPoints (lp E_specFittingPoints 0 n) 0 (loopAt Tryd.f16 1) (mkS [0, 3, 5, 6, 7, 8] [.lst (.lst (.int .i64)) a, .ptr 0 0, .int .i64 q, .int .i64 (g : Int), .bool f, .int .i64 x] [some (.box 29 [.lst (.int .i64) lo, .lst (.int .i64) hi])]) k =
      k (.exit 2) (mkS [0, 3, 5, 6, 7] [.lst (.lst (.int .i64)) a, .ptr 0 0, .int .i64 q, .int .i64 (g : Int), .bool (f && allB (fitAt y lo hi) d i)] [some (.box 29 [.lst (.int .i64) lo, .lst (.int .i64) hi])]) := by
  subst hy
  induction d with
  | zero =>
    intro n i x f hd hi' hx hn
    subst hx
    rw [lpAt_def]
    conv => lhs; whnf
    refine br_t (dt2 (by omega) (by omega)) ?_
    conv => lhs; whnf
    refine br_f (df (by change ¬ ((i : Int) < ((a.getD g []).length : Int)); omega)) ?_
    conv => lhs; whnf
    rw [allB, Bool.and_true]
  | succ d ih =>
    intro n i x f hd hi' hx hn
    obtain ⟨n, rfl⟩ : ∃ m, n = m + 1 := ⟨n - 1, by omega⟩
    subst hx
    rw [lpAt_def]
    conv => lhs; whnf
    refine br_t (dt2 (by omega) (by omega)) ?_
    conv => lhs; whnf
    refine br_t (dt (by change ((i : Int) < ((a.getD g []).length : Int)); omega)) ?_
    conv => lhs; whnf
    refine br_c (fun h => ?_) (fun h => ?_)
    · conv => lhs; whnf
      repeat ((first | with_reducible apply br_tt | with_reducible apply br_ff | with_reducible apply br_nf | with_reducible apply br_nt | with_reducible refine br_d ?_ (by kernel_rfl) | with_reducible apply br_t h | with_reducible apply br_f h | with_reducible refine br_t (dt2 (by omega) (by omega)) ?_); conv => lhs; whnf)
      refine br_t (dt2 (by omega) (by change ((i : Int) < ((a.getD g []).length : Int)); omega)) ?_
      conv => lhs; whnf
      repeat ((first | with_reducible apply br_tt | with_reducible apply br_ff | with_reducible apply br_nf | with_reducible apply br_nt | with_reducible refine br_d ?_ (by kernel_rfl) | with_reducible apply br_t h | with_reducible apply br_f h | with_reducible refine br_t (dt2 (by omega) (by omega)) ?_); conv => lhs; whnf)
      conv => lhs; arg 1; whnf
      refine bnd_g (by exact True.intro) ?_
      conv => lhs; whnf
      repeat ((first | with_reducible apply br_tt | with_reducible apply br_ff | with_reducible apply br_nf | with_reducible apply br_nt | with_reducible refine br_d ?_ (by kernel_rfl) | with_reducible apply br_t h | with_reducible apply br_f h | with_reducible refine br_t (dt2 (by omega) (by omega)) ?_); conv => lhs; whnf)
      rw [ih n (i + 1) _ _ (by omega) (by omega) (by rw [wrap64 (by omega) (by omega)]; simp) (by omega)]
      rw [h, allB, Bool.true_and]
      rfl
    · conv => lhs; whnf
      repeat ((first | with_reducible apply br_tt | with_reducible apply br_ff | with_reducible apply br_nf | with_reducible apply br_nt | with_reducible refine br_d ?_ (by kernel_rfl) | with_reducible apply br_t h | with_reducible apply br_f h | with_reducible refine br_t (dt2 (by omega) (by omega)) ?_); conv => lhs; whnf)
      rw [ih n (i + 1) _ _ (by omega) (by omega) (by rw [wrap64 (by omega) (by omega)]; simp) (by omega)]
      simp only [h, Bool.false_and]

theorem lp_specFittingPoints (a : List (List Int)) (lo hi : List Int) (h8 : a.length ≤ 8) (hw : ∀ x ∈ a, x.length = (a.getD 0 []).length) (hl : lo.length = (a.getD 0 []).length) (hh : hi.length = (a.getD 0 []).length) (h3 : (a.getD 0 []).length ≤ 3) (k : AX → S → Option (AV × List Ob)) (d : Nat) : ∀ (n i : Nat) (x q : Int), a.length - i = d → i ≤ a.length → x = i → d + 10 < n →
    lpAt E_specFittingPoints (lp E_specFittingPoints 0 n) 0 (loopAt Tryd.f16 0) (mkS [0, 3, 5, 6] [.lst (.lst (.int .i64)) a, .ptr 0 0, .int .i64 q, .int .i64 x] [some (.box 29 [.lst (.int .i64) lo, .lst (.int .i64) hi])]) k =
      k (.exit 0) (mkS [0, 3, 5, 6, 7] [.lst (.lst (.int .i64)) a, .ptr 0 0, .int .i64 (orF (fitP a lo hi) d i q), .int .i64 (a.length : Int), .any] [some (.box 29 [.lst (.int .i64) lo, .lst (.int .i64) hi])]) := by
  induction d with
  | zero =>
    intro n i x q hd hi' hx hn
    subst hx
    rw [lpAt_def]
    conv => lhs; whnf
    refine br_f (df (by omega)) ?_
    conv => lhs; whnf
    have : i = a.length := by omega
    rw [orF, this]
  | succ d ih =>
    intro n i x q hd hi' hx hn
    obtain ⟨n, rfl⟩ : ∃ m, n = m + 1 := ⟨n - 1, by omega⟩
    subst hx
    have hwi := hw _ (mem_getD (d := []) (show i < a.length by omega))
    rw [lpAt_def]
    conv => lhs; whnf
    refine br_t (dt (by omega)) ?_
    conv => lhs; whnf
    refine (lq_specFittingPoints a lo hi i (by omega) _ rfl (by omega) (by omega) (by omega) q _ (a.getD i []).length _ 0 0 _ rfl (by omega) rfl (by omega)).trans ?_
    rw [Bool.true_and]
    conv => lhs; whnf
    refine br_c (fun h => ?_) (fun h => ?_)
    · have h' : fitP a lo hi (i : Int) = true := h
      conv => lhs; whnf
      refine br_f (by (rw [wrapu (n := (i : Int)) (by omega) (by omega)]; exact df (by omega))) ?_
      conv => lhs; whnf
      rw [shl1u (by omega)]
      rw [ih n (i + 1) _ _ (by omega) (by omega) (by rw [wrap64 (by omega) (by omega)]; simp) (by omega)]
      rw [orF, h', cond_true]
      rfl
    · have h' : fitP a lo hi (i : Int) = false := h
      conv => lhs; whnf
      rw [ih n (i + 1) _ _ (by omega) (by omega) (by rw [wrap64 (by omega) (by omega)]; simp) (by omega)]
      rw [orF, h', cond_false]
theorem ev_specFittingPoints (a : List (List Int)) (lo hi : List Int) (hp : (a.length ≤ 1048576 ∧ ∀ x ∈ a, x.length ≤ 1048576) ∧ (lo.length ≤ 1048576 ∧ hi.length ≤ 1048576)) : evF E_specFittingPoints (40) Tryd.f16 [.lst (.lst (.int .i64)) a, .agg [.lst (.int .i64) lo, .lst (.int .i64) hi]] [] = some (.int .i64 (fitF a lo hi), []) := by
  conv => lhs; whnf
  conv => lhs; arg 1; whnf
  refine bnd_g (by exact hp.1) ?_
  conv => lhs; whnf
  refine br_c (fun h => ?_) (fun h => ?_)
  · conv => lhs; whnf
    repeat ((first | with_reducible apply br_tt | with_reducible apply br_ff | with_reducible apply br_nf | with_reducible apply br_nt | with_reducible refine br_d ?_ (by kernel_rfl) | with_reducible apply br_t h | with_reducible apply br_f h); conv => lhs; whnf)
    refine okI ?_
    unfold fitF
    rw [bnt h]
    rfl
  · have hA := arePts_parts (bnf h)
    conv => lhs; whnf
    repeat ((first | with_reducible apply br_tt | with_reducible apply br_ff | with_reducible apply br_nf | with_reducible apply br_nt | with_reducible refine br_d ?_ (by kernel_rfl) | with_reducible apply br_t h | with_reducible apply br_f h); conv => lhs; whnf)
    refine br_t (dt2 (by omega) (by change (0 : Int) < (a.length : Int); omega)) ?_
    conv => lhs; whnf
    repeat ((first | with_reducible apply br_tt | with_reducible apply br_ff | with_reducible apply br_nf | with_reducible apply br_nt | with_reducible refine br_d ?_ (by kernel_rfl) | with_reducible apply br_t h | with_reducible apply br_f h); conv => lhs; whnf)
    refine br_c (fun h2 => ?_) (fun h2 => ?_)
    · have h' : decide (lo.length = (a.getD 0 []).length) = false := by
        refine df fun e => ?_
        have h2 : ((lo.length : Int) != ((a.getD 0 []).length : Int)) = true := h2
        rw [e] at h2
        simp at h2
      conv => lhs; whnf
      repeat ((first | with_reducible apply br_tt | with_reducible apply br_ff | with_reducible apply br_nf | with_reducible apply br_nt | with_reducible refine br_d ?_ (by kernel_rfl) | with_reducible apply br_t h2 | with_reducible apply br_f h2); conv => lhs; whnf)
      refine okI ?_
      unfold fitF
      rw [h', Bool.and_false, Bool.false_and]
      rfl
    · have h' : lo.length = (a.getD 0 []).length := by
        have h2 : ((lo.length : Int) != ((a.getD 0 []).length : Int)) = false := h2
        simp only [bne_eq_false_iff_eq] at h2
        omega
      conv => lhs; whnf
      repeat ((first | with_reducible apply br_tt | with_reducible apply br_ff | with_reducible apply br_nf | with_reducible apply br_nt | with_reducible refine br_d ?_ (by kernel_rfl) | with_reducible apply br_t h2 | with_reducible apply br_f h2); conv => lhs; whnf)
      refine br_t (dt2 (by omega) (by change (0 : Int) < (a.length : Int); omega)) ?_
      conv => lhs; whnf
      repeat ((first | with_reducible apply br_tt | with_reducible apply br_ff | with_reducible apply br_nf | with_reducible apply br_nt | with_reducible refine br_d ?_ (by kernel_rfl) | with_reducible apply br_t h2 | with_reducible apply br_f h2); conv => lhs; whnf)
      refine br_c (fun h3 => ?_) (fun h3 => ?_)
      · have h'' : decide (hi.length = (a.getD 0 []).length) = false := by
          refine df fun e => ?_
          have h2 : ((hi.length : Int) != ((a.getD 0 []).length : Int)) = true := h3
          rw [e] at h2
          simp at h2
        conv => lhs; whnf
        refine okI ?_
        unfold fitF
        rw [h'', Bool.and_false]
        rfl
      · have h'' : hi.length = (a.getD 0 []).length := by
          have h2 : ((hi.length : Int) != ((a.getD 0 []).length : Int)) = false := h3
          simp only [bne_eq_false_iff_eq] at h2
          omega
        conv => lhs; whnf
        refine (lp_specFittingPoints a lo hi hA.1.2 hA.2.2 h' h'' hA.2.1 _ a.length _ 0 0 0 rfl (by omega) rfl (by change _ < 39; omega)).trans ?_
        conv => lhs; whnf
        refine okI ?_
        unfold fitF
        rw [bnf h, dt h', dt h'']
        rfl
theorem ok_specFittingPoints : FnOk Tryd.prog 16 K_specFittingPoints := by
  refine fn_ok (fn := Tryd.f16) (k := Tryd.f16.ntmps) (E := E_specFittingPoints) (facts_of (List.forall_mem_cons.2 ⟨ok_specArePoints, List.forall_mem_cons.2 ⟨ok_l1In, List.forall_mem_nil _⟩⟩)) (by kernel_rfl) rfl (by decide +kernel) (by decide +kernel) ?_
  intro avs hin r h
  unfold K_specFittingPoints at h
  split at h
  · obtain ⟨hp, rfl⟩ := gd_o h
    exact ⟨_, ev_specFittingPoints _ _ _ hp, rfl⟩
  · cases h

/- impl.IsWider -/
def K_implIsWider : List AV → List Ob → Option (AV × List Ob)
  | [.agg [.lst (.int .i64) a, .lst (.int .i64) b], .agg [.lst (.int .i64) c, .lst (.int .i64) e]], [] => gd (a.length < 4611686018427387904 ∧ b.length < 4611686018427387904 ∧ c.length < 4611686018427387904 ∧ e.length < 4611686018427387904) (.bool (isWider a b c e), [])
  | _, _ => none
@[reducible] def E_implIsWider : Env := mkE (tb []) (fun f => false) (fun r => bif r == 5 then ([2, 3, 29, 30], [4]) else ([], []))
theorem lp_implIsWider (a b c e : List Int) (hb : b.length = a.length) (hc : c.length = a.length) (he : e.length = a.length) (ha : a.length < 4611686018427387904) (k : AX → S → Option (AV × List Ob)) (d : Nat) : ∀ (n i : Nat) (x : Int), a.length - i = d → i ≤ a.length → x = i → d < n →
    lpAt E_implIsWider (lp E_implIsWider 0 n) 0 (loopAt Tryd.f17 0) (mkS [2, 3, 29, 30] [.ptr 0 0, .ptr 1 0, .int .i64 a.length, .int .i64 x] [some (.box 29 [.lst (.int .i64) a, .lst (.int .i64) b]), some (.box 29 [.lst (.int .i64) c, .lst (.int .i64) e])]) k =
      if allB (widerAt a b c e) d i then k (.exit 0) (mkS [4] [.any] []) else k .ret (mkS [4] [.bool false] []) := by
  induction d with
  | zero =>
    intro n i x hd hi hx hn
    subst hx
    rw [lpAt_def]
    conv => lhs; whnf
    refine br_f (df (by omega)) ?_
    conv => lhs; whnf
    rfl
  | succ d ih =>
    intro n i x hd hi hx hn
    obtain ⟨n, rfl⟩ : ∃ m, n = m + 1 := ⟨n - 1, by omega⟩
    subst hx
    rw [lpAt_def]
    conv => lhs; whnf
    refine br_t (dt (by omega)) ?_
    conv => lhs; whnf
    refine br_t (dt2 (by omega) (by omega)) ?_
    conv => lhs; whnf
    refine br_t (dt2 (by omega) (by omega)) ?_
    conv => lhs; whnf
    refine br_c (fun h => ?_) (fun h => ?_)
    · conv => lhs; whnf
      repeat ((first | with_reducible apply br_tt | with_reducible apply br_ff | with_reducible apply br_nf | with_reducible apply br_nt | with_reducible refine br_d ?_ (by kernel_rfl) | with_reducible apply br_t h | with_reducible apply br_f h); conv => lhs; whnf)
      rw [if_neg]
      simp [allB, widerAt] at h ⊢
      omega
    · conv => lhs; whnf
      repeat ((first | with_reducible apply br_tt | with_reducible apply br_ff | with_reducible apply br_nf | with_reducible apply br_nt | with_reducible refine br_d ?_ (by kernel_rfl) | with_reducible apply br_t h | with_reducible apply br_f h); conv => lhs; whnf)
      refine br_t (dt2 (by omega) (by omega)) ?_
      conv => lhs; whnf
      repeat ((first | with_reducible apply br_tt | with_reducible apply br_ff | with_reducible apply br_nf | with_reducible apply br_nt | with_reducible refine br_d ?_ (by kernel_rfl) | with_reducible apply br_t h | with_reducible apply br_f h); conv => lhs; whnf)
      refine br_t (dt2 (by omega) (by omega)) ?_
      conv => lhs; whnf
      repeat ((first | with_reducible apply br_tt | with_reducible apply br_ff | with_reducible apply br_nf | with_reducible apply br_nt | with_reducible refine br_d ?_ (by kernel_rfl) | with_reducible apply br_t h | with_reducible apply br_f h); conv => lhs; whnf)
      refine br_c (fun h' => ?_) (fun h' => ?_)
      · conv => lhs; whnf
        rw [if_neg]
        simp [allB, widerAt] at h h' ⊢
        omega
      · conv => lhs; whnf
        rw [ih n (i + 1) _ (by omega) (by omega) (by rw [wrap64 (by omega) (by omega)]; simp) (by omega)]
        have : widerAt a b c e i = true := by simp [widerAt] at h h' ⊢; omega
        simp [allB, this]
theorem ev_implIsWider (a b c e : List Int) (hp : a.length < 4611686018427387904 ∧ b.length < 4611686018427387904 ∧ c.length < 4611686018427387904 ∧ e.length < 4611686018427387904) : evF E_implIsWider (a.length + 2) Tryd.f17 [.agg [.lst (.int .i64) a, .lst (.int .i64) b], .agg [.lst (.int .i64) c, .lst (.int .i64) e]] [] = some (.bool (isWider a b c e), []) := by
  conv => lhs; whnf
  refine br_c (fun h1 => ?_) (fun h1 => ?_)
  · conv => lhs; whnf
    repeat ((first | with_reducible apply br_tt | with_reducible apply br_ff | with_reducible apply br_nf | with_reducible apply br_nt | with_reducible refine br_d ?_ (by kernel_rfl) | with_reducible apply br_t h1 | with_reducible apply br_f h1); conv => lhs; whnf)
    have : isWider a b c e = false := by simp at h1; simp [isWider]; omega
    rw [this]
  · conv => lhs; whnf
    repeat ((first | with_reducible apply br_tt | with_reducible apply br_ff | with_reducible apply br_nf | with_reducible apply br_nt | with_reducible refine br_d ?_ (by kernel_rfl) | with_reducible apply br_t h1 | with_reducible apply br_f h1); conv => lhs; whnf)
    refine br_c (fun h2 => ?_) (fun h2 => ?_)
    · conv => lhs; whnf
      repeat ((first | with_reducible apply br_tt | with_reducible apply br_ff | with_reducible apply br_nf | with_reducible apply br_nt | with_reducible refine br_d ?_ (by kernel_rfl) | with_reducible apply br_t h1 | with_reducible apply br_f h1 | with_reducible apply br_t h2 | with_reducible apply br_f h2); conv => lhs; whnf)
      have : isWider a b c e = false := by simp at h2; simp [isWider]; omega
      rw [this]
    · conv => lhs; whnf
      repeat ((first | with_reducible apply br_tt | with_reducible apply br_ff | with_reducible apply br_nf | with_reducible apply br_nt | with_reducible refine br_d ?_ (by kernel_rfl) | with_reducible apply br_t h1 | with_reducible apply br_f h1 | with_reducible apply br_t h2 | with_reducible apply br_f h2); conv => lhs; whnf)
      refine br_c (fun h3 => ?_) (fun h3 => ?_)
      · conv => lhs; whnf
        have : isWider a b c e = false := by simp at h3; simp [isWider]; omega
        rw [this]
      · conv => lhs; whnf
        have q1 : b.length = a.length := by simp at h1; omega
        have q2 : c.length = a.length := by simp at h2; omega
        have q3 : e.length = a.length := by simp at h3; omega
        refine (lp_implIsWider a b c e q1 q2 q3 hp.1 _ a.length _ 0 0 rfl (by omega) rfl (by omega)).trans ?_
        have hw : isWider a b c e = allB (widerAt a b c e) a.length 0 := by simp [isWider, q1, q2, q3]
        rw [hw]
        split
        · rename_i h
          conv => lhs; whnf
          rw [h]
        · rename_i h
          conv => lhs; whnf
          rw [Bool.not_eq_true] at h
          rw [h]
theorem ok_implIsWider : FnOk Tryd.prog 17 K_implIsWider := by
  refine fn_ok (fn := Tryd.f17) (k := Tryd.f17.ntmps) (E := E_implIsWider) (facts_of (List.forall_mem_nil _)) (by kernel_rfl) rfl (by decide +kernel) (by decide +kernel) ?_
  intro avs hin r h
  unfold K_implIsWider at h
  split at h
  · obtain ⟨hp, rfl⟩ := gd_o h
    exact ⟨_, ev_implIsWider _ _ _ _ hp, rfl⟩
  · cases h

/- spec.IsWider -/
def K_specIsWider : List AV → List Ob → Option (AV × List Ob)
  | [.agg [.lst (.int .i64) a, .lst (.int .i64) b], .agg [.lst (.int .i64) c, .lst (.int .i64) e]], [] => gd (a.length < 4611686018427387904 ∧ b.length < 4611686018427387904 ∧ c.length < 4611686018427387904 ∧ e.length < 4611686018427387904) (.bool (isWider a b c e), [])
  | _, _ => none
@[reducible] def E_specIsWider : Env := mkE (tb []) (fun f => false) (fun r => bif r == 5 then ([2, 3, 5, 6], [4]) else ([], []))
theorem lp_specIsWider (a b c e : List Int) (hb : b.length = a.length) (hc : c.length = a.length) (he : e.length = a.length) (ha : a.length < 4611686018427387904) (k : AX → S → Option (AV × List Ob)) (d : Nat) : ∀ (n i : Nat) (x : Int), a.length - i = d → i ≤ a.length → x = i → d < n →
    lpAt E_specIsWider (lp E_specIsWider 0 n) 0 (loopAt Tryd.f18 0) (mkS [2, 3, 5, 6] [.ptr 0 0, .ptr 1 0, .int .i64 a.length, .int .i64 x] [some (.box 29 [.lst (.int .i64) a, .lst (.int .i64) b]), some (.box 29 [.lst (.int .i64) c, .lst (.int .i64) e])]) k =
      if allB (widerAt a b c e) d i then k (.exit 0) (mkS [4] [.any] []) else k .ret (mkS [4] [.bool false] []) := by
  induction d with
  | zero =>
    intro n i x hd hi hx hn
    subst hx
    rw [lpAt_def]
    conv => lhs; whnf
    refine br_f (df (by omega)) ?_
    conv => lhs; whnf
    rfl
  | succ d ih =>
    intro n i x hd hi hx hn
    obtain ⟨n, rfl⟩ : ∃ m, n = m + 1 := ⟨n - 1, by omega⟩
    subst hx
    rw [lpAt_def]
    conv => lhs; whnf
    refine br_t (dt (by omega)) ?_
    conv => lhs; whnf
    refine br_t (dt2 (by omega) (by omega)) ?_
    conv => lhs; whnf
    refine br_t (dt2 (by omega) (by omega)) ?_
    conv => lhs; whnf
    refine br_c (fun h => ?_) (fun h => ?_)
    · conv => lhs; whnf
      repeat ((first | with_reducible apply br_tt | with_reducible apply br_ff | with_reducible apply br_nf | with_reducible apply br_nt | with_reducible refine br_d ?_ (by kernel_rfl) | with_reducible apply br_t h | with_reducible apply br_f h); conv => lhs; whnf)
      rw [if_neg]
      simp [allB, widerAt] at h ⊢
      omega
    · conv => lhs; whnf
      repeat ((first | with_reducible apply br_tt | with_reducible apply br_ff | with_reducible apply br_nf | with_reducible apply br_nt | with_reducible refine br_d ?_ (by kernel_rfl) | with_reducible apply br_t h | with_reducible apply br_f h); conv => lhs; whnf)
      refine br_t (dt2 (by omega) (by omega)) ?_
      conv => lhs; whnf
      repeat ((first | with_reducible apply br_tt | with_reducible apply br_ff | with_reducible apply br_nf | with_reducible apply br_nt | with_reducible refine br_d ?_ (by kernel_rfl) | with_reducible apply br_t h | with_reducible apply br_f h); conv => lhs; whnf)
      refine br_t (dt2 (by omega) (by omega)) ?_
      conv => lhs; whnf
      repeat ((first | with_reducible apply br_tt | with_reducible apply br_ff | with_reducible apply br_nf | with_reducible apply br_nt | with_reducible refine br_d ?_ (by kernel_rfl) | with_reducible apply br_t h | with_reducible apply br_f h); conv => lhs; whnf)
      refine br_c (fun h' => ?_) (fun h' => ?_)
      · conv => lhs; whnf
        rw [if_neg]
        simp [allB, widerAt] at h h' ⊢
        omega
      · conv => lhs; whnf
        rw [ih n (i + 1) _ (by omega) (by omega) (by rw [wrap64 (by omega) (by omega)]; simp) (by omega)]
        have : widerAt a b c e i = true := by simp [widerAt] at h h' ⊢; omega
        simp [allB, this]
theorem ev_specIsWider (a b c e : List Int) (hp : a.length < 4611686018427387904 ∧ b.length < 4611686018427387904 ∧ c.length < 4611686018427387904 ∧ e.length < 4611686018427387904) : evF E_specIsWider (a.length + 2) Tryd.f18 [.agg [.lst (.int .i64) a, .lst (.int .i64) b], .agg [.lst (.int .i64) c, .lst (.int .i64) e]] [] = some (.bool (isWider a b c e), []) := by
  conv => lhs; whnf
  refine br_c (fun h1 => ?_) (fun h1 => ?_)
  · conv => lhs; whnf
    repeat ((first | with_reducible apply br_tt | with_reducible apply br_ff | with_reducible apply br_nf | with_reducible apply br_nt | with_reducible refine br_d ?_ (by kernel_rfl) | with_reducible apply br_t h1 | with_reducible apply br_f h1); conv => lhs; whnf)
    have : isWider a b c e = false := by simp at h1; simp [isWider]; omega
    rw [this]
  · conv => lhs; whnf
    repeat ((first | with_reducible apply br_tt | with_reducible apply br_ff | with_reducible apply br_nf | with_reducible apply br_nt | with_reducible refine br_d ?_ (by kernel_rfl) | with_reducible apply br_t h1 | with_reducible apply br_f h1); conv => lhs; whnf)
    refine br_c (fun h2 => ?_) (fun h2 => ?_)
    · conv => lhs; whnf
      repeat ((first | with_reducible apply br_tt | with_reducible apply br_ff | with_reducible apply br_nf | with_reducible apply br_nt | with_reducible refine br_d ?_ (by kernel_rfl) | with_reducible apply br_t h1 | with_reducible apply br_f h1 | with_reducible apply br_t h2 | with_reducible apply br_f h2); conv => lhs; whnf)
      have : isWider a b c e = false := by simp at h2; simp [isWider]; omega
      rw [this]
    · conv => lhs; whnf
      repeat ((first | with_reducible apply br_tt | with_reducible apply br_ff | with_reducible apply br_nf | with_reducible apply br_nt | with_reducible refine br_d ?_ (by kernel_rfl) | with_reducible apply br_t h1 | with_reducible apply br_f h1 | with_reducible apply br_t h2 | with_reducible apply br_f h2); conv => lhs; whnf)
      refine br_c (fun h3 => ?_) (fun h3 => ?_)
      · conv => lhs; whnf
        have : isWider a b c e = false := by simp at h3; simp [isWider]; omega
        rw [this]
      · conv => lhs; whnf
        have q1 : b.length = a.length := by simp at h1; omega
        have q2 : c.length = a.length := by simp at h2; omega
        have q3 : e.length = a.length := by simp at h3; omega
        refine (lp_specIsWider a b c e q1 q2 q3 hp.1 _ a.length _ 0 0 rfl (by omega) rfl (by omega)).trans ?_
        have hw : isWider a b c e = allB (widerAt a b c e) a.length 0 := by simp [isWider, q1, q2, q3]
        rw [hw]
        split
        · rename_i h
          conv => lhs; whnf
          rw [h]
        · rename_i h
          conv => lhs; whnf
          rw [Bool.not_eq_true] at h
          rw [h]
theorem ok_specIsWider : FnOk Tryd.prog 18 K_specIsWider := by
  refine fn_ok (fn := Tryd.f18) (k := Tryd.f18.ntmps) (E := E_specIsWider) (facts_of (List.forall_mem_nil _)) (by kernel_rfl) rfl (by decide +kernel) (by decide +kernel) ?_
  intro avs hin r h
  unfold K_specIsWider at h
  split at h
  · obtain ⟨hp, rfl⟩ := gd_o h
    exact ⟨_, ev_specIsWider _ _ _ _ hp, rfl⟩
  · cases h

/- impl.PatternExtents -/
def K_implPatternExtents : List AV → List Ob → Option (AV × List Ob)
  | [.lst (.lst (.int .i64)) a], [] => gd (a.length ≤ 1048576 ∧ ∀ x ∈ a, x.length ≤ 1048576) (.own 0, [.row 3 (.int .i64) (patE a)])
  | _, _ => none
@[reducible] def E_implPatternExtents : Env := mkE (tb [(23, K_implArePoints), (7, K_implHullOf), (10, K_implFittingPoints)]) (fun f => false) (fun r => bif r == 5 then ([0, 3, 4], [3]) else ([], []))
theorem lp_implPatternExtents (a : List (List Int)) (hA : arePts a = true) (hm : a.length ≤ 1048576 ∧ ∀ x ∈ a, x.length ≤ 1048576) (k : AX → S → Option (AV × List Ob)) (d : Nat) : ∀ (n i : Nat) (x : Int) (zs : List Int), 2 ^ a.length - i = d → i ≤ 2 ^ a.length → x = i → d < n → zs.length ≤ i → 1 ≤ i →
    lpAt E_implPatternExtents (lp E_implPatternExtents 0 n) 0 (loopAt Tryd.f13 0) (mkS [0, 3, 4] [.lst (.lst (.int .i64)) a, .own 0, .int .i64 x] [some (.row 3 (.int .i64) zs)]) k =
      k (.exit 0) (mkS [3] [.own 0] [some (.row 3 (.int .i64) (zs ++ extL a d x))]) := by
  have hp' := arePts_parts hA
  have hf := full_len hp'.1.2
  have hw : IntKind.i64.wrap (1 * 2 ^ min ((a.length : Int)).toNat IntKind.i64.bits) = ((2 ^ a.length : Nat) : Int) := shl1 (by omega)
  induction d with
  | zero =>
    intro n i x zs hd hi hx hn hz hi1
    subst hx
    rw [lpAt_def]
    conv => lhs; whnf
    refine br_f (df (by omega)) ?_
    conv => lhs; whnf
    rw [hw]
    refine br_f (df (by omega)) ?_
    conv => lhs; whnf
    rw [extL, List.append_nil]
  | succ d ih =>
    intro n i x zs hd hi hx hn hz hi1
    obtain ⟨n, rfl⟩ : ∃ m, n = m + 1 := ⟨n - 1, by omega⟩
    subst hx
    have hset := set_lt hp'.1.2 (show i < 2 ^ a.length by omega)
    have hl1 := hullL_len hA hset min
    have hl2 := hullL_len hA hset max
    have hh : hullF a (i : Int) = (hullL min a (i : Int), hullL max a (i : Int), true) := by
      unfold hullF
      rw [hA, hset, show ((i : Int) == 0) = false from beq_eq_false_iff_ne.2 (by omega)]
      rfl
    rw [lpAt_def]
    conv => lhs; whnf
    refine br_f (df (by omega)) ?_
    conv => lhs; whnf
    rw [hw]
    refine br_t (dt (by omega)) ?_
    conv => lhs; whnf
    conv => lhs; arg 1; whnf
    refine bnd_g (by exact hm) ?_
    conv => lhs; whnf
    conv => lhs; arg 1; whnf
    refine bnd_g (by exact ⟨hm, by rw [hh]; dsimp only; omega, by rw [hh]; dsimp only; omega⟩) ?_
    conv => lhs; whnf
    have hq : fitF a (hullF a (i : Int)).1 (hullF a (i : Int)).2.1 = fitF a (hullL min a (i : Int)) (hullL max a (i : Int)) := by rw [hh]
    refine br_c (fun h => ?_) (fun h => ?_)
    · have h' : patAt a (i : Int) = true := by unfold patAt; rw [← hq]; exact h
      conv => lhs; whnf
      refine br_t (dt (by simp [room]; omega)) ?_
      conv => lhs; whnf
      refine (ih n (i + 1) (IntKind.i64.wrap ((i : Int) + 1)) _ (by omega) (by omega) (by rw [wrap64 (n := (i : Int) + 1) (by omega) (by omega)]; simp) (by omega) (by simp; omega) (by omega)).trans ?_
      rw [extL, h', wrap64 (n := (i : Int) + 1) (by omega) (by omega), List.append_assoc]
      rfl
    · have h' : patAt a (i : Int) = false := by unfold patAt; rw [← hq]; exact h
      conv => lhs; whnf
      refine (ih n (i + 1) (IntKind.i64.wrap ((i : Int) + 1)) _ (by omega) (by omega) (by rw [wrap64 (n := (i : Int) + 1) (by omega) (by omega)]; simp) (by omega) (by omega) (by omega)).trans ?_
      rw [extL, h', wrap64 (n := (i : Int) + 1) (by omega) (by omega)]
      rfl
theorem ev_implPatternExtents (a : List (List Int)) (hp : a.length ≤ 1048576 ∧ ∀ x ∈ a, x.length ≤ 1048576) : evF E_implPatternExtents (400) Tryd.f13 [.lst (.lst (.int .i64)) a] [] = some (.own 0, [.row 3 (.int .i64) (patE a)]) := by
  conv => lhs; whnf
  conv => lhs; arg 1; whnf
  refine bnd_g (by exact hp) ?_
  conv => lhs; whnf
  refine br_c (fun h => ?_) (fun h => ?_)
  · have hf : patE a = [] := by unfold patE; rw [bnt h]; rfl
    rw [hf]
    conv => lhs; whnf
  · have hp' := arePts_parts (bnf h)
    have hfl := full_len hp'.1.2
    have hf : patE a = 0 :: extL a (2 ^ a.length - 1) 1 := by unfold patE; rw [bnf h]; rfl
    rw [hf]
    conv => lhs; whnf
    refine (lp_implPatternExtents a (bnf h) hp _ (2 ^ a.length - 1) _ 1 1 [0] rfl (by omega) rfl (by change _ < 399; omega) (by simp) (Nat.le_refl 1)).trans ?_
    conv => lhs; whnf
    rfl
theorem ok_implPatternExtents : FnOk Tryd.prog 13 K_implPatternExtents := by
  refine fn_ok (fn := Tryd.f13) (k := Tryd.f13.ntmps) (E := E_implPatternExtents) (facts_of (List.forall_mem_cons.2 ⟨ok_implArePoints, List.forall_mem_cons.2 ⟨ok_implHullOf, List.forall_mem_cons.2 ⟨ok_implFittingPoints, List.forall_mem_nil _⟩⟩⟩)) (by kernel_rfl) rfl (by decide +kernel) (by decide +kernel) ?_
  intro avs hin r h
  unfold K_implPatternExtents at h
  split at h
  · obtain ⟨hp, rfl⟩ := gd_o h
    exact ⟨_, ev_implPatternExtents _ hp, rfl⟩
  · cases h

/- spec.FullSet -/
def K_specFullSet : List AV → List Ob → Option (AV × List Ob)
  | [.int .i64 n], [] => gd (True) (.int .i64 (fullSet n), [])
  | _, _ => none
@[reducible] def E_specFullSet : Env := mkE (tb [(52, K_l1In)]) (fun f => false) (fun r => ([], []))
theorem ev_specFullSet (n : Int) (hp : True) : evF E_specFullSet (1) Tryd.f53 [.int .i64 n] [] = some (.int .i64 (fullSet n), []) := by
  conv => lhs; whnf
  conv => lhs; arg 1; whnf
  refine bnd_g (by exact True.intro) ?_
  conv => lhs; whnf
  refine br_c (fun h => ?_) (fun h => ?_)
  · have h := ofnt h
    conv => lhs; whnf
    rw [fullSet, if_neg h]
  · have h := ofnf h
    conv => lhs; whnf
    rw [wrapu h.1 h.2]
    refine br_f (df (by omega)) ?_
    conv => lhs; whnf
    refine okI ?_
    rw [fullSet, if_pos h]
    exact shl_set h.1 h.2
theorem ok_specFullSet : FnOk Tryd.prog 53 K_specFullSet := by
  refine fn_ok (fn := Tryd.f53) (k := Tryd.f53.ntmps) (E := E_specFullSet) (facts_of (List.forall_mem_cons.2 ⟨ok_l1In, List.forall_mem_nil _⟩)) (by kernel_rfl) rfl (by decide +kernel) (by decide +kernel) ?_
  intro avs hin r h
  unfold K_specFullSet at h
  split at h
  · obtain ⟨hp, rfl⟩ := gd_o h
    exact ⟨_, ev_specFullSet _ hp, rfl⟩
  · cases h

/- spec.PatternExtents -/
def K_specPatternExtents : List AV → List Ob → Option (AV × List Ob)
  | [.lst (.lst (.int .i64)) a], [] => gd (a.length ≤ 1048576 ∧ ∀ x ∈ a, x.length ≤ 1048576) (.own 0, [.row 3 (.int .i64) (patE a)])
  | _, _ => none
@[reducible] def E_specPatternExtents : Env := mkE (tb [(24, K_specArePoints), (53, K_specFullSet), (47, K_l24Hull), (16, K_specFittingPoints)]) (fun f => false) (fun r => bif r == 6 then ([0, 3, 4], [3]) else ([], []))
theorem lp_specPatternExtents (a : List (List Int)) (hA : arePts a = true) (hm : a.length ≤ 1048576 ∧ ∀ x ∈ a, x.length ≤ 1048576) (k : AX → S → Option (AV × List Ob)) (d : Nat) : ∀ (n i : Nat) (x : Int) (zs : List Int), 2 ^ a.length - i = d → i ≤ 2 ^ a.length → x = i → d < n → zs.length ≤ i →
    lpAt E_specPatternExtents (lp E_specPatternExtents 0 n) 0 (loopAt Tryd.f20 0) (mkS [0, 3, 4] [.lst (.lst (.int .i64)) a, .own 0, .int .i64 x] [some (.row 3 (.int .i64) zs)]) k =
      k (.exit 0) (mkS [3] [.own 0] [some (.row 3 (.int .i64) (zs ++ extL a d x))]) := by
  have hp' := arePts_parts hA
  have hf := full_len hp'.1.2
  induction d with
  | zero =>
    intro n i x zs hd hi hx hn hz
    subst hx
    rw [lpAt_def]
    conv => lhs; whnf
    conv => lhs; arg 1; whnf
    refine bnd_g (by exact True.intro) ?_
    conv => lhs; whnf
    rw [hf.1]
    refine br_f (df (by omega)) ?_
    conv => lhs; whnf
    rw [extL, List.append_nil]
  | succ d ih =>
    intro n i x zs hd hi hx hn hz
    obtain ⟨n, rfl⟩ : ∃ m, n = m + 1 := ⟨n - 1, by omega⟩
    subst hx
    have hset := set_lt hp'.1.2 (show i < 2 ^ a.length by omega)
    have hl1 := hullL_len hA hset min
    have hl2 := hullL_len hA hset max
    rw [lpAt_def]
    conv => lhs; whnf
    conv => lhs; arg 1; whnf
    refine bnd_g (by exact True.intro) ?_
    conv => lhs; whnf
    rw [hf.1]
    refine br_t (dt (by omega)) ?_
    conv => lhs; whnf
    conv => lhs; arg 1; whnf
    refine bnd_g (by exact ⟨hA, hset⟩) ?_
    conv => lhs; whnf
    conv => lhs; arg 1; whnf
    refine bnd_g (by exact ⟨hm, by omega, by omega⟩) ?_
    conv => lhs; whnf
    refine br_c (fun h => ?_) (fun h => ?_)
    · have h' : patAt a (i : Int) = true := h
      conv => lhs; whnf
      refine br_t (dt (by simp [room]; omega)) ?_
      conv => lhs; whnf
      refine (ih n (i + 1) (IntKind.i64.wrap ((i : Int) + 1)) _ (by omega) (by omega) (by rw [wrap64 (n := (i : Int) + 1) (by omega) (by omega)]; simp) (by omega) (by simp; omega)).trans ?_
      rw [extL, h', wrap64 (n := (i : Int) + 1) (by omega) (by omega), List.append_assoc]
      rfl
    · have h' : patAt a (i : Int) = false := h
      conv => lhs; whnf
      refine (ih n (i + 1) (IntKind.i64.wrap ((i : Int) + 1)) _ (by omega) (by omega) (by rw [wrap64 (n := (i : Int) + 1) (by omega) (by omega)]; simp) (by omega) (by omega)).trans ?_
      rw [extL, h', wrap64 (n := (i : Int) + 1) (by omega) (by omega)]
      rfl
theorem ev_specPatternExtents (a : List (List Int)) (hp : a.length ≤ 1048576 ∧ ∀ x ∈ a, x.length ≤ 1048576) : evF E_specPatternExtents (400) Tryd.f20 [.lst (.lst (.int .i64)) a] [] = some (.own 0, [.row 3 (.int .i64) (patE a)]) := by
  conv => lhs; whnf
  conv => lhs; arg 1; whnf
  refine bnd_g (by exact hp) ?_
  conv => lhs; whnf
  refine br_c (fun h => ?_) (fun h => ?_)
  · have hf : patE a = [] := by unfold patE; rw [bnt h]; rfl
    rw [hf]
    conv => lhs; whnf
  · have hp' := arePts_parts (bnf h)
    have hfl := full_len hp'.1.2
    have hf : patE a = 0 :: extL a (2 ^ a.length - 1) 1 := by unfold patE; rw [bnf h]; rfl
    rw [hf]
    conv => lhs; whnf
    refine br_t (dt (by simp [room])) ?_
    conv => lhs; whnf
    refine (lp_specPatternExtents a (bnf h) hp _ (2 ^ a.length - 1) _ 1 1 [0] rfl (by omega) rfl (by change _ < 399; omega) (by simp)).trans ?_
    conv => lhs; whnf
    rfl
theorem ok_specPatternExtents : FnOk Tryd.prog 20 K_specPatternExtents := by
  refine fn_ok (fn := Tryd.f20) (k := Tryd.f20.ntmps) (E := E_specPatternExtents) (facts_of (List.forall_mem_cons.2 ⟨ok_specArePoints, List.forall_mem_cons.2 ⟨ok_specFullSet, List.forall_mem_cons.2 ⟨ok_l24Hull, List.forall_mem_cons.2 ⟨ok_specFittingPoints, List.forall_mem_nil _⟩⟩⟩⟩)) (by kernel_rfl) rfl (by decide +kernel) (by decide +kernel) ?_
  intro avs hin r h
  unfold K_specPatternExtents at h
  split at h
  · obtain ⟨hp, rfl⟩ := gd_o h
    exact ⟨_, ev_specPatternExtents _ hp, rfl⟩
  · cases h

/- spec.IsSubset -/
def K_specIsSubset : List AV → List Ob → Option (AV × List Ob)
  | [.int .i64 s, .int .i64 t], [] => gd (True) (.bool (subB s t), [])
  | _, _ => none
@[reducible] def E_specIsSubset : Env := mkE (tb [(46, K_specIsSet)]) (fun f => false) (fun r => ([], []))
theorem ev_specIsSubset (s t : Int) (hp : True) : evF E_specIsSubset (1) Tryd.f25 [.int .i64 s, .int .i64 t] [] = some (.bool (subB s t), []) := by
  rw [subB_eq]
  conv => lhs; whnf
  conv => lhs; arg 1; whnf
  refine bnd_g (by exact True.intro) ?_
  conv => lhs; whnf
  refine br_c (fun h => ?_) (fun h => ?_)
  · conv => lhs; whnf
    repeat ((first | with_reducible apply br_tt | with_reducible apply br_ff | with_reducible apply br_nf | with_reducible apply br_nt | with_reducible refine br_d ?_ (by kernel_rfl) | with_reducible apply br_t h | with_reducible apply br_f h); conv => lhs; whnf)
    conv => lhs; arg 1; whnf
    refine bnd_g (by exact True.intro) ?_
    conv => lhs; whnf
    repeat ((first | with_reducible apply br_tt | with_reducible apply br_ff | with_reducible apply br_nf | with_reducible apply br_nt | with_reducible refine br_d ?_ (by kernel_rfl) | with_reducible apply br_t h | with_reducible apply br_f h); conv => lhs; whnf)
    refine br_c (fun h2 => ?_) (fun h2 => ?_)
    · conv => lhs; whnf
      repeat ((first | with_reducible apply br_tt | with_reducible apply br_ff | with_reducible apply br_nf | with_reducible apply br_nt | with_reducible refine br_d ?_ (by kernel_rfl) | with_reducible apply br_t h | with_reducible apply br_f h | with_reducible apply br_t h2 | with_reducible apply br_f h2); conv => lhs; whnf)
      rw [h, h2]
      rfl
    · conv => lhs; whnf
      repeat ((first | with_reducible apply br_tt | with_reducible apply br_ff | with_reducible apply br_nf | with_reducible apply br_nt | with_reducible refine br_d ?_ (by kernel_rfl) | with_reducible apply br_t h | with_reducible apply br_f h | with_reducible apply br_t h2 | with_reducible apply br_f h2); conv => lhs; whnf)
      rw [h, h2]
      rfl
  · conv => lhs; whnf
    repeat ((first | with_reducible apply br_tt | with_reducible apply br_ff | with_reducible apply br_nf | with_reducible apply br_nt | with_reducible refine br_d ?_ (by kernel_rfl) | with_reducible apply br_t h | with_reducible apply br_f h); conv => lhs; whnf)
    rw [h]
    rfl
theorem ok_specIsSubset : FnOk Tryd.prog 25 K_specIsSubset := by
  refine fn_ok (fn := Tryd.f25) (k := Tryd.f25.ntmps) (E := E_specIsSubset) (facts_of (List.forall_mem_cons.2 ⟨ok_specIsSet, List.forall_mem_nil _⟩)) (by kernel_rfl) rfl (by decide +kernel) (by decide +kernel) ?_
  intro avs hin r h
  unfold K_specIsSubset at h
  split at h
  · obtain ⟨hp, rfl⟩ := gd_o h
    exact ⟨_, ev_specIsSubset _ _ hp, rfl⟩
  · cases h

/- laws.hasInt -/
def K_hasIntL : List AV → List Ob → Option (AV × List Ob)
  | [.lst (.int .i64) a, .int .i64 v], [] => gd (a.length < 4611686018427387904) (.bool (a.any (fun y => y == v)), [])
  | _, _ => none
@[reducible] def E_hasIntL : Env := mkE (tb []) (fun f => false) (fun r => bif r == 2 then ([0, 1, 5], [4]) else ([], []))
theorem lp_hasIntL (a : List Int) (v : Int) (ha : a.length < 4611686018427387904) (k : AX → S → Option (AV × List Ob)) (d : Nat) : ∀ (n i : Nat) (x : Int), a.length - i = d → i ≤ a.length → x = i → d < n →
    lpAt E_hasIntL (lp E_hasIntL 0 n) 0 (loopAt Tryd.f26 0) (mkS [0, 1, 5] [.lst (.int .i64) a, .int .i64 v, .int .i64 x] []) k =
      if (a.drop i).any (fun y => y == v) then k .ret (mkS [4] [.bool true] []) else k (.exit 0) (mkS [4] [.any] []) := by
  induction d with
  | zero =>
    intro n i x hd hi hx hn
    subst hx
    rw [lpAt_def]
    conv => lhs; whnf
    refine br_f (df (by omega)) ?_
    conv => lhs; whnf
    rw [List.drop_of_length_le (by omega)]
    simp
  | succ d ih =>
    intro n i x hd hi hx hn
    obtain ⟨n, rfl⟩ : ∃ m, n = m + 1 := ⟨n - 1, by omega⟩
    subst hx
    rw [lpAt_def]
    conv => lhs; whnf
    refine br_t (dt (by omega)) ?_
    conv => lhs; whnf
    refine br_t (dt2 (by omega) (by omega)) ?_
    conv => lhs; whnf
    rw [getD_drop (l := a) (i := i) (d := 0) (by omega)]
    refine br_c (fun h => ?_) (fun h => ?_)
    · have h' : (a.getD i 0 == v) = true := h
      conv => lhs; whnf
      rw [if_pos (by simp only [List.any_cons, h', Bool.true_or])]
    · have h' : (a.getD i 0 == v) = false := h
      conv => lhs; whnf
      rw [ih n (i + 1) _ (by omega) (by omega) (by rw [wrap64 (by omega) (by omega)]; simp) (by omega)]
      simp only [List.any_cons, h', Bool.false_or]
theorem ev_hasIntL (a : List Int) (v : Int) (hp : a.length < 4611686018427387904) : evF E_hasIntL (a.length + 2) Tryd.f26 [.lst (.int .i64) a, .int .i64 v] [] = some (.bool (a.any (fun y => y == v)), []) := by
  conv => lhs; whnf
  refine (lp_hasIntL a v hp _ a.length _ 0 0 rfl (by omega) rfl (by omega)).trans ?_
  simp only [List.drop_zero]
  split
  · rename_i he
    conv => lhs; whnf
    rw [he]
  · rename_i he
    conv => lhs; whnf
    rw [Bool.not_eq_true] at he
    rw [he]
theorem ok_hasIntL : FnOk Tryd.prog 26 K_hasIntL := by
  refine fn_ok (fn := Tryd.f26) (k := Tryd.f26.ntmps) (E := E_hasIntL) (facts_of (List.forall_mem_nil _)) (by kernel_rfl) rfl (by decide +kernel) (by decide +kernel) ?_
  intro avs hin r h
  unfold K_hasIntL at h
  split at h
  · obtain ⟨hp, rfl⟩ := gd_o h
    exact ⟨_, ev_hasIntL _ _ hp, rfl⟩
  · cases h

end Go.Sym
