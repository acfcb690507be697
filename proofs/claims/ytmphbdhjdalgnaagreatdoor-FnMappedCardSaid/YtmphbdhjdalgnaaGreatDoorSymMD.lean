/- Functions of the program, each told as a plain equation. -/
import Derived.Test.YtmphbdhjdalgnaaGreatDoorSymMC
namespace Go.Sym
open Go.Proofs
set_option linter.unusedVariables false
set_option linter.unusedSimpArgs false
set_option maxRecDepth 100000
set_option maxHeartbeats 4000000

/- spec.CountOf -/
def K_specCountOf : List AV → List Ob → Option (AV × List Ob)
  | [.int .i64 s], [] => gd (True) (.int .i64 (cntF s), [])
  | _, _ => none
@[reducible] def E_specCountOf : Env := mkE (tb [(69, K_specIsSet)]) (fun f => false) (fun r => bif r == 4 then ([0, 3], [3]) else ([], []))
theorem lp_specCountOf (k : AX → S → Option (AV × List Ob)) (d : Nat) : ∀ (n s : Nat) (q : Int), s < 2 ^ d → s < 256 → d < n → 0 ≤ q → q ≤ 1000000 - d →
    lpAt E_specCountOf (lp E_specCountOf 0 n) 0 (loopAt Tryz.f71 0) (mkS [0, 3] [.int .i64 (s : Int), .int .i64 q] []) k =
      k (.exit 0) (mkS [3] [.int .i64 (q + popF d s)] []) := by
  induction d with
  | zero =>
    intro n s q hd hs hn hq hq'
    have : s = 0 := by simp at hd; omega
    subst this
    rw [lpAt_def]
    conv => lhs; whnf
    refine br_f (by rfl) ?_
    conv => lhs; whnf
    rw [popF]
    simp
  | succ d ih =>
    intro n s q hd hs hn hq hq'
    obtain ⟨n, rfl⟩ : ∃ m, n = m + 1 := ⟨n - 1, by omega⟩
    rw [lpAt_def]
    conv => lhs; whnf
    refine br_c (fun h => ?_) (fun h => ?_)
    · conv => lhs; whnf
      refine br_f (df (by omega)) ?_
      conv => lhs; whnf
      have e1 := and1_of s hs
      have e2 := half_of s
      unfold band at e1
      rw [e1, e2]
      rw [wrap64 (by omega) (by omega)]
      rw [ih n (s / 2) _ (by rw [Nat.pow_succ] at hd; omega) (by omega) (by omega) (by omega) (by omega)]
      rw [popF]
      have e3 : q + ((s % 2 : Nat) : Int) + ((popF d (s / 2) : Nat) : Int) = q + ((s % 2 + popF d (s / 2) : Nat) : Int) := by push_cast; omega
      rw [e3]
    · have h := ofn h
      have : s = 0 := by omega
      subst this
      conv => lhs; whnf
      have e0 : ∀ d, popF d 0 = 0 := by
        intro d
        induction d with
        | zero => rfl
        | succ d ih => rw [popF, ih]
      rw [e0]
      simp
theorem ev_specCountOf (s : Int) (hp : True) : evF E_specCountOf (20) Tryz.f71 [.int .i64 s] [] = some (.int .i64 (cntF s), []) := by
  conv => lhs; whnf
  conv => lhs; arg 1; whnf
  refine bnd_g (by exact True.intro) ?_
  conv => lhs; whnf
  refine br_c (fun h => ?_) (fun h => ?_)
  · conv => lhs; whnf
    unfold cntF
    rw [if_neg (by rw [bnt h]; exact Bool.false_ne_true)]
  · have hs := isSet_le (bnf h)
    obtain ⟨n, rfl⟩ : ∃ n : Nat, s = (n : Int) := ⟨s.toNat, by omega⟩
    conv => lhs; whnf
    refine (lp_specCountOf _ 8 _ n 0 (by omega) (by omega) (by decide) (by omega) (by omega)).trans ?_
    conv => lhs; whnf
    unfold cntF
    rw [if_pos (bnf h)]
    simp
theorem ok_specCountOf : FnOk Tryz.prog 71 K_specCountOf := by
  refine fn_ok (fn := Tryz.f71) (k := Tryz.f71.ntmps) (E := E_specCountOf) (facts_of (List.forall_mem_cons.2 ⟨ok_specIsSet, List.forall_mem_nil _⟩)) (by kernel_rfl) rfl (by decide +kernel) (by decide +kernel) ?_
  intro avs hin r h
  unfold K_specCountOf at h
  split at h
  · obtain ⟨hp, rfl⟩ := gd_o h
    exact ⟨_, ev_specCountOf _ hp, rfl⟩
  · cases h

/- spec.l7Pack -/
def K_l7Pack : List AV → List Ob → Option (AV × List Ob)
  | [.int .i64 s, .int .i64 keep], [] => gd ((0 ≤ s ∧ s ≤ 255) ∧ (0 ≤ keep ∧ keep ≤ 255)) (.int .i64 (packS s keep), [])
  | _, _ => none
@[reducible] def E_l7Pack : Env := mkE (tb [(70, K_l2Has)]) (fun f => false) (fun r => bif r == 4 then ([0, 1, 5, 6, 7], [5]) else ([], []))
theorem lp_l7Pack (s keep : Int) (hs : 0 ≤ s ∧ s ≤ 255) (hk : 0 ≤ keep ∧ keep ≤ 255) (k : AX → S → Option (AV × List Ob)) (d : Nat) : ∀ (n i : Nat) (x nn q : Int), 8 - i = d → i ≤ 8 → x = i → d < n → 0 ≤ nn → nn ≤ i →
    lpAt E_l7Pack (lp E_l7Pack 0 n) 0 (loopAt Tryz.f72 0) (mkS [0, 1, 5, 6, 7] [.int .i64 s, .int .i64 keep, .int .i64 q, .int .i64 nn, .int .i64 x] []) k =
      k (.exit 0) (mkS [5] [.int .i64 (pkS s keep d i nn q)] []) := by
  induction d with
  | zero =>
    intro n i x nn q hd hi hx hn h0 h1
    subst hx
    rw [lpAt_def]
    conv => lhs; whnf
    refine br_f (df (by omega)) ?_
    conv => lhs; whnf
    rw [pkS]
  | succ d ih =>
    intro n i x nn q hd hi hx hn h0 h1
    obtain ⟨n, rfl⟩ : ∃ m, n = m + 1 := ⟨n - 1, by omega⟩
    subst hx
    have hu := wrapu (n := nn) (by omega) (by omega)
    rw [lpAt_def]
    conv => lhs; whnf
    refine br_t (dt (by omega)) ?_
    conv => lhs; whnf
    conv => lhs; arg 1; whnf
    refine bnd_g (by exact ⟨by omega, by omega⟩) ?_
    conv => lhs; whnf
    refine br_c (fun g => ?_) (fun g => ?_)
    · have g' : keep.toNat.testBit i = true := g
      conv => lhs; whnf
      conv => lhs; arg 1; whnf
      refine bnd_g (by exact ⟨by omega, by omega⟩) ?_
      conv => lhs; whnf
      refine br_c (fun g2 => ?_) (fun g2 => ?_)
      · have g2' : s.toNat.testBit i = true := g2
        conv => lhs; whnf
        rw [hu]
        refine br_f (df (by omega)) ?_
        conv => lhs; whnf
        refine (ih n (i + 1) (IntKind.i64.wrap ((i : Int) + 1)) (IntKind.i64.wrap (nn + 1)) _ (by omega) (by omega) (by rw [wrap64 (n := (i : Int) + 1) (by omega) (by omega)]; simp) (by omega) (by rw [wrap64 (by omega) (by omega)]; omega) (by rw [wrap64 (by omega) (by omega)]; omega)).trans ?_
        rw [pkS, g', g2', wrap64 (n := nn + 1) (by omega) (by omega)]
        rfl
      · have g2' : s.toNat.testBit i = false := g2
        conv => lhs; whnf
        refine (ih n (i + 1) (IntKind.i64.wrap ((i : Int) + 1)) (IntKind.i64.wrap (nn + 1)) _ (by omega) (by omega) (by rw [wrap64 (n := (i : Int) + 1) (by omega) (by omega)]; simp) (by omega) (by rw [wrap64 (by omega) (by omega)]; omega) (by rw [wrap64 (by omega) (by omega)]; omega)).trans ?_
        rw [pkS, g', g2', wrap64 (n := nn + 1) (by omega) (by omega)]
        rfl
    · have g' : keep.toNat.testBit i = false := g
      conv => lhs; whnf
      refine (ih n (i + 1) (IntKind.i64.wrap ((i : Int) + 1)) nn _ (by omega) (by omega) (by rw [wrap64 (n := (i : Int) + 1) (by omega) (by omega)]; simp) (by omega) (by omega) (by omega)).trans ?_
      rw [pkS, g']
      rfl
theorem ev_l7Pack (s keep : Int) (hp : (0 ≤ s ∧ s ≤ 255) ∧ (0 ≤ keep ∧ keep ≤ 255)) : evF E_l7Pack (20) Tryz.f72 [.int .i64 s, .int .i64 keep] [] = some (.int .i64 (packS s keep), []) := by
  conv => lhs; whnf
  refine (lp_l7Pack s keep hp.1 hp.2 _ 8 _ 0 0 0 0 rfl (by omega) rfl (by change _ < 19; omega) (by omega) (by omega)).trans ?_
  conv => lhs; whnf
  all_goals rfl
theorem ok_l7Pack : FnOk Tryz.prog 72 K_l7Pack := by
  refine fn_ok (fn := Tryz.f72) (k := Tryz.f72.ntmps) (E := E_l7Pack) (facts_of (List.forall_mem_cons.2 ⟨ok_l2Has, List.forall_mem_nil _⟩)) (by kernel_rfl) rfl (by decide +kernel) (by decide +kernel) ?_
  intro avs hin r h
  unfold K_l7Pack at h
  split at h
  · obtain ⟨hp, rfl⟩ := gd_o h
    exact ⟨_, ev_l7Pack _ _ hp, rfl⟩
  · cases h

/- spec.DropAttributes -/
def K_specDropAttributes : List AV → List Ob → Option (AV × List Ob)
  | [.agg [.int .i64 m, .lst (.int .i64) b], .int .i64 t], [] => gd (b.length ≤ 1048576) (.tup [.agg [.int .i64 (dropA m b t).1, .own 0], .bool (dropA m b t).2.2], [.row 3 (.int .i64) (dropA m b t).2.1])
  | _, _ => none
@[reducible] def E_specDropAttributes : Env := mkE (tb [(54, K_specIsContext), (69, K_specIsSet), (68, K_specFullSet), (71, K_specCountOf), (72, K_l7Pack)]) (fun f => false) (fun r => bif r == 6 then ([2, 4, 6, 7, 8], [4, 7]) else ([], []))
theorem lp_specDropAttributes (m : Int) (b : List Int) (hb : b.length ≤ 8) (hs : ∀ x ∈ b, 0 ≤ x ∧ x ≤ 255) (c A : Int) (hc : 0 ≤ c ∧ c ≤ 255) (k : AX → S → Option (AV × List Ob)) (d : Nat) : ∀ (n i : Nat) (x : Int) (zs : List Int), b.length - i = d → i ≤ b.length → x = i → d < n → zs.length ≤ i →
    lpAt E_specDropAttributes (lp E_specDropAttributes 0 n) 0 (loopAt Tryz.f40 0) (mkS [2, 4, 6, 7, 8] [.ptr 0 0, .ptr 1 0, .int .i64 c, .ptr 3 0, .int .i64 x] [some (.box 26 [.int .i64 m, .lst (.int .i64) b]), some (.box 26 [.int .i64 0, .own 2]), some (.row 3 (.int .i64) []), some (.box 26 [.int .i64 A, .own 4]), some (.row 3 (.int .i64) zs)]) k =
      k (.exit 0) (mkS [4, 7] [.ptr 0 0, .ptr 2 0] [some (.box 26 [.int .i64 0, .own 1]), some (.row 3 (.int .i64) []), some (.box 26 [.int .i64 A, .own 3]), some (.row 3 (.int .i64) (zs ++ (b.drop i).map (fun x => packS x c)))]) := by
  induction d with
  | zero =>
    intro n i x zs hd hi hx hn hz
    subst hx
    rw [lpAt_def]
    conv => lhs; whnf
    refine br_f (df (by omega)) ?_
    conv => lhs; whnf
    rw [List.drop_of_length_le (by omega), List.map_nil, List.append_nil]
  | succ d ih =>
    intro n i x zs hd hi hx hn hz
    obtain ⟨n, rfl⟩ : ∃ m, n = m + 1 := ⟨n - 1, by omega⟩
    subst hx
    rw [lpAt_def]
    conv => lhs; whnf
    refine br_t (dt (by omega)) ?_
    conv => lhs; whnf
    refine br_t (dt2 (by omega) (by omega)) ?_
    conv => lhs; whnf
    conv => lhs; arg 1; whnf
    refine bnd_g (by exact ⟨hs _ (mem_getD (by omega)), hc⟩) ?_
    conv => lhs; whnf
    refine br_t (dt (by simp [room]; omega)) ?_
    conv => lhs; whnf
    repeat ((first | with_reducible apply br_tt | with_reducible apply br_ff | with_reducible apply br_nf | with_reducible apply br_nt | with_reducible refine br_d ?_ (by kernel_rfl)); conv => lhs; whnf)
    refine (ih n (i + 1) (IntKind.i64.wrap ((i : Int) + 1)) _ (by omega) (by omega) (by rw [wrap64 (by omega) (by omega)]; simp) (by omega) (by simp; omega)).trans ?_
    rw [getD_drop (l := b) (i := i) (d := 0) (by omega), List.map_cons]
    simp only [List.append_assoc]
    rfl
theorem ev_specDropAttributes (m : Int) (b : List Int) (t : Int) (hp : b.length ≤ 1048576) : evF E_specDropAttributes (20) Tryz.f40 [.agg [.int .i64 m, .lst (.int .i64) b], .int .i64 t] [] = some (.tup [.agg [.int .i64 (dropA m b t).1, .own 0], .bool (dropA m b t).2.2], [.row 3 (.int .i64) (dropA m b t).2.1]) := by
  conv => lhs; whnf
  conv => lhs; arg 1; whnf
  refine bnd_g (by omega) ?_
  conv => lhs; whnf
  refine br_c (fun h => ?_) (fun h => ?_)
  · have e : dropA m b t = (0, [], false) := by unfold dropA; rw [bnt h]; rfl
    conv => rhs; rw [e]
    conv => lhs; whnf
    repeat ((first | with_reducible apply br_tt | with_reducible apply br_ff | with_reducible apply br_nf | with_reducible apply br_nt | with_reducible refine br_d ?_ (by kernel_rfl) | with_reducible apply br_t h | with_reducible apply br_f h); conv => lhs; whnf)
    all_goals rfl
  · conv => lhs; whnf
    repeat ((first | with_reducible apply br_tt | with_reducible apply br_ff | with_reducible apply br_nf | with_reducible apply br_nt | with_reducible refine br_d ?_ (by kernel_rfl) | with_reducible apply br_t h | with_reducible apply br_f h); conv => lhs; whnf)
    conv => lhs; arg 1; whnf
    refine bnd_g (by exact True.intro) ?_
    conv => lhs; whnf
    repeat ((first | with_reducible apply br_tt | with_reducible apply br_ff | with_reducible apply br_nf | with_reducible apply br_nt | with_reducible refine br_d ?_ (by kernel_rfl) | with_reducible apply br_t h | with_reducible apply br_f h); conv => lhs; whnf)
    refine br_c (fun h2 => ?_) (fun h2 => ?_)
    · have e : dropA m b t = (0, [], false) := by unfold dropA; rw [bnt h2, Bool.and_false]; rfl
      conv => rhs; rw [e]
      conv => lhs; whnf
      repeat ((first | with_reducible apply br_tt | with_reducible apply br_ff | with_reducible apply br_nf | with_reducible apply br_nt | with_reducible refine br_d ?_ (by kernel_rfl) | with_reducible apply br_t h | with_reducible apply br_f h | with_reducible apply br_t h2 | with_reducible apply br_f h2); conv => lhs; whnf)
      all_goals rfl
    · have hl := isCtx_len (bnf h)
      have hk := keep_rng ⟨hl.2.1, hl.2.2.1⟩ (bnf h2)
      have hw : IntKind.i64.wrap (fullSet m - t) = fullSet m - t := wrap64 (by omega) (by omega)
      have e : dropA m b t = (cntF (IntKind.i64.wrap (fullSet m - t)), b.map (fun x => packS x (IntKind.i64.wrap (fullSet m - t))), true) := by rw [hw]; unfold dropA; rw [bnf h, bnf h2]; rfl
      have hk' : 0 ≤ IntKind.i64.wrap (fullSet m - t) ∧ IntKind.i64.wrap (fullSet m - t) ≤ 255 := by rw [hw]; exact hk
      conv => rhs; rw [e]
      conv => lhs; whnf
      repeat ((first | with_reducible apply br_tt | with_reducible apply br_ff | with_reducible apply br_nf | with_reducible apply br_nt | with_reducible refine br_d ?_ (by kernel_rfl) | with_reducible apply br_t h | with_reducible apply br_f h | with_reducible apply br_t h2 | with_reducible apply br_f h2); conv => lhs; whnf)
      conv => lhs; arg 1; whnf
      refine bnd_g (by exact True.intro) ?_
      conv => lhs; whnf
      conv => lhs; arg 1; whnf
      refine bnd_g (by exact True.intro) ?_
      conv => lhs; whnf
      refine (lp_specDropAttributes m b hl.1 (ctx_small (bnf h)) (IntKind.i64.wrap (fullSet m - t)) _ hk' _ b.length _ 0 0 [] rfl (by omega) rfl (by change _ < 19; omega) (by simp)).trans ?_
      conv => lhs; whnf
      all_goals rfl
theorem ok_specDropAttributes : FnOk Tryz.prog 40 K_specDropAttributes := by
  refine fn_ok (fn := Tryz.f40) (k := Tryz.f40.ntmps) (E := E_specDropAttributes) (facts_of (List.forall_mem_cons.2 ⟨ok_specIsContext, List.forall_mem_cons.2 ⟨ok_specIsSet, List.forall_mem_cons.2 ⟨ok_specFullSet, List.forall_mem_cons.2 ⟨ok_specCountOf, List.forall_mem_cons.2 ⟨ok_l7Pack, List.forall_mem_nil _⟩⟩⟩⟩⟩)) (by kernel_rfl) rfl (by decide +kernel) (by decide +kernel) ?_
  intro avs hin r h
  unfold K_specDropAttributes at h
  split at h
  · obtain ⟨hp, rfl⟩ := gd_o h
    exact ⟨_, ev_specDropAttributes _ _ _ hp, rfl⟩
  · cases h

/- spec.l2In -/
def K_l2In : List AV → List Ob → Option (AV × List Ob)
  | [.lst (.int .i64) a, .int .i64 v], [] => gd (a.length < 4611686018427387904) (.bool (a.any (fun y => y == v)), [])
  | _, _ => none
@[reducible] def E_l2In : Env := mkE (tb []) (fun f => false) (fun r => bif r == 2 then ([0, 1, 5], [4]) else ([], []))
theorem lp_l2In (a : List Int) (v : Int) (ha : a.length < 4611686018427387904) (k : AX → S → Option (AV × List Ob)) (d : Nat) : ∀ (n i : Nat) (x : Int), a.length - i = d → i ≤ a.length → x = i → d < n →
    lpAt E_l2In (lp E_l2In 0 n) 0 (loopAt Tryz.f66 0) (mkS [0, 1, 5] [.lst (.int .i64) a, .int .i64 v, .int .i64 x] []) k =
      if (a.drop i).any (fun y => y == v) then k .ret (mkS [4] [.bool true] []) else k (.exit 0) (mkS [4] [.any] []) := by
  induction d with
  | zero =>
    intro n i x hd hi hx hn
    subst hx
    rw [lpAt_def]
    conv => lhs; whnf
    refine br_f (df (by omega)) ?_
    conv => lhs; whnf
    rw [List.drop_of_length_le (by omega)]
    simp
  | succ d ih =>
    intro n i x hd hi hx hn
    obtain ⟨n, rfl⟩ : ∃ m, n = m + 1 := ⟨n - 1, by omega⟩
    subst hx
    rw [lpAt_def]
    conv => lhs; whnf
    refine br_t (dt (by omega)) ?_
    conv => lhs; whnf
    refine br_t (dt2 (by omega) (by omega)) ?_
    conv => lhs; whnf
    rw [getD_drop (l := a) (i := i) (d := 0) (by omega)]
    refine br_c (fun h => ?_) (fun h => ?_)
    · have h' : (a.getD i 0 == v) = true := h
      conv => lhs; whnf
      rw [if_pos (by simp only [List.any_cons, h', Bool.true_or])]
    · have h' : (a.getD i 0 == v) = false := h
      conv => lhs; whnf
      rw [ih n (i + 1) _ (by omega) (by omega) (by rw [wrap64 (by omega) (by omega)]; simp) (by omega)]
      simp only [List.any_cons, h', Bool.false_or]
theorem ev_l2In (a : List Int) (v : Int) (hp : a.length < 4611686018427387904) : evF E_l2In (a.length + 2) Tryz.f66 [.lst (.int .i64) a, .int .i64 v] [] = some (.bool (a.any (fun y => y == v)), []) := by
  conv => lhs; whnf
  refine (lp_l2In a v hp _ a.length _ 0 0 rfl (by omega) rfl (by omega)).trans ?_
  simp only [List.drop_zero]
  split
  · rename_i he
    conv => lhs; whnf
    rw [he]
  · rename_i he
    conv => lhs; whnf
    rw [Bool.not_eq_true] at he
    rw [he]
theorem ok_l2In : FnOk Tryz.prog 66 K_l2In := by
  refine fn_ok (fn := Tryz.f66) (k := Tryz.f66.ntmps) (E := E_l2In) (facts_of (List.forall_mem_nil _)) (by kernel_rfl) rfl (by decide +kernel) (by decide +kernel) ?_
  intro avs hin r h
  unfold K_l2In at h
  split at h
  · obtain ⟨hp, rfl⟩ := gd_o h
    exact ⟨_, ev_l2In _ _ hp, rfl⟩
  · cases h

/- spec.l3Column -/
def K_l3Column : List AV → List Ob → Option (AV × List Ob)
  | [.agg [.int .i64 m, .lst (.int .i64) b], .int .i64 e], [] => gd ((0 ≤ e ∧ e ≤ 8) ∧ b.length ≤ 8 ∧ ∀ x ∈ b, 0 ≤ x ∧ x ≤ 255) (.int .i64 (colF b e), [])
  | _, _ => none
@[reducible] def E_l3Column : Env := mkE (tb [(70, K_l2Has)]) (fun f => false) (fun r => bif r == 3 then ([1, 2, 5, 6], [5]) else ([], []))
theorem lp_l3Column (m : Int) (b : List Int) (e : Int) (hb : b.length ≤ 8) (hs : ∀ x ∈ b, 0 ≤ x ∧ x ≤ 255) (he : 0 ≤ e ∧ e ≤ 8) (k : AX → S → Option (AV × List Ob)) (d : Nat) : ∀ (n i : Nat) (x q : Int), b.length - i = d → i ≤ b.length → x = i → d < n →
    lpAt E_l3Column (lp E_l3Column 0 n) 0 (loopAt Tryz.f67 0) (mkS [1, 2, 5, 6] [.int .i64 e, .ptr 0 0, .int .i64 q, .int .i64 x] [some (.box 26 [.int .i64 m, .lst (.int .i64) b])]) k =
      k (.exit 0) (mkS [5] [.int .i64 (orF (bitAt b e) d i q)] []) := by
  induction d with
  | zero =>
    intro n i x q hd hi hx hn
    subst hx
    rw [lpAt_def]
    conv => lhs; whnf
    refine br_f (df (by omega)) ?_
    conv => lhs; whnf
    rfl
  | succ d ih =>
    intro n i x q hd hi hx hn
    obtain ⟨n, rfl⟩ : ∃ m, n = m + 1 := ⟨n - 1, by omega⟩
    subst hx
    rw [lpAt_def]
    conv => lhs; whnf
    refine br_t (dt (by omega)) ?_
    conv => lhs; whnf
    refine br_t (dt2 (by omega) (by omega)) ?_
    conv => lhs; whnf
    conv => lhs; arg 1; whnf
    refine bnd_g (by exact ⟨hs _ (mem_getD (by omega)), he⟩) ?_
    conv => lhs; whnf
    refine br_c (fun h => ?_) (fun h => ?_)
    · have h' : bitAt b e i = true := h
      conv => lhs; whnf
      refine br_f (by (rw [wrapu (n := (i : Int)) (by omega) (by omega)]; exact df (by omega))) ?_
      conv => lhs; whnf
      rw [shl1u (by omega)]
      rw [ih n (i + 1) _ _ (by omega) (by omega) (by rw [wrap64 (by omega) (by omega)]; simp) (by omega)]
      rw [orF, h', cond_true]
      rfl
    · have h' : bitAt b e i = false := h
      conv => lhs; whnf
      rw [ih n (i + 1) _ _ (by omega) (by omega) (by rw [wrap64 (by omega) (by omega)]; simp) (by omega)]
      rw [orF, h', cond_false]
theorem ev_l3Column (m : Int) (b : List Int) (e : Int) (hp : (0 ≤ e ∧ e ≤ 8) ∧ b.length ≤ 8 ∧ ∀ x ∈ b, 0 ≤ x ∧ x ≤ 255) : evF E_l3Column (20) Tryz.f67 [.agg [.int .i64 m, .lst (.int .i64) b], .int .i64 e] [] = some (.int .i64 (colF b e), []) := by
  conv => lhs; whnf
  refine (lp_l3Column m b e hp.2.1 hp.2.2 hp.1 _ b.length _ 0 0 _ rfl (by omega) rfl (by have := hp.2.1; change _ < 19; omega)).trans ?_
  conv => lhs; whnf
  rfl
theorem ok_l3Column : FnOk Tryz.prog 67 K_l3Column := by
  refine fn_ok (fn := Tryz.f67) (k := Tryz.f67.ntmps) (E := E_l3Column) (facts_of (List.forall_mem_cons.2 ⟨ok_l2Has, List.forall_mem_nil _⟩)) (by kernel_rfl) rfl (by decide +kernel) (by decide +kernel) ?_
  intro avs hin r h
  unfold K_l3Column at h
  split at h
  · obtain ⟨hp, rfl⟩ := gd_o h
    exact ⟨_, ev_l3Column _ _ _ hp, rfl⟩
  · cases h

/- spec.Clarify -/
def K_specClarify : List AV → List Ob → Option (AV × List Ob)
  | [.agg [.int .i64 m, .lst (.int .i64) b]], [] => gd (b.length ≤ 1048576) (.tup [.agg [.int .i64 (spClar m b).1, .own 0], .bool (spClar m b).2.2], [.row 3 (.int .i64) (spClar m b).2.1])
  | _, _ => none
@[reducible] def E_specClarify : Env := mkE (tb [(54, K_specIsContext), (66, K_l2In), (67, K_l3Column), (40, K_specDropAttributes)]) (fun f => false) (fun r => bif r == 5 then ([1, 2, 4, 5], [2, 4]) else bif r == 11 then ([2, 4, 6, 7], [2, 4, 6, 7]) else bif r == 14 then ([2, 4, 6, 7, 8], [2, 4, 6, 7]) else ([], []))
theorem la_specClarify (m : Int) (b : List Int) (hb : b.length ≤ 8) (k : AX → S → Option (AV × List Ob)) (d : Nat) : ∀ (n i : Nat) (x : Int) (zs : List Int), b.length - i = d → i ≤ b.length → x = i → d < n → zs.length ≤ i →
    lpAt E_specClarify (lp E_specClarify 0 n) 0 (loopAt Tryz.f36 0) (mkS [1, 2, 4, 5] [.ptr 0 0, .ptr 1 0, .ptr 3 0, .int .i64 x] [some (.box 26 [.int .i64 m, .lst (.int .i64) b]), some (.box 26 [.int .i64 0, .own 2]), some (.row 3 (.int .i64) []), some (.box 26 [.int .i64 m, .own 4]), some (.row 3 (.int .i64) zs)]) k =
      k (.exit 0) (mkS [2, 4] [.ptr 0 0, .ptr 2 0] [some (.box 26 [.int .i64 0, .own 1]), some (.row 3 (.int .i64) []), some (.box 26 [.int .i64 m, .own 3]), some (.row 3 (.int .i64) (ddL (b.drop i) zs))]) := by
  induction d with
  | zero =>
    intro n i x zs hd hi hx hn hz
    subst hx
    rw [lpAt_def]
    conv => lhs; whnf
    refine br_f (df (by omega)) ?_
    conv => lhs; whnf
    rw [List.drop_of_length_le (by omega), ddL]
  | succ d ih =>
    intro n i x zs hd hi hx hn hz
    obtain ⟨n, rfl⟩ : ∃ m, n = m + 1 := ⟨n - 1, by omega⟩
    subst hx
    rw [lpAt_def]
    conv => lhs; whnf
    refine br_t (dt (by omega)) ?_
    conv => lhs; whnf
    refine br_t (dt2 (by omega) (by omega)) ?_
    conv => lhs; whnf
    conv => lhs; arg 1; whnf
    refine bnd_g (by omega) ?_
    conv => lhs; whnf
    refine br_t (by kernel_rfl) ?_
    conv => lhs; whnf
    refine br_c (fun g => ?_) (fun g => ?_)
    · have g' : zs.any (fun y => y == b.getD i 0) = false := bnt g
      conv => lhs; whnf
      refine br_t (dt2 (by omega) (by omega)) ?_
      conv => lhs; whnf
      refine br_t (dt (by simp [room]; omega)) ?_
      conv => lhs; whnf
      repeat ((first | with_reducible apply br_tt | with_reducible apply br_ff | with_reducible apply br_nf | with_reducible apply br_nt | with_reducible refine br_d ?_ (by kernel_rfl)); conv => lhs; whnf)
      refine (ih n (i + 1) (IntKind.i64.wrap ((i : Int) + 1)) _ (by omega) (by omega) (by rw [wrap64 (by omega) (by omega)]; simp) (by omega) (by simp; omega)).trans ?_
      rw [getD_drop (l := b) (i := i) (d := 0) (by omega), ddL, g']
      rfl
    · have g' : zs.any (fun y => y == b.getD i 0) = true := bnf g
      conv => lhs; whnf
      refine (ih n (i + 1) (IntKind.i64.wrap ((i : Int) + 1)) _ (by omega) (by omega) (by rw [wrap64 (by omega) (by omega)]; simp) (by omega) (by omega)).trans ?_
      rw [getD_drop (l := b) (i := i) (d := 0) (by omega), ddL, g']
      rfl
theorem lc_specClarify (m : Int) (b : List Int) (hb : b.length ≤ 8) (hs : ∀ x ∈ b, 0 ≤ x ∧ x ≤ 255) (hm : 0 ≤ m ∧ m ≤ 6) (j : Nat) (hj : (j : Int) < m) (k : AX → S → Option (AV × List Ob)) (d : Nat) : ∀ (n i : Nat) (x q : Int), j - i = d → i ≤ j → x = i → d < n →
    lpAt E_specClarify (lp E_specClarify 0 n) 0 (loopAt Tryz.f36 2) (mkS [2, 4, 6, 7, 8] [.ptr 0 0, .ptr 2 0, .int .i64 q, .int .i64 (j : Int), .int .i64 x] [some (.box 26 [.int .i64 0, .own 1]), some (.row 3 (.int .i64) []), some (.box 26 [.int .i64 m, .own 3]), some (.row 3 (.int .i64) b)]) k =
      k (.exit 4) (mkS [2, 4, 6, 7] [.ptr 0 0, .ptr 2 0, .int .i64 (dupI b j d i q), .int .i64 (j : Int)] [some (.box 26 [.int .i64 0, .own 1]), some (.row 3 (.int .i64) []), some (.box 26 [.int .i64 m, .own 3]), some (.row 3 (.int .i64) b)]) := by
  have hu := wrapu (n := (j : Int)) (by omega) (by omega)
  induction d with
  | zero =>
    intro n i x q hd hi hx hn
    subst hx
    rw [lpAt_def]
    conv => lhs; whnf
    refine br_f (df (by omega)) ?_
    conv => lhs; whnf
    rw [dupI]
  | succ d ih =>
    intro n i x q hd hi hx hn
    obtain ⟨n, rfl⟩ : ∃ m, n = m + 1 := ⟨n - 1, by omega⟩
    subst hx
    rw [lpAt_def]
    conv => lhs; whnf
    refine br_t (dt (by omega)) ?_
    conv => lhs; whnf
    conv => lhs; arg 1; whnf
    refine bnd_g (by exact ⟨⟨by omega, by omega⟩, hb, hs⟩) ?_
    conv => lhs; whnf
    conv => lhs; arg 1; whnf
    refine bnd_g (by exact ⟨⟨by omega, by omega⟩, hb, hs⟩) ?_
    conv => lhs; whnf
    refine br_t (by kernel_rfl) ?_
    conv => lhs; whnf
    refine br_c (fun g => ?_) (fun g => ?_)
    · have g' : (colF b (i : Int) == colF b (j : Int)) = true := g
      conv => lhs; whnf
      rw [hu]
      refine br_f (df (by omega)) ?_
      conv => lhs; whnf
      refine (ih n (i + 1) (IntKind.i64.wrap ((i : Int) + 1)) _ (by omega) (by omega) (by rw [wrap64 (by omega) (by omega)]; simp) (by omega)).trans ?_
      rw [dupI, g']
      rfl
    · have g' : (colF b (i : Int) == colF b (j : Int)) = false := g
      conv => lhs; whnf
      refine (ih n (i + 1) (IntKind.i64.wrap ((i : Int) + 1)) _ (by omega) (by omega) (by rw [wrap64 (by omega) (by omega)]; simp) (by omega)).trans ?_
      rw [dupI, g']
      rfl
theorem lb_specClarify (m : Int) (b : List Int) (hb : b.length ≤ 8) (hs : ∀ x ∈ b, 0 ≤ x ∧ x ≤ 255) (hm : 0 ≤ m ∧ m ≤ 6) (k : AX → S → Option (AV × List Ob)) (d : Nat) : ∀ (n i : Nat) (x q : Int), m.toNat - i = d → i ≤ m.toNat → x = i → d + 10 < n →
    lpAt E_specClarify (lp E_specClarify 0 n) 0 (loopAt Tryz.f36 1) (mkS [2, 4, 6, 7] [.ptr 0 0, .ptr 2 0, .int .i64 q, .int .i64 x] [some (.box 26 [.int .i64 0, .own 1]), some (.row 3 (.int .i64) []), some (.box 26 [.int .i64 m, .own 3]), some (.row 3 (.int .i64) b)]) k =
      k (.exit 2) (mkS [2, 4, 6, 7] [.ptr 0 0, .ptr 2 0, .int .i64 (gO b d i q), .int .i64 m] [some (.box 26 [.int .i64 0, .own 1]), some (.row 3 (.int .i64) []), some (.box 26 [.int .i64 m, .own 3]), some (.row 3 (.int .i64) b)]) := by
  induction d with
  | zero =>
    intro n i x q hd hi hx hn
    have e : x = m := by omega
    subst e
    rw [lpAt_def]
    conv => lhs; whnf
    refine br_f (df (by omega)) ?_
    conv => lhs; whnf
    rw [gO]
  | succ d ih =>
    intro n i x q hd hi hx hn
    obtain ⟨n, rfl⟩ : ∃ m, n = m + 1 := ⟨n - 1, by omega⟩
    subst hx
    rw [lpAt_def]
    conv => lhs; whnf
    refine br_t (dt (by omega)) ?_
    conv => lhs; whnf
    refine (lc_specClarify m b hb hs hm i (by omega) _ i _ 0 0 q rfl (by omega) rfl (by omega)).trans ?_
    conv => lhs; whnf
    refine (ih n (i + 1) (IntKind.i64.wrap ((i : Int) + 1)) _ (by omega) (by omega) (by rw [wrap64 (by omega) (by omega)]; simp) (by omega)).trans ?_
    rw [gO]
theorem ev_specClarify (m : Int) (b : List Int) (hp : b.length ≤ 1048576) : evF E_specClarify (40) Tryz.f36 [.agg [.int .i64 m, .lst (.int .i64) b]] [] = some (.tup [.agg [.int .i64 (spClar m b).1, .own 0], .bool (spClar m b).2.2], [.row 3 (.int .i64) (spClar m b).2.1]) := by
  conv => lhs; whnf
  conv => lhs; arg 1; whnf
  refine bnd_g (by omega) ?_
  conv => lhs; whnf
  refine br_c (fun h => ?_) (fun h => ?_)
  · have e : spClar m b = (0, [], false) := by unfold spClar; rw [bnt h]; rfl
    conv => rhs; rw [e]
    conv => lhs; whnf
    all_goals rfl
  · have h' := bnf h
    have hl := isCtx_len h'
    have hd := isCtx_len (dd_ctx h')
    have e : spClar m b = dropA m (ddL b []) (gO (ddL b []) m.toNat 0 0) := by unfold spClar; rw [h']; rfl
    conv => rhs; rw [e]
    conv => lhs; whnf
    refine (la_specClarify m b hl.1 _ b.length _ 0 0 [] rfl (by omega) rfl (by change _ < 39; omega) (by simp)).trans ?_
    conv => lhs; whnf
    refine (lb_specClarify m (ddL b []) hd.1 (ctx_small (dd_ctx h')) ⟨hl.2.1, hl.2.2.1⟩ _ m.toNat _ 0 0 0 rfl (by omega) rfl (by change _ < 39; omega)).trans ?_
    conv => lhs; whnf
    conv => lhs; arg 1; whnf
    refine bnd_g (by (change (ddL b []).length ≤ 1048576; omega)) ?_
    conv => lhs; whnf
    all_goals rfl
theorem ok_specClarify : FnOk Tryz.prog 36 K_specClarify := by
  refine fn_ok (fn := Tryz.f36) (k := Tryz.f36.ntmps) (E := E_specClarify) (facts_of (List.forall_mem_cons.2 ⟨ok_specIsContext, List.forall_mem_cons.2 ⟨ok_l2In, List.forall_mem_cons.2 ⟨ok_l3Column, List.forall_mem_cons.2 ⟨ok_specDropAttributes, List.forall_mem_nil _⟩⟩⟩⟩)) (by kernel_rfl) rfl (by decide +kernel) (by decide +kernel) ?_
  intro avs hin r h
  unfold K_specClarify at h
  split at h
  · obtain ⟨hp, rfl⟩ := gd_o h
    exact ⟨_, ev_specClarify _ _ hp, rfl⟩
  · cases h

/- spec.IsReducibleAttribute -/
def K_specIsReducible : List AV → List Ob → Option (AV × List Ob)
  | [.agg [.int .i64 m, .lst (.int .i64) b], .int .i64 e], [] => gd (b.length ≤ 1048576) (.bool (attrOk m b e && reducF m b e), [])
  | _, _ => none
@[reducible] def E_specIsReducible : Env := mkE (tb [(54, K_specIsContext), (65, K_l1In), (67, K_l3Column), (68, K_specFullSet)]) (fun f => false) (fun r => bif r == 6 then ([2, 5, 6, 7], [5, 6]) else ([], []))
theorem lp_specIsReducible (m : Int) (b : List Int) (hc : isCtx m b = true) (own : Int) (ho : 0 ≤ own ∧ own ≤ 255) (k : AX → S → Option (AV × List Ob)) (d : Nat) : ∀ (n i : Nat) (x q : Int), m.toNat - i = d → i ≤ m.toNat → x = i → d < n →
    lpAt E_specIsReducible (lp E_specIsReducible 0 n) 0 (loopAt Tryz.f39 0) (mkS [2, 5, 6, 7] [.ptr 0 0, .int .i64 own, .int .i64 q, .int .i64 x] [some (.box 26 [.int .i64 m, .lst (.int .i64) b])]) k =
      k (.exit 0) (mkS [5, 6] [.int .i64 own, .int .i64 (beyondF own (colsL b d i) q)] []) := by
  have hl := isCtx_len hc
  have hS : ∀ x ∈ b, 0 ≤ x ∧ x ≤ 255 := fun x hx => by have := isSet_le (hl.2.2.2 x hx); omega
  have hs : isSet 8 own = true := by rw [isSet8]; exact dt ho
  induction d with
  | zero =>
    intro n i x q hd hi hx hn
    subst hx
    rw [lpAt_def]
    conv => lhs; whnf
    refine br_f (df (by omega)) ?_
    conv => lhs; whnf
    rfl
  | succ d ih =>
    intro n i x q hd hi hx hn
    obtain ⟨n, rfl⟩ : ∃ m, n = m + 1 := ⟨n - 1, by omega⟩
    subst hx
    have e0 : (band (colF b i) own == own) = (bnot own (colF b i) == 0) := by rw [band_comm]; exact beq_bnot hs
    rw [lpAt_def]
    conv => lhs; whnf
    refine br_t (dt (by omega)) ?_
    conv => lhs; whnf
    conv => lhs; arg 1; whnf
    refine bnd_g (by exact ⟨by omega, hl.1, hS⟩) ?_
    conv => lhs; whnf
    refine br_c (fun h => ?_) (fun h => ?_)
    · have h' : (colF b i != own) = true := h
      conv => lhs; whnf
      repeat ((first | with_reducible apply br_tt | with_reducible apply br_ff | with_reducible apply br_nf | with_reducible apply br_nt | with_reducible refine br_d ?_ (by kernel_rfl) | with_reducible apply br_t h | with_reducible apply br_f h); conv => lhs; whnf)
      refine br_c (fun h2 => ?_) (fun h2 => ?_)
      · have h2' : (bnot own (colF b i) == 0) = true := e0 ▸ h2
        conv => lhs; whnf
        rw [ih n (i + 1) _ _ (by omega) (by omega) (by rw [wrap64 (by omega) (by omega)]; simp) (by omega)]
        rw [colsL, beyondF, h', h2']
        rfl
      · have h2' : (bnot own (colF b i) == 0) = false := e0 ▸ h2
        conv => lhs; whnf
        rw [ih n (i + 1) _ _ (by omega) (by omega) (by rw [wrap64 (by omega) (by omega)]; simp) (by omega)]
        rw [colsL, beyondF, h', h2']
        rfl
    · have h' : (colF b i != own) = false := h
      conv => lhs; whnf
      repeat ((first | with_reducible apply br_tt | with_reducible apply br_ff | with_reducible apply br_nf | with_reducible apply br_nt | with_reducible refine br_d ?_ (by kernel_rfl) | with_reducible apply br_t h | with_reducible apply br_f h); conv => lhs; whnf)
      rw [ih n (i + 1) _ _ (by omega) (by omega) (by rw [wrap64 (by omega) (by omega)]; simp) (by omega)]
      rw [colsL, beyondF, h']
      rfl
theorem ev_specIsReducible (m : Int) (b : List Int) (e : Int) (hp : b.length ≤ 1048576) : evF E_specIsReducible (20) Tryz.f39 [.agg [.int .i64 m, .lst (.int .i64) b], .int .i64 e] [] = some (.bool (attrOk m b e && reducF m b e), []) := by
  conv => lhs; whnf
  conv => lhs; arg 1; whnf
  refine bnd_g (by omega) ?_
  conv => lhs; whnf
  refine br_c (fun h => ?_) (fun h => ?_)
  · conv => lhs; whnf
    repeat ((first | with_reducible apply br_tt | with_reducible apply br_ff | with_reducible apply br_nf | with_reducible apply br_nt | with_reducible refine br_d ?_ (by kernel_rfl) | with_reducible apply br_t h | with_reducible apply br_f h); conv => lhs; whnf)
    refine okB ?_
    unfold attrOk
    rw [bnt h]
    rfl
  · have hl := isCtx_len (bnf h)
    have hw : IntKind.i64.wrap (m - 1) = m - 1 := wrap64 (by omega) (by omega)
    conv => lhs; whnf
    repeat ((first | with_reducible apply br_tt | with_reducible apply br_ff | with_reducible apply br_nf | with_reducible apply br_nt | with_reducible refine br_d ?_ (by kernel_rfl) | with_reducible apply br_t h | with_reducible apply br_f h); conv => lhs; whnf)
    conv => lhs; arg 1; whnf
    refine bnd_g (by exact True.intro) ?_
    conv => lhs; whnf
    repeat ((first | with_reducible apply br_tt | with_reducible apply br_ff | with_reducible apply br_nf | with_reducible apply br_nt | with_reducible refine br_d ?_ (by kernel_rfl) | with_reducible apply br_t h | with_reducible apply br_f h); conv => lhs; whnf)
    refine br_c (fun h2 => ?_) (fun h2 => ?_)
    · have h2' := ofnt h2
      rw [hw] at h2'
      conv => lhs; whnf
      refine okB ?_
      unfold attrOk
      rw [df h2', Bool.and_false]
      rfl
    · have h2' := ofnf h2
      rw [hw] at h2'
      have hs : ∀ x ∈ b, 0 ≤ x ∧ x ≤ 255 := fun x hx => by have := isSet_le (hl.2.2.2 x hx); omega
      have hcs := colF_set b e hl.1
      conv => lhs; whnf
      conv => lhs; arg 1; whnf
      refine bnd_g (by exact ⟨by omega, hl.1, hs⟩) ?_
      conv => lhs; whnf
      conv => lhs; arg 1; whnf
      refine bnd_g (by exact True.intro) ?_
      conv => lhs; whnf
      refine (lp_specIsReducible m b (bnf h) (colF b e) hcs _ m.toNat _ 0 0 _ rfl (by omega) rfl (by change _ < 19; omega)).trans ?_
      conv => lhs; whnf
      refine okB ?_
      unfold attrOk
      rw [bnf h, dt h2']
      rfl
theorem ok_specIsReducible : FnOk Tryz.prog 39 K_specIsReducible := by
  refine fn_ok (fn := Tryz.f39) (k := Tryz.f39.ntmps) (E := E_specIsReducible) (facts_of (List.forall_mem_cons.2 ⟨ok_specIsContext, List.forall_mem_cons.2 ⟨ok_l1In, List.forall_mem_cons.2 ⟨ok_l3Column, List.forall_mem_cons.2 ⟨ok_specFullSet, List.forall_mem_nil _⟩⟩⟩⟩)) (by kernel_rfl) rfl (by decide +kernel) (by decide +kernel) ?_
  intro avs hin r h
  unfold K_specIsReducible at h
  split at h
  · obtain ⟨hp, rfl⟩ := gd_o h
    exact ⟨_, ev_specIsReducible _ _ _ hp, rfl⟩
  · cases h

/- spec.DropObjects -/
def K_specDropObjects : List AV → List Ob → Option (AV × List Ob)
  | [.agg [.int .i64 m, .lst (.int .i64) b], .int .i64 s], [] => gd (isCtx m b = true ∧ isSet b.length s = true) (.tup [.agg [.int .i64 m, .own 0], .bool true], [.row 3 (.int .i64) (dropL s b 0)])
  | _, _ => none
@[reducible] def E_specDropObjects : Env := mkE (tb [(54, K_specIsContext), (69, K_specIsSet), (70, K_l2Has)]) (fun f => false) (fun r => bif r == 5 then ([1, 2, 4, 6, 7], [4, 6]) else ([], []))
theorem lp_specDropObjects (m : Int) (b : List Int) (hb : b.length ≤ 8) (s : Int) (hs : isSet 8 s = true) (k : AX → S → Option (AV × List Ob)) (d : Nat) : ∀ (n i : Nat) (x : Int) (zs : List Int), b.length - i = d → i ≤ b.length → x = i → d < n → zs.length ≤ i →
    lpAt E_specDropObjects (lp E_specDropObjects 0 n) 0 (loopAt Tryz.f38 0) (mkS [1, 2, 4, 6, 7] [.int .i64 s, .ptr 0 0, .ptr 1 0, .ptr 3 0, .int .i64 x] [some (.box 26 [.int .i64 m, .lst (.int .i64) b]), some (.box 26 [.int .i64 0, .own 2]), some (.row 3 (.int .i64) []), some (.box 26 [.int .i64 m, .own 4]), some (.row 3 (.int .i64) zs)]) k =
      k (.exit 0) (mkS [4, 6] [.ptr 0 0, .ptr 2 0] [some (.box 26 [.int .i64 0, .own 1]), some (.row 3 (.int .i64) []), some (.box 26 [.int .i64 m, .own 3]), some (.row 3 (.int .i64) (zs ++ dropL s (b.drop i) i))]) := by
  have hr := isSet_le hs
  induction d with
  | zero =>
    intro n i x zs hd hi hx hn hz
    subst hx
    rw [lpAt_def]
    conv => lhs; whnf
    refine br_f (df (by omega)) ?_
    conv => lhs; whnf
    rw [List.drop_of_length_le (by omega), dropL, List.append_nil]
  | succ d ih =>
    intro n i x zs hd hi hx hn hz
    obtain ⟨n, rfl⟩ : ∃ m, n = m + 1 := ⟨n - 1, by omega⟩
    subst hx
    have hE : hasE s i = s.toNat.testBit (i : Int).toNat := by
      unfold hasE
      rw [hs, dt (show 0 ≤ (i : Int) ∧ (i : Int) ≤ 7 by omega)]
      rfl
    rw [lpAt_def]
    conv => lhs; whnf
    refine br_t (dt (by omega)) ?_
    conv => lhs; whnf
    conv => lhs; arg 1; whnf
    refine bnd_g (by exact ⟨⟨by omega, by omega⟩, by omega, by omega⟩) ?_
    conv => lhs; whnf
    rw [getD_drop (l := b) (i := i) (d := 0) (by omega)]
    refine br_c (fun h => ?_) (fun h => ?_)
    · have h' : s.toNat.testBit (i : Int).toNat = false := bnt h
      conv => lhs; whnf
      refine br_t (dt2 (by omega) (by omega)) ?_
      conv => lhs; whnf
      refine br_t (dt (by simp [room]; omega)) ?_
      conv => lhs; whnf
      repeat ((first | with_reducible apply br_tt | with_reducible apply br_ff | with_reducible apply br_nf | with_reducible apply br_nt | with_reducible refine br_d ?_ (by kernel_rfl)); conv => lhs; whnf)
      rw [ih n (i + 1) _ _ (by omega) (by omega) (by rw [wrap64 (by omega) (by omega)]; simp) (by omega) (by simp; omega)]
      rw [dropL, hE, h', cond_false]
      simp only [List.append_assoc]
      rfl
    · have h' : s.toNat.testBit (i : Int).toNat = true := bnf h
      conv => lhs; whnf
      rw [ih n (i + 1) _ _ (by omega) (by omega) (by rw [wrap64 (by omega) (by omega)]; simp) (by omega) (by omega)]
      rw [dropL, hE, h', cond_true]
theorem ev_specDropObjects (m : Int) (b : List Int) (s : Int) (hp : isCtx m b = true ∧ isSet b.length s = true) : evF E_specDropObjects (20) Tryz.f38 [.agg [.int .i64 m, .lst (.int .i64) b], .int .i64 s] [] = some (.tup [.agg [.int .i64 m, .own 0], .bool true], [.row 3 (.int .i64) (dropL s b 0)]) := by
  have hl := isCtx_len hp.1
  have hr := isSet_le hp.2
  conv => lhs; whnf
  conv => lhs; arg 1; whnf
  refine bnd_g (by omega) ?_
  conv => lhs; whnf
  refine br_c (fun h => ?_) (fun h => ?_)
  · exact absurd hp.1 (by rw [bnt h]; exact Bool.false_ne_true)
  · conv => lhs; whnf
    repeat ((first | with_reducible apply br_tt | with_reducible apply br_ff | with_reducible apply br_nf | with_reducible apply br_nt | with_reducible refine br_d ?_ (by kernel_rfl) | with_reducible apply br_t h | with_reducible apply br_f h); conv => lhs; whnf)
    conv => lhs; arg 1; whnf
    refine bnd_g (by exact True.intro) ?_
    conv => lhs; whnf
    repeat ((first | with_reducible apply br_tt | with_reducible apply br_ff | with_reducible apply br_nf | with_reducible apply br_nt | with_reducible refine br_d ?_ (by kernel_rfl) | with_reducible apply br_t h | with_reducible apply br_f h); conv => lhs; whnf)
    refine br_c (fun h2 => ?_) (fun h2 => ?_)
    · exact absurd hp.2 (by rw [bnt h2]; exact Bool.false_ne_true)
    · conv => lhs; whnf
      repeat ((first | with_reducible apply br_tt | with_reducible apply br_ff | with_reducible apply br_nf | with_reducible apply br_nt | with_reducible refine br_d ?_ (by kernel_rfl) | with_reducible apply br_t h2 | with_reducible apply br_f h2); conv => lhs; whnf)
      refine (lp_specDropObjects m b hl.1 s (by rw [isSet8]; exact dt ⟨by omega, by omega⟩) _ b.length _ 0 0 [] rfl (by omega) rfl (by change _ < 19; omega) (by simp)).trans ?_
      conv => lhs; whnf
      rfl
theorem ok_specDropObjects : FnOk Tryz.prog 38 K_specDropObjects := by
  refine fn_ok (fn := Tryz.f38) (k := Tryz.f38.ntmps) (E := E_specDropObjects) (facts_of (List.forall_mem_cons.2 ⟨ok_specIsContext, List.forall_mem_cons.2 ⟨ok_specIsSet, List.forall_mem_cons.2 ⟨ok_l2Has, List.forall_mem_nil _⟩⟩⟩)) (by kernel_rfl) rfl (by decide +kernel) (by decide +kernel) ?_
  intro avs hin r h
  unfold K_specDropObjects at h
  split at h
  · obtain ⟨hp, rfl⟩ := gd_o h
    exact ⟨_, ev_specDropObjects _ _ _ hp, rfl⟩
  · cases h

/- spec.IsReducibleObject -/
def K_specIsReducibleObject : List AV → List Ob → Option (AV × List Ob)
  | [.agg [.int .i64 m, .lst (.int .i64) b], .int .i64 g], [] => gd (isCtx m b = true ∧ 0 ≤ g ∧ g < b.length) (.bool (redAt m b g), [])
  | _, _ => none
@[reducible] def E_specIsReducibleObject : Env := mkE (tb [(54, K_specIsContext), (65, K_l1In), (68, K_specFullSet)]) (fun f => false) (fun r => bif r == 5 then ([1, 2, 5, 6], [1, 2, 5]) else ([], []))
theorem lp_specIsReducibleObject (m : Int) (b : List Int) (hb : b.length ≤ 8) (hS : ∀ x ∈ b, 0 ≤ x ∧ x ≤ 255) (g : Nat) (hg : g < b.length) (k : AX → S → Option (AV × List Ob)) (d : Nat) : ∀ (n i : Nat) (x q : Int), b.length - i = d → i ≤ b.length → x = i → d < n →
    lpAt E_specIsReducibleObject (lp E_specIsReducibleObject 0 n) 0 (loopAt Tryz.f37 0) (mkS [1, 2, 5, 6] [.int .i64 (g : Int), .ptr 0 0, .int .i64 q, .int .i64 x] [some (.box 26 [.int .i64 m, .lst (.int .i64) b])]) k =
      k (.exit 0) (mkS [1, 2, 5] [.int .i64 (g : Int), .ptr 0 0, .int .i64 (beyondF (b.getD g 0) (b.drop i) q)] [some (.box 26 [.int .i64 m, .lst (.int .i64) b])]) := by
  have hgr := hS _ (mem_getD (d := 0) hg)
  have hs : isSet 8 (b.getD g 0) = true := by rw [isSet8]; exact dt hgr
  induction d with
  | zero =>
    intro n i x q hd hi hx hn
    subst hx
    rw [lpAt_def]
    conv => lhs; whnf
    refine br_f (df (by omega)) ?_
    conv => lhs; whnf
    rw [List.drop_of_length_le (by omega), beyondF]
  | succ d ih =>
    intro n i x q hd hi hx hn
    obtain ⟨n, rfl⟩ : ∃ m, n = m + 1 := ⟨n - 1, by omega⟩
    subst hx
    have e0 : (band (b.getD i 0) (b.getD g 0) == b.getD g 0) = (bnot (b.getD g 0) (b.getD i 0) == 0) := by rw [band_comm]; exact beq_bnot hs
    have e1 := getD_drop (l := b) (i := i) (d := 0) (by omega)
    rw [lpAt_def]
    conv => lhs; whnf
    refine br_t (dt (by omega)) ?_
    conv => lhs; whnf
    refine br_t (dt2 (by omega) (by omega)) ?_
    conv => lhs; whnf
    refine br_t (dt2 (by omega) (by omega)) ?_
    conv => lhs; whnf
    refine br_c (fun h => ?_) (fun h => ?_)
    · have h' : (b.getD i 0 != b.getD g 0) = true := h
      conv => lhs; whnf
      repeat ((first | with_reducible apply br_tt | with_reducible apply br_ff | with_reducible apply br_nf | with_reducible apply br_nt | with_reducible refine br_d ?_ (by kernel_rfl) | with_reducible apply br_t h | with_reducible apply br_f h | with_reducible refine br_t (dt2 (by omega) (by omega)) ?_); conv => lhs; whnf)
      refine br_c (fun h2 => ?_) (fun h2 => ?_)
      · have h2' : (bnot (b.getD g 0) (b.getD i 0) == 0) = true := e0 ▸ h2
        conv => lhs; whnf
        refine br_t (dt2 (by omega) (by omega)) ?_
        conv => lhs; whnf
        refine (ih n (i + 1) (IntKind.i64.wrap ((i : Int) + 1)) _ (by omega) (by omega) (by rw [wrap64 (by omega) (by omega)]; simp) (by omega)).trans ?_
        rw [e1, beyondF, h', h2']
        rfl
      · have h2' : (bnot (b.getD g 0) (b.getD i 0) == 0) = false := e0 ▸ h2
        conv => lhs; whnf
        refine (ih n (i + 1) (IntKind.i64.wrap ((i : Int) + 1)) _ (by omega) (by omega) (by rw [wrap64 (by omega) (by omega)]; simp) (by omega)).trans ?_
        rw [e1, beyondF, h', h2']
        rfl
    · have h' : (b.getD i 0 != b.getD g 0) = false := h
      conv => lhs; whnf
      repeat ((first | with_reducible apply br_tt | with_reducible apply br_ff | with_reducible apply br_nf | with_reducible apply br_nt | with_reducible refine br_d ?_ (by kernel_rfl) | with_reducible apply br_t h | with_reducible apply br_f h); conv => lhs; whnf)
      refine (ih n (i + 1) (IntKind.i64.wrap ((i : Int) + 1)) _ (by omega) (by omega) (by rw [wrap64 (by omega) (by omega)]; simp) (by omega)).trans ?_
      rw [e1, beyondF, h']
      rfl
theorem ev_specIsReducibleObject (m : Int) (b : List Int) (g : Int) (hp : isCtx m b = true ∧ 0 ≤ g ∧ g < b.length) : evF E_specIsReducibleObject (20) Tryz.f37 [.agg [.int .i64 m, .lst (.int .i64) b], .int .i64 g] [] = some (.bool (redAt m b g), []) := by
  obtain ⟨g, rfl⟩ : ∃ n : Nat, g = n := ⟨g.toNat, by omega⟩
  have hl := isCtx_len hp.1
  have h0 : (!isCtx m b) = false := by rw [hp.1]; rfl
  have hw : IntKind.i64.wrap ((b.length : Int) - 1) = (b.length : Int) - 1 := wrap64 (by omega) (by omega)
  conv => lhs; whnf
  conv => lhs; arg 1; whnf
  refine bnd_g (by omega) ?_
  conv => lhs; whnf
  repeat ((first | with_reducible apply br_tt | with_reducible apply br_ff | with_reducible apply br_nf | with_reducible apply br_nt | with_reducible refine br_d ?_ (by kernel_rfl) | with_reducible apply br_t h0 | with_reducible apply br_f h0); conv => lhs; whnf)
  conv => lhs; arg 1; whnf
  refine bnd_g (by exact True.intro) ?_
  conv => lhs; whnf
  repeat ((first | with_reducible apply br_tt | with_reducible apply br_ff | with_reducible apply br_nf | with_reducible apply br_nt | with_reducible refine br_d ?_ (by kernel_rfl) | with_reducible apply br_t h0 | with_reducible apply br_f h0); conv => lhs; whnf)
  refine br_f (by (rw [hw]; simp; omega)) ?_
  conv => lhs; whnf
  conv => lhs; arg 1; whnf
  refine bnd_g (by exact True.intro) ?_
  conv => lhs; whnf
  refine (lp_specIsReducibleObject m b hl.1 (ctx_small hp.1) g (by omega) _ b.length _ 0 0 (fullSet m) rfl (by omega) rfl (by change _ < 19; omega)).trans ?_
  conv => lhs; whnf
  refine br_t (dt2 (by omega) (by omega)) ?_
  conv => lhs; whnf
  refine okB ?_
  unfold redAt redV
  rfl
theorem ok_specIsReducibleObject : FnOk Tryz.prog 37 K_specIsReducibleObject := by
  refine fn_ok (fn := Tryz.f37) (k := Tryz.f37.ntmps) (E := E_specIsReducibleObject) (facts_of (List.forall_mem_cons.2 ⟨ok_specIsContext, List.forall_mem_cons.2 ⟨ok_l1In, List.forall_mem_cons.2 ⟨ok_specFullSet, List.forall_mem_nil _⟩⟩⟩)) (by kernel_rfl) rfl (by decide +kernel) (by decide +kernel) ?_
  intro avs hin r h
  unfold K_specIsReducibleObject at h
  split at h
  · obtain ⟨hp, rfl⟩ := gd_o h
    exact ⟨_, ev_specIsReducibleObject _ _ _ hp, rfl⟩
  · cases h

/- spec.ReduceContext -/
def K_specReduceContext : List AV → List Ob → Option (AV × List Ob)
  | [.agg [.int .i64 m, .lst (.int .i64) b]], [] => gd (b.length ≤ 1048576) (.tup [.agg [.int .i64 (redF m b).1, .own 0], .bool (redF m b).2.2], [.row 3 (.int .i64) (redF m b).2.1])
  | _, _ => none
@[reducible] def E_specReduceContext : Env := mkE (tb [(36, K_specClarify), (37, K_specIsReducibleObject), (38, K_specDropObjects), (39, K_specIsReducible), (40, K_specDropAttributes)]) (fun f => false) (fun r => bif r == 6 then ([2, 4, 6, 7], [2, 4, 6]) else bif r == 13 then ([2, 6, 8, 10], [2, 6, 8]) else ([], []))
theorem la_specReduceContext (m : Int) (b : List Int) (hc : isCtx m b = true) (k : AX → S → Option (AV × List Ob)) (d : Nat) : ∀ (n i : Nat) (x q : Int), b.length - i = d → i ≤ b.length → x = i → d < n →
    lpAt E_specReduceContext (lp E_specReduceContext 0 n) 0 (loopAt Tryz.f16 0) (mkS [2, 4, 6, 7] [.ptr 0 0, .ptr 2 0, .int .i64 q, .int .i64 x] [some (.box 26 [.int .i64 0, .own 1]), some (.row 3 (.int .i64) []), some (.box 26 [.int .i64 m, .own 3]), some (.row 3 (.int .i64) b)]) k =
      k (.exit 0) (mkS [2, 4, 6] [.ptr 0 0, .ptr 2 0, .int .i64 (orF (redAt m b) d i q)] [some (.box 26 [.int .i64 0, .own 1]), some (.row 3 (.int .i64) []), some (.box 26 [.int .i64 m, .own 3]), some (.row 3 (.int .i64) b)]) := by
  have hl := isCtx_len hc
  induction d with
  | zero =>
    intro n i x q hd hi hx hn
    subst hx
    rw [lpAt_def]
    conv => lhs; whnf
    refine br_f (df (by omega)) ?_
    conv => lhs; whnf
    rfl
  | succ d ih =>
    intro n i x q hd hi hx hn
    obtain ⟨n, rfl⟩ : ∃ m, n = m + 1 := ⟨n - 1, by omega⟩
    subst hx
    rw [lpAt_def]
    conv => lhs; whnf
    refine br_t (dt (by omega)) ?_
    conv => lhs; whnf
    conv => lhs; arg 1; whnf
    refine bnd_g (by exact ⟨hc, by omega, by omega⟩) ?_
    conv => lhs; whnf
    refine br_c (fun h => ?_) (fun h => ?_)
    · have h' : redAt m b (i : Int) = true := h
      conv => lhs; whnf
      refine br_f (by (rw [wrapu (n := (i : Int)) (by omega) (by omega)]; exact df (by omega))) ?_
      conv => lhs; whnf
      rw [shl1u (by omega)]
      rw [ih n (i + 1) _ _ (by omega) (by omega) (by rw [wrap64 (by omega) (by omega)]; simp) (by omega)]
      rw [orF, h', cond_true]
      rfl
    · have h' : redAt m b (i : Int) = false := h
      conv => lhs; whnf
      rw [ih n (i + 1) _ _ (by omega) (by omega) (by rw [wrap64 (by omega) (by omega)]; simp) (by omega)]
      rw [orF, h', cond_false]
theorem lb_specReduceContext (m : Int) (b : List Int) (hc : isCtx m b = true) (k : AX → S → Option (AV × List Ob)) (d : Nat) : ∀ (n i : Nat) (x q : Int), m.toNat - i = d → i ≤ m.toNat → x = i → d < n →
    lpAt E_specReduceContext (lp E_specReduceContext 0 n) 0 (loopAt Tryz.f16 1) (mkS [2, 6, 8, 10] [.ptr 0 0, .int .i64 q, .ptr 2 0, .int .i64 x] [some (.box 26 [.int .i64 0, .own 1]), some (.row 3 (.int .i64) []), some (.box 26 [.int .i64 m, .own 3]), some (.row 3 (.int .i64) b)]) k =
      k (.exit 2) (mkS [2, 6, 8] [.ptr 0 0, .int .i64 (orF (redE m b) d i q), .ptr 2 0] [some (.box 26 [.int .i64 0, .own 1]), some (.row 3 (.int .i64) []), some (.box 26 [.int .i64 m, .own 3]), some (.row 3 (.int .i64) b)]) := by
  have hl := isCtx_len hc
  induction d with
  | zero =>
    intro n i x q hd hi hx hn
    have e : x = m := by omega
    subst e
    rw [lpAt_def]
    conv => lhs; whnf
    refine br_f (df (by omega)) ?_
    conv => lhs; whnf
    rfl
  | succ d ih =>
    intro n i x q hd hi hx hn
    obtain ⟨n, rfl⟩ : ∃ m, n = m + 1 := ⟨n - 1, by omega⟩
    subst hx
    rw [lpAt_def]
    conv => lhs; whnf
    refine br_t (dt (by omega)) ?_
    conv => lhs; whnf
    conv => lhs; arg 1; whnf
    refine bnd_g (by omega) ?_
    conv => lhs; whnf
    refine br_c (fun h => ?_) (fun h => ?_)
    · have h' : redE m b (i : Int) = true := h
      conv => lhs; whnf
      refine br_f (by (rw [wrapu (n := (i : Int)) (by omega) (by omega)]; exact df (by omega))) ?_
      conv => lhs; whnf
      rw [shl1u (by omega)]
      rw [ih n (i + 1) _ _ (by omega) (by omega) (by rw [wrap64 (by omega) (by omega)]; simp) (by omega)]
      rw [orF, h', cond_true]
      rfl
    · have h' : redE m b (i : Int) = false := h
      conv => lhs; whnf
      rw [ih n (i + 1) _ _ (by omega) (by omega) (by rw [wrap64 (by omega) (by omega)]; simp) (by omega)]
      rw [orF, h', cond_false]
theorem ev_specReduceContext (m : Int) (b : List Int) (hp : b.length ≤ 1048576) : evF E_specReduceContext (40) Tryz.f16 [.agg [.int .i64 m, .lst (.int .i64) b]] [] = some (.tup [.agg [.int .i64 (redF m b).1, .own 0], .bool (redF m b).2.2], [.row 3 (.int .i64) (redF m b).2.1]) := by
  conv => lhs; whnf
  conv => lhs; arg 1; whnf
  refine bnd_g (by exact hp) ?_
  conv => lhs; whnf
  refine br_c (fun h => ?_) (fun h => ?_)
  · have h' : isCtx m b = false := (spClar_ok m b).symm.trans (bnt h)
    have e : redF m b = (0, [], false) := by unfold redF; rw [h']; rfl
    conv => rhs; rw [e]
    conv => lhs; whnf
    all_goals rfl
  · have h' : isCtx m b = true := (spClar_ok m b).symm.trans (bnf h)
    have c1 := (clar_iso h').1
    have c2 := (objs_iso c1).1
    have l1 := isCtx_len c1
    have l2 := isCtx_len c2
    have hs := gonO_set (spClar m b).1 l1.1
    have e : redF m b = dropA (spClar m b).1 (kepO (spClar m b).1 (spClar m b).2.1) (gonA (spClar m b).1 (kepO (spClar m b).1 (spClar m b).2.1)) := by unfold redF; rw [h']; rfl
    conv => rhs; rw [e]
    conv => lhs; whnf
    refine (la_specReduceContext (spClar m b).1 (spClar m b).2.1 c1 _ (spClar m b).2.1.length _ 0 0 0 rfl (by omega) rfl (by change _ < 39; omega)).trans ?_
    conv => lhs; whnf
    conv => lhs; arg 1; whnf
    refine bnd_g (by exact ⟨c1, hs⟩) ?_
    conv => lhs; whnf
    refine (lb_specReduceContext (spClar m b).1 (kepO (spClar m b).1 (spClar m b).2.1) c2 _ (spClar m b).1.toNat _ 0 0 0 rfl (by omega) rfl (by change _ < 39; omega)).trans ?_
    conv => lhs; whnf
    conv => lhs; arg 1; whnf
    refine bnd_g (by (have := l2.1; omega)) ?_
    conv => lhs; whnf
    all_goals rfl
theorem ok_specReduceContext : FnOk Tryz.prog 16 K_specReduceContext := by
  refine fn_ok (fn := Tryz.f16) (k := Tryz.f16.ntmps) (E := E_specReduceContext) (facts_of (List.forall_mem_cons.2 ⟨ok_specClarify, List.forall_mem_cons.2 ⟨ok_specIsReducibleObject, List.forall_mem_cons.2 ⟨ok_specDropObjects, List.forall_mem_cons.2 ⟨ok_specIsReducible, List.forall_mem_cons.2 ⟨ok_specDropAttributes, List.forall_mem_nil _⟩⟩⟩⟩⟩)) (by kernel_rfl) rfl (by decide +kernel) (by decide +kernel) ?_
  intro avs hin r h
  unfold K_specReduceContext at h
  split at h
  · obtain ⟨hp, rfl⟩ := gd_o h
    exact ⟨_, ev_specReduceContext _ _ hp, rfl⟩
  · cases h

end Go.Sym
