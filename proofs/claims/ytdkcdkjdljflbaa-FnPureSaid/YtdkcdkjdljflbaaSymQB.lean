/- Functions of the program, each told as a plain equation. -/
import Derived.Test.YtdkcdkjdljflbaaSymQA
namespace Go.Sym
open Go.Proofs
set_option linter.unusedVariables false
set_option linter.unusedSimpArgs false
set_option maxRecDepth 100000
set_option maxHeartbeats 4000000

/- spec.l7Pack -/
def K_l7Pack : List AV → List Ob → Option (AV × List Ob)
  | [.int .i64 s, .int .i64 keep], [] => gd ((0 ≤ s ∧ s ≤ 255) ∧ (0 ≤ keep ∧ keep ≤ 255)) (.int .i64 (packS s keep), [])
  | _, _ => none
@[reducible] def E_l7Pack : Env := mkE (tb [(57, K_l2Has)]) (fun f => false) (fun r => bif r == 4 then ([0, 1, 5, 6, 7], [5]) else ([], []))
theorem lp_l7Pack (s keep : Int) (hs : 0 ≤ s ∧ s ≤ 255) (hk : 0 ≤ keep ∧ keep ≤ 255) (k : AX → S → Option (AV × List Ob)) (d : Nat) : ∀ (n i : Nat) (x nn q : Int), 8 - i = d → i ≤ 8 → x = i → d < n → 0 ≤ nn → nn ≤ i →
    lpAt E_l7Pack (lp E_l7Pack 0 n) 0 (loopAt Try.f83 0) (mkS [0, 1, 5, 6, 7] [.int .i64 s, .int .i64 keep, .int .i64 q, .int .i64 nn, .int .i64 x] []) k =
      k (.exit 0) (mkS [5] [.int .i64 (pkS s keep d i nn q)] []) := by
  induction d with
  | zero =>
    intro n i x nn q hd hi hx hn h0 h1
    subst hx
    rw [lpAt_def]
    conv => lhs; whnf
    refine br_f (df (by omega)) ?_
    conv => lhs; whnf
    rw [pkS]
  | succ d ih =>
    intro n i x nn q hd hi hx hn h0 h1
    obtain ⟨n, rfl⟩ : ∃ m, n = m + 1 := ⟨n - 1, by omega⟩
    subst hx
    have hu := wrapu (n := nn) (by omega) (by omega)
    rw [lpAt_def]
    conv => lhs; whnf
    refine br_t (dt (by omega)) ?_
    conv => lhs; whnf
    conv => lhs; arg 1; whnf
    refine bnd_g (by exact ⟨by omega, by omega⟩) ?_
    conv => lhs; whnf
    refine br_c (fun g => ?_) (fun g => ?_)
    · have g' : keep.toNat.testBit i = true := g
      conv => lhs; whnf
      conv => lhs; arg 1; whnf
      refine bnd_g (by exact ⟨by omega, by omega⟩) ?_
      conv => lhs; whnf
      refine br_c (fun g2 => ?_) (fun g2 => ?_)
      · have g2' : s.toNat.testBit i = true := g2
        conv => lhs; whnf
        rw [hu]
        refine br_f (df (by omega)) ?_
        conv => lhs; whnf
        refine (ih n (i + 1) (IntKind.i64.wrap ((i : Int) + 1)) (IntKind.i64.wrap (nn + 1)) _ (by omega) (by omega) (by rw [wrap64 (n := (i : Int) + 1) (by omega) (by omega)]; simp) (by omega) (by rw [wrap64 (by omega) (by omega)]; omega) (by rw [wrap64 (by omega) (by omega)]; omega)).trans ?_
        rw [pkS, g', g2', wrap64 (n := nn + 1) (by omega) (by omega)]
        rfl
      · have g2' : s.toNat.testBit i = false := g2
        conv => lhs; whnf
        refine (ih n (i + 1) (IntKind.i64.wrap ((i : Int) + 1)) (IntKind.i64.wrap (nn + 1)) _ (by omega) (by omega) (by rw [wrap64 (n := (i : Int) + 1) (by omega) (by omega)]; simp) (by omega) (by rw [wrap64 (by omega) (by omega)]; omega) (by rw [wrap64 (by omega) (by omega)]; omega)).trans ?_
        rw [pkS, g', g2', wrap64 (n := nn + 1) (by omega) (by omega)]
        rfl
    · have g' : keep.toNat.testBit i = false := g
      conv => lhs; whnf
      refine (ih n (i + 1) (IntKind.i64.wrap ((i : Int) + 1)) nn _ (by omega) (by omega) (by rw [wrap64 (n := (i : Int) + 1) (by omega) (by omega)]; simp) (by omega) (by omega) (by omega)).trans ?_
      rw [pkS, g']
      rfl
theorem ev_l7Pack (s keep : Int) (hp : (0 ≤ s ∧ s ≤ 255) ∧ (0 ≤ keep ∧ keep ≤ 255)) : evF E_l7Pack (20) Try.f83 [.int .i64 s, .int .i64 keep] [] = some (.int .i64 (packS s keep), []) := by
  conv => lhs; whnf
  refine (lp_l7Pack s keep hp.1 hp.2 _ 8 _ 0 0 0 0 rfl (by omega) rfl (by change _ < 19; omega) (by omega) (by omega)).trans ?_
  conv => lhs; whnf
  all_goals rfl
theorem ok_l7Pack : FnOk Try.prog 83 K_l7Pack := by
  refine fn_ok (fn := Try.f83) (k := Try.f83.ntmps) (E := E_l7Pack) (facts_of (List.forall_mem_cons.2 ⟨ok_l2Has, List.forall_mem_nil _⟩)) (by kernel_rfl) rfl (by decide +kernel) (by decide +kernel) ?_
  intro avs hin r h
  unfold K_l7Pack at h
  split at h
  · obtain ⟨hp, rfl⟩ := gd_o h
    exact ⟨_, ev_l7Pack _ _ hp, rfl⟩
  · cases h

/- spec.FullSet -/
def K_specFullSet : List AV → List Ob → Option (AV × List Ob)
  | [.int .i64 n], [] => gd (True) (.int .i64 (fullSet n), [])
  | _, _ => none
@[reducible] def E_specFullSet : Env := mkE (tb [(56, K_l1In)]) (fun f => false) (fun r => ([], []))
theorem ev_specFullSet (n : Int) (hp : True) : evF E_specFullSet (1) Try.f38 [.int .i64 n] [] = some (.int .i64 (fullSet n), []) := by
  conv => lhs; whnf
  conv => lhs; arg 1; whnf
  refine bnd_g (by exact True.intro) ?_
  conv => lhs; whnf
  refine br_c (fun h => ?_) (fun h => ?_)
  · have h := ofnt h
    conv => lhs; whnf
    rw [fullSet, if_neg h]
  · have h := ofnf h
    conv => lhs; whnf
    rw [wrapu h.1 h.2]
    refine br_f (df (by omega)) ?_
    conv => lhs; whnf
    refine okI ?_
    rw [fullSet, if_pos h]
    exact shl_set h.1 h.2
theorem ok_specFullSet : FnOk Try.prog 38 K_specFullSet := by
  refine fn_ok (fn := Try.f38) (k := Try.f38.ntmps) (E := E_specFullSet) (facts_of (List.forall_mem_cons.2 ⟨ok_l1In, List.forall_mem_nil _⟩)) (by kernel_rfl) rfl (by decide +kernel) (by decide +kernel) ?_
  intro avs hin r h
  unfold K_specFullSet at h
  split at h
  · obtain ⟨hp, rfl⟩ := gd_o h
    exact ⟨_, ev_specFullSet _ hp, rfl⟩
  · cases h

/- spec.CountOf -/
def K_specCountOf : List AV → List Ob → Option (AV × List Ob)
  | [.int .i64 s], [] => gd (True) (.int .i64 (cntF s), [])
  | _, _ => none
@[reducible] def E_specCountOf : Env := mkE (tb [(31, K_specIsSet)]) (fun f => false) (fun r => bif r == 4 then ([0, 3], [3]) else ([], []))
theorem lp_specCountOf (k : AX → S → Option (AV × List Ob)) (d : Nat) : ∀ (n s : Nat) (q : Int), s < 2 ^ d → s < 256 → d < n → 0 ≤ q → q ≤ 1000000 - d →
    lpAt E_specCountOf (lp E_specCountOf 0 n) 0 (loopAt Try.f82 0) (mkS [0, 3] [.int .i64 (s : Int), .int .i64 q] []) k =
      k (.exit 0) (mkS [3] [.int .i64 (q + popF d s)] []) := by
  induction d with
  | zero =>
    intro n s q hd hs hn hq hq'
    have : s = 0 := by simp at hd; omega
    subst this
    rw [lpAt_def]
    conv => lhs; whnf
    refine br_f (by rfl) ?_
    conv => lhs; whnf
    rw [popF]
    simp
  | succ d ih =>
    intro n s q hd hs hn hq hq'
    obtain ⟨n, rfl⟩ : ∃ m, n = m + 1 := ⟨n - 1, by omega⟩
    rw [lpAt_def]
    conv => lhs; whnf
    refine br_c (fun h => ?_) (fun h => ?_)
    · conv => lhs; whnf
      refine br_f (df (by omega)) ?_
      conv => lhs; whnf
      have e1 := and1_of s hs
      have e2 := half_of s
      unfold band at e1
      rw [e1, e2]
      rw [wrap64 (by omega) (by omega)]
      rw [ih n (s / 2) _ (by rw [Nat.pow_succ] at hd; omega) (by omega) (by omega) (by omega) (by omega)]
      rw [popF]
      have e3 : q + ((s % 2 : Nat) : Int) + ((popF d (s / 2) : Nat) : Int) = q + ((s % 2 + popF d (s / 2) : Nat) : Int) := by push_cast; omega
      rw [e3]
    · have h := ofn h
      have : s = 0 := by omega
      subst this
      conv => lhs; whnf
      have e0 : ∀ d, popF d 0 = 0 := by
        intro d
        induction d with
        | zero => rfl
        | succ d ih => rw [popF, ih]
      rw [e0]
      simp
theorem ev_specCountOf (s : Int) (hp : True) : evF E_specCountOf (20) Try.f82 [.int .i64 s] [] = some (.int .i64 (cntF s), []) := by
  conv => lhs; whnf
  conv => lhs; arg 1; whnf
  refine bnd_g (by exact True.intro) ?_
  conv => lhs; whnf
  refine br_c (fun h => ?_) (fun h => ?_)
  · conv => lhs; whnf
    unfold cntF
    rw [if_neg (by rw [bnt h]; exact Bool.false_ne_true)]
  · have hs := isSet_le (bnf h)
    obtain ⟨n, rfl⟩ : ∃ n : Nat, s = (n : Int) := ⟨s.toNat, by omega⟩
    conv => lhs; whnf
    refine (lp_specCountOf _ 8 _ n 0 (by omega) (by omega) (by decide) (by omega) (by omega)).trans ?_
    conv => lhs; whnf
    unfold cntF
    rw [if_pos (bnf h)]
    simp
theorem ok_specCountOf : FnOk Try.prog 82 K_specCountOf := by
  refine fn_ok (fn := Try.f82) (k := Try.f82.ntmps) (E := E_specCountOf) (facts_of (List.forall_mem_cons.2 ⟨ok_specIsSet, List.forall_mem_nil _⟩)) (by kernel_rfl) rfl (by decide +kernel) (by decide +kernel) ?_
  intro avs hin r h
  unfold K_specCountOf at h
  split at h
  · obtain ⟨hp, rfl⟩ := gd_o h
    exact ⟨_, ev_specCountOf _ hp, rfl⟩
  · cases h

/- spec.DropAttributes -/
def K_specDropAttributes : List AV → List Ob → Option (AV × List Ob)
  | [.agg [.int .i64 m, .lst (.int .i64) b], .int .i64 t], [] => gd (b.length ≤ 1048576) (.tup [.agg [.int .i64 (dropA m b t).1, .own 0], .bool (dropA m b t).2.2], [.row 3 (.int .i64) (dropA m b t).2.1])
  | _, _ => none
@[reducible] def E_specDropAttributes : Env := mkE (tb [(42, K_specIsContext), (31, K_specIsSet), (38, K_specFullSet), (82, K_specCountOf), (83, K_l7Pack)]) (fun f => false) (fun r => bif r == 6 then ([2, 4, 6, 7, 8], [4, 7]) else ([], []))
theorem lp_specDropAttributes (m : Int) (b : List Int) (hb : b.length ≤ 8) (hs : ∀ x ∈ b, 0 ≤ x ∧ x ≤ 255) (c A : Int) (hc : 0 ≤ c ∧ c ≤ 255) (k : AX → S → Option (AV × List Ob)) (d : Nat) : ∀ (n i : Nat) (x : Int) (zs : List Int), b.length - i = d → i ≤ b.length → x = i → d < n → zs.length ≤ i →
    lpAt E_specDropAttributes (lp E_specDropAttributes 0 n) 0 (loopAt Try.f54 0) (mkS [2, 4, 6, 7, 8] [.ptr 0 0, .ptr 1 0, .int .i64 c, .ptr 3 0, .int .i64 x] [some (.box 41 [.int .i64 m, .lst (.int .i64) b]), some (.box 41 [.int .i64 0, .own 2]), some (.row 3 (.int .i64) []), some (.box 41 [.int .i64 A, .own 4]), some (.row 3 (.int .i64) zs)]) k =
      k (.exit 0) (mkS [4, 7] [.ptr 0 0, .ptr 2 0] [some (.box 41 [.int .i64 0, .own 1]), some (.row 3 (.int .i64) []), some (.box 41 [.int .i64 A, .own 3]), some (.row 3 (.int .i64) (zs ++ (b.drop i).map (fun x => packS x c)))]) := by
  induction d with
  | zero =>
    intro n i x zs hd hi hx hn hz
    subst hx
    rw [lpAt_def]
    conv => lhs; whnf
    refine br_f (df (by omega)) ?_
    conv => lhs; whnf
    rw [List.drop_of_length_le (by omega), List.map_nil, List.append_nil]
  | succ d ih =>
    intro n i x zs hd hi hx hn hz
    obtain ⟨n, rfl⟩ : ∃ m, n = m + 1 := ⟨n - 1, by omega⟩
    subst hx
    rw [lpAt_def]
    conv => lhs; whnf
    refine br_t (dt (by omega)) ?_
    conv => lhs; whnf
    refine br_t (dt2 (by omega) (by omega)) ?_
    conv => lhs; whnf
    conv => lhs; arg 1; whnf
    refine bnd_g (by exact ⟨hs _ (mem_getD (by omega)), hc⟩) ?_
    conv => lhs; whnf
    refine br_t (dt (by simp [room]; omega)) ?_
    conv => lhs; whnf
    repeat ((first | with_reducible apply br_tt | with_reducible apply br_ff | with_reducible apply br_nf | with_reducible apply br_nt | with_reducible refine br_d ?_ (by kernel_rfl)); conv => lhs; whnf)
    refine (ih n (i + 1) (IntKind.i64.wrap ((i : Int) + 1)) _ (by omega) (by omega) (by rw [wrap64 (by omega) (by omega)]; simp) (by omega) (by simp; omega)).trans ?_
    rw [getD_drop (l := b) (i := i) (d := 0) (by omega), List.map_cons]
    simp only [List.append_assoc]
    rfl
theorem ev_specDropAttributes (m : Int) (b : List Int) (t : Int) (hp : b.length ≤ 1048576) : evF E_specDropAttributes (20) Try.f54 [.agg [.int .i64 m, .lst (.int .i64) b], .int .i64 t] [] = some (.tup [.agg [.int .i64 (dropA m b t).1, .own 0], .bool (dropA m b t).2.2], [.row 3 (.int .i64) (dropA m b t).2.1]) := by
  conv => lhs; whnf
  conv => lhs; arg 1; whnf
  refine bnd_g (by omega) ?_
  conv => lhs; whnf
  refine br_c (fun h => ?_) (fun h => ?_)
  · have e : dropA m b t = (0, [], false) := by unfold dropA; rw [bnt h]; rfl
    conv => rhs; rw [e]
    conv => lhs; whnf
    repeat ((first | with_reducible apply br_tt | with_reducible apply br_ff | with_reducible apply br_nf | with_reducible apply br_nt | with_reducible refine br_d ?_ (by kernel_rfl) | with_reducible apply br_t h | with_reducible apply br_f h); conv => lhs; whnf)
    all_goals rfl
  · conv => lhs; whnf
    repeat ((first | with_reducible apply br_tt | with_reducible apply br_ff | with_reducible apply br_nf | with_reducible apply br_nt | with_reducible refine br_d ?_ (by kernel_rfl) | with_reducible apply br_t h | with_reducible apply br_f h); conv => lhs; whnf)
    conv => lhs; arg 1; whnf
    refine bnd_g (by exact True.intro) ?_
    conv => lhs; whnf
    repeat ((first | with_reducible apply br_tt | with_reducible apply br_ff | with_reducible apply br_nf | with_reducible apply br_nt | with_reducible refine br_d ?_ (by kernel_rfl) | with_reducible apply br_t h | with_reducible apply br_f h); conv => lhs; whnf)
    refine br_c (fun h2 => ?_) (fun h2 => ?_)
    · have e : dropA m b t = (0, [], false) := by unfold dropA; rw [bnt h2, Bool.and_false]; rfl
      conv => rhs; rw [e]
      conv => lhs; whnf
      repeat ((first | with_reducible apply br_tt | with_reducible apply br_ff | with_reducible apply br_nf | with_reducible apply br_nt | with_reducible refine br_d ?_ (by kernel_rfl) | with_reducible apply br_t h | with_reducible apply br_f h | with_reducible apply br_t h2 | with_reducible apply br_f h2); conv => lhs; whnf)
      all_goals rfl
    · have hl := isCtx_len (bnf h)
      have hk := keep_rng ⟨hl.2.1, hl.2.2.1⟩ (bnf h2)
      have hw : IntKind.i64.wrap (fullSet m - t) = fullSet m - t := wrap64 (by omega) (by omega)
      have e : dropA m b t = (cntF (IntKind.i64.wrap (fullSet m - t)), b.map (fun x => packS x (IntKind.i64.wrap (fullSet m - t))), true) := by rw [hw]; unfold dropA; rw [bnf h, bnf h2]; rfl
      have hk' : 0 ≤ IntKind.i64.wrap (fullSet m - t) ∧ IntKind.i64.wrap (fullSet m - t) ≤ 255 := by rw [hw]; exact hk
      conv => rhs; rw [e]
      conv => lhs; whnf
      repeat ((first | with_reducible apply br_tt | with_reducible apply br_ff | with_reducible apply br_nf | with_reducible apply br_nt | with_reducible refine br_d ?_ (by kernel_rfl) | with_reducible apply br_t h | with_reducible apply br_f h | with_reducible apply br_t h2 | with_reducible apply br_f h2); conv => lhs; whnf)
      conv => lhs; arg 1; whnf
      refine bnd_g (by exact True.intro) ?_
      conv => lhs; whnf
      conv => lhs; arg 1; whnf
      refine bnd_g (by exact True.intro) ?_
      conv => lhs; whnf
      refine (lp_specDropAttributes m b hl.1 (ctx_small (bnf h)) (IntKind.i64.wrap (fullSet m - t)) _ hk' _ b.length _ 0 0 [] rfl (by omega) rfl (by change _ < 19; omega) (by simp)).trans ?_
      conv => lhs; whnf
      all_goals rfl
theorem ok_specDropAttributes : FnOk Try.prog 54 K_specDropAttributes := by
  refine fn_ok (fn := Try.f54) (k := Try.f54.ntmps) (E := E_specDropAttributes) (facts_of (List.forall_mem_cons.2 ⟨ok_specIsContext, List.forall_mem_cons.2 ⟨ok_specIsSet, List.forall_mem_cons.2 ⟨ok_specFullSet, List.forall_mem_cons.2 ⟨ok_specCountOf, List.forall_mem_cons.2 ⟨ok_l7Pack, List.forall_mem_nil _⟩⟩⟩⟩⟩)) (by kernel_rfl) rfl (by decide +kernel) (by decide +kernel) ?_
  intro avs hin r h
  unfold K_specDropAttributes at h
  split at h
  · obtain ⟨hp, rfl⟩ := gd_o h
    exact ⟨_, ev_specDropAttributes _ _ _ hp, rfl⟩
  · cases h

/- spec.l2In -/
def K_l2In : List AV → List Ob → Option (AV × List Ob)
  | [.lst (.int .i64) a, .int .i64 v], [] => gd (a.length < 4611686018427387904) (.bool (a.any (fun y => y == v)), [])
  | _, _ => none
@[reducible] def E_l2In : Env := mkE (tb []) (fun f => false) (fun r => bif r == 2 then ([0, 1, 5], [4]) else ([], []))
theorem lp_l2In (a : List Int) (v : Int) (ha : a.length < 4611686018427387904) (k : AX → S → Option (AV × List Ob)) (d : Nat) : ∀ (n i : Nat) (x : Int), a.length - i = d → i ≤ a.length → x = i → d < n →
    lpAt E_l2In (lp E_l2In 0 n) 0 (loopAt Try.f52 0) (mkS [0, 1, 5] [.lst (.int .i64) a, .int .i64 v, .int .i64 x] []) k =
      if (a.drop i).any (fun y => y == v) then k .ret (mkS [4] [.bool true] []) else k (.exit 0) (mkS [4] [.any] []) := by
  induction d with
  | zero =>
    intro n i x hd hi hx hn
    subst hx
    rw [lpAt_def]
    conv => lhs; whnf
    refine br_f (df (by omega)) ?_
    conv => lhs; whnf
    rw [List.drop_of_length_le (by omega)]
    simp
  | succ d ih =>
    intro n i x hd hi hx hn
    obtain ⟨n, rfl⟩ : ∃ m, n = m + 1 := ⟨n - 1, by omega⟩
    subst hx
    rw [lpAt_def]
    conv => lhs; whnf
    refine br_t (dt (by omega)) ?_
    conv => lhs; whnf
    refine br_t (dt2 (by omega) (by omega)) ?_
    conv => lhs; whnf
    rw [getD_drop (l := a) (i := i) (d := 0) (by omega)]
    refine br_c (fun h => ?_) (fun h => ?_)
    · have h' : (a.getD i 0 == v) = true := h
      conv => lhs; whnf
      rw [if_pos (by simp only [List.any_cons, h', Bool.true_or])]
    · have h' : (a.getD i 0 == v) = false := h
      conv => lhs; whnf
      rw [ih n (i + 1) _ (by omega) (by omega) (by rw [wrap64 (by omega) (by omega)]; simp) (by omega)]
      simp only [List.any_cons, h', Bool.false_or]
theorem ev_l2In (a : List Int) (v : Int) (hp : a.length < 4611686018427387904) : evF E_l2In (a.length + 2) Try.f52 [.lst (.int .i64) a, .int .i64 v] [] = some (.bool (a.any (fun y => y == v)), []) := by
  conv => lhs; whnf
  refine (lp_l2In a v hp _ a.length _ 0 0 rfl (by omega) rfl (by omega)).trans ?_
  simp only [List.drop_zero]
  split
  · rename_i he
    conv => lhs; whnf
    rw [he]
  · rename_i he
    conv => lhs; whnf
    rw [Bool.not_eq_true] at he
    rw [he]
theorem ok_l2In : FnOk Try.prog 52 K_l2In := by
  refine fn_ok (fn := Try.f52) (k := Try.f52.ntmps) (E := E_l2In) (facts_of (List.forall_mem_nil _)) (by kernel_rfl) rfl (by decide +kernel) (by decide +kernel) ?_
  intro avs hin r h
  unfold K_l2In at h
  split at h
  · obtain ⟨hp, rfl⟩ := gd_o h
    exact ⟨_, ev_l2In _ _ hp, rfl⟩
  · cases h

/- spec.l3Column -/
def K_l3Column : List AV → List Ob → Option (AV × List Ob)
  | [.agg [.int .i64 m, .lst (.int .i64) b], .int .i64 e], [] => gd ((0 ≤ e ∧ e ≤ 8) ∧ b.length ≤ 8 ∧ ∀ x ∈ b, 0 ≤ x ∧ x ≤ 255) (.int .i64 (colF b e), [])
  | _, _ => none
@[reducible] def E_l3Column : Env := mkE (tb [(57, K_l2Has)]) (fun f => false) (fun r => bif r == 3 then ([1, 2, 5, 6], [5]) else ([], []))
theorem lp_l3Column (m : Int) (b : List Int) (e : Int) (hb : b.length ≤ 8) (hs : ∀ x ∈ b, 0 ≤ x ∧ x ≤ 255) (he : 0 ≤ e ∧ e ≤ 8) (k : AX → S → Option (AV × List Ob)) (d : Nat) : ∀ (n i : Nat) (x q : Int), b.length - i = d → i ≤ b.length → x = i → d < n →
    lpAt E_l3Column (lp E_l3Column 0 n) 0 (loopAt Try.f53 0) (mkS [1, 2, 5, 6] [.int .i64 e, .ptr 0 0, .int .i64 q, .int .i64 x] [some (.box 41 [.int .i64 m, .lst (.int .i64) b])]) k =
      k (.exit 0) (mkS [5] [.int .i64 (orF (bitAt b e) d i q)] []) := by
  induction d with
  | zero =>
    intro n i x q hd hi hx hn
    subst hx
    rw [lpAt_def]
    conv => lhs; whnf
    refine br_f (df (by omega)) ?_
    conv => lhs; whnf
    rfl
  | succ d ih =>
    intro n i x q hd hi hx hn
    obtain ⟨n, rfl⟩ : ∃ m, n = m + 1 := ⟨n - 1, by omega⟩
    subst hx
    rw [lpAt_def]
    conv => lhs; whnf
    refine br_t (dt (by omega)) ?_
    conv => lhs; whnf
    refine br_t (dt2 (by omega) (by omega)) ?_
    conv => lhs; whnf
    conv => lhs; arg 1; whnf
    refine bnd_g (by exact ⟨hs _ (mem_getD (by omega)), he⟩) ?_
    conv => lhs; whnf
    refine br_c (fun h => ?_) (fun h => ?_)
    · have h' : bitAt b e i = true := h
      conv => lhs; whnf
      refine br_f (by (rw [wrapu (n := (i : Int)) (by omega) (by omega)]; exact df (by omega))) ?_
      conv => lhs; whnf
      rw [shl1u (by omega)]
      rw [ih n (i + 1) _ _ (by omega) (by omega) (by rw [wrap64 (by omega) (by omega)]; simp) (by omega)]
      rw [orF, h', cond_true]
      rfl
    · have h' : bitAt b e i = false := h
      conv => lhs; whnf
      rw [ih n (i + 1) _ _ (by omega) (by omega) (by rw [wrap64 (by omega) (by omega)]; simp) (by omega)]
      rw [orF, h', cond_false]
theorem ev_l3Column (m : Int) (b : List Int) (e : Int) (hp : (0 ≤ e ∧ e ≤ 8) ∧ b.length ≤ 8 ∧ ∀ x ∈ b, 0 ≤ x ∧ x ≤ 255) : evF E_l3Column (20) Try.f53 [.agg [.int .i64 m, .lst (.int .i64) b], .int .i64 e] [] = some (.int .i64 (colF b e), []) := by
  conv => lhs; whnf
  refine (lp_l3Column m b e hp.2.1 hp.2.2 hp.1 _ b.length _ 0 0 _ rfl (by omega) rfl (by have := hp.2.1; change _ < 19; omega)).trans ?_
  conv => lhs; whnf
  rfl
theorem ok_l3Column : FnOk Try.prog 53 K_l3Column := by
  refine fn_ok (fn := Try.f53) (k := Try.f53.ntmps) (E := E_l3Column) (facts_of (List.forall_mem_cons.2 ⟨ok_l2Has, List.forall_mem_nil _⟩)) (by kernel_rfl) rfl (by decide +kernel) (by decide +kernel) ?_
  intro avs hin r h
  unfold K_l3Column at h
  split at h
  · obtain ⟨hp, rfl⟩ := gd_o h
    exact ⟨_, ev_l3Column _ _ _ hp, rfl⟩
  · cases h

/- spec.Clarify -/
def K_specClarify : List AV → List Ob → Option (AV × List Ob)
  | [.agg [.int .i64 m, .lst (.int .i64) b]], [] => gd (b.length ≤ 1048576) (.tup [.agg [.int .i64 (spClar m b).1, .own 0], .bool (spClar m b).2.2], [.row 3 (.int .i64) (spClar m b).2.1])
  | _, _ => none
@[reducible] def E_specClarify : Env := mkE (tb [(42, K_specIsContext), (52, K_l2In), (53, K_l3Column), (54, K_specDropAttributes)]) (fun f => false) (fun r => bif r == 5 then ([1, 2, 4, 5], [2, 4]) else bif r == 11 then ([2, 4, 6, 7], [2, 4, 6, 7]) else bif r == 14 then ([2, 4, 6, 7, 8], [2, 4, 6, 7]) else ([], []))
theorem la_specClarify (m : Int) (b : List Int) (hb : b.length ≤ 8) (k : AX → S → Option (AV × List Ob)) (d : Nat) : ∀ (n i : Nat) (x : Int) (zs : List Int), b.length - i = d → i ≤ b.length → x = i → d < n → zs.length ≤ i →
    lpAt E_specClarify (lp E_specClarify 0 n) 0 (loopAt Try.f27 0) (mkS [1, 2, 4, 5] [.ptr 0 0, .ptr 1 0, .ptr 3 0, .int .i64 x] [some (.box 41 [.int .i64 m, .lst (.int .i64) b]), some (.box 41 [.int .i64 0, .own 2]), some (.row 3 (.int .i64) []), some (.box 41 [.int .i64 m, .own 4]), some (.row 3 (.int .i64) zs)]) k =
      k (.exit 0) (mkS [2, 4] [.ptr 0 0, .ptr 2 0] [some (.box 41 [.int .i64 0, .own 1]), some (.row 3 (.int .i64) []), some (.box 41 [.int .i64 m, .own 3]), some (.row 3 (.int .i64) (ddL (b.drop i) zs))]) := by
  induction d with
  | zero =>
    intro n i x zs hd hi hx hn hz
    subst hx
    rw [lpAt_def]
    conv => lhs; whnf
    refine br_f (df (by omega)) ?_
    conv => lhs; whnf
    rw [List.drop_of_length_le (by omega), ddL]
  | succ d ih =>
    intro n i x zs hd hi hx hn hz
    obtain ⟨n, rfl⟩ : ∃ m, n = m + 1 := ⟨n - 1, by omega⟩
    subst hx
    rw [lpAt_def]
    conv => lhs; whnf
    refine br_t (dt (by omega)) ?_
    conv => lhs; whnf
    refine br_t (dt2 (by omega) (by omega)) ?_
    conv => lhs; whnf
    conv => lhs; arg 1; whnf
    refine bnd_g (by omega) ?_
    conv => lhs; whnf
    refine br_t (by kernel_rfl) ?_
    conv => lhs; whnf
    refine br_c (fun g => ?_) (fun g => ?_)
    · have g' : zs.any (fun y => y == b.getD i 0) = false := bnt g
      conv => lhs; whnf
      refine br_t (dt2 (by omega) (by omega)) ?_
      conv => lhs; whnf
      refine br_t (dt (by simp [room]; omega)) ?_
      conv => lhs; whnf
      repeat ((first | with_reducible apply br_tt | with_reducible apply br_ff | with_reducible apply br_nf | with_reducible apply br_nt | with_reducible refine br_d ?_ (by kernel_rfl)); conv => lhs; whnf)
      refine (ih n (i + 1) (IntKind.i64.wrap ((i : Int) + 1)) _ (by omega) (by omega) (by rw [wrap64 (by omega) (by omega)]; simp) (by omega) (by simp; omega)).trans ?_
      rw [getD_drop (l := b) (i := i) (d := 0) (by omega), ddL, g']
      rfl
    · have g' : zs.any (fun y => y == b.getD i 0) = true := bnf g
      conv => lhs; whnf
      refine (ih n (i + 1) (IntKind.i64.wrap ((i : Int) + 1)) _ (by omega) (by omega) (by rw [wrap64 (by omega) (by omega)]; simp) (by omega) (by omega)).trans ?_
      rw [getD_drop (l := b) (i := i) (d := 0) (by omega), ddL, g']
      rfl
theorem lc_specClarify (m : Int) (b : List Int) (hb : b.length ≤ 8) (hs : ∀ x ∈ b, 0 ≤ x ∧ x ≤ 255) (hm : 0 ≤ m ∧ m ≤ 6) (j : Nat) (hj : (j : Int) < m) (k : AX → S → Option (AV × List Ob)) (d : Nat) : ∀ (n i : Nat) (x q : Int), j - i = d → i ≤ j → x = i → d < n →
    lpAt E_specClarify (lp E_specClarify 0 n) 0 (loopAt Try.f27 2) (mkS [2, 4, 6, 7, 8] [.ptr 0 0, .ptr 2 0, .int .i64 q, .int .i64 (j : Int), .int .i64 x] [some (.box 41 [.int .i64 0, .own 1]), some (.row 3 (.int .i64) []), some (.box 41 [.int .i64 m, .own 3]), some (.row 3 (.int .i64) b)]) k =
      k (.exit 4) (mkS [2, 4, 6, 7] [.ptr 0 0, .ptr 2 0, .int .i64 (gI b j d i q), .int .i64 (j : Int)] [some (.box 41 [.int .i64 0, .own 1]), some (.row 3 (.int .i64) []), some (.box 41 [.int .i64 m, .own 3]), some (.row 3 (.int .i64) b)]) := by
  have hu := wrapu (n := (j : Int)) (by omega) (by omega)
  induction d with
  | zero =>
    intro n i x q hd hi hx hn
    subst hx
    rw [lpAt_def]
    conv => lhs; whnf
    refine br_f (df (by omega)) ?_
    conv => lhs; whnf
    rw [gI]
  | succ d ih =>
    intro n i x q hd hi hx hn
    obtain ⟨n, rfl⟩ : ∃ m, n = m + 1 := ⟨n - 1, by omega⟩
    subst hx
    rw [lpAt_def]
    conv => lhs; whnf
    refine br_t (dt (by omega)) ?_
    conv => lhs; whnf
    conv => lhs; arg 1; whnf
    refine bnd_g (by exact ⟨⟨by omega, by omega⟩, hb, hs⟩) ?_
    conv => lhs; whnf
    conv => lhs; arg 1; whnf
    refine bnd_g (by exact ⟨⟨by omega, by omega⟩, hb, hs⟩) ?_
    conv => lhs; whnf
    refine br_t (by kernel_rfl) ?_
    conv => lhs; whnf
    refine br_c (fun g => ?_) (fun g => ?_)
    · have g' : (colF b (i : Int) == colF b (j : Int)) = true := g
      conv => lhs; whnf
      rw [hu]
      refine br_f (df (by omega)) ?_
      conv => lhs; whnf
      refine (ih n (i + 1) (IntKind.i64.wrap ((i : Int) + 1)) _ (by omega) (by omega) (by rw [wrap64 (by omega) (by omega)]; simp) (by omega)).trans ?_
      rw [gI, g']
      rfl
    · have g' : (colF b (i : Int) == colF b (j : Int)) = false := g
      conv => lhs; whnf
      refine (ih n (i + 1) (IntKind.i64.wrap ((i : Int) + 1)) _ (by omega) (by omega) (by rw [wrap64 (by omega) (by omega)]; simp) (by omega)).trans ?_
      rw [gI, g']
      rfl
theorem lb_specClarify (m : Int) (b : List Int) (hb : b.length ≤ 8) (hs : ∀ x ∈ b, 0 ≤ x ∧ x ≤ 255) (hm : 0 ≤ m ∧ m ≤ 6) (k : AX → S → Option (AV × List Ob)) (d : Nat) : ∀ (n i : Nat) (x q : Int), m.toNat - i = d → i ≤ m.toNat → x = i → d + 10 < n →
    lpAt E_specClarify (lp E_specClarify 0 n) 0 (loopAt Try.f27 1) (mkS [2, 4, 6, 7] [.ptr 0 0, .ptr 2 0, .int .i64 q, .int .i64 x] [some (.box 41 [.int .i64 0, .own 1]), some (.row 3 (.int .i64) []), some (.box 41 [.int .i64 m, .own 3]), some (.row 3 (.int .i64) b)]) k =
      k (.exit 2) (mkS [2, 4, 6, 7] [.ptr 0 0, .ptr 2 0, .int .i64 (gO b d i q), .int .i64 m] [some (.box 41 [.int .i64 0, .own 1]), some (.row 3 (.int .i64) []), some (.box 41 [.int .i64 m, .own 3]), some (.row 3 (.int .i64) b)]) := by
  induction d with
  | zero =>
    intro n i x q hd hi hx hn
    have e : x = m := by omega
    subst e
    rw [lpAt_def]
    conv => lhs; whnf
    refine br_f (df (by omega)) ?_
    conv => lhs; whnf
    rw [gO]
  | succ d ih =>
    intro n i x q hd hi hx hn
    obtain ⟨n, rfl⟩ : ∃ m, n = m + 1 := ⟨n - 1, by omega⟩
    subst hx
    rw [lpAt_def]
    conv => lhs; whnf
    refine br_t (dt (by omega)) ?_
    conv => lhs; whnf
    refine (lc_specClarify m b hb hs hm i (by omega) _ i _ 0 0 q rfl (by omega) rfl (by omega)).trans ?_
    conv => lhs; whnf
    refine (ih n (i + 1) (IntKind.i64.wrap ((i : Int) + 1)) _ (by omega) (by omega) (by rw [wrap64 (by omega) (by omega)]; simp) (by omega)).trans ?_
    rw [gO]
theorem ev_specClarify (m : Int) (b : List Int) (hp : b.length ≤ 1048576) : evF E_specClarify (40) Try.f27 [.agg [.int .i64 m, .lst (.int .i64) b]] [] = some (.tup [.agg [.int .i64 (spClar m b).1, .own 0], .bool (spClar m b).2.2], [.row 3 (.int .i64) (spClar m b).2.1]) := by
  conv => lhs; whnf
  conv => lhs; arg 1; whnf
  refine bnd_g (by omega) ?_
  conv => lhs; whnf
  refine br_c (fun h => ?_) (fun h => ?_)
  · have e : spClar m b = (0, [], false) := by unfold spClar; rw [bnt h]; rfl
    conv => rhs; rw [e]
    conv => lhs; whnf
    all_goals rfl
  · have h' := bnf h
    have hl := isCtx_len h'
    have hd := isCtx_len (dd_ctx h')
    have e : spClar m b = dropA m (ddL b []) (gO (ddL b []) m.toNat 0 0) := by unfold spClar; rw [h']; rfl
    conv => rhs; rw [e]
    conv => lhs; whnf
    refine (la_specClarify m b hl.1 _ b.length _ 0 0 [] rfl (by omega) rfl (by change _ < 39; omega) (by simp)).trans ?_
    conv => lhs; whnf
    refine (lb_specClarify m (ddL b []) hd.1 (ctx_small (dd_ctx h')) ⟨hl.2.1, hl.2.2.1⟩ _ m.toNat _ 0 0 0 rfl (by omega) rfl (by change _ < 39; omega)).trans ?_
    conv => lhs; whnf
    conv => lhs; arg 1; whnf
    refine bnd_g (by (change (ddL b []).length ≤ 1048576; omega)) ?_
    conv => lhs; whnf
    all_goals rfl
theorem ok_specClarify : FnOk Try.prog 27 K_specClarify := by
  refine fn_ok (fn := Try.f27) (k := Try.f27.ntmps) (E := E_specClarify) (facts_of (List.forall_mem_cons.2 ⟨ok_specIsContext, List.forall_mem_cons.2 ⟨ok_l2In, List.forall_mem_cons.2 ⟨ok_l3Column, List.forall_mem_cons.2 ⟨ok_specDropAttributes, List.forall_mem_nil _⟩⟩⟩⟩)) (by kernel_rfl) rfl (by decide +kernel) (by decide +kernel) ?_
  intro avs hin r h
  unfold K_specClarify at h
  split at h
  · obtain ⟨hp, rfl⟩ := gd_o h
    exact ⟨_, ev_specClarify _ _ hp, rfl⟩
  · cases h

def pick4 (x y z w : Int) (b : List Int) (c : Cu) : Int := [x, y, z, w].getD (be b c 4).toNat 0
/-- A set, mostly, and the cursor behind it. -/
def bent2 (b : List Int) (c : Cu) : Int := bif be b c 8 == 0 then pick4 (-1) 256 1000 (-9223372036854775808) b (nx b c) else be b (nx b c) 256
def mkRows (b : List Int) (m : Int) : Nat → Cu → List Int × Cu
  | 0, c => ([], c)
  | d + 1, c => bif be b c 2 == 0 then
      (be b (nx b c) (shlI m) :: (mkRows b m d (nx b (nx b c))).1, (mkRows b m d (nx b (nx b c))).2)
    else (bor (be b (nx b c) (shlI m)) (be b (nx b (nx b c)) (shlI m)) :: (mkRows b m d (nx b (nx b (nx b c)))).1, (mkRows b m d (nx b (nx b (nx b c)))).2)
theorem mkRows_ok {b : List Int} {m : Int} : ∀ (d : Nat) (c : Cu), CuOk b c.1 → (mkRows b m d c).1.length = d ∧ CuOk b (mkRows b m d c).2.1
  | 0, c, h => ⟨rfl, h⟩
  | d + 1, c, h => by
    have h1 := mkRows_ok (m := m) d (nx b (nx b c)) (nx_ok (nx_ok h))
    have h2 := mkRows_ok (m := m) d (nx b (nx b (nx b c))) (nx_ok (nx_ok (nx_ok h)))
    unfold mkRows
    cases be b c 2 == 0
    · exact ⟨by rw [cond_false, List.length_cons, h2.1], h2.2⟩
    · exact ⟨by rw [cond_true, List.length_cons, h1.1], h1.2⟩
def make3 (b : List Int) (m o : Int) (c : Cu) : List Int × Cu := mkRows b m (be b c (o + 1)).toNat (nx b c)
theorem make3_ok {b : List Int} {m o : Int} {c : Cu} (h : CuOk b c.1) (ho : 0 ≤ o) : ((make3 b m o c).1.length : Int) ≤ o ∧ CuOk b (make3 b m o c).2.1 := by
  have h1 := mkRows_ok (m := m) (be b c (o + 1)).toNat (nx b c) (nx_ok h)
  have h2 := be_rng b c (n := o + 1) (by omega)
  unfold make3
  exact ⟨by omega, h1.2⟩
def draw3m (b : List Int) (c : Cu) : Int := ([0, 1, 2, 3, 3, 4, 4, 5, 5] : List Int).getD (be b c 9).toNat 0
theorem draw3m_rng (b : List Int) (c : Cu) : 0 ≤ draw3m b c ∧ draw3m b c ≤ 5 := by
  have h := be_rng b c (n := 9) (by omega)
  unfold draw3m
  obtain ⟨k, hk⟩ : ∃ k : Nat, be b c 9 = k := ⟨(be b c 9).toNat, by omega⟩
  rw [hk] at h ⊢
  have : ∀ k : Fin 9, 0 ≤ ([0, 1, 2, 3, 3, 4, 4, 5, 5] : List Int).getD ((k.val : Int)).toNat 0 ∧ ([0, 1, 2, 3, 3, 4, 4, 5, 5] : List Int).getD ((k.val : Int)).toNat 0 ≤ 5 := by decide
  exact this ⟨k, by omega⟩
/-- A context: attributes, rows, and the cursor behind it. -/
def draw3 (b : List Int) (c : Cu) : Int × List Int × Cu := (draw3m b c, make3 b (draw3m b c) 6 (nx b c))
theorem draw3_ok {b : List Int} {c : Cu} (h : CuOk b c.1) : (0 ≤ (draw3 b c).1 ∧ (draw3 b c).1 ≤ 5) ∧ (draw3 b c).2.1.length ≤ 6 ∧ CuOk b (draw3 b c).2.2.1 := by
  have h1 := make3_ok (b := b) (m := draw3m b c) (o := 6) (nx_ok h) (by omega)
  exact ⟨draw3m_rng b c, by have := h1.1; unfold draw3; dsimp only; omega, h1.2⟩
def pad9 (a : List Int) : List Int := a ++ List.replicate (9 - a.length) 0
def bent3' (b : List Int) (x : Int × List Int × Cu) : Int × List Int × Cu :=
  bif be b x.2.2 14 == 0 then (pick4 (-1) 0 2 7 b (nx b x.2.2), x.2.1, nx b (nx b x.2.2))
  else bif be b x.2.2 14 == 1 then (x.1, x.2.1 ++ [bent2 b (nx b x.2.2)], nx b (nx b (nx b x.2.2)))
  else bif be b x.2.2 14 == 2 then (x.1, pad9 x.2.1, nx b x.2.2) else (x.1, x.2.1, nx b x.2.2)
def bent3 (b : List Int) (c : Cu) : Int × List Int × Cu := bent3' b (draw3 b c)
theorem bent3_ok {b : List Int} {c : Cu} (h : CuOk b c.1) : (bent3 b c).2.1.length ≤ 9 ∧ CuOk b (bent3 b c).2.2.1 := by
  obtain ⟨h1, h2, h3⟩ := draw3_ok h
  unfold bent3
  generalize draw3 b c = x at h1 h2 h3
  unfold bent3'
  have n1 := nx_ok h3
  have n2 := nx_ok n1
  have n3 := nx_ok n2
  cases be b x.2.2 14 == 0
  · cases be b x.2.2 14 == 1
    · cases be b x.2.2 14 == 2
      · exact ⟨by simp only [cond_false]; omega, n1⟩
      · refine ⟨?_, n1⟩
        simp only [cond_false, cond_true, pad9, List.length_append, List.length_replicate]
        omega
    · refine ⟨?_, n3⟩
      simp only [cond_false, cond_true, List.length_append, List.length_singleton]
      omega
  · exact ⟨by simp only [cond_true]; omega, n2⟩
def newL (b : List Int) : Nat → Nat → Int → Int
  | 0, _, h => h
  | d + 1, i, h => newL b d (i + 1) (band (IntKind.i64.wrap (IntKind.i64.wrap (IntKind.i64.wrap (h * 131) + IntKind.i64.wrap (b.getD i 0)) + 7)) 1073741823)
def newC (b : List Int) : Cu := (0, newL b (min b.length 4000) 0 (IntKind.i64.wrap (26583 + b.length)))
theorem newC_ok {b : List Int} (h : b.length ≤ 1048576) : CuOk b (newC b).1 := ⟨Int.le_refl 0, Int.natCast_nonneg _, h⟩
/-- A context with a set of its attributes, mostly. -/
def att4 (b : List Int) (c : Cu) : Int × List Int × Int :=
  bif be b (nx b (draw3 b c).2.2) 16 == 0 then ((bent3 b (nx b (nx b (draw3 b c).2.2))).1, (bent3 b (nx b (nx b (draw3 b c).2.2))).2.1, be b (draw3 b c).2.2 (shlI (draw3 b c).1))
  else bif be b (nx b (draw3 b c).2.2) 16 == 1 then ((draw3 b c).1, (draw3 b c).2.1, bent2 b (nx b (nx b (draw3 b c).2.2)))
  else ((draw3 b c).1, (draw3 b c).2.1, be b (draw3 b c).2.2 (shlI (draw3 b c).1))
theorem att4_len {b : List Int} {c : Cu} (h : CuOk b c.1) : (att4 b c).2.1.length ≤ 9 := by
  obtain ⟨h1, h2, h3⟩ := draw3_ok h
  have h4 := bent3_ok (b := b) (c := nx b (nx b (draw3 b c).2.2)) (nx_ok (nx_ok h3))
  unfold att4
  cases be b (nx b (draw3 b c).2.2) 16 == 0
  · cases be b (nx b (draw3 b c).2.2) 16 == 1
    · simp only [cond_false]; omega
    · simp only [cond_false, cond_true]; omega
  · simp only [cond_true]; exact h4.1
/- spec.l1New -/
def K_l1New : List AV → List Ob → Option (AV × List Ob)
  | [.lst (.int .u8) b], [] => gd (b.length ≤ 1048576) (.ptr 0 0, [.box 83 [.lst (.int .u8) b, .int .i64 (newC b).1, .int .i64 (newC b).2]])
  | _, _ => none
@[reducible] def E_l1New : Env := mkE (tb []) (fun f => false) (fun r => bif r == 3 then ([0, 3, 4], [0, 3]) else ([], []))
theorem lp_l1New (b : List Int) (hb : b.length ≤ 1048576) (k : AX → S → Option (AV × List Ob)) (d : Nat) : ∀ (n i : Nat) (x h : Int), min b.length 4000 - i = d → i ≤ min b.length 4000 → x = i → d < n →
    lpAt E_l1New (lp E_l1New 0 n) 0 (loopAt Try.f68 0) (mkS [0, 3, 4] [.lst (.int .u8) b, .int .i64 h, .int .i64 x] []) k =
      k (.exit 0) (mkS [0, 3] [.lst (.int .u8) b, .int .i64 (newL b d i h)] []) := by
  induction d with
  | zero =>
    intro n i x h hd hi hx hn
    subst hx
    rw [lpAt_def]
    conv => lhs; whnf
    refine br_c (fun g => ?_) (fun g => ?_)
    · have g' := ofd g
      conv => lhs; whnf
      repeat ((first | with_reducible apply br_tt | with_reducible apply br_ff | with_reducible apply br_nf | with_reducible apply br_nt | with_reducible refine br_d ?_ (by kernel_rfl) | with_reducible apply br_t g | with_reducible apply br_f g); conv => lhs; whnf)
      refine br_f (df (by omega)) ?_
      conv => lhs; whnf
      all_goals rfl
    · conv => lhs; whnf
      repeat ((first | with_reducible apply br_tt | with_reducible apply br_ff | with_reducible apply br_nf | with_reducible apply br_nt | with_reducible refine br_d ?_ (by kernel_rfl) | with_reducible apply br_t g | with_reducible apply br_f g); conv => lhs; whnf)
      all_goals rfl
  | succ d ih =>
    intro n i x h hd hi hx hn
    obtain ⟨n, rfl⟩ : ∃ m, n = m + 1 := ⟨n - 1, by omega⟩
    subst hx
    rw [lpAt_def]
    have g : decide ((i : Int) < (b.length : Int)) = true := dt (by omega)
    conv => lhs; whnf
    repeat ((first | with_reducible apply br_tt | with_reducible apply br_ff | with_reducible apply br_nf | with_reducible apply br_nt | with_reducible refine br_d ?_ (by kernel_rfl) | with_reducible apply br_t g | with_reducible apply br_f g); conv => lhs; whnf)
    refine br_t (dt (by omega)) ?_
    conv => lhs; whnf
    refine br_t (dt2 (by omega) (by omega)) ?_
    conv => lhs; whnf
    refine Eq.trans (b := lpAt E_l1New (lp E_l1New 0 n) 0 (loopAt Try.f68 0) (mkS [0, 3, 4] [.lst (.int .u8) b, .int .i64 (band (IntKind.i64.wrap (IntKind.i64.wrap (IntKind.i64.wrap (h * 131) + IntKind.i64.wrap (b.getD i 0)) + 7)) 1073741823), .int .i64 (IntKind.i64.wrap ((i : Int) + 1))] []) k) rfl ?_
    exact ih n (i + 1) (IntKind.i64.wrap ((i : Int) + 1)) _ (by omega) (by omega) (by rw [wrap64 (n := (i : Int) + 1) (by omega) (by omega)]; simp) (by omega)
theorem ev_l1New (b : List Int) (hp : b.length ≤ 1048576) : evF E_l1New (4010) Try.f68 [.lst (.int .u8) b] [] = some (.ptr 0 0, [.box 83 [.lst (.int .u8) b, .int .i64 (newC b).1, .int .i64 (newC b).2]]) := by
  conv => lhs; whnf
  refine (lp_l1New b hp _ (min b.length 4000) _ 0 0 _ rfl (Nat.zero_le _) rfl (by change _ < 4009; omega)).trans ?_
  conv => lhs; whnf
  rfl
theorem ok_l1New : FnOk Try.prog 68 K_l1New := by
  refine fn_ok (fn := Try.f68) (k := Try.f68.ntmps) (E := E_l1New) (facts_of (List.forall_mem_nil _)) (by kernel_rfl) rfl (by decide +kernel) (by decide +kernel) ?_
  intro avs hin r h
  unfold K_l1New at h
  split at h
  · obtain ⟨hp, rfl⟩ := gd_o h
    exact ⟨_, ev_l1New _ hp, rfl⟩
  · cases h

/- spec.l1Byte -/
def K_l1Byte : List AV → List Ob → Option (AV × List Ob)
  | [.ptr 0 0], [.box 83 [.lst (.int .u8) b, .int .i64 i, .int .i64 h]] => gd (CuOk b i) (.int .i64 (curV b (i, h)), [.box 83 [.lst (.int .u8) b, .int .i64 (nx b (i, h)).1, .int .i64 (nx b (i, h)).2]])
  | _, _ => none
@[reducible] def E_l1Byte : Env := mkE (tb []) (fun f => false) (fun r => ([], []))
theorem ev_l1Byte (b : List Int) (i h : Int) (hp : CuOk b i) : evF E_l1Byte (1) Try.f89 [.ptr 0 0] [.box 83 [.lst (.int .u8) b, .int .i64 i, .int .i64 h]] = some (.int .i64 (curV b (i, h)), [.box 83 [.lst (.int .u8) b, .int .i64 (nx b (i, h)).1, .int .i64 (nx b (i, h)).2]]) := by
  have h1 := hp.1
  have h2 := hp.2.1
  have h3 := hp.2.2
  conv => lhs; whnf
  refine br_f (df (by omega)) ?_
  conv => lhs; whnf
  refine br_f (df (by omega)) ?_
  conv => lhs; whnf
  refine br_t (by kernel_rfl) ?_
  conv => lhs; whnf
  refine br_t (by kernel_rfl) ?_
  conv => lhs; whnf
  refine br_c (fun hc => ?_) (fun hc => ?_)
  · have h' := ofd hc
    conv => lhs; whnf
    refine br_t (dt2 (by omega) (by omega)) ?_
    conv => lhs; whnf
    refine br_t (by kernel_rfl) ?_
    conv => lhs; whnf
    have e1 : nx b (i, h) = (i + 1, curH h) := by unfold nx; rw [if_pos h']
    have e2 : curV b (i, h) = band (IntKind.i64.wrap (curX h + IntKind.i64.wrap (b.getD i.toNat 0))) 255 := if_pos h'
    rw [e1, e2, wrap64 (n := i + 1) (by omega) (by omega)]
    rfl
  · have h' := ofn hc
    conv => lhs; whnf
    have e1 : nx b (i, h) = (i, curH h) := by unfold nx; rw [if_neg h']
    have e2 : curV b (i, h) = curX h := if_neg h'
    rw [e1, e2]
    rfl
theorem ok_l1Byte : FnOk Try.prog 89 K_l1Byte := by
  refine fn_ok (fn := Try.f89) (k := Try.f89.ntmps) (E := E_l1Byte) (facts_of (List.forall_mem_nil _)) (by kernel_rfl) rfl (by decide +kernel) (by decide +kernel) ?_
  intro avs hin r h
  unfold K_l1Byte at h
  split at h
  · obtain ⟨hp, rfl⟩ := gd_o h
    exact ⟨_, ev_l1Byte _ _ _ hp, rfl⟩
  · cases h

/- spec.l1Below -/
def K_l1Below : List AV → List Ob → Option (AV × List Ob)
  | [.ptr 0 0, .int .i64 n], [.box 83 [.lst (.int .u8) b, .int .i64 i, .int .i64 h]] => gd (CuOk b i ∧ 1 ≤ n ∧ n ≤ 256) (.int .i64 (be b (i, h) n), [.box 83 [.lst (.int .u8) b, .int .i64 (nx b (i, h)).1, .int .i64 (nx b (i, h)).2]])
  | _, _ => none
@[reducible] def E_l1Below : Env := mkE (tb [(89, K_l1Byte)]) (fun f => [89].contains f) (fun r => ([], []))
theorem ev_l1Below (b : List Int) (i h : Int) (n : Int) (hp : CuOk b i ∧ 1 ≤ n ∧ n ≤ 256) : evF E_l1Below (1) Try.f70 [.ptr 0 0, .int .i64 n] [.box 83 [.lst (.int .u8) b, .int .i64 i, .int .i64 h]] = some (.int .i64 (be b (i, h) n), [.box 83 [.lst (.int .u8) b, .int .i64 (nx b (i, h)).1, .int .i64 (nx b (i, h)).2]]) := by
  have h1 := hp.2.1
  have h2 := hp.2.2
  have hr := be_rng b (i, h) (n := n) (by omega)
  conv => lhs; whnf
  refine br_f (df (by omega)) ?_
  conv => lhs; whnf
  refine br_t (dt (by omega)) ?_
  conv => lhs; whnf
  conv => lhs; arg 1; whnf
  refine bnd_g (by exact hp.1) ?_
  conv => lhs; whnf
  refine br_f (df (by omega)) ?_
  conv => lhs; whnf
  rfl
theorem ok_l1Below : FnOk Try.prog 70 K_l1Below := by
  refine fn_ok (fn := Try.f70) (k := Try.f70.ntmps) (E := E_l1Below) (facts_of (List.forall_mem_cons.2 ⟨ok_l1Byte, List.forall_mem_nil _⟩)) (by kernel_rfl) rfl (by decide +kernel) (by decide +kernel) ?_
  intro avs hin r h
  unfold K_l1Below at h
  split at h
  · obtain ⟨hp, rfl⟩ := gd_o h
    exact ⟨_, ev_l1Below _ _ _ _ hp, rfl⟩
  · cases h

/- spec.l1PickInt -/
def K_l1PickInt : List AV → List Ob → Option (AV × List Ob)
  | [.ptr 0 0, .own 1], [.box 83 [.lst (.int .u8) b, .int .i64 i, .int .i64 h], .row 3 (.int .i64) l] => gd (CuOk b i ∧ 1 ≤ l.length ∧ l.length ≤ 256) (.int .i64 (l.getD (be b (i, h) (l.length : Int)).toNat 0), [.box 83 [.lst (.int .u8) b, .int .i64 (nx b (i, h)).1, .int .i64 (nx b (i, h)).2], .row 3 (.int .i64) l])
  | _, _ => none
@[reducible] def E_l1PickInt : Env := mkE (tb [(70, K_l1Below)]) (fun f => [70].contains f) (fun r => ([], []))
theorem ev_l1PickInt (b : List Int) (i h : Int) (l : List Int) (hp : CuOk b i ∧ 1 ≤ l.length ∧ l.length ≤ 256) : evF E_l1PickInt (1) Try.f87 [.ptr 0 0, .own 1] [.box 83 [.lst (.int .u8) b, .int .i64 i, .int .i64 h], .row 3 (.int .i64) l] = some (.int .i64 (l.getD (be b (i, h) (l.length : Int)).toNat 0), [.box 83 [.lst (.int .u8) b, .int .i64 (nx b (i, h)).1, .int .i64 (nx b (i, h)).2], .row 3 (.int .i64) l]) := by
  have hr := be_rng b (i, h) (n := (l.length : Int)) (by omega)
  conv => lhs; whnf
  conv => lhs; arg 1; whnf
  refine bnd_g (by exact ⟨hp.1, by omega, by omega⟩) ?_
  conv => lhs; whnf
  refine br_t (dt2 (by omega) (by omega)) ?_
  conv => lhs; whnf
  refine br_t (dt (by omega)) ?_
  conv => lhs; whnf
  rfl
theorem ok_l1PickInt : FnOk Try.prog 87 K_l1PickInt := by
  refine fn_ok (fn := Try.f87) (k := Try.f87.ntmps) (E := E_l1PickInt) (facts_of (List.forall_mem_cons.2 ⟨ok_l1Below, List.forall_mem_nil _⟩)) (by kernel_rfl) rfl (by decide +kernel) (by decide +kernel) ?_
  intro avs hin r h
  unfold K_l1PickInt at h
  split at h
  · obtain ⟨hp, rfl⟩ := gd_o h
    exact ⟨_, ev_l1PickInt _ _ _ _ hp, rfl⟩
  · cases h

/- spec.l1Once -/
def K_l1Once : List AV → List Ob → Option (AV × List Ob)
  | [.ptr 0 0, .int .i64 n], [.box 83 [.lst (.int .u8) b, .int .i64 i, .int .i64 h]] => gd (CuOk b i ∧ 1 ≤ n ∧ n ≤ 256) (.bool (be b (i, h) n == 0), [.box 83 [.lst (.int .u8) b, .int .i64 (nx b (i, h)).1, .int .i64 (nx b (i, h)).2]])
  | _, _ => none
@[reducible] def E_l1Once : Env := mkE (tb [(70, K_l1Below)]) (fun f => [70].contains f) (fun r => ([], []))
theorem ev_l1Once (b : List Int) (i h : Int) (n : Int) (hp : CuOk b i ∧ 1 ≤ n ∧ n ≤ 256) : evF E_l1Once (1) Try.f90 [.ptr 0 0, .int .i64 n] [.box 83 [.lst (.int .u8) b, .int .i64 i, .int .i64 h]] = some (.bool (be b (i, h) n == 0), [.box 83 [.lst (.int .u8) b, .int .i64 (nx b (i, h)).1, .int .i64 (nx b (i, h)).2]]) := by
  conv => lhs; whnf
  conv => lhs; arg 1; whnf
  refine bnd_g (by exact hp) ?_
  conv => lhs; whnf
theorem ok_l1Once : FnOk Try.prog 90 K_l1Once := by
  refine fn_ok (fn := Try.f90) (k := Try.f90.ntmps) (E := E_l1Once) (facts_of (List.forall_mem_cons.2 ⟨ok_l1Below, List.forall_mem_nil _⟩)) (by kernel_rfl) rfl (by decide +kernel) (by decide +kernel) ?_
  intro avs hin r h
  unfold K_l1Once at h
  split at h
  · obtain ⟨hp, rfl⟩ := gd_o h
    exact ⟨_, ev_l1Once _ _ _ _ hp, rfl⟩
  · cases h

/- spec.l3Make -/
def K_l3Make : List AV → List Ob → Option (AV × List Ob)
  | [.ptr 0 0, .int .i64 m, .int .i64 o], [.box 83 [.lst (.int .u8) b, .int .i64 i, .int .i64 h]] => gd (CuOk b i ∧ (0 ≤ m ∧ m ≤ 8) ∧ 0 ≤ o ∧ o ≤ 90) (.agg [.int .i64 m, .own 1], [.box 83 [.lst (.int .u8) b, .int .i64 (make3 b m o (i, h)).2.1, .int .i64 (make3 b m o (i, h)).2.2], .row 3 (.int .i64) (make3 b m o (i, h)).1])
  | _, _ => none
@[reducible] def E_l3Make : Env := mkE (tb [(90, K_l1Once), (70, K_l1Below)]) (fun f => [90, 70].contains f) (fun r => bif r == 4 then ([0, 1, 6, 7, 8, 9], [6, 7]) else ([], []))
theorem lp_l3Make (b : List Int) (m : Int) (hm : 0 ≤ m ∧ m ≤ 8) (N : Int) (hN : 0 ≤ N ∧ N ≤ 100) (k : AX → S → Option (AV × List Ob)) (d : Nat) : ∀ (n i : Nat) (x i0 h0 : Int) (zs : List Int), N.toNat - i = d → i ≤ N.toNat → x = i → d < n → CuOk b i0 → zs.length ≤ i →
    lpAt E_l3Make (lp E_l3Make 1 n) 1 (loopAt Try.f88 0) (mkS [0, 1, 6, 7, 8, 9] [.ptr 0 0, .int .i64 m, .ptr 1 0, .ptr 3 0, .int .i64 N, .int .i64 x] [some (.box 83 [.lst (.int .u8) b, .int .i64 i0, .int .i64 h0]), some (.box 41 [.int .i64 0, .own 2]), some (.row 3 (.int .i64) []), some (.box 41 [.int .i64 m, .own 4]), some (.row 3 (.int .i64) zs)]) k =
      k (.exit 0) (mkS [6, 7] [.ptr 1 0, .ptr 3 0] [some (.box 83 [.lst (.int .u8) b, .int .i64 (mkRows b m d (i0, h0)).2.1, .int .i64 (mkRows b m d (i0, h0)).2.2]), some (.box 41 [.int .i64 0, .own 2]), some (.row 3 (.int .i64) []), some (.box 41 [.int .i64 m, .own 4]), some (.row 3 (.int .i64) (zs ++ (mkRows b m d (i0, h0)).1))]) := by
  have hs := shlI_rng hm.1 hm.2
  have hu := wrapu hm.1 hm.2
  induction d with
  | zero =>
    intro n i x i0 h0 zs hd hi hx hn hc hz
    subst hx
    rw [lpAt_def]
    conv => lhs; whnf
    refine br_f (df (by omega)) ?_
    conv => lhs; whnf
    rw [mkRows, List.append_nil]
  | succ d ih =>
    intro n i x i0 h0 zs hd hi hx hn hc hz
    obtain ⟨n, rfl⟩ : ∃ m, n = m + 1 := ⟨n - 1, by omega⟩
    subst hx
    have n1 := nx_ok (c := (i0, h0)) hc
    have n2 := nx_ok n1
    have n3 := nx_ok n2
    rw [lpAt_def]
    conv => lhs; whnf
    refine br_t (dt (by omega)) ?_
    conv => lhs; whnf
    conv => lhs; arg 1; whnf
    refine bnd_g (by exact ⟨hc, by omega, by omega⟩) ?_
    conv => lhs; whnf
    refine br_c (fun g => ?_) (fun g => ?_)
    · conv => lhs; whnf
      rw [hu]
      refine br_f (df (by omega)) ?_
      conv => lhs; whnf
      conv => lhs; arg 1; whnf
      refine bnd_g (by exact ⟨n1, hs⟩) ?_
      conv => lhs; whnf
      refine br_t (dt (by simp [room]; omega)) ?_
      conv => lhs; whnf
      refine br_t (by kernel_rfl) ?_
      conv => lhs; whnf
      refine (ih n (i + 1) (IntKind.i64.wrap ((i : Int) + 1)) _ _ _ (by omega) (by omega) (by rw [wrap64 (n := (i : Int) + 1) (by omega) (by omega)]; simp) (by omega) n2 (by simp; omega)).trans ?_
      have e : mkRows b m (d + 1) (i0, h0) = (be b (nx b (i0, h0)) (shlI m) :: (mkRows b m d (nx b (nx b (i0, h0)))).1, (mkRows b m d (nx b (nx b (i0, h0)))).2) := by rw [mkRows, g]; rfl
      rw [e, List.append_assoc]
      rfl
    · conv => lhs; whnf
      rw [hu]
      refine br_f (df (by omega)) ?_
      conv => lhs; whnf
      conv => lhs; arg 1; whnf
      refine bnd_g (by exact ⟨n1, hs⟩) ?_
      conv => lhs; whnf
      rw [hu]
      refine br_f (df (by omega)) ?_
      conv => lhs; whnf
      conv => lhs; arg 1; whnf
      refine bnd_g (by exact ⟨n2, hs⟩) ?_
      conv => lhs; whnf
      refine br_t (dt (by simp [room]; omega)) ?_
      conv => lhs; whnf
      refine br_t (by kernel_rfl) ?_
      conv => lhs; whnf
      refine (ih n (i + 1) (IntKind.i64.wrap ((i : Int) + 1)) _ _ _ (by omega) (by omega) (by rw [wrap64 (n := (i : Int) + 1) (by omega) (by omega)]; simp) (by omega) n3 (by simp; omega)).trans ?_
      have e : mkRows b m (d + 1) (i0, h0) = (bor (be b (nx b (i0, h0)) (shlI m)) (be b (nx b (nx b (i0, h0))) (shlI m)) :: (mkRows b m d (nx b (nx b (nx b (i0, h0))))).1, (mkRows b m d (nx b (nx b (nx b (i0, h0))))).2) := by rw [mkRows, g]; rfl
      rw [e, List.append_assoc]
      rfl
theorem ev_l3Make (b : List Int) (i h m o : Int) (hp : CuOk b i ∧ (0 ≤ m ∧ m ≤ 8) ∧ 0 ≤ o ∧ o ≤ 90) : evF E_l3Make (100) Try.f88 [.ptr 0 0, .int .i64 m, .int .i64 o] [.box 83 [.lst (.int .u8) b, .int .i64 i, .int .i64 h]] = some (.agg [.int .i64 m, .own 1], [.box 83 [.lst (.int .u8) b, .int .i64 (make3 b m o (i, h)).2.1, .int .i64 (make3 b m o (i, h)).2.2], .row 3 (.int .i64) (make3 b m o (i, h)).1]) := by
  have hr := be_rng b (i, h) (n := o + 1) (by omega)
  have n1 := nx_ok (c := (i, h)) hp.1
  have hw : IntKind.i64.wrap (o + 1) = o + 1 := wrap64 (by omega) (by omega)
  conv => lhs; whnf
  rw [hw]
  conv => lhs; arg 1; whnf
  refine bnd_g (by exact ⟨hp.1, by omega, by omega⟩) ?_
  conv => lhs; whnf
  refine (lp_l3Make b m hp.2.1 (be b (i, h) (o + 1)) (by omega) _ (be b (i, h) (o + 1)).toNat _ 0 0 (nx b (i, h)).1 (nx b (i, h)).2 [] rfl (by omega) rfl (by change _ < 99; omega) n1 (by simp)).trans ?_
  conv => lhs; whnf
  rfl
theorem ok_l3Make : FnOk Try.prog 88 K_l3Make := by
  refine fn_ok (fn := Try.f88) (k := Try.f88.ntmps) (E := E_l3Make) (facts_of (List.forall_mem_cons.2 ⟨ok_l1Once, List.forall_mem_cons.2 ⟨ok_l1Below, List.forall_mem_nil _⟩⟩)) (by kernel_rfl) rfl (by decide +kernel) (by decide +kernel) ?_
  intro avs hin r h
  unfold K_l3Make at h
  split at h
  · obtain ⟨hp, rfl⟩ := gd_o h
    exact ⟨_, ev_l3Make _ _ _ _ _ hp, rfl⟩
  · cases h

/- spec.l3Draw -/
def K_l3Draw : List AV → List Ob → Option (AV × List Ob)
  | [.ptr 0 0], [.box 83 [.lst (.int .u8) b, .int .i64 i, .int .i64 h]] => gd (CuOk b i) (.agg [.int .i64 (draw3 b (i, h)).1, .own 1], [.box 83 [.lst (.int .u8) b, .int .i64 (draw3 b (i, h)).2.2.1, .int .i64 (draw3 b (i, h)).2.2.2], .row 3 (.int .i64) (draw3 b (i, h)).2.1])
  | _, _ => none
@[reducible] def E_l3Draw : Env := mkE (tb [(87, K_l1PickInt), (88, K_l3Make)]) (fun f => [87, 88].contains f) (fun r => ([], []))
theorem ev_l3Draw (b : List Int) (i h : Int) (hp : CuOk b i) : evF E_l3Draw (1) Try.f69 [.ptr 0 0] [.box 83 [.lst (.int .u8) b, .int .i64 i, .int .i64 h]] = some (.agg [.int .i64 (draw3 b (i, h)).1, .own 1], [.box 83 [.lst (.int .u8) b, .int .i64 (draw3 b (i, h)).2.2.1, .int .i64 (draw3 b (i, h)).2.2.2], .row 3 (.int .i64) (draw3 b (i, h)).2.1]) := by
  have n1 := nx_ok (c := (i, h)) hp
  have hm := draw3m_rng b (i, h)
  conv => lhs; whnf
  conv => lhs; arg 1; whnf
  refine bnd_g (by exact ⟨hp, by simp, by simp⟩) ?_
  conv => lhs; whnf
  conv => lhs; arg 1; whnf
  refine bnd_g (by exact ⟨n1, ⟨hm.1, by have := hm.2; exact Int.le_trans hm.2 (by omega)⟩, by omega, by omega⟩) ?_
  conv => lhs; whnf
  all_goals rfl
theorem ok_l3Draw : FnOk Try.prog 69 K_l3Draw := by
  refine fn_ok (fn := Try.f69) (k := Try.f69.ntmps) (E := E_l3Draw) (facts_of (List.forall_mem_cons.2 ⟨ok_l1PickInt, List.forall_mem_cons.2 ⟨ok_l3Make, List.forall_mem_nil _⟩⟩)) (by kernel_rfl) rfl (by decide +kernel) (by decide +kernel) ?_
  intro avs hin r h
  unfold K_l3Draw at h
  split at h
  · obtain ⟨hp, rfl⟩ := gd_o h
    exact ⟨_, ev_l3Draw _ _ _ hp, rfl⟩
  · cases h

/- spec.l2Bent -/
def K_l2Bent : List AV → List Ob → Option (AV × List Ob)
  | [.ptr 0 0], [.box 83 [.lst (.int .u8) b, .int .i64 i, .int .i64 h]] => gd (CuOk b i) (.int .i64 (bent2 b (i, h)), [.box 83 [.lst (.int .u8) b, .int .i64 (nx b (nx b (i, h))).1, .int .i64 (nx b (nx b (i, h))).2]])
  | _, _ => none
@[reducible] def E_l2Bent : Env := mkE (tb [(90, K_l1Once), (87, K_l1PickInt), (70, K_l1Below)]) (fun f => [90, 87, 70].contains f) (fun r => ([], []))
theorem ev_l2Bent (b : List Int) (i h : Int) (hp : CuOk b i) : evF E_l2Bent (1) Try.f72 [.ptr 0 0] [.box 83 [.lst (.int .u8) b, .int .i64 i, .int .i64 h]] = some (.int .i64 (bent2 b (i, h)), [.box 83 [.lst (.int .u8) b, .int .i64 (nx b (nx b (i, h))).1, .int .i64 (nx b (nx b (i, h))).2]]) := by
  have hn := nx_ok (c := (i, h)) hp
  conv => lhs; whnf
  conv => lhs; arg 1; whnf
  refine bnd_g (by exact ⟨hp, by omega, by omega⟩) ?_
  conv => lhs; whnf
  refine br_c (fun hc => ?_) (fun hc => ?_)
  · have e : bent2 b (i, h) = pick4 (-1) 256 1000 (-9223372036854775808) b (nx b (i, h)) := by unfold bent2; rw [hc]; rfl
    rw [e]
    conv => lhs; whnf
    conv => lhs; arg 1; whnf
    refine bnd_g (by exact ⟨hn, by simp, by simp⟩) ?_
    conv => lhs; whnf
    rfl
  · have e : bent2 b (i, h) = be b (nx b (i, h)) 256 := by unfold bent2; rw [hc]; rfl
    rw [e]
    conv => lhs; whnf
    conv => lhs; arg 1; whnf
    refine bnd_g (by exact ⟨hn, by omega, by omega⟩) ?_
    conv => lhs; whnf
theorem ok_l2Bent : FnOk Try.prog 72 K_l2Bent := by
  refine fn_ok (fn := Try.f72) (k := Try.f72.ntmps) (E := E_l2Bent) (facts_of (List.forall_mem_cons.2 ⟨ok_l1Once, List.forall_mem_cons.2 ⟨ok_l1PickInt, List.forall_mem_cons.2 ⟨ok_l1Below, List.forall_mem_nil _⟩⟩⟩)) (by kernel_rfl) rfl (by decide +kernel) (by decide +kernel) ?_
  intro avs hin r h
  unfold K_l2Bent at h
  split at h
  · obtain ⟨hp, rfl⟩ := gd_o h
    exact ⟨_, ev_l2Bent _ _ _ hp, rfl⟩
  · cases h

/- spec.l3Bent -/
def K_l3Bent : List AV → List Ob → Option (AV × List Ob)
  | [.ptr 0 0], [.box 83 [.lst (.int .u8) b, .int .i64 i, .int .i64 h]] => gd (CuOk b i) (.agg [.int .i64 (bent3 b (i, h)).1, .own 1], [.box 83 [.lst (.int .u8) b, .int .i64 (bent3 b (i, h)).2.2.1, .int .i64 (bent3 b (i, h)).2.2.2], .row 3 (.int .i64) (bent3 b (i, h)).2.1])
  | _, _ => none
@[reducible] def E_l3Bent : Env := mkE (tb [(69, K_l3Draw), (70, K_l1Below), (87, K_l1PickInt), (72, K_l2Bent)]) (fun f => [69, 70, 87, 72].contains f) (fun r => bif r == 8 then ([2, 3], [2, 3]) else ([], []))
theorem lp_l3Bent (b : List Int) (i0 h0 m : Int) (k : AX → S → Option (AV × List Ob)) (d : Nat) : ∀ (n : Nat) (zs : List Int), 9 - zs.length = d → zs.length ≤ 9 → d < n →
    lpAt E_l3Bent (lp E_l3Bent 1 n) 1 (loopAt Try.f71 0) (mkS [2, 3] [.ptr 1 0, .ptr 3 0] [some (.box 83 [.lst (.int .u8) b, .int .i64 i0, .int .i64 h0]), some (.box 41 [.int .i64 0, .own 2]), some (.row 3 (.int .i64) []), some (.box 41 [.int .i64 m, .own 4]), some (.row 3 (.int .i64) zs)]) k =
      k (.exit 1) (mkS [2, 3] [.ptr 1 0, .ptr 3 0] [some (.box 83 [.lst (.int .u8) b, .int .i64 i0, .int .i64 h0]), some (.box 41 [.int .i64 0, .own 2]), some (.row 3 (.int .i64) []), some (.box 41 [.int .i64 m, .own 4]), some (.row 3 (.int .i64) (pad9 zs))]) := by
  induction d with
  | zero =>
    intro n zs hd hi hn
    rw [lpAt_def]
    conv => lhs; whnf
    refine br_f (df (by omega)) ?_
    conv => lhs; whnf
    have e : pad9 zs = zs := by
      unfold pad9
      rw [show 9 - zs.length = 0 by omega]
      simp
    rw [e]
  | succ d ih =>
    intro n zs hd hi hn
    obtain ⟨n, rfl⟩ : ∃ m, n = m + 1 := ⟨n - 1, by omega⟩
    rw [lpAt_def]
    conv => lhs; whnf
    refine br_t (dt (by omega)) ?_
    conv => lhs; whnf
    refine br_t (dt (by simp [room]; omega)) ?_
    conv => lhs; whnf
    refine (ih n _ (by simp; omega) (by simp; omega) (by omega)).trans ?_
    have e : pad9 zs = pad9 (zs ++ [0]) := by
      unfold pad9
      obtain ⟨q, hq⟩ : ∃ q, 9 - zs.length = q + 1 := ⟨8 - zs.length, by omega⟩
      rw [List.length_append, List.length_singleton, hq, show 9 - (zs.length + 1) = q by omega, List.replicate_succ, List.append_assoc]
      rfl
    rw [e]
theorem ev_l3Bent (b : List Int) (i h : Int) (hp : CuOk b i) : evF E_l3Bent (20) Try.f71 [.ptr 0 0] [.box 83 [.lst (.int .u8) b, .int .i64 i, .int .i64 h]] = some (.agg [.int .i64 (bent3 b (i, h)).1, .own 1], [.box 83 [.lst (.int .u8) b, .int .i64 (bent3 b (i, h)).2.2.1, .int .i64 (bent3 b (i, h)).2.2.2], .row 3 (.int .i64) (bent3 b (i, h)).2.1]) := by
  have h3 := draw3_ok (c := (i, h)) hp
  have n0 := h3.2.2
  have hl := h3.2.1
  have n1 := nx_ok n0
  have n2 := nx_ok n1
  conv => lhs; whnf
  conv => lhs; arg 1; whnf
  refine bnd_g (by exact hp) ?_
  conv => lhs; whnf
  conv => lhs; arg 1; whnf
  refine bnd_g (by exact ⟨n0, by omega, by omega⟩) ?_
  conv => lhs; whnf
  refine br_c (fun g => ?_) (fun g => ?_)
  · have e : bent3 b (i, h) = (pick4 (-1) 0 2 7 b (nx b (draw3 b (i, h)).2.2), (draw3 b (i, h)).2.1, nx b (nx b (draw3 b (i, h)).2.2)) := by unfold bent3 bent3'; rw [g]; rfl
    rw [e]
    conv => lhs; whnf
    conv => lhs; arg 1; whnf
    refine bnd_g (by exact ⟨n1, by simp, by simp⟩) ?_
    conv => lhs; whnf
    all_goals rfl
  · conv => lhs; whnf
    refine br_c (fun g2 => ?_) (fun g2 => ?_)
    · have e : bent3 b (i, h) = ((draw3 b (i, h)).1, (draw3 b (i, h)).2.1 ++ [bent2 b (nx b (draw3 b (i, h)).2.2)], nx b (nx b (nx b (draw3 b (i, h)).2.2))) := by unfold bent3 bent3'; rw [g, g2]; rfl
      rw [e]
      conv => lhs; whnf
      conv => lhs; arg 1; whnf
      refine bnd_g (by exact n1) ?_
      conv => lhs; whnf
      refine br_t (dt (by simp [room]; omega)) ?_
      conv => lhs; whnf
      refine br_t (by kernel_rfl) ?_
      conv => lhs; whnf
      all_goals rfl
    · conv => lhs; whnf
      refine br_c (fun g3 => ?_) (fun g3 => ?_)
      · have e : bent3 b (i, h) = ((draw3 b (i, h)).1, pad9 (draw3 b (i, h)).2.1, nx b (draw3 b (i, h)).2.2) := by unfold bent3 bent3'; rw [g, g2, g3]; rfl
        rw [e]
        conv => lhs; whnf
        refine (lp_l3Bent b _ _ _ _ (9 - (draw3 b (i, h)).2.1.length) _ (draw3 b (i, h)).2.1 rfl (by omega) (by change _ < 19; omega)).trans ?_
        conv => lhs; whnf
        all_goals rfl
      · have e : bent3 b (i, h) = ((draw3 b (i, h)).1, (draw3 b (i, h)).2.1, nx b (draw3 b (i, h)).2.2) := by unfold bent3 bent3'; rw [g, g2, g3]; rfl
        rw [e]
        conv => lhs; whnf
theorem ok_l3Bent : FnOk Try.prog 71 K_l3Bent := by
  refine fn_ok (fn := Try.f71) (k := Try.f71.ntmps) (E := E_l3Bent) (facts_of (List.forall_mem_cons.2 ⟨ok_l3Draw, List.forall_mem_cons.2 ⟨ok_l1Below, List.forall_mem_cons.2 ⟨ok_l1PickInt, List.forall_mem_cons.2 ⟨ok_l2Bent, List.forall_mem_nil _⟩⟩⟩⟩)) (by kernel_rfl) rfl (by decide +kernel) (by decide +kernel) ?_
  intro avs hin r h
  unfold K_l3Bent at h
  split at h
  · obtain ⟨hp, rfl⟩ := gd_o h
    exact ⟨_, ev_l3Bent _ _ _ hp, rfl⟩
  · cases h

/- spec.l4Attributes -/
def K_l4Attributes : List AV → List Ob → Option (AV × List Ob)
  | [.lst (.int .u8) b], [] => gd (b.length ≤ 1048576) (.tup [.agg [.int .i64 (att4 b (newC b)).1, .own 0], .int .i64 (att4 b (newC b)).2.2], [.row 3 (.int .i64) (att4 b (newC b)).2.1])
  | _, _ => none
@[reducible] def E_l4Attributes : Env := mkE (tb [(68, K_l1New), (69, K_l3Draw), (70, K_l1Below), (71, K_l3Bent), (72, K_l2Bent)]) (fun f => [69, 70, 71, 72].contains f) (fun r => ([], []))
theorem ev_l4Attributes (b : List Int) (hp : b.length ≤ 1048576) : evF E_l4Attributes (1) Try.f41 [.lst (.int .u8) b] [] = some (.tup [.agg [.int .i64 (att4 b (newC b)).1, .own 0], .int .i64 (att4 b (newC b)).2.2], [.row 3 (.int .i64) (att4 b (newC b)).2.1]) := by
  have n0 := newC_ok hp
  have hd := draw3_ok n0
  have n1 := hd.2.2
  have n2 := nx_ok n1
  have n3 := nx_ok n2
  have hu := wrapu (n := (draw3 b (newC b)).1) hd.1.1 (by omega)
  have hs := shlI_rng (n := (draw3 b (newC b)).1) hd.1.1 (by omega)
  conv => lhs; whnf
  conv => lhs; arg 1; whnf
  refine bnd_g (by exact hp) ?_
  conv => lhs; whnf
  conv => lhs; arg 1; whnf
  refine bnd_g (by exact n0) ?_
  conv => lhs; whnf
  rw [show IntKind.u64.wrap (draw3 b ((newC b).1, (newC b).2)).1 = (draw3 b ((newC b).1, (newC b).2)).1 from hu]
  refine br_f (df (by change ¬ (draw3 b (newC b)).1 < 0; omega)) ?_
  conv => lhs; whnf
  conv => lhs; arg 1; whnf
  refine bnd_g (by exact ⟨n1, hs⟩) ?_
  conv => lhs; whnf
  conv => lhs; arg 1; whnf
  refine bnd_g (by exact ⟨n2, by omega, by omega⟩) ?_
  conv => lhs; whnf
  refine br_c (fun g => ?_) (fun g => ?_)
  · have e : att4 b (newC b) = ((bent3 b (nx b (nx b (draw3 b (newC b)).2.2))).1, (bent3 b (nx b (nx b (draw3 b (newC b)).2.2))).2.1, be b (draw3 b (newC b)).2.2 (shlI (draw3 b (newC b)).1)) := by
      have g' : (be b (nx b (draw3 b (newC b)).2.2) 16 == 0) = true := g
      unfold att4; rw [g']; rfl
    conv => rhs; rw [e]
    conv => lhs; whnf
    conv => lhs; arg 1; whnf
    refine bnd_g (by exact n3) ?_
    conv => lhs; whnf
    all_goals rfl
  · have g' : (be b (nx b (draw3 b (newC b)).2.2) 16 == 0) = false := g
    conv => lhs; whnf
    refine br_c (fun g2 => ?_) (fun g2 => ?_)
    · have e : att4 b (newC b) = ((draw3 b (newC b)).1, (draw3 b (newC b)).2.1, bent2 b (nx b (nx b (draw3 b (newC b)).2.2))) := by
        have g2' : (be b (nx b (draw3 b (newC b)).2.2) 16 == 1) = true := g2
        unfold att4; rw [g', g2']; rfl
      conv => rhs; rw [e]
      conv => lhs; whnf
      conv => lhs; arg 1; whnf
      refine bnd_g (by exact n3) ?_
      conv => lhs; whnf
      all_goals rfl
    · have e : att4 b (newC b) = ((draw3 b (newC b)).1, (draw3 b (newC b)).2.1, be b (draw3 b (newC b)).2.2 (shlI (draw3 b (newC b)).1)) := by
        have g2' : (be b (nx b (draw3 b (newC b)).2.2) 16 == 1) = false := g2
        unfold att4; rw [g', g2']; rfl
      conv => rhs; rw [e]
      conv => lhs; whnf
      all_goals rfl
theorem ok_l4Attributes : FnOk Try.prog 41 K_l4Attributes := by
  refine fn_ok (fn := Try.f41) (k := Try.f41.ntmps) (E := E_l4Attributes) (facts_of (List.forall_mem_cons.2 ⟨ok_l1New, List.forall_mem_cons.2 ⟨ok_l3Draw, List.forall_mem_cons.2 ⟨ok_l1Below, List.forall_mem_cons.2 ⟨ok_l3Bent, List.forall_mem_cons.2 ⟨ok_l2Bent, List.forall_mem_nil _⟩⟩⟩⟩⟩)) (by kernel_rfl) rfl (by decide +kernel) (by decide +kernel) ?_
  intro avs hin r h
  unfold K_l4Attributes at h
  split at h
  · obtain ⟨hp, rfl⟩ := gd_o h
    exact ⟨_, ev_l4Attributes _ hp, rfl⟩
  · cases h

/- spec.DrawInsertRow -/
def K_drawInsertRow : List AV → List Ob → Option (AV × List Ob)
  | [.lst (.int .u8) b], [] => gd (b.length ≤ 1048576) (.tup [.agg [.int .i64 (att4 b (newC b)).1, .own 0], .int .i64 (att4 b (newC b)).2.2], [.row 3 (.int .i64) (att4 b (newC b)).2.1])
  | _, _ => none
@[reducible] def E_drawInsertRow : Env := mkE (tb [(41, K_l4Attributes)]) (fun f => false) (fun r => ([], []))
theorem ev_drawInsertRow (b : List Int) (hp : b.length ≤ 1048576) : evF E_drawInsertRow (1) Try.f21 [.lst (.int .u8) b] [] = some (.tup [.agg [.int .i64 (att4 b (newC b)).1, .own 0], .int .i64 (att4 b (newC b)).2.2], [.row 3 (.int .i64) (att4 b (newC b)).2.1]) := by
  conv => lhs; whnf
  conv => lhs; arg 1; whnf
  refine bnd_g (by exact hp) ?_
  conv => lhs; whnf
theorem ok_drawInsertRow : FnOk Try.prog 21 K_drawInsertRow := by
  refine fn_ok (fn := Try.f21) (k := Try.f21.ntmps) (E := E_drawInsertRow) (facts_of (List.forall_mem_cons.2 ⟨ok_l4Attributes, List.forall_mem_nil _⟩)) (by kernel_rfl) rfl (by decide +kernel) (by decide +kernel) ?_
  intro avs hin r h
  unfold K_drawInsertRow at h
  split at h
  · obtain ⟨hp, rfl⟩ := gd_o h
    exact ⟨_, ev_drawInsertRow _ hp, rfl⟩
  · cases h

/- laws.big -/
def K_bigL : List AV → List Ob → Option (AV × List Ob)
  | [.lst (.int .u8) b], [] => gd (True) (.bool (decide ((b.length : Int) > 1048576)), [])
  | _, _ => none
@[reducible] def E_bigL : Env := mkE (tb []) (fun f => false) (fun r => ([], []))
theorem ev_bigL (b : List Int) (hp : True) : evF E_bigL (1) Try.f20 [.lst (.int .u8) b] [] = some (.bool (decide ((b.length : Int) > 1048576)), []) := by
  conv => lhs; whnf
theorem ok_bigL : FnOk Try.prog 20 K_bigL := by
  refine fn_ok (fn := Try.f20) (k := Try.f20.ntmps) (E := E_bigL) (facts_of (List.forall_mem_nil _)) (by kernel_rfl) rfl (by decide +kernel) (by decide +kernel) ?_
  intro avs hin r h
  unfold K_bigL at h
  split at h
  · obtain ⟨hp, rfl⟩ := gd_o h
    exact ⟨_, ev_bigL _ hp, rfl⟩
  · cases h

def mk9 (b : List Int) (N : Int) (c : Cu) : (Int × Int) × Cu := ((band (be b c N) (be b (nx b c) N), be b (nx b (nx b c)) N), nx b (nx b (nx b c)))
def mk9s (b : List Int) (N : Int) : Nat → Cu → List (Int × Int) × Cu
  | 0, c => ([], c)
  | d + 1, c => ((mk9 b N c).1 :: (mk9s b N d (mk9 b N c).2).1, (mk9s b N d (mk9 b N c).2).2)
theorem mk9_ok {b : List Int} {N : Int} {c : Cu} (h : CuOk b c.1) : CuOk b (mk9 b N c).2.1 := nx_ok (nx_ok (nx_ok h))
theorem mk9s_ok {b : List Int} {N : Int} : ∀ (d : Nat) (c : Cu), CuOk b c.1 → (mk9s b N d c).1.length = d ∧ CuOk b (mk9s b N d c).2.1
  | 0, c, h => ⟨rfl, h⟩
  | d + 1, c, h => by
    have h1 := mk9s_ok (N := N) d _ (mk9_ok (N := N) h)
    unfold mk9s
    exact ⟨by rw [List.length_cons, h1.1], h1.2⟩
def draw9 (b : List Int) (N : Int) (c : Cu) : List (Int × Int) × Cu := mk9s b N (be b c 5).toNat (nx b c)
theorem draw9_ok {b : List Int} {N : Int} {c : Cu} (h : CuOk b c.1) : (draw9 b N c).1.length ≤ 4 ∧ CuOk b (draw9 b N c).2.1 := by
  have h1 := mk9s_ok (N := N) (be b c 5).toNat (nx b c) (nx_ok h)
  have h2 := be_rng b c (n := 5) (by omega)
  unfold draw9
  exact ⟨by omega, h1.2⟩
def bent9' (b : List Int) (x : List (Int × Int) × Cu) : List (Int × Int) × Cu :=
  bif be b x.2 10 == 0 then (x.1 ++ [(bent2 b (nx b x.2), bent2 b (nx b (nx b (nx b x.2))))], nx b (nx b (nx b (nx b (nx b x.2))))) else (x.1, nx b x.2)
def bent9 (b : List Int) (N : Int) (c : Cu) : List (Int × Int) × Cu := bent9' b (draw9 b N c)
theorem bent9_ok {b : List Int} {N : Int} {c : Cu} (h : CuOk b c.1) : (bent9 b N c).1.length ≤ 5 ∧ CuOk b (bent9 b N c).2.1 := by
  obtain ⟨h1, h2⟩ := draw9_ok (N := N) h
  unfold bent9
  generalize draw9 b N c = x at h1 h2
  unfold bent9'
  have n1 := nx_ok h2
  cases be b x.2 10 == 0
  · exact ⟨by simp only [cond_false]; omega, n1⟩
  · exact ⟨by simp only [cond_true, List.length_append, List.length_singleton]; omega, nx_ok (nx_ok (nx_ok (nx_ok n1)))⟩
def clb9 (b : List Int) (c : Cu) : List (Int × Int) × Int := ((bent9 b 32 c).1, bif be b (bent9 b 32 c).2 12 == 0 then bent2 b (nx b (bent9 b 32 c).2) else be b (nx b (bent9 b 32 c).2) 32)
theorem insF_ctx {m : Int} {a : List Int} {r : Int} (h : (insF m a r).2.2 = true) : isCtx (insF m a r).1 (insF m a r).2.1 = true := by
  unfold insF at h ⊢
  cases hc : (isCtx m a && isSet m r && decide (a.length < 8))
  · rw [hc] at h; cases h
  · rw [cond_true]
    rw [Bool.and_eq_true, Bool.and_eq_true, decide_eq_true_eq] at hc
    obtain ⟨⟨h1, h2⟩, h3⟩ := hc
    unfold isCtx at h1 ⊢
    rw [Bool.and_eq_true, Bool.and_eq_true, decide_eq_true_eq, decide_eq_true_eq] at h1
    rw [decide_eq_true h1.1.1, List.all_append, h1.2]
    simp only [List.all_cons, List.all_nil, h2, List.length_append, List.length_singleton]
    rw [decide_eq_true (by omega)]
    rfl
end Go.Sym
