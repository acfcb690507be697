/- Functions of the program, each told as a plain equation. -/
import Derived.Test.YtiihfodcocihjaaDoorSymFNewIntents
namespace Go.Sym
open Go.Proofs
set_option linter.unusedVariables false
set_option linter.unusedSimpArgs false
set_option maxRecDepth 100000
set_option maxHeartbeats 4000000

def notObj (m : Int) (b : List Int) (g : Int) : Bool := !(isCtx m b && decide (0 ≤ g ∧ g ≤ (b.length : Int) - 1))
def andRows (b : List Int) : List Int → Int → Int
  | [], acc => acc
  | g :: r, acc => andRows b r (band acc (b.getD g.toNat 0))
def sharedF (m : Int) (b : List Int) (l : List Int) : Int :=
  if isCtx m b && !l.any (notObj m b) then cntF (andRows b l (fullSet m)) else -1
def dropL (s : Int) : List Int → Nat → List Int
  | [], _ => []
  | x :: l, i => bif hasE s (i : Int) then dropL s l (i + 1) else x :: dropL s l (i + 1)
theorem dropL_len (s : Int) : ∀ (l : List Int) (i : Nat), (dropL s l i).length ≤ l.length
  | [], _ => Nat.le_refl 0
  | x :: l, i => by
    have := dropL_len s l (i + 1)
    unfold dropL
    cases hasE s (i : Int) <;> simp <;> omega
def lostF (m : Int) (b : List Int) (g : Int) : List Int := bif notObj m b g then [] else missF (inlF m b) (inlF m (dropL ((2 ^ g.toNat : Nat) : Int) b 0))
theorem lostF_len (m : Int) (b : List Int) (g : Int) : (lostF m b g).length ≤ 64 := by
  unfold lostF
  cases notObj m b g
  · have h1 := missF_len (inlF m b) (inlF m (dropL ((2 ^ g.toNat : Nat) : Int) b 0))
    have h2 := inlF_len m b
    rw [cond_false]
    omega
  · simp
theorem isSet_one {n g : Nat} (hn : n ≤ 8) (hg : g < n) : isSet n ((2 ^ g : Nat) : Int) = true := by
  have h1 : 2 ^ g < 2 ^ n := Nat.pow_lt_pow_right (by omega) hg
  unfold isSet
  have e2 : ((2 ^ n : Nat) : Int) = (2 : Int) ^ n := by push_cast; rfl
  have h0 : (0 : Int) ≤ ((2 ^ g : Nat) : Int) := Int.natCast_nonneg _
  refine dt ⟨⟨by omega, by omega⟩, h0, ?_⟩
  rw [Int.toNat_natCast, ← e2]
  omega
/- spec.DropObjects -/
def K_specDropObjects : List AV → List Ob → Option (AV × List Ob)
  | [.agg [.int .i64 m, .lst (.int .i64) b], .int .i64 s], [] => gd (isCtx m b = true ∧ isSet b.length s = true) (.tup [.agg [.int .i64 m, .own 0], .bool true], [.row 3 (.int .i64) (dropL s b 0)])
  | _, _ => none
@[reducible] def E_specDropObjects : Env := mkE (tb [(104, K_specIsContext), (132, K_specIsSet), (86, K_l2Has)]) (fun f => false) (fun r => bif r == 5 then ([1, 2, 4, 6, 7], [4, 6]) else ([], []))
theorem lp_specDropObjects (m : Int) (b : List Int) (hb : b.length ≤ 8) (s : Int) (hs : isSet 8 s = true) (k : AX → S → Option (AV × List Ob)) (d : Nat) : ∀ (n i : Nat) (x : Int) (zs : List Int), b.length - i = d → i ≤ b.length → x = i → d < n → zs.length ≤ i →
    lpAt E_specDropObjects (lp E_specDropObjects 0 n) 0 (loopAt Tryd.f105 0) (mkS [1, 2, 4, 6, 7] [.int .i64 s, .ptr 0 0, .ptr 1 0, .ptr 3 0, .int .i64 x] [some (.box 35 [.int .i64 m, .lst (.int .i64) b]), some (.box 35 [.int .i64 0, .own 2]), some (.row 3 (.int .i64) []), some (.box 35 [.int .i64 m, .own 4]), some (.row 3 (.int .i64) zs)]) k =
      k (.exit 0) (mkS [4, 6] [.ptr 0 0, .ptr 2 0] [some (.box 35 [.int .i64 0, .own 1]), some (.row 3 (.int .i64) []), some (.box 35 [.int .i64 m, .own 3]), some (.row 3 (.int .i64) (zs ++ dropL s (b.drop i) i))]) := by
  have hr := isSet_le hs
  induction d with
  | zero =>
    intro n i x zs hd hi hx hn hz
    subst hx
    rw [lpAt_def]
    conv => lhs; whnf
    refine br_f (df (by omega)) ?_
    conv => lhs; whnf
    rw [List.drop_of_length_le (by omega), dropL, List.append_nil]
  | succ d ih =>
    intro n i x zs hd hi hx hn hz
    obtain ⟨n, rfl⟩ : ∃ m, n = m + 1 := ⟨n - 1, by omega⟩
    subst hx
    have hE : hasE s i = s.toNat.testBit (i : Int).toNat := by
      unfold hasE
      rw [hs, dt (show 0 ≤ (i : Int) ∧ (i : Int) ≤ 7 by omega)]
      rfl
    rw [lpAt_def]
    conv => lhs; whnf
    refine br_t (dt (by omega)) ?_
    conv => lhs; whnf
    conv => lhs; arg 1; whnf
    refine bnd_g (by exact ⟨⟨by omega, by omega⟩, by omega, by omega⟩) ?_
    conv => lhs; whnf
    rw [getD_drop (l := b) (i := i) (d := 0) (by omega)]
    refine br_c (fun h => ?_) (fun h => ?_)
    · have h' : s.toNat.testBit (i : Int).toNat = false := bnt h
      conv => lhs; whnf
      refine br_t (dt2 (by omega) (by omega)) ?_
      conv => lhs; whnf
      refine br_t (dt (by simp [room]; omega)) ?_
      conv => lhs; whnf
      repeat ((first | with_reducible apply br_tt | with_reducible apply br_ff | with_reducible apply br_nf | with_reducible apply br_nt | with_reducible refine br_d ?_ (by kernel_rfl)); conv => lhs; whnf)
      rw [ih n (i + 1) _ _ (by omega) (by omega) (by rw [wrap64 (by omega) (by omega)]; simp) (by omega) (by simp; omega)]
      rw [dropL, hE, h', cond_false]
      simp only [List.append_assoc]
      rfl
    · have h' : s.toNat.testBit (i : Int).toNat = true := bnf h
      conv => lhs; whnf
      rw [ih n (i + 1) _ _ (by omega) (by omega) (by rw [wrap64 (by omega) (by omega)]; simp) (by omega) (by omega)]
      rw [dropL, hE, h', cond_true]
theorem ev_specDropObjects (m : Int) (b : List Int) (s : Int) (hp : isCtx m b = true ∧ isSet b.length s = true) : evF E_specDropObjects (20) Tryd.f105 [.agg [.int .i64 m, .lst (.int .i64) b], .int .i64 s] [] = some (.tup [.agg [.int .i64 m, .own 0], .bool true], [.row 3 (.int .i64) (dropL s b 0)]) := by
  have hl := isCtx_len hp.1
  have hr := isSet_le hp.2
  conv => lhs; whnf
  conv => lhs; arg 1; whnf
  refine bnd_g (by omega) ?_
  conv => lhs; whnf
  refine br_c (fun h => ?_) (fun h => ?_)
  · exact absurd hp.1 (by rw [bnt h]; exact Bool.false_ne_true)
  · conv => lhs; whnf
    repeat ((first | with_reducible apply br_tt | with_reducible apply br_ff | with_reducible apply br_nf | with_reducible apply br_nt | with_reducible refine br_d ?_ (by kernel_rfl) | with_reducible apply br_t h | with_reducible apply br_f h); conv => lhs; whnf)
    conv => lhs; arg 1; whnf
    refine bnd_g (by exact True.intro) ?_
    conv => lhs; whnf
    repeat ((first | with_reducible apply br_tt | with_reducible apply br_ff | with_reducible apply br_nf | with_reducible apply br_nt | with_reducible refine br_d ?_ (by kernel_rfl) | with_reducible apply br_t h | with_reducible apply br_f h); conv => lhs; whnf)
    refine br_c (fun h2 => ?_) (fun h2 => ?_)
    · exact absurd hp.2 (by rw [bnt h2]; exact Bool.false_ne_true)
    · conv => lhs; whnf
      repeat ((first | with_reducible apply br_tt | with_reducible apply br_ff | with_reducible apply br_nf | with_reducible apply br_nt | with_reducible refine br_d ?_ (by kernel_rfl) | with_reducible apply br_t h2 | with_reducible apply br_f h2); conv => lhs; whnf)
      refine (lp_specDropObjects m b hl.1 s (by rw [isSet8]; exact dt ⟨by omega, by omega⟩) _ b.length _ 0 0 [] rfl (by omega) rfl (by change _ < 19; omega) (by simp)).trans ?_
      conv => lhs; whnf
      rfl
theorem ok_specDropObjects : FnOk Tryd.prog 105 K_specDropObjects := by
  refine fn_ok (fn := Tryd.f105) (k := Tryd.f105.ntmps) (E := E_specDropObjects) (facts_of (List.forall_mem_cons.2 ⟨ok_specIsContext, List.forall_mem_cons.2 ⟨ok_specIsSet, List.forall_mem_cons.2 ⟨ok_l2Has, List.forall_mem_nil _⟩⟩⟩)) (by kernel_rfl) rfl (by decide +kernel) (by decide +kernel) ?_
  intro avs hin r h
  unfold K_specDropObjects at h
  split at h
  · obtain ⟨hp, rfl⟩ := gd_o h
    exact ⟨_, ev_specDropObjects _ _ _ hp, rfl⟩
  · cases h

/- spec.LostIntents -/
def K_specLostIntents : List AV → List Ob → Option (AV × List Ob)
  | [.agg [.int .i64 m, .lst (.int .i64) b], .int .i64 g], [] => gd (b.length ≤ 1048576) (.own 0, [.row 3 (.int .i64) (lostF m b g)])
  | _, _ => none
@[reducible] def E_specLostIntents : Env := mkE (tb [(104, K_specIsContext), (97, K_l1In), (105, K_specDropObjects), (83, K_l27Intents), (82, K_l27Missing)]) (fun f => false) (fun r => ([], []))
theorem ev_specLostIntents (m : Int) (b : List Int) (g : Int) (hp : b.length ≤ 1048576) : evF E_specLostIntents (1) Tryd.f50 [.agg [.int .i64 m, .lst (.int .i64) b], .int .i64 g] [] = some (.own 0, [.row 3 (.int .i64) (lostF m b g)]) := by
  conv => lhs; whnf
  conv => lhs; arg 1; whnf
  refine bnd_g (by omega) ?_
  conv => lhs; whnf
  refine br_c (fun h => ?_) (fun h => ?_)
  · have hf : lostF m b g = [] := by
      unfold lostF notObj
      rw [bnt h]
      rfl
    rw [hf]
    conv => lhs; whnf
    repeat ((first | with_reducible apply br_tt | with_reducible apply br_ff | with_reducible apply br_nf | with_reducible apply br_nt | with_reducible refine br_d ?_ (by kernel_rfl) | with_reducible apply br_t h | with_reducible apply br_f h); conv => lhs; whnf)
  · conv => lhs; whnf
    repeat ((first | with_reducible apply br_tt | with_reducible apply br_ff | with_reducible apply br_nf | with_reducible apply br_nt | with_reducible refine br_d ?_ (by kernel_rfl) | with_reducible apply br_t h | with_reducible apply br_f h); conv => lhs; whnf)
    conv => lhs; arg 1; whnf
    refine bnd_g (by exact True.intro) ?_
    conv => lhs; whnf
    repeat ((first | with_reducible apply br_tt | with_reducible apply br_ff | with_reducible apply br_nf | with_reducible apply br_nt | with_reducible refine br_d ?_ (by kernel_rfl) | with_reducible apply br_t h | with_reducible apply br_f h); conv => lhs; whnf)
    refine br_c (fun h2 => ?_) (fun h2 => ?_)
    · have h3 := bnt h2
      have hf : lostF m b g = [] := by
        unfold lostF notObj
        have h4 := ofn h3
        rw [wrap64 (n := (b.length : Int) - 1) (by omega) (by omega)] at h4
        rw [df h4, Bool.and_false]
        rfl
      rw [hf]
      conv => lhs; whnf
      repeat ((first | with_reducible apply br_tt | with_reducible apply br_ff | with_reducible apply br_nf | with_reducible apply br_nt | with_reducible refine br_d ?_ (by kernel_rfl) | with_reducible apply br_t h2 | with_reducible apply br_f h2); conv => lhs; whnf)
    · have h3 := ofd (bnf h2)
      rw [wrap64 (n := (b.length : Int) - 1) (by omega) (by omega)] at h3
      have hc := bnf h
      have hl := isCtx_len hc
      have hf : notObj m b g = false := by
        unfold notObj
        rw [hc, dt h3]
        rfl
      have h1 := inlF_len m b
      obtain ⟨n, rfl⟩ : ∃ n : Nat, g = n := ⟨g.toNat, by omega⟩
      have hsh : IntKind.i64.wrap (1 * 2 ^ min (IntKind.u64.wrap (n : Int)).toNat IntKind.i64.bits) = ((2 ^ n : Nat) : Int) := shl1u (by omega)
      unfold lostF
      rw [hf, cond_false]
      conv => lhs; whnf
      repeat ((first | with_reducible apply br_tt | with_reducible apply br_ff | with_reducible apply br_nf | with_reducible apply br_nt | with_reducible refine br_d ?_ (by kernel_rfl) | with_reducible apply br_t h2 | with_reducible apply br_f h2); conv => lhs; whnf)
      refine br_f (by (rw [wrapu (n := (n : Int)) (by omega) (by omega)]; exact df (by omega))) ?_
      conv => lhs; whnf
      conv => lhs; arg 1; whnf
      refine bnd_g (by (refine ⟨hc, ?_⟩; rw [hsh]; exact isSet_one hl.1 (by omega))) ?_
      conv => lhs; whnf
      conv => lhs; arg 1; whnf
      refine bnd_g (by exact hp) ?_
      conv => lhs; whnf
      conv => lhs; arg 1; whnf
      refine bnd_g (by (exact Nat.le_trans (dropL_len _ _ _) hp)) ?_
      conv => lhs; whnf
      conv => lhs; arg 1; whnf
      refine bnd_g (by exact ⟨h1, inlF_len _ _⟩) ?_
      conv => lhs; whnf
      repeat ((first | with_reducible apply br_tt | with_reducible apply br_ff | with_reducible apply br_nf | with_reducible apply br_nt | with_reducible refine br_d ?_ (by kernel_rfl)); conv => lhs; whnf)
      rw [hsh]
      rfl
theorem ok_specLostIntents : FnOk Tryd.prog 50 K_specLostIntents := by
  refine fn_ok (fn := Tryd.f50) (k := Tryd.f50.ntmps) (E := E_specLostIntents) (facts_of (List.forall_mem_cons.2 ⟨ok_specIsContext, List.forall_mem_cons.2 ⟨ok_l1In, List.forall_mem_cons.2 ⟨ok_specDropObjects, List.forall_mem_cons.2 ⟨ok_l27Intents, List.forall_mem_cons.2 ⟨ok_l27Missing, List.forall_mem_nil _⟩⟩⟩⟩⟩)) (by kernel_rfl) rfl (by decide +kernel) (by decide +kernel) ?_
  intro avs hin r h
  unfold K_specLostIntents at h
  split at h
  · obtain ⟨hp, rfl⟩ := gd_o h
    exact ⟨_, ev_specLostIntents _ _ _ hp, rfl⟩
  · cases h

/- impl.isObject -/
def K_isObject : List AV → List Ob → Option (AV × List Ob)
  | [.agg [.int .i64 m, .lst (.int .i64) b], .int .i64 g], [] => gd (b.length ≤ 1048576) (.bool (!notObj m b g), [])
  | _, _ => none
@[reducible] def E_isObject : Env := mkE (tb [(144, K_implIsContext), (99, K_within)]) (fun f => false) (fun r => ([], []))
theorem ev_isObject (m : Int) (b : List Int) (g : Int) (hp : b.length ≤ 1048576) : evF E_isObject (1) Tryd.f106 [.agg [.int .i64 m, .lst (.int .i64) b], .int .i64 g] [] = some (.bool (!notObj m b g), []) := by
  conv => lhs; whnf
  conv => lhs; arg 1; whnf
  refine bnd_g (by omega) ?_
  conv => lhs; whnf
  refine br_c (fun h => ?_) (fun h => ?_)
  · conv => lhs; whnf
    repeat ((first | with_reducible apply br_tt | with_reducible apply br_ff | with_reducible apply br_nf | with_reducible apply br_nt | with_reducible refine br_d ?_ (by kernel_rfl) | with_reducible apply br_t h | with_reducible apply br_f h); conv => lhs; whnf)
    rw [wrap64 (by omega) (by omega)]
    conv => lhs; arg 1; whnf
    refine bnd_g (by exact True.intro) ?_
    conv => lhs; whnf
    repeat ((first | with_reducible apply br_tt | with_reducible apply br_ff | with_reducible apply br_nf | with_reducible apply br_nt | with_reducible refine br_d ?_ (by kernel_rfl) | with_reducible apply br_t h | with_reducible apply br_f h); conv => lhs; whnf)
    refine okB ?_
    unfold notObj
    rw [h, Bool.not_not, Bool.true_and]
  · conv => lhs; whnf
    repeat ((first | with_reducible apply br_tt | with_reducible apply br_ff | with_reducible apply br_nf | with_reducible apply br_nt | with_reducible refine br_d ?_ (by kernel_rfl) | with_reducible apply br_t h | with_reducible apply br_f h); conv => lhs; whnf)
    refine okB ?_
    unfold notObj
    rw [h]
    rfl
theorem ok_isObject : FnOk Tryd.prog 106 K_isObject := by
  refine fn_ok (fn := Tryd.f106) (k := Tryd.f106.ntmps) (E := E_isObject) (facts_of (List.forall_mem_cons.2 ⟨ok_implIsContext, List.forall_mem_cons.2 ⟨ok_within, List.forall_mem_nil _⟩⟩)) (by kernel_rfl) rfl (by decide +kernel) (by decide +kernel) ?_
  intro avs hin r h
  unfold K_isObject at h
  split at h
  · obtain ⟨hp, rfl⟩ := gd_o h
    exact ⟨_, ev_isObject _ _ _ hp, rfl⟩
  · cases h

def renS (s e q : Int) (k : Nat) : Int := bor q (IntKind.i64.wrap (band (s.fdiv (2 ^ min e.toNat IntKind.i64.bits)) 1 * 2 ^ min (k : Int).toNat IntKind.i64.bits))
def renL (s : Int) : List Int → Nat → Int → Int
  | [], _, q => q
  | e :: l, k, q => renL s l (k + 1) (renS s e q k)
def renF (s c : Int) : Int := renL s (elemsF c) 0 0
theorem ren_all : ∀ m : Fin 7, ∀ x : Fin 64, x.val < 2 ^ m.val → renF (x.val : Int) (bnot (fullSet (m.val : Int)) 0) = (x.val : Int) := by decide +kernel
theorem cnt_all : ∀ m : Fin 7, cntF (bnot (fullSet (m.val : Int)) 0) = (m.val : Int) := by decide +kernel
theorem ren_id {m x : Int} (hm : m ≤ 6) (h : isSet m x = true) : renF x (bnot (fullSet m) 0) = x := by
  have hl := isSet_le h
  obtain ⟨t, rfl, ht⟩ := isSet_ex h
  obtain ⟨n, rfl⟩ : ∃ n : Nat, m = n := ⟨m.toNat, by omega⟩
  rw [Int.toNat_natCast] at ht
  have h6 : 2 ^ n ≤ 2 ^ 6 := Nat.pow_le_pow_right (by omega) (by omega)
  exact ren_all ⟨n, by omega⟩ ⟨t, by omega⟩ ht
theorem cnt_id {m : Int} (h0 : 0 ≤ m) (hm : m ≤ 6) : cntF (bnot (fullSet m) 0) = m := by
  obtain ⟨n, rfl⟩ : ∃ n : Nat, m = n := ⟨m.toNat, by omega⟩
  exact cnt_all ⟨n, by omega⟩
/- impl.renumbered -/
def K_renumbered : List AV → List Ob → Option (AV × List Ob)
  | [.int .i64 s, .int .i64 c], [] => gd (True) (.int .i64 (renF s c), [])
  | _, _ => none
@[reducible] def E_renumbered : Env := mkE (tb [(80, K_elementsOf)]) (fun f => false) (fun r => bif r == 3 then ([0, 5, 9, 10, 11], [5]) else ([], []))
theorem lp_renumbered (s : Int) (l : List Int) (hl : l.length ≤ 8) (hm : ∀ x ∈ l, 0 ≤ x ∧ x ≤ 7) (k : AX → S → Option (AV × List Ob)) (d : Nat) : ∀ (n i : Nat) (x q : Int), l.length - i = d → i ≤ l.length → x = i → d < n →
    lpAt E_renumbered (lp E_renumbered 0 n) 0 (loopAt Tryd.f154 0) (mkS [0, 5, 9, 10, 11] [.int .i64 s, .int .i64 q, .own 0, .int .i64 l.length, .int .i64 x] [some (.row 3 (.int .i64) l)]) k =
      k (.exit 0) (mkS [5] [.int .i64 (renL s (l.drop i) i q)] []) := by
  induction d with
  | zero =>
    intro n i x q hd hi hx hn
    subst hx
    rw [lpAt_def]
    conv => lhs; whnf
    refine br_f (df (by omega)) ?_
    conv => lhs; whnf
    rw [List.drop_of_length_le (by omega)]
    rfl
  | succ d ih =>
    intro n i x q hd hi hx hn
    obtain ⟨n, rfl⟩ : ∃ m, n = m + 1 := ⟨n - 1, by omega⟩
    subst hx
    have he := hm _ (mem_getD (d := 0) (show i < l.length by omega))
    rw [lpAt_def]
    conv => lhs; whnf
    refine br_t (dt (by omega)) ?_
    conv => lhs; whnf
    refine br_t (dt2 (by omega) (by omega)) ?_
    conv => lhs; whnf
    refine br_t (dt (by omega)) ?_
    conv => lhs; whnf
    refine br_f (by exact df (show ¬ l.getD i 0 < 0 by omega)) ?_
    conv => lhs; whnf
    refine br_f (df (by omega)) ?_
    conv => lhs; whnf
    refine Eq.trans (ih n (i + 1) _ _ (by omega) (by omega) (by rw [wrap64 (n := (i : Int) + 1) (by omega) (by omega)]; simp) (by omega)) ?_
    rw [getD_drop (l := l) (i := i) (d := 0) (by omega), renL]
    rfl
theorem ev_renumbered (s c : Int) (hp : True) : evF E_renumbered (20) Tryd.f154 [.int .i64 s, .int .i64 c] [] = some (.int .i64 (renF s c), []) := by
  have he : (elemsF c).length ≤ 8 := elemsL_length _ _ _
  conv => lhs; whnf
  conv => lhs; arg 1; whnf
  refine bnd_g (by exact True.intro) ?_
  conv => lhs; whnf
  refine (lp_renumbered s (elemsF c) he (fun x hx => by obtain ⟨e, h1, h2, h3, h4⟩ := elemsL_mem c x 8 0 hx; omega) _ (elemsF c).length _ 0 0 0 rfl (by omega) rfl (by change _ < 19; omega)).trans ?_
  conv => lhs; whnf
  rfl
theorem ok_renumbered : FnOk Tryd.prog 154 K_renumbered := by
  refine fn_ok (fn := Tryd.f154) (k := Tryd.f154.ntmps) (E := E_renumbered) (facts_of (List.forall_mem_cons.2 ⟨ok_elementsOf, List.forall_mem_nil _⟩)) (by kernel_rfl) rfl (by decide +kernel) (by decide +kernel) ?_
  intro avs hin r h
  unfold K_renumbered at h
  split at h
  · obtain ⟨hp, rfl⟩ := gd_o h
    exact ⟨_, ev_renumbered _ _ hp, rfl⟩
  · cases h

/- impl.without -/
def K_without0 : List AV → List Ob → Option (AV × List Ob)
  | [.agg [.int .i64 m, .lst (.int .i64) b], .int .i64 s, .int .i64 0], [] => gd (isCtx m b = true) (.agg [.int .i64 m, .own 0], [.row 3 (.int .i64) (dropL s b 0)])
  | _, _ => none
@[reducible] def E_without0 : Env := mkE (tb [(140, K_implFullSet), (89, K_implCountOf), (88, K_hasElement), (154, K_renumbered)]) (fun f => false) (fun r => bif r == 4 then ([1, 6, 7, 8, 20, 21, 22], [6, 8]) else ([], []))
theorem lp_without0 (m : Int) (b : List Int) (hc : isCtx m b = true) (s : Int) (A : Int) (k : AX → S → Option (AV × List Ob)) (d : Nat) : ∀ (n i : Nat) (x : Int) (zs : List Int), b.length - i = d → i ≤ b.length → x = i → d < n → zs.length ≤ i →
    lpAt E_without0 (lp E_without0 0 n) 0 (loopAt Tryd.f107 0) (mkS [1, 6, 7, 8, 20, 21, 22] [.int .i64 s, .ptr 0 0, .int .i64 (bnot (fullSet m) 0), .ptr 2 0, .lst (.int .i64) b, .int .i64 b.length, .int .i64 x] [some (.box 35 [.int .i64 0, .own 1]), some (.row 3 (.int .i64) []), some (.box 35 [.int .i64 A, .own 3]), some (.row 3 (.int .i64) zs)]) k =
      k (.exit 0) (mkS [6, 8] [.ptr 0 0, .ptr 2 0] [some (.box 35 [.int .i64 0, .own 1]), some (.row 3 (.int .i64) []), some (.box 35 [.int .i64 A, .own 3]), some (.row 3 (.int .i64) (zs ++ dropL s (b.drop i) i))]) := by
  have hlen := isCtx_len hc
  induction d with
  | zero =>
    intro n i x zs hd hi hx hn hz
    subst hx
    rw [lpAt_def]
    conv => lhs; whnf
    refine br_f (df (by omega)) ?_
    conv => lhs; whnf
    rw [List.drop_of_length_le (by omega), dropL, List.append_nil]
  | succ d ih =>
    intro n i x zs hd hi hx hn hz
    obtain ⟨n, rfl⟩ : ∃ m, n = m + 1 := ⟨n - 1, by omega⟩
    subst hx
    have hren : renF (b.getD i 0) (bnot (fullSet m) 0) = b.getD i 0 := ren_id hlen.2.2.1 (hlen.2.2.2 _ (mem_getD (by omega)))
    rw [lpAt_def]
    conv => lhs; whnf
    refine br_t (dt (by omega)) ?_
    conv => lhs; whnf
    refine br_t (dt2 (by omega) (by omega)) ?_
    conv => lhs; whnf
    conv => lhs; arg 1; whnf
    refine bnd_g (by exact True.intro) ?_
    conv => lhs; whnf
    rw [getD_drop (l := b) (i := i) (d := 0) (by omega)]
    refine br_c (fun h => ?_) (fun h => ?_)
    · have h' : hasE s i = false := bnt h
      conv => lhs; whnf
      conv => lhs; arg 1; whnf
      refine bnd_g (by exact True.intro) ?_
      conv => lhs; whnf
      refine br_t (dt (by simp [room]; omega)) ?_
      conv => lhs; whnf
      repeat ((first | with_reducible apply br_tt | with_reducible apply br_ff | with_reducible apply br_nf | with_reducible apply br_nt | with_reducible refine br_d ?_ (by kernel_rfl)); conv => lhs; whnf)
      rw [ih n (i + 1) _ _ (by omega) (by omega) (by rw [wrap64 (by omega) (by omega)]; simp) (by omega) (by simp; omega)]
      rw [dropL, h', cond_false]
      simp only [List.append_assoc]
      exact congrArg (fun z => k (.exit 0) (mkS [6, 8] [.ptr 0 0, .ptr 2 0] [some (.box 35 [.int .i64 0, .own 1]), some (.row 3 (.int .i64) []), some (.box 35 [.int .i64 A, .own 3]), some (.row 3 (.int .i64) (zs ++ ([z] ++ dropL s (b.drop (i + 1)) (i + 1))))])) hren
    · have h' : hasE s i = true := bnf h
      conv => lhs; whnf
      rw [ih n (i + 1) _ _ (by omega) (by omega) (by rw [wrap64 (by omega) (by omega)]; simp) (by omega) (by omega)]
      rw [dropL, h', cond_true]
theorem ev_without0 (m : Int) (b : List Int) (s : Int) (hp : isCtx m b = true) : evF E_without0 (20) Tryd.f107 [.agg [.int .i64 m, .lst (.int .i64) b], .int .i64 s, .int .i64 0] [] = some (.agg [.int .i64 m, .own 0], [.row 3 (.int .i64) (dropL s b 0)]) := by
  have hl := isCtx_len hp
  conv => lhs; whnf
  conv => lhs; arg 1; whnf
  refine bnd_g (by exact True.intro) ?_
  conv => lhs; whnf
  conv => lhs; arg 1; whnf
  refine bnd_g (by exact True.intro) ?_
  conv => lhs; whnf
  refine (lp_without0 m b hp s _ _ b.length _ 0 0 [] rfl (by omega) rfl (by change _ < 19; omega) (by simp)).trans ?_
  conv => lhs; whnf
  refine congrArg (fun z => some (AV.agg [.int .i64 z, .own 0], [Ob.row 3 (.int .i64) (dropL s b 0)])) ?_
  exact cnt_id hl.2.1 hl.2.2.1
theorem ok_without0 : FnOk Tryd.prog 107 K_without0 := by
  refine fn_ok (fn := Tryd.f107) (k := Tryd.f107.ntmps) (E := E_without0) (facts_of (List.forall_mem_cons.2 ⟨ok_implFullSet, List.forall_mem_cons.2 ⟨ok_implCountOf, List.forall_mem_cons.2 ⟨ok_hasElement, List.forall_mem_cons.2 ⟨ok_renumbered, List.forall_mem_nil _⟩⟩⟩⟩)) (by kernel_rfl) rfl (by decide +kernel) (by decide +kernel) ?_
  intro avs hin r h
  unfold K_without0 at h
  split at h
  · obtain ⟨hp, rfl⟩ := gd_o h
    exact ⟨_, ev_without0 _ _ _ hp, rfl⟩
  · cases h

/- impl.LostIntents -/
def K_implLostIntents : List AV → List Ob → Option (AV × List Ob)
  | [.agg [.int .i64 m, .lst (.int .i64) b], .int .i64 g], [] => gd (b.length ≤ 1048576) (.own 0, [.row 3 (.int .i64) (lostF m b g)])
  | _, _ => none
@[reducible] def E_implLostIntents : Env := mkE (tb [(106, K_isObject), (107, K_without0), (85, K_onlyIn)]) (fun f => false) (fun r => ([], []))
theorem ev_implLostIntents (m : Int) (b : List Int) (g : Int) (hp : b.length ≤ 1048576) : evF E_implLostIntents (1) Tryd.f51 [.agg [.int .i64 m, .lst (.int .i64) b], .int .i64 g] [] = some (.own 0, [.row 3 (.int .i64) (lostF m b g)]) := by
  conv => lhs; whnf
  conv => lhs; arg 1; whnf
  refine bnd_g (by exact hp) ?_
  conv => lhs; whnf
  refine br_c (fun h => ?_) (fun h => ?_)
  · have h' : notObj m b g = true := by simpa using h
    have hf : lostF m b g = [] := by
      unfold lostF
      rw [h']
      rfl
    rw [hf]
    conv => lhs; whnf
  · have h' : notObj m b g = false := by simpa using h
    have h2 : isCtx m b = true ∧ 0 ≤ g ∧ g < (b.length : Int) := by
      unfold notObj at h'
      have h3 := bnf h'
      rw [Bool.and_eq_true] at h3
      have h4 := ofd h3.2
      exact ⟨h3.1, by omega, by omega⟩
    have hl := isCtx_len h2.1
    obtain ⟨n, rfl⟩ : ∃ n : Nat, g = n := ⟨g.toNat, by omega⟩
    have hsh : IntKind.i64.wrap (1 * 2 ^ min (n : Int).toNat IntKind.i64.bits) = ((2 ^ n : Nat) : Int) := shl1 (by omega)
    unfold lostF
    rw [h', cond_false]
    conv => lhs; whnf
    refine br_f (df (by omega)) ?_
    conv => lhs; whnf
    conv => lhs; arg 1; whnf
    refine bnd_g (by exact h2.1) ?_
    conv => lhs; whnf
    conv => lhs; arg 1; whnf
    refine bnd_g (by exact ⟨hp, Nat.le_trans (dropL_len _ _ _) hp⟩) ?_
    conv => lhs; whnf
    repeat ((first | with_reducible apply br_tt | with_reducible apply br_ff | with_reducible apply br_nf | with_reducible apply br_nt | with_reducible refine br_d ?_ (by kernel_rfl)); conv => lhs; whnf)
    rw [hsh]
    rfl
theorem ok_implLostIntents : FnOk Tryd.prog 51 K_implLostIntents := by
  refine fn_ok (fn := Tryd.f51) (k := Tryd.f51.ntmps) (E := E_implLostIntents) (facts_of (List.forall_mem_cons.2 ⟨ok_isObject, List.forall_mem_cons.2 ⟨ok_without0, List.forall_mem_cons.2 ⟨ok_onlyIn, List.forall_mem_nil _⟩⟩⟩)) (by kernel_rfl) rfl (by decide +kernel) (by decide +kernel) ?_
  intro avs hin r h
  unfold K_implLostIntents at h
  split at h
  · obtain ⟨hp, rfl⟩ := gd_o h
    exact ⟨_, ev_implLostIntents _ _ _ hp, rfl⟩
  · cases h

/- laws.FnExactLostIntents -/
def K_lawLostIntents : List AV → List Ob → Option (AV × List Ob)
  | [.agg [.int .i64 m, .lst (.int .i64) a], .int .i64 s], [] => gd (a.length ≤ maxLen) (.bool true, [])
  | _, _ => none
@[reducible] def E_lawLostIntents : Env := mkE (tb [(23, K_szContext), (25, K_toContext), (50, K_specLostIntents), (51, K_implLostIntents), (27, K_eqIntS), (28, K_eqContext), (31, K_heldIntS), (29, K_markContext), (30, K_markIntS)]) (fun f => [29, 30].contains f) (fun r => ([], []))
theorem ev_lawLostIntents (m : Int) (a : List Int) (s : Int) (hp : a.length ≤ maxLen) : evF E_lawLostIntents (1) Tryd.f12 [.agg [.int .i64 m, .lst (.int .i64) a], .int .i64 s] [] = some (.bool true, []) := by
  conv => lhs; whnf
  conv => lhs; arg 1; whnf
  refine bnd_g (by exact ⟨by omega, by omega, hp⟩) ?_
  conv => lhs; whnf
  refine br_c (fun h1 => ?_) (fun h1 => ?_)
  · conv => lhs; whnf
  · conv => lhs; whnf
    obtain ⟨e1, l1⟩ := szI_ok (ofn h1)
    have hb := lostF_len m a s
    conv => lhs; arg 1; whnf
    refine bnd_g (by omega) ?_
    conv => lhs; whnf
    conv => lhs; arg 1; whnf
    refine bnd_g (by omega) ?_
    conv => lhs; whnf
    conv => lhs; arg 1; whnf
    refine bnd_g (by omega) ?_
    conv => lhs; whnf
    conv => lhs; arg 1; whnf
    refine bnd_g (by omega) ?_
    conv => lhs; whnf
    conv => lhs; arg 1; whnf
    refine bnd_g (by exact ⟨by omega, by omega⟩) ?_
    conv => lhs; whnf
    repeat ((first | with_reducible apply br_tt | with_reducible apply br_ff | with_reducible apply br_nf | with_reducible apply br_nt | with_reducible refine br_d ?_ (by kernel_rfl) | with_reducible refine br_f (by simp; done) ?_); conv => lhs; whnf)
    conv => lhs; arg 1; whnf
    refine bnd_g (by omega) ?_
    conv => lhs; whnf
    conv => lhs; arg 1; whnf
    refine bnd_g (by exact ⟨by omega, by omega⟩) ?_
    conv => lhs; whnf
    repeat ((first | with_reducible apply br_tt | with_reducible apply br_ff | with_reducible apply br_nf | with_reducible apply br_nt | with_reducible refine br_d ?_ (by kernel_rfl) | with_reducible refine br_f (by simp; done) ?_); conv => lhs; whnf)
    conv => lhs; arg 1; whnf
    refine bnd_g (by exact ⟨by omega, by omega, by omega⟩) ?_
    conv => lhs; whnf
    have hk : decide ((1 : Int) + (a.length : Int) < 0) = false := df (by omega)
    repeat ((first | with_reducible apply br_tt | with_reducible apply br_ff | with_reducible apply br_nf | with_reducible apply br_nt | with_reducible refine br_d ?_ (by kernel_rfl) | with_reducible apply br_t hk | with_reducible apply br_f hk); conv => lhs; whnf)
    conv => lhs; arg 1; whnf
    refine bnd_g (by exact ⟨by omega, by omega⟩) ?_
    conv => lhs; whnf
    repeat ((first | with_reducible apply br_tt | with_reducible apply br_ff | with_reducible apply br_nf | with_reducible apply br_nt | with_reducible refine br_d ?_ (by kernel_rfl) | with_reducible apply br_t hk | with_reducible apply br_f hk | with_reducible refine br_f (by simp; done) ?_); conv => lhs; whnf)
    conv => lhs; arg 1; whnf
    refine bnd_g (by exact ⟨by omega, by omega, by omega⟩) ?_
    conv => lhs; whnf
    conv => lhs; arg 1; whnf
    refine bnd_g (by exact ⟨by simp; omega, by omega, by omega⟩) ?_
    conv => lhs; whnf
    refine br_f (by (apply decide_eq_false; rw [held_iota]; omega)) ?_
    conv => lhs; whnf
    refine br_f (by (rw [held_iota]; simp)) ?_
    conv => lhs; whnf
    conv => lhs; arg 1; whnf
    refine bnd_g (by omega) ?_
    conv => lhs; whnf
    conv => lhs; arg 1; whnf
    refine bnd_g (by omega) ?_
    conv => lhs; whnf
    conv => lhs; arg 1; whnf
    refine bnd_g (by exact ⟨by omega, by omega⟩) ?_
    conv => lhs; whnf
    repeat ((first | with_reducible apply br_tt | with_reducible apply br_ff | with_reducible apply br_nf | with_reducible apply br_nt | with_reducible refine br_d ?_ (by kernel_rfl) | with_reducible refine br_f (by simp; done) ?_); conv => lhs; whnf)
    conv => lhs; arg 1; whnf
    refine bnd_g (by exact ⟨by simp; omega, by omega, by omega⟩) ?_
    conv => lhs; whnf
    refine br_f (by (apply decide_eq_false; rw [held_iota]; omega)) ?_
    conv => lhs; whnf
    refine br_f (by (rw [held_iota]; simp)) ?_
    conv => lhs; whnf
theorem ok_lawLostIntents : FnOk Tryd.prog 12 K_lawLostIntents := by
  refine fn_ok (fn := Tryd.f12) (k := Tryd.f12.ntmps) (E := E_lawLostIntents) (facts_of (List.forall_mem_cons.2 ⟨ok_szContext, List.forall_mem_cons.2 ⟨ok_toContext, List.forall_mem_cons.2 ⟨ok_specLostIntents, List.forall_mem_cons.2 ⟨ok_implLostIntents, List.forall_mem_cons.2 ⟨ok_eqIntS, List.forall_mem_cons.2 ⟨ok_eqContext, List.forall_mem_cons.2 ⟨ok_heldIntS, List.forall_mem_cons.2 ⟨ok_markContext, List.forall_mem_cons.2 ⟨ok_markIntS, List.forall_mem_nil _⟩⟩⟩⟩⟩⟩⟩⟩⟩)) (by kernel_rfl) rfl (by decide +kernel) (by decide +kernel) ?_
  intro avs hin r h
  unfold K_lawLostIntents at h
  split at h
  · obtain ⟨hp, rfl⟩ := gd_o h
    exact ⟨_, ev_lawLostIntents _ _ _ hp, rfl⟩
  · cases h

end Go.Sym
