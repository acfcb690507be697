/- Functions of the program, each told as a plain equation. -/
import Derived.Test.YtonbmmjagdbgaaaDoorSymN4
namespace Go.Sym
open Go.Proofs
set_option linter.unusedVariables false
set_option linter.unusedSimpArgs false
set_option maxRecDepth 100000
set_option maxHeartbeats 4000000

/- spec.ParseInt -/
def K_specParseInt : List AV → List Ob → Option (AV × List Ob)
  | [.str s], [] => gd (okD s = true) (.tup [.int .i64 (byteN s 0 - 48), .bool true], [])
  | _, _ => none
@[reducible] def E_specParseInt : Env := mkE (tb [(31, K_l1Read)]) (fun f => false) (fun r => ([], []))
theorem ev_specParseInt (s : ByteArray) (hp : okD s = true) : evF E_specParseInt (1) Tryd.f19 [.str s] [] = some (.tup [.int .i64 (byteN s 0 - 48), .bool true], []) := by
  conv => lhs; whnf
  conv => lhs; arg 1; whnf
  refine bnd_g (by exact hp) ?_
  conv => lhs; whnf
theorem ok_specParseInt : FnOk Tryd.prog 19 K_specParseInt := by
  refine fn_ok (fn := Tryd.f19) (k := Tryd.f19.ntmps) (E := E_specParseInt) (facts_of (List.forall_mem_cons.2 ⟨ok_l1Read, List.forall_mem_nil _⟩)) (by kernel_rfl) rfl (by decide +kernel) (by decide +kernel) ?_
  intro avs hin r h
  unfold K_specParseInt at h
  split at h
  · obtain ⟨hp, rfl⟩ := gd_o h
    exact ⟨_, ev_specParseInt _ hp, rfl⟩
  · cases h

/- spec.l1In -/
def K_l1In : List AV → List Ob → Option (AV × List Ob)
  | [.int .i64 n, .int .i64 l, .int .i64 h], [] => gd (True) (.bool (decide (l ≤ n ∧ n ≤ h)), [])
  | _, _ => none
@[reducible] def E_l1In : Env := mkE (tb []) (fun f => false) (fun r => ([], []))
theorem ev_l1In (n l h : Int) (hp : True) : evF E_l1In (1) Tryd.f45 [.int .i64 n, .int .i64 l, .int .i64 h] [] = some (.bool (decide (l ≤ n ∧ n ≤ h)), []) := by
  conv => lhs; whnf
  refine br_c (fun h1 => ?_) (fun h1 => ?_)
  · conv => lhs; whnf
    repeat ((first | with_reducible apply br_tt | with_reducible apply br_ff | with_reducible apply br_nf | with_reducible apply br_nt | with_reducible refine br_d ?_ (by kernel_rfl) | with_reducible apply br_t h1 | with_reducible apply br_f h1); conv => lhs; whnf)
    have := ofd h1
    simp [this]
  · conv => lhs; whnf
    repeat ((first | with_reducible apply br_tt | with_reducible apply br_ff | with_reducible apply br_nf | with_reducible apply br_nt | with_reducible refine br_d ?_ (by kernel_rfl) | with_reducible apply br_t h1 | with_reducible apply br_f h1); conv => lhs; whnf)
    have := ofn h1
    simp [this]
theorem ok_l1In : FnOk Tryd.prog 45 K_l1In := by
  refine fn_ok (fn := Tryd.f45) (k := Tryd.f45.ntmps) (E := E_l1In) (facts_of (List.forall_mem_nil _)) (by kernel_rfl) rfl (by decide +kernel) (by decide +kernel) ?_
  intro avs hin r h
  unfold K_l1In at h
  split at h
  · obtain ⟨hp, rfl⟩ := gd_o h
    exact ⟨_, ev_l1In _ _ _ hp, rfl⟩
  · cases h

/- spec.IsSet -/
def K_specIsSet : List AV → List Ob → Option (AV × List Ob)
  | [.int .i64 n, .int .i64 s], [] => gd (True) (.bool (isSet n s), [])
  | _, _ => none
@[reducible] def E_specIsSet : Env := mkE (tb [(45, K_l1In)]) (fun f => false) (fun r => ([], []))
theorem ev_specIsSet (n s : Int) (hp : True) : evF E_specIsSet (1) Tryd.f43 [.int .i64 n, .int .i64 s] [] = some (.bool (isSet n s), []) := by
  conv => lhs; whnf
  conv => lhs; arg 1; whnf
  refine bnd_g (by exact True.intro) ?_
  conv => lhs; whnf
  refine br_c (fun h => ?_) (fun h => ?_)
  · conv => lhs; whnf
    have h8 := ofd h
    repeat ((first | with_reducible apply br_tt | with_reducible apply br_ff | with_reducible apply br_nf | with_reducible apply br_nt | with_reducible refine br_d ?_ (by kernel_rfl) | with_reducible apply br_t h | with_reducible apply br_f h); conv => lhs; whnf)
    rw [wrapu h8.1 h8.2]
    refine br_f (df (by omega)) ?_
    conv => lhs; whnf
    repeat ((first | with_reducible apply br_tt | with_reducible apply br_ff | with_reducible apply br_nf | with_reducible apply br_nt | with_reducible refine br_d ?_ (by kernel_rfl) | with_reducible apply br_t h | with_reducible apply br_f h); conv => lhs; whnf)
    conv => lhs; arg 1; whnf
    refine bnd_g (by exact True.intro) ?_
    conv => lhs; whnf
    repeat ((first | with_reducible apply br_tt | with_reducible apply br_ff | with_reducible apply br_nf | with_reducible apply br_nt | with_reducible refine br_d ?_ (by kernel_rfl) | with_reducible apply br_t h | with_reducible apply br_f h); conv => lhs; whnf)
    refine okB ?_
    unfold isSet
    refine decide_eq_decide.2 ?_
    rw [shl_set h8.1 h8.2]
    exact ⟨fun h => ⟨h8, h⟩, fun h => h.2⟩
  · conv => lhs; whnf
    repeat ((first | with_reducible apply br_tt | with_reducible apply br_ff | with_reducible apply br_nf | with_reducible apply br_nt | with_reducible refine br_d ?_ (by kernel_rfl) | with_reducible apply br_t h | with_reducible apply br_f h); conv => lhs; whnf)
    have h8 := ofn h
    simp [isSet, h8]
theorem ok_specIsSet : FnOk Tryd.prog 43 K_specIsSet := by
  refine fn_ok (fn := Tryd.f43) (k := Tryd.f43.ntmps) (E := E_specIsSet) (facts_of (List.forall_mem_cons.2 ⟨ok_l1In, List.forall_mem_nil _⟩)) (by kernel_rfl) rfl (by decide +kernel) (by decide +kernel) ?_
  intro avs hin r h
  unfold K_specIsSet at h
  split at h
  · obtain ⟨hp, rfl⟩ := gd_o h
    exact ⟨_, ev_specIsSet _ _ hp, rfl⟩
  · cases h

/- spec.l2Has -/
def K_l2Has : List AV → List Ob → Option (AV × List Ob)
  | [.int .i64 s, .int .i64 e], [] => gd ((0 ≤ s ∧ s ≤ 255) ∧ (0 ≤ e ∧ e ≤ 8)) (.bool (s.toNat.testBit e.toNat), [])
  | _, _ => none
@[reducible] def E_l2Has : Env := mkE (tb []) (fun f => false) (fun r => ([], []))
theorem ev_l2Has (s e : Int) (hp : (0 ≤ s ∧ s ≤ 255) ∧ (0 ≤ e ∧ e ≤ 8)) : evF E_l2Has (1) Tryd.f67 [.int .i64 s, .int .i64 e] [] = some (.bool (s.toNat.testBit e.toNat), []) := by
  obtain ⟨⟨h0, h1⟩, h2, h3⟩ := hp
  conv => lhs; whnf
  rw [wrapu h2 h3]
  refine br_f (df (by omega)) ?_
  conv => lhs; whnf
  exact okB (bit_of h0 h1 h2 h3)
theorem ok_l2Has : FnOk Tryd.prog 67 K_l2Has := by
  refine fn_ok (fn := Tryd.f67) (k := Tryd.f67.ntmps) (E := E_l2Has) (facts_of (List.forall_mem_nil _)) (by kernel_rfl) rfl (by decide +kernel) (by decide +kernel) ?_
  intro avs hin r h
  unfold K_l2Has at h
  split at h
  · obtain ⟨hp, rfl⟩ := gd_o h
    exact ⟨_, ev_l2Has _ _ hp, rfl⟩
  · cases h

/- spec.HasElement -/
def K_specHasElement : List AV → List Ob → Option (AV × List Ob)
  | [.int .i64 s, .int .i64 e], [] => gd (True) (.bool (hasE s e), [])
  | _, _ => none
@[reducible] def E_specHasElement : Env := mkE (tb [(43, K_specIsSet), (45, K_l1In), (67, K_l2Has)]) (fun f => false) (fun r => ([], []))
theorem ev_specHasElement (s e : Int) (hp : True) : evF E_specHasElement (1) Tryd.f54 [.int .i64 s, .int .i64 e] [] = some (.bool (hasE s e), []) := by
  conv => lhs; whnf
  conv => lhs; arg 1; whnf
  refine bnd_g (by exact True.intro) ?_
  conv => lhs; whnf
  refine br_c (fun h => ?_) (fun h => ?_)
  · conv => lhs; whnf
    repeat ((first | with_reducible apply br_tt | with_reducible apply br_ff | with_reducible apply br_nf | with_reducible apply br_nt | with_reducible refine br_d ?_ (by kernel_rfl) | with_reducible apply br_t h | with_reducible apply br_f h); conv => lhs; whnf)
    conv => lhs; arg 1; whnf
    refine bnd_g (by exact True.intro) ?_
    conv => lhs; whnf
    repeat ((first | with_reducible apply br_tt | with_reducible apply br_ff | with_reducible apply br_nf | with_reducible apply br_nt | with_reducible refine br_d ?_ (by kernel_rfl) | with_reducible apply br_t h | with_reducible apply br_f h); conv => lhs; whnf)
    have hs := isSet_le h
    refine br_c (fun h2 => ?_) (fun h2 => ?_)
    · conv => lhs; whnf
      repeat ((first | with_reducible apply br_tt | with_reducible apply br_ff | with_reducible apply br_nf | with_reducible apply br_nt | with_reducible refine br_d ?_ (by kernel_rfl) | with_reducible apply br_t h | with_reducible apply br_f h | with_reducible apply br_t h2 | with_reducible apply br_f h2); conv => lhs; whnf)
      have h2' := ofd h2
      conv => lhs; arg 1; whnf
      refine bnd_g (by exact ⟨by omega, by omega⟩) ?_
      conv => lhs; whnf
      repeat ((first | with_reducible apply br_tt | with_reducible apply br_ff | with_reducible apply br_nf | with_reducible apply br_nt | with_reducible refine br_d ?_ (by kernel_rfl) | with_reducible apply br_t h | with_reducible apply br_f h | with_reducible apply br_t h2 | with_reducible apply br_f h2); conv => lhs; whnf)
      refine okB ?_
      unfold hasE
      rw [h, h2, Bool.true_and, Bool.true_and]
    · conv => lhs; whnf
      repeat ((first | with_reducible apply br_tt | with_reducible apply br_ff | with_reducible apply br_nf | with_reducible apply br_nt | with_reducible refine br_d ?_ (by kernel_rfl) | with_reducible apply br_t h | with_reducible apply br_f h | with_reducible apply br_t h2 | with_reducible apply br_f h2); conv => lhs; whnf)
      refine okB ?_
      unfold hasE
      rw [h, h2]
      rfl
  · conv => lhs; whnf
    repeat ((first | with_reducible apply br_tt | with_reducible apply br_ff | with_reducible apply br_nf | with_reducible apply br_nt | with_reducible refine br_d ?_ (by kernel_rfl) | with_reducible apply br_t h | with_reducible apply br_f h); conv => lhs; whnf)
    refine okB ?_
    unfold hasE
    rw [h, Bool.false_and, Bool.false_and]
theorem ok_specHasElement : FnOk Tryd.prog 54 K_specHasElement := by
  refine fn_ok (fn := Tryd.f54) (k := Tryd.f54.ntmps) (E := E_specHasElement) (facts_of (List.forall_mem_cons.2 ⟨ok_specIsSet, List.forall_mem_cons.2 ⟨ok_l1In, List.forall_mem_cons.2 ⟨ok_l2Has, List.forall_mem_nil _⟩⟩⟩)) (by kernel_rfl) rfl (by decide +kernel) (by decide +kernel) ?_
  intro avs hin r h
  unfold K_specHasElement at h
  split at h
  · obtain ⟨hp, rfl⟩ := gd_o h
    exact ⟨_, ev_specHasElement _ _ hp, rfl⟩
  · cases h

/- spec.ElementsOf -/
def K_specElementsOf : List AV → List Ob → Option (AV × List Ob)
  | [.int .i64 s], [] => gd (True) (.own 0, [.row 3 (.int .i64) (elemsF s)])
  | _, _ => none
@[reducible] def E_specElementsOf : Env := mkE (tb [(54, K_specHasElement)]) (fun f => false) (fun r => bif r == 3 then ([0, 3, 4], [3]) else ([], []))
theorem lp_specElementsOf (s : Int) (k : AX → S → Option (AV × List Ob)) (d : Nat) : ∀ (n i : Nat) (x : Int) (ys : List Int), 8 - i = d → i ≤ 8 → x = i → d < n → ys.length ≤ i →
    lpAt E_specElementsOf (lp E_specElementsOf 0 n) 0 (loopAt Tryd.f44 0) (mkS [0, 3, 4] [.int .i64 s, .own 0, .int .i64 x] [some (.row 3 (.int .i64) ys)]) k =
      k (.exit 0) (mkS [3] [.own 0] [some (.row 3 (.int .i64) (ys ++ elemsL s d i))]) := by
  induction d with
  | zero =>
    intro n i x ys hd hi hx hn hl
    subst hx
    rw [lpAt_def]
    conv => lhs; whnf
    refine br_f (df (by omega)) ?_
    conv => lhs; whnf
    rw [elemsL, List.append_nil]
  | succ d ih =>
    intro n i x ys hd hi hx hn hl
    obtain ⟨n, rfl⟩ : ∃ m, n = m + 1 := ⟨n - 1, by omega⟩
    subst hx
    rw [lpAt_def]
    conv => lhs; whnf
    refine br_t (dt (by omega)) ?_
    conv => lhs; whnf
    conv => lhs; arg 1; whnf
    refine bnd_g (by exact True.intro) ?_
    conv => lhs; whnf
    refine br_c (fun h => ?_) (fun h => ?_)
    · conv => lhs; whnf
      refine br_t (dt (by simp [room]; omega)) ?_
      conv => lhs; whnf
      rw [ih n (i + 1) _ _ (by omega) (by omega) (by rw [wrap64 (n := (i : Int) + 1) (by omega) (by omega)]; simp) (by omega) (by simp; omega)]
      have h' : hasE s (i : Int) = true := h
      rw [elemsL, h', cond_true, List.append_assoc]
      rfl
    · conv => lhs; whnf
      rw [ih n (i + 1) _ _ (by omega) (by omega) (by rw [wrap64 (n := (i : Int) + 1) (by omega) (by omega)]; simp) (by omega) (by omega)]
      have h' : hasE s (i : Int) = false := h
      rw [elemsL, h', cond_false]
theorem ev_specElementsOf (s : Int) (hp : True) : evF E_specElementsOf (12) Tryd.f44 [.int .i64 s] [] = some (.own 0, [.row 3 (.int .i64) (elemsF s)]) := by
  conv => lhs; whnf
  refine (lp_specElementsOf s _ 8 _ 0 0 [] rfl (by omega) rfl (by change _ < 11; omega) (by simp)).trans ?_
  conv => lhs; whnf
  rfl
theorem ok_specElementsOf : FnOk Tryd.prog 44 K_specElementsOf := by
  refine fn_ok (fn := Tryd.f44) (k := Tryd.f44.ntmps) (E := E_specElementsOf) (facts_of (List.forall_mem_cons.2 ⟨ok_specHasElement, List.forall_mem_nil _⟩)) (by kernel_rfl) rfl (by decide +kernel) (by decide +kernel) ?_
  intro avs hin r h
  unfold K_specElementsOf at h
  split at h
  · obtain ⟨hp, rfl⟩ := gd_o h
    exact ⟨_, ev_specElementsOf _ hp, rfl⟩
  · cases h

/- spec.SetText -/
def K_specSetText : List AV → List Ob → Option (AV × List Ob)
  | [.int .i64 s], [] => gd (True) (.str (setTx s), [])
  | _, _ => none
@[reducible] def E_specSetText : Env := mkE (tb [(43, K_specIsSet), (44, K_specElementsOf)]) (fun f => false) (fun r => bif r == 8 then ([3, 4, 5], [3]) else ([], []))
theorem lp_specSetText (es : List Int) (he : es.length ≤ 8) (he2 : ∀ e ∈ es, 0 ≤ e ∧ e ≤ 7) (k : AX → S → Option (AV × List Ob)) (d : Nat) : ∀ (n i : Nat) (x : Int) (acc : ByteArray), es.length - i = d → i ≤ es.length → x = i → d < n → acc.size ≤ 8 * i →
    lpAt E_specSetText (lp E_specSetText 0 n) 0 (loopAt Tryd.f32 0) (mkS [3, 4, 5] [.str acc, .own 0, .int .i64 x] [some (.row 3 (.int .i64) es)]) k =
      k (.exit 0) (mkS [3] [.str (addTx (es.drop i) acc)] []) := by
  induction d with
  | zero =>
    intro n i x acc hd hi hx hn hz
    subst hx
    rw [lpAt_def]
    conv => lhs; whnf
    refine br_f (df (by omega)) ?_
    conv => lhs; whnf
    rw [List.drop_of_length_le (by omega), addTx]
  | succ d ih =>
    intro n i x acc hd hi hx hn hz
    obtain ⟨n, rfl⟩ : ∃ m, n = m + 1 := ⟨n - 1, by omega⟩
    subst hx
    have hei := he2 _ (mem_getD (l := es) (i := i) (d := 0) (by omega))
    have hab := abc_size (es.getD i 0).toNat (IntKind.i64.wrap (es.getD i 0 + 1)).toNat
    rw [lpAt_def]
    conv => lhs; whnf
    refine br_t (dt (by omega)) ?_
    conv => lhs; whnf
    refine br_t (dt2 (by omega) (by omega)) ?_
    conv => lhs; whnf
    refine br_t (dt (by omega)) ?_
    conv => lhs; whnf
    refine br_t (dt2 (by omega) (by omega)) ?_
    conv => lhs; whnf
    refine br_t (dt (by omega)) ?_
    conv => lhs; whnf
    refine br_t (by exact abc_slice hei) ?_
    conv => lhs; whnf
    refine br_t (by (refine dt ?_; change acc.size + (abcB.extract (es.getD i 0).toNat (IntKind.i64.wrap (es.getD i 0 + 1)).toNat).size ≤ 9223372036854775807; omega)) ?_
    conv => lhs; whnf
    repeat ((first | with_reducible apply br_tt | with_reducible apply br_ff | with_reducible apply br_nf | with_reducible apply br_nt | with_reducible refine br_d ?_ (by kernel_rfl)); conv => lhs; whnf)
    refine Eq.trans (ih n (i + 1) _ _ (by omega) (by omega) (by rw [wrap64 (n := (i : Int) + 1) (by omega) (by omega)]; simp) (by omega) (by change (acc ++ abcB.extract (es.getD i 0).toNat (IntKind.i64.wrap (es.getD i 0 + 1)).toNat).size ≤ _; rw [ByteArray.size_append]; omega)) ?_
    rw [getD_drop (l := es) (i := i) (d := 0) (by omega), addTx]
    rfl
theorem ev_specSetText (s : Int) (hp : True) : evF E_specSetText (20) Tryd.f32 [.int .i64 s] [] = some (.str (setTx s), []) := by
  unfold setTx
  conv => lhs; whnf
  conv => lhs; arg 1; whnf
  refine bnd_g (by exact True.intro) ?_
  conv => lhs; whnf
  refine br_c (fun h => ?_) (fun h => ?_)
  · rw [bnt h]
    conv => lhs; whnf
    rfl
  · rw [bnf h]
    conv => lhs; whnf
    refine br_c (fun h2 => ?_) (fun h2 => ?_)
    · have h2' : (s == 0) = true := h2
      rw [h2']
      conv => lhs; whnf
      rfl
    · have h2' : (s == 0) = false := h2
      rw [h2']
      have hel : (elemsF s).length ≤ 8 := elemsL_length _ _ _
      conv => lhs; whnf
      conv => lhs; arg 1; whnf
      refine bnd_g (by exact True.intro) ?_
      conv => lhs; whnf
      refine (lp_specSetText (elemsF s) hel (fun e h => elems_rng h) _ _ _ 0 0 ⟨#[]⟩ rfl (Nat.zero_le _) rfl (by change _ < 19; omega) (Nat.le_refl _)).trans ?_
      conv => lhs; whnf
      rfl
theorem ok_specSetText : FnOk Tryd.prog 32 K_specSetText := by
  refine fn_ok (fn := Tryd.f32) (k := Tryd.f32.ntmps) (E := E_specSetText) (facts_of (List.forall_mem_cons.2 ⟨ok_specIsSet, List.forall_mem_cons.2 ⟨ok_specElementsOf, List.forall_mem_nil _⟩⟩)) (by kernel_rfl) rfl (by decide +kernel) (by decide +kernel) ?_
  intro avs hin r h
  unfold K_specSetText at h
  split at h
  · obtain ⟨hp, rfl⟩ := gd_o h
    exact ⟨_, ev_specSetText _ hp, rfl⟩
  · cases h

/- spec.ParseSet -/
def K_specParseSet : List AV → List Ob → Option (AV × List Ob)
  | [.str t], [] => gd (t.size ≤ 1000 ∧ okP t = true) (.tup [.int .i64 (psS t), .bool true], [])
  | _, _ => none
@[reducible] def E_specParseSet : Env := mkE (tb [(32, K_specSetText)]) (fun f => false) (fun r => bif r == 3 then ([0, 4, 5], [0, 2, 3, 4]) else ([], []))
theorem w8 {n : Int} (h0 : 0 ≤ n) (h1 : n ≤ 255) : IntKind.u8.wrap n = n := by simp [IntKind.wrap, IntKind.bits, IntKind.signed]; omega
theorem lp_specParseSet (t : ByteArray) (hs : t.size ≤ 1000) (hd' : (t.toList == dashB.toList) = false) (hb : ∀ i : Nat, i < t.size → 97 ≤ ((t.data.toList.getD (i : Int).toNat 0).toNat : Int) ∧ ((t.data.toList.getD (i : Int).toNat 0).toNat : Int) ≤ 104) (k : AX → S → Option (AV × List Ob)) (d : Nat) : ∀ (n i : Nat) (x q : Int), t.size - i = d → i ≤ t.size → x = i → d < n →
    lpAt E_specParseSet (lp E_specParseSet 0 n) 0 (loopAt Tryd.f20 0) (mkS [0, 4, 5] [.str t, .int .i64 q, .int .i64 x] []) k =
      k (.exit 0) (mkS [0, 2, 3, 4] [.str t, .any, .any, .int .i64 (psA t d i q)] []) := by
  have hd2 : (!(t.toList == (⟨#[45]⟩ : ByteArray).toList)) = true := by
    have h : (!(t.toList == dashB.toList)) = true := by rw [hd']; rfl
    exact h
  induction d with
  | zero =>
    intro n i x q hd hi hx hn
    subst hx
    have h0 : decide ((i : Int) < (t.size : Int)) = false := df (by omega)
    rw [lpAt_def]
    conv => lhs; whnf
    repeat ((first | with_reducible apply br_tt | with_reducible apply br_ff | with_reducible apply br_nf | with_reducible apply br_nt | with_reducible refine br_d ?_ (by kernel_rfl) | with_reducible apply br_t h0 | with_reducible apply br_f h0); conv => lhs; whnf)
    rw [psA]
  | succ d ih =>
    intro n i x q hd hi hx hn
    obtain ⟨n, rfl⟩ : ∃ m, n = m + 1 := ⟨n - 1, by omega⟩
    subst hx
    have hb1 := hb i (by omega)
    have h0 : decide ((i : Int) < (t.size : Int)) = true := dt (by omega)
    have h1 : decide (((t.data.toList.getD (i : Int).toNat 0).toNat : Int) < 97) = false := df (by omega)
    have h2 : decide (((t.data.toList.getD (i : Int).toNat 0).toNat : Int) > 104) = false := df (by omega)
    rw [lpAt_def]
    conv => lhs; whnf
    repeat ((first | with_reducible apply br_tt | with_reducible apply br_ff | with_reducible apply br_nf | with_reducible apply br_nt | with_reducible refine br_d ?_ (by kernel_rfl) | with_reducible apply br_t h0 | with_reducible apply br_f h0 | with_reducible apply br_t hd2 | with_reducible apply br_f hd2 | with_reducible apply br_t h1 | with_reducible apply br_f h1 | with_reducible apply br_t h2 | with_reducible apply br_f h2 | with_reducible refine br_t (dt2 (by omega) (by omega)) ?_ | with_reducible refine br_t (dt (by omega)) ?_); conv => lhs; whnf)
    have hu8 : IntKind.u8.wrap (((t.data.toList.getD (i : Int).toNat 0).toNat : Int) - 97) = ((t.data.toList.getD (i : Int).toNat 0).toNat : Int) - 97 := w8 (by omega) (by omega)
    have hu : IntKind.u64.wrap (IntKind.u8.wrap (((t.data.toList.getD (i : Int).toNat 0).toNat : Int) - 97)) = ((t.data.toList.getD (i : Int).toNat 0).toNat : Int) - 97 := by rw [hu8]; exact wrapu (by omega) (by omega)
    refine br_f (df (by rw [hu]; omega)) ?_
    conv => lhs; whnf
    have eq : bor q (IntKind.i64.wrap (1 * 2 ^ min (IntKind.u64.wrap (IntKind.u8.wrap (((t.data.toList.getD (i : Int).toNat 0).toNat : Int) - 97))).toNat IntKind.i64.bits)) = bor q (shlI (byteN t i - 97)) := by
      rw [hu]
      rfl
    refine (ih n (i + 1) (IntKind.i64.wrap ((i : Int) + 1)) _ (by omega) (by omega) (by rw [wrap64 (n := (i : Int) + 1) (by omega) (by omega)]; simp) (by omega)).trans ?_
    rw [psA]
    exact congrArg (fun z => k (.exit 0) (mkS [0, 2, 3, 4] [.str t, .any, .any, .int .i64 (psA t d (i + 1) z)] [])) eq
theorem l0_specParseSet (t : ByteArray) (hd' : (t.toList == dashB.toList) = true) (hs : 1 ≤ t.size) (k : AX → S → Option (AV × List Ob)) (n : Nat) :
    lpAt E_specParseSet (lp E_specParseSet 0 (n + 1)) 0 (loopAt Tryd.f20 0) (mkS [0, 4, 5] [.str t, .int .i64 0, .int .i64 0] []) k =
      k (.exit 0) (mkS [0, 2, 3, 4] [.str t, .any, .any, .int .i64 0] []) := by
  have hd2 : (!(t.toList == (⟨#[45]⟩ : ByteArray).toList)) = false := by
    have h : (!(t.toList == dashB.toList)) = false := by rw [hd']; rfl
    exact h
  have h0 : decide ((0 : Int) < (t.size : Int)) = true := dt (by omega)
  rw [lpAt_def]
  conv => lhs; whnf
  repeat ((first | with_reducible apply br_tt | with_reducible apply br_ff | with_reducible apply br_nf | with_reducible apply br_nt | with_reducible refine br_d ?_ (by kernel_rfl) | with_reducible apply br_t h0 | with_reducible apply br_f h0 | with_reducible apply br_t hd2 | with_reducible apply br_f hd2); conv => lhs; whnf)
theorem ev_specParseSet (t : ByteArray) (hp : t.size ≤ 1000 ∧ okP t = true) : evF E_specParseSet (1100) Tryd.f20 [.str t] [] = some (.tup [.int .i64 (psS t), .bool true], []) := by
  obtain ⟨hs, hok⟩ := hp
  unfold okP at hok
  have h1 := Bool.and_eq_true_iff.1 hok
  have hn : (!((setTx (psS t)).toList == t.toList)) = false := by rw [h1.2]; rfl
  refine Or.elim (Classical.em ((t.toList == dashB.toList) = true)) (fun hd => ?_) (fun hd => ?_)
  · have hsz : 1 ≤ t.size := by
      have he := eq_of_beq hd
      rw [ByteArray.toList_eq, ByteArray.toList_eq] at he
      have : t.size = t.data.toList.length := rfl
      rw [this, he]
      decide
    have e : psS t = 0 := by unfold psS; rw [hd]; rfl
    rw [e] at hn
    conv => rhs; rw [e]
    conv => lhs; whnf
    refine (l0_specParseSet t hd hsz _ 1098).trans ?_
    conv => lhs; whnf
    conv => lhs; arg 1; whnf
    refine bnd_g (by exact True.intro) ?_
    conv => lhs; whnf
    refine br_f (by exact hn) ?_
    conv => lhs; whnf
  · have hd' : (t.toList == dashB.toList) = false := by simpa using hd
    have ha : t.data.toList.all (fun b => decide (97 ≤ b.toNat ∧ b.toNat ≤ 104)) = true := by
      have := h1.1
      rw [hd', Bool.false_or] at this
      exact this
    have hb : ∀ i : Nat, i < t.size → 97 ≤ ((t.data.toList.getD (i : Int).toNat 0).toNat : Int) ∧ ((t.data.toList.getD (i : Int).toNat 0).toNat : Int) ≤ 104 := fun i hi => by
      have := of_decide_eq_true (byte_all ha hi)
      rw [Int.toNat_natCast]
      omega
    have e : psS t = psA t t.size 0 0 := by unfold psS; rw [hd', cond_false]
    rw [e] at hn
    conv => rhs; rw [e]
    conv => lhs; whnf
    refine (lp_specParseSet t hs hd' hb _ t.size _ 0 0 0 rfl (by omega) rfl (by change _ < 1099; omega)).trans ?_
    conv => lhs; whnf
    conv => lhs; arg 1; whnf
    refine bnd_g (by exact True.intro) ?_
    conv => lhs; whnf
    refine br_f (by exact hn) ?_
    conv => lhs; whnf
theorem ok_specParseSet : FnOk Tryd.prog 20 K_specParseSet := by
  refine fn_ok (fn := Tryd.f20) (k := Tryd.f20.ntmps) (E := E_specParseSet) (facts_of (List.forall_mem_cons.2 ⟨ok_specSetText, List.forall_mem_nil _⟩)) (by kernel_rfl) rfl (by decide +kernel) (by decide +kernel) ?_
  intro avs hin r h
  unfold K_specParseSet at h
  split at h
  · obtain ⟨hp, rfl⟩ := gd_o h
    exact ⟨_, ev_specParseSet _ hp, rfl⟩
  · cases h

end Go.Sym
