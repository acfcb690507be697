/- Functions of the program, each told as a plain equation. -/
import Derived.Test.YtonbmmjagdbgaaaDoorSymN3
namespace Go.Sym
open Go.Proofs
set_option linter.unusedVariables false
set_option linter.unusedSimpArgs false
set_option maxRecDepth 100000
set_option maxHeartbeats 4000000

/- spec.FormatInt -/
def K_specFormatInt : List AV → List Ob → Option (AV × List Ob)
  | [.int .i64 n], [] => gd (-9223372036854775808 ≤ n ∧ n ≤ 9223372036854775807) (.str (itoaB n), [])
  | _, _ => none
@[reducible] def E_specFormatInt : Env := mkE (tb []) (fun f => false) (fun r => bif r == 5 then ([0, 3, 4], [3, 4]) else ([], []))
theorem lp_specFormatInt (f : Bool) (k : AX → S → Option (AV × List Ob)) (d : Nat) : ∀ (n : Nat) (x : Int) (out : ByteArray), x.natAbs < 10 ^ d → d < n → out.size + d ≤ 100 → -9223372036854775808 ≤ x → x ≤ 9223372036854775807 →
    lpAt E_specFormatInt (lp E_specFormatInt 0 n) 0 (loopAt Tryd.f34 0) (mkS [0, 3, 4] [.int .i64 x, .bool f, .str out] []) k =
      k (.exit 0) (mkS [3, 4] [.bool f, .str (bstr (digs x.natAbs) ++ out)] []) := by
  induction d with
  | zero =>
    intro n x out hx hn hz h0 h1
    have : x = 0 := by
      have : x.natAbs < 1 := hx
      omega
    subst this
    obtain ⟨n, rfl⟩ : ∃ m, n = m + 1 := ⟨n - 1, by omega⟩
    rw [lpAt_def]
    conv => lhs; whnf
    refine br_f (by rfl) ?_
    conv => lhs; whnf
    rw [show (0 : Int).natAbs = 0 from rfl, digs_zero, bstr_nil]
  | succ d ih =>
    intro n x out hx hn hz h0 h1
    obtain ⟨n, rfl⟩ : ∃ m, n = m + 1 := ⟨n - 1, by omega⟩
    have hq := tdiv_abs x
    have hqd : (x.tdiv 10).natAbs < 10 ^ d := by
      rw [hq]
      rw [Nat.pow_succ] at hx
      omega
    have hwq : IntKind.i64.wrap (x.tdiv 10) = x.tdiv 10 := wrap64 (by omega) (by omega)
    rw [lpAt_def]
    conv => lhs; whnf
    refine br_c (fun h => ?_) (fun h => ?_)
    · have h' : (x != 0) = true := h
      have hne : x.natAbs ≠ 0 := by
        have : x ≠ 0 := by simpa using h'
        omega
      have hsz : ∀ v : ByteArray, v = bstr [UInt8.ofNat (48 + x.natAbs % 10)] → (v ++ out).size = 1 + out.size := fun v hv => by rw [hv, ByteArray.size_append]; rfl
      conv => lhs; whnf
      refine br_f (df (by omega)) ?_
      conv => lhs; whnf
      refine br_c (fun h2 => ?_) (fun h2 => ?_)
      · have h2' : ¬ 0 ≤ x.tmod 10 := by
          have := ofd h2
          have : x.tmod 10 < 0 := this
          omega
        have e := digit_neg h2'
        conv => lhs; whnf
        refine br_t (by (refine dt ?_; change (intsStr [IntKind.u8.wrap (IntKind.i64.wrap (48 + IntKind.i64.wrap (0 - x.tmod 10)))]).size + out.size ≤ 9223372036854775807; rw [e]; show 1 + out.size ≤ _; omega)) ?_
        conv => lhs; whnf
        refine br_f (df (by omega)) ?_
        conv => lhs; whnf
        refine Eq.trans (ih n _ _ (by rw [hwq]; exact hqd) (by omega) (by rw [hsz _ e]; omega) (by rw [hwq]; omega) (by rw [hwq]; omega)) ?_
        rw [hwq, hq]
        have e3 : bstr (digs (x.natAbs / 10)) ++ (intsStr [IntKind.u8.wrap (IntKind.i64.wrap (48 + IntKind.i64.wrap (0 - x.tmod 10)))] ++ out) = bstr (digs x.natAbs) ++ out := by rw [e, ← ByteArray.append_assoc, bstr_app, ← digs_step hne]
        rw [← e3]
      · have h2' : 0 ≤ x.tmod 10 := by
          have := ofn h2
          have : ¬ x.tmod 10 < 0 := this
          omega
        have e := digit_pos h2'
        conv => lhs; whnf
        refine br_t (by (refine dt ?_; change (intsStr [IntKind.u8.wrap (IntKind.i64.wrap (48 + x.tmod 10))]).size + out.size ≤ 9223372036854775807; rw [e]; show 1 + out.size ≤ _; omega)) ?_
        conv => lhs; whnf
        refine br_f (df (by omega)) ?_
        conv => lhs; whnf
        refine Eq.trans (ih n _ _ (by rw [hwq]; exact hqd) (by omega) (by rw [hsz _ e]; omega) (by rw [hwq]; omega) (by rw [hwq]; omega)) ?_
        rw [hwq, hq]
        have e3 : bstr (digs (x.natAbs / 10)) ++ (intsStr [IntKind.u8.wrap (IntKind.i64.wrap (48 + x.tmod 10))] ++ out) = bstr (digs x.natAbs) ++ out := by rw [e, ← ByteArray.append_assoc, bstr_app, ← digs_step hne]
        rw [← e3]
    · have h' : (x != 0) = false := h
      have : x = 0 := by simpa using h'
      subst this
      conv => lhs; whnf
      rw [show (0 : Int).natAbs = 0 from rfl, digs_zero, bstr_nil]
theorem ev_specFormatInt (n : Int) (hp : -9223372036854775808 ≤ n ∧ n ≤ 9223372036854775807) : evF E_specFormatInt (40) Tryd.f34 [.int .i64 n] [] = some (.str (itoaB n), []) := by
  conv => lhs; whnf
  refine br_c (fun h => ?_) (fun h => ?_)
  · have h' : (n == 0) = true := h
    have : n = 0 := by simpa using h'
    subst this
    conv => lhs; whnf
    rw [itoa_zero]
    rfl
  · have h' : (n == 0) = false := h
    have hne : n ≠ 0 := by simpa using h'
    have hd := digs_len 19 n.natAbs (by omega)
    conv => lhs; whnf
    refine (lp_specFormatInt _ _ 19 _ n ⟨#[]⟩ (by omega) (by change 19 < 39; omega) (by decide) hp.1 hp.2).trans ?_
    have e : bstr (digs n.natAbs) ++ (⟨#[]⟩ : ByteArray) = bstr (digs n.natAbs) := by
      have := bstr_app (digs n.natAbs) []
      rw [List.append_nil] at this
      exact this
    rw [e, itoa_digs hne]
    conv => lhs; whnf
    refine br_c (fun h2 => ?_) (fun h2 => ?_)
    · have h2' : decide (n < 0) = true := h2
      rw [h2', cond_true]
      conv => lhs; whnf
      refine br_t (by (refine dt ?_; change (1 : Nat) + (bstr (digs n.natAbs)).size ≤ 9223372036854775807; rw [bstr_size]; omega)) ?_
      conv => lhs; whnf
      rfl
    · have h2' : decide (n < 0) = false := h2
      rw [h2', cond_false]
      conv => lhs; whnf
theorem ok_specFormatInt : FnOk Tryd.prog 34 K_specFormatInt := by
  refine fn_ok (fn := Tryd.f34) (k := Tryd.f34.ntmps) (E := E_specFormatInt) (facts_of (List.forall_mem_nil _)) (by kernel_rfl) rfl (by decide +kernel) (by decide +kernel) ?_
  intro avs hin r h
  unfold K_specFormatInt at h
  split at h
  · obtain ⟨hp, rfl⟩ := gd_o h
    exact ⟨_, ev_specFormatInt _ hp, rfl⟩
  · cases h

/- spec.l1Read -/
def K_l1Read : List AV → List Ob → Option (AV × List Ob)
  | [.str s, .int .i64 12], [] => gd (okD s = true) (.tup [.int .i64 (byteN s 0 - 48), .bool true], [])
  | _, _ => none
@[reducible] def E_l1Read : Env := mkE (tb [(34, K_specFormatInt)]) (fun f => false) (fun r => bif r == 9 then ([0, 6, 7, 8, 9], [0, 4, 5, 6, 8]) else ([], []))
theorem lp_l1Read (s : ByteArray) (hs : s.size = 1) (hb : 48 ≤ byteN s 0 ∧ byteN s 0 ≤ 57) (f : Bool) (k : AX → S → Option (AV × List Ob)) (n : Nat) :
    lpAt E_l1Read (lp E_l1Read 0 (n + 2)) 0 (loopAt Tryd.f31 0) (mkS [0, 6, 7, 8, 9] [.str s, .bool f, .str s, .int .i64 0, .int .i64 0] []) k =
      k (.exit 0) (mkS [0, 4, 5, 6, 8] [.str s, .any, .any, .bool f, .int .i64 (byteN s 0 - 48)] []) := by
  have hb' : 48 ≤ ((s.data.toList.getD (Int.toNat 0) 0).toNat : Int) ∧ ((s.data.toList.getD (Int.toNat 0) 0).toNat : Int) ≤ 57 := hb
  have h1 : decide (((s.data.toList.getD (Int.toNat 0) 0).toNat : Int) < 48) = false := df (by omega)
  have h2 : decide (((s.data.toList.getD (Int.toNat 0) 0).toNat : Int) > 57) = false := df (by omega)
  rw [lpAt_def]
  conv => lhs; whnf
  refine br_t (dt (by omega)) ?_
  conv => lhs; whnf
  refine br_t (dt2 (by omega) (by omega)) ?_
  conv => lhs; whnf
  repeat ((first | with_reducible apply br_tt | with_reducible apply br_ff | with_reducible apply br_nf | with_reducible apply br_nt | with_reducible refine br_d ?_ (by kernel_rfl) | with_reducible apply br_t h1 | with_reducible apply br_f h1); conv => lhs; whnf)
  refine br_t (dt2 (by omega) (by omega)) ?_
  conv => lhs; whnf
  repeat ((first | with_reducible apply br_tt | with_reducible apply br_ff | with_reducible apply br_nf | with_reducible apply br_nt | with_reducible refine br_d ?_ (by kernel_rfl) | with_reducible apply br_t h1 | with_reducible apply br_f h1 | with_reducible apply br_t h2 | with_reducible apply br_f h2); conv => lhs; whnf)
  refine br_t (dt2 (by omega) (by omega)) ?_
  conv => lhs; whnf
  repeat ((first | with_reducible apply br_tt | with_reducible apply br_ff | with_reducible apply br_nf | with_reducible apply br_nt | with_reducible refine br_d ?_ (by kernel_rfl) | with_reducible apply br_t h1 | with_reducible apply br_f h1 | with_reducible apply br_t h2 | with_reducible apply br_f h2); conv => lhs; whnf)
  rw [lpAt_def]
  conv => lhs; whnf
  refine br_f (df (by rw [wrap64 (n := (0 : Int) + 1) (by omega) (by omega)]; omega)) ?_
  conv => lhs; whnf
  have e1 : IntKind.u8.wrap (byteN s 0 - 48) = byteN s 0 - 48 := by simp [IntKind.wrap, IntKind.bits, IntKind.signed]; omega
  have e2 : IntKind.i64.wrap (IntKind.i64.wrap (10 * 0) + IntKind.i64.wrap (IntKind.u8.wrap (byteN s 0 - 48))) = byteN s 0 - 48 := by
    rw [e1, wrap64 (n := byteN s 0 - 48) (by omega) (by omega), wrap64 (n := 10 * 0) (by omega) (by omega), wrap64 (by omega) (by omega)]
    omega
  exact congrArg (fun z => k (.exit 0) (mkS [0, 4, 5, 6, 8] [.str s, .any, .any, .bool f, .int .i64 z] [])) e2
theorem ev_l1Read (s : ByteArray) (hp : okD s = true) : evF E_l1Read (10) Tryd.f31 [.str s, .int .i64 12] [] = some (.tup [.int .i64 (byteN s 0 - 48), .bool true], []) := by
  have h0 := hp
  unfold okD at h0
  have h1 := Bool.and_eq_true_iff.1 h0
  have h2 := Bool.and_eq_true_iff.1 h1.1
  have hs : s.size = 1 := of_decide_eq_true h2.1
  have hb : 48 ≤ byteN s 0 ∧ byteN s 0 ≤ 57 := of_decide_eq_true h2.2
  have ht := h1.2
  have h45 : (byteN s 0 == 45) = false := by
    rw [← Bool.not_eq_true, beq_iff_eq]
    omega
  have hn : (!((itoaB (byteN s 0 - 48)).toList == s.toList)) = false := by rw [ht]; rfl
  have h45' : (((s.data.toList.getD (Int.toNat 0) 0).toNat : Int) == 45) = false := h45
  conv => lhs; whnf
  repeat ((first | with_reducible apply br_tt | with_reducible apply br_ff | with_reducible apply br_nf | with_reducible apply br_nt | with_reducible refine br_d ?_ (by kernel_rfl) | with_reducible apply br_t h45' | with_reducible apply br_f h45' | with_reducible refine br_t (dt2 (by omega) (by omega)) ?_ | with_reducible refine br_t (dt (by omega)) ?_); conv => lhs; whnf)
  repeat ((first | with_reducible apply br_tt | with_reducible apply br_ff | with_reducible apply br_nf | with_reducible apply br_nt | with_reducible refine br_d ?_ (by kernel_rfl) | with_reducible refine br_t (dt (by omega)) ?_ | with_reducible refine br_f (df (by omega)) ?_ | with_reducible refine br_t (dt2 (by omega) (by omega)) ?_); conv => lhs; whnf)
  refine (lp_l1Read s hs hb _ _ 7).trans ?_
  conv => lhs; whnf
  repeat ((first | with_reducible apply br_tt | with_reducible apply br_ff | with_reducible apply br_nf | with_reducible apply br_nt | with_reducible refine br_d ?_ (by kernel_rfl) | with_reducible apply br_t h45' | with_reducible apply br_f h45'); conv => lhs; whnf)
  conv => lhs; arg 1; whnf
  refine bnd_g (by omega) ?_
  conv => lhs; whnf
  refine br_f (by exact hn) ?_
  conv => lhs; whnf
theorem ok_l1Read : FnOk Tryd.prog 31 K_l1Read := by
  refine fn_ok (fn := Tryd.f31) (k := Tryd.f31.ntmps) (E := E_l1Read) (facts_of (List.forall_mem_cons.2 ⟨ok_specFormatInt, List.forall_mem_nil _⟩)) (by kernel_rfl) rfl (by decide +kernel) (by decide +kernel) ?_
  intro avs hin r h
  unfold K_l1Read at h
  split at h
  · obtain ⟨hp, rfl⟩ := gd_o h
    exact ⟨_, ev_l1Read _ hp, rfl⟩
  · cases h

end Go.Sym
