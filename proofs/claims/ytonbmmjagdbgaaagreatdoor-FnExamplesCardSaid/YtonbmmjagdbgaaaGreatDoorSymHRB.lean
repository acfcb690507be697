/- Functions of the program, each told as a plain equation. -/
import Derived.Test.YtonbmmjagdbgaaaGreatDoorSymHRA
namespace Go.Sym
open Go.Proofs
set_option linter.unusedVariables false
set_option linter.unusedSimpArgs false
set_option maxRecDepth 100000
set_option maxHeartbeats 4000000

/-- The eleven words, put together. -/
def dscW (A B C D K R : ByteArray) : List ByteArray :=
  [⟨#[99, 111, 110, 99, 101, 112, 116, 115]⟩, A, ⟨#[101, 100, 103, 101, 115]⟩, B, ⟨#[104, 101, 105, 103, 104, 116]⟩, C, ⟨#[114, 117, 108, 101, 115]⟩, D, K, ⟨#[98, 97, 115, 101]⟩, R]
def dscT (A B C D K R : ByteArray) : ByteArray :=
  ((((((((((⟨#[99, 111, 110, 99, 101, 112, 116, 115, 32]⟩ ++ A) ++ ⟨#[32, 101, 100, 103, 101, 115, 32]⟩) ++ B) ++ ⟨#[32, 104, 101, 105, 103, 104, 116, 32]⟩) ++ C) ++ ⟨#[32, 114, 117, 108, 101, 115, 32]⟩) ++ D) ++ ⟨#[32]⟩) ++ K) ++ ⟨#[32, 98, 97, 115, 101, 32]⟩) ++ R
theorem dsc_join (A B C D K R : ByteArray) : joinB (dscW A B C D K R) ⟨#[32]⟩ = dscT A B C D K R := by
  unfold joinB dscW dscT
  apply ByteArray.ext
  apply Array.toList_inj.1
  simp [ByteArray.data_append, Lib.join_cons, Lib.joinTail]
theorem dsc_size (A B C D K R : ByteArray) : (dscT A B C D K R).size = A.size + B.size + C.size + D.size + K.size + R.size + 38 := by
  unfold dscT
  simp only [ByteArray.size_append]
  have h1 : (⟨#[99, 111, 110, 99, 101, 112, 116, 115, 32]⟩ : ByteArray).size = 9 := rfl
  have h2 : (⟨#[32, 101, 100, 103, 101, 115, 32]⟩ : ByteArray).size = 7 := rfl
  have h3 : (⟨#[32, 104, 101, 105, 103, 104, 116, 32]⟩ : ByteArray).size = 8 := rfl
  have h4 : (⟨#[32, 114, 117, 108, 101, 115, 32]⟩ : ByteArray).size = 7 := rfl
  have h5 : (⟨#[32]⟩ : ByteArray).size = 1 := rfl
  have h6 : (⟨#[32, 98, 97, 115, 101, 32]⟩ : ByteArray).size = 6 := rfl
  omega
theorem dsc_F {A B C D K R : ByteArray} (h : A.size + B.size + C.size + D.size + K.size + R.size ≤ 100000) : joinF (dscW A B C D K R) ⟨#[32]⟩ = dscT A B C D K R := by
  have := dsc_size A B C D K R
  unfold joinF
  rw [dsc_join, if_pos (by omega)]
def bstr (l : List UInt8) : ByteArray := ⟨l.toArray⟩
theorem bstr_app (l r : List UInt8) : bstr l ++ bstr r = bstr (l ++ r) := by
  apply ByteArray.ext
  rw [ByteArray.data_append]
  simp [bstr]
theorem bstr_size (l : List UInt8) : (bstr l).size = l.length := rfl
def digs (u : Nat) : List UInt8 := if u = 0 then [] else Lib.decDigits u
theorem digs_step {u : Nat} (h : u ≠ 0) : digs u = digs (u / 10) ++ [UInt8.ofNat (48 + u % 10)] := by
  unfold digs
  rw [if_neg h, Lib.decDigits]
  split
  · rename_i h1
    rw [if_pos (by omega), Nat.mod_eq_of_lt h1]
    rfl
  · rename_i h1
    rw [if_neg (by omega)]
theorem digs_len : ∀ (d u : Nat), u < 10 ^ d → (digs u).length ≤ d
  | 0, u, h => by
    have : u = 0 := by simpa using h
    subst this
    simp [digs]
  | d + 1, u, h => by
    by_cases h0 : u = 0
    · subst h0; simp [digs]
    · rw [digs_step h0, List.length_append]
      have := digs_len d (u / 10) (by rw [Nat.pow_succ] at h; omega)
      simp only [List.length_singleton]
      omega
theorem tdiv_abs (n : Int) : (n.tdiv 10).natAbs = n.natAbs / 10 := by
  rw [Int.natAbs_tdiv]; rfl
theorem tmod_abs (n : Int) : (n.tmod 10).natAbs = n.natAbs % 10 := by
  rw [Int.natAbs_tmod]; rfl
theorem byte_of {x : Nat} (h : x < 10) : intsStr [IntKind.u8.wrap (48 + (x : Int))] = bstr [UInt8.ofNat (48 + x)] := by
  have : ∀ x : Fin 10, [UInt8.ofNat (IntKind.u8.wrap (48 + (x.val : Int))).toNat] = [UInt8.ofNat (48 + x.val)] := by decide +kernel
  unfold intsStr bstr
  rw [List.map_cons, List.map_nil, this ⟨x, h⟩]
theorem itoa_digs {n : Int} (h : n ≠ 0) : itoaB n = bif decide (n < 0) then bstr [45] ++ bstr (digs n.natAbs) else bstr (digs n.natAbs) := by
  have h0 : n.natAbs ≠ 0 := by omega
  unfold itoaB Lib.itoa digs
  rw [if_neg h0]
  by_cases hn : n < 0
  · rw [if_pos hn, decide_eq_true hn, cond_true, bstr_app]
    rfl
  · rw [if_neg hn, decide_eq_false hn, cond_false]
    have : n.toNat = n.natAbs := by omega
    rw [this]
    rfl
theorem itoa_zero : itoaB 0 = bstr [48] := by
  unfold itoaB Lib.itoa
  rw [if_neg (by decide), Lib.decDigits]
  rfl
theorem itoa_len {n : Int} (h0 : -9223372036854775808 ≤ n) (h1 : n ≤ 9223372036854775807) : (itoaB n).size ≤ 20 := by
  by_cases h : n = 0
  · subst h; rw [itoa_zero]; decide
  · rw [itoa_digs h]
    have hd := digs_len 19 n.natAbs (by omega)
    cases decide (n < 0)
    · rw [cond_false, bstr_size]; omega
    · rw [cond_true, bstr_app, bstr_size, List.length_append, List.length_singleton]; omega
theorem bstr_nil (s : ByteArray) : bstr [] ++ s = s := by
  apply ByteArray.ext
  rw [ByteArray.data_append]
  simp [bstr]
theorem digs_zero : digs 0 = [] := rfl
theorem digit_pos {x : Int} (h : 0 ≤ x.tmod 10) : intsStr [IntKind.u8.wrap (IntKind.i64.wrap (48 + x.tmod 10))] = bstr [UInt8.ofNat (48 + x.natAbs % 10)] := by
  have e := tmod_abs x
  have e2 : x.tmod 10 = ((x.natAbs % 10 : Nat) : Int) := by omega
  rw [e2, wrap64 (by omega) (by omega)]
  exact byte_of (Nat.mod_lt _ (by omega))
theorem digit_neg {x : Int} (h : ¬ 0 ≤ x.tmod 10) : intsStr [IntKind.u8.wrap (IntKind.i64.wrap (48 + IntKind.i64.wrap (0 - x.tmod 10)))] = bstr [UInt8.ofNat (48 + x.natAbs % 10)] := by
  have e := tmod_abs x
  have e2 : 0 - x.tmod 10 = ((x.natAbs % 10 : Nat) : Int) := by omega
  rw [e2, wrap64 (n := ((x.natAbs % 10 : Nat) : Int)) (by omega) (by omega), wrap64 (by omega) (by omega)]
  exact byte_of (Nat.mod_lt _ (by omega))
def rngB (a : List Int) : Bool := a.all (fun n => decide (-9223372036854775808 ≤ n ∧ n ≤ 9223372036854775807))
theorem rngB_at {a : List Int} (h : rngB a = true) {i : Nat} (hi : i < a.length) : -9223372036854775808 ≤ a.getD i 0 ∧ a.getD i 0 ≤ 9223372036854775807 := of_decide_eq_true (List.all_eq_true.1 h _ (mem_getD hi))
theorem rngB_of {a : List Int} (h : ∀ y ∈ a, (Lit.int .i64 y).wf = true) : rngB a = true := by
  unfold rngB
  rw [List.all_eq_true]
  intro y hy
  have := h y hy
  unfold Lit.wf at this
  simp only [Bool.and_eq_true, decide_eq_true_eq] at this
  exact dt this
def dscF (m : Int) (b : List Int) : ByteArray := bif isCtx m b then dscT (itoaB ((concF m b).length : Int)) (itoaB (edgF m b)) (itoaB (hgtF m b)) (itoaB ((stemR m b).length : Int)) (kindF m b) (rulesT (stemR m b)) else ⟨#[]⟩
theorem stemR_le (m : Int) (b : List Int) : (stemR m b).length ≤ 64 := by
  unfold stemR
  rw [List.length_map]
  exact stemI_len m b
theorem kind_size (m : Int) (b : List Int) : (kindF m b).size ≤ 12 := by
  have key : ∀ x1 x2 x3 x4 x5 : Bool, (bif x1 then (⟨#[]⟩ : ByteArray) else bif x2 then ⟨#[98, 111, 111, 108, 101, 97, 110]⟩ else bif x3 then ⟨#[99, 104, 97, 105, 110]⟩ else bif x4 then ⟨#[100, 105, 115, 116, 114, 105, 98, 117, 116, 105, 118, 101]⟩ else bif x5 then ⟨#[109, 111, 100, 117, 108, 97, 114]⟩ else ⟨#[111, 116, 104, 101, 114]⟩).size ≤ 12 := by decide
  exact key _ _ _ _ _
theorem stem_okRs {m : Int} {b : List Int} (h : isCtx m b = true) : okRs (stemR m b) = true := by
  have hl := isCtx_len h
  unfold okRs
  rw [List.all_eq_true]
  intro r hr
  obtain ⟨s, hs, rfl⟩ := List.mem_map.1 hr
  have hsm := ctx_small h
  have h1 := stemI_mem (by omega) hs
  have hpw : 2 ^ m.toNat ≤ 2 ^ 6 := Nat.pow_le_pow_right (by omega) (by omega)
  have hx := extF_spec hl.1 hsm (s := s.toNat) (by omega)
  rw [Int.toNat_of_nonneg h1.1] at hx
  have hi := intentF_spec (m := m) ⟨hl.2.1, by omega⟩ hl.1 hsm (t := extF b s) (by rw [isSet8]; exact dt ⟨hx.1, hx.2.1⟩)
  rw [isSet8, isSet8, dt (show 0 ≤ s ∧ s ≤ 255 by omega), dt (show 0 ≤ intentF m b (extF b s) ∧ intentF m b (extF b s) ≤ 255 from ⟨hi.1, hi.2.1⟩)]
  rfl
theorem edg_rng (m : Int) (b : List Int) : 0 ≤ edgF m b ∧ edgF m b ≤ 4096 := by
  have hl := concF_len m b
  have key : ∀ (d i : Nat) (q : Int), 0 ≤ q → q + d * 64 ≤ 100000 → 0 ≤ edgL (concF m b) d i q ∧ edgL (concF m b) d i q ≤ q + d * 64 := by
    intro d
    induction d with
    | zero => intro i q h0 h1; rw [edgL]; omega
    | succ d ih =>
      intro i q h0 h1
      have hu := upL_len (concF m b) i
      have hw : IntKind.i64.wrap (q + ((upL (concF m b) i).length : Int)) = q + ((upL (concF m b) i).length : Int) := wrap64 (by omega) (by omega)
      rw [edgL, hw]
      have := ih (i + 1) (q + ((upL (concF m b) i).length : Int)) (by omega) (by push_cast at h1 ⊢; omega)
      push_cast at this ⊢
      omega
  have := key (concF m b).length 0 0 (by omega) (by omega)
  unfold edgF
  omega
def K_itoaX : List AV → List Ob → Option (AV × List Ob)
  | [.int .i64 n], [] => gd (-9223372036854775808 ≤ n ∧ n ≤ 9223372036854775807) (.str (itoaB n), [])
  | _, _ => none
theorem ok_itoaX : FnOk Tryz.prog 129 K_itoaX := by
  refine ⟨⟨Tryz.f129, by kernel_rfl, by kernel_rfl, by kernel_rfl⟩, fun avs hin r hout hk C L vs hH hm hA => ?_⟩
  unfold K_itoaX at hk
  split at hk
  · obtain ⟨h1, he⟩ := gd_o hk
    cases he
    exact itoa_calls Tryz.layItoa (by first | exact List.Mem.head _ | exact List.Mem.tail _ (List.Mem.head _)) (by kernel_rfl) h1.1 h1.2 hH hA
  · cases hk

/- impl.FormatInt -/
def K_implFormatInt : List AV → List Ob → Option (AV × List Ob)
  | [.int .i64 n], [] => gd (-9223372036854775808 ≤ n ∧ n ≤ 9223372036854775807) (.str (itoaB n), [])
  | _, _ => none
@[reducible] def E_implFormatInt : Env := mkE (tb [(129, K_itoaX)]) (fun f => false) (fun r => ([], []))
theorem ev_implFormatInt (n : Int) (hp : -9223372036854775808 ≤ n ∧ n ≤ 9223372036854775807) : evF E_implFormatInt (1) Tryz.f69 [.int .i64 n] [] = some (.str (itoaB n), []) := by
  conv => lhs; whnf
  conv => lhs; arg 1; whnf
  refine bnd_g (by exact hp) ?_
  conv => lhs; whnf
theorem ok_implFormatInt : FnOk Tryz.prog 69 K_implFormatInt := by
  refine fn_ok (fn := Tryz.f69) (k := Tryz.f69.ntmps) (E := E_implFormatInt) (facts_of (List.forall_mem_cons.2 ⟨ok_itoaX, List.forall_mem_nil _⟩)) (by kernel_rfl) rfl (by decide +kernel) (by decide +kernel) ?_
  intro avs hin r h
  unfold K_implFormatInt at h
  split at h
  · obtain ⟨hp, rfl⟩ := gd_o h
    exact ⟨_, ev_implFormatInt _ hp, rfl⟩
  · cases h

/- impl.DescribeContext -/
def K_implDescribe : List AV → List Ob → Option (AV × List Ob)
  | [.agg [.int .i64 m, .lst (.int .i64) b]], [] => gd (b.length ≤ 1048576) (.str (dscF m b), [])
  | _, _ => none
@[reducible] def E_implDescribe : Env := mkE (tb [(38, K_implIsContext), (67, K_implStem), (70, K_countConcepts), (69, K_implFormatInt), (71, K_implCountEdges), (72, K_implHeightOf), (34, K_implKindName), (73, K_implRulesText), (68, K_implJoin)]) (fun f => false) (fun r => ([], []))
theorem ev_implDescribe (m : Int) (b : List Int) (hp : b.length ≤ 1048576) : evF E_implDescribe (1) Tryz.f24 [.agg [.int .i64 m, .lst (.int .i64) b]] [] = some (.str (dscF m b), []) := by
  have hcl := concF_len m b
  have hed := edg_rng m b
  have hhg := hgt_rng m b
  have hsl := stemR_le m b
  have z1 := itoa_len (n := ((concF m b).length : Int)) (by omega) (by omega)
  have z2 := itoa_len (n := edgF m b) (by omega) (by omega)
  have z3 := itoa_len (n := hgtF m b) (by omega) (by omega)
  have z4 := itoa_len (n := ((stemR m b).length : Int)) (by omega) (by omega)
  have z5 := kind_size m b
  have z6 := rulesT_size hsl
  conv => lhs; whnf
  conv => lhs; arg 1; whnf
  refine bnd_g (by omega) ?_
  conv => lhs; whnf
  refine br_c (fun h => ?_) (fun h => ?_)
  · have h' := bnt h
    have e : dscF m b = ⟨#[]⟩ := by unfold dscF; rw [h']; rfl
    rw [e]
    conv => lhs; whnf
  · have h' := bnf h
    have hrs := stem_okRs h'
    have e : dscF m b = dscT (itoaB ((concF m b).length : Int)) (itoaB (edgF m b)) (itoaB (hgtF m b)) (itoaB ((stemR m b).length : Int)) (kindF m b) (rulesT (stemR m b)) := by unfold dscF; rw [h']; rfl
    have ej := dsc_F (A := itoaB ((concF m b).length : Int)) (B := itoaB (edgF m b)) (C := itoaB (hgtF m b)) (D := itoaB ((stemR m b).length : Int)) (K := kindF m b) (R := rulesT (stemR m b)) (by omega)
    have eok : okTxt (dscW (itoaB ((concF m b).length : Int)) (itoaB (edgF m b)) (itoaB (hgtF m b)) (itoaB ((stemR m b).length : Int)) (kindF m b) (rulesT (stemR m b))) = true := by
      unfold dscW okTxt
      simp only [List.all_cons, List.all_nil, Bool.and_true, Bool.and_eq_true, decide_eq_true_eq]
      refine ⟨by decide, by omega, by decide, by omega, by decide, by omega, by decide, by omega, by omega, by decide, by omega⟩
    rw [e, ← ej]
    conv => lhs; whnf
    conv => lhs; arg 1; whnf
    refine bnd_g (by exact h') ?_
    conv => lhs; whnf
    conv => lhs; arg 1; whnf
    refine bnd_g (by omega) ?_
    conv => lhs; whnf
    conv => lhs; arg 1; whnf
    refine bnd_g (by omega) ?_
    conv => lhs; whnf
    conv => lhs; arg 1; whnf
    refine bnd_g (by omega) ?_
    conv => lhs; whnf
    conv => lhs; arg 1; whnf
    refine bnd_g (by omega) ?_
    conv => lhs; whnf
    conv => lhs; arg 1; whnf
    refine bnd_g (by omega) ?_
    conv => lhs; whnf
    conv => lhs; arg 1; whnf
    refine bnd_g (by omega) ?_
    conv => lhs; whnf
    conv => lhs; arg 1; whnf
    refine bnd_g (by omega) ?_
    conv => lhs; whnf
    conv => lhs; arg 1; whnf
    refine bnd_g (by omega) ?_
    conv => lhs; whnf
    conv => lhs; arg 1; whnf
    refine bnd_g (by exact ⟨hsl, hrs⟩) ?_
    conv => lhs; whnf
    conv => lhs; arg 1; whnf
    refine bnd_g (by exact ⟨by simp, eok, by decide⟩) ?_
    conv => lhs; whnf
    repeat ((first | with_reducible apply br_tt | with_reducible apply br_ff | with_reducible apply br_nf | with_reducible apply br_nt | with_reducible refine br_d ?_ (by kernel_rfl)); conv => lhs; whnf)
    rfl
theorem ok_implDescribe : FnOk Tryz.prog 24 K_implDescribe := by
  refine fn_ok (fn := Tryz.f24) (k := Tryz.f24.ntmps) (E := E_implDescribe) (facts_of (List.forall_mem_cons.2 ⟨(FnOk.soft (fun h => False.elim h) ok_implIsContext), List.forall_mem_cons.2 ⟨(FnOk.soft (fun h => False.elim h) ok_implStem), List.forall_mem_cons.2 ⟨(FnOk.soft (fun h => False.elim h) ok_countConcepts), List.forall_mem_cons.2 ⟨ok_implFormatInt, List.forall_mem_cons.2 ⟨(FnOk.soft (fun h => False.elim h) ok_implCountEdges), List.forall_mem_cons.2 ⟨(FnOk.soft (fun h => False.elim h) ok_implHeightOf), List.forall_mem_cons.2 ⟨(FnOk.soft (fun h => False.elim h) ok_implKindName), List.forall_mem_cons.2 ⟨ok_implRulesText, List.forall_mem_cons.2 ⟨ok_implJoin, List.forall_mem_nil _⟩⟩⟩⟩⟩⟩⟩⟩⟩)) (by kernel_rfl) rfl (by decide +kernel) (by decide +kernel) ?_
  intro avs hin r h
  unfold K_implDescribe at h
  split at h
  · obtain ⟨hp, rfl⟩ := gd_o h
    exact ⟨_, ev_implDescribe _ _ hp, rfl⟩
  · cases h

/- spec.FormatInt -/
def K_specFormatInt : List AV → List Ob → Option (AV × List Ob)
  | [.int .i64 n], [] => gd (-9223372036854775808 ≤ n ∧ n ≤ 9223372036854775807) (.str (itoaB n), [])
  | _, _ => none
@[reducible] def E_specFormatInt : Env := mkE (tb []) (fun f => false) (fun r => bif r == 5 then ([0, 3, 4], [3, 4]) else ([], []))
theorem lp_specFormatInt (f : Bool) (k : AX → S → Option (AV × List Ob)) (d : Nat) : ∀ (n : Nat) (x : Int) (out : ByteArray), x.natAbs < 10 ^ d → d < n → out.size + d ≤ 100 → -9223372036854775808 ≤ x → x ≤ 9223372036854775807 →
    lpAt E_specFormatInt (lp E_specFormatInt 0 n) 0 (loopAt Tryz.f62 0) (mkS [0, 3, 4] [.int .i64 x, .bool f, .str out] []) k =
      k (.exit 0) (mkS [3, 4] [.bool f, .str (bstr (digs x.natAbs) ++ out)] []) := by
  induction d with
  | zero =>
    intro n x out hx hn hz h0 h1
    have : x = 0 := by
      have : x.natAbs < 1 := hx
      omega
    subst this
    obtain ⟨n, rfl⟩ : ∃ m, n = m + 1 := ⟨n - 1, by omega⟩
    rw [lpAt_def]
    conv => lhs; whnf
    refine br_f (by rfl) ?_
    conv => lhs; whnf
    rw [show (0 : Int).natAbs = 0 from rfl, digs_zero, bstr_nil]
  | succ d ih =>
    intro n x out hx hn hz h0 h1
    obtain ⟨n, rfl⟩ : ∃ m, n = m + 1 := ⟨n - 1, by omega⟩
    have hq := tdiv_abs x
    have hqd : (x.tdiv 10).natAbs < 10 ^ d := by
      rw [hq]
      rw [Nat.pow_succ] at hx
      omega
    have hwq : IntKind.i64.wrap (x.tdiv 10) = x.tdiv 10 := wrap64 (by omega) (by omega)
    rw [lpAt_def]
    conv => lhs; whnf
    refine br_c (fun h => ?_) (fun h => ?_)
    · have h' : (x != 0) = true := h
      have hne : x.natAbs ≠ 0 := by
        have : x ≠ 0 := by simpa using h'
        omega
      have hsz : ∀ v : ByteArray, v = bstr [UInt8.ofNat (48 + x.natAbs % 10)] → (v ++ out).size = 1 + out.size := fun v hv => by rw [hv, ByteArray.size_append]; rfl
      conv => lhs; whnf
      refine br_f (df (by omega)) ?_
      conv => lhs; whnf
      refine br_c (fun h2 => ?_) (fun h2 => ?_)
      · have h2' : ¬ 0 ≤ x.tmod 10 := by
          have := ofd h2
          have : x.tmod 10 < 0 := this
          omega
        have e := digit_neg h2'
        conv => lhs; whnf
        refine br_t (by (refine dt ?_; change (intsStr [IntKind.u8.wrap (IntKind.i64.wrap (48 + IntKind.i64.wrap (0 - x.tmod 10)))]).size + out.size ≤ 9223372036854775807; rw [e]; show 1 + out.size ≤ _; omega)) ?_
        conv => lhs; whnf
        refine br_f (df (by omega)) ?_
        conv => lhs; whnf
        refine Eq.trans (ih n _ _ (by rw [hwq]; exact hqd) (by omega) (by rw [hsz _ e]; omega) (by rw [hwq]; omega) (by rw [hwq]; omega)) ?_
        rw [hwq, hq]
        have e3 : bstr (digs (x.natAbs / 10)) ++ (intsStr [IntKind.u8.wrap (IntKind.i64.wrap (48 + IntKind.i64.wrap (0 - x.tmod 10)))] ++ out) = bstr (digs x.natAbs) ++ out := by rw [e, ← ByteArray.append_assoc, bstr_app, ← digs_step hne]
        rw [← e3]
      · have h2' : 0 ≤ x.tmod 10 := by
          have := ofn h2
          have : ¬ x.tmod 10 < 0 := this
          omega
        have e := digit_pos h2'
        conv => lhs; whnf
        refine br_t (by (refine dt ?_; change (intsStr [IntKind.u8.wrap (IntKind.i64.wrap (48 + x.tmod 10))]).size + out.size ≤ 9223372036854775807; rw [e]; show 1 + out.size ≤ _; omega)) ?_
        conv => lhs; whnf
        refine br_f (df (by omega)) ?_
        conv => lhs; whnf
        refine Eq.trans (ih n _ _ (by rw [hwq]; exact hqd) (by omega) (by rw [hsz _ e]; omega) (by rw [hwq]; omega) (by rw [hwq]; omega)) ?_
        rw [hwq, hq]
        have e3 : bstr (digs (x.natAbs / 10)) ++ (intsStr [IntKind.u8.wrap (IntKind.i64.wrap (48 + x.tmod 10))] ++ out) = bstr (digs x.natAbs) ++ out := by rw [e, ← ByteArray.append_assoc, bstr_app, ← digs_step hne]
        rw [← e3]
    · have h' : (x != 0) = false := h
      have : x = 0 := by simpa using h'
      subst this
      conv => lhs; whnf
      rw [show (0 : Int).natAbs = 0 from rfl, digs_zero, bstr_nil]
theorem ev_specFormatInt (n : Int) (hp : -9223372036854775808 ≤ n ∧ n ≤ 9223372036854775807) : evF E_specFormatInt (40) Tryz.f62 [.int .i64 n] [] = some (.str (itoaB n), []) := by
  conv => lhs; whnf
  refine br_c (fun h => ?_) (fun h => ?_)
  · have h' : (n == 0) = true := h
    have : n = 0 := by simpa using h'
    subst this
    conv => lhs; whnf
    rw [itoa_zero]
    rfl
  · have h' : (n == 0) = false := h
    have hne : n ≠ 0 := by simpa using h'
    have hd := digs_len 19 n.natAbs (by omega)
    conv => lhs; whnf
    refine (lp_specFormatInt _ _ 19 _ n ⟨#[]⟩ (by omega) (by change 19 < 39; omega) (by decide) hp.1 hp.2).trans ?_
    have e : bstr (digs n.natAbs) ++ (⟨#[]⟩ : ByteArray) = bstr (digs n.natAbs) := by
      have := bstr_app (digs n.natAbs) []
      rw [List.append_nil] at this
      exact this
    rw [e, itoa_digs hne]
    conv => lhs; whnf
    refine br_c (fun h2 => ?_) (fun h2 => ?_)
    · have h2' : decide (n < 0) = true := h2
      rw [h2', cond_true]
      conv => lhs; whnf
      refine br_t (by (refine dt ?_; change (1 : Nat) + (bstr (digs n.natAbs)).size ≤ 9223372036854775807; rw [bstr_size]; omega)) ?_
      conv => lhs; whnf
      rfl
    · have h2' : decide (n < 0) = false := h2
      rw [h2', cond_false]
      conv => lhs; whnf
theorem ok_specFormatInt : FnOk Tryz.prog 62 K_specFormatInt := by
  refine fn_ok (fn := Tryz.f62) (k := Tryz.f62.ntmps) (E := E_specFormatInt) (facts_of (List.forall_mem_nil _)) (by kernel_rfl) rfl (by decide +kernel) (by decide +kernel) ?_
  intro avs hin r h
  unfold K_specFormatInt at h
  split at h
  · obtain ⟨hp, rfl⟩ := gd_o h
    exact ⟨_, ev_specFormatInt _ hp, rfl⟩
  · cases h

/- spec.DescribeContext -/
def K_specDescribe : List AV → List Ob → Option (AV × List Ob)
  | [.agg [.int .i64 m, .lst (.int .i64) b]], [] => gd (b.length ≤ 1048576) (.str (dscF m b), [])
  | _, _ => none
@[reducible] def E_specDescribe : Env := mkE (tb [(60, K_specIsContext), (61, K_specStem), (20, K_specCountConcepts), (62, K_specFormatInt), (63, K_specCountEdges), (64, K_specHeightOf), (35, K_specKindName), (65, K_specRulesText)]) (fun f => false) (fun r => ([], []))
theorem ev_specDescribe (m : Int) (b : List Int) (hp : b.length ≤ 1048576) : evF E_specDescribe (1) Tryz.f22 [.agg [.int .i64 m, .lst (.int .i64) b]] [] = some (.str (dscF m b), []) := by
  have hcl := concF_len m b
  have hed := edg_rng m b
  have hhg := hgt_rng m b
  have hsl := stemR_le m b
  have z1 := itoa_len (n := ((concF m b).length : Int)) (by omega) (by omega)
  have z2 := itoa_len (n := edgF m b) (by omega) (by omega)
  have z3 := itoa_len (n := hgtF m b) (by omega) (by omega)
  have z4 := itoa_len (n := ((stemR m b).length : Int)) (by omega) (by omega)
  have z5 := kind_size m b
  have z6 := rulesT_size hsl
  have q1 : (⟨#[99, 111, 110, 99, 101, 112, 116, 115, 32]⟩ : ByteArray).size = 9 := rfl
  have q2 : (⟨#[32, 101, 100, 103, 101, 115, 32]⟩ : ByteArray).size = 7 := rfl
  have q3 : (⟨#[32, 104, 101, 105, 103, 104, 116, 32]⟩ : ByteArray).size = 8 := rfl
  have q4 : (⟨#[32, 114, 117, 108, 101, 115, 32]⟩ : ByteArray).size = 7 := rfl
  have q5 : (⟨#[32]⟩ : ByteArray).size = 1 := rfl
  have q6 : (⟨#[32, 98, 97, 115, 101, 32]⟩ : ByteArray).size = 6 := rfl
  conv => lhs; whnf
  conv => lhs; arg 1; whnf
  refine bnd_g (by omega) ?_
  conv => lhs; whnf
  refine br_c (fun h => ?_) (fun h => ?_)
  · have h' := bnt h
    have e : dscF m b = ⟨#[]⟩ := by unfold dscF; rw [h']; rfl
    rw [e]
    conv => lhs; whnf
  · have h' := bnf h
    have hrs := stem_okRs h'
    have e : dscF m b = dscT (itoaB ((concF m b).length : Int)) (itoaB (edgF m b)) (itoaB (hgtF m b)) (itoaB ((stemR m b).length : Int)) (kindF m b) (rulesT (stemR m b)) := by unfold dscF; rw [h']; rfl
    rw [e]
    conv => lhs; whnf
    conv => lhs; arg 1; whnf
    refine bnd_g (by exact h') ?_
    conv => lhs; whnf
    conv => lhs; arg 1; whnf
    refine bnd_g (by omega) ?_
    conv => lhs; whnf
    conv => lhs; arg 1; whnf
    refine bnd_g (by omega) ?_
    conv => lhs; whnf
    refine br_t (dt (by first | omega | (simp only [ByteArray.size_append]; omega))) ?_
    conv => lhs; whnf
    refine br_t (dt (by first | omega | (simp only [ByteArray.size_append]; omega))) ?_
    conv => lhs; whnf
    conv => lhs; arg 1; whnf
    refine bnd_g (by omega) ?_
    conv => lhs; whnf
    conv => lhs; arg 1; whnf
    refine bnd_g (by omega) ?_
    conv => lhs; whnf
    refine br_t (dt (by first | omega | (simp only [ByteArray.size_append]; omega))) ?_
    conv => lhs; whnf
    refine br_t (dt (by first | omega | (simp only [ByteArray.size_append]; omega))) ?_
    conv => lhs; whnf
    conv => lhs; arg 1; whnf
    refine bnd_g (by omega) ?_
    conv => lhs; whnf
    conv => lhs; arg 1; whnf
    refine bnd_g (by omega) ?_
    conv => lhs; whnf
    refine br_t (dt (by first | omega | (simp only [ByteArray.size_append]; omega))) ?_
    conv => lhs; whnf
    refine br_t (dt (by first | omega | (simp only [ByteArray.size_append]; omega))) ?_
    conv => lhs; whnf
    conv => lhs; arg 1; whnf
    refine bnd_g (by omega) ?_
    conv => lhs; whnf
    refine br_t (dt (by first | omega | (simp only [ByteArray.size_append]; omega))) ?_
    conv => lhs; whnf
    refine br_t (dt (by first | omega | (simp only [ByteArray.size_append]; omega))) ?_
    conv => lhs; whnf
    conv => lhs; arg 1; whnf
    refine bnd_g (by omega) ?_
    conv => lhs; whnf
    refine br_t (dt (by first | omega | (simp only [ByteArray.size_append]; omega))) ?_
    conv => lhs; whnf
    refine br_t (dt (by first | omega | (simp only [ByteArray.size_append]; omega))) ?_
    conv => lhs; whnf
    conv => lhs; arg 1; whnf
    refine bnd_g (by exact ⟨hsl, hrs⟩) ?_
    conv => lhs; whnf
    refine br_t (dt (by first | omega | (simp only [ByteArray.size_append]; omega))) ?_
    conv => lhs; whnf
    repeat ((first | with_reducible apply br_tt | with_reducible apply br_ff | with_reducible apply br_nf | with_reducible apply br_nt | with_reducible refine br_d ?_ (by kernel_rfl)); conv => lhs; whnf)
    all_goals rfl
theorem ok_specDescribe : FnOk Tryz.prog 22 K_specDescribe := by
  refine fn_ok (fn := Tryz.f22) (k := Tryz.f22.ntmps) (E := E_specDescribe) (facts_of (List.forall_mem_cons.2 ⟨(FnOk.soft (fun h => False.elim h) ok_specIsContext), List.forall_mem_cons.2 ⟨(FnOk.soft (fun h => False.elim h) ok_specStem), List.forall_mem_cons.2 ⟨(FnOk.soft (fun h => False.elim h) ok_specCountConcepts), List.forall_mem_cons.2 ⟨ok_specFormatInt, List.forall_mem_cons.2 ⟨(FnOk.soft (fun h => False.elim h) ok_specCountEdges), List.forall_mem_cons.2 ⟨(FnOk.soft (fun h => False.elim h) ok_specHeightOf), List.forall_mem_cons.2 ⟨(FnOk.soft (fun h => False.elim h) ok_specKindName), List.forall_mem_cons.2 ⟨ok_specRulesText, List.forall_mem_nil _⟩⟩⟩⟩⟩⟩⟩⟩)) (by kernel_rfl) rfl (by decide +kernel) (by decide +kernel) ?_
  intro avs hin r h
  unfold K_specDescribe at h
  split at h
  · obtain ⟨hp, rfl⟩ := gd_o h
    exact ⟨_, ev_specDescribe _ _ hp, rfl⟩
  · cases h

end Go.Sym
