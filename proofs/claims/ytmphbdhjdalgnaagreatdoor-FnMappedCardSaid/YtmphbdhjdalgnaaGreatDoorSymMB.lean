/- Functions of the program, each told as a plain equation. -/
import Derived.Test.YtmphbdhjdalgnaaGreatDoorSymMA
namespace Go.Sym
open Go.Proofs
set_option linter.unusedVariables false
set_option linter.unusedSimpArgs false
set_option maxRecDepth 100000
set_option maxHeartbeats 4000000

theorem concF_pos {m : Int} {a : List Int} (h : isCtx m a = true) : 0 < (concF m a).length := by
  obtain ⟨p, q, _, h2⟩ := concF_start h
  rw [h2]
  simp [rowN]
theorem concF_nil {m : Int} {a : List Int} (h : isCtx m a = false) : concF m a = [] := by
  unfold concF
  rw [h]; rfl
def fmC (X Y : CL) (u v : List Int) (r : Option (List Int)) : Option (List Int) :=
  bif ((X.length : Int) == 0) then none else bif ((X.length : Int) != (Y.length : Int)) then none else bif decide ((X.length : Int) > 24) then none else bif !(decide (u = v)) then none else r
def fmF (m : Int) (a : List Int) (n : Int) (b : List Int) : Option (List Int) := fmC (concF m a) (concF n b) (profF m a) (profF n b) (fndR (concF m a).length (concF n b).length (oks1 (concF m a) (concF n b) (marksL (concF m a) (concF m a).length 0) (marksL (concF n b) (concF n b).length 0)) 64 [])
theorem fmF_len (m : Int) (a : List Int) (n : Int) (b : List Int) : ((fmF m a n b).getD []).length ≤ 64 := by
  have hl := concF_len m a
  unfold fmF fmC
  cases ((concF m a).length : Int) == 0
  · rw [cond_false]
    cases ((concF m a).length : Int) != (concF n b).length
    · rw [cond_false]
      cases decide (((concF m a).length : Int) > 24)
      · rw [cond_false]
        cases !(decide (profF m a = profF n b))
        · rw [cond_false]
          cases hf : fndR (concF m a).length (concF n b).length (oks1 (concF m a) (concF n b) (marksL (concF m a) (concF m a).length 0) (marksL (concF n b) (concF n b).length 0)) 64 [] with
          | none => exact Nat.zero_le _
          | some z => have := fnd_len _ _ _ hf; show z.length ≤ 64; omega
        · exact Nat.zero_le _
      · exact Nat.zero_le _
    · exact Nat.zero_le _
  · exact Nat.zero_le _
theorem preF0 (m : Int) (a : List Int) (n : Int) (b : List Int) : preF (concF m a) (concF n b) (marksL (concF m a) (concF m a).length 0) (marksL (concF n b) (concF n b).length 0) [] 64 :=
  ⟨⟨⟨concF_len m a, concF_len n b⟩, marksL_len _ _ _, marksL_len _ _ _⟩, ⟨Nat.zero_le _, by have := concF_len m a; simp only [List.length_nil]; omega⟩, rfl⟩
theorem fm_0 {X Y : CL} {u v : List Int} {r : Option (List Int)} (h : ((X.length : Int) == 0) = true) : fmC X Y u v r = none := by unfold fmC; rw [h]; rfl
theorem fm_1 {X Y : CL} {u v : List Int} {r : Option (List Int)} (h : ((X.length : Int) != (Y.length : Int)) = true) : fmC X Y u v r = none := by
  unfold fmC; rw [h]
  cases ((X.length : Int) == 0) <;> rfl
theorem fm_2 {X Y : CL} {u v : List Int} {r : Option (List Int)} (h : decide ((X.length : Int) > 24) = true) : fmC X Y u v r = none := by
  unfold fmC; rw [h]
  cases ((X.length : Int) == 0) <;> cases ((X.length : Int) != (Y.length : Int)) <;> rfl
theorem fm_3 {X Y : CL} {u v : List Int} {r : Option (List Int)} (h : (!(decide (u = v))) = true) : fmC X Y u v r = none := by
  unfold fmC; rw [h]
  cases ((X.length : Int) == 0) <;> cases ((X.length : Int) != (Y.length : Int)) <;> cases decide ((X.length : Int) > 24) <;> rfl
theorem fm_4 {X Y : CL} {u v : List Int} {r : Option (List Int)} (h0 : ((X.length : Int) == 0) = false) (h1 : ((X.length : Int) != (Y.length : Int)) = false) (h2 : decide ((X.length : Int) > 24) = false) (h3 : (!(decide (u = v))) = false) : fmC X Y u v r = r := by
  unfold fmC; rw [h0, h1, h2, h3]; rfl
theorem fm_c {m : Int} {a : List Int} {Y : CL} {u v : List Int} {r : Option (List Int)} (h : isCtx m a = false) : fmC (concF m a) Y u v r = none := fm_0 (by rw [concF_nil h]; rfl)
theorem fm_d {n : Int} {b : List Int} {X : CL} {u v : List Int} {r : Option (List Int)} (h : isCtx n b = false) : fmC X (concF n b) u v r = none := by
  cases h0 : ((X.length : Int) == 0) with
  | true => exact fm_0 h0
  | false => exact fm_1 (by rw [concF_nil h]; unfold bne; show (!((X.length : Int) == 0)) = true; rw [h0]; rfl)
/- spec.Concepts -/
def K_specConF : List AV → List Ob → Option (AV × List Ob)
  | [.agg [.int .i64 m, .lst (.int .i64) a]], [] => gd (a.length ≤ 1048576) (.lst (.pair (.int .i64) (.int .i64)) (concF m a), [])
  | _, _ => none
theorem ok_specConF : FnOk Tryz.prog 26 K_specConF := by
  refine FnOk.le (FnOk.frz ok_specConcepts) (fun avs hin p h => ?_)
  unfold K_specConF at h
  split at h
  · obtain ⟨hp, rfl⟩ := gd_o h
    refine Eq.trans (frz_s (K := K_specConcepts) (p := ?p) ?hq) ?hr
    case hq => exact gd_s hp
    case hr => rfl
  · cases h

/- spec.l1Bit -/
def K_l1Bit : List AV → List Ob → Option (AV × List Ob)
  | [.bool x], [] => gd (True) (.int .i64 (bif x then 1 else 0), [])
  | _, _ => none
@[reducible] def E_l1Bit : Env := mkE (tb []) (fun f => false) (fun r => ([], []))
theorem ev_l1Bit (x : Bool) (hp : True) : evF E_l1Bit (1) Tryz.f58 [.bool x] [] = some (.int .i64 (bif x then 1 else 0), []) := by
  conv => lhs; whnf
  refine br_c (fun h => ?_) (fun h => ?_)
  · conv => lhs; whnf
    rw [h]
    rfl
  · conv => lhs; whnf
    rw [h]
    rfl
theorem ok_l1Bit : FnOk Tryz.prog 58 K_l1Bit := by
  refine fn_ok (fn := Tryz.f58) (k := Tryz.f58.ntmps) (E := E_l1Bit) (facts_of (List.forall_mem_nil _)) (by kernel_rfl) rfl (by decide +kernel) (by decide +kernel) ?_
  intro avs hin r h
  unfold K_l1Bit at h
  split at h
  · obtain ⟨hp, rfl⟩ := gd_o h
    exact ⟨_, ev_l1Bit _ hp, rfl⟩
  · cases h

/- spec.l23Marks -/
def K_l23Marks : List AV → List Ob → Option (AV × List Ob)
  | [.lst (.pair (.int .i64) (.int .i64)) l], [] => gd (l.length ≤ 64) (.own 0, [.row 3 (.int .i64) (marksL l l.length 0)])
  | _, _ => none
@[reducible] def E_l23Marks : Env := mkE (tb [(35, K_l6Under), (58, K_l1Bit)]) (fun f => false) (fun r => bif r == 3 then ([0, 3, 4], [0, 3, 4, 5]) else bif r == 7 then ([0, 3, 4, 5, 6], [0, 3, 4, 5]) else ([], []))
theorem lq_l23Marks (l : List (Int × Int)) (hl : l.length ≤ 64) (a : Nat) (ha : a < l.length) (zs : List Int) (k : AX → S → Option (AV × List Ob)) (d : Nat) : ∀ (n i : Nat) (x q : Int), l.length - i = d → i ≤ l.length → x = i → d < n → 0 ≤ q → q ≤ 101 * i →
    lpAt E_l23Marks (lp E_l23Marks 0 n) 0 (loopAt Tryz.f29 1) (mkS [0, 3, 4, 5, 6] [.lst (.pair (.int .i64) (.int .i64)) l, .own 0, .int .i64 (a : Int), .int .i64 q, .int .i64 x] [some (.row 3 (.int .i64) zs)]) k =
      k (.exit 2) (mkS [0, 3, 4, 5] [.lst (.pair (.int .i64) (.int .i64)) l, .own 0, .int .i64 (a : Int), .int .i64 (markR (fun x => undB l x a) (fun x => undB l a x) d i q)] [some (.row 3 (.int .i64) zs)]) := by
  induction d with
  | zero =>
    intro n i x q hd hi hx hn hq hq'
    subst hx
    rw [lpAt_def]
    conv => lhs; whnf
    refine br_f (df (by omega)) ?_
    conv => lhs; whnf
    rfl
  | succ d ih =>
    intro n i x q hd hi hx hn hq hq'
    obtain ⟨n, rfl⟩ : ∃ m, n = m + 1 := ⟨n - 1, by omega⟩
    subst hx
    have hb : ∀ y z : Bool, IntKind.i64.wrap (IntKind.i64.wrap (q + IntKind.i64.wrap (100 * (bif y then 1 else 0))) + (bif z then 1 else 0)) = q + 100 * (bif y then 1 else 0) + (bif z then 1 else 0) ∧ 0 ≤ q + 100 * (bif y then 1 else 0) + (bif z then 1 else 0) ∧ q + 100 * (bif y then 1 else 0) + (bif z then 1 else 0) ≤ 101 * ((i + 1 : Nat) : Int) := by
      intro y z
      have h1 : (0 : Int) ≤ bif y then 1 else 0 := by cases y <;> decide
      have h2 : (bif y then 1 else 0 : Int) ≤ 1 := by cases y <;> decide
      have h3 : (0 : Int) ≤ bif z then 1 else 0 := by cases z <;> decide
      have h4 : (bif z then 1 else 0 : Int) ≤ 1 := by cases z <;> decide
      generalize (bif y then 1 else 0 : Int) = u at *
      generalize (bif z then 1 else 0 : Int) = v at *
      rw [wrap64 (n := 100 * u) (by omega) (by omega), wrap64 (n := q + 100 * u) (by omega) (by omega), wrap64 (by omega) (by omega)]
      exact ⟨rfl, by omega, by push_cast; omega⟩
    rw [lpAt_def]
    conv => lhs; whnf
    refine br_t (dt (by omega)) ?_
    conv => lhs; whnf
    refine br_t (dt2 (by omega) (by omega)) ?_
    conv => lhs; whnf
    refine br_t (dt2 (by omega) (by omega)) ?_
    conv => lhs; whnf
    conv => lhs; arg 1; whnf
    refine bnd_g (by exact True.intro) ?_
    conv => lhs; whnf
    conv => lhs; arg 1; whnf
    refine bnd_g (by exact True.intro) ?_
    conv => lhs; whnf
    refine br_t (dt2 (by omega) (by omega)) ?_
    conv => lhs; whnf
    refine br_t (dt2 (by omega) (by omega)) ?_
    conv => lhs; whnf
    conv => lhs; arg 1; whnf
    refine bnd_g (by exact True.intro) ?_
    conv => lhs; whnf
    conv => lhs; arg 1; whnf
    refine bnd_g (by exact True.intro) ?_
    conv => lhs; whnf
    repeat ((first | with_reducible apply br_tt | with_reducible apply br_ff | with_reducible apply br_nf | with_reducible apply br_nt | with_reducible refine br_d ?_ (by kernel_rfl)); conv => lhs; whnf)
    have e := hb (undB l i a) (undB l a i)
    refine Eq.trans (ih n (i + 1) _ _ (by omega) (by omega) (by rw [wrap64 (n := (i : Int) + 1) (by omega) (by omega)]; simp) (by omega) (by have h1 := e.2.1; rw [← e.1] at h1; exact h1) (by have h1 := e.2.2; rw [← e.1] at h1; exact h1)) ?_
    have e2 : markR (fun x => undB l x a) (fun x => undB l a x) (d + 1) i q = markR (fun x => undB l x a) (fun x => undB l a x) d (i + 1) (IntKind.i64.wrap (IntKind.i64.wrap (q + IntKind.i64.wrap (100 * (bif undB l i a then 1 else 0))) + (bif undB l a i then 1 else 0))) := by rw [markR, e.1]
    rw [e2]
    rfl

theorem lp_l23Marks (l : List (Int × Int)) (hl : l.length ≤ 64) (k : AX → S → Option (AV × List Ob)) (d : Nat) : ∀ (n i : Nat) (x : Int) (zs : List Int), l.length - i = d → i ≤ l.length → x = i → d + 70 < n → zs.length ≤ i →
    lpAt E_l23Marks (lp E_l23Marks 0 n) 0 (loopAt Tryz.f29 0) (mkS [0, 3, 4] [.lst (.pair (.int .i64) (.int .i64)) l, .own 0, .int .i64 x] [some (.row 3 (.int .i64) zs)]) k =
      k (.exit 0) (mkS [0, 3, 4, 5] [.lst (.pair (.int .i64) (.int .i64)) l, .own 0, .int .i64 l.length, .any] [some (.row 3 (.int .i64) (zs ++ marksL l d i))]) := by
  induction d with
  | zero =>
    intro n i x zs hd hi hx hn hz
    subst hx
    rw [lpAt_def]
    conv => lhs; whnf
    refine br_f (df (by omega)) ?_
    conv => lhs; whnf
    have : i = l.length := by omega
    rw [this, marksL, List.append_nil]
  | succ d ih =>
    intro n i x zs hd hi hx hn hz
    obtain ⟨n, rfl⟩ : ∃ m, n = m + 1 := ⟨n - 1, by omega⟩
    subst hx
    rw [lpAt_def]
    conv => lhs; whnf
    refine br_t (dt (by omega)) ?_
    conv => lhs; whnf
    refine (lq_l23Marks l hl i (by omega) zs _ l.length _ 0 0 0 rfl (Nat.zero_le _) rfl (by omega) (by omega) (by omega)).trans ?_
    conv => lhs; whnf
    refine br_t (dt (by simp [room]; omega)) ?_
    conv => lhs; whnf
    refine Eq.trans (ih n (i + 1) _ _ (by omega) (by omega) (by rw [wrap64 (n := (i : Int) + 1) (by omega) (by omega)]; simp) (by omega) (by simp; omega)) ?_
    have e : markR (fun x => undB l x i) (fun x => undB l i x) l.length 0 0 = markAt l i := by
      rw [markR_eq]
      unfold markAt
      omega
    rw [e, marksL]
    simp only [List.append_assoc]
    rfl
theorem ev_l23Marks (l : List (Int × Int)) (hp : l.length ≤ 64) : evF E_l23Marks (200) Tryz.f29 [.lst (.pair (.int .i64) (.int .i64)) l] [] = some (.own 0, [.row 3 (.int .i64) (marksL l l.length 0)]) := by
  conv => lhs; whnf
  refine (lp_l23Marks l hp _ l.length _ 0 0 [] rfl (Nat.zero_le _) rfl (by change _ < 199; omega) (Nat.le_refl _)).trans ?_
  conv => lhs; whnf
  rfl
theorem ok_l23Marks : FnOk Tryz.prog 29 K_l23Marks := by
  refine fn_ok (fn := Tryz.f29) (k := Tryz.f29.ntmps) (E := E_l23Marks) (facts_of (List.forall_mem_cons.2 ⟨ok_l6Under, List.forall_mem_cons.2 ⟨ok_l1Bit, List.forall_mem_nil _⟩⟩)) (by kernel_rfl) rfl (by decide +kernel) (by decide +kernel) ?_
  intro avs hin r h
  unfold K_l23Marks at h
  split at h
  · obtain ⟨hp, rfl⟩ := gd_o h
    exact ⟨_, ev_l23Marks _ hp, rfl⟩
  · cases h

/- spec.l23Sorted -/
def K_l23Sorted : List AV → List Ob → Option (AV × List Ob)
  | [.lst (.int .i64) l], [] => gd (l.length ≤ 64) (.own 0, [.row 3 (.int .i64) (sortI l)])
  | _, _ => none
@[reducible] def E_l23Sorted : Env := mkE (tb []) (fun f => false) (fun r => bif r == 3 then ([0, 3, 4], [0, 3, 4, 5]) else bif r == 6 then ([0, 3, 4, 5], [0, 3, 4, 5]) else ([], []))
theorem lq_l23Sorted (l : List Int) (hl : l.length ≤ 64) (a : Nat) (ha : a < l.length) (zs : List Int) (hz : zs.length ≤ 64) (k : AX → S → Option (AV × List Ob)) (p : Nat) : ∀ (n : Nat) (x : Int), p ≤ zs.length → x = p → p < n →
    lpAt E_l23Sorted (lp E_l23Sorted 0 n) 0 (loopAt Tryz.f33 1) (mkS [0, 3, 4, 5] [.lst (.int .i64) l, .own 0, .int .i64 (a : Int), .int .i64 x] [some (.row 3 (.int .i64) zs)]) k =
      k (.exit 2) (mkS [0, 3, 4, 5] [.lst (.int .i64) l, .own 0, .int .i64 (a : Int), .int .i64 (posI zs (l.getD a 0) p : Nat)] [some (.row 3 (.int .i64) zs)]) := by
  induction p with
  | zero =>
    intro n x hp hx hn
    obtain ⟨n, rfl⟩ : ∃ m, n = m + 1 := ⟨n - 1, by omega⟩
    subst hx
    rw [lpAt_def]
    conv => lhs; whnf
    refine br_c (fun h => ?_) (fun h => ?_)
    · exact absurd (ofd h) (by omega)
    · conv => lhs; whnf
      repeat ((first | with_reducible apply br_tt | with_reducible apply br_ff | with_reducible apply br_nf | with_reducible apply br_nt | with_reducible refine br_d ?_ (by kernel_rfl) | with_reducible apply br_t h | with_reducible apply br_f h | with_reducible refine br_t (dt2 (by omega) (by omega)) ?_ | with_reducible refine br_t (dt (by omega)) ?_); conv => lhs; whnf)
      rfl
  | succ p ih =>
    intro n x hp hx hn
    obtain ⟨n, rfl⟩ : ∃ m, n = m + 1 := ⟨n - 1, by omega⟩
    subst hx
    have hw : IntKind.i64.wrap (((p + 1 : Nat) : Int) - 1) = (p : Int) := by rw [wrap64 (by omega) (by omega)]; omega
    rw [lpAt_def]
    conv => lhs; whnf
    refine br_c (fun h => ?_) (fun h => ?_)
    · conv => lhs; whnf
      repeat ((first | with_reducible apply br_tt | with_reducible apply br_ff | with_reducible apply br_nf | with_reducible apply br_nt | with_reducible refine br_d ?_ (by kernel_rfl) | with_reducible apply br_t h | with_reducible apply br_f h | with_reducible refine br_t (dt2 (by omega) (by omega)) ?_ | with_reducible refine br_t (dt (by omega)) ?_); conv => lhs; whnf)
      rw [hw]
      repeat ((first | with_reducible apply br_tt | with_reducible apply br_ff | with_reducible apply br_nf | with_reducible apply br_nt | with_reducible refine br_d ?_ (by kernel_rfl) | with_reducible apply br_t h | with_reducible apply br_f h | with_reducible refine br_t (dt2 (by omega) (by omega)) ?_ | with_reducible refine br_t (dt (by omega)) ?_); conv => lhs; whnf)
      refine br_c (fun h2 => ?_) (fun h2 => ?_)
      · have h2' : decide (zs.getD p 0 > l.getD a 0) = true := h2
        conv => lhs; whnf
        refine Eq.trans (ih n _ (by omega) hw (by omega)) ?_
        rw [posI, h2', cond_true]
      · have h2' : decide (zs.getD p 0 > l.getD a 0) = false := h2
        conv => lhs; whnf
        rw [posI, h2', cond_false]
    · exact absurd (ofn h) (by omega)

theorem lp_l23Sorted (l : List Int) (hl : l.length ≤ 64) (k : AX → S → Option (AV × List Ob)) (d : Nat) : ∀ (n i : Nat) (x : Int) (zs : List Int), l.length - i = d → i ≤ l.length → x = i → d + 70 < n → zs.length ≤ i →
    lpAt E_l23Sorted (lp E_l23Sorted 0 n) 0 (loopAt Tryz.f33 0) (mkS [0, 3, 4] [.lst (.int .i64) l, .own 0, .int .i64 x] [some (.row 3 (.int .i64) zs)]) k =
      k (.exit 0) (mkS [0, 3, 4, 5] [.lst (.int .i64) l, .own 0, .int .i64 l.length, .any] [some (.row 3 (.int .i64) (sortS (l.drop i) zs))]) := by
  induction d with
  | zero =>
    intro n i x zs hd hi hx hn hz
    subst hx
    rw [lpAt_def]
    conv => lhs; whnf
    refine br_f (df (by omega)) ?_
    conv => lhs; whnf
    have : i = l.length := by omega
    rw [List.drop_of_length_le (by omega), this, sortS]
  | succ d ih =>
    intro n i x zs hd hi hx hn hz
    obtain ⟨n, rfl⟩ : ∃ m, n = m + 1 := ⟨n - 1, by omega⟩
    subst hx
    have hpl := posI_le zs (l.getD i 0) zs.length
    rw [lpAt_def]
    conv => lhs; whnf
    refine br_t (dt (by omega)) ?_
    conv => lhs; whnf
    refine (lq_l23Sorted l hl i (by omega) zs (by omega) _ zs.length _ _ (Nat.le_refl _) rfl (by omega)).trans ?_
    conv => lhs; whnf
    refine br_t (dt2 (by omega) (by omega)) ?_
    conv => lhs; whnf
    refine br_t (dt (by simp [room]; omega)) ?_
    conv => lhs; whnf
    refine br_t (dt2 (by omega) (by omega)) ?_
    conv => lhs; whnf
    refine br_t (dt2 (by omega) (by omega)) ?_
    conv => lhs; whnf
    refine br_t (dt (by simp [room]; omega)) ?_
    conv => lhs; whnf
    refine br_t (dt (by simp [room]; omega)) ?_
    conv => lhs; whnf
    repeat ((first | with_reducible apply br_tt | with_reducible apply br_ff | with_reducible apply br_nf | with_reducible apply br_nt | with_reducible refine br_d ?_ (by kernel_rfl)); conv => lhs; whnf)
    have e : (zs.take (posI zs (l.getD i 0) zs.length) ++ [l.getD i 0]) ++ zs.drop (posI zs (l.getD i 0) zs.length) = insI zs (l.getD i 0) := by
      unfold insI
      rw [List.append_assoc]
      rfl
    refine Eq.trans (ih n (i + 1) _ _ (by omega) (by omega) (by rw [wrap64 (n := (i : Int) + 1) (by omega) (by omega)]; simp) (by omega) (show ((zs.take (posI zs (l.getD i 0) zs.length) ++ [l.getD i 0]) ++ zs.drop (posI zs (l.getD i 0) zs.length)).length ≤ i + 1 by rw [e, insI_len]; omega)) ?_
    rw [getD_drop (l := l) (i := i) (d := 0) (by omega), sortS, ← e]
    rfl
theorem ev_l23Sorted (l : List Int) (hp : l.length ≤ 64) : evF E_l23Sorted (200) Tryz.f33 [.lst (.int .i64) l] [] = some (.own 0, [.row 3 (.int .i64) (sortI l)]) := by
  conv => lhs; whnf
  refine (lp_l23Sorted l hp _ l.length _ 0 0 [] rfl (Nat.zero_le _) rfl (by change _ < 199; omega) (Nat.le_refl _)).trans ?_
  rw [List.drop_zero, sortS_eq]
  conv => lhs; whnf
theorem ok_l23Sorted : FnOk Tryz.prog 33 K_l23Sorted := by
  refine fn_ok (fn := Tryz.f33) (k := Tryz.f33.ntmps) (E := E_l23Sorted) (facts_of (List.forall_mem_nil _)) (by kernel_rfl) rfl (by decide +kernel) (by decide +kernel) ?_
  intro avs hin r h
  unfold K_l23Sorted at h
  split at h
  · obtain ⟨hp, rfl⟩ := gd_o h
    exact ⟨_, ev_l23Sorted _ hp, rfl⟩
  · cases h

/- spec.ProfileOf -/
def K_specProfileOf : List AV → List Ob → Option (AV × List Ob)
  | [.agg [.int .i64 m, .lst (.int .i64) b]], [] => gd (b.length ≤ 1048576) (.own 0, [.row 3 (.int .i64) (profF m b)])
  | _, _ => none
@[reducible] def E_specProfileOf : Env := mkE (tb [(26, K_specConcepts), (29, K_l23Marks), (33, K_l23Sorted)]) (fun f => false) (fun r => ([], []))
theorem ev_specProfileOf (m : Int) (b : List Int) (hp : b.length ≤ 1048576) : evF E_specProfileOf (1) Tryz.f12 [.agg [.int .i64 m, .lst (.int .i64) b]] [] = some (.own 0, [.row 3 (.int .i64) (profF m b)]) := by
  have hl := concF_len m b
  have hm := marksL_len (concF m b) (concF m b).length 0
  conv => lhs; whnf
  conv => lhs; arg 1; whnf
  refine bnd_g (by exact hp) ?_
  conv => lhs; whnf
  refine br_c (fun h => ?_) (fun h => ?_)
  · have h' := ofd h
    conv => lhs; whnf
    unfold profF
    rw [dt (show (concF m b).length > 24 by omega)]
    rfl
  · have h' := ofn h
    conv => lhs; whnf
    conv => lhs; arg 1; whnf
    refine bnd_g (by exact hl) ?_
    conv => lhs; whnf
    conv => lhs; arg 1; whnf
    refine bnd_g (by omega) ?_
    conv => lhs; whnf
    unfold profF
    rw [df (show ¬ (concF m b).length > 24 by omega)]
    rfl
theorem ok_specProfileOf : FnOk Tryz.prog 12 K_specProfileOf := by
  refine fn_ok (fn := Tryz.f12) (k := Tryz.f12.ntmps) (E := E_specProfileOf) (facts_of (List.forall_mem_cons.2 ⟨ok_specConcepts, List.forall_mem_cons.2 ⟨ok_l23Marks, List.forall_mem_cons.2 ⟨ok_l23Sorted, List.forall_mem_nil _⟩⟩⟩)) (by kernel_rfl) rfl (by decide +kernel) (by decide +kernel) ?_
  intro avs hin r h
  unfold K_specProfileOf at h
  split at h
  · obtain ⟨hp, rfl⟩ := gd_o h
    exact ⟨_, ev_specProfileOf _ _ hp, rfl⟩
  · cases h

/- spec.l2Same -/
def K_l2Same : List AV → List Ob → Option (AV × List Ob)
  | [.lst (.int .i64) a, .lst (.int .i64) b], [] => gd (a.length < 4611686018427387904 ∧ b.length < 4611686018427387904) (.bool (decide (a = b)), [])
  | _, _ => none
@[reducible] def E_l2Same : Env := mkE (tb []) (fun f => false) (fun r => bif r == 4 then ([0, 1, 5], [4]) else ([], []))
theorem lp_l2Same (a b : List Int) (hl : a.length = b.length) (ha : a.length < 4611686018427387904) (k : AX → S → Option (AV × List Ob)) (d : Nat) : ∀ (n i : Nat) (x : Int), a.length - i = d → i ≤ a.length → x = i → d < n →
    lpAt E_l2Same (lp E_l2Same 0 n) 0 (loopAt Tryz.f27 0) (mkS [0, 1, 5] [.lst (.int .i64) a, .lst (.int .i64) b, .int .i64 x] []) k =
      if a.drop i = b.drop i then k (.exit 0) (mkS [4] [.any] []) else k .ret (mkS [4] [.bool false] []) := by
  induction d with
  | zero =>
    intro n i x hd hi hx hn
    subst hx
    rw [lpAt_def]
    conv => lhs; whnf
    refine br_f (df (by omega)) ?_
    conv => lhs; whnf
    rw [if_pos (by rw [List.drop_of_length_le (by omega), List.drop_of_length_le (by omega)])]
  | succ d ih =>
    intro n i x hd hi hx hn
    obtain ⟨n, rfl⟩ : ∃ m, n = m + 1 := ⟨n - 1, by omega⟩
    subst hx
    rw [lpAt_def]
    conv => lhs; whnf
    refine br_t (dt (by omega)) ?_
    conv => lhs; whnf
    refine br_t (dt2 (by omega) (by omega)) ?_
    conv => lhs; whnf
    refine br_t (dt2 (by omega) (by omega)) ?_
    conv => lhs; whnf
    rw [getD_drop (l := a) (i := i) (d := 0) (by omega), getD_drop (l := b) (i := i) (d := 0) (by omega)]
    refine br_t (by kernel_rfl) ?_
    conv => lhs; whnf
    refine br_c (fun h => ?_) (fun h => ?_)
    · conv => lhs; whnf
      rw [if_neg]
      intro he
      have := (List.cons.inj he).1
      simp at h
      exact h this
    · conv => lhs; whnf
      rw [ih n (i + 1) _ (by omega) (by omega) (by rw [wrap64 (by omega) (by omega)]; simp) (by omega)]
      simp at h
      simp [h]
theorem ev_l2Same (a b : List Int) (hp : a.length < 4611686018427387904 ∧ b.length < 4611686018427387904) : evF E_l2Same (a.length + 2) Tryz.f27 [.lst (.int .i64) a, .lst (.int .i64) b] [] = some (.bool (decide (a = b)), []) := by
  conv => lhs; whnf
  refine br_c (fun h => ?_) (fun h => ?_)
  · conv => lhs; whnf
    have : a ≠ b := by
      rintro rfl
      simp at h
    simp [this]
  · conv => lhs; whnf
    have hl : a.length = b.length := by simp at h; omega
    refine (lp_l2Same a b hl hp.1 _ _ _ 0 0 rfl (by omega) rfl (by omega)).trans ?_
    simp only [List.drop_zero]
    split
    · rename_i he
      conv => lhs; whnf
      simp [he]
    · rename_i he
      conv => lhs; whnf
      simp [he]
theorem ok_l2Same : FnOk Tryz.prog 27 K_l2Same := by
  refine fn_ok (fn := Tryz.f27) (k := Tryz.f27.ntmps) (E := E_l2Same) (facts_of (List.forall_mem_nil _)) (by kernel_rfl) rfl (by decide +kernel) (by decide +kernel) ?_
  intro avs hin r h
  unfold K_l2Same at h
  split at h
  · obtain ⟨hp, rfl⟩ := gd_o h
    exact ⟨_, ev_l2Same _ _ hp, rfl⟩
  · cases h

/- spec.l23Marks -/
def K_l23MarksF : List AV → List Ob → Option (AV × List Ob)
  | [.lst (.pair (.int .i64) (.int .i64)) l], [] => gd (l.length ≤ 64) (.lst (.int .i64) (marksL l l.length 0), [])
  | _, _ => none
theorem ok_l23MarksF : FnOk Tryz.prog 29 K_l23MarksF := by
  refine FnOk.le (FnOk.frz ok_l23Marks) (fun avs hin p h => ?_)
  unfold K_l23MarksF at h
  split at h
  · obtain ⟨hp, rfl⟩ := gd_o h
    refine Eq.trans (frz_s (K := K_l23Marks) (p := ?p) ?hq) ?hr
    case hq => exact gd_s hp
    case hr => rfl
  · cases h

/- spec.FindMap -/
def K_specFindMap : List AV → List Ob → Option (AV × List Ob)
  | [.agg [.int .i64 m, .lst (.int .i64) a], .agg [.int .i64 n, .lst (.int .i64) b]], [] => gd (a.length ≤ 1048576 ∧ b.length ≤ 1048576) (.tup [.own 0, .bool (fmF m a n b).isSome], [.row 3 (.int .i64) ((fmF m a n b).getD [])])
  | _, _ => none
@[reducible] def E_specFindMap : Env := mkE (tb [(26, K_specConF), (12, K_specProfileOf), (27, K_l2Same), (29, K_l23MarksF), (28, K_l23Find64)]) (fun f => [28].contains f) (fun r => ([], []))
theorem ev_specFindMap (m : Int) (a : List Int) (n : Int) (b : List Int) (hp : a.length ≤ 1048576 ∧ b.length ≤ 1048576) : evF E_specFindMap (1) Tryz.f7 [.agg [.int .i64 m, .lst (.int .i64) a], .agg [.int .i64 n, .lst (.int .i64) b]] [] = some (.tup [.own 0, .bool (fmF m a n b).isSome], [.row 3 (.int .i64) ((fmF m a n b).getD [])]) := by
  obtain ⟨p1, p2⟩ := hp
  have l1 := concF_len m a
  have l2 := concF_len n b
  have q1 := profF_len m a
  have q2 := profF_len n b
  have hpre := preF0 m a n b
  obtain ⟨r, hr⟩ : ∃ r, r = fmF m a n b := ⟨_, rfl⟩
  rw [← hr]
  conv => lhs; whnf
  conv => lhs; arg 1; whnf
  refine bnd_g (by exact p1) ?_
  conv => lhs; whnf
  conv => lhs; arg 1; whnf
  refine bnd_g (by exact p2) ?_
  conv => lhs; whnf
  refine br_c (fun h1 => ?_) (fun h1 => ?_)
  · have e : r = none := hr.trans (fm_0 h1)
    conv => lhs; whnf
    repeat ((first | with_reducible apply br_tt | with_reducible apply br_ff | with_reducible apply br_nf | with_reducible apply br_nt | with_reducible refine br_d ?_ (by kernel_rfl) | with_reducible apply br_t h1 | with_reducible apply br_f h1); conv => lhs; whnf)
    rw [e]
    rfl
  · conv => lhs; whnf
    repeat ((first | with_reducible apply br_tt | with_reducible apply br_ff | with_reducible apply br_nf | with_reducible apply br_nt | with_reducible refine br_d ?_ (by kernel_rfl) | with_reducible apply br_t h1 | with_reducible apply br_f h1); conv => lhs; whnf)
    refine br_c (fun h2 => ?_) (fun h2 => ?_)
    · have e : r = none := hr.trans (fm_1 h2)
      conv => lhs; whnf
      repeat ((first | with_reducible apply br_tt | with_reducible apply br_ff | with_reducible apply br_nf | with_reducible apply br_nt | with_reducible refine br_d ?_ (by kernel_rfl) | with_reducible apply br_t h1 | with_reducible apply br_f h1 | with_reducible apply br_t h2 | with_reducible apply br_f h2); conv => lhs; whnf)
      rw [e]
      rfl
    · conv => lhs; whnf
      repeat ((first | with_reducible apply br_tt | with_reducible apply br_ff | with_reducible apply br_nf | with_reducible apply br_nt | with_reducible refine br_d ?_ (by kernel_rfl) | with_reducible apply br_t h1 | with_reducible apply br_f h1 | with_reducible apply br_t h2 | with_reducible apply br_f h2); conv => lhs; whnf)
      refine br_c (fun h3 => ?_) (fun h3 => ?_)
      · have e : r = none := hr.trans (fm_2 h3)
        conv => lhs; whnf
        repeat ((first | with_reducible apply br_tt | with_reducible apply br_ff | with_reducible apply br_nf | with_reducible apply br_nt | with_reducible refine br_d ?_ (by kernel_rfl) | with_reducible apply br_t h1 | with_reducible apply br_f h1 | with_reducible apply br_t h2 | with_reducible apply br_f h2 | with_reducible apply br_t h3 | with_reducible apply br_f h3); conv => lhs; whnf)
        rw [e]
        rfl
      · conv => lhs; whnf
        repeat ((first | with_reducible apply br_tt | with_reducible apply br_ff | with_reducible apply br_nf | with_reducible apply br_nt | with_reducible refine br_d ?_ (by kernel_rfl) | with_reducible apply br_t h1 | with_reducible apply br_f h1 | with_reducible apply br_t h2 | with_reducible apply br_f h2 | with_reducible apply br_t h3 | with_reducible apply br_f h3); conv => lhs; whnf)
        conv => lhs; arg 1; whnf
        refine bnd_g (by exact p1) ?_
        conv => lhs; whnf
        repeat ((first | with_reducible apply br_tt | with_reducible apply br_ff | with_reducible apply br_nf | with_reducible apply br_nt | with_reducible refine br_d ?_ (by kernel_rfl) | with_reducible apply br_t h1 | with_reducible apply br_f h1 | with_reducible apply br_t h2 | with_reducible apply br_f h2 | with_reducible apply br_t h3 | with_reducible apply br_f h3); conv => lhs; whnf)
        conv => lhs; arg 1; whnf
        refine bnd_g (by exact p2) ?_
        conv => lhs; whnf
        repeat ((first | with_reducible apply br_tt | with_reducible apply br_ff | with_reducible apply br_nf | with_reducible apply br_nt | with_reducible refine br_d ?_ (by kernel_rfl) | with_reducible apply br_t h1 | with_reducible apply br_f h1 | with_reducible apply br_t h2 | with_reducible apply br_f h2 | with_reducible apply br_t h3 | with_reducible apply br_f h3); conv => lhs; whnf)
        conv => lhs; arg 1; whnf
        refine bnd_g (by exact ⟨by omega, by omega⟩) ?_
        conv => lhs; whnf
        repeat ((first | with_reducible apply br_tt | with_reducible apply br_ff | with_reducible apply br_nf | with_reducible apply br_nt | with_reducible refine br_d ?_ (by kernel_rfl) | with_reducible apply br_t h1 | with_reducible apply br_f h1 | with_reducible apply br_t h2 | with_reducible apply br_f h2 | with_reducible apply br_t h3 | with_reducible apply br_f h3); conv => lhs; whnf)
        refine br_c (fun h4 => ?_) (fun h4 => ?_)
        · have e : r = none := hr.trans (fm_3 h4)
          conv => lhs; whnf
          repeat ((first | with_reducible apply br_tt | with_reducible apply br_ff | with_reducible apply br_nf | with_reducible apply br_nt | with_reducible refine br_d ?_ (by kernel_rfl) | with_reducible apply br_t h1 | with_reducible apply br_f h1 | with_reducible apply br_t h2 | with_reducible apply br_f h2 | with_reducible apply br_t h3 | with_reducible apply br_f h3 | with_reducible apply br_t h4 | with_reducible apply br_f h4); conv => lhs; whnf)
          rw [e]
          rfl
        · have e := hr.trans (fm_4 h1 h2 h3 h4)
          have hn : ([] : List Int).length ≠ (concF m a).length := by
            intro h; rw [← h] at h1; cases h1
          conv => lhs; whnf
          repeat ((first | with_reducible apply br_tt | with_reducible apply br_ff | with_reducible apply br_nf | with_reducible apply br_nt | with_reducible refine br_d ?_ (by kernel_rfl) | with_reducible apply br_t h1 | with_reducible apply br_f h1 | with_reducible apply br_t h2 | with_reducible apply br_f h2 | with_reducible apply br_t h3 | with_reducible apply br_f h3 | with_reducible apply br_t h4 | with_reducible apply br_f h4); conv => lhs; whnf)
          conv => lhs; arg 1; whnf
          refine bnd_g (by exact l1) ?_
          conv => lhs; whnf
          conv => lhs; arg 1; whnf
          refine bnd_g (by exact l2) ?_
          conv => lhs; whnf
          refine Or.elim (opt_or (fndR (concF m a).length (concF n b).length (oks1 (concF m a) (concF n b) (marksL (concF m a) (concF m a).length 0) (marksL (concF n b) (concF n b).length 0)) 64 [])) (fun hz => ?_) (fun hz => Exists.elim hz fun z hz => ?_)
          · have e2 := e.trans hz
            refine bnd_s (Ks_none hpre hn hz) ?_
            conv => lhs; whnf
            repeat ((first | with_reducible apply br_tt | with_reducible apply br_ff | with_reducible apply br_nf | with_reducible apply br_nt | with_reducible refine br_d ?_ (by kernel_rfl)); conv => lhs; whnf)
            rw [e2]
            rfl
          · have hzl := fnd_len _ _ _ hz
            have e2 := e.trans hz
            refine bnd_s (Ks_some hpre hn hz) ?_
            conv => lhs; whnf
            repeat ((first | with_reducible apply br_tt | with_reducible apply br_ff | with_reducible apply br_nf | with_reducible apply br_nt | with_reducible refine br_d ?_ (by kernel_rfl)); conv => lhs; whnf)
            refine br_t (dt (by simp [room]; omega)) ?_
            conv => lhs; whnf
            rw [e2]
            rfl
theorem ok_specFindMap : FnOk Tryz.prog 7 K_specFindMap := by
  refine fn_ok (fn := Tryz.f7) (k := Tryz.f7.ntmps) (E := E_specFindMap) (facts_of (List.forall_mem_cons.2 ⟨ok_specConF, List.forall_mem_cons.2 ⟨ok_specProfileOf, List.forall_mem_cons.2 ⟨ok_l2Same, List.forall_mem_cons.2 ⟨ok_l23MarksF, List.forall_mem_cons.2 ⟨ok_l23Find64, List.forall_mem_nil _⟩⟩⟩⟩⟩)) (by kernel_rfl) rfl (by decide +kernel) (by decide +kernel) ?_
  intro avs hin r h
  unfold K_specFindMap at h
  split at h
  · obtain ⟨hp, rfl⟩ := gd_o h
    exact ⟨_, ev_specFindMap _ _ _ _ hp, rfl⟩
  · cases h

/- impl.Concepts -/
def K_implConF : List AV → List Ob → Option (AV × List Ob)
  | [.agg [.int .i64 m, .lst (.int .i64) a]], [] => gd (a.length ≤ 1048576) (.lst (.pair (.int .i64) (.int .i64)) (concF m a), [])
  | _, _ => none
theorem ok_implConF : FnOk Tryz.prog 19 K_implConF := by
  refine FnOk.le (FnOk.frz ok_implConcepts) (fun avs hin p h => ?_)
  unfold K_implConF at h
  split at h
  · obtain ⟨hp, rfl⟩ := gd_o h
    refine Eq.trans (frz_s (K := K_implConcepts) (p := ?p) ?hq) ?hr
    case hq => exact gd_s hp
    case hr => rfl
  · cases h

/- impl.profiles$1 -/
def K_prof1 : List AV → List Ob → Option (AV × List Ob)
  | [.int .i64 x, .vptr [.lst (.pair (.int .i64) (.int .i64)) l] 0, .vptr [.int .i64 a] 0], [] => gd ((0 ≤ x ∧ x < l.length) ∧ (0 ≤ a ∧ a < l.length)) (.bool (blwB l x.toNat a.toNat), [])
  | _, _ => none
@[reducible] def E_prof1 : Env := mkE (tb [(52, K_latBelow)]) (fun f => false) (fun r => ([], []))
theorem ev_prof1 (x a : Int) (l : List (Int × Int)) (hp : (0 ≤ x ∧ x < l.length) ∧ (0 ≤ a ∧ a < l.length)) : evF E_prof1 (1) Tryz.f51 [.int .i64 x, .vptr [.lst (.pair (.int .i64) (.int .i64)) l] 0, .vptr [.int .i64 a] 0] [] = some (.bool (blwB l x.toNat a.toNat), []) := by
  conv => lhs; whnf
  conv => lhs; arg 1; whnf
  refine bnd_g (by exact hp) ?_
  conv => lhs; whnf
theorem ok_prof1 : FnOk Tryz.prog 51 K_prof1 := by
  refine fn_ok (fn := Tryz.f51) (k := Tryz.f51.ntmps) (E := E_prof1) (facts_of (List.forall_mem_cons.2 ⟨ok_latBelow, List.forall_mem_nil _⟩)) (by kernel_rfl) rfl (by decide +kernel) (by decide +kernel) ?_
  intro avs hin r h
  unfold K_prof1 at h
  split at h
  · obtain ⟨hp, rfl⟩ := gd_o h
    exact ⟨_, ev_prof1 _ _ _ hp, rfl⟩
  · cases h

/- impl.profiles$2 -/
def K_prof2 : List AV → List Ob → Option (AV × List Ob)
  | [.int .i64 x, .vptr [.lst (.pair (.int .i64) (.int .i64)) l] 0, .vptr [.int .i64 a] 0], [] => gd ((0 ≤ x ∧ x < l.length) ∧ (0 ≤ a ∧ a < l.length)) (.bool (blwB l a.toNat x.toNat), [])
  | _, _ => none
@[reducible] def E_prof2 : Env := mkE (tb [(52, K_latBelow)]) (fun f => false) (fun r => ([], []))
theorem ev_prof2 (x a : Int) (l : List (Int × Int)) (hp : (0 ≤ x ∧ x < l.length) ∧ (0 ≤ a ∧ a < l.length)) : evF E_prof2 (1) Tryz.f53 [.int .i64 x, .vptr [.lst (.pair (.int .i64) (.int .i64)) l] 0, .vptr [.int .i64 a] 0] [] = some (.bool (blwB l a.toNat x.toNat), []) := by
  conv => lhs; whnf
  conv => lhs; arg 1; whnf
  refine bnd_g (by exact ⟨hp.2, hp.1⟩) ?_
  conv => lhs; whnf
theorem ok_prof2 : FnOk Tryz.prog 53 K_prof2 := by
  refine fn_ok (fn := Tryz.f53) (k := Tryz.f53.ntmps) (E := E_prof2) (facts_of (List.forall_mem_cons.2 ⟨ok_latBelow, List.forall_mem_nil _⟩)) (by kernel_rfl) rfl (by decide +kernel) (by decide +kernel) ?_
  intro avs hin r h
  unfold K_prof2 at h
  split at h
  · obtain ⟨hp, rfl⟩ := gd_o h
    exact ⟨_, ev_prof2 _ _ _ hp, rfl⟩
  · cases h

/- (impl.lattice).chosen -/
def K_chs_prof : List AV → List Ob → Option (AV × List Ob)
  | [.lst (.pair (.int .i64) (.int .i64)) l, .clo 51 [.vptr [.lst (.pair (.int .i64) (.int .i64)) l'] 0, .vptr [.int .i64 a] 0]], [] => gd ((l' = l ∧ l.length ≤ 64) ∧ (0 ≤ a ∧ a < l.length)) (.own 0, [.row 3 (.int .i64) (chsF (fun x => blwB l x a.toNat) l.length 0)])
  | [.lst (.pair (.int .i64) (.int .i64)) l, .clo 53 [.vptr [.lst (.pair (.int .i64) (.int .i64)) l'] 0, .vptr [.int .i64 a] 0]], [] => gd ((l' = l ∧ l.length ≤ 64) ∧ (0 ≤ a ∧ a < l.length)) (.own 0, [.row 3 (.int .i64) (chsF (fun x => blwB l a.toNat x) l.length 0)])
  | _, _ => none
@[reducible] def E_chs_prof : Env := mkE (tb [(51, K_prof1), (53, K_prof2)]) (fun f => false) (fun r => bif r == 3 then ([1, 5, 9, 10], [5]) else ([], []))
theorem lp1_chs_prof (l : List (Int × Int)) (hl : l.length ≤ 64) (a : Nat) (ha : a < l.length) (k : AX → S → Option (AV × List Ob)) (d : Nat) : ∀ (n i : Nat) (x : Int) (zs : List Int), l.length - i = d → i ≤ l.length → x = i → d < n → zs.length ≤ i →
    lpAt E_chs_prof (lp E_chs_prof 0 n) 0 (loopAt Tryz.f50 0) (mkS [1, 5, 9, 10] [.clo 51 [.vptr [.lst (.pair (.int .i64) (.int .i64)) l] 0, .vptr [.int .i64 (a : Int)] 0], .own 0, .int .i64 l.length, .int .i64 x] [some (.row 3 (.int .i64) zs)]) k =
      k (.exit 0) (mkS [5] [.own 0] [some (.row 3 (.int .i64) (zs ++ chsF (fun x => blwB l x a) d i))]) := by
  induction d with
  | zero =>
    intro n i x zs hd hi hx hn hz
    subst hx
    rw [lpAt_def]
    conv => lhs; whnf
    refine br_f (df (by omega)) ?_
    conv => lhs; whnf
    rw [chsF, List.append_nil]
  | succ d ih =>
    intro n i x zs hd hi hx hn hz
    obtain ⟨n, rfl⟩ : ∃ m, n = m + 1 := ⟨n - 1, by omega⟩
    subst hx
    rw [lpAt_def]
    conv => lhs; whnf
    refine br_t (dt (by omega)) ?_
    conv => lhs; whnf
    conv => lhs; arg 1; whnf
    refine bnd_g (by exact ⟨⟨by omega, by omega⟩, by omega, by omega⟩) ?_
    conv => lhs; whnf
    refine br_c (fun h => ?_) (fun h => ?_)
    · have h' : blwB l i a = true := h
      conv => lhs; whnf
      refine br_t (dt (by simp [room]; omega)) ?_
      conv => lhs; whnf
      refine Eq.trans (ih n (i + 1) _ _ (by omega) (by omega) (by rw [wrap64 (n := (i : Int) + 1) (by omega) (by omega)]; simp) (by omega) (by simp; omega)) ?_
      rw [chsF, h', cond_true]
      simp only [List.append_assoc]
      rfl
    · have h' : blwB l i a = false := h
      conv => lhs; whnf
      refine Eq.trans (ih n (i + 1) _ _ (by omega) (by omega) (by rw [wrap64 (n := (i : Int) + 1) (by omega) (by omega)]; simp) (by omega) (by omega)) ?_
      rw [chsF, h', cond_false]

theorem lp2_chs_prof (l : List (Int × Int)) (hl : l.length ≤ 64) (a : Nat) (ha : a < l.length) (k : AX → S → Option (AV × List Ob)) (d : Nat) : ∀ (n i : Nat) (x : Int) (zs : List Int), l.length - i = d → i ≤ l.length → x = i → d < n → zs.length ≤ i →
    lpAt E_chs_prof (lp E_chs_prof 0 n) 0 (loopAt Tryz.f50 0) (mkS [1, 5, 9, 10] [.clo 53 [.vptr [.lst (.pair (.int .i64) (.int .i64)) l] 0, .vptr [.int .i64 (a : Int)] 0], .own 0, .int .i64 l.length, .int .i64 x] [some (.row 3 (.int .i64) zs)]) k =
      k (.exit 0) (mkS [5] [.own 0] [some (.row 3 (.int .i64) (zs ++ chsF (fun x => blwB l a x) d i))]) := by
  induction d with
  | zero =>
    intro n i x zs hd hi hx hn hz
    subst hx
    rw [lpAt_def]
    conv => lhs; whnf
    refine br_f (df (by omega)) ?_
    conv => lhs; whnf
    rw [chsF, List.append_nil]
  | succ d ih =>
    intro n i x zs hd hi hx hn hz
    obtain ⟨n, rfl⟩ : ∃ m, n = m + 1 := ⟨n - 1, by omega⟩
    subst hx
    rw [lpAt_def]
    conv => lhs; whnf
    refine br_t (dt (by omega)) ?_
    conv => lhs; whnf
    conv => lhs; arg 1; whnf
    refine bnd_g (by exact ⟨⟨by omega, by omega⟩, by omega, by omega⟩) ?_
    conv => lhs; whnf
    refine br_c (fun h => ?_) (fun h => ?_)
    · have h' : blwB l a i = true := h
      conv => lhs; whnf
      refine br_t (dt (by simp [room]; omega)) ?_
      conv => lhs; whnf
      refine Eq.trans (ih n (i + 1) _ _ (by omega) (by omega) (by rw [wrap64 (n := (i : Int) + 1) (by omega) (by omega)]; simp) (by omega) (by simp; omega)) ?_
      rw [chsF, h', cond_true]
      simp only [List.append_assoc]
      rfl
    · have h' : blwB l a i = false := h
      conv => lhs; whnf
      refine Eq.trans (ih n (i + 1) _ _ (by omega) (by omega) (by rw [wrap64 (n := (i : Int) + 1) (by omega) (by omega)]; simp) (by omega) (by omega)) ?_
      rw [chsF, h', cond_false]
theorem ev_chs_prof (l : List (Int × Int)) (a : Int) (l' : List (Int × Int)) (hp : (l' = l ∧ l.length ≤ 64) ∧ (0 ≤ a ∧ a < l.length)) : evF E_chs_prof (100) Tryz.f50 [.lst (.pair (.int .i64) (.int .i64)) l, .clo 51 [.vptr [.lst (.pair (.int .i64) (.int .i64)) l'] 0, .vptr [.int .i64 a] 0]] [] = some (.own 0, [.row 3 (.int .i64) (chsF (fun x => blwB l x a.toNat) l.length 0)]) := by
  obtain ⟨⟨rfl, hl⟩, ha⟩ := hp
  obtain ⟨j, rfl⟩ : ∃ j : Nat, a = j := ⟨a.toNat, by omega⟩

  conv => lhs; whnf
  refine (lp1_chs_prof l' hl j (by omega) _ l'.length _ 0 0 [] rfl (Nat.zero_le _) rfl (by change _ < 99; omega) (Nat.le_refl _)).trans ?_
  conv => lhs; whnf
  rfl
theorem ev_chs_prof' (l : List (Int × Int)) (a : Int) (l' : List (Int × Int)) (hp : (l' = l ∧ l.length ≤ 64) ∧ (0 ≤ a ∧ a < l.length)) : evF E_chs_prof (100) Tryz.f50 [.lst (.pair (.int .i64) (.int .i64)) l, .clo 53 [.vptr [.lst (.pair (.int .i64) (.int .i64)) l'] 0, .vptr [.int .i64 a] 0]] [] = some (.own 0, [.row 3 (.int .i64) (chsF (fun x => blwB l a.toNat x) l.length 0)]) := by
  obtain ⟨⟨rfl, hl⟩, ha⟩ := hp
  obtain ⟨j, rfl⟩ : ∃ j : Nat, a = j := ⟨a.toNat, by omega⟩

  conv => lhs; whnf
  refine (lp2_chs_prof l' hl j (by omega) _ l'.length _ 0 0 [] rfl (Nat.zero_le _) rfl (by change _ < 99; omega) (Nat.le_refl _)).trans ?_
  conv => lhs; whnf
  rfl
theorem ok_chs_prof : FnOk Tryz.prog 50 K_chs_prof := by
  refine fn_ok (fn := Tryz.f50) (k := Tryz.f50.ntmps) (E := E_chs_prof) (facts_of (List.forall_mem_cons.2 ⟨ok_prof1, List.forall_mem_cons.2 ⟨ok_prof2, List.forall_mem_nil _⟩⟩)) (by kernel_rfl) rfl (by decide +kernel) (by decide +kernel) ?_
  intro avs hin r h
  unfold K_chs_prof at h
  split at h
  · obtain ⟨hp, rfl⟩ := gd_o h
    exact ⟨_, ev_chs_prof _ _ _ hp, rfl⟩
  · obtain ⟨hp, rfl⟩ := gd_o h
    exact ⟨_, ev_chs_prof' _ _ _ hp, rfl⟩
  · cases h

/- impl.profiles -/
def K_profiles : List AV → List Ob → Option (AV × List Ob)
  | [.lst (.pair (.int .i64) (.int .i64)) l], [] => gd (l.length ≤ 64 ∧ extsB l = true) (.own 0, [.row 3 (.int .i64) (marksL l l.length 0)])
  | _, _ => none
@[reducible] def E_profiles : Env := mkE (tb [(50, K_chs_prof)]) (fun f => false) (fun r => bif r == 3 then ([1, 3, 9, 10], [3]) else ([], []))
theorem lp_profiles (l : List (Int × Int)) (hl : l.length ≤ 64) (he : extsB l = true) (k : AX → S → Option (AV × List Ob)) (d : Nat) : ∀ (n i : Nat) (x : Int) (zs : List Int), l.length - i = d → i ≤ l.length → x = i → d < n → zs.length ≤ i →
    lpAt E_profiles (lp E_profiles 0 n) 0 (loopAt Tryz.f22 0) (mkS [1, 3, 9, 10] [.ptr 0 0, .own 1, .int .i64 l.length, .int .i64 x] [some (.box 40 [.lst (.pair (.int .i64) (.int .i64)) l]), some (.row 3 (.int .i64) zs)]) k =
      k (.exit 0) (mkS [3] [.own 0] [some (.row 3 (.int .i64) (zs ++ marksL l d i))]) := by
  induction d with
  | zero =>
    intro n i x zs hd hi hx hn hz
    subst hx
    rw [lpAt_def]
    conv => lhs; whnf
    refine br_f (df (by omega)) ?_
    conv => lhs; whnf
    rw [marksL, List.append_nil]
  | succ d ih =>
    intro n i x zs hd hi hx hn hz
    obtain ⟨n, rfl⟩ : ∃ m, n = m + 1 := ⟨n - 1, by omega⟩
    subst hx
    have c1 := chsF_le (fun x => blwB l x i) l.length 0
    have c2 := chsF_le (fun x => blwB l i x) l.length 0
    have e1 : ((chsF (fun x => blwB l x i) l.length 0).length : Int) = sumB (fun x => undB l x i) l.length 0 0 := by
      rw [chsF_len]
      exact sumB_congr _ _ _ fun j _ hj => blw_und he (by omega) i
    have e2 : ((chsF (fun x => blwB l i x) l.length 0).length : Int) = sumB (fun x => undB l i x) l.length 0 0 := by
      rw [chsF_len]
      exact sumB_congr _ _ _ fun j _ hj => blw_und he (by omega) j
    have hw : IntKind.i64.wrap (IntKind.i64.wrap (100 * ((chsF (fun x => blwB l x i) l.length 0).length : Int)) + ((chsF (fun x => blwB l i x) l.length 0).length : Int)) = markAt l i := by
      rw [wrap64 (n := 100 * ((chsF (fun x => blwB l x i) l.length 0).length : Int)) (by omega) (by omega), wrap64 (by omega) (by omega), e1, e2]
      rfl
    rw [lpAt_def]
    conv => lhs; whnf
    refine br_t (dt (by omega)) ?_
    conv => lhs; whnf
    conv => lhs; arg 1; whnf
    refine bnd_g (by exact ⟨⟨rfl, hl⟩, by omega, by omega⟩) ?_
    conv => lhs; whnf
    conv => lhs; arg 1; whnf
    refine bnd_g (by exact ⟨⟨rfl, hl⟩, by omega, by omega⟩) ?_
    conv => lhs; whnf
    refine br_t (dt (by simp [room]; omega)) ?_
    conv => lhs; whnf
    refine Eq.trans (ih n (i + 1) _ _ (by omega) (by omega) (by rw [wrap64 (n := (i : Int) + 1) (by omega) (by omega)]; simp) (by omega) (by simp; omega)) ?_
    have hw' := congrArg (fun z => zs ++ z :: marksL l d (i + 1)) hw
    rw [marksL, ← hw', List.append_assoc]
    rfl
theorem ev_profiles (l : List (Int × Int)) (hp : l.length ≤ 64 ∧ extsB l = true) : evF E_profiles (100) Tryz.f22 [.lst (.pair (.int .i64) (.int .i64)) l] [] = some (.own 0, [.row 3 (.int .i64) (marksL l l.length 0)]) := by
  conv => lhs; whnf
  refine (lp_profiles l hp.1 hp.2 _ l.length _ 0 0 [] rfl (Nat.zero_le _) rfl (by change _ < 99; omega) (Nat.le_refl _)).trans ?_
  conv => lhs; whnf
  rfl
theorem ok_profiles : FnOk Tryz.prog 22 K_profiles := by
  refine fn_ok (fn := Tryz.f22) (k := Tryz.f22.ntmps) (E := E_profiles) (facts_of (List.forall_mem_cons.2 ⟨ok_chs_prof, List.forall_mem_nil _⟩)) (by kernel_rfl) rfl (by decide +kernel) (by decide +kernel) ?_
  intro avs hin r h
  unfold K_profiles at h
  split at h
  · obtain ⟨hp, rfl⟩ := gd_o h
    exact ⟨_, ev_profiles _ hp, rfl⟩
  · cases h

def K_sortInts : List AV → List Ob → Option (AV × List Ob)
  | [.own 0], [.row 3 (.int .i64) ys] => gd (ys.length < 4611686018427387904) (.tup [], [.row 3 (.int .i64) (sortI ys)])
  | _, _ => none
theorem ok_sortInts : FnOk Tryz.prog 32 K_sortInts := by
  refine ⟨⟨Tryz.f32, by kernel_rfl, by kernel_rfl, by kernel_rfl⟩, fun avs hin r hout hk C L vs hH hm hA => ?_⟩
  unfold K_sortInts at hk
  split at hk
  · obtain ⟨h1, he⟩ := gd_o hk
    cases he
    exact sorti_calls Tryz.layInts h1 hH hA
  · cases hk

/- impl.ProfileOf -/
def K_implProfileOf : List AV → List Ob → Option (AV × List Ob)
  | [.agg [.int .i64 m, .lst (.int .i64) b]], [] => gd (b.length ≤ 1048576) (.own 0, [.row 3 (.int .i64) (profF m b)])
  | _, _ => none
@[reducible] def E_implProfileOf : Env := mkE (tb [(19, K_implConcepts), (22, K_profiles), (32, K_sortInts)]) (fun f => [32].contains f) (fun r => ([], []))
theorem ev_implProfileOf (m : Int) (b : List Int) (hp : b.length ≤ 1048576) : evF E_implProfileOf (1) Tryz.f11 [.agg [.int .i64 m, .lst (.int .i64) b]] [] = some (.own 0, [.row 3 (.int .i64) (profF m b)]) := by
  have hl := concF_len m b
  have hm := marksL_len (concF m b) (concF m b).length 0
  conv => lhs; whnf
  conv => lhs; arg 1; whnf
  refine bnd_g (by exact hp) ?_
  conv => lhs; whnf
  refine br_c (fun h => ?_) (fun h => ?_)
  · have h' := ofd h
    conv => lhs; whnf
    unfold profF
    rw [dt (show (concF m b).length > 24 by omega)]
    rfl
  · have h' := ofn h
    conv => lhs; whnf
    conv => lhs; arg 1; whnf
    refine bnd_g (by exact ⟨hl, conc_exts m b⟩) ?_
    conv => lhs; whnf
    conv => lhs; arg 1; whnf
    refine bnd_g (by omega) ?_
    conv => lhs; whnf
    unfold profF
    rw [df (show ¬ (concF m b).length > 24 by omega)]
    rfl
theorem ok_implProfileOf : FnOk Tryz.prog 11 K_implProfileOf := by
  refine fn_ok (fn := Tryz.f11) (k := Tryz.f11.ntmps) (E := E_implProfileOf) (facts_of (List.forall_mem_cons.2 ⟨ok_implConcepts, List.forall_mem_cons.2 ⟨ok_profiles, List.forall_mem_cons.2 ⟨ok_sortInts, List.forall_mem_nil _⟩⟩⟩)) (by kernel_rfl) rfl (by decide +kernel) (by decide +kernel) ?_
  intro avs hin r h
  unfold K_implProfileOf at h
  split at h
  · obtain ⟨hp, rfl⟩ := gd_o h
    exact ⟨_, ev_implProfileOf _ _ hp, rfl⟩
  · cases h

/- slices.Equal[[]int,int] -/
def K_slicesEqualInt : List AV → List Ob → Option (AV × List Ob)
  | [.lst (.int .i64) a, .lst (.int .i64) b], [] => gd (a.length < 4611686018427387904 ∧ b.length < 4611686018427387904) (.bool (decide (a = b)), [])
  | _, _ => none
@[reducible] def E_slicesEqualInt : Env := mkE (tb []) (fun f => false) (fun r => bif r == 4 then ([0, 1, 12, 13], [4]) else ([], []))
theorem lp_slicesEqualInt (a b : List Int) (hl : a.length = b.length) (ha : a.length < 4611686018427387904) (k : AX → S → Option (AV × List Ob)) (d : Nat) : ∀ (n i : Nat) (x : Int), a.length - i = d → i ≤ a.length → x = i → d < n →
    lpAt E_slicesEqualInt (lp E_slicesEqualInt 0 n) 0 (loopAt Tryz.f21 0) (mkS [0, 1, 12, 13] [.lst (.int .i64) a, .lst (.int .i64) b, .int .i64 a.length, .int .i64 x] []) k =
      if a.drop i = b.drop i then k (.exit 0) (mkS [4] [.any] []) else k .ret (mkS [4] [.bool false] []) := by
  induction d with
  | zero =>
    intro n i x hd hi hx hn
    subst hx
    rw [lpAt_def]
    conv => lhs; whnf
    refine br_f (df (by omega)) ?_
    conv => lhs; whnf
    rw [if_pos (by rw [List.drop_of_length_le (by omega), List.drop_of_length_le (by omega)])]
  | succ d ih =>
    intro n i x hd hi hx hn
    obtain ⟨n, rfl⟩ : ∃ m, n = m + 1 := ⟨n - 1, by omega⟩
    subst hx
    rw [lpAt_def]
    conv => lhs; whnf
    refine br_t (dt (by omega)) ?_
    conv => lhs; whnf
    refine br_t (dt2 (by omega) (by omega)) ?_
    conv => lhs; whnf
    refine br_t (dt2 (by omega) (by omega)) ?_
    conv => lhs; whnf
    rw [getD_drop (l := a) (i := i) (d := 0) (by omega), getD_drop (l := b) (i := i) (d := 0) (by omega)]
    refine br_t (by kernel_rfl) ?_
    conv => lhs; whnf
    refine br_c (fun h => ?_) (fun h => ?_)
    · conv => lhs; whnf
      rw [if_neg]
      intro he
      have := (List.cons.inj he).1
      simp at h
      exact h this
    · conv => lhs; whnf
      rw [ih n (i + 1) _ (by omega) (by omega) (by rw [wrap64 (by omega) (by omega)]; simp) (by omega)]
      simp at h
      simp [h]
theorem ev_slicesEqualInt (a b : List Int) (hp : a.length < 4611686018427387904 ∧ b.length < 4611686018427387904) : evF E_slicesEqualInt (a.length + 2) Tryz.f21 [.lst (.int .i64) a, .lst (.int .i64) b] [] = some (.bool (decide (a = b)), []) := by
  conv => lhs; whnf
  refine br_c (fun h => ?_) (fun h => ?_)
  · conv => lhs; whnf
    have : a ≠ b := by
      rintro rfl
      simp at h
    simp [this]
  · conv => lhs; whnf
    have hl : a.length = b.length := by simp at h; omega
    refine (lp_slicesEqualInt a b hl hp.1 _ _ _ 0 0 rfl (by omega) rfl (by omega)).trans ?_
    simp only [List.drop_zero]
    split
    · rename_i he
      conv => lhs; whnf
      simp [he]
    · rename_i he
      conv => lhs; whnf
      simp [he]
theorem ok_slicesEqualInt : FnOk Tryz.prog 21 K_slicesEqualInt := by
  refine fn_ok (fn := Tryz.f21) (k := Tryz.f21.ntmps) (E := E_slicesEqualInt) (facts_of (List.forall_mem_nil _)) (by kernel_rfl) rfl (by decide +kernel) (by decide +kernel) ?_
  intro avs hin r h
  unfold K_slicesEqualInt at h
  split at h
  · obtain ⟨hp, rfl⟩ := gd_o h
    exact ⟨_, ev_slicesEqualInt _ _ hp, rfl⟩
  · cases h

/- impl.profiles -/
def K_profilesF : List AV → List Ob → Option (AV × List Ob)
  | [.lst (.pair (.int .i64) (.int .i64)) l], [] => gd (l.length ≤ 64 ∧ extsB l = true) (.lst (.int .i64) (marksL l l.length 0), [])
  | _, _ => none
theorem ok_profilesF : FnOk Tryz.prog 22 K_profilesF := by
  refine FnOk.le (FnOk.frz ok_profiles) (fun avs hin p h => ?_)
  unfold K_profilesF at h
  split at h
  · obtain ⟨hp, rfl⟩ := gd_o h
    refine Eq.trans (frz_s (K := K_profiles) (p := ?p) ?hq) ?hr
    case hq => exact gd_s hp
    case hr => rfl
  · cases h

/- impl.FindMap -/
def K_implFindMap : List AV → List Ob → Option (AV × List Ob)
  | [.agg [.int .i64 m, .lst (.int .i64) a], .agg [.int .i64 n, .lst (.int .i64) b]], [] => gd (a.length ≤ 1048576 ∧ b.length ≤ 1048576) (.tup [.own 0, .bool (fmF m a n b).isSome], [.row 3 (.int .i64) ((fmF m a n b).getD [])])
  | _, _ => none
@[reducible] def E_implFindMap : Env := mkE (tb [(19, K_implConF), (20, K_implIsContext), (11, K_implProfileOf), (21, K_slicesEqualInt), (22, K_profilesF), (23, K_implFind0)]) (fun f => [23].contains f) (fun r => ([], []))
theorem ev_implFindMap (m : Int) (a : List Int) (n : Int) (b : List Int) (hp : a.length ≤ 1048576 ∧ b.length ≤ 1048576) : evF E_implFindMap (1) Tryz.f6 [.agg [.int .i64 m, .lst (.int .i64) a], .agg [.int .i64 n, .lst (.int .i64) b]] [] = some (.tup [.own 0, .bool (fmF m a n b).isSome], [.row 3 (.int .i64) ((fmF m a n b).getD [])]) := by
  have p1 := hp.1
  have p2 := hp.2
  have l1 := concF_len m a
  have l2 := concF_len n b
  have q1 := profF_len m a
  have q2 := profF_len n b
  have hpre := preF0 m a n b
  have hx1 := conc_exts m a
  have hx2 := conc_exts n b
  have hfeq := fnd_eq hx1 hx2 (marksL (concF m a) (concF m a).length 0) (marksL (concF n b) (concF n b).length 0) 64 [] rfl (Nat.zero_le _)
  obtain ⟨r, hr⟩ : ∃ r, r = fmF m a n b := ⟨_, rfl⟩
  rw [← hr]
  conv => lhs; whnf
  conv => lhs; arg 1; whnf
  refine bnd_g (by exact p1) ?_
  conv => lhs; whnf
  conv => lhs; arg 1; whnf
  refine bnd_g (by exact p2) ?_
  conv => lhs; whnf
  repeat ((first | with_reducible apply br_tt | with_reducible apply br_ff | with_reducible apply br_nf | with_reducible apply br_nt | with_reducible refine br_d ?_ (by kernel_rfl)); conv => lhs; whnf)
  conv => lhs; arg 1; whnf
  refine bnd_g (by omega) ?_
  conv => lhs; whnf
  refine br_c (fun h1 => ?_) (fun h1 => ?_)
  · have e : r = none := hr.trans (fm_c (bnt h1))
    conv => lhs; whnf
    repeat ((first | with_reducible apply br_tt | with_reducible apply br_ff | with_reducible apply br_nf | with_reducible apply br_nt | with_reducible refine br_d ?_ (by kernel_rfl) | with_reducible apply br_t h1 | with_reducible apply br_f h1); conv => lhs; whnf)
    rw [e]
    rfl
  · conv => lhs; whnf
    repeat ((first | with_reducible apply br_tt | with_reducible apply br_ff | with_reducible apply br_nf | with_reducible apply br_nt | with_reducible refine br_d ?_ (by kernel_rfl) | with_reducible apply br_t h1 | with_reducible apply br_f h1); conv => lhs; whnf)
    conv => lhs; arg 1; whnf
    refine bnd_g (by omega) ?_
    conv => lhs; whnf
    repeat ((first | with_reducible apply br_tt | with_reducible apply br_ff | with_reducible apply br_nf | with_reducible apply br_nt | with_reducible refine br_d ?_ (by kernel_rfl) | with_reducible apply br_t h1 | with_reducible apply br_f h1); conv => lhs; whnf)
    refine br_c (fun h2 => ?_) (fun h2 => ?_)
    · have e : r = none := hr.trans (fm_d (bnt h2))
      conv => lhs; whnf
      repeat ((first | with_reducible apply br_tt | with_reducible apply br_ff | with_reducible apply br_nf | with_reducible apply br_nt | with_reducible refine br_d ?_ (by kernel_rfl) | with_reducible apply br_t h1 | with_reducible apply br_f h1 | with_reducible apply br_t h2 | with_reducible apply br_f h2); conv => lhs; whnf)
      rw [e]
      rfl
    · conv => lhs; whnf
      repeat ((first | with_reducible apply br_tt | with_reducible apply br_ff | with_reducible apply br_nf | with_reducible apply br_nt | with_reducible refine br_d ?_ (by kernel_rfl) | with_reducible apply br_t h1 | with_reducible apply br_f h1 | with_reducible apply br_t h2 | with_reducible apply br_f h2); conv => lhs; whnf)
      refine br_c (fun h3 => ?_) (fun h3 => ?_)
      · have e : r = none := hr.trans (fm_1 h3)
        conv => lhs; whnf
        repeat ((first | with_reducible apply br_tt | with_reducible apply br_ff | with_reducible apply br_nf | with_reducible apply br_nt | with_reducible refine br_d ?_ (by kernel_rfl) | with_reducible apply br_t h1 | with_reducible apply br_f h1 | with_reducible apply br_t h2 | with_reducible apply br_f h2 | with_reducible apply br_t h3 | with_reducible apply br_f h3); conv => lhs; whnf)
        rw [e]
        rfl
      · conv => lhs; whnf
        repeat ((first | with_reducible apply br_tt | with_reducible apply br_ff | with_reducible apply br_nf | with_reducible apply br_nt | with_reducible refine br_d ?_ (by kernel_rfl) | with_reducible apply br_t h1 | with_reducible apply br_f h1 | with_reducible apply br_t h2 | with_reducible apply br_f h2 | with_reducible apply br_t h3 | with_reducible apply br_f h3); conv => lhs; whnf)
        refine br_c (fun h4 => ?_) (fun h4 => ?_)
        · have e : r = none := hr.trans (fm_2 h4)
          conv => lhs; whnf
          repeat ((first | with_reducible apply br_tt | with_reducible apply br_ff | with_reducible apply br_nf | with_reducible apply br_nt | with_reducible refine br_d ?_ (by kernel_rfl) | with_reducible apply br_t h1 | with_reducible apply br_f h1 | with_reducible apply br_t h2 | with_reducible apply br_f h2 | with_reducible apply br_t h3 | with_reducible apply br_f h3 | with_reducible apply br_t h4 | with_reducible apply br_f h4); conv => lhs; whnf)
          rw [e]
          rfl
        · conv => lhs; whnf
          repeat ((first | with_reducible apply br_tt | with_reducible apply br_ff | with_reducible apply br_nf | with_reducible apply br_nt | with_reducible refine br_d ?_ (by kernel_rfl) | with_reducible apply br_t h1 | with_reducible apply br_f h1 | with_reducible apply br_t h2 | with_reducible apply br_f h2 | with_reducible apply br_t h3 | with_reducible apply br_f h3 | with_reducible apply br_t h4 | with_reducible apply br_f h4); conv => lhs; whnf)
          conv => lhs; arg 1; whnf
          refine bnd_g (by exact p1) ?_
          conv => lhs; whnf
          repeat ((first | with_reducible apply br_tt | with_reducible apply br_ff | with_reducible apply br_nf | with_reducible apply br_nt | with_reducible refine br_d ?_ (by kernel_rfl) | with_reducible apply br_t h1 | with_reducible apply br_f h1 | with_reducible apply br_t h2 | with_reducible apply br_f h2 | with_reducible apply br_t h3 | with_reducible apply br_f h3 | with_reducible apply br_t h4 | with_reducible apply br_f h4); conv => lhs; whnf)
          conv => lhs; arg 1; whnf
          refine bnd_g (by exact p2) ?_
          conv => lhs; whnf
          repeat ((first | with_reducible apply br_tt | with_reducible apply br_ff | with_reducible apply br_nf | with_reducible apply br_nt | with_reducible refine br_d ?_ (by kernel_rfl) | with_reducible apply br_t h1 | with_reducible apply br_f h1 | with_reducible apply br_t h2 | with_reducible apply br_f h2 | with_reducible apply br_t h3 | with_reducible apply br_f h3 | with_reducible apply br_t h4 | with_reducible apply br_f h4); conv => lhs; whnf)
          conv => lhs; arg 1; whnf
          refine bnd_g (by exact ⟨by omega, by omega⟩) ?_
          conv => lhs; whnf
          repeat ((first | with_reducible apply br_tt | with_reducible apply br_ff | with_reducible apply br_nf | with_reducible apply br_nt | with_reducible refine br_d ?_ (by kernel_rfl) | with_reducible apply br_t h1 | with_reducible apply br_f h1 | with_reducible apply br_t h2 | with_reducible apply br_f h2 | with_reducible apply br_t h3 | with_reducible apply br_f h3 | with_reducible apply br_t h4 | with_reducible apply br_f h4); conv => lhs; whnf)
          refine br_c (fun h5 => ?_) (fun h5 => ?_)
          · have e : r = none := hr.trans (fm_3 h5)
            conv => lhs; whnf
            repeat ((first | with_reducible apply br_tt | with_reducible apply br_ff | with_reducible apply br_nf | with_reducible apply br_nt | with_reducible refine br_d ?_ (by kernel_rfl) | with_reducible apply br_t h1 | with_reducible apply br_f h1 | with_reducible apply br_t h2 | with_reducible apply br_f h2 | with_reducible apply br_t h3 | with_reducible apply br_f h3 | with_reducible apply br_t h4 | with_reducible apply br_f h4 | with_reducible apply br_t h5 | with_reducible apply br_f h5); conv => lhs; whnf)
            rw [e]
            rfl
          · have h0 : ((concF m a).length : Int) ≠ 0 := by
              have := concF_pos (bnf h1)
              omega
            have e := hr.trans (fm_4 (by simpa using h0) h3 h4 h5)
            have hn : ([] : List Int).length ≠ (concF m a).length := by
              have := concF_pos (bnf h1)
              simp only [List.length_nil]
              omega
            conv => lhs; whnf
            repeat ((first | with_reducible apply br_tt | with_reducible apply br_ff | with_reducible apply br_nf | with_reducible apply br_nt | with_reducible refine br_d ?_ (by kernel_rfl) | with_reducible apply br_t h1 | with_reducible apply br_f h1 | with_reducible apply br_t h2 | with_reducible apply br_f h2 | with_reducible apply br_t h3 | with_reducible apply br_f h3 | with_reducible apply br_t h4 | with_reducible apply br_f h4 | with_reducible apply br_t h5 | with_reducible apply br_f h5); conv => lhs; whnf)
            conv => lhs; arg 1; whnf
            refine bnd_g (by exact ⟨l1, hx1⟩) ?_
            conv => lhs; whnf
            conv => lhs; arg 1; whnf
            refine bnd_g (by exact ⟨l2, hx2⟩) ?_
            conv => lhs; whnf
            repeat ((first | with_reducible apply br_tt | with_reducible apply br_ff | with_reducible apply br_nf | with_reducible apply br_nt | with_reducible refine br_d ?_ (by kernel_rfl)); conv => lhs; whnf)
            refine Or.elim (opt_or (fndR (concF m a).length (concF n b).length (oks1 (concF m a) (concF n b) (marksL (concF m a) (concF m a).length 0) (marksL (concF n b) (concF n b).length 0)) 64 [])) (fun hz => ?_) (fun hz => Exists.elim hz fun z hz => ?_)
            · have e2 := e.trans hz
              refine bnd_s (Kj_none ⟨hpre, hn⟩ (hfeq.trans hz)) ?_
              conv => lhs; whnf
              repeat ((first | with_reducible apply br_tt | with_reducible apply br_ff | with_reducible apply br_nf | with_reducible apply br_nt | with_reducible refine br_d ?_ (by kernel_rfl)); conv => lhs; whnf)
              rw [e2]
              rfl
            · have e2 := e.trans hz
              refine bnd_s (Kj_some ⟨hpre, hn⟩ (hfeq.trans hz)) ?_
              conv => lhs; whnf
              repeat ((first | with_reducible apply br_tt | with_reducible apply br_ff | with_reducible apply br_nf | with_reducible apply br_nt | with_reducible refine br_d ?_ (by kernel_rfl)); conv => lhs; whnf)
              rw [e2]
              rfl
theorem ok_implFindMap : FnOk Tryz.prog 6 K_implFindMap := by
  refine fn_ok (fn := Tryz.f6) (k := Tryz.f6.ntmps) (E := E_implFindMap) (facts_of (List.forall_mem_cons.2 ⟨ok_implConF, List.forall_mem_cons.2 ⟨ok_implIsContext, List.forall_mem_cons.2 ⟨ok_implProfileOf, List.forall_mem_cons.2 ⟨ok_slicesEqualInt, List.forall_mem_cons.2 ⟨ok_profilesF, List.forall_mem_cons.2 ⟨ok_implFind0, List.forall_mem_nil _⟩⟩⟩⟩⟩⟩)) (by kernel_rfl) rfl (by decide +kernel) (by decide +kernel) ?_
  intro avs hin r h
  unfold K_implFindMap at h
  split at h
  · obtain ⟨hp, rfl⟩ := gd_o h
    exact ⟨_, ev_implFindMap _ _ _ _ hp, rfl⟩
  · cases h

/- spec.HasMap -/
def K_specHasMap : List AV → List Ob → Option (AV × List Ob)
  | [.agg [.int .i64 m, .lst (.int .i64) a], .agg [.int .i64 n, .lst (.int .i64) b]], [] => gd (a.length ≤ 1048576 ∧ b.length ≤ 1048576) (.bool (fmF m a n b).isSome, [])
  | _, _ => none
@[reducible] def E_specHasMap : Env := mkE (tb [(7, K_specFindMap)]) (fun f => false) (fun r => ([], []))
theorem ev_specHasMap (m : Int) (a : List Int) (n : Int) (b : List Int) (hp : a.length ≤ 1048576 ∧ b.length ≤ 1048576) : evF E_specHasMap (1) Tryz.f14 [.agg [.int .i64 m, .lst (.int .i64) a], .agg [.int .i64 n, .lst (.int .i64) b]] [] = some (.bool (fmF m a n b).isSome, []) := by
  conv => lhs; whnf
  conv => lhs; arg 1; whnf
  refine bnd_g (by exact hp) ?_
  conv => lhs; whnf
theorem ok_specHasMap : FnOk Tryz.prog 14 K_specHasMap := by
  refine fn_ok (fn := Tryz.f14) (k := Tryz.f14.ntmps) (E := E_specHasMap) (facts_of (List.forall_mem_cons.2 ⟨ok_specFindMap, List.forall_mem_nil _⟩)) (by kernel_rfl) rfl (by decide +kernel) (by decide +kernel) ?_
  intro avs hin r h
  unfold K_specHasMap at h
  split at h
  · obtain ⟨hp, rfl⟩ := gd_o h
    exact ⟨_, ev_specHasMap _ _ _ _ hp, rfl⟩
  · cases h

/- impl.HasMap -/
def K_implHasMap : List AV → List Ob → Option (AV × List Ob)
  | [.agg [.int .i64 m, .lst (.int .i64) a], .agg [.int .i64 n, .lst (.int .i64) b]], [] => gd (a.length ≤ 1048576 ∧ b.length ≤ 1048576) (.bool (fmF m a n b).isSome, [])
  | _, _ => none
@[reducible] def E_implHasMap : Env := mkE (tb [(6, K_implFindMap)]) (fun f => false) (fun r => ([], []))
theorem ev_implHasMap (m : Int) (a : List Int) (n : Int) (b : List Int) (hp : a.length ≤ 1048576 ∧ b.length ≤ 1048576) : evF E_implHasMap (1) Tryz.f13 [.agg [.int .i64 m, .lst (.int .i64) a], .agg [.int .i64 n, .lst (.int .i64) b]] [] = some (.bool (fmF m a n b).isSome, []) := by
  conv => lhs; whnf
  conv => lhs; arg 1; whnf
  refine bnd_g (by exact hp) ?_
  conv => lhs; whnf
theorem ok_implHasMap : FnOk Tryz.prog 13 K_implHasMap := by
  refine fn_ok (fn := Tryz.f13) (k := Tryz.f13.ntmps) (E := E_implHasMap) (facts_of (List.forall_mem_cons.2 ⟨ok_implFindMap, List.forall_mem_nil _⟩)) (by kernel_rfl) rfl (by decide +kernel) (by decide +kernel) ?_
  intro avs hin r h
  unfold K_implHasMap at h
  split at h
  · obtain ⟨hp, rfl⟩ := gd_o h
    exact ⟨_, ev_implHasMap _ _ _ _ hp, rfl⟩
  · cases h

end Go.Sym
