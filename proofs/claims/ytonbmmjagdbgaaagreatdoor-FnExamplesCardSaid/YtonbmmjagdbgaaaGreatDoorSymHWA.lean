/- Functions of the program, each told as a plain equation. -/
import Derived.Test.YtonbmmjagdbgaaaGreatDoorSymHHA
namespace Go.Sym
open Go.Proofs
set_option linter.unusedVariables false
set_option linter.unusedSimpArgs false
set_option maxRecDepth 100000
set_option maxHeartbeats 4000000

/-- The library's stable sort, as it goes. -/
def swp (ys : List Int) (i j : Nat) : List Int := (ys.set i (ys.getD j 0)).set j (ys.getD i 0)
theorem swp_len (ys : List Int) (i j : Nat) : (swp ys i j).length = ys.length := by unfold swp; simp
def ltC (x y : Int) : Bool := decide (cntF x - cntF y < 0)
def downF (a : Nat) : Nat → List Int → List Int
  | 0, ys => ys
  | j + 1, ys => bif decide (a < j + 1) && ltC (ys.getD (j + 1) 0) (ys.getD j 0) then downF a j (swp ys (j + 1) j) else ys
theorem downF_len (a : Nat) : ∀ (j : Nat) (ys : List Int), (downF a j ys).length = ys.length
  | 0, _ => rfl
  | j + 1, ys => by
    rw [downF]
    cases decide (a < j + 1) && ltC (ys.getD (j + 1) 0) (ys.getD j 0)
    · rfl
    · rw [cond_true, downF_len a j, swp_len]
def insFrom (a : Nat) : Nat → Nat → List Int → List Int
  | 0, _, ys => ys
  | d + 1, i, ys => insFrom a d (i + 1) (downF a i ys)
theorem insFrom_len (a : Nat) : ∀ (d i : Nat) (ys : List Int), (insFrom a d i ys).length = ys.length
  | 0, _, _ => rfl
  | d + 1, i, ys => by rw [insFrom, insFrom_len a d, downF_len]
def insSort (ys : List Int) (a b : Nat) : List Int := insFrom a (b - (a + 1)) (a + 1) ys
theorem insSort_len (ys : List Int) (a b : Nat) : (insSort ys a b).length = ys.length := insFrom_len a _ _ _
def swapR : Nat → Nat → Nat → List Int → List Int
  | 0, _, _, ys => ys
  | d + 1, i, j, ys => swapR d (i + 1) (j + 1) (swp ys i j)
theorem swapR_len : ∀ (d i j : Nat) (ys : List Int), (swapR d i j ys).length = ys.length
  | 0, _, _, _ => rfl
  | d + 1, i, j, ys => by rw [swapR, swapR_len d, swp_len]
def rotF (m : Nat) : Nat → Nat → Nat → List Int → List Int
  | 0, _, _, ys => ys
  | d + 1, i, j, ys => bif decide (i = j) then swapR i (m - i) m ys else
      bif decide (i > j) then rotF m d (i - j) j (swapR j (m - i) m ys) else rotF m d i (j - i) (swapR i (m - i) (m + j - i) ys)
theorem rotF_len (m : Nat) : ∀ (d i j : Nat) (ys : List Int), (rotF m d i j ys).length = ys.length
  | 0, _, _, _ => rfl
  | d + 1, i, j, ys => by
    rw [rotF]
    cases decide (i = j)
    · cases decide (i > j)
      · rw [cond_false, cond_false, rotF_len m d, swapR_len]
      · rw [cond_false, cond_true, rotF_len m d, swapR_len]
    · rw [cond_true, swapR_len]
def binF (p : Nat → Bool) : Nat → Nat → Nat → Nat
  | 0, i, _ => i
  | d + 1, i, j => bif decide (i < j) then (bif p ((i + j) / 2) then binF p d ((i + j) / 2 + 1) j else binF p d i ((i + j) / 2)) else i
theorem binF_rng (p : Nat → Bool) : ∀ (d i j : Nat), i ≤ j → i ≤ binF p d i j ∧ binF p d i j ≤ j
  | 0, i, j, h => ⟨Nat.le_refl i, h⟩
  | d + 1, i, j, h => by
    rw [binF]
    by_cases hij : i < j
    · rw [decide_eq_true hij, cond_true]
      cases p ((i + j) / 2)
      · rw [cond_false]
        have := binF_rng p d i ((i + j) / 2) (by omega)
        omega
      · rw [cond_true]
        have := binF_rng p d ((i + j) / 2 + 1) j (by omega)
        omega
    · rw [decide_eq_false hij, cond_false]
      omega
def upF : Nat → Nat → List Int → List Int
  | 0, _, ys => ys
  | d + 1, k, ys => upF d (k + 1) (swp ys k (k + 1))
theorem upF_len : ∀ (d k : Nat) (ys : List Int), (upF d k ys).length = ys.length
  | 0, _, _ => rfl
  | d + 1, k, ys => by rw [upF, upF_len d, swp_len]
def dnF : Nat → Nat → List Int → List Int
  | 0, _, ys => ys
  | d + 1, k, ys => dnF d (k - 1) (swp ys k (k - 1))
theorem dnF_len : ∀ (d k : Nat) (ys : List Int), (dnF d k ys).length = ys.length
  | 0, _, _ => rfl
  | d + 1, k, ys => by rw [dnF, dnF_len d, swp_len]
def midF (a b : Nat) : Nat := (a + b) / 2
def st0F (a m b : Nat) : Nat := bif decide (m > midF a b) then midF a b + m - b else a
def r0F (a m b : Nat) : Nat := bif decide (m > midF a b) then midF a b else m
def stF' (ys : List Int) (a m b : Nat) : Nat := binF (fun c => !ltC (ys.getD (midF a b + m - 1 - c) 0) (ys.getD c 0)) 64 (st0F a m b) (r0F a m b)
def symM : Nat → Nat → Nat → Nat → List Int → List Int
  | 0, _, _, _, ys => ys
  | d + 1, a, m, b, ys =>
    bif decide (m - a = 1) then upF (binF (fun h => ltC (ys.getD h 0) (ys.getD a 0)) 64 m b - 1 - a) a ys else
    bif decide (b - m = 1) then dnF (m - binF (fun h => !ltC (ys.getD m 0) (ys.getD h 0)) 64 a m) m ys else
    (fun (st en : Nat) => (fun y1 => (fun y2 => bif decide (midF a b < en ∧ en < b) then symM d (midF a b) en b y2 else y2)
      (bif decide (a < st ∧ st < midF a b) then symM d a st (midF a b) y1 else y1))
      (bif decide (st < m ∧ m < en) then rotF m 200 (m - st) (en - m) ys else ys)) (stF' ys a m b) (midF a b + m - stF' ys a m b)
theorem symM_len : ∀ (d a m b : Nat) (ys : List Int), (symM d a m b ys).length = ys.length
  | 0, _, _, _, _ => rfl
  | d + 1, a, m, b, ys => by
    rw [symM]
    cases decide (m - a = 1)
    · cases decide (b - m = 1)
      · simp only [cond_false]
        generalize stF' ys a m b = st
        generalize midF a b + m - st = en
        have h1 : (bif decide (st < m ∧ m < en) then rotF m 200 (m - st) (en - m) ys else ys).length = ys.length := by
          cases decide (st < m ∧ m < en)
          · rfl
          · rw [cond_true, rotF_len]
        generalize (bif decide (st < m ∧ m < en) then rotF m 200 (m - st) (en - m) ys else ys) = y1 at h1
        have h2 : (bif decide (a < st ∧ st < midF a b) then symM d a st (midF a b) y1 else y1).length = ys.length := by
          cases decide (a < st ∧ st < midF a b)
          · exact h1
          · rw [cond_true, symM_len d, h1]
        generalize (bif decide (a < st ∧ st < midF a b) then symM d a st (midF a b) y1 else y1) = y2 at h2
        cases decide (midF a b < en ∧ en < b)
        · exact h2
        · rw [cond_true, symM_len d, h2]
      · rw [cond_false, cond_true, dnF_len]
    · rw [cond_true, upF_len]
def blksF (n : Nat) : Nat → Nat → List Int → List Int
  | 0, _, ys => ys
  | d + 1, a, ys => bif decide (a + 20 ≤ n) then blksF n d (a + 20) (insSort ys a (a + 20)) else insSort ys a n
def mrgF (n bs : Nat) : Nat → Nat → List Int → List Int
  | 0, _, ys => ys
  | d + 1, a, ys => bif decide (a + 2 * bs ≤ n) then mrgF n bs d (a + 2 * bs) (symM 6 a (a + bs) (a + 2 * bs) ys) else
      bif decide (a + bs < n) then symM 6 a (a + bs) n ys else ys
def lvlF (n : Nat) : Nat → Nat → List Int → List Int
  | 0, _, ys => ys
  | d + 1, bs, ys => bif decide (bs < n) then lvlF n d (bs * 2) (mrgF n bs 5 0 ys) else ys
def stableF (ys : List Int) : List Int := lvlF ys.length 5 20 (blksF ys.length 5 0 ys)
theorem blksF_len (n : Nat) : ∀ (d a : Nat) (ys : List Int), (blksF n d a ys).length = ys.length
  | 0, _, _ => rfl
  | d + 1, a, ys => by
    rw [blksF]
    cases decide (a + 20 ≤ n)
    · rw [cond_false, insSort_len]
    · rw [cond_true, blksF_len n d, insSort_len]
theorem mrgF_len (n bs : Nat) : ∀ (d a : Nat) (ys : List Int), (mrgF n bs d a ys).length = ys.length
  | 0, _, _ => rfl
  | d + 1, a, ys => by
    rw [mrgF]
    cases decide (a + 2 * bs ≤ n)
    · cases decide (a + bs < n)
      · rfl
      · rw [cond_false, cond_true, symM_len]
    · rw [cond_true, mrgF_len n bs d, symM_len]
/- math/bits.OnesCount64 -/
def K_onesCount64 : List AV → List Ob → Option (AV × List Ob)
  | [.int .u64 s], [] => gd (0 ≤ s ∧ s ≤ 255) (.int .i64 (popF 8 s.toNat : Int), [])
  | _, _ => none
@[reducible] def E_onesCount64 : Env := mkE (tb []) (fun f => false) (fun r => ([], []))
theorem ev_onesCount64 (s : Int) (hp : 0 ≤ s ∧ s ≤ 255) : evF E_onesCount64 (1) Tryz.f265 [.int .u64 s] [] = some (.int .i64 (popF 8 s.toNat : Int), []) := by
  conv => lhs; whnf
  refine br_f (df (by omega)) ?_
  conv => lhs; whnf
  refine br_f (df (by omega)) ?_
  conv => lhs; whnf
  refine br_f (df (by omega)) ?_
  conv => lhs; whnf
  refine br_f (df (by omega)) ?_
  conv => lhs; whnf
  refine br_f (df (by omega)) ?_
  conv => lhs; whnf
  refine br_f (df (by omega)) ?_
  conv => lhs; whnf
  refine okI ?_
  obtain ⟨n, hn⟩ : ∃ n : Fin 256, s = ((n.val : Nat) : Int) := ⟨⟨s.toNat, by omega⟩, by dsimp only; omega⟩
  subst hn
  clear hp
  revert n
  decide +kernel
theorem ok_onesCount64 : FnOk Tryz.prog 265 K_onesCount64 := by
  refine fn_ok (fn := Tryz.f265) (k := Tryz.f265.ntmps) (E := E_onesCount64) (facts_of (List.forall_mem_nil _)) (by kernel_rfl) rfl (by decide +kernel) (by decide +kernel) ?_
  intro avs hin r h
  unfold K_onesCount64 at h
  split at h
  · obtain ⟨hp, rfl⟩ := gd_o h
    exact ⟨_, ev_onesCount64 _ hp, rfl⟩
  · cases h

/- math/bits.OnesCount -/
def K_onesCount : List AV → List Ob → Option (AV × List Ob)
  | [.int .u64 s], [] => gd (0 ≤ s ∧ s ≤ 255) (.int .i64 (popF 8 s.toNat : Int), [])
  | _, _ => none
@[reducible] def E_onesCount : Env := mkE (tb [(265, K_onesCount64)]) (fun f => false) (fun r => ([], []))
theorem ev_onesCount (s : Int) (hp : 0 ≤ s ∧ s ≤ 255) : evF E_onesCount (1) Tryz.f234 [.int .u64 s] [] = some (.int .i64 (popF 8 s.toNat : Int), []) := by
  conv => lhs; whnf
  repeat ((first | with_reducible apply br_tt | with_reducible apply br_ff | with_reducible apply br_nf | with_reducible apply br_nt | with_reducible refine br_d ?_ (by kernel_rfl)); conv => lhs; whnf)
  conv => lhs; arg 1; whnf
  refine bnd_g (by exact hp) ?_
  conv => lhs; whnf
theorem ok_onesCount : FnOk Tryz.prog 234 K_onesCount := by
  refine fn_ok (fn := Tryz.f234) (k := Tryz.f234.ntmps) (E := E_onesCount) (facts_of (List.forall_mem_cons.2 ⟨ok_onesCount64, List.forall_mem_nil _⟩)) (by kernel_rfl) rfl (by decide +kernel) (by decide +kernel) ?_
  intro avs hin r h
  unfold K_onesCount at h
  split at h
  · obtain ⟨hp, rfl⟩ := gd_o h
    exact ⟨_, ev_onesCount _ hp, rfl⟩
  · cases h

/- impl.CountOf -/
def K_implCountOf : List AV → List Ob → Option (AV × List Ob)
  | [.int .i64 s], [] => gd (True) (.int .i64 (cntF s), [])
  | _, _ => none
@[reducible] def E_implCountOf : Env := mkE (tb [(182, K_isAnySet), (234, K_onesCount)]) (fun f => false) (fun r => ([], []))
theorem ev_implCountOf (s : Int) (hp : True) : evF E_implCountOf (1) Tryz.f211 [.int .i64 s] [] = some (.int .i64 (cntF s), []) := by
  conv => lhs; whnf
  conv => lhs; arg 1; whnf
  refine bnd_g (by exact True.intro) ?_
  conv => lhs; whnf
  refine br_c (fun h => ?_) (fun h => ?_)
  · conv => lhs; whnf
    unfold cntF
    rw [if_neg (by rw [bnt h]; exact Bool.false_ne_true)]
  · have hs := isSet_le (bnf h)
    conv => lhs; whnf
    have e : IntKind.u64.wrap s = s := by
      simp [IntKind.wrap, IntKind.bits, IntKind.signed]
      omega
    rw [e]
    conv => lhs; arg 1; whnf
    refine bnd_g (by exact ⟨by omega, by omega⟩) ?_
    conv => lhs; whnf
    refine okI ?_
    unfold cntF
    rw [if_pos (bnf h)]
theorem ok_implCountOf : FnOk Tryz.prog 211 K_implCountOf := by
  refine fn_ok (fn := Tryz.f211) (k := Tryz.f211.ntmps) (E := E_implCountOf) (facts_of (List.forall_mem_cons.2 ⟨ok_isAnySet, List.forall_mem_cons.2 ⟨ok_onesCount, List.forall_mem_nil _⟩⟩)) (by kernel_rfl) rfl (by decide +kernel) (by decide +kernel) ?_
  intro avs hin r h
  unfold K_implCountOf at h
  split at h
  · obtain ⟨hp, rfl⟩ := gd_o h
    exact ⟨_, ev_implCountOf _ hp, rfl⟩
  · cases h

/- impl.stem$1 -/
def K_stem1 : List AV → List Ob → Option (AV × List Ob)
  | [.int .i64 s, .int .i64 t], [] => gd (True) (.int .i64 (cntF s - cntF t), [])
  | _, _ => none
@[reducible] def E_stem1 : Env := mkE (tb [(211, K_implCountOf)]) (fun f => false) (fun r => ([], []))
theorem ev_stem1 (s t : Int) (hp : True) : evF E_stem1 (1) Tryz.f210 [.int .i64 s, .int .i64 t] [] = some (.int .i64 (cntF s - cntF t), []) := by
  have h1 := cntF_rng s
  have h2 := cntF_rng t
  conv => lhs; whnf
  conv => lhs; arg 1; whnf
  refine bnd_g (by exact True.intro) ?_
  conv => lhs; whnf
  conv => lhs; arg 1; whnf
  refine bnd_g (by exact True.intro) ?_
  conv => lhs; whnf
  exact okI (wrap64 (by omega) (by omega))
theorem ok_stem1 : FnOk Tryz.prog 210 K_stem1 := by
  refine fn_ok (fn := Tryz.f210) (k := Tryz.f210.ntmps) (E := E_stem1) (facts_of (List.forall_mem_cons.2 ⟨ok_implCountOf, List.forall_mem_nil _⟩)) (by kernel_rfl) rfl (by decide +kernel) (by decide +kernel) ?_
  intro avs hin r h
  unfold K_stem1 at h
  split at h
  · obtain ⟨hp, rfl⟩ := gd_o h
    exact ⟨_, ev_stem1 _ _ hp, rfl⟩
  · cases h

/- slices.swapRangeCmpFunc[int] -/
def K_swapRange : List AV → List Ob → Option (AV × List Ob)
  | [.own 0, .int .i64 a, .int .i64 b, .int .i64 m, .clo 210 []], [.row 3 (.int .i64) ys] => gd ((0 ≤ a ∧ 0 ≤ b ∧ 0 ≤ m) ∧ a + m ≤ ys.length ∧ b + m ≤ ys.length ∧ ys.length ≤ 64) (.tup [], [.row 3 (.int .i64) (swapR m.toNat a.toNat b.toNat ys)])
  | _, _ => none
@[reducible] def E_swapRange : Env := mkE (tb []) (fun f => false) (fun r => bif r == 1 then ([0, 1, 2, 3, 10], [0]) else ([], []))
theorem lp_swapRange (a b m : Nat) (k : AX → S → Option (AV × List Ob)) (d : Nat) : ∀ (n i : Nat) (x : Int) (ys : List Int), m - i = d → i ≤ m → x = i → d < n → a + m ≤ ys.length → b + m ≤ ys.length → ys.length ≤ 64 →
    lpAt E_swapRange (lp E_swapRange 1 n) 1 (loopAt Tryz.f288 0) (mkS [0, 1, 2, 3, 10] [.own 0, .int .i64 (a : Int), .int .i64 (b : Int), .int .i64 (m : Int), .int .i64 x] [some (.row 3 (.int .i64) ys)]) k =
      k (.exit 0) (mkS [0] [.own 0] [some (.row 3 (.int .i64) (swapR d (a + i) (b + i) ys))]) := by
  induction d with
  | zero =>
    intro n i x ys hd hi hx hn h1 h2 h3
    subst hx
    rw [lpAt_def]
    conv => lhs; whnf
    refine br_f (df (by omega)) ?_
    conv => lhs; whnf
    rfl
  | succ d ih =>
    intro n i x ys hd hi hx hn h1 h2 h3
    obtain ⟨n, rfl⟩ : ∃ m, n = m + 1 := ⟨n - 1, by omega⟩
    subst hx
    have ea : IntKind.i64.wrap ((a : Int) + (i : Int)) = ((a + i : Nat) : Int) := by rw [wrap64 (by omega) (by omega)]; push_cast; rfl
    have eb : IntKind.i64.wrap ((b : Int) + (i : Int)) = ((b + i : Nat) : Int) := by rw [wrap64 (by omega) (by omega)]; push_cast; rfl
    have ea' : (IntKind.i64.wrap ((a : Int) + (i : Int))).toNat = a + i := by rw [ea]; rfl
    have eb' : (IntKind.i64.wrap ((b : Int) + (i : Int))).toNat = b + i := by rw [eb]; rfl
    rw [lpAt_def]
    conv => lhs; whnf
    refine br_t (dt (by omega)) ?_
    conv => lhs; whnf
    refine br_t (by exact dt2 (by rw [eb]; omega) (by rw [eb]; omega)) ?_
    conv => lhs; whnf
    refine br_t (by exact dt (by rw [eb']; omega)) ?_
    conv => lhs; whnf
    refine br_t (by exact dt2 (by rw [ea]; omega) (by rw [ea]; omega)) ?_
    conv => lhs; whnf
    refine br_t (by exact dt (by rw [ea']; omega)) ?_
    conv => lhs; whnf
    refine br_t (by exact dt2 (by rw [ea]; omega) (by rw [ea]; omega)) ?_
    conv => lhs; whnf
    refine br_t (by exact dt (by rw [ea']; omega)) ?_
    conv => lhs; whnf
    refine br_t (by exact dt2 (by rw [eb]; omega) (by rw [List.length_set, eb]; omega)) ?_
    conv => lhs; whnf
    refine br_t (by exact dt (by rw [List.length_set, eb']; omega)) ?_
    conv => lhs; whnf
    repeat ((first | with_reducible apply br_tt | with_reducible apply br_ff | with_reducible apply br_nf | with_reducible apply br_nt | with_reducible refine br_d ?_ (by kernel_rfl)); conv => lhs; whnf)
    refine Eq.trans (ih n (i + 1) _ _ (by omega) (by omega) (by rw [wrap64 (n := (i : Int) + 1) (by omega) (by omega)]; simp) (by omega) (by rw [List.length_set, List.length_set]; omega) (by rw [List.length_set, List.length_set]; omega) (by rw [List.length_set, List.length_set]; omega)) ?_
    rw [ea', eb']
    rfl
theorem ev_swapRange (a b m : Int) (ys : List Int) (hp : (0 ≤ a ∧ 0 ≤ b ∧ 0 ≤ m) ∧ a + m ≤ ys.length ∧ b + m ≤ ys.length ∧ ys.length ≤ 64) : evF E_swapRange (70) Tryz.f288 [.own 0, .int .i64 a, .int .i64 b, .int .i64 m, .clo 210 []] [.row 3 (.int .i64) ys] = some (.tup [], [.row 3 (.int .i64) (swapR m.toNat a.toNat b.toNat ys)]) := by
  obtain ⟨⟨h1, h2, h3⟩, h4, h5, h6⟩ := hp
  obtain ⟨a, rfl⟩ : ∃ j : Nat, a = j := ⟨a.toNat, by omega⟩
  obtain ⟨b, rfl⟩ : ∃ j : Nat, b = j := ⟨b.toNat, by omega⟩
  obtain ⟨m, rfl⟩ : ∃ j : Nat, m = j := ⟨m.toNat, by omega⟩
  conv => lhs; whnf
  refine (lp_swapRange a b m _ m _ 0 0 ys rfl (Nat.zero_le _) rfl (by change _ < 69; omega) (by omega) (by omega) h6).trans ?_
  conv => lhs; whnf
  rfl
theorem ok_swapRange : FnOk Tryz.prog 288 K_swapRange := by
  refine fn_ok (fn := Tryz.f288) (k := Tryz.f288.ntmps) (E := E_swapRange) (facts_of (List.forall_mem_nil _)) (by kernel_rfl) rfl (by decide +kernel) (by decide +kernel) ?_
  intro avs hin r h
  unfold K_swapRange at h
  split at h
  · obtain ⟨hp, rfl⟩ := gd_o h
    exact ⟨_, ev_swapRange _ _ _ _ hp, rfl⟩
  · cases h

/- slices.rotateCmpFunc[int] -/
def K_rotateC : List AV → List Ob → Option (AV × List Ob)
  | [.own 0, .int .i64 a, .int .i64 m, .int .i64 b, .clo 210 []], [.row 3 (.int .i64) ys] => gd ((0 ≤ a ∧ a < m ∧ m < b) ∧ b ≤ ys.length ∧ ys.length ≤ 64) (.tup [], [.row 3 (.int .i64) (rotF m.toNat 200 (m.toNat - a.toNat) (b.toNat - m.toNat) ys)])
  | _, _ => none
@[reducible] def E_rotateC : Env := mkE (tb [(288, K_swapRange)]) (fun f => [288].contains f) (fun r => bif r == 2 then ([0, 2, 4, 10, 11], [0, 2, 4, 10]) else ([], []))
theorem lp_rotateC (m : Nat) (k : AX → S → Option (AV × List Ob)) (d : Nat) : ∀ (n : Nat) (i j : Nat) (ys : List Int), i + j ≤ d + 1 → d < n → 0 < i → 0 < j → i ≤ m → m + j ≤ ys.length → ys.length ≤ 64 →
    ∃ (i' : Nat) (zs : List Int), 0 < i' ∧ i' ≤ m ∧ m + i' ≤ zs.length ∧ zs.length = ys.length ∧ swapR i' (m - i') m zs = rotF m (d + 1) i j ys ∧
    lpAt E_rotateC (lp E_rotateC 1 n) 1 (loopAt Tryz.f282 0) (mkS [0, 2, 4, 10, 11] [.own 0, .int .i64 (m : Int), .clo 210 [], .int .i64 (i : Int), .int .i64 (j : Int)] [some (.row 3 (.int .i64) ys)]) k =
      k (.exit 0) (mkS [0, 2, 4, 10] [.own 0, .int .i64 (m : Int), .clo 210 [], .int .i64 (i' : Int)] [some (.row 3 (.int .i64) zs)]) := by
  induction d with
  | zero =>
    intro n i j ys hd hn h0 h0' h1 h2 h3
    omega
  | succ d ih =>
    intro n i j ys hd hn h0 h0' h1 h2 h3
    obtain ⟨n, rfl⟩ : ∃ m, n = m + 1 := ⟨n - 1, by omega⟩
    by_cases hij : i = j
    · subst hij
      refine ⟨i, ys, h0, h1, h2, rfl, by rw [rotF, decide_eq_true rfl, cond_true], ?_⟩
      rw [lpAt_def]
      conv => lhs; whnf
      refine br_f (by (show ((i : Int) != (i : Int)) = false; simp)) ?_
      conv => lhs; whnf
    · have hr : rotF m (d + 1 + 1) i j ys = bif decide (i > j) then rotF m (d + 1) (i - j) j (swapR j (m - i) m ys) else rotF m (d + 1) i (j - i) (swapR i (m - i) (m + j - i) ys) := by rw [rotF, decide_eq_false hij, cond_false]
      have e1 : IntKind.i64.wrap ((m : Int) - (i : Int)) = ((m - i : Nat) : Int) := by rw [wrap64 (by omega) (by omega)]; omega
      by_cases hg : i > j
      · have e2 : IntKind.i64.wrap ((i : Int) - (j : Int)) = ((i - j : Nat) : Int) := by rw [wrap64 (by omega) (by omega)]; omega
        rw [decide_eq_true hg, cond_true] at hr
        have hl := swapR_len j (m - i) m ys
        obtain ⟨i', zs, g1, g2, g3, g4, g5, g6⟩ := ih n (i - j) j (swapR j (m - i) m ys) (by omega) (by omega) (by omega) (by omega) (by omega) (by omega) (by omega)
        refine ⟨i', zs, g1, g2, g3, by omega, g5.trans hr.symm, ?_⟩
        rw [lpAt_def]
        conv => lhs; whnf
        refine br_t (by (show ((i : Int) != (j : Int)) = true; simp; omega)) ?_
        conv => lhs; whnf
        refine br_t (dt (by omega)) ?_
        conv => lhs; whnf
        conv => lhs; arg 1; whnf
        refine bnd_g (by exact ⟨⟨by rw [e1]; omega, by omega, by omega⟩, by rw [e1]; omega, by omega, h3⟩) ?_
        conv => lhs; whnf
        refine Eq.trans ?_ g6
        have e3 : (IntKind.i64.wrap ((m : Int) - (i : Int))).toNat = m - i := by rw [e1]; rfl
        rw [e2, e3]
        rfl
      · have e2 : IntKind.i64.wrap ((j : Int) - (i : Int)) = ((j - i : Nat) : Int) := by rw [wrap64 (by omega) (by omega)]; omega
        have e4 : IntKind.i64.wrap (IntKind.i64.wrap ((m : Int) + (j : Int)) - (i : Int)) = ((m + j - i : Nat) : Int) := by rw [wrap64 (n := (m : Int) + (j : Int)) (by omega) (by omega), wrap64 (by omega) (by omega)]; omega
        rw [decide_eq_false hg, cond_false] at hr
        have hl := swapR_len i (m - i) (m + j - i) ys
        obtain ⟨i', zs, g1, g2, g3, g4, g5, g6⟩ := ih n i (j - i) (swapR i (m - i) (m + j - i) ys) (by omega) (by omega) (by omega) (by omega) (by omega) (by omega) (by omega)
        refine ⟨i', zs, g1, g2, g3, by omega, g5.trans hr.symm, ?_⟩
        rw [lpAt_def]
        conv => lhs; whnf
        refine br_t (by (show ((i : Int) != (j : Int)) = true; simp; omega)) ?_
        conv => lhs; whnf
        refine br_f (df (by omega)) ?_
        conv => lhs; whnf
        conv => lhs; arg 1; whnf
        refine bnd_g (by exact ⟨⟨by rw [e1]; omega, by rw [e4]; omega, by omega⟩, by rw [e1]; omega, by rw [e4]; omega, h3⟩) ?_
        conv => lhs; whnf
        refine Eq.trans ?_ g6
        have e3 : (IntKind.i64.wrap ((m : Int) - (i : Int))).toNat = m - i := by rw [e1]; rfl
        have e5 : (IntKind.i64.wrap (IntKind.i64.wrap ((m : Int) + (j : Int)) - (i : Int))).toNat = m + j - i := by rw [e4]; rfl
        rw [e2, e3, e5]
        rfl
theorem ev_rotateC (a m b : Int) (ys : List Int) (hp : (0 ≤ a ∧ a < m ∧ m < b) ∧ b ≤ ys.length ∧ ys.length ≤ 64) : evF E_rotateC (210) Tryz.f282 [.own 0, .int .i64 a, .int .i64 m, .int .i64 b, .clo 210 []] [.row 3 (.int .i64) ys] = some (.tup [], [.row 3 (.int .i64) (rotF m.toNat 200 (m.toNat - a.toNat) (b.toNat - m.toNat) ys)]) := by
  obtain ⟨⟨h1, h2, h3⟩, h4, h5⟩ := hp
  obtain ⟨a, rfl⟩ : ∃ j : Nat, a = j := ⟨a.toNat, by omega⟩
  obtain ⟨m, rfl⟩ : ∃ j : Nat, m = j := ⟨m.toNat, by omega⟩
  obtain ⟨b, rfl⟩ : ∃ j : Nat, b = j := ⟨b.toNat, by omega⟩
  have e1 : IntKind.i64.wrap ((m : Int) - (a : Int)) = ((m - a : Nat) : Int) := by rw [wrap64 (by omega) (by omega)]; omega
  have e2 : IntKind.i64.wrap ((b : Int) - (m : Int)) = ((b - m : Nat) : Int) := by rw [wrap64 (by omega) (by omega)]; omega
  conv => lhs; whnf
  rw [e1, e2]
  obtain ⟨i', zs, g1, g2, g3, g4, g5, g6⟩ := lp_rotateC m _ 199 209 (m - a) (b - m) ys (by omega) (by omega) (by omega) (by omega) (by omega) (by omega) h5
  refine g6.trans ?_
  have e3 : IntKind.i64.wrap ((m : Int) - (i' : Int)) = ((m - i' : Nat) : Int) := by rw [wrap64 (by omega) (by omega)]; omega
  have e4 : (IntKind.i64.wrap ((m : Int) - (i' : Int))).toNat = m - i' := by rw [e3]; rfl
  conv => lhs; whnf
  conv => lhs; arg 1; whnf
  refine bnd_g (by exact ⟨⟨by rw [e3]; omega, by omega, by omega⟩, by rw [e3]; omega, by omega, by omega⟩) ?_
  conv => lhs; whnf
  rw [e4]
  have g5' : swapR i' (m - i') m zs = rotF ((m : Int)).toNat 200 (((m : Int)).toNat - ((a : Int)).toNat) (((b : Int)).toNat - ((m : Int)).toNat) ys := g5
  rw [← g5']
  rfl
theorem ok_rotateC : FnOk Tryz.prog 282 K_rotateC := by
  refine fn_ok (fn := Tryz.f282) (k := Tryz.f282.ntmps) (E := E_rotateC) (facts_of (List.forall_mem_cons.2 ⟨ok_swapRange, List.forall_mem_nil _⟩)) (by kernel_rfl) rfl (by decide +kernel) (by decide +kernel) ?_
  intro avs hin r h
  unfold K_rotateC at h
  split at h
  · obtain ⟨hp, rfl⟩ := gd_o h
    exact ⟨_, ev_rotateC _ _ _ _ hp, rfl⟩
  · cases h

theorem half_eq {i j : Nat} (h : i + j ≤ 200) : IntKind.i64.wrap ((IntKind.u64.wrap (IntKind.i64.wrap ((i : Int) + (j : Int)))).fdiv (2 ^ min (1 : Int).toNat IntKind.u64.bits)) = (((i + j) / 2 : Nat) : Int) := by
  have key : ∀ n : Fin 201, IntKind.i64.wrap ((IntKind.u64.wrap (n.val : Int)).fdiv (2 ^ min (1 : Int).toNat IntKind.u64.bits)) = ((n.val / 2 : Nat) : Int) := by decide +kernel
  have e : IntKind.i64.wrap ((i : Int) + (j : Int)) = ((i + j : Nat) : Int) := by rw [wrap64 (by omega) (by omega)]; push_cast; rfl
  rw [e]
  exact key ⟨i + j, by omega⟩
theorem binF_stop (p : Nat → Bool) (d i : Nat) : binF p d i i = i := by
  cases d with
  | zero => rfl
  | succ d => rw [binF, decide_eq_false (by omega), cond_false]
theorem binF_fuel (p : Nat → Bool) : ∀ (d e i j : Nat), j - i ≤ d → j - i ≤ e → i ≤ j → binF p d i j = binF p e i j
  | 0, e, i, j, h1, h2, h3 => by
    have : i = j := by omega
    subst this
    rw [binF_stop, binF_stop]
  | d + 1, 0, i, j, h1, h2, h3 => by
    have : i = j := by omega
    subst this
    rw [binF_stop, binF_stop]
  | d + 1, e + 1, i, j, h1, h2, h3 => by
    rw [binF, binF]
    by_cases hij : i < j
    · rw [decide_eq_true hij, cond_true, cond_true, binF_fuel p d e ((i + j) / 2 + 1) j (by omega) (by omega) (by omega), binF_fuel p d e i ((i + j) / 2) (by omega) (by omega) (by omega)]
    · rw [decide_eq_false hij, cond_false, cond_false]
def K_symMerge : Nat → List AV → List Ob → Option (AV × List Ob)
  | d, [.own 0, .int .i64 a, .int .i64 m, .int .i64 b, .clo 210 []], [.row 3 (.int .i64) ys] => gd (((0 ≤ a ∧ a < m ∧ m < b) ∧ b ≤ ys.length ∧ ys.length ≤ 64) ∧ b - a ≤ ((2 ^ d : Nat) : Int)) (.tup [], [.row 3 (.int .i64) (symM d a.toNat m.toNat b.toNat ys)])
  | _, _, _ => none
@[reducible] def E_symMerge (d : Nat) : Env := mkE (tb [(210, K_stem1), (282, K_rotateC), (263, K_symMerge d)]) (fun f => [282, 263].contains f) (fun r => bif r == 3 then ([0, 1, 4, 10, 11], [0, 1, 10]) else bif r == 9 then ([0, 10, 13], [0]) else bif r == 15 then ([0, 2, 4, 14, 15], [0, 2, 14]) else bif r == 21 then ([0, 14, 17], [0]) else bif r == 33 then ([0, 1, 2, 3, 4, 18, 19, 20, 21, 22], [0, 1, 2, 3, 4, 18, 19, 20]) else ([], []))

theorem l0_symMerge (dd a : Nat) (ys : List Int) (hl : ys.length ≤ 64) (ha : a < ys.length) (k : AX → S → Option (AV × List Ob)) (d : Nat) : ∀ (n i j : Nat), j - i ≤ d → d < n → i ≤ j → j ≤ ys.length →
    lpAt (E_symMerge dd) (lp (E_symMerge dd) 1 n) 1 (loopAt Tryz.f263 0) (mkS [0, 1, 4, 10, 11] [.own 0, .int .i64 (a : Int), .clo 210 [], .int .i64 (i : Int), .int .i64 (j : Int)] [some (.row 3 (.int .i64) ys)]) k =
      k (.exit 0) (mkS [0, 1, 10] [.own 0, .int .i64 (a : Int), .int .i64 (binF (fun h => ltC (ys.getD h 0) (ys.getD a 0)) d i j : Nat)] [some (.row 3 (.int .i64) ys)]) := by
  induction d with
  | zero =>
    intro n i j h1 h2 h3 h4
    obtain ⟨n, rfl⟩ : ∃ m, n = m + 1 := ⟨n - 1, by omega⟩
    rw [lpAt_def]
    conv => lhs; whnf
    refine br_f (df (by omega)) ?_
    conv => lhs; whnf
    rfl
  | succ d ih =>
    intro n i j h1 h2 h3 h4
    obtain ⟨n, rfl⟩ : ∃ m, n = m + 1 := ⟨n - 1, by omega⟩
    by_cases hij : i < j
    · have hh := half_eq (i := i) (j := j) (by omega)
      have hh' : (IntKind.i64.wrap ((IntKind.u64.wrap (IntKind.i64.wrap ((i : Int) + (j : Int)))).fdiv (2 ^ min (1 : Int).toNat IntKind.u64.bits))).toNat = (i + j) / 2 := by rw [hh]; rfl
      rw [lpAt_def]
      conv => lhs; whnf
      refine br_t (dt (by omega)) ?_
      conv => lhs; whnf
      refine br_f (df (by omega)) ?_
      conv => lhs; whnf
      refine br_t (by exact dt2 (by rw [hh]; omega) (by rw [hh]; omega)) ?_
      conv => lhs; whnf
      refine br_t (by exact dt (by rw [hh']; omega)) ?_
      conv => lhs; whnf
      refine br_t (dt2 (by omega) (by omega)) ?_
      conv => lhs; whnf
      refine br_t (dt (by omega)) ?_
      conv => lhs; whnf
      conv => lhs; arg 1; whnf
      refine bnd_g (by exact True.intro) ?_
      conv => lhs; whnf
      repeat ((first | with_reducible apply br_tt | with_reducible apply br_ff | with_reducible apply br_nf | with_reducible apply br_nt | with_reducible refine br_d ?_ (by kernel_rfl)); conv => lhs; whnf)
      refine br_c (fun h => ?_) (fun h => ?_)
      · have h' : decide (cntF (ys.getD (IntKind.i64.wrap ((IntKind.u64.wrap (IntKind.i64.wrap ((i : Int) + (j : Int)))).fdiv (2 ^ min (1 : Int).toNat IntKind.u64.bits))).toNat 0) - cntF (ys.getD a 0) < 0) = true := h
        rw [hh'] at h'
        have hw : IntKind.i64.wrap (IntKind.i64.wrap ((IntKind.u64.wrap (IntKind.i64.wrap ((i : Int) + (j : Int)))).fdiv (2 ^ min (1 : Int).toNat IntKind.u64.bits)) + 1) = (((i + j) / 2 + 1 : Nat) : Int) := by rw [hh, wrap64 (by omega) (by omega)]; push_cast; rfl
        conv => lhs; whnf
        have e := ih n ((i + j) / 2 + 1) j (by omega) (by omega) (by omega) h4
        rw [← hw] at e
        refine Eq.trans e ?_
        rw [binF, decide_eq_true hij, cond_true]
        unfold ltC
        rw [h', cond_true]
      · have h' : decide (cntF (ys.getD (IntKind.i64.wrap ((IntKind.u64.wrap (IntKind.i64.wrap ((i : Int) + (j : Int)))).fdiv (2 ^ min (1 : Int).toNat IntKind.u64.bits))).toNat 0) - cntF (ys.getD a 0) < 0) = false := h
        rw [hh'] at h'
        conv => lhs; whnf
        have e := ih n i ((i + j) / 2) (by omega) (by omega) (by omega) (by omega)
        rw [← hh] at e
        refine Eq.trans e ?_
        rw [binF, decide_eq_true hij, cond_true]
        unfold ltC
        rw [h', cond_false]
    · rw [lpAt_def]
      conv => lhs; whnf
      refine br_f (df (by omega)) ?_
      conv => lhs; whnf
      rw [binF, decide_eq_false hij, cond_false]

theorem l1_symMerge (dd m : Nat) (k : AX → S → Option (AV × List Ob)) (d : Nat) : ∀ (n i : Nat) (ys : List Int), m - 1 - i = d → d < n → i + 1 ≤ m → m ≤ ys.length → ys.length ≤ 64 →
    lpAt (E_symMerge dd) (lp (E_symMerge dd) 1 n) 1 (loopAt Tryz.f263 1) (mkS [0, 10, 13] [.own 0, .int .i64 (m : Int), .int .i64 (i : Int)] [some (.row 3 (.int .i64) ys)]) k =
      k (.exit 2) (mkS [0] [.own 0] [some (.row 3 (.int .i64) (upF d i ys))]) := by
  induction d with
  | zero =>
    intro n i ys h1 h2 h3 h4 h5
    obtain ⟨n, rfl⟩ : ∃ m, n = m + 1 := ⟨n - 1, by omega⟩
    have e1 : IntKind.i64.wrap ((m : Int) - 1) = (m : Int) - 1 := wrap64 (by omega) (by omega)
    rw [lpAt_def]
    conv => lhs; whnf
    refine br_f (df (by omega)) ?_
    conv => lhs; whnf
    rfl
  | succ d ih =>
    intro n i ys h1 h2 h3 h4 h5
    obtain ⟨n, rfl⟩ : ∃ m, n = m + 1 := ⟨n - 1, by omega⟩
    have e1 : IntKind.i64.wrap ((m : Int) - 1) = (m : Int) - 1 := wrap64 (by omega) (by omega)
    have e2 : IntKind.i64.wrap ((i : Int) + 1) = ((i + 1 : Nat) : Int) := by rw [wrap64 (by omega) (by omega)]; push_cast; rfl
    have e3 : (IntKind.i64.wrap ((i : Int) + 1)).toNat = i + 1 := by rw [e2]; rfl
    rw [lpAt_def]
    conv => lhs; whnf
    refine br_t (dt (by omega)) ?_
    conv => lhs; whnf
    refine br_t (by exact dt2 (by rw [e2]; omega) (by rw [e2]; omega)) ?_
    conv => lhs; whnf
    refine br_t (by exact dt (by rw [e3]; omega)) ?_
    conv => lhs; whnf
    refine br_t (dt2 (by omega) (by omega)) ?_
    conv => lhs; whnf
    refine br_t (dt (by omega)) ?_
    conv => lhs; whnf
    refine br_t (dt2 (by omega) (by omega)) ?_
    conv => lhs; whnf
    refine br_t (dt (by omega)) ?_
    conv => lhs; whnf
    refine br_t (by exact dt2 (by rw [e2]; omega) (by rw [List.length_set, e2]; omega)) ?_
    conv => lhs; whnf
    refine br_t (by exact dt (by rw [List.length_set, e3]; omega)) ?_
    conv => lhs; whnf
    repeat ((first | with_reducible apply br_tt | with_reducible apply br_ff | with_reducible apply br_nf | with_reducible apply br_nt | with_reducible refine br_d ?_ (by kernel_rfl)); conv => lhs; whnf)
    have e := ih n (i + 1) (swp ys i (i + 1)) (by omega) (by omega) (by omega) (by rw [swp_len]; exact h4) (by rw [swp_len]; exact h5)
    refine Eq.trans ?_ e
    rw [e3, e2]
    rfl

theorem l2_symMerge (dd m : Nat) (ys : List Int) (hl : ys.length ≤ 64) (ha : m < ys.length) (k : AX → S → Option (AV × List Ob)) (d : Nat) : ∀ (n i j : Nat), j - i ≤ d → d < n → i ≤ j → j ≤ ys.length →
    lpAt (E_symMerge dd) (lp (E_symMerge dd) 1 n) 1 (loopAt Tryz.f263 2) (mkS [0, 2, 4, 14, 15] [.own 0, .int .i64 (m : Int), .clo 210 [], .int .i64 (i : Int), .int .i64 (j : Int)] [some (.row 3 (.int .i64) ys)]) k =
      k (.exit 4) (mkS [0, 2, 14] [.own 0, .int .i64 (m : Int), .int .i64 (binF (fun h => !ltC (ys.getD m 0) (ys.getD h 0)) d i j : Nat)] [some (.row 3 (.int .i64) ys)]) := by
  induction d with
  | zero =>
    intro n i j h1 h2 h3 h4
    obtain ⟨n, rfl⟩ : ∃ m, n = m + 1 := ⟨n - 1, by omega⟩
    rw [lpAt_def]
    conv => lhs; whnf
    refine br_f (df (by omega)) ?_
    conv => lhs; whnf
    rfl
  | succ d ih =>
    intro n i j h1 h2 h3 h4
    obtain ⟨n, rfl⟩ : ∃ m, n = m + 1 := ⟨n - 1, by omega⟩
    by_cases hij : i < j
    · have hh := half_eq (i := i) (j := j) (by omega)
      have hh' : (IntKind.i64.wrap ((IntKind.u64.wrap (IntKind.i64.wrap ((i : Int) + (j : Int)))).fdiv (2 ^ min (1 : Int).toNat IntKind.u64.bits))).toNat = (i + j) / 2 := by rw [hh]; rfl
      rw [lpAt_def]
      conv => lhs; whnf
      refine br_t (dt (by omega)) ?_
      conv => lhs; whnf
      refine br_f (df (by omega)) ?_
      conv => lhs; whnf
      refine br_t (dt2 (by omega) (by omega)) ?_
      conv => lhs; whnf
      refine br_t (dt (by omega)) ?_
      conv => lhs; whnf
      refine br_t (by exact dt2 (by rw [hh]; omega) (by rw [hh]; omega)) ?_
      conv => lhs; whnf
      refine br_t (by exact dt (by rw [hh']; omega)) ?_
      conv => lhs; whnf
      conv => lhs; arg 1; whnf
      refine bnd_g (by exact True.intro) ?_
      conv => lhs; whnf
      repeat ((first | with_reducible apply br_tt | with_reducible apply br_ff | with_reducible apply br_nf | with_reducible apply br_nt | with_reducible refine br_d ?_ (by kernel_rfl)); conv => lhs; whnf)
      refine br_c (fun h => ?_) (fun h => ?_)
      · have h' : (!decide (cntF (ys.getD m 0) - cntF (ys.getD (IntKind.i64.wrap ((IntKind.u64.wrap (IntKind.i64.wrap ((i : Int) + (j : Int)))).fdiv (2 ^ min (1 : Int).toNat IntKind.u64.bits))).toNat 0) < 0)) = true := h
        rw [hh'] at h'
        have hw : IntKind.i64.wrap (IntKind.i64.wrap ((IntKind.u64.wrap (IntKind.i64.wrap ((i : Int) + (j : Int)))).fdiv (2 ^ min (1 : Int).toNat IntKind.u64.bits)) + 1) = (((i + j) / 2 + 1 : Nat) : Int) := by rw [hh, wrap64 (by omega) (by omega)]; push_cast; rfl
        conv => lhs; whnf
        have e := ih n ((i + j) / 2 + 1) j (by omega) (by omega) (by omega) h4
        rw [← hw] at e
        refine Eq.trans e ?_
        rw [binF, decide_eq_true hij, cond_true]
        unfold ltC
        rw [h', cond_true]
      · have h' : (!decide (cntF (ys.getD m 0) - cntF (ys.getD (IntKind.i64.wrap ((IntKind.u64.wrap (IntKind.i64.wrap ((i : Int) + (j : Int)))).fdiv (2 ^ min (1 : Int).toNat IntKind.u64.bits))).toNat 0) < 0)) = false := h
        rw [hh'] at h'
        conv => lhs; whnf
        have e := ih n i ((i + j) / 2) (by omega) (by omega) (by omega) (by omega)
        rw [← hh] at e
        refine Eq.trans e ?_
        rw [binF, decide_eq_true hij, cond_true]
        unfold ltC
        rw [h', cond_false]
    · rw [lpAt_def]
      conv => lhs; whnf
      refine br_f (df (by omega)) ?_
      conv => lhs; whnf
      rw [binF, decide_eq_false hij, cond_false]

theorem l3_symMerge (dd i : Nat) (k : AX → S → Option (AV × List Ob)) (d : Nat) : ∀ (n m : Nat) (ys : List Int), m - i = d → d < n → i ≤ m → m < ys.length → ys.length ≤ 64 →
    lpAt (E_symMerge dd) (lp (E_symMerge dd) 1 n) 1 (loopAt Tryz.f263 3) (mkS [0, 14, 17] [.own 0, .int .i64 (i : Int), .int .i64 (m : Int)] [some (.row 3 (.int .i64) ys)]) k =
      k (.exit 6) (mkS [0] [.own 0] [some (.row 3 (.int .i64) (dnF d m ys))]) := by
  induction d with
  | zero =>
    intro n m ys h1 h2 h3 h4 h5
    obtain ⟨n, rfl⟩ : ∃ m, n = m + 1 := ⟨n - 1, by omega⟩
    rw [lpAt_def]
    conv => lhs; whnf
    refine br_f (df (by omega)) ?_
    conv => lhs; whnf
    rfl
  | succ d ih =>
    intro n m ys h1 h2 h3 h4 h5
    obtain ⟨n, rfl⟩ : ∃ m, n = m + 1 := ⟨n - 1, by omega⟩
    have e2 : IntKind.i64.wrap ((m : Int) - 1) = ((m - 1 : Nat) : Int) := by rw [wrap64 (by omega) (by omega)]; omega
    have e3 : (IntKind.i64.wrap ((m : Int) - 1)).toNat = m - 1 := by rw [e2]; rfl
    rw [lpAt_def]
    conv => lhs; whnf
    refine br_t (dt (by omega)) ?_
    conv => lhs; whnf
    refine br_t (by exact dt2 (by rw [e2]; omega) (by rw [e2]; omega)) ?_
    conv => lhs; whnf
    refine br_t (by exact dt (by rw [e3]; omega)) ?_
    conv => lhs; whnf
    refine br_t (dt2 (by omega) (by omega)) ?_
    conv => lhs; whnf
    refine br_t (dt (by omega)) ?_
    conv => lhs; whnf
    refine br_t (dt2 (by omega) (by omega)) ?_
    conv => lhs; whnf
    refine br_t (dt (by omega)) ?_
    conv => lhs; whnf
    refine br_t (by exact dt2 (by rw [e2]; omega) (by rw [List.length_set, e2]; omega)) ?_
    conv => lhs; whnf
    refine br_t (by exact dt (by rw [List.length_set, e3]; omega)) ?_
    conv => lhs; whnf
    repeat ((first | with_reducible apply br_tt | with_reducible apply br_ff | with_reducible apply br_nf | with_reducible apply br_nt | with_reducible refine br_d ?_ (by kernel_rfl)); conv => lhs; whnf)
    have e := ih n (m - 1) (swp ys m (m - 1)) (by omega) (by omega) (by omega) (by rw [swp_len]; omega) (by rw [swp_len]; exact h5)
    refine Eq.trans ?_ e
    rw [e3, e2]
    rfl

theorem l4_symMerge (dd a m b mid nn p : Nat) (ys : List Int) (hl : ys.length ≤ 64) (k : AX → S → Option (AV × List Ob)) (d : Nat) : ∀ (n i j : Nat) (x y mi ni pi : Int), x = i → y = j → mi = mid → ni = nn → pi = p → j - i ≤ d → d < n → i ≤ j → (∀ c, i ≤ c → c < j → c ≤ p ∧ p - c < ys.length ∧ c < ys.length) → i + j ≤ 200 → p ≤ 200 →
    lpAt (E_symMerge dd) (lp (E_symMerge dd) 1 n) 1 (loopAt Tryz.f263 4) (mkS [0, 1, 2, 3, 4, 18, 19, 20, 21, 22] [.own 0, .int .i64 (a : Int), .int .i64 (m : Int), .int .i64 (b : Int), .clo 210 [], .int .i64 mi, .int .i64 ni, .int .i64 x, .int .i64 y, .int .i64 pi] [some (.row 3 (.int .i64) ys)]) k =
      k (.exit 8) (mkS [0, 1, 2, 3, 4, 18, 19, 20] [.own 0, .int .i64 (a : Int), .int .i64 (m : Int), .int .i64 (b : Int), .clo 210 [], .int .i64 (mid : Int), .int .i64 (nn : Int), .int .i64 (binF (fun c => !ltC (ys.getD (p - c) 0) (ys.getD c 0)) d i j : Nat)] [some (.row 3 (.int .i64) ys)]) := by
  induction d with
  | zero =>
    intro n i j x y mi ni pi q1 q2 q3 q4 q5 h1 h2 h3 h4 h5 h6
    subst q1 q2 q3 q4 q5
    obtain ⟨n, rfl⟩ : ∃ m, n = m + 1 := ⟨n - 1, by omega⟩
    rw [lpAt_def]
    conv => lhs; whnf
    refine br_f (df (by omega)) ?_
    conv => lhs; whnf
    rfl
  | succ d ih =>
    intro n i j x y mi ni pi q1 q2 q3 q4 q5 h1 h2 h3 h4 h5 h6
    subst q1 q2 q3 q4 q5
    obtain ⟨n, rfl⟩ : ∃ m, n = m + 1 := ⟨n - 1, by omega⟩
    by_cases hij : i < j
    · have hh := half_eq (i := i) (j := j) h5
      have hh' : (IntKind.i64.wrap ((IntKind.u64.wrap (IntKind.i64.wrap ((i : Int) + (j : Int)))).fdiv (2 ^ min (1 : Int).toNat IntKind.u64.bits))).toNat = (i + j) / 2 := by rw [hh]; rfl
      obtain ⟨c1, c2, c3⟩ := h4 ((i + j) / 2) (by omega) (by omega)
      have hp : IntKind.i64.wrap ((p : Int) - IntKind.i64.wrap ((IntKind.u64.wrap (IntKind.i64.wrap ((i : Int) + (j : Int)))).fdiv (2 ^ min (1 : Int).toNat IntKind.u64.bits))) = ((p - (i + j) / 2 : Nat) : Int) := by rw [hh, wrap64 (by omega) (by omega)]; omega
      have hp' : (IntKind.i64.wrap ((p : Int) - IntKind.i64.wrap ((IntKind.u64.wrap (IntKind.i64.wrap ((i : Int) + (j : Int)))).fdiv (2 ^ min (1 : Int).toNat IntKind.u64.bits)))).toNat = p - (i + j) / 2 := by rw [hp]; rfl
      rw [lpAt_def]
      conv => lhs; whnf
      refine br_t (dt (by omega)) ?_
      conv => lhs; whnf
      refine br_f (df (by omega)) ?_
      conv => lhs; whnf
      refine br_t (by exact dt2 (by rw [hp]; omega) (by rw [hp]; omega)) ?_
      conv => lhs; whnf
      refine br_t (by exact dt (by rw [hp']; omega)) ?_
      conv => lhs; whnf
      refine br_t (by exact dt2 (by rw [hh]; omega) (by rw [hh]; omega)) ?_
      conv => lhs; whnf
      refine br_t (by exact dt (by rw [hh']; omega)) ?_
      conv => lhs; whnf
      conv => lhs; arg 1; whnf
      refine bnd_g (by exact True.intro) ?_
      conv => lhs; whnf
      repeat ((first | with_reducible apply br_tt | with_reducible apply br_ff | with_reducible apply br_nf | with_reducible apply br_nt | with_reducible refine br_d ?_ (by kernel_rfl)); conv => lhs; whnf)
      refine br_c (fun h => ?_) (fun h => ?_)
      · have h' : (!decide (cntF (ys.getD (IntKind.i64.wrap ((p : Int) - IntKind.i64.wrap ((IntKind.u64.wrap (IntKind.i64.wrap ((i : Int) + (j : Int)))).fdiv (2 ^ min (1 : Int).toNat IntKind.u64.bits)))).toNat 0) - cntF (ys.getD (IntKind.i64.wrap ((IntKind.u64.wrap (IntKind.i64.wrap ((i : Int) + (j : Int)))).fdiv (2 ^ min (1 : Int).toNat IntKind.u64.bits))).toNat 0) < 0)) = true := h
        rw [hp', hh'] at h'
        have hw : IntKind.i64.wrap (IntKind.i64.wrap ((IntKind.u64.wrap (IntKind.i64.wrap ((i : Int) + (j : Int)))).fdiv (2 ^ min (1 : Int).toNat IntKind.u64.bits)) + 1) = (((i + j) / 2 + 1 : Nat) : Int) := by rw [hh, wrap64 (by omega) (by omega)]; push_cast; rfl
        conv => lhs; whnf
        refine Eq.trans (ih n ((i + j) / 2 + 1) j _ _ _ _ _ hw rfl rfl rfl rfl (by omega) (by omega) (by omega) (fun c g1 g2 => h4 c (by omega) g2) (by omega) h6) ?_
        rw [binF, decide_eq_true hij, cond_true]
        unfold ltC
        rw [h', cond_true]
      · have h' : (!decide (cntF (ys.getD (IntKind.i64.wrap ((p : Int) - IntKind.i64.wrap ((IntKind.u64.wrap (IntKind.i64.wrap ((i : Int) + (j : Int)))).fdiv (2 ^ min (1 : Int).toNat IntKind.u64.bits)))).toNat 0) - cntF (ys.getD (IntKind.i64.wrap ((IntKind.u64.wrap (IntKind.i64.wrap ((i : Int) + (j : Int)))).fdiv (2 ^ min (1 : Int).toNat IntKind.u64.bits))).toNat 0) < 0)) = false := h
        rw [hp', hh'] at h'
        conv => lhs; whnf
        refine Eq.trans (ih n i ((i + j) / 2) _ _ _ _ _ rfl hh rfl rfl rfl (by omega) (by omega) (by omega) (fun c g1 g2 => h4 c g1 (by omega)) (by omega) h6) ?_
        rw [binF, decide_eq_true hij, cond_true]
        unfold ltC
        rw [h', cond_false]
    · rw [lpAt_def]
      conv => lhs; whnf
      refine br_f (df (by omega)) ?_
      conv => lhs; whnf
      rw [binF, decide_eq_false hij, cond_false]

theorem ev_symMerge (d a m b : Nat) (ys : List Int) (h1 : a < m) (h2 : m < b) (h3 : b ≤ ys.length) (h4 : ys.length ≤ 64) (h5 : b - a ≤ 2 ^ (d + 1)) :
    evF (E_symMerge d) 100 Tryz.f263 [.own 0, .int .i64 (a : Int), .int .i64 (m : Int), .int .i64 (b : Int), .clo 210 []] [.row 3 (.int .i64) ys] = some (.tup [], [.row 3 (.int .i64) (symM (d + 1) a m b ys)]) := by
  have e1 : IntKind.i64.wrap ((m : Int) - (a : Int)) = ((m - a : Nat) : Int) := by rw [wrap64 (by omega) (by omega)]; omega
  have e2 : IntKind.i64.wrap ((b : Int) - (m : Int)) = ((b - m : Nat) : Int) := by rw [wrap64 (by omega) (by omega)]; omega
  by_cases hA : m - a = 1
  · have hs : symM (d + 1) a m b ys = upF (binF (fun h => ltC (ys.getD h 0) (ys.getD a 0)) 64 m b - 1 - a) a ys := by rw [symM, decide_eq_true hA, cond_true]
    have hb := binF_rng (fun h => ltC (ys.getD h 0) (ys.getD a 0)) 64 m b (by omega)
    conv => lhs; whnf
    refine br_t (by (show (IntKind.i64.wrap ((m : Int) - (a : Int)) == 1) = true; rw [e1, hA]; rfl)) ?_
    conv => lhs; whnf
    refine (l0_symMerge d a ys h4 (by omega) _ 64 99 m b (by omega) (by omega) (by omega) h3).trans ?_
    conv => lhs; whnf
    refine (l1_symMerge d (binF (fun h => ltC (ys.getD h 0) (ys.getD a 0)) 64 m b) _ _ 99 a ys rfl (by omega) (by omega) (by omega) h4).trans ?_
    conv => lhs; whnf
    rw [hs, show binF (fun h => ltC (ys.getD h 0) (ys.getD a 0)) 64 m b - 1 - a = binF (fun h => ltC (ys.getD h 0) (ys.getD a 0)) 64 m b - 1 - a from rfl]
  · by_cases hB : b - m = 1
    · have hs : symM (d + 1) a m b ys = dnF (m - binF (fun h => !ltC (ys.getD m 0) (ys.getD h 0)) 64 a m) m ys := by rw [symM, decide_eq_false hA, cond_false, decide_eq_true hB, cond_true]
      have hb := binF_rng (fun h => !ltC (ys.getD m 0) (ys.getD h 0)) 64 a m (by omega)
      conv => lhs; whnf
      refine br_f (by (show (IntKind.i64.wrap ((m : Int) - (a : Int)) == 1) = false; rw [e1]; simp; omega)) ?_
      conv => lhs; whnf
      refine br_t (by (show (IntKind.i64.wrap ((b : Int) - (m : Int)) == 1) = true; rw [e2, hB]; rfl)) ?_
      conv => lhs; whnf
      refine (l2_symMerge d m ys h4 (by omega) _ 64 99 a m (by omega) (by omega) (by omega) (by omega)).trans ?_
      conv => lhs; whnf
      refine (l3_symMerge d (binF (fun h => !ltC (ys.getD m 0) (ys.getD h 0)) 64 a m) _ _ 99 m ys rfl (by omega) (by omega) (by omega) h4).trans ?_
      conv => lhs; whnf
      rw [hs]
    · have hh := half_eq (i := a) (j := b) (by omega)
      obtain ⟨mid, hmid⟩ : ∃ mid, mid = midF a b := ⟨_, rfl⟩
      have hm' : mid = (a + b) / 2 := hmid
      rw [← hm'] at hh
      have hn : IntKind.i64.wrap (IntKind.i64.wrap ((IntKind.u64.wrap (IntKind.i64.wrap ((a : Int) + (b : Int)))).fdiv (2 ^ min (1 : Int).toNat IntKind.u64.bits)) + (m : Int)) = ((mid + m : Nat) : Int) := by rw [hh, wrap64 (by omega) (by omega)]; push_cast; rfl
      have hp : IntKind.i64.wrap (IntKind.i64.wrap (IntKind.i64.wrap ((IntKind.u64.wrap (IntKind.i64.wrap ((a : Int) + (b : Int)))).fdiv (2 ^ min (1 : Int).toNat IntKind.u64.bits)) + (m : Int)) - 1) = ((mid + m - 1 : Nat) : Int) := by rw [hn, wrap64 (by omega) (by omega)]; omega
      obtain ⟨st, hst⟩ : ∃ st, st = stF' ys a m b := ⟨_, rfl⟩
      have hstd : st = binF (fun c => !ltC (ys.getD (mid + m - 1 - c) 0) (ys.getD c 0)) 64 (st0F a m b) (r0F a m b) := by rw [hst]; unfold stF'; rw [← hmid]
      have hs : symM (d + 1) a m b ys = (fun y1 => (fun y2 => bif decide (mid < mid + m - st ∧ mid + m - st < b) then symM d mid (mid + m - st) b y2 else y2) (bif decide (a < st ∧ st < mid) then symM d a st mid y1 else y1)) (bif decide (st < m ∧ m < mid + m - st) then rotF m 200 (m - st) (mid + m - st - m) ys else ys) := by
        rw [symM, decide_eq_false hA, cond_false, decide_eq_false hB, cond_false, ← hst, ← hmid]
      have k1 : mid - a ≤ 2 ^ d := by rw [Nat.pow_succ] at h5; omega
      have k2 : b - mid ≤ 2 ^ d := by rw [Nat.pow_succ] at h5; omega
      conv => lhs; whnf
      refine br_f (by (show (IntKind.i64.wrap ((m : Int) - (a : Int)) == 1) = false; rw [e1]; simp; omega)) ?_
      conv => lhs; whnf
      refine br_f (by (show (IntKind.i64.wrap ((b : Int) - (m : Int)) == 1) = false; rw [e2]; simp; omega)) ?_
      conv => lhs; whnf
      refine br_f (df (by omega)) ?_
      conv => lhs; whnf
      by_cases hg : m > mid
      · have hS : IntKind.i64.wrap (IntKind.i64.wrap (IntKind.i64.wrap ((IntKind.u64.wrap (IntKind.i64.wrap ((a : Int) + (b : Int)))).fdiv (2 ^ min (1 : Int).toNat IntKind.u64.bits)) + (m : Int)) - (b : Int)) = ((mid + m - b : Nat) : Int) := by rw [hn, wrap64 (by omega) (by omega)]; omega
        have hst2 : binF (fun c => !ltC (ys.getD (mid + m - 1 - c) 0) (ys.getD c 0)) 64 (mid + m - b) mid = st := by
          rw [hstd]
          unfold st0F r0F
          rw [← hmid, decide_eq_true hg, cond_true, cond_true]
        have hr := binF_rng (fun c => !ltC (ys.getD (mid + m - 1 - c) 0) (ys.getD c 0)) 64 (mid + m - b) mid (by omega)
        rw [hst2] at hr
        have eW : IntKind.i64.wrap (((mid + m : Nat) : Int) - (st : Int)) = ((mid + m - st : Nat) : Int) := by rw [wrap64 (by omega) (by omega)]; omega
        have eW' : (IntKind.i64.wrap (((mid + m : Nat) : Int) - (st : Int))).toNat = mid + m - st := by rw [eW]; rfl
        refine br_t (by (refine dt ?_; show (m : Int) > IntKind.i64.wrap _; rw [hh]; omega)) ?_
        conv => lhs; whnf
        have L := fun k => l4_symMerge d a m b mid (mid + m) (mid + m - 1) ys h4 k 64 99 (mid + m - b) mid _ _ _ _ _ hS hh hh hn hp (by omega) (by omega) (by omega) (fun c g1 g2 => by omega) (by omega) (by omega)
        rw [hst2] at L
        refine (L _).trans ?_
        conv => lhs; whnf
        by_cases p1 : st < m <;> by_cases p2 : m < mid + m - st <;> by_cases p3 : a < st <;> by_cases p4 : st < mid <;> by_cases p5 : mid < mid + m - st <;> by_cases p6 : mid + m - st < b <;> first
          | (exfalso; omega)
          | (skip
             repeat ((first | with_reducible apply br_tt | with_reducible apply br_ff | with_reducible apply br_nf | with_reducible apply br_nt | with_reducible refine br_d ?_ (by kernel_rfl) | with_reducible refine br_t (dt (by omega)) ?_ | with_reducible refine br_f (df (by omega)) ?_ | with_reducible refine br_t (dt2 (by omega) (by omega)) ?_); conv => lhs; whnf)
             first
               | (conv => lhs; arg 1; whnf
                  refine bnd_g (by exact ⟨⟨by omega, by omega, by omega⟩, by omega, by omega⟩) ?_
                  conv => lhs; whnf)
               | skip
             repeat ((first | with_reducible apply br_tt | with_reducible apply br_ff | with_reducible apply br_nf | with_reducible apply br_nt | with_reducible refine br_d ?_ (by kernel_rfl) | with_reducible refine br_t (dt (by omega)) ?_ | with_reducible refine br_f (df (by omega)) ?_ | with_reducible refine br_t (dt2 (by omega) (by omega)) ?_); conv => lhs; whnf)
             first
               | (conv => lhs; arg 1; whnf
                  refine bnd_g (by exact ⟨⟨⟨by omega, by omega, by omega⟩, (by first | omega | (rw [rotF_len]; omega) | (rw [symM_len]; omega) | (rw [symM_len, rotF_len]; omega)), (by first | omega | (rw [rotF_len]; omega) | (rw [symM_len]; omega) | (rw [symM_len, rotF_len]; omega))⟩, by omega⟩) ?_
                  conv => lhs; whnf)
               | skip
             repeat ((first | with_reducible apply br_tt | with_reducible apply br_ff | with_reducible apply br_nf | with_reducible apply br_nt | with_reducible refine br_d ?_ (by kernel_rfl) | with_reducible refine br_t (dt (by omega)) ?_ | with_reducible refine br_f (df (by omega)) ?_ | with_reducible refine br_t (dt2 (by omega) (by omega)) ?_); conv => lhs; whnf)
             first
               | (conv => lhs; arg 1; whnf
                  refine bnd_g (by exact ⟨⟨⟨by omega, by omega, by omega⟩, (by first | omega | (rw [rotF_len]; omega) | (rw [symM_len]; omega) | (rw [symM_len, rotF_len]; omega)), (by first | omega | (rw [rotF_len]; omega) | (rw [symM_len]; omega) | (rw [symM_len, rotF_len]; omega))⟩, by omega⟩) ?_
                  conv => lhs; whnf)
               | skip
             repeat ((first | with_reducible apply br_tt | with_reducible apply br_ff | with_reducible apply br_nf | with_reducible apply br_nt | with_reducible refine br_d ?_ (by kernel_rfl) | with_reducible refine br_t (dt (by omega)) ?_ | with_reducible refine br_f (df (by omega)) ?_ | with_reducible refine br_t (dt2 (by omega) (by omega)) ?_); conv => lhs; whnf)
             simp only [hs, p1, p2, p3, p4, p5, p6, eW', Int.toNat_natCast, and_self, and_true, true_and, false_and, and_false, decide_true, decide_false, cond_true, cond_false])
      · have hst2 : binF (fun c => !ltC (ys.getD (mid + m - 1 - c) 0) (ys.getD c 0)) 64 a m = st := by
          rw [hstd]
          unfold st0F r0F
          rw [← hmid, decide_eq_false hg, cond_false, cond_false]
        have hr := binF_rng (fun c => !ltC (ys.getD (mid + m - 1 - c) 0) (ys.getD c 0)) 64 a m (by omega)
        rw [hst2] at hr
        have eW : IntKind.i64.wrap (((mid + m : Nat) : Int) - (st : Int)) = ((mid + m - st : Nat) : Int) := by rw [wrap64 (by omega) (by omega)]; omega
        have eW' : (IntKind.i64.wrap (((mid + m : Nat) : Int) - (st : Int))).toNat = mid + m - st := by rw [eW]; rfl
        refine br_f (by (refine df ?_; show ¬ (m : Int) > IntKind.i64.wrap _; rw [hh]; omega)) ?_
        conv => lhs; whnf
        have L := fun k => l4_symMerge d a m b mid (mid + m) (mid + m - 1) ys h4 k 64 99 a m _ _ _ _ _ rfl rfl hh hn hp (by omega) (by omega) (by omega) (fun c g1 g2 => by omega) (by omega) (by omega)
        rw [hst2] at L
        refine (L _).trans ?_
        conv => lhs; whnf
        by_cases p1 : st < m <;> by_cases p2 : m < mid + m - st <;> by_cases p3 : a < st <;> by_cases p4 : st < mid <;> by_cases p5 : mid < mid + m - st <;> by_cases p6 : mid + m - st < b <;> first
          | (exfalso; omega)
          | (skip
             repeat ((first | with_reducible apply br_tt | with_reducible apply br_ff | with_reducible apply br_nf | with_reducible apply br_nt | with_reducible refine br_d ?_ (by kernel_rfl) | with_reducible refine br_t (dt (by omega)) ?_ | with_reducible refine br_f (df (by omega)) ?_ | with_reducible refine br_t (dt2 (by omega) (by omega)) ?_); conv => lhs; whnf)
             first
               | (conv => lhs; arg 1; whnf
                  refine bnd_g (by exact ⟨⟨by omega, by omega, by omega⟩, by omega, by omega⟩) ?_
                  conv => lhs; whnf)
               | skip
             repeat ((first | with_reducible apply br_tt | with_reducible apply br_ff | with_reducible apply br_nf | with_reducible apply br_nt | with_reducible refine br_d ?_ (by kernel_rfl) | with_reducible refine br_t (dt (by omega)) ?_ | with_reducible refine br_f (df (by omega)) ?_ | with_reducible refine br_t (dt2 (by omega) (by omega)) ?_); conv => lhs; whnf)
             first
               | (conv => lhs; arg 1; whnf
                  refine bnd_g (by exact ⟨⟨⟨by omega, by omega, by omega⟩, (by first | omega | (rw [rotF_len]; omega) | (rw [symM_len]; omega) | (rw [symM_len, rotF_len]; omega)), (by first | omega | (rw [rotF_len]; omega) | (rw [symM_len]; omega) | (rw [symM_len, rotF_len]; omega))⟩, by omega⟩) ?_
                  conv => lhs; whnf)
               | skip
             repeat ((first | with_reducible apply br_tt | with_reducible apply br_ff | with_reducible apply br_nf | with_reducible apply br_nt | with_reducible refine br_d ?_ (by kernel_rfl) | with_reducible refine br_t (dt (by omega)) ?_ | with_reducible refine br_f (df (by omega)) ?_ | with_reducible refine br_t (dt2 (by omega) (by omega)) ?_); conv => lhs; whnf)
             first
               | (conv => lhs; arg 1; whnf
                  refine bnd_g (by exact ⟨⟨⟨by omega, by omega, by omega⟩, (by first | omega | (rw [rotF_len]; omega) | (rw [symM_len]; omega) | (rw [symM_len, rotF_len]; omega)), (by first | omega | (rw [rotF_len]; omega) | (rw [symM_len]; omega) | (rw [symM_len, rotF_len]; omega))⟩, by omega⟩) ?_
                  conv => lhs; whnf)
               | skip
             repeat ((first | with_reducible apply br_tt | with_reducible apply br_ff | with_reducible apply br_nf | with_reducible apply br_nt | with_reducible refine br_d ?_ (by kernel_rfl) | with_reducible refine br_t (dt (by omega)) ?_ | with_reducible refine br_f (df (by omega)) ?_ | with_reducible refine br_t (dt2 (by omega) (by omega)) ?_); conv => lhs; whnf)
             simp only [hs, p1, p2, p3, p4, p5, p6, eW', Int.toNat_natCast, and_self, and_true, true_and, false_and, and_false, decide_true, decide_false, cond_true, cond_false])

theorem ok_symMerge : ∀ d : Nat, FnOk Tryz.prog 263 (K_symMerge d)
  | 0 => by
    refine ⟨⟨Tryz.f263, by kernel_rfl, by kernel_rfl, by kernel_rfl⟩, fun avs hin r hout hk C L vs hH hm hA => ?_⟩
    unfold K_symMerge at hk
    split at hk
    · obtain ⟨h, _⟩ := gd_o hk
      have h2 : ((2 ^ 0 : Nat) : Int) = 1 := rfl
      omega
    · cases hk
  | d + 1 => by
    refine fn_ok (fn := Tryz.f263) (k := Tryz.f263.ntmps) (E := E_symMerge d) (facts_of (List.forall_mem_cons.2 ⟨ok_stem1, List.forall_mem_cons.2 ⟨ok_rotateC, List.forall_mem_cons.2 ⟨ok_symMerge d, List.forall_mem_nil _⟩⟩⟩)) (by kernel_rfl) rfl (by decide +kernel) (by decide +kernel) ?_
    intro avs hin r h
    unfold K_symMerge at h
    split at h
    · rename_i a m b ys
      obtain ⟨⟨⟨⟨g1, g2, g3⟩, g4, g5⟩, g6⟩, rfl⟩ := gd_o h
      obtain ⟨a, rfl⟩ : ∃ j : Nat, a = j := ⟨a.toNat, by omega⟩
      obtain ⟨m, rfl⟩ : ∃ j : Nat, m = j := ⟨m.toNat, by omega⟩
      obtain ⟨b, rfl⟩ : ∃ j : Nat, b = j := ⟨b.toNat, by omega⟩
      exact ⟨_, ev_symMerge d a m b ys (by omega) (by omega) (by omega) g5 (by omega), rfl⟩
    · cases h

def K_symMerge6 : List AV → List Ob → Option (AV × List Ob) := K_symMerge 6
theorem ok_symMerge6 : FnOk Tryz.prog 263 K_symMerge6 := ok_symMerge 6

/- slices.insertionSortCmpFunc[int] -/
def K_insertionC : List AV → List Ob → Option (AV × List Ob)
  | [.own 0, .int .i64 a, .int .i64 b, .clo 210 []], [.row 3 (.int .i64) ys] => gd ((0 ≤ a ∧ a ≤ b) ∧ b ≤ ys.length ∧ ys.length ≤ 64) (.tup [], [.row 3 (.int .i64) (insSort ys a.toNat b.toNat)])
  | _, _ => none
@[reducible] def E_insertionC : Env := mkE (tb [(210, K_stem1)]) (fun f => false) (fun r => bif r == 1 then ([0, 1, 2, 3, 8], [0, 1, 2, 3, 8]) else bif r == 4 then ([0, 1, 2, 3, 8, 9], [0, 1, 2, 3, 8]) else ([], []))
theorem lq_insertionC (a b i : Nat) (k : AX → S → Option (AV × List Ob)) (j : Nat) : ∀ (n : Nat) (x : Int) (ys : List Int), x = j → j < n → a ≤ j → j < ys.length → ys.length ≤ 64 →
    lpAt E_insertionC (lp E_insertionC 1 n) 1 (loopAt Tryz.f253 1) (mkS [0, 1, 2, 3, 8, 9] [.own 0, .int .i64 (a : Int), .int .i64 (b : Int), .clo 210 [], .int .i64 (i : Int), .int .i64 x] [some (.row 3 (.int .i64) ys)]) k =
      k (.exit 2) (mkS [0, 1, 2, 3, 8] [.own 0, .int .i64 (a : Int), .int .i64 (b : Int), .clo 210 [], .int .i64 (i : Int)] [some (.row 3 (.int .i64) (downF a j ys))]) := by
  induction j with
  | zero =>
    intro n x ys hx hn h1 h2 h3
    obtain ⟨n, rfl⟩ : ∃ m, n = m + 1 := ⟨n - 1, by omega⟩
    subst hx
    rw [lpAt_def]
    conv => lhs; whnf
    refine br_c (fun h => ?_) (fun h => ?_)
    · exact absurd (ofd h) (by omega)
    · conv => lhs; whnf
      repeat ((first | with_reducible apply br_tt | with_reducible apply br_ff | with_reducible apply br_nf | with_reducible apply br_nt | with_reducible refine br_d ?_ (by kernel_rfl) | with_reducible apply br_t h | with_reducible apply br_f h | with_reducible refine br_t (dt2 (by omega) (by omega)) ?_ | with_reducible refine br_t (dt (by omega)) ?_); conv => lhs; whnf)
      rfl
  | succ j ih =>
    intro n x ys hx hn h1 h2 h3
    obtain ⟨n, rfl⟩ : ∃ m, n = m + 1 := ⟨n - 1, by omega⟩
    subst hx
    have hw : IntKind.i64.wrap (((j + 1 : Nat) : Int) - 1) = (j : Int) := by rw [wrap64 (by omega) (by omega)]; omega
    have hw' : (IntKind.i64.wrap (((j + 1 : Nat) : Int) - 1)).toNat = j := by rw [hw]; rfl
    rw [lpAt_def]
    conv => lhs; whnf
    refine br_c (fun h => ?_) (fun h => ?_)
    · have h' := ofd h
      have h' : a < j + 1 := by omega
      conv => lhs; whnf
      repeat ((first | with_reducible apply br_tt | with_reducible apply br_ff | with_reducible apply br_nf | with_reducible apply br_nt | with_reducible refine br_d ?_ (by kernel_rfl) | with_reducible apply br_t h | with_reducible apply br_f h | with_reducible refine br_t (dt2 (by omega) (by omega)) ?_ | with_reducible refine br_t (dt (by omega)) ?_); conv => lhs; whnf)
      conv => lhs; arg 1; whnf
      refine bnd_g (by exact True.intro) ?_
      conv => lhs; whnf
      repeat ((first | with_reducible apply br_tt | with_reducible apply br_ff | with_reducible apply br_nf | with_reducible apply br_nt | with_reducible refine br_d ?_ (by kernel_rfl) | with_reducible apply br_t h | with_reducible apply br_f h | with_reducible refine br_t (dt2 (by omega) (by omega)) ?_ | with_reducible refine br_t (dt (by omega)) ?_); conv => lhs; whnf)
      refine br_c (fun h2 => ?_) (fun h2 => ?_)
      · have h2' : decide (cntF (ys.getD (j + 1) 0) - cntF (ys.getD (IntKind.i64.wrap (((j + 1 : Nat) : Int) - 1)).toNat 0) < 0) = true := h2
        rw [hw'] at h2'
        conv => lhs; whnf
        refine br_t (by exact dt2 (by rw [hw]; omega) (by rw [hw]; omega)) ?_
        conv => lhs; whnf
        refine br_t (by exact dt (by rw [hw']; omega)) ?_
        conv => lhs; whnf
        refine br_t (dt2 (by omega) (by omega)) ?_
        conv => lhs; whnf
        refine br_t (dt (by omega)) ?_
        conv => lhs; whnf
        refine br_t (dt2 (by omega) (by omega)) ?_
        conv => lhs; whnf
        refine br_t (dt (by omega)) ?_
        conv => lhs; whnf
        refine br_t (by exact dt2 (by rw [hw]; omega) (by rw [List.length_set, hw]; omega)) ?_
        conv => lhs; whnf
        refine br_t (by exact dt (by rw [List.length_set, hw']; omega)) ?_
        conv => lhs; whnf
        repeat ((first | with_reducible apply br_tt | with_reducible apply br_ff | with_reducible apply br_nf | with_reducible apply br_nt | with_reducible refine br_d ?_ (by kernel_rfl)); conv => lhs; whnf)
        refine Eq.trans (ih n _ _ hw (by omega) (by omega) (by rw [List.length_set, List.length_set]; omega) (by rw [List.length_set, List.length_set]; omega)) ?_
        have e : downF a (j + 1) ys = downF a j (swp ys (j + 1) j) := by
          rw [downF, decide_eq_true h', Bool.true_and]
          unfold ltC
          rw [h2', cond_true]
        rw [hw', e]
        rfl
      · have h2' : decide (cntF (ys.getD (j + 1) 0) - cntF (ys.getD (IntKind.i64.wrap (((j + 1 : Nat) : Int) - 1)).toNat 0) < 0) = false := h2
        rw [hw'] at h2'
        conv => lhs; whnf
        have e : downF a (j + 1) ys = ys := by
          rw [downF, decide_eq_true h', Bool.true_and]
          unfold ltC
          rw [h2', cond_false]
        rw [e]
    · have h' := ofn h
      have h' : ¬ a < j + 1 := by omega
      conv => lhs; whnf
      repeat ((first | with_reducible apply br_tt | with_reducible apply br_ff | with_reducible apply br_nf | with_reducible apply br_nt | with_reducible refine br_d ?_ (by kernel_rfl) | with_reducible apply br_t h | with_reducible apply br_f h | with_reducible refine br_t (dt2 (by omega) (by omega)) ?_ | with_reducible refine br_t (dt (by omega)) ?_); conv => lhs; whnf)
      have e : downF a (j + 1) ys = ys := by rw [downF, decide_eq_false h', Bool.false_and, cond_false]
      rw [e]

theorem lp_insertionC (a b : Nat) (k : AX → S → Option (AV × List Ob)) (d : Nat) : ∀ (n i : Nat) (x : Int) (ys : List Int), b - i = d → x = i → d + 70 < n → a < i → b ≤ ys.length → ys.length ≤ 64 →
    lpAt E_insertionC (lp E_insertionC 1 n) 1 (loopAt Tryz.f253 0) (mkS [0, 1, 2, 3, 8] [.own 0, .int .i64 (a : Int), .int .i64 (b : Int), .clo 210 [], .int .i64 x] [some (.row 3 (.int .i64) ys)]) k =
      k (.exit 0) (mkS [0, 1, 2, 3, 8] [.own 0, .int .i64 (a : Int), .int .i64 (b : Int), .clo 210 [], .int .i64 (max i b : Nat)] [some (.row 3 (.int .i64) (insFrom a d i ys))]) := by
  induction d with
  | zero =>
    intro n i x ys hd hx hn h0 h1 h2
    subst hx
    rw [lpAt_def]
    conv => lhs; whnf
    refine br_f (df (by omega)) ?_
    conv => lhs; whnf
    rw [insFrom, show max i b = i by omega]
  | succ d ih =>
    intro n i x ys hd hx hn h0 h1 h2
    obtain ⟨n, rfl⟩ : ∃ m, n = m + 1 := ⟨n - 1, by omega⟩
    subst hx
    have hl := downF_len a i ys
    rw [lpAt_def]
    conv => lhs; whnf
    refine br_t (dt (by omega)) ?_
    conv => lhs; whnf
    refine (lq_insertionC a b i _ i _ _ ys rfl (by omega) (by omega) (by omega) h2).trans ?_
    conv => lhs; whnf
    refine Eq.trans (ih n (i + 1) _ _ (by omega) (by rw [wrap64 (n := (i : Int) + 1) (by omega) (by omega)]; simp) (by omega) (by omega) (by rw [hl]; exact h1) (by rw [hl]; exact h2)) ?_
    rw [insFrom, show max (i + 1) b = max i b by omega]
theorem ev_insertionC (a b : Int) (ys : List Int) (hp : (0 ≤ a ∧ a ≤ b) ∧ b ≤ ys.length ∧ ys.length ≤ 64) : evF E_insertionC (200) Tryz.f253 [.own 0, .int .i64 a, .int .i64 b, .clo 210 []] [.row 3 (.int .i64) ys] = some (.tup [], [.row 3 (.int .i64) (insSort ys a.toNat b.toNat)]) := by
  obtain ⟨⟨h1, h2⟩, h3, h4⟩ := hp
  obtain ⟨a, rfl⟩ : ∃ j : Nat, a = j := ⟨a.toNat, by omega⟩
  obtain ⟨b, rfl⟩ : ∃ j : Nat, b = j := ⟨b.toNat, by omega⟩
  have e1 : IntKind.i64.wrap ((a : Int) + 1) = ((a + 1 : Nat) : Int) := by rw [wrap64 (by omega) (by omega)]; omega
  conv => lhs; whnf
  refine (lp_insertionC a b _ (b - (a + 1)) _ (a + 1) _ ys rfl e1 (by change _ < 199; omega) (by omega) (by omega) h4).trans ?_
  conv => lhs; whnf
  rfl
theorem ok_insertionC : FnOk Tryz.prog 253 K_insertionC := by
  refine fn_ok (fn := Tryz.f253) (k := Tryz.f253.ntmps) (E := E_insertionC) (facts_of (List.forall_mem_cons.2 ⟨ok_stem1, List.forall_mem_nil _⟩)) (by kernel_rfl) rfl (by decide +kernel) (by decide +kernel) ?_
  intro avs hin r h
  unfold K_insertionC at h
  split at h
  · obtain ⟨hp, rfl⟩ := gd_o h
    exact ⟨_, ev_insertionC _ _ _ hp, rfl⟩
  · cases h

/- slices.stableCmpFunc[int] -/
def K_stableC : List AV → List Ob → Option (AV × List Ob)
  | [.own 0, .int .i64 m, .clo 210 []], [.row 3 (.int .i64) ys] => gd (m = ys.length ∧ ys.length ≤ 64) (.tup [], [.row 3 (.int .i64) (stableF ys)])
  | _, _ => none
@[reducible] def E_stableC : Env := mkE (tb [(253, K_insertionC), (263, K_symMerge6)]) (fun f => [253, 263].contains f) (fun r => bif r == 2 then ([0, 1, 2, 6, 7, 8], [0, 1, 2, 6, 7]) else bif r == 7 then ([0, 1, 2, 6], [0, 1, 2, 6, 7]) else bif r == 9 then ([0, 1, 2, 6, 7, 8], [0, 1, 2, 6, 7]) else ([], []))
theorem l0_stableC (n : Nat) (hn : n ≤ 64) (k : AX → S → Option (AV × List Ob)) (d : Nat) : ∀ (f a : Nat) (x : Int) (ys : List Int), n < a + 20 * (d + 1) → d < f → a ≤ n → x = ((a + 20 : Nat) : Int) → ys.length = n →
    ∃ (a' : Nat) (zs : List Int) (w : Int), a' ≤ n ∧ zs.length = n ∧ insSort zs a' n = blksF n (d + 1) a ys ∧
    lpAt E_stableC (lp E_stableC 1 f) 1 (loopAt Tryz.f233 0) (mkS [0, 1, 2, 6, 7, 8] [.own 0, .int .i64 (n : Int), .clo 210 [], .int .i64 20, .int .i64 (a : Int), .int .i64 x] [some (.row 3 (.int .i64) ys)]) k =
      k (.exit 0) (mkS [0, 1, 2, 6, 7] [.own 0, .int .i64 (n : Int), .clo 210 [], .int .i64 20, .int .i64 (a' : Int)] [some (.row 3 (.int .i64) zs)]) := by
  induction d with
  | zero =>
    intro f a x ys h1 h2 h3 hx h4
    obtain ⟨f, rfl⟩ : ∃ m, f = m + 1 := ⟨f - 1, by omega⟩
    subst hx
    refine ⟨a, ys, 0, h3, h4, by rw [blksF, decide_eq_false (by omega), cond_false], ?_⟩
    rw [lpAt_def]
    conv => lhs; whnf
    refine br_f (df (by omega)) ?_
    conv => lhs; whnf
  | succ d ih =>
    intro f a x ys h1 h2 h3 hx h4
    obtain ⟨f, rfl⟩ : ∃ m, f = m + 1 := ⟨f - 1, by omega⟩
    subst hx
    by_cases hc : a + 20 ≤ n
    · have hw : IntKind.i64.wrap (((a + 20 : Nat) : Int) + 20) = ((a + 20 + 20 : Nat) : Int) := by rw [wrap64 (by omega) (by omega)]; push_cast; rfl
      obtain ⟨a', zs, w, g1, g2, g3, g4⟩ := ih f (a + 20) _ (insSort ys a (a + 20)) (by omega) (by omega) hc hw (by rw [insSort_len]; exact h4)
      refine ⟨a', zs, w, g1, g2, by rw [g3]; conv => rhs; rw [blksF, decide_eq_true hc, cond_true], ?_⟩
      rw [lpAt_def]
      conv => lhs; whnf
      refine br_t (dt (by omega)) ?_
      conv => lhs; whnf
      conv => lhs; arg 1; whnf
      refine bnd_g (by exact ⟨⟨by omega, by omega⟩, by omega, by omega⟩) ?_
      conv => lhs; whnf
      refine Eq.trans ?_ g4
      rfl
    · refine ⟨a, ys, 0, h3, h4, by rw [blksF, decide_eq_false hc, cond_false], ?_⟩
      rw [lpAt_def]
      conv => lhs; whnf
      refine br_f (df (by omega)) ?_
      conv => lhs; whnf

theorem l2_stableC (n bs : Nat) (hn : n ≤ 64) (hb : 0 < bs ∧ bs ≤ 64) (k : AX → S → Option (AV × List Ob)) (d : Nat) : ∀ (f a : Nat) (x : Int) (ys : List Int), n < a + 40 * (d + 1) → 20 ≤ bs → d < f → a ≤ n → x = ((a + 2 * bs : Nat) : Int) → ys.length = n →
    ∃ (a' : Nat) (zs : List Int), a' ≤ n ∧ zs.length = n ∧ (bif decide (a' + bs < n) then symM 6 a' (a' + bs) n zs else zs) = mrgF n bs (d + 1) a ys ∧
    lpAt E_stableC (lp E_stableC 1 f) 1 (loopAt Tryz.f233 2) (mkS [0, 1, 2, 6, 7, 8] [.own 0, .int .i64 (n : Int), .clo 210 [], .int .i64 (bs : Int), .int .i64 (a : Int), .int .i64 x] [some (.row 3 (.int .i64) ys)]) k =
      k (.exit 4) (mkS [0, 1, 2, 6, 7] [.own 0, .int .i64 (n : Int), .clo 210 [], .int .i64 (bs : Int), .int .i64 (a' : Int)] [some (.row 3 (.int .i64) zs)]) := by
  induction d with
  | zero =>
    intro f a x ys h1 h1' h2 h3 hx h4
    obtain ⟨f, rfl⟩ : ∃ m, f = m + 1 := ⟨f - 1, by omega⟩
    subst hx
    refine ⟨a, ys, h3, h4, by conv => rhs; rw [mrgF, decide_eq_false (by omega), cond_false], ?_⟩
    rw [lpAt_def]
    conv => lhs; whnf
    refine br_f (df (by omega)) ?_
    conv => lhs; whnf
  | succ d ih =>
    intro f a x ys h1 h1' h2 h3 hx h4
    obtain ⟨f, rfl⟩ : ∃ m, f = m + 1 := ⟨f - 1, by omega⟩
    subst hx
    by_cases hc : a + 2 * bs ≤ n
    · have hw0 : IntKind.i64.wrap (2 * (bs : Int)) = ((2 * bs : Nat) : Int) := by rw [wrap64 (by omega) (by omega)]; push_cast; rfl
      have hw : IntKind.i64.wrap (((a + 2 * bs : Nat) : Int) + IntKind.i64.wrap (2 * (bs : Int))) = ((a + 2 * bs + 2 * bs : Nat) : Int) := by rw [hw0, wrap64 (by omega) (by omega)]; push_cast; rfl
      have hm : IntKind.i64.wrap ((a : Int) + (bs : Int)) = ((a + bs : Nat) : Int) := by rw [wrap64 (by omega) (by omega)]; push_cast; rfl
      have hm' : (IntKind.i64.wrap ((a : Int) + (bs : Int))).toNat = a + bs := by rw [hm]; rfl
      obtain ⟨a', zs, g1, g2, g3, g4⟩ := ih f (a + 2 * bs) _ (symM 6 a (a + bs) (a + 2 * bs) ys) (by omega) h1' (by omega) hc hw (by rw [symM_len]; exact h4)
      refine ⟨a', zs, g1, g2, by rw [g3]; conv => rhs; rw [mrgF, decide_eq_true hc, cond_true], ?_⟩
      rw [lpAt_def]
      conv => lhs; whnf
      refine br_t (dt (by omega)) ?_
      conv => lhs; whnf
      conv => lhs; arg 1; whnf
      refine bnd_g (by exact ⟨⟨⟨by omega, by rw [hm]; omega, by rw [hm]; omega⟩, by omega, by omega⟩, by omega⟩) ?_
      conv => lhs; whnf
      refine Eq.trans ?_ g4
      rw [hm']
      rfl
    · refine ⟨a, ys, h3, h4, by conv => rhs; rw [mrgF, decide_eq_false hc, cond_false], ?_⟩
      rw [lpAt_def]
      conv => lhs; whnf
      refine br_f (df (by omega)) ?_
      conv => lhs; whnf

theorem l1_stableC (n : Nat) (hn : n ≤ 64) (k : AX → S → Option (AV × List Ob)) (d : Nat) : ∀ (f bs : Nat) (x : Int) (ys : List Int), n ≤ bs * 2 ^ d → 20 ≤ bs → bs ≤ 128 → d + 10 < f → x = bs → ys.length = n →
    ∃ bs' : Int, lpAt E_stableC (lp E_stableC 1 f) 1 (loopAt Tryz.f233 1) (mkS [0, 1, 2, 6] [.own 0, .int .i64 (n : Int), .clo 210 [], .int .i64 x] [some (.row 3 (.int .i64) ys)]) k =
      k (.exit 2) (mkS [0, 1, 2, 6, 7] [.own 0, .int .i64 (n : Int), .clo 210 [], .int .i64 bs', .any] [some (.row 3 (.int .i64) (lvlF n (d + 1) bs ys))]) := by
  induction d with
  | zero =>
    intro f bs x ys h1 h2 h3 h4 hx h5
    obtain ⟨f, rfl⟩ : ∃ m, f = m + 1 := ⟨f - 1, by omega⟩
    subst hx
    have hnb : ¬ bs < n := by omega
    refine ⟨(bs : Int), ?_⟩
    rw [lpAt_def]
    conv => lhs; whnf
    refine br_f (df (by omega)) ?_
    conv => lhs; whnf
    rw [lvlF, decide_eq_false hnb, cond_false]
  | succ d ih =>
    intro f bs x ys h1 h2 h3 h4 hx h5
    obtain ⟨f, rfl⟩ : ∃ m, f = m + 1 := ⟨f - 1, by omega⟩
    subst hx
    by_cases hc : bs < n
    · have hp : bs * 2 ^ (d + 1) = bs * 2 * 2 ^ d := by rw [Nat.pow_succ, Nat.mul_comm (2 ^ d) 2, Nat.mul_assoc]
      have hw0 : IntKind.i64.wrap (2 * (bs : Int)) = ((0 + 2 * bs : Nat) : Int) := by rw [wrap64 (by omega) (by omega)]; omega
      have hw2 : IntKind.i64.wrap ((bs : Int) * 2) = ((bs * 2 : Nat) : Int) := by rw [wrap64 (by omega) (by omega)]; push_cast; rfl
      have L := fun k => l2_stableC n bs hn ⟨by omega, by omega⟩ k 4 f 0 _ ys (by omega) h2 (by omega) (Nat.zero_le _) hw0 h5
      obtain ⟨bs', hi⟩ := ih f (bs * 2) _ (mrgF n bs 5 0 ys) (by omega) (by omega) (by omega) (by omega) hw2 (by rw [mrgF_len]; exact h5)
      refine ⟨bs', ?_⟩
      rw [lpAt_def]
      conv => lhs; whnf
      refine br_t (dt (by omega)) ?_
      conv => lhs; whnf
      obtain ⟨a', zs, g1, g2, g3, g4⟩ := L _
      refine g4.trans ?_
      have hm : IntKind.i64.wrap ((a' : Int) + (bs : Int)) = ((a' + bs : Nat) : Int) := by rw [wrap64 (by omega) (by omega)]; push_cast; rfl
      have hm' : (IntKind.i64.wrap ((a' : Int) + (bs : Int))).toNat = a' + bs := by rw [hm]; rfl
      have e : lvlF n (d + 1 + 1) bs ys = lvlF n (d + 1) (bs * 2) (mrgF n bs 5 0 ys) := by rw [lvlF, decide_eq_true hc, cond_true]
      rw [e]
      refine Eq.trans ?_ hi
      conv => lhs; whnf
      by_cases hc2 : a' + bs < n
      · rw [decide_eq_true hc2, cond_true] at g3
        refine br_t (by (refine dt ?_; rw [hm]; omega)) ?_
        conv => lhs; whnf
        conv => lhs; arg 1; whnf
        refine bnd_g (by exact ⟨⟨⟨by omega, by rw [hm]; omega, by rw [hm]; omega⟩, by omega, by omega⟩, by omega⟩) ?_
        conv => lhs; whnf
        rw [← g3, hm']
        rfl
      · rw [decide_eq_false hc2, cond_false] at g3
        refine br_f (by (refine df ?_; rw [hm]; omega)) ?_
        conv => lhs; whnf
        rw [← g3]
    · refine ⟨(bs : Int), ?_⟩
      rw [lpAt_def]
      conv => lhs; whnf
      refine br_f (df (by omega)) ?_
      conv => lhs; whnf
      rw [lvlF, decide_eq_false hc, cond_false]
theorem ev_stableC (m : Int) (ys : List Int) (hp : m = ys.length ∧ ys.length ≤ 64) : evF E_stableC (100) Tryz.f233 [.own 0, .int .i64 m, .clo 210 []] [.row 3 (.int .i64) ys] = some (.tup [], [.row 3 (.int .i64) (stableF ys)]) := by
  obtain ⟨rfl, hl⟩ := hp
  have L0 := fun k => l0_stableC ys.length hl k 4 99 0 20 ys (by omega) (by omega) (Nat.zero_le _) rfl rfl
  conv => lhs; whnf
  obtain ⟨a', zs, w, g1, g2, g3, g4⟩ := L0 _
  refine g4.trans ?_
  conv => lhs; whnf
  conv => lhs; arg 1; whnf
  refine bnd_g (by exact ⟨⟨by omega, by omega⟩, by omega, by omega⟩) ?_
  conv => lhs; whnf
  have hl2 : (insSort zs a' ys.length).length = ys.length := by rw [insSort_len]; exact g2
  obtain ⟨bs', hi⟩ := l1_stableC ys.length hl _ 4 99 20 20 (insSort zs ((a' : Int)).toNat ((ys.length : Int)).toNat) (by omega) (by omega) (by omega) (by omega) rfl hl2
  refine hi.trans ?_
  conv => lhs; whnf
  have e : stableF ys = lvlF ys.length 5 20 (insSort zs a' ys.length) := by unfold stableF; rw [g3]
  rw [e]
  rfl
theorem ok_stableC : FnOk Tryz.prog 233 K_stableC := by
  refine fn_ok (fn := Tryz.f233) (k := Tryz.f233.ntmps) (E := E_stableC) (facts_of (List.forall_mem_cons.2 ⟨ok_insertionC, List.forall_mem_cons.2 ⟨ok_symMerge6, List.forall_mem_nil _⟩⟩)) (by kernel_rfl) rfl (by decide +kernel) (by decide +kernel) ?_
  intro avs hin r h
  unfold K_stableC at h
  split at h
  · obtain ⟨hp, rfl⟩ := gd_o h
    exact ⟨_, ev_stableC _ _ hp, rfl⟩
  · cases h

/- slices.SortStableFunc[[]int,int] -/
def K_sortStable : List AV → List Ob → Option (AV × List Ob)
  | [.own 0, .clo 210 []], [.row 3 (.int .i64) ys] => gd (ys.length ≤ 64) (.tup [], [.row 3 (.int .i64) (stableF ys)])
  | _, _ => none
@[reducible] def E_sortStable : Env := mkE (tb [(233, K_stableC)]) (fun f => [233].contains f) (fun r => ([], []))
theorem ev_sortStable (ys : List Int) (hp : ys.length ≤ 64) : evF E_sortStable (1) Tryz.f209 [.own 0, .clo 210 []] [.row 3 (.int .i64) ys] = some (.tup [], [.row 3 (.int .i64) (stableF ys)]) := by
  conv => lhs; whnf
  conv => lhs; arg 1; whnf
  refine bnd_g (by exact ⟨rfl, hp⟩) ?_
  conv => lhs; whnf
theorem ok_sortStable : FnOk Tryz.prog 209 K_sortStable := by
  refine fn_ok (fn := Tryz.f209) (k := Tryz.f209.ntmps) (E := E_sortStable) (facts_of (List.forall_mem_cons.2 ⟨ok_stableC, List.forall_mem_nil _⟩)) (by kernel_rfl) rfl (by decide +kernel) (by decide +kernel) ?_
  intro avs hin r h
  unfold K_sortStable at h
  split at h
  · obtain ⟨hp, rfl⟩ := gd_o h
    exact ⟨_, ev_sortStable _ hp, rfl⟩
  · cases h

end Go.Sym
