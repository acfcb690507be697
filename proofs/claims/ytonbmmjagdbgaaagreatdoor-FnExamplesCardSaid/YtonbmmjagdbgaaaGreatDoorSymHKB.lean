/- Functions of the program, each told as a plain equation. -/
import Derived.Test.YtonbmmjagdbgaaaGreatDoorSymHKA
namespace Go.Sym
open Go.Proofs
set_option linter.unusedVariables false
set_option linter.unusedSimpArgs false
set_option maxRecDepth 100000
set_option maxHeartbeats 4000000

theorem firstI_sp {α : Type} (p : α → Bool) : ∀ (l : List α) (i : Int), firstI p l i = -1 ∨ i ≤ firstI p l i
  | [], _ => .inl rfl
  | x :: l, i => by
    rw [firstI]
    cases p x
    · rw [cond_false]
      rcases firstI_sp p l (i + 1) with h | h
      · exact .inl h
      · right; omega
    · exact .inr (Int.le_refl i)
def cplB (m : Int) (b : List Int) (l : List (Int × Int)) (a x : Nat) : Bool :=
  bif band (l.getD a (0, 0)).2 (l.getD x (0, 0)).2 == (l.getD 0 (0, 0)).2 then intentF m b (band (l.getD a (0, 0)).1 (l.getD x (0, 0)).1) == fullSet m else false
def cpI (l : List (Int × Int)) (top : Int) (a x : Nat) : Bool :=
  bif mtC l (l.getD a (0, 0)) (l.getD x (0, 0)) == (l.length : Int) - 1 then jnC l (l.getD a (0, 0)) (l.getD x (0, 0)) == top else false
def noCp (m : Int) (b : List Int) (a : Nat) : Bool := ((chsF (cplB m b (concF m b) a) (concF m b).length 0).length : Int) == 0
def cmpV (m : Int) (b : List Int) : Bool := bif anyN (noCp m b) 0 (concF m b).length then false else isCtx m b
def boolV (m : Int) (b : List Int) : Bool := bif lawV m b true then cmpV m b else false
def kindF (m : Int) (b : List Int) : ByteArray :=
  bif !isCtx m b then ⟨#[]⟩ else bif boolV m b then ⟨#[98, 111, 111, 108, 101, 97, 110]⟩
  else bif (bif chainL (concF m b) 0 (concF m b).length then false else isCtx m b) then ⟨#[99, 104, 97, 105, 110]⟩
  else bif lawV m b true then ⟨#[100, 105, 115, 116, 114, 105, 98, 117, 116, 105, 118, 101]⟩
  else bif lawV m b false then ⟨#[109, 111, 100, 117, 108, 97, 114]⟩ else ⟨#[111, 116, 104, 101, 114]⟩
theorem chsF_same {f g : Nat → Bool} : ∀ (d i : Nat), (∀ j, i ≤ j → j < i + d → f j = g j) → chsF f d i = chsF g d i
  | 0, _, _ => rfl
  | d + 1, i, h => by
    rw [chsF, chsF, h i (by omega) (by omega), chsF_same d (i + 1) fun j h1 h2 => h j (by omega) (by omega)]
theorem lec_last : ∀ n : Fin 7, lecI n.val = (lecI n.val).dropLast ++ [fullSet n.val] ∧ (lecI n.val).dropLast.all (fun x => !(x == fullSet n.val)) = true := by decide +kernel
theorem full_closed {m : Int} {b : List Int} (h : isCtx m b = true) : closedI m b (fullSet m) = true := by
  have hl := isCtx_len h
  have hpw := pow64 (n := m.toNat) (by omega)
  have hr := fullSet_rng m
  have hb := fullSet_bit (n := m) hl.2.1 (by omega)
  obtain ⟨v, hv⟩ : ∃ v : Nat, fullSet m = v := ⟨(fullSet m).toNat, by omega⟩
  rw [hv, Int.toNat_natCast] at hb
  have hlt : v < 2 ^ m.toNat := by
    refine Nat.lt_pow_two_of_testBit _ fun i hi => ?_
    rw [hb i, decide_eq_false_iff_not]
    omega
  rw [hv, closed_is h (by omega)]
  have hc := cl_clo h
  refine beq_iff_eq.2 (Nat.eq_of_testBit_eq fun e => ?_)
  rw [Bool.eq_iff_iff]
  constructor
  · intro he
    rw [hb e, decide_eq_true_eq]
    exact ((clN_bit h (by omega) e).1 he).1
  · exact hc.ext v hlt e
theorem firstI_last {α : Type} (p : α → Bool) (z : α) : ∀ (A : List α) (i : Int), 0 ≤ i → A.any p = false → (firstI p (A ++ [z]) i == i + A.length) = p z
  | [], i, hi, _ => by
    show ((bif p z then i else -1) == i + ((0 : Nat) : Int)) = p z
    cases p z
    · rw [cond_false, beq_eq_false_iff_ne]; omega
    · rw [cond_true, beq_iff_eq]; omega
  | x :: A, i, hi, h => by
    simp only [List.any_cons, Bool.or_eq_false_iff] at h
    rw [List.cons_append, firstI, h.1, cond_false, ← firstI_last p z A (i + 1) (by omega) h.2, List.length_cons]
    rw [show i + 1 + (A.length : Int) = i + ((A.length + 1 : Nat) : Int) by push_cast; omega]
theorem firstI_early {α : Type} (p : α → Bool) (z : α) (A : List α) (i : Int) (hz : p z = false) (hi : 0 ≤ i) : (firstI p (A ++ [z]) i == i + A.length) = false := by
  rw [beq_eq_false_iff_ne]
  cases ha : A.any p
  · have h := firstI_last p z A i hi ha
    rw [hz, beq_eq_false_iff_ne] at h
    exact h
  · have : ∀ (A : List α) (i : Int), A.any p = true → firstI p (A ++ [z]) i < i + A.length := by
      intro A
      induction A with
      | nil => intro i h; cases h
      | cons x A ih =>
        intro i h
        rw [List.cons_append, firstI, List.length_cons]
        cases hx : p x
        · rw [List.any_cons, hx, Bool.false_or] at h
          have := ih (i + 1) h
          rw [cond_false]
          omega
        · rw [cond_true]; omega
    have := this A i ha
    omega
theorem conc_last {m : Int} {b : List Int} (h : isCtx m b = true) : ∃ A : List (Int × Int), concF m b = A ++ [(extF b (fullSet m), fullSet m)] ∧ ∀ z ∈ A, (z.2 == fullSet m) = false := by
  have hl := isCtx_len h
  obtain ⟨h1, h2⟩ := lec_last ⟨m.toNat, by omega⟩
  simp only [Int.toNat_of_nonneg hl.2.1] at h1 h2
  have hc := full_closed h
  refine ⟨((lecI m.toNat).dropLast.filter (closedI m b)).map (pairI b), ?_, fun z hz => ?_⟩
  · unfold concF
    rw [h, cond_true, h1, List.filter_append, List.map_append, List.dropLast_concat]
    simp only [List.filter_cons, hc, if_true, List.filter_nil, List.map_cons, List.map_nil]
    rfl
  · obtain ⟨x, hx, rfl⟩ := List.mem_map.1 hz
    have := List.all_eq_true.1 h2 x (List.mem_filter.1 hx).1
    show (x == fullSet m) = false
    simpa using this
theorem mt_last {m : Int} {b : List Int} (h : isCtx m b = true) {p q : Int × Int} (hp : p ∈ concF m b) (hq : q ∈ concF m b) : (mtC (concF m b) p q == ((concF m b).length : Int) - 1) = (intentF m b (band p.1 q.1) == fullSet m) := by
  rw [mt_eq hp hq]
  unfold tabC tabV
  rw [cond_true]
  generalize intentF m b (band p.1 q.1) = v
  obtain ⟨A, hA, hn⟩ := conc_last h
  have e : ((concF m b).length : Int) - 1 = 0 + (A.length : Int) := by rw [hA, List.length_append]; simp
  rw [e, hA]
  cases hv : (v == fullSet m)
  · refine firstI_early _ _ A 0 ?_ (Int.le_refl 0)
    rw [beq_eq_false_iff_ne] at hv ⊢
    exact fun e => hv e.symm
  · have hv := eq_of_beq hv
    rw [firstI_last _ _ A 0 (Int.le_refl 0) ?_]
    · exact beq_iff_eq.2 hv.symm
    · rw [List.any_eq_false]
      intro z hz
      have := hn z hz
      rw [← hv] at this
      simpa using this
theorem jn_first {l : List (Int × Int)} (h : 0 < l.length) (p q : Int × Int) : (jnC l p q == 0) = (band p.2 q.2 == (l.getD 0 (0, 0)).2) := by
  cases l with
  | nil => cases h
  | cons x r =>
    unfold jnC
    rw [firstI]
    show ((bif x.2 == band p.2 q.2 then 0 else firstI (fun z => z.2 == band p.2 q.2) r (0 + 1)) == (0 : Int)) = (band p.2 q.2 == x.2)
    rw [BEq.comm (a := band p.2 q.2)]
    cases x.2 == band p.2 q.2
    · rw [cond_false, beq_eq_false_iff_ne]
      rcases firstI_sp (fun z => z.2 == band p.2 q.2) r (0 + 1) with g | g <;> omega
    · rfl
theorem cp_eq {m : Int} {b : List Int} {a x : Nat} (ha : a < (concF m b).length) (hx : x < (concF m b).length) : cpI (concF m b) 0 a x = cplB m b (concF m b) a x := by
  have hp := mem_getD (d := ((0, 0) : Int × Int)) ha
  have hq := mem_getD (d := ((0, 0) : Int × Int)) hx
  obtain ⟨h, _⟩ := concF_mem hp
  unfold cpI cplB
  rw [mt_last h hp hq, jn_first (by omega)]
  cases intentF m b (band ((concF m b).getD a (0, 0)).1 ((concF m b).getD x (0, 0)).1) == fullSet m <;> cases band ((concF m b).getD a (0, 0)).2 ((concF m b).getD x (0, 0)).2 == ((concF m b).getD 0 (0, 0)).2 <;> rfl
theorem cp_list {m : Int} {b : List Int} {a : Nat} (ha : a < (concF m b).length) : chsF (cpI (concF m b) 0 a) (concF m b).length 0 = chsF (cplB m b (concF m b) a) (concF m b).length 0 :=
  chsF_same _ _ fun j _ hj => cp_eq ha (by omega)
theorem conc_top {m : Int} {b : List Int} (h : isCtx m b = true) : firstI (fun z => z.1 == fullSet (b.length : Int)) (concF m b) 0 = 0 ∧ 0 < (concF m b).length := by
  obtain ⟨p, q, h1, h2⟩ := concF_start h
  have hl := isCtx_len h
  have hsm := ctx_small h
  have hc := cl_clo h
  have h0 : 0 < 2 ^ m.toNat := Nat.two_pow_pos _
  have hpw := pow64 (n := m.toNat) (by omega)
  have hlt := hc.lt 0 h0
  obtain ⟨x1, x2, x3⟩ := extF_spec hl.1 hsm (s := clN m b 0) (by omega)
  have hr := fullSet_rng (b.length : Int)
  have hb := fullSet_bit (n := (b.length : Int)) (by omega) (by omega)
  have e : extF b (clN m b 0 : Int) = fullSet (b.length : Int) := by
    have : (extF b (clN m b 0 : Int)).toNat = (fullSet (b.length : Int)).toNat := by
      apply Nat.eq_of_testBit_eq
      intro k
      rw [Bool.eq_iff_iff, x3 k, hb k, decide_eq_true_eq]
      constructor
      · intro g; have := g.1; omega
      · intro g
        refine ⟨by omega, fun j hj => ?_⟩
        exact ((clN_bit h (by omega) j).1 hj).2 k (by omega) (fun i hi => by simp at hi)
    omega
  rw [h2]
  refine ⟨?_, by simp [rowN]⟩
  show firstI _ (pairI b (clN m b 0 : Nat) :: _) 0 = 0
  rw [firstI]
  have : ((pairI b ((clN m b 0 : Nat) : Int)).1 == fullSet (b.length : Int)) = true := beq_iff_eq.2 e
  rw [this, cond_true]
/- spec.l6Exists -/
def K_l6Exists : List AV → List Ob → Option (AV × List Ob)
  | [.lst (.pair (.int .i64) (.int .i64)) l, .int .i64 a], [] => gd (l.length ≤ 64) (.bool (inC l a), [])
  | _, _ => none
@[reducible] def E_l6Exists : Env := mkE (tb [(111, K_l1In)]) (fun f => false) (fun r => ([], []))
theorem ev_l6Exists (l : List (Int × Int)) (a : Int) (hp : l.length ≤ 64) : evF E_l6Exists (1) Tryz.f52 [.lst (.pair (.int .i64) (.int .i64)) l, .int .i64 a] [] = some (.bool (inC l a), []) := by
  conv => lhs; whnf
  conv => lhs; arg 1; whnf
  refine bnd_g (by exact True.intro) ?_
  conv => lhs; whnf
  refine okB ?_
  unfold inC
  rw [wrap64 (by omega) (by omega)]
theorem ok_l6Exists : FnOk Tryz.prog 52 K_l6Exists := by
  refine fn_ok (fn := Tryz.f52) (k := Tryz.f52.ntmps) (E := E_l6Exists) (facts_of (List.forall_mem_cons.2 ⟨ok_l1In, List.forall_mem_nil _⟩)) (by kernel_rfl) rfl (by decide +kernel) (by decide +kernel) ?_
  intro avs hin r h
  unfold K_l6Exists at h
  split at h
  · obtain ⟨hp, rfl⟩ := gd_o h
    exact ⟨_, ev_l6Exists _ _ hp, rfl⟩
  · cases h

/- spec.ComplementsOf -/
def K_specComplementsOf : List AV → List Ob → Option (AV × List Ob)
  | [.agg [.int .i64 m, .lst (.int .i64) b], .int .i64 a], [] => gd (b.length ≤ 8 ∧ 0 ≤ a ∧ a < (concF m b).length) (.own 0, [.row 3 (.int .i64) (chsF (cplB m b (concF m b) a.toNat) (concF m b).length 0)])
  | _, _ => none
@[reducible] def E_specComplementsOf : Env := mkE (tb [(44, K_specConF), (52, K_l6Exists), (152, K_specIntent), (114, K_specFullSet)]) (fun f => false) (fun r => bif r == 4 then ([1, 2, 5, 6, 7], [5]) else ([], []))
theorem lp_specComplementsOf (m : Int) (b : List Int) (h : isCtx m b = true) (l : List (Int × Int)) (hl : l.length ≤ 64) (hs : ∀ p ∈ l, isSet 8 p.1 = true) (a : Nat) (ha : a < l.length) (k : AX → S → Option (AV × List Ob)) (d : Nat) : ∀ (n i : Nat) (x : Int) (zs : List Int), l.length - i = d → i ≤ l.length → x = i → d < n → zs.length ≤ i →
    lpAt E_specComplementsOf (lp E_specComplementsOf 0 n) 0 (loopAt Tryz.f193 0) (mkS [1, 2, 5, 6, 7] [.int .i64 (a : Int), .ptr 0 0, .own 1, .lst (.pair (.int .i64) (.int .i64)) l, .int .i64 x] [some (.box 26 [.int .i64 m, .lst (.int .i64) b]), some (.row 3 (.int .i64) zs)]) k =
      k (.exit 0) (mkS [5] [.own 0] [some (.row 3 (.int .i64) (zs ++ chsF (cplB m b l a) d i))]) := by
  have hlc := isCtx_len h
  induction d with
  | zero =>
    intro n i x zs hd hi hx hn hz
    subst hx
    rw [lpAt_def]
    conv => lhs; whnf
    have hd' : (decide ((i : Int) < (l.length : Int))) = false := df (by omega)
    repeat ((first | with_reducible apply br_tt | with_reducible apply br_ff | with_reducible apply br_nf | with_reducible apply br_nt | with_reducible refine br_d ?_ (by kernel_rfl) | with_reducible apply br_t hd' | with_reducible apply br_f hd' | with_reducible refine br_t (dt2 (by omega) (by omega)) ?_); conv => lhs; whnf)
    rw [chsF, List.append_nil]
  | succ d ih =>
    intro n i x zs hd hi hx hn hz
    obtain ⟨n, rfl⟩ : ∃ m, n = m + 1 := ⟨n - 1, by omega⟩
    subst hx
    have hil : i < l.length := by omega
    have hic : inC l (a : Int) = true := inC_iff.2 (by omega)
    have h8 := isSet8_band (hs _ (mem_getD (d := ((0, 0) : Int × Int)) ha)) (hs _ (mem_getD (d := ((0, 0) : Int × Int)) hil))
    have hd' : (decide ((i : Int) < (l.length : Int))) = true := dt (by omega)
    rw [lpAt_def]
    conv => lhs; whnf
    repeat ((first | with_reducible apply br_tt | with_reducible apply br_ff | with_reducible apply br_nf | with_reducible apply br_nt | with_reducible refine br_d ?_ (by kernel_rfl) | with_reducible apply br_t hd' | with_reducible apply br_f hd' | with_reducible refine br_t (dt2 (by omega) (by omega)) ?_); conv => lhs; whnf)
    conv => lhs; arg 1; whnf
    refine bnd_g (by exact hl) ?_
    conv => lhs; whnf
    repeat ((first | with_reducible apply br_tt | with_reducible apply br_ff | with_reducible apply br_nf | with_reducible apply br_nt | with_reducible refine br_d ?_ (by kernel_rfl) | with_reducible apply br_t hd' | with_reducible apply br_f hd' | with_reducible apply br_t hic | with_reducible apply br_f hic | with_reducible refine br_t (dt2 (by omega) (by omega)) ?_); conv => lhs; whnf)
    refine br_c (fun g => ?_) (fun g => ?_)
    · have hg : (band (l.getD a (0, 0)).2 (l.getD i (0, 0)).2 == (l.getD 0 (0, 0)).2) = true := g
      conv => lhs; whnf
      repeat ((first | with_reducible apply br_tt | with_reducible apply br_ff | with_reducible apply br_nf | with_reducible apply br_nt | with_reducible refine br_d ?_ (by kernel_rfl) | with_reducible apply br_t g | with_reducible apply br_f g | with_reducible refine br_t (dt2 (by omega) (by omega)) ?_); conv => lhs; whnf)
      conv => lhs; arg 1; whnf
      refine bnd_g (by exact ⟨hlc.1, h8⟩) ?_
      conv => lhs; whnf
      repeat ((first | with_reducible apply br_tt | with_reducible apply br_ff | with_reducible apply br_nf | with_reducible apply br_nt | with_reducible refine br_d ?_ (by kernel_rfl) | with_reducible apply br_t g | with_reducible apply br_f g | with_reducible refine br_t (dt2 (by omega) (by omega)) ?_); conv => lhs; whnf)
      conv => lhs; arg 1; whnf
      refine bnd_g (by exact True.intro) ?_
      conv => lhs; whnf
      repeat ((first | with_reducible apply br_tt | with_reducible apply br_ff | with_reducible apply br_nf | with_reducible apply br_nt | with_reducible refine br_d ?_ (by kernel_rfl) | with_reducible apply br_t g | with_reducible apply br_f g | with_reducible refine br_t (dt2 (by omega) (by omega)) ?_); conv => lhs; whnf)
      refine br_c (fun g2 => ?_) (fun g2 => ?_)
      · have e : cplB m b l a i = true := by unfold cplB; rw [hg, cond_true]; exact g2
        conv => lhs; whnf
        refine br_t (dt (by simp [room]; omega)) ?_
        conv => lhs; whnf
        refine Eq.trans (ih n (i + 1) _ _ (by omega) (by omega) (by rw [wrap64 (n := (i : Int) + 1) (by omega) (by omega)]; simp) (by omega) (by simp; omega)) ?_
        rw [chsF, e, cond_true]
        simp only [List.append_assoc]
        rfl
      · have e : cplB m b l a i = false := by unfold cplB; rw [hg, cond_true]; exact g2
        conv => lhs; whnf
        refine Eq.trans (ih n (i + 1) _ _ (by omega) (by omega) (by rw [wrap64 (n := (i : Int) + 1) (by omega) (by omega)]; simp) (by omega) (by omega)) ?_
        rw [chsF, e, cond_false]
    · have hg : (band (l.getD a (0, 0)).2 (l.getD i (0, 0)).2 == (l.getD 0 (0, 0)).2) = false := g
      have e : cplB m b l a i = false := by unfold cplB; rw [hg, cond_false]
      conv => lhs; whnf
      repeat ((first | with_reducible apply br_tt | with_reducible apply br_ff | with_reducible apply br_nf | with_reducible apply br_nt | with_reducible refine br_d ?_ (by kernel_rfl) | with_reducible apply br_t g | with_reducible apply br_f g | with_reducible refine br_t (dt2 (by omega) (by omega)) ?_); conv => lhs; whnf)
      refine Eq.trans (ih n (i + 1) _ _ (by omega) (by omega) (by rw [wrap64 (n := (i : Int) + 1) (by omega) (by omega)]; simp) (by omega) (by omega)) ?_
      rw [chsF, e, cond_false]
theorem ev_specComplementsOf (m : Int) (b : List Int) (a : Int) (hp : b.length ≤ 8 ∧ 0 ≤ a ∧ a < (concF m b).length) : evF E_specComplementsOf (200) Tryz.f193 [.agg [.int .i64 m, .lst (.int .i64) b], .int .i64 a] [] = some (.own 0, [.row 3 (.int .i64) (chsF (cplB m b (concF m b) a.toNat) (concF m b).length 0)]) := by
  have hl := concF_len m b
  have hs : ∀ p ∈ concF m b, isSet 8 p.1 = true := fun p h => isSet_8 (concF_mem h).2.2.1
  have hc : isCtx m b = true := (concF_mem (mem_getD (d := ((0, 0) : Int × Int)) (show 0 < (concF m b).length by omega))).1
  have ha := hp.2
  obtain ⟨j, rfl⟩ : ∃ j : Nat, a = j := ⟨a.toNat, by omega⟩
  conv => lhs; whnf
  conv => lhs; arg 1; whnf
  refine bnd_g (by omega) ?_
  conv => lhs; whnf
  refine (lp_specComplementsOf m b hc (concF m b) hl hs j (by omega) _ (concF m b).length _ 0 0 [] rfl (Nat.zero_le _) rfl (by change _ < 199; omega) (Nat.le_refl _)).trans ?_
  conv => lhs; whnf
  rfl
theorem ok_specComplementsOf : FnOk Tryz.prog 193 K_specComplementsOf := by
  refine fn_ok (fn := Tryz.f193) (k := Tryz.f193.ntmps) (E := E_specComplementsOf) (facts_of (List.forall_mem_cons.2 ⟨ok_specConF, List.forall_mem_cons.2 ⟨ok_l6Exists, List.forall_mem_cons.2 ⟨ok_specIntent, List.forall_mem_cons.2 ⟨ok_specFullSet, List.forall_mem_nil _⟩⟩⟩⟩)) (by kernel_rfl) rfl (by decide +kernel) (by decide +kernel) ?_
  intro avs hin r h
  unfold K_specComplementsOf at h
  split at h
  · obtain ⟨hp, rfl⟩ := gd_o h
    exact ⟨_, ev_specComplementsOf _ _ _ hp, rfl⟩
  · cases h

/- spec.IsComplemented -/
def K_specIsComplemented : List AV → List Ob → Option (AV × List Ob)
  | [.agg [.int .i64 m, .lst (.int .i64) b]], [] => gd (b.length ≤ 8) (.bool (cmpV m b), [])
  | _, _ => none
@[reducible] def E_specIsComplemented : Env := mkE (tb [(44, K_specConF), (193, K_specComplementsOf)]) (fun f => false) (fun r => bif r == 3 then ([1, 3, 4], [2, 3]) else ([], []))
theorem lp_specIsComplemented (m : Int) (b : List Int) (hb : b.length ≤ 8) (hl : (concF m b).length ≤ 64) (k : AX → S → Option (AV × List Ob)) (d : Nat) : ∀ (n i : Nat) (x : Int), (concF m b).length - i = d → i ≤ (concF m b).length → x = i → d < n →
    lpAt E_specIsComplemented (lp E_specIsComplemented 0 n) 0 (loopAt Tryz.f143 0) (mkS [1, 3, 4] [.ptr 0 0, .int .i64 (concF m b).length, .int .i64 x] [some (.box 26 [.int .i64 m, .lst (.int .i64) b])]) k =
      if anyN (noCp m b) i d then k .ret (mkS [2, 3] [.bool false, .int .i64 (concF m b).length] []) else k (.exit 0) (mkS [2, 3] [.any, .int .i64 (concF m b).length] []) := by
  induction d with
  | zero =>
    intro n i x hd hi hx hn
    subst hx
    rw [lpAt_def]
    conv => lhs; whnf
    refine br_f (df (by omega)) ?_
    conv => lhs; whnf
    rfl
  | succ d ih =>
    intro n i x hd hi hx hn
    obtain ⟨n, rfl⟩ : ∃ m, n = m + 1 := ⟨n - 1, by omega⟩
    subst hx
    rw [lpAt_def]
    conv => lhs; whnf
    refine br_t (dt (by omega)) ?_
    conv => lhs; whnf
    conv => lhs; arg 1; whnf
    refine bnd_g (by exact ⟨hb, by omega, by omega⟩) ?_
    conv => lhs; whnf
    refine br_c (fun g => ?_) (fun g => ?_)
    · have hg : noCp m b i = true := g
      conv => lhs; whnf
      rw [if_pos (by rw [anyN, hg]; rfl)]
    · have hg : noCp m b i = false := g
      conv => lhs; whnf
      have e : anyN (noCp m b) i (d + 1) = anyN (noCp m b) (i + 1) d := by rw [anyN, hg, Bool.false_or]
      rw [e]
      exact ih n (i + 1) _ (by omega) (by omega) (by rw [wrap64 (by omega) (by omega)]; simp) (by omega)
theorem ev_specIsComplemented (m : Int) (b : List Int) (hp : b.length ≤ 8) : evF E_specIsComplemented ((concF m b).length + 10) Tryz.f143 [.agg [.int .i64 m, .lst (.int .i64) b]] [] = some (.bool (cmpV m b), []) := by
  have hl := concF_len m b
  conv => lhs; whnf
  conv => lhs; arg 1; whnf
  refine bnd_g (by omega) ?_
  conv => lhs; whnf
  refine (lp_specIsComplemented m b hp hl _ (concF m b).length _ 0 0 rfl (by omega) rfl (by omega)).trans ?_
  unfold cmpV
  refine Or.elim (Classical.em (anyN (noCp m b) 0 (concF m b).length = true)) (fun h => ?_) (fun h => ?_)
  · rw [if_pos h, h]
    rfl
  · have h' : anyN (noCp m b) 0 (concF m b).length = false := by simpa using h
    rw [if_neg h, h']
    conv => lhs; whnf
    refine okB ?_
    show decide ((((concF m b).length : Nat) : Int) > 0) = isCtx m b
    cases hc : isCtx m b
    · have : concF m b = [] := by unfold concF; rw [hc]; rfl
      rw [this]; rfl
    · exact dt (by have := (conc_top hc).2; omega)
theorem ok_specIsComplemented : FnOk Tryz.prog 143 K_specIsComplemented := by
  refine fn_ok (fn := Tryz.f143) (k := Tryz.f143.ntmps) (E := E_specIsComplemented) (facts_of (List.forall_mem_cons.2 ⟨ok_specConF, List.forall_mem_cons.2 ⟨ok_specComplementsOf, List.forall_mem_nil _⟩⟩)) (by kernel_rfl) rfl (by decide +kernel) (by decide +kernel) ?_
  intro avs hin r h
  unfold K_specIsComplemented at h
  split at h
  · obtain ⟨hp, rfl⟩ := gd_o h
    exact ⟨_, ev_specIsComplemented _ _ hp, rfl⟩
  · cases h

/- (impl.lattice).complements$1 -/
def K_cplC : List AV → List Ob → Option (AV × List Ob)
  | [.int .i64 x, .vptr [.lst (.pair (.int .i64) (.int .i64)) l] 0, .vptr [.int .i64 a] 0, .vptr [.int .i64 top] 0], [] => gd ((l.length ≤ 64 ∧ (0 ≤ a ∧ a < l.length)) ∧ (0 ≤ x ∧ x < l.length)) (.bool (cpI l top a.toNat x.toNat), [])
  | _, _ => none
@[reducible] def E_cplC : Env := mkE (tb [(226, K_latMeet), (227, K_latJoin)]) (fun f => false) (fun r => ([], []))
theorem ev_cplC (x a top : Int) (l : List (Int × Int)) (hp : (l.length ≤ 64 ∧ (0 ≤ a ∧ a < l.length)) ∧ (0 ≤ x ∧ x < l.length)) : evF E_cplC (1) Tryz.f225 [.int .i64 x, .vptr [.lst (.pair (.int .i64) (.int .i64)) l] 0, .vptr [.int .i64 a] 0, .vptr [.int .i64 top] 0] [] = some (.bool (cpI l top a.toNat x.toNat), []) := by
  have hw : IntKind.i64.wrap ((l.length : Int) - 1) = (l.length : Int) - 1 := wrap64 (by omega) (by omega)
  conv => lhs; whnf
  conv => lhs; arg 1; whnf
  refine bnd_g (by exact hp) ?_
  conv => lhs; whnf
  repeat ((first | with_reducible apply br_tt | with_reducible apply br_ff | with_reducible apply br_nf | with_reducible apply br_nt | with_reducible refine br_d ?_ (by kernel_rfl) | with_reducible refine br_t (dt2 (by omega) (by omega)) ?_); conv => lhs; whnf)
  refine br_c (fun g => ?_) (fun g => ?_)
  · have hg : (mtC l (l.getD a.toNat (0, 0)) (l.getD x.toNat (0, 0)) == (l.length : Int) - 1) = true := by rw [← hw]; exact g
    conv => lhs; whnf
    repeat ((first | with_reducible apply br_tt | with_reducible apply br_ff | with_reducible apply br_nf | with_reducible apply br_nt | with_reducible refine br_d ?_ (by kernel_rfl) | with_reducible apply br_t g | with_reducible apply br_f g | with_reducible refine br_t (dt2 (by omega) (by omega)) ?_); conv => lhs; whnf)
    conv => lhs; arg 1; whnf
    refine bnd_g (by exact hp) ?_
    conv => lhs; whnf
    repeat ((first | with_reducible apply br_tt | with_reducible apply br_ff | with_reducible apply br_nf | with_reducible apply br_nt | with_reducible refine br_d ?_ (by kernel_rfl) | with_reducible apply br_t g | with_reducible apply br_f g | with_reducible refine br_t (dt2 (by omega) (by omega)) ?_); conv => lhs; whnf)
    unfold cpI
    rw [hg]
    rfl
  · have hg : (mtC l (l.getD a.toNat (0, 0)) (l.getD x.toNat (0, 0)) == (l.length : Int) - 1) = false := by rw [← hw]; exact g
    conv => lhs; whnf
    repeat ((first | with_reducible apply br_tt | with_reducible apply br_ff | with_reducible apply br_nf | with_reducible apply br_nt | with_reducible refine br_d ?_ (by kernel_rfl) | with_reducible apply br_t g | with_reducible apply br_f g | with_reducible refine br_t (dt2 (by omega) (by omega)) ?_); conv => lhs; whnf)
    unfold cpI
    rw [hg]
    rfl
theorem ok_cplC : FnOk Tryz.prog 225 K_cplC := by
  refine fn_ok (fn := Tryz.f225) (k := Tryz.f225.ntmps) (E := E_cplC) (facts_of (List.forall_mem_cons.2 ⟨ok_latMeet, List.forall_mem_cons.2 ⟨ok_latJoin, List.forall_mem_nil _⟩⟩)) (by kernel_rfl) rfl (by decide +kernel) (by decide +kernel) ?_
  intro avs hin r h
  unfold K_cplC at h
  split at h
  · obtain ⟨hp, rfl⟩ := gd_o h
    exact ⟨_, ev_cplC _ _ _ _ hp, rfl⟩
  · cases h

/- (impl.lattice).chosen -/
def K_chs_cpl : List AV → List Ob → Option (AV × List Ob)
  | [.lst (.pair (.int .i64) (.int .i64)) l, .clo 225 [.vptr [.lst (.pair (.int .i64) (.int .i64)) l'] 0, .vptr [.int .i64 a] 0, .vptr [.int .i64 top] 0]], [] => gd ((l' = l ∧ l.length ≤ 64) ∧ (0 ≤ a ∧ a < l.length)) (.own 0, [.row 3 (.int .i64) (chsF (cpI l top a.toNat) l.length 0)])
  | _, _ => none
@[reducible] def E_chs_cpl : Env := mkE (tb [(225, K_cplC)]) (fun f => false) (fun r => bif r == 3 then ([1, 5, 9, 10], [5]) else ([], []))
theorem lp_chs_cpl (l : List (Int × Int)) (hl : l.length ≤ 64) (top : Int) (a : Nat) (ha : a < l.length) (k : AX → S → Option (AV × List Ob)) (d : Nat) : ∀ (n i : Nat) (x : Int) (zs : List Int), l.length - i = d → i ≤ l.length → x = i → d < n → zs.length ≤ i →
    lpAt E_chs_cpl (lp E_chs_cpl 0 n) 0 (loopAt Tryz.f97 0) (mkS [1, 5, 9, 10] [.clo 225 [.vptr [.lst (.pair (.int .i64) (.int .i64)) l] 0, .vptr [.int .i64 (a : Int)] 0, .vptr [.int .i64 top] 0], .own 0, .int .i64 l.length, .int .i64 x] [some (.row 3 (.int .i64) zs)]) k =
      k (.exit 0) (mkS [5] [.own 0] [some (.row 3 (.int .i64) (zs ++ chsF (cpI l top a) d i))]) := by
  induction d with
  | zero =>
    intro n i x zs hd hi hx hn hz
    subst hx
    rw [lpAt_def]
    conv => lhs; whnf
    refine br_f (df (by omega)) ?_
    conv => lhs; whnf
    rw [chsF, List.append_nil]
  | succ d ih =>
    intro n i x zs hd hi hx hn hz
    obtain ⟨n, rfl⟩ : ∃ m, n = m + 1 := ⟨n - 1, by omega⟩
    subst hx
    rw [lpAt_def]
    conv => lhs; whnf
    refine br_t (dt (by omega)) ?_
    conv => lhs; whnf
    conv => lhs; arg 1; whnf
    refine bnd_g (by exact ⟨⟨hl, by omega, by omega⟩, by omega, by omega⟩) ?_
    conv => lhs; whnf
    refine br_c (fun h => ?_) (fun h => ?_)
    · have h' : cpI l top a i = true := h
      conv => lhs; whnf
      refine br_t (dt (by simp [room]; omega)) ?_
      conv => lhs; whnf
      refine Eq.trans (ih n (i + 1) _ _ (by omega) (by omega) (by rw [wrap64 (n := (i : Int) + 1) (by omega) (by omega)]; simp) (by omega) (by simp; omega)) ?_
      rw [chsF, h', cond_true]
      simp only [List.append_assoc]
      rfl
    · have h' : cpI l top a i = false := h
      conv => lhs; whnf
      refine Eq.trans (ih n (i + 1) _ _ (by omega) (by omega) (by rw [wrap64 (n := (i : Int) + 1) (by omega) (by omega)]; simp) (by omega) (by omega)) ?_
      rw [chsF, h', cond_false]
theorem ev_chs_cpl (l : List (Int × Int)) (a top : Int) (l' : List (Int × Int)) (hp : (l' = l ∧ l.length ≤ 64) ∧ (0 ≤ a ∧ a < l.length)) : evF E_chs_cpl (100) Tryz.f97 [.lst (.pair (.int .i64) (.int .i64)) l, .clo 225 [.vptr [.lst (.pair (.int .i64) (.int .i64)) l'] 0, .vptr [.int .i64 a] 0, .vptr [.int .i64 top] 0]] [] = some (.own 0, [.row 3 (.int .i64) (chsF (cpI l top a.toNat) l.length 0)]) := by
  obtain ⟨⟨rfl, hl⟩, ha⟩ := hp
  obtain ⟨j, rfl⟩ : ∃ j : Nat, a = j := ⟨a.toNat, by omega⟩

  conv => lhs; whnf
  refine (lp_chs_cpl l' hl top j (by omega) _ l'.length _ 0 0 [] rfl (Nat.zero_le _) rfl (by change _ < 99; omega) (Nat.le_refl _)).trans ?_
  conv => lhs; whnf
  rfl
theorem ok_chs_cpl : FnOk Tryz.prog 97 K_chs_cpl := by
  refine fn_ok (fn := Tryz.f97) (k := Tryz.f97.ntmps) (E := E_chs_cpl) (facts_of (List.forall_mem_cons.2 ⟨ok_cplC, List.forall_mem_nil _⟩)) (by kernel_rfl) rfl (by decide +kernel) (by decide +kernel) ?_
  intro avs hin r h
  unfold K_chs_cpl at h
  split at h
  · obtain ⟨hp, rfl⟩ := gd_o h
    exact ⟨_, ev_chs_cpl _ _ _ _ hp, rfl⟩
  · cases h

/- (impl.lattice).complements -/
def K_latCpl : List AV → List Ob → Option (AV × List Ob)
  | [.lst (.pair (.int .i64) (.int .i64)) l, .int .i64 a, .int .i64 top], [] => gd (l.length ≤ 64 ∧ (0 ≤ a ∧ a < l.length)) (.own 0, [.row 3 (.int .i64) (chsF (cpI l top a.toNat) l.length 0)])
  | _, _ => none
@[reducible] def E_latCpl : Env := mkE (tb [(97, K_chs_cpl)]) (fun f => false) (fun r => ([], []))
theorem ev_latCpl (l : List (Int × Int)) (a top : Int) (hp : l.length ≤ 64 ∧ (0 ≤ a ∧ a < l.length)) : evF E_latCpl (1) Tryz.f191 [.lst (.pair (.int .i64) (.int .i64)) l, .int .i64 a, .int .i64 top] [] = some (.own 0, [.row 3 (.int .i64) (chsF (cpI l top a.toNat) l.length 0)]) := by
  conv => lhs; whnf
  conv => lhs; arg 1; whnf
  refine bnd_g (by exact ⟨⟨rfl, hp.1⟩, hp.2⟩) ?_
  conv => lhs; whnf
theorem ok_latCpl : FnOk Tryz.prog 191 K_latCpl := by
  refine fn_ok (fn := Tryz.f191) (k := Tryz.f191.ntmps) (E := E_latCpl) (facts_of (List.forall_mem_cons.2 ⟨ok_chs_cpl, List.forall_mem_nil _⟩)) (by kernel_rfl) rfl (by decide +kernel) (by decide +kernel) ?_
  intro avs hin r h
  unfold K_latCpl at h
  split at h
  · obtain ⟨hp, rfl⟩ := gd_o h
    exact ⟨_, ev_latCpl _ _ _ hp, rfl⟩
  · cases h

/- impl.TopOf -/
def K_implTopOf : List AV → List Ob → Option (AV × List Ob)
  | [.agg [.int .i64 m, .lst (.int .i64) b]], [] => gd (b.length ≤ 8) (.int .i64 (bif isCtx m b then 0 else -1), [])
  | _, _ => none
@[reducible] def E_implTopOf : Env := mkE (tb [(38, K_implIsContext), (37, K_implConF), (149, K_implFullSet), (224, K_latIndex)]) (fun f => false) (fun r => ([], []))
theorem ev_implTopOf (m : Int) (b : List Int) (hp : b.length ≤ 8) : evF E_implTopOf (1) Tryz.f190 [.agg [.int .i64 m, .lst (.int .i64) b]] [] = some (.int .i64 (bif isCtx m b then 0 else -1), []) := by
  have hl := concF_len m b
  conv => lhs; whnf
  conv => lhs; arg 1; whnf
  refine bnd_g (by omega) ?_
  conv => lhs; whnf
  refine br_c (fun h => ?_) (fun h => ?_)
  · have h' := bnt h
    conv => lhs; whnf
    rw [h']
    rfl
  · have h' := bnf h
    conv => lhs; whnf
    conv => lhs; arg 1; whnf
    refine bnd_g (by omega) ?_
    conv => lhs; whnf
    repeat ((first | with_reducible apply br_tt | with_reducible apply br_ff | with_reducible apply br_nf | with_reducible apply br_nt | with_reducible refine br_d ?_ (by kernel_rfl) | with_reducible refine br_t (dt2 (by omega) (by omega)) ?_); conv => lhs; whnf)
    conv => lhs; arg 1; whnf
    refine bnd_g (by exact True.intro) ?_
    conv => lhs; whnf
    repeat ((first | with_reducible apply br_tt | with_reducible apply br_ff | with_reducible apply br_nf | with_reducible apply br_nt | with_reducible refine br_d ?_ (by kernel_rfl) | with_reducible refine br_t (dt2 (by omega) (by omega)) ?_); conv => lhs; whnf)
    conv => lhs; arg 1; whnf
    refine bnd_g (by exact hl) ?_
    conv => lhs; whnf
    repeat ((first | with_reducible apply br_tt | with_reducible apply br_ff | with_reducible apply br_nf | with_reducible apply br_nt | with_reducible refine br_d ?_ (by kernel_rfl) | with_reducible refine br_t (dt2 (by omega) (by omega)) ?_); conv => lhs; whnf)
    rw [h', cond_true]
    exact okI (conc_top h').1
theorem ok_implTopOf : FnOk Tryz.prog 190 K_implTopOf := by
  refine fn_ok (fn := Tryz.f190) (k := Tryz.f190.ntmps) (E := E_implTopOf) (facts_of (List.forall_mem_cons.2 ⟨ok_implIsContext, List.forall_mem_cons.2 ⟨ok_implConF, List.forall_mem_cons.2 ⟨ok_implFullSet, List.forall_mem_cons.2 ⟨ok_latIndex, List.forall_mem_nil _⟩⟩⟩⟩)) (by kernel_rfl) rfl (by decide +kernel) (by decide +kernel) ?_
  intro avs hin r h
  unfold K_implTopOf at h
  split at h
  · obtain ⟨hp, rfl⟩ := gd_o h
    exact ⟨_, ev_implTopOf _ _ hp, rfl⟩
  · cases h

/- impl.IsComplemented -/
def K_implIsComplemented : List AV → List Ob → Option (AV × List Ob)
  | [.agg [.int .i64 m, .lst (.int .i64) b]], [] => gd (b.length ≤ 8) (.bool (cmpV m b), [])
  | _, _ => none
@[reducible] def E_implIsComplemented : Env := mkE (tb [(37, K_implConF), (190, K_implTopOf), (191, K_latCpl), (38, K_implIsContext)]) (fun f => false) (fun r => bif r == 3 then ([1, 3, 4, 11, 12], [1, 2]) else ([], []))
theorem lp_implIsComplemented (m : Int) (b : List Int) (hb : b.length ≤ 8) (hl : (concF m b).length ≤ 64) (k : AX → S → Option (AV × List Ob)) (d : Nat) : ∀ (n i : Nat) (x : Int), (concF m b).length - i = d → i ≤ (concF m b).length → x = i → d < n →
    lpAt E_implIsComplemented (lp E_implIsComplemented 0 n) 0 (loopAt Tryz.f141 0) (mkS [1, 3, 4, 11, 12] [.ptr 0 0, .lst (.pair (.int .i64) (.int .i64)) (concF m b), .int .i64 (bif isCtx m b then 0 else -1), .int .i64 (concF m b).length, .int .i64 x] [some (.box 26 [.int .i64 m, .lst (.int .i64) b])]) k =
      if anyN (noCp m b) i d then k .ret (mkS [1, 2] [.ptr 0 0, .bool false] [some (.box 26 [.int .i64 m, .lst (.int .i64) b])]) else k (.exit 0) (mkS [1, 2] [.ptr 0 0, .any] [some (.box 26 [.int .i64 m, .lst (.int .i64) b])]) := by
  induction d with
  | zero =>
    intro n i x hd hi hx hn
    subst hx
    rw [lpAt_def]
    conv => lhs; whnf
    refine br_f (df (by omega)) ?_
    conv => lhs; whnf
    rfl
  | succ d ih =>
    intro n i x hd hi hx hn
    obtain ⟨n, rfl⟩ : ∃ m, n = m + 1 := ⟨n - 1, by omega⟩
    subst hx
    have hil : i < (concF m b).length := by omega
    have hc : isCtx m b = true := (concF_mem (mem_getD (d := ((0, 0) : Int × Int)) hil)).1
    have ht : (bif isCtx m b then (0 : Int) else -1) = 0 := by rw [hc]; rfl
    rw [lpAt_def]
    conv => lhs; whnf
    refine br_t (dt (by omega)) ?_
    conv => lhs; whnf
    conv => lhs; arg 1; whnf
    refine bnd_g (by exact ⟨hl, by omega, by omega⟩) ?_
    conv => lhs; whnf
    refine br_c (fun g => ?_) (fun g => ?_)
    · have hg : noCp m b i = true := by
        have g' : (((chsF (cpI (concF m b) (bif isCtx m b then 0 else -1) i) (concF m b).length 0).length : Int) == 0) = true := g
        rw [ht] at g'
        unfold noCp
        rw [← cp_list hil]
        exact g'
      conv => lhs; whnf
      rw [if_pos (by rw [anyN, hg]; rfl)]
    · have hg : noCp m b i = false := by
        have g' : (((chsF (cpI (concF m b) (bif isCtx m b then 0 else -1) i) (concF m b).length 0).length : Int) == 0) = false := g
        rw [ht] at g'
        unfold noCp
        rw [← cp_list hil]
        exact g'
      conv => lhs; whnf
      have e : anyN (noCp m b) i (d + 1) = anyN (noCp m b) (i + 1) d := by rw [anyN, hg, Bool.false_or]
      rw [e]
      exact ih n (i + 1) _ (by omega) (by omega) (by rw [wrap64 (by omega) (by omega)]; simp) (by omega)
theorem ev_implIsComplemented (m : Int) (b : List Int) (hp : b.length ≤ 8) : evF E_implIsComplemented ((concF m b).length + 10) Tryz.f141 [.agg [.int .i64 m, .lst (.int .i64) b]] [] = some (.bool (cmpV m b), []) := by
  have hl := concF_len m b
  conv => lhs; whnf
  conv => lhs; arg 1; whnf
  refine bnd_g (by omega) ?_
  conv => lhs; whnf
  conv => lhs; arg 1; whnf
  refine bnd_g (by exact hp) ?_
  conv => lhs; whnf
  repeat ((first | with_reducible apply br_tt | with_reducible apply br_ff | with_reducible apply br_nf | with_reducible apply br_nt | with_reducible refine br_d ?_ (by kernel_rfl) | with_reducible refine br_t (dt2 (by omega) (by omega)) ?_); conv => lhs; whnf)
  refine (lp_implIsComplemented m b hp hl _ (concF m b).length _ 0 0 rfl (by omega) rfl (by omega)).trans ?_
  unfold cmpV
  refine Or.elim (Classical.em (anyN (noCp m b) 0 (concF m b).length = true)) (fun h => ?_) (fun h => ?_)
  · rw [if_pos h, h]
    rfl
  · have h' : anyN (noCp m b) 0 (concF m b).length = false := by simpa using h
    rw [if_neg h, h']
    conv => lhs; whnf
    conv => lhs; arg 1; whnf
    refine bnd_g (by omega) ?_
    conv => lhs; whnf
    rfl
theorem ok_implIsComplemented : FnOk Tryz.prog 141 K_implIsComplemented := by
  refine fn_ok (fn := Tryz.f141) (k := Tryz.f141.ntmps) (E := E_implIsComplemented) (facts_of (List.forall_mem_cons.2 ⟨ok_implConF, List.forall_mem_cons.2 ⟨ok_implTopOf, List.forall_mem_cons.2 ⟨ok_latCpl, List.forall_mem_cons.2 ⟨ok_implIsContext, List.forall_mem_nil _⟩⟩⟩⟩)) (by kernel_rfl) rfl (by decide +kernel) (by decide +kernel) ?_
  intro avs hin r h
  unfold K_implIsComplemented at h
  split at h
  · obtain ⟨hp, rfl⟩ := gd_o h
    exact ⟨_, ev_implIsComplemented _ _ hp, rfl⟩
  · cases h

/- spec.IsChain -/
def K_specIsChain : List AV → List Ob → Option (AV × List Ob)
  | [.agg [.int .i64 m, .lst (.int .i64) b]], [] => gd (b.length ≤ 8) (.bool (bif chainL (concF m b) 0 (concF m b).length then false else isCtx m b), [])
  | _, _ => none
@[reducible] def E_specIsChain : Env := mkE (tb [(53, K_l6Under), (60, K_specIsContext), (44, K_specConF)]) (fun f => false) (fun r => bif r == 3 then ([1, 3, 4], [1, 2, 3, 4]) else bif r == 6 then ([1, 3, 4, 5], [1, 2, 3, 4]) else ([], []))
theorem lpi_specIsChain (m : Int) (b : List Int) (l : List (Int × Int)) (hl : l.length ≤ 256) (a : Nat) (ha : a < l.length) (k : AX → S → Option (AV × List Ob)) (d : Nat) : ∀ (n i : Nat) (x : Int), a - i = d → i ≤ a → x = i → d < n →
    lpAt E_specIsChain (lp E_specIsChain 0 n) 0 (loopAt Tryz.f87 1) (mkS [1, 3, 4, 5] [.ptr 0 0, .lst (.pair (.int .i64) (.int .i64)) l, .int .i64 (a : Int), .int .i64 x] [some (.box 26 [.int .i64 m, .lst (.int .i64) b])]) k =
      if ((l.take a).drop i).any (apartB (l.getD a (0, 0))) then k .ret (mkS [1, 2, 3, 4] [.ptr 0 0, .bool false, .lst (.pair (.int .i64) (.int .i64)) l, .int .i64 (a : Int)] [some (.box 26 [.int .i64 m, .lst (.int .i64) b])])
      else k (.exit 2) (mkS [1, 2, 3, 4] [.ptr 0 0, .any, .lst (.pair (.int .i64) (.int .i64)) l, .int .i64 (a : Int)] [some (.box 26 [.int .i64 m, .lst (.int .i64) b])]) := by
  induction d with
  | zero =>
    intro n i x hd hi hx hn
    subst hx
    rw [lpAt_def]
    conv => lhs; whnf
    refine br_f (df (by omega)) ?_
    conv => lhs; whnf
    rw [List.drop_of_length_le (by simp; omega)]
    simp
  | succ d ih =>
    intro n i x hd hi hx hn
    obtain ⟨n, rfl⟩ : ∃ m, n = m + 1 := ⟨n - 1, by omega⟩
    subst hx
    rw [lpAt_def]
    conv => lhs; whnf
    refine br_t (dt (by omega)) ?_
    conv => lhs; whnf
    refine br_t (dt2 (by omega) (by omega)) ?_
    conv => lhs; whnf
    refine br_t (dt2 (by omega) (by omega)) ?_
    conv => lhs; whnf
    conv => lhs; arg 1; whnf
    refine bnd_g (by trivial) ?_
    conv => lhs; whnf
    refine br_c (fun h => ?_) (fun h => ?_)
    · conv => lhs; whnf
      repeat ((first | with_reducible apply br_tt | with_reducible apply br_ff | with_reducible apply br_nf | with_reducible apply br_nt | with_reducible refine br_d ?_ (by kernel_rfl) | with_reducible apply br_t h | with_reducible apply br_f h | with_reducible refine br_t (dt2 (by omega) (by omega)) ?_); conv => lhs; whnf)
      conv => lhs; arg 1; whnf
      refine bnd_g (by trivial) ?_
      conv => lhs; whnf
      repeat ((first | with_reducible apply br_tt | with_reducible apply br_ff | with_reducible apply br_nf | with_reducible apply br_nt | with_reducible refine br_d ?_ (by kernel_rfl) | with_reducible apply br_t h | with_reducible apply br_f h | with_reducible refine br_t (dt2 (by omega) (by omega)) ?_); conv => lhs; whnf)
      refine br_c (fun h2 => ?_) (fun h2 => ?_)
      · conv => lhs; whnf
        have e : ((l.take a).drop i).any (apartB (l.getD a (0, 0))) = true := by
          rw [take_any l (0, 0) _ (by omega) (by omega)]
          have h' : (!underB (l.getD a (0, 0)) (l.getD i (0, 0))) = true := h
          have h2' : (!underB (l.getD i (0, 0)) (l.getD a (0, 0))) = true := h2
          simp only [apartB, h', h2', cond_true, Bool.true_or]
        rw [if_pos e]
      · conv => lhs; whnf
        have e : ((l.take a).drop i).any (apartB (l.getD a (0, 0))) = ((l.take a).drop (i + 1)).any (apartB (l.getD a (0, 0))) := by
          rw [take_any l (0, 0) _ (by omega) (by omega)]
          have h' : (!underB (l.getD a (0, 0)) (l.getD i (0, 0))) = true := h
          have h2' : (!underB (l.getD i (0, 0)) (l.getD a (0, 0))) = false := h2
          simp only [apartB, h', h2', cond_true, Bool.false_or]
        rw [e]
        exact ih n (i + 1) _ (by omega) (by omega) (by rw [wrap64 (by omega) (by omega)]; simp) (by omega)
    · conv => lhs; whnf
      repeat ((first | with_reducible apply br_tt | with_reducible apply br_ff | with_reducible apply br_nf | with_reducible apply br_nt | with_reducible refine br_d ?_ (by kernel_rfl) | with_reducible apply br_t h | with_reducible apply br_f h | with_reducible refine br_t (dt2 (by omega) (by omega)) ?_); conv => lhs; whnf)
      have e : ((l.take a).drop i).any (apartB (l.getD a (0, 0))) = ((l.take a).drop (i + 1)).any (apartB (l.getD a (0, 0))) := by
        rw [take_any l (0, 0) _ (by omega) (by omega)]
        have h' : (!underB (l.getD a (0, 0)) (l.getD i (0, 0))) = false := h
        simp only [apartB, h', cond_false, Bool.false_or]
      rw [e]
      exact ih n (i + 1) _ (by omega) (by omega) (by rw [wrap64 (by omega) (by omega)]; simp) (by omega)
theorem lp_specIsChain (m : Int) (b : List Int) (l : List (Int × Int)) (hl : l.length ≤ 256) (k : AX → S → Option (AV × List Ob)) (r : Option (AV × List Ob)) (hk : ∀ q, k .ret (mkS [1, 2, 3, 4] [.ptr 0 0, .bool false, .lst (.pair (.int .i64) (.int .i64)) l, q] [some (.box 26 [.int .i64 m, .lst (.int .i64) b])]) = r) (d : Nat) : ∀ (n i : Nat) (x : Int), l.length - i = d → i ≤ l.length → x = i → d + 300 < n →
    lpAt E_specIsChain (lp E_specIsChain 0 n) 0 (loopAt Tryz.f87 0) (mkS [1, 3, 4] [.ptr 0 0, .lst (.pair (.int .i64) (.int .i64)) l, .int .i64 x] [some (.box 26 [.int .i64 m, .lst (.int .i64) b])]) k =
      if chainL l i d then r else k (.exit 0) (mkS [1, 2, 3, 4] [.ptr 0 0, .any, .lst (.pair (.int .i64) (.int .i64)) l, .int .i64 l.length] [some (.box 26 [.int .i64 m, .lst (.int .i64) b])]) := by
  induction d with
  | zero =>
    intro n i x hd hi hx hn
    subst hx
    rw [lpAt_def]
    conv => lhs; whnf
    refine br_f (df (by omega)) ?_
    conv => lhs; whnf
    have e : i = l.length := by omega
    rw [e]
    rfl
  | succ d ih =>
    intro n i x hd hi hx hn
    obtain ⟨n, rfl⟩ : ∃ m, n = m + 1 := ⟨n - 1, by omega⟩
    subst hx
    rw [lpAt_def]
    conv => lhs; whnf
    refine br_t (dt (by omega)) ?_
    conv => lhs; whnf
    refine (lpi_specIsChain m b l hl i (by omega) _ i _ 0 0 (by omega) (by omega) rfl (by omega)).trans ?_
    rw [List.drop_zero]
    refine Or.elim (Classical.em ((l.take i).any (apartB (l.getD i (0, 0))) = true)) (fun h => ?_) (fun h => ?_)
    · have e : chainL l i (d + 1) = true := by rw [chainL, h, Bool.true_or]
      rw [if_pos h, if_pos e]
      conv => lhs; whnf
      exact hk _
    · have h' : (l.take i).any (apartB (l.getD i (0, 0))) = false := by simpa using h
      have e : chainL l i (d + 1) = chainL l (i + 1) d := by rw [chainL, h', Bool.false_or]
      rw [if_neg h, e]
      conv => lhs; whnf
      exact ih n (i + 1) _ (by omega) (by omega) (by rw [wrap64 (by omega) (by omega)]; simp) (by omega)
theorem ev_specIsChain (m : Int) (b : List Int) (hp : b.length ≤ 8) : evF E_specIsChain ((concF m b).length + 400) Tryz.f87 [.agg [.int .i64 m, .lst (.int .i64) b]] [] = some (.bool (bif chainL (concF m b) 0 (concF m b).length then false else isCtx m b), []) := by
  have hl : (concF m b).length ≤ 256 := Nat.le_trans (concF_len m b) (by omega)
  conv => lhs; whnf
  conv => lhs; arg 1; whnf
  refine bnd_g (by omega) ?_
  conv => lhs; whnf
  refine (lp_specIsChain m b (concF m b) hl _ (some (.bool false, [])) ?_ (concF m b).length _ 0 0 rfl (by omega) rfl (by omega)).trans ?_
  · intro q
    conv => lhs; whnf
  refine Or.elim (Classical.em (chainL (concF m b) 0 (concF m b).length = true)) (fun h => ?_) (fun h => ?_)
  · rw [if_pos h, h]
    rfl
  · have h' : chainL (concF m b) 0 (concF m b).length = false := by simpa using h
    rw [if_neg h, h']
    conv => lhs; whnf
    conv => lhs; arg 1; whnf
    refine bnd_g (by omega) ?_
    conv => lhs; whnf
    rfl
theorem ok_specIsChain : FnOk Tryz.prog 87 K_specIsChain := by
  refine fn_ok (fn := Tryz.f87) (k := Tryz.f87.ntmps) (E := E_specIsChain) (facts_of (List.forall_mem_cons.2 ⟨ok_l6Under, List.forall_mem_cons.2 ⟨ok_specIsContext, List.forall_mem_cons.2 ⟨ok_specConF, List.forall_mem_nil _⟩⟩⟩)) (by kernel_rfl) rfl (by decide +kernel) (by decide +kernel) ?_
  intro avs hin r h
  unfold K_specIsChain at h
  split at h
  · obtain ⟨hp, rfl⟩ := gd_o h
    exact ⟨_, ev_specIsChain _ _ hp, rfl⟩
  · cases h

/- impl.IsChain -/
def K_implIsChain : List AV → List Ob → Option (AV × List Ob)
  | [.agg [.int .i64 m, .lst (.int .i64) b]], [] => gd (b.length ≤ 8) (.bool (bif chainL (concF m b) 0 (concF m b).length then false else isCtx m b), [])
  | _, _ => none
@[reducible] def E_implIsChain : Env := mkE (tb [(99, K_latBelow), (38, K_implIsContext), (37, K_implConF)]) (fun f => false) (fun r => bif r == 3 then ([1, 3, 9, 10], [1, 2, 3, 9, 10]) else bif r == 6 then ([1, 3, 4, 9, 10, 13, 14], [1, 2, 3, 9, 10]) else ([], []))
theorem bu_implIsChain {l : List (Int × Int)} (hs : ∀ p ∈ l, isSet 8 p.1 = true) {x a : Nat} (hx : x < l.length) : blwB l x a = underB (l.getD x (0, 0)) (l.getD a (0, 0)) :=
  (beq_bnot (hs _ (mem_getD (d := (0, 0)) hx))).symm
theorem lpi_implIsChain (m : Int) (b : List Int) (l : List (Int × Int)) (hl : l.length ≤ 64) (hs : ∀ p ∈ l, isSet 8 p.1 = true) (a : Nat) (ha : a < l.length) (k : AX → S → Option (AV × List Ob)) (d : Nat) : ∀ (n i : Nat) (x : Int), a - i = d → i ≤ a → x = i → d < n →
    lpAt E_implIsChain (lp E_implIsChain 0 n) 0 (loopAt Tryz.f83 1) (mkS [1, 3, 4, 9, 10, 13, 14] [.ptr 0 0, .lst (.pair (.int .i64) (.int .i64)) l, .int .i64 (a : Int), .int .i64 l.length, .int .i64 (a : Int), .int .i64 (a : Int), .int .i64 x] [some (.box 26 [.int .i64 m, .lst (.int .i64) b])]) k =
      if ((l.take a).drop i).any (apartB (l.getD a (0, 0))) then k .ret (mkS [1, 2, 3, 9, 10] [.ptr 0 0, .bool false, .lst (.pair (.int .i64) (.int .i64)) l, .int .i64 l.length, .int .i64 (a : Int)] [some (.box 26 [.int .i64 m, .lst (.int .i64) b])])
      else k (.exit 2) (mkS [1, 2, 3, 9, 10] [.ptr 0 0, .any, .lst (.pair (.int .i64) (.int .i64)) l, .int .i64 l.length, .int .i64 (a : Int)] [some (.box 26 [.int .i64 m, .lst (.int .i64) b])]) := by
  induction d with
  | zero =>
    intro n i x hd hi hx hn
    subst hx
    rw [lpAt_def]
    conv => lhs; whnf
    refine br_f (df (by omega)) ?_
    conv => lhs; whnf
    rw [List.drop_of_length_le (by simp; omega)]
    simp
  | succ d ih =>
    intro n i x hd hi hx hn
    obtain ⟨n, rfl⟩ : ∃ m, n = m + 1 := ⟨n - 1, by omega⟩
    subst hx
    rw [lpAt_def]
    conv => lhs; whnf
    refine br_t (dt (by omega)) ?_
    conv => lhs; whnf
    conv => lhs; arg 1; whnf
    refine bnd_g (by omega) ?_
    conv => lhs; whnf
    refine br_c (fun h => ?_) (fun h => ?_)
    · conv => lhs; whnf
      repeat ((first | with_reducible apply br_tt | with_reducible apply br_ff | with_reducible apply br_nf | with_reducible apply br_nt | with_reducible refine br_d ?_ (by kernel_rfl) | with_reducible apply br_t h | with_reducible apply br_f h | with_reducible refine br_t (dt2 (by omega) (by omega)) ?_); conv => lhs; whnf)
      conv => lhs; arg 1; whnf
      refine bnd_g (by omega) ?_
      conv => lhs; whnf
      repeat ((first | with_reducible apply br_tt | with_reducible apply br_ff | with_reducible apply br_nf | with_reducible apply br_nt | with_reducible refine br_d ?_ (by kernel_rfl) | with_reducible apply br_t h | with_reducible apply br_f h | with_reducible refine br_t (dt2 (by omega) (by omega)) ?_); conv => lhs; whnf)
      refine br_c (fun h2 => ?_) (fun h2 => ?_)
      · conv => lhs; whnf
        have e : ((l.take a).drop i).any (apartB (l.getD a (0, 0))) = true := by
          rw [take_any l (0, 0) _ (by omega) (by omega)]
          have h' : (!underB (l.getD a (0, 0)) (l.getD i (0, 0))) = true := bu_implIsChain hs (x := a) (a := i) (by omega) ▸ h
          have h2' : (!underB (l.getD i (0, 0)) (l.getD a (0, 0))) = true := bu_implIsChain hs (x := i) (a := a) (by omega) ▸ h2
          simp only [apartB, h', h2', cond_true, Bool.true_or]
        rw [if_pos e]
      · conv => lhs; whnf
        have e : ((l.take a).drop i).any (apartB (l.getD a (0, 0))) = ((l.take a).drop (i + 1)).any (apartB (l.getD a (0, 0))) := by
          rw [take_any l (0, 0) _ (by omega) (by omega)]
          have h' : (!underB (l.getD a (0, 0)) (l.getD i (0, 0))) = true := bu_implIsChain hs (x := a) (a := i) (by omega) ▸ h
          have h2' : (!underB (l.getD i (0, 0)) (l.getD a (0, 0))) = false := bu_implIsChain hs (x := i) (a := a) (by omega) ▸ h2
          simp only [apartB, h', h2', cond_true, Bool.false_or]
        rw [e]
        exact ih n (i + 1) _ (by omega) (by omega) (by rw [wrap64 (by omega) (by omega)]; simp) (by omega)
    · conv => lhs; whnf
      repeat ((first | with_reducible apply br_tt | with_reducible apply br_ff | with_reducible apply br_nf | with_reducible apply br_nt | with_reducible refine br_d ?_ (by kernel_rfl) | with_reducible apply br_t h | with_reducible apply br_f h | with_reducible refine br_t (dt2 (by omega) (by omega)) ?_); conv => lhs; whnf)
      have e : ((l.take a).drop i).any (apartB (l.getD a (0, 0))) = ((l.take a).drop (i + 1)).any (apartB (l.getD a (0, 0))) := by
        rw [take_any l (0, 0) _ (by omega) (by omega)]
        have h' : (!underB (l.getD a (0, 0)) (l.getD i (0, 0))) = false := bu_implIsChain hs (x := a) (a := i) (by omega) ▸ h
        simp only [apartB, h', cond_false, Bool.false_or]
      rw [e]
      exact ih n (i + 1) _ (by omega) (by omega) (by rw [wrap64 (by omega) (by omega)]; simp) (by omega)
theorem lp_implIsChain (m : Int) (b : List Int) (l : List (Int × Int)) (hl : l.length ≤ 64) (hs : ∀ p ∈ l, isSet 8 p.1 = true) (k : AX → S → Option (AV × List Ob)) (r : Option (AV × List Ob)) (hk : ∀ q, k .ret (mkS [1, 2, 3, 9, 10] [.ptr 0 0, .bool false, .lst (.pair (.int .i64) (.int .i64)) l, .int .i64 l.length, q] [some (.box 26 [.int .i64 m, .lst (.int .i64) b])]) = r) (d : Nat) : ∀ (n i : Nat) (x : Int), l.length - i = d → i ≤ l.length → x = i → d + 300 < n →
    lpAt E_implIsChain (lp E_implIsChain 0 n) 0 (loopAt Tryz.f83 0) (mkS [1, 3, 9, 10] [.ptr 0 0, .lst (.pair (.int .i64) (.int .i64)) l, .int .i64 l.length, .int .i64 x] [some (.box 26 [.int .i64 m, .lst (.int .i64) b])]) k =
      if chainL l i d then r else k (.exit 0) (mkS [1, 2, 3, 9, 10] [.ptr 0 0, .any, .lst (.pair (.int .i64) (.int .i64)) l, .int .i64 l.length, .int .i64 l.length] [some (.box 26 [.int .i64 m, .lst (.int .i64) b])]) := by
  induction d with
  | zero =>
    intro n i x hd hi hx hn
    subst hx
    rw [lpAt_def]
    conv => lhs; whnf
    refine br_f (df (by omega)) ?_
    conv => lhs; whnf
    have e : i = l.length := by omega
    rw [e]
    rfl
  | succ d ih =>
    intro n i x hd hi hx hn
    obtain ⟨n, rfl⟩ : ∃ m, n = m + 1 := ⟨n - 1, by omega⟩
    subst hx
    rw [lpAt_def]
    conv => lhs; whnf
    refine br_t (dt (by omega)) ?_
    conv => lhs; whnf
    refine (lpi_implIsChain m b l hl hs i (by omega) _ i _ 0 0 (by omega) (by omega) rfl (by omega)).trans ?_
    rw [List.drop_zero]
    refine Or.elim (Classical.em ((l.take i).any (apartB (l.getD i (0, 0))) = true)) (fun h => ?_) (fun h => ?_)
    · have e : chainL l i (d + 1) = true := by rw [chainL, h, Bool.true_or]
      rw [if_pos h, if_pos e]
      conv => lhs; whnf
      exact hk _
    · have h' : (l.take i).any (apartB (l.getD i (0, 0))) = false := by simpa using h
      have e : chainL l i (d + 1) = chainL l (i + 1) d := by rw [chainL, h', Bool.false_or]
      rw [if_neg h, e]
      conv => lhs; whnf
      exact ih n (i + 1) _ (by omega) (by omega) (by rw [wrap64 (by omega) (by omega)]; simp) (by omega)
theorem ev_implIsChain (m : Int) (b : List Int) (hp : b.length ≤ 8) : evF E_implIsChain ((concF m b).length + 400) Tryz.f83 [.agg [.int .i64 m, .lst (.int .i64) b]] [] = some (.bool (bif chainL (concF m b) 0 (concF m b).length then false else isCtx m b), []) := by
  have hl := concF_len m b
  have hs : ∀ p ∈ concF m b, isSet 8 p.1 = true := fun p h => isSet_8 (concF_mem h).2.2.1
  conv => lhs; whnf
  conv => lhs; arg 1; whnf
  refine bnd_g (by omega) ?_
  conv => lhs; whnf
  refine (lp_implIsChain m b (concF m b) hl hs _ (some (.bool false, [])) ?_ (concF m b).length _ 0 0 rfl (by omega) rfl (by omega)).trans ?_
  · intro q
    conv => lhs; whnf
  refine Or.elim (Classical.em (chainL (concF m b) 0 (concF m b).length = true)) (fun h => ?_) (fun h => ?_)
  · rw [if_pos h, h]
    rfl
  · have h' : chainL (concF m b) 0 (concF m b).length = false := by simpa using h
    rw [if_neg h, h']
    conv => lhs; whnf
    conv => lhs; arg 1; whnf
    refine bnd_g (by omega) ?_
    conv => lhs; whnf
    rfl
theorem ok_implIsChain : FnOk Tryz.prog 83 K_implIsChain := by
  refine fn_ok (fn := Tryz.f83) (k := Tryz.f83.ntmps) (E := E_implIsChain) (facts_of (List.forall_mem_cons.2 ⟨ok_latBelow, List.forall_mem_cons.2 ⟨ok_implIsContext, List.forall_mem_cons.2 ⟨ok_implConF, List.forall_mem_nil _⟩⟩⟩)) (by kernel_rfl) rfl (by decide +kernel) (by decide +kernel) ?_
  intro avs hin r h
  unfold K_implIsChain at h
  split at h
  · obtain ⟨hp, rfl⟩ := gd_o h
    exact ⟨_, ev_implIsChain _ _ hp, rfl⟩
  · cases h

/- spec.IsDistributive -/
def K_specIsDistributive : List AV → List Ob → Option (AV × List Ob)
  | [.agg [.int .i64 m, .lst (.int .i64) b]], [] => gd (b.length ≤ 8) (.bool (lawV m b true), [])
  | _, _ => none
@[reducible] def E_specIsDistributive : Env := mkE (tb [(144, K_specLaw)]) (fun f => false) (fun r => ([], []))
theorem ev_specIsDistributive (m : Int) (b : List Int) (hp : b.length ≤ 8) : evF E_specIsDistributive (1) Tryz.f88 [.agg [.int .i64 m, .lst (.int .i64) b]] [] = some (.bool (lawV m b true), []) := by
  conv => lhs; whnf
  conv => lhs; arg 1; whnf
  refine bnd_g (by exact hp) ?_
  conv => lhs; whnf
theorem ok_specIsDistributive : FnOk Tryz.prog 88 K_specIsDistributive := by
  refine fn_ok (fn := Tryz.f88) (k := Tryz.f88.ntmps) (E := E_specIsDistributive) (facts_of (List.forall_mem_cons.2 ⟨ok_specLaw, List.forall_mem_nil _⟩)) (by kernel_rfl) rfl (by decide +kernel) (by decide +kernel) ?_
  intro avs hin r h
  unfold K_specIsDistributive at h
  split at h
  · obtain ⟨hp, rfl⟩ := gd_o h
    exact ⟨_, ev_specIsDistributive _ _ hp, rfl⟩
  · cases h

/- spec.IsBoolean -/
def K_specIsBoolean : List AV → List Ob → Option (AV × List Ob)
  | [.agg [.int .i64 m, .lst (.int .i64) b]], [] => gd (b.length ≤ 8) (.bool (boolV m b), [])
  | _, _ => none
@[reducible] def E_specIsBoolean : Env := mkE (tb [(88, K_specIsDistributive), (143, K_specIsComplemented)]) (fun f => false) (fun r => ([], []))
theorem ev_specIsBoolean (m : Int) (b : List Int) (hp : b.length ≤ 8) : evF E_specIsBoolean (1) Tryz.f86 [.agg [.int .i64 m, .lst (.int .i64) b]] [] = some (.bool (boolV m b), []) := by
  conv => lhs; whnf
  conv => lhs; arg 1; whnf
  refine bnd_g (by exact hp) ?_
  conv => lhs; whnf
  refine br_c (fun g => ?_) (fun g => ?_)
  · conv => lhs; whnf
    repeat ((first | with_reducible apply br_tt | with_reducible apply br_ff | with_reducible apply br_nf | with_reducible apply br_nt | with_reducible refine br_d ?_ (by kernel_rfl) | with_reducible apply br_t g | with_reducible apply br_f g | with_reducible refine br_t (dt2 (by omega) (by omega)) ?_); conv => lhs; whnf)
    conv => lhs; arg 1; whnf
    refine bnd_g (by exact hp) ?_
    conv => lhs; whnf
    repeat ((first | with_reducible apply br_tt | with_reducible apply br_ff | with_reducible apply br_nf | with_reducible apply br_nt | with_reducible refine br_d ?_ (by kernel_rfl) | with_reducible apply br_t g | with_reducible apply br_f g | with_reducible refine br_t (dt2 (by omega) (by omega)) ?_); conv => lhs; whnf)
    unfold boolV
    rw [g]
    rfl
  · conv => lhs; whnf
    repeat ((first | with_reducible apply br_tt | with_reducible apply br_ff | with_reducible apply br_nf | with_reducible apply br_nt | with_reducible refine br_d ?_ (by kernel_rfl) | with_reducible apply br_t g | with_reducible apply br_f g | with_reducible refine br_t (dt2 (by omega) (by omega)) ?_); conv => lhs; whnf)
    unfold boolV
    rw [g]
    rfl
theorem ok_specIsBoolean : FnOk Tryz.prog 86 K_specIsBoolean := by
  refine fn_ok (fn := Tryz.f86) (k := Tryz.f86.ntmps) (E := E_specIsBoolean) (facts_of (List.forall_mem_cons.2 ⟨ok_specIsDistributive, List.forall_mem_cons.2 ⟨ok_specIsComplemented, List.forall_mem_nil _⟩⟩)) (by kernel_rfl) rfl (by decide +kernel) (by decide +kernel) ?_
  intro avs hin r h
  unfold K_specIsBoolean at h
  split at h
  · obtain ⟨hp, rfl⟩ := gd_o h
    exact ⟨_, ev_specIsBoolean _ _ hp, rfl⟩
  · cases h

/- spec.IsModular -/
def K_specIsModular : List AV → List Ob → Option (AV × List Ob)
  | [.agg [.int .i64 m, .lst (.int .i64) b]], [] => gd (b.length ≤ 8) (.bool (lawV m b false), [])
  | _, _ => none
@[reducible] def E_specIsModular : Env := mkE (tb [(144, K_specLaw)]) (fun f => false) (fun r => ([], []))
theorem ev_specIsModular (m : Int) (b : List Int) (hp : b.length ≤ 8) : evF E_specIsModular (1) Tryz.f89 [.agg [.int .i64 m, .lst (.int .i64) b]] [] = some (.bool (lawV m b false), []) := by
  conv => lhs; whnf
  conv => lhs; arg 1; whnf
  refine bnd_g (by exact hp) ?_
  conv => lhs; whnf
theorem ok_specIsModular : FnOk Tryz.prog 89 K_specIsModular := by
  refine fn_ok (fn := Tryz.f89) (k := Tryz.f89.ntmps) (E := E_specIsModular) (facts_of (List.forall_mem_cons.2 ⟨ok_specLaw, List.forall_mem_nil _⟩)) (by kernel_rfl) rfl (by decide +kernel) (by decide +kernel) ?_
  intro avs hin r h
  unfold K_specIsModular at h
  split at h
  · obtain ⟨hp, rfl⟩ := gd_o h
    exact ⟨_, ev_specIsModular _ _ hp, rfl⟩
  · cases h

/- spec.KindName -/
def K_specKindName : List AV → List Ob → Option (AV × List Ob)
  | [.agg [.int .i64 m, .lst (.int .i64) b]], [] => gd (b.length ≤ 1048576) (.str (kindF m b), [])
  | _, _ => none
@[reducible] def E_specKindName : Env := mkE (tb [(60, K_specIsContext), (86, K_specIsBoolean), (87, K_specIsChain), (88, K_specIsDistributive), (89, K_specIsModular)]) (fun f => false) (fun r => ([], []))
theorem ev_specKindName (m : Int) (b : List Int) (hp : b.length ≤ 1048576) : evF E_specKindName (1) Tryz.f35 [.agg [.int .i64 m, .lst (.int .i64) b]] [] = some (.str (kindF m b), []) := by
  unfold kindF
  conv => lhs; whnf
  conv => lhs; arg 1; whnf
  refine bnd_g (by omega) ?_
  conv => lhs; whnf
  refine br_c (fun h1 => ?_) (fun h1 => ?_)
  · conv => lhs; whnf
    rw [h1]
    rfl
  · have hc := bnf h1
    have hb := (isCtx_len hc).1
    conv => lhs; whnf
    conv => lhs; arg 1; whnf
    refine bnd_g (by exact hb) ?_
    conv => lhs; whnf
    refine br_c (fun h2 => ?_) (fun h2 => ?_)
    · conv => lhs; whnf
      rw [h1, h2]
      rfl
    · conv => lhs; whnf
      conv => lhs; arg 1; whnf
      refine bnd_g (by exact hb) ?_
      conv => lhs; whnf
      refine br_c (fun h3 => ?_) (fun h3 => ?_)
      · conv => lhs; whnf
        rw [h1, h2, h3]
        rfl
      · conv => lhs; whnf
        conv => lhs; arg 1; whnf
        refine bnd_g (by exact hb) ?_
        conv => lhs; whnf
        refine br_c (fun h4 => ?_) (fun h4 => ?_)
        · conv => lhs; whnf
          rw [h1, h2, h3, h4]
          rfl
        · conv => lhs; whnf
          conv => lhs; arg 1; whnf
          refine bnd_g (by exact hb) ?_
          conv => lhs; whnf
          refine br_c (fun h5 => ?_) (fun h5 => ?_)
          · conv => lhs; whnf
            rw [h1, h2, h3, h4, h5]
            rfl
          · conv => lhs; whnf
            rw [h1, h2, h3, h4, h5]
            rfl
theorem ok_specKindName : FnOk Tryz.prog 35 K_specKindName := by
  refine fn_ok (fn := Tryz.f35) (k := Tryz.f35.ntmps) (E := E_specKindName) (facts_of (List.forall_mem_cons.2 ⟨ok_specIsContext, List.forall_mem_cons.2 ⟨ok_specIsBoolean, List.forall_mem_cons.2 ⟨ok_specIsChain, List.forall_mem_cons.2 ⟨ok_specIsDistributive, List.forall_mem_cons.2 ⟨ok_specIsModular, List.forall_mem_nil _⟩⟩⟩⟩⟩)) (by kernel_rfl) rfl (by decide +kernel) (by decide +kernel) ?_
  intro avs hin r h
  unfold K_specKindName at h
  split at h
  · obtain ⟨hp, rfl⟩ := gd_o h
    exact ⟨_, ev_specKindName _ _ hp, rfl⟩
  · cases h

/- impl.IsDistributive -/
def K_implIsDistributive : List AV → List Ob → Option (AV × List Ob)
  | [.agg [.int .i64 m, .lst (.int .i64) b]], [] => gd (b.length ≤ 8) (.bool (lawV m b true), [])
  | _, _ => none
@[reducible] def E_implIsDistributive : Env := mkE (tb [(142, K_distributes)]) (fun f => false) (fun r => ([], []))
theorem ev_implIsDistributive (m : Int) (b : List Int) (hp : b.length ≤ 8) : evF E_implIsDistributive (1) Tryz.f84 [.agg [.int .i64 m, .lst (.int .i64) b]] [] = some (.bool (lawV m b true), []) := by
  conv => lhs; whnf
  conv => lhs; arg 1; whnf
  refine bnd_g (by exact hp) ?_
  conv => lhs; whnf
  rfl
theorem ok_implIsDistributive : FnOk Tryz.prog 84 K_implIsDistributive := by
  refine fn_ok (fn := Tryz.f84) (k := Tryz.f84.ntmps) (E := E_implIsDistributive) (facts_of (List.forall_mem_cons.2 ⟨ok_distributes, List.forall_mem_nil _⟩)) (by kernel_rfl) rfl (by decide +kernel) (by decide +kernel) ?_
  intro avs hin r h
  unfold K_implIsDistributive at h
  split at h
  · obtain ⟨hp, rfl⟩ := gd_o h
    exact ⟨_, ev_implIsDistributive _ _ hp, rfl⟩
  · cases h

/- impl.IsBoolean -/
def K_implIsBoolean : List AV → List Ob → Option (AV × List Ob)
  | [.agg [.int .i64 m, .lst (.int .i64) b]], [] => gd (b.length ≤ 8) (.bool (boolV m b), [])
  | _, _ => none
@[reducible] def E_implIsBoolean : Env := mkE (tb [(84, K_implIsDistributive), (141, K_implIsComplemented)]) (fun f => false) (fun r => ([], []))
theorem ev_implIsBoolean (m : Int) (b : List Int) (hp : b.length ≤ 8) : evF E_implIsBoolean (1) Tryz.f82 [.agg [.int .i64 m, .lst (.int .i64) b]] [] = some (.bool (boolV m b), []) := by
  conv => lhs; whnf
  conv => lhs; arg 1; whnf
  refine bnd_g (by exact hp) ?_
  conv => lhs; whnf
  refine br_c (fun g => ?_) (fun g => ?_)
  · conv => lhs; whnf
    repeat ((first | with_reducible apply br_tt | with_reducible apply br_ff | with_reducible apply br_nf | with_reducible apply br_nt | with_reducible refine br_d ?_ (by kernel_rfl) | with_reducible apply br_t g | with_reducible apply br_f g | with_reducible refine br_t (dt2 (by omega) (by omega)) ?_); conv => lhs; whnf)
    conv => lhs; arg 1; whnf
    refine bnd_g (by exact hp) ?_
    conv => lhs; whnf
    repeat ((first | with_reducible apply br_tt | with_reducible apply br_ff | with_reducible apply br_nf | with_reducible apply br_nt | with_reducible refine br_d ?_ (by kernel_rfl) | with_reducible apply br_t g | with_reducible apply br_f g | with_reducible refine br_t (dt2 (by omega) (by omega)) ?_); conv => lhs; whnf)
    unfold boolV
    rw [g]
    rfl
  · conv => lhs; whnf
    repeat ((first | with_reducible apply br_tt | with_reducible apply br_ff | with_reducible apply br_nf | with_reducible apply br_nt | with_reducible refine br_d ?_ (by kernel_rfl) | with_reducible apply br_t g | with_reducible apply br_f g | with_reducible refine br_t (dt2 (by omega) (by omega)) ?_); conv => lhs; whnf)
    unfold boolV
    rw [g]
    rfl
theorem ok_implIsBoolean : FnOk Tryz.prog 82 K_implIsBoolean := by
  refine fn_ok (fn := Tryz.f82) (k := Tryz.f82.ntmps) (E := E_implIsBoolean) (facts_of (List.forall_mem_cons.2 ⟨ok_implIsDistributive, List.forall_mem_cons.2 ⟨ok_implIsComplemented, List.forall_mem_nil _⟩⟩)) (by kernel_rfl) rfl (by decide +kernel) (by decide +kernel) ?_
  intro avs hin r h
  unfold K_implIsBoolean at h
  split at h
  · obtain ⟨hp, rfl⟩ := gd_o h
    exact ⟨_, ev_implIsBoolean _ _ hp, rfl⟩
  · cases h

/- impl.IsModular -/
def K_implIsModular : List AV → List Ob → Option (AV × List Ob)
  | [.agg [.int .i64 m, .lst (.int .i64) b]], [] => gd (b.length ≤ 8) (.bool (lawV m b false), [])
  | _, _ => none
@[reducible] def E_implIsModular : Env := mkE (tb [(142, K_distributes)]) (fun f => false) (fun r => ([], []))
theorem ev_implIsModular (m : Int) (b : List Int) (hp : b.length ≤ 8) : evF E_implIsModular (1) Tryz.f85 [.agg [.int .i64 m, .lst (.int .i64) b]] [] = some (.bool (lawV m b false), []) := by
  conv => lhs; whnf
  conv => lhs; arg 1; whnf
  refine bnd_g (by exact hp) ?_
  conv => lhs; whnf
  rfl
theorem ok_implIsModular : FnOk Tryz.prog 85 K_implIsModular := by
  refine fn_ok (fn := Tryz.f85) (k := Tryz.f85.ntmps) (E := E_implIsModular) (facts_of (List.forall_mem_cons.2 ⟨ok_distributes, List.forall_mem_nil _⟩)) (by kernel_rfl) rfl (by decide +kernel) (by decide +kernel) ?_
  intro avs hin r h
  unfold K_implIsModular at h
  split at h
  · obtain ⟨hp, rfl⟩ := gd_o h
    exact ⟨_, ev_implIsModular _ _ hp, rfl⟩
  · cases h

/- impl.KindName -/
def K_implKindName : List AV → List Ob → Option (AV × List Ob)
  | [.agg [.int .i64 m, .lst (.int .i64) b]], [] => gd (b.length ≤ 1048576) (.str (kindF m b), [])
  | _, _ => none
@[reducible] def E_implKindName : Env := mkE (tb [(38, K_implIsContext), (82, K_implIsBoolean), (83, K_implIsChain), (84, K_implIsDistributive), (85, K_implIsModular)]) (fun f => false) (fun r => ([], []))
theorem ev_implKindName (m : Int) (b : List Int) (hp : b.length ≤ 1048576) : evF E_implKindName (1) Tryz.f34 [.agg [.int .i64 m, .lst (.int .i64) b]] [] = some (.str (kindF m b), []) := by
  unfold kindF
  conv => lhs; whnf
  conv => lhs; arg 1; whnf
  refine bnd_g (by omega) ?_
  conv => lhs; whnf
  refine br_c (fun h1 => ?_) (fun h1 => ?_)
  · conv => lhs; whnf
    rw [h1]
    rfl
  · have hc := bnf h1
    have hb := (isCtx_len hc).1
    conv => lhs; whnf
    conv => lhs; arg 1; whnf
    refine bnd_g (by exact hb) ?_
    conv => lhs; whnf
    refine br_c (fun h2 => ?_) (fun h2 => ?_)
    · conv => lhs; whnf
      rw [h1, h2]
      rfl
    · conv => lhs; whnf
      conv => lhs; arg 1; whnf
      refine bnd_g (by exact hb) ?_
      conv => lhs; whnf
      refine br_c (fun h3 => ?_) (fun h3 => ?_)
      · conv => lhs; whnf
        rw [h1, h2, h3]
        rfl
      · conv => lhs; whnf
        conv => lhs; arg 1; whnf
        refine bnd_g (by exact hb) ?_
        conv => lhs; whnf
        refine br_c (fun h4 => ?_) (fun h4 => ?_)
        · conv => lhs; whnf
          rw [h1, h2, h3, h4]
          rfl
        · conv => lhs; whnf
          conv => lhs; arg 1; whnf
          refine bnd_g (by exact hb) ?_
          conv => lhs; whnf
          refine br_c (fun h5 => ?_) (fun h5 => ?_)
          · conv => lhs; whnf
            rw [h1, h2, h3, h4, h5]
            rfl
          · conv => lhs; whnf
            rw [h1, h2, h3, h4, h5]
            rfl
theorem ok_implKindName : FnOk Tryz.prog 34 K_implKindName := by
  refine fn_ok (fn := Tryz.f34) (k := Tryz.f34.ntmps) (E := E_implKindName) (facts_of (List.forall_mem_cons.2 ⟨ok_implIsContext, List.forall_mem_cons.2 ⟨ok_implIsBoolean, List.forall_mem_cons.2 ⟨ok_implIsChain, List.forall_mem_cons.2 ⟨ok_implIsDistributive, List.forall_mem_cons.2 ⟨ok_implIsModular, List.forall_mem_nil _⟩⟩⟩⟩⟩)) (by kernel_rfl) rfl (by decide +kernel) (by decide +kernel) ?_
  intro avs hin r h
  unfold K_implKindName at h
  split at h
  · obtain ⟨hp, rfl⟩ := gd_o h
    exact ⟨_, ev_implKindName _ _ hp, rfl⟩
  · cases h

end Go.Sym
