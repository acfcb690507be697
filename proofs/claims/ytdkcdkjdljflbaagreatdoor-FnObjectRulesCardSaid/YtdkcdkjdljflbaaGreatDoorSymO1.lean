/- Functions of the program, each told as a plain equation. -/
import Derived.Test.YtdkcdkjdljflbaaGreatDoorSymU2
namespace Go.Sym
open Go.Proofs
set_option linter.unusedVariables false
set_option linter.unusedSimpArgs false
set_option maxRecDepth 100000
set_option maxHeartbeats 4000000

def nearN (a : List Int) (g i : Int) : Int := cntF (band (a.getD i.toNat 0) (a.getD g.toNat 0))
def nearL (a : List Int) (g : Int) : Nat → Nat → Int → List Int → List Int
  | 0, _, _, out => out
  | d + 1, i, best, out => if (i : Int) = g then nearL a g d (i + 1) best out
    else if best < nearN a g i then nearL a g d (i + 1) (nearN a g i) [(i : Int)]
    else if nearN a g i = best then nearL a g d (i + 1) best (out ++ [(i : Int)])
    else nearL a g d (i + 1) best out
theorem nearL_length (a : List Int) (g : Int) : ∀ (d i : Nat) (best : Int) (out : List Int), out.length ≤ i → (nearL a g d i best out).length ≤ i + d
  | 0, i, _, out, h => by unfold nearL; omega
  | d + 1, i, best, out, h => by
    unfold nearL
    have h1 := nearL_length a g d (i + 1) best out (by omega)
    have h2 := nearL_length a g d (i + 1) (nearN a g i) [(i : Int)] (by simp)
    have h3 := nearL_length a g d (i + 1) best (out ++ [(i : Int)]) (by simp; omega)
    split
    · omega
    · split
      · omega
      · split <;> omega
def nearF (m : Int) (a : List Int) (g : Int) : List Int := bif notObj m a g then [] else nearL a g a.length 0 (-1) []
theorem nearF_len (m : Int) (a : List Int) (g : Int) : (nearF m a g).length ≤ 8 := by
  unfold nearF
  cases h : notObj m a g
  · unfold notObj at h
    have h := bnf h
    rw [Bool.and_eq_true] at h
    have h1 := nearL_length a g a.length 0 (-1) [] (by simp)
    have h2 := (isCtx_len h.1).1
    rw [cond_false]
    omega
  · simp
def orhF (m : Int) (a : List Int) (p q : Int) : Bool :=
  isCtx m a && (isSet a.length p && isSet a.length q) && (bnot (intentF m a p) (intentF m a q) == 0)
theorem orh_eq (m : Int) (a : List Int) (p q : Int) : (band (intentF m a q) (intentF m a p) == intentF m a p) = (bnot (intentF m a p) (intentF m a q) == 0) := by
  have h := intentF_rng m a p
  rw [band_comm]
  have e := sub_iff (a := intentF m a p) (b := intentF m a q) h.1 h.2
  rw [Bool.eq_iff_iff, beq_iff_eq, beq_iff_eq, e]
theorem dual_iff {m : Int} {b : List Int} (h : (dualF m b).2.2 = true) {p q : Nat} (hp : p < 2 ^ b.length) (hq : q < 2 ^ b.length) :
    SubN q (clN (b.length : Int) (colsF m b) p) ↔ SubN (intentF m b (p : Int)).toNat (intentF m b (q : Int)).toNat := by
  have hx := dualF_ctx h
  have hd : (isCtx m b && !decide ((b.length : Int) > 6)) = true := by
    unfold dualF at h
    cases hc : (isCtx m b && !decide ((b.length : Int) > 6))
    · rw [hc] at h; cases h
    · rfl
  have hf : dualF m b = ((b.length : Int), colsF m b, true) := by unfold dualF; rw [hd]; rfl
  rw [hf] at hx
  simp only at hx
  obtain ⟨h1, _⟩ := Bool.and_eq_true_iff.1 hd
  have hl := isCtx_len h1
  have hsm := ctx_small h1
  have h2 : 2 ^ b.length ≤ 2 ^ 8 := Nat.pow_le_pow_right (by omega) hl.1
  obtain ⟨_, _, ip⟩ := intentF_spec (m := m) ⟨hl.2.1, by omega⟩ hl.1 hsm (t := (p : Int)) (by rw [isSet8]; exact dt (by omega))
  obtain ⟨_, _, iq⟩ := intentF_spec (m := m) ⟨hl.2.1, by omega⟩ hl.1 hsm (t := (q : Int)) (by rw [isSet8]; exact dt (by omega))
  have hcol : ∀ e, e < m.toNat → ∀ k, ((colsF m b).getD e 0).toNat.testBit k = true ↔ k < b.length ∧ (b.getD k 0).toNat.testBit e = true := by
    intro e he k
    unfold colsF
    rw [colsL_get b _ 0 e he, Nat.zero_add]
    exact colF_bit hl.1 e k
  have hcl := fun k => clN_bit hx (s := p) (by omega) k
  have hlen : (colsF m b).length = m.toNat := colsF_length
  constructor
  · intro hs e he
    obtain ⟨e1, e2⟩ := (ip e).1 he
    refine (iq e).2 ⟨e1, fun k hk hb => ?_⟩
    rw [Int.toNat_natCast] at hb
    have := ((hcl k).1 (hs k hb)).2 e (by omega) fun j hj => (hcol e (by omega) j).2 ?_
    · exact ((hcol e (by omega) k).1 this).2
    · have hjl : j < b.length := by
        rcases Nat.lt_or_ge j b.length with q | q
        · exact q
        · rw [Nat.testBit_lt_two_pow (Nat.lt_of_lt_of_le hp (Nat.pow_le_pow_right (by omega) q))] at hj
          cases hj
      exact ⟨hjl, e2 j hjl (by rw [Int.toNat_natCast]; exact hj)⟩
  · intro hs k hk
    have hkl : k < b.length := by
      rcases Nat.lt_or_ge k b.length with g | g
      · exact g
      · rw [Nat.testBit_lt_two_pow (Nat.lt_of_lt_of_le hq (Nat.pow_le_pow_right (by omega) g))] at hk
        cases hk
    refine (hcl k).2 ⟨by omega, fun e he hsub => ?_⟩
    have he' : e < m.toNat := by omega
    refine (hcol e he' k).2 ⟨hkl, ?_⟩
    have h3 : (intentF m b (p : Int)).toNat.testBit e = true := (ip e).2 ⟨by omega, fun j hj hb => ((hcol e he' j).1 (hsub j (by rw [Int.toNat_natCast] at hb; exact hb))).2⟩
    exact ((iq e).1 (hs e h3)).2 k hkl (by rw [Int.toNat_natCast]; exact hk)
theorem dualF_true {m : Int} {b : List Int} (h : (dualF m b).2.2 = true) : dualF m b = ((b.length : Int), colsF m b, true) ∧ isCtx m b = true ∧ b.length ≤ 6 := by
  unfold dualF at h ⊢
  cases hc : (isCtx m b && !decide ((b.length : Int) > 6))
  · rw [hc] at h; cases h
  · rw [Bool.and_eq_true, Bool.not_eq_true', decide_eq_false_iff_not] at hc
    exact ⟨rfl, hc.1, by omega⟩
theorem orh_core {m : Int} {b : List Int} (h : (dualF m b).2.2 = true) {p q : Nat} (hp : p < 2 ^ b.length) (hq : q < 2 ^ b.length) : (bnot (intentF m b (p : Int)) (intentF m b (q : Int)) == 0) = (band (q : Int) (intentF (b.length : Int) (colsF m b) (extF (colsF m b) (p : Int))) == (q : Int)) := by
  obtain ⟨hf, h1, hl6⟩ := dualF_true h
  have hx := dualF_ctx h
  rw [hf] at hx
  simp only at hx
  have hl := isCtx_len h1
  have hsm := ctx_small h1
  have h2 : 2 ^ b.length ≤ 2 ^ 6 := Nat.pow_le_pow_right (by omega) hl6
  have hcl := (cl_clo hx).lt p (by rw [Int.toNat_natCast]; exact hp)
  rw [Int.toNat_natCast] at hcl
  have p8 : isSet 8 (p : Int) = true := by rw [isSet8]; exact dt (by omega)
  have q8 : isSet 8 (q : Int) = true := by rw [isSet8]; exact dt (by omega)
  obtain ⟨i1, i2, _⟩ := intentF_spec (m := m) ⟨hl.2.1, by omega⟩ hl.1 hsm p8
  obtain ⟨j1, j2, _⟩ := intentF_spec (m := m) ⟨hl.2.1, by omega⟩ hl.1 hsm q8
  have e1 := bnot_nat (x := (intentF m b (q : Int)).toNat) (s := (intentF m b (p : Int)).toNat) (by omega) (by omega)
  rw [Int.toNat_of_nonneg i1, Int.toNat_of_nonneg j1] at e1
  have e2 := clN_int hx (s := p) (by omega)
  have e3 := sub_nat (x := clN (b.length : Int) (colsF m b) p) (s := q) (by omega) (by omega)
  rw [e2, Bool.eq_iff_iff, e1, e3]
  exact (dual_iff h hp hq).symm
theorem orh_dual {m : Int} {b : List Int} (h : (dualF m b).2.2 = true) (p q : Int) : orhF m b p q = holdS (b.length : Int) (colsF m b) p q := by
  obtain ⟨hf, h1, hl6⟩ := dualF_true h
  have hx := dualF_ctx h
  rw [hf] at hx
  simp only at hx
  unfold orhF holdS
  rw [h1, hx]
  cases hs : (isSet (b.length : Int) p && isSet (b.length : Int) q)
  · simp only [Bool.and_false, Bool.false_and]
  · obtain ⟨g1, g2⟩ := Bool.and_eq_true_iff.1 hs
    obtain ⟨p, rfl, hp⟩ := isSet_ex g1
    obtain ⟨q, rfl, hq⟩ := isSet_ex g2
    rw [Int.toNat_natCast] at hp hq
    rw [orh_core h hp hq]
theorem objB_holds {m : Int} {b : List Int} {r : Int × Int} (hr : r ∈ objB m b) : orhF m b r.1 r.2 = true := by
  unfold objB at hr
  cases h : (dualF m b).2.2 with
  | false => rw [h] at hr; cases hr
  | true =>
    rw [h, cond_true] at hr
    rw [orh_dual h]
    obtain ⟨hf, h1, hl6⟩ := dualF_true h
    have hx := dualF_ctx h
    rw [hf] at hx hr
    simp only at hx hr
    unfold stemR at hr
    obtain ⟨s, hs, rfl⟩ := List.mem_map.1 hr
    obtain ⟨g1, g2⟩ := stemI_mem (by omega) hs
    obtain ⟨s, rfl⟩ : ∃ k : Nat, s = k := ⟨s.toNat, by omega⟩
    rw [Int.toNat_natCast] at g2
    have h64 := lt256 hx g2
    have hcl := (cl_clo hx).lt s g2
    have hc64 := lt256 hx hcl
    unfold holdS
    simp only
    rw [clN_int hx (by omega), hx, set_of_lt hx g2, set_of_lt hx hcl]
    simp only [Bool.true_and]
    exact (sub_nat (by omega) (by omega)).2 fun i hi => hi
theorem nearL_all (a : List Int) (g : Int) : ∀ (d i : Nat) (best : Int) (out : List Int), (∀ x ∈ out, nearN a g x = best ∧ 0 ≤ x ∧ x < (i : Int)) →
    ∃ c, ∀ x ∈ nearL a g d i best out, nearN a g x = c ∧ 0 ≤ x ∧ x < ((i + d : Nat) : Int)
  | 0, i, best, out, h => ⟨best, h⟩
  | d + 1, i, best, out, h => by
    have fit : ∀ c, (∀ x ∈ out, nearN a g x = c ∧ 0 ≤ x ∧ x < (i : Int)) → ∀ x ∈ out, nearN a g x = c ∧ 0 ≤ x ∧ x < ((i + 1 : Nat) : Int) := fun c hc x hx => by
      obtain ⟨q1, q2, q3⟩ := hc x hx
      exact ⟨q1, q2, by omega⟩
    have ex : i + 1 + d = i + (d + 1) := by omega
    unfold nearL
    rw [← ex]
    split
    · exact nearL_all a g d (i + 1) best out (fit _ h)
    · split
      · refine nearL_all a g d (i + 1) _ _ fun x hx => ?_
        rw [List.mem_singleton] at hx
        subst hx
        exact ⟨rfl, by omega, by omega⟩
      · split
        · rename_i hb
          refine nearL_all a g d (i + 1) best _ fun x hx => ?_
          rcases List.mem_append.1 hx with hx | hx
          · exact fit _ h x hx
          · rw [List.mem_singleton] at hx
            subst hx
            exact ⟨hb, by omega, by omega⟩
        · exact nearL_all a g d (i + 1) best out (fit _ h)
theorem near_shared {m : Int} {a : List Int} {g x y : Int} (hx : x ∈ nearF m a g) (hy : y ∈ nearF m a g) : sharedF m a [g, x] = sharedF m a [g, y] := by
  unfold nearF at hx hy
  cases hn : notObj m a g with
  | true => rw [hn] at hx; cases hx
  | false =>
    rw [hn, cond_false] at hx hy
    obtain ⟨c, hc⟩ := nearL_all a g a.length 0 (-1) [] (fun x hx => by cases hx)
    have hgo := hn
    unfold notObj at hgo
    rw [Bool.not_eq_false', Bool.and_eq_true, decide_eq_true_eq] at hgo
    obtain ⟨h1, hg⟩ := hgo
    have hl := isCtx_len h1
    have hsm := ctx_small h1
    have key : ∀ z, z ∈ nearL a g a.length 0 (-1) [] → sharedF m a [g, z] = c := by
      intro z hz
      obtain ⟨q1, q2, q3⟩ := hc z hz
      have hnz : notObj m a z = false := by
        unfold notObj
        rw [h1, dt (by omega)]
        rfl
      unfold sharedF
      simp only [List.any_cons, List.any_nil, hn, hnz, h1, Bool.or_false, Bool.not_false, Bool.and_self, if_true, andRows]
      rw [← q1]
      unfold nearN
      have hgm : isSet m (a.getD g.toNat 0) = true := hl.2.2.2 _ (mem_getD (by omega))
      have hgr := small_getD hsm g.toNat
      have hzr := small_getD hsm z.toNat
      have hf := fullSet_rng m
      have e1 : band (fullSet m) (a.getD g.toNat 0) = a.getD g.toNat 0 := by
        obtain ⟨r, hr, hr2⟩ := isSet_ex hgm
        have e3 := band_set (x := fullSet m) (y := (r : Int)) hf (by omega)
        rw [hr]
        have : (band (fullSet m) (r : Int)).toNat = r := by
          rw [e3.2.2, Int.toNat_natCast]
          apply Nat.eq_of_testBit_eq
          intro i
          rw [Nat.testBit_and, fullSet_bit (by omega) (by omega)]
          rcases Nat.lt_or_ge i m.toNat with q | q
          · rw [dt (by omega), Bool.true_and]
          · rw [Nat.testBit_lt_two_pow (Nat.lt_of_lt_of_le hr2 (Nat.pow_le_pow_right (by omega) q)), Bool.and_false]
        omega
      rw [e1, band_comm]
    rw [key x hx, key y hy]
def shrL (b : List Int) (N : Int) : Nat → Cu → List Int
  | 0, _ => []
  | d + 1, c => be b c N :: shrL b N d (nx b c)
theorem shrL_len (b : List Int) (N : Int) : ∀ (d : Nat) (c : Cu), (shrL b N d c).length = d
  | 0, _ => rfl
  | d + 1, c => by unfold shrL; rw [List.length_cons, shrL_len b N d]
def orhR (b : List Int) (c : Cu) : Int × Int := (mk9 b (shlI (min ((bent3 b c).2.1.length : Int) 8)) (bent3 b c).2.2).1
def shrD (b : List Int) (c : Cu) : List Int := shrL b (max 1 (((bent3 b c).2.1.length : Int) + 1)) (be b (bent3 b c).2.2 4).toNat (nx b (bent3 b c).2.2)
theorem shrD_len (b : List Int) (c : Cu) : (shrD b c).length ≤ 4 := by
  have := be_rng b (bent3 b c).2.2 (n := 4) (by omega)
  unfold shrD
  rw [shrL_len]
  omega
/- spec.l1Min -/
def K_l1Min : List AV → List Ob → Option (AV × List Ob)
  | [.int .i64 a, .int .i64 b], [] => gd (True) (.int .i64 (min a b), [])
  | _, _ => none
@[reducible] def E_l1Min : Env := mkE (tb []) (fun f => false) (fun r => ([], []))
theorem ev_l1Min (a b : Int) (hp : True) : evF E_l1Min (1) Tryz.f89 [.int .i64 a, .int .i64 b] [] = some (.int .i64 (min a b), []) := by
  conv => lhs; whnf
  refine br_c (fun h => ?_) (fun h => ?_)
  · conv => lhs; whnf
    have h := ofd h
    refine okI ?_
    omega
  · conv => lhs; whnf
    have h := ofn h
    refine okI ?_
    omega
theorem ok_l1Min : FnOk Tryz.prog 89 K_l1Min := by
  refine fn_ok (fn := Tryz.f89) (k := Tryz.f89.ntmps) (E := E_l1Min) (facts_of (List.forall_mem_nil _)) (by kernel_rfl) rfl (by decide +kernel) (by decide +kernel) ?_
  intro avs hin r h
  unfold K_l1Min at h
  split at h
  · obtain ⟨hp, rfl⟩ := gd_o h
    exact ⟨_, ev_l1Min _ _ hp, rfl⟩
  · cases h

/- spec.DrawObjectRuleHolds -/
def K_drawObjectRuleHolds : List AV → List Ob → Option (AV × List Ob)
  | [.lst (.int .u8) b], [] => gd (b.length ≤ 1048576) (.tup [.agg [.int .i64 (bent3 b (newC b)).1, .own 0], .agg [.int .i64 (orhR b (newC b)).1, .int .i64 (orhR b (newC b)).2]], [.row 3 (.int .i64) (bent3 b (newC b)).2.1])
  | _, _ => none
@[reducible] def E_drawObjectRuleHolds : Env := mkE (tb [(86, K_l1New), (89, K_l1Min), (87, K_l3Bent), (88, K_l9Make)]) (fun f => [87, 88].contains f) (fun r => ([], []))
theorem ev_drawObjectRuleHolds (b : List Int) (hp : b.length ≤ 1048576) : evF E_drawObjectRuleHolds (1) Tryz.f33 [.lst (.int .u8) b] [] = some (.tup [.agg [.int .i64 (bent3 b (newC b)).1, .own 0], .agg [.int .i64 (orhR b (newC b)).1, .int .i64 (orhR b (newC b)).2]], [.row 3 (.int .i64) (bent3 b (newC b)).2.1]) := by
  have n0 := newC_ok hp
  have hd := bent3_ok n0
  conv => lhs; whnf
  conv => lhs; arg 1; whnf
  refine bnd_g (by exact hp) ?_
  conv => lhs; whnf
  conv => lhs; arg 1; whnf
  refine bnd_g (by exact n0) ?_
  conv => lhs; whnf
  conv => lhs; arg 1; whnf
  refine bnd_g (by exact True.intro) ?_
  conv => lhs; whnf
  conv => lhs; arg 1; whnf
  refine bnd_g (by exact ⟨hd.2, by omega, by omega⟩) ?_
  conv => lhs; whnf
  refine br_t (by kernel_rfl) ?_
  conv => lhs; whnf
  all_goals rfl
theorem ok_drawObjectRuleHolds : FnOk Tryz.prog 33 K_drawObjectRuleHolds := by
  refine fn_ok (fn := Tryz.f33) (k := Tryz.f33.ntmps) (E := E_drawObjectRuleHolds) (facts_of (List.forall_mem_cons.2 ⟨ok_l1New, List.forall_mem_cons.2 ⟨ok_l1Min, List.forall_mem_cons.2 ⟨ok_l3Bent, List.forall_mem_cons.2 ⟨ok_l9Make, List.forall_mem_nil _⟩⟩⟩⟩)) (by kernel_rfl) rfl (by decide +kernel) (by decide +kernel) ?_
  intro avs hin r h
  unfold K_drawObjectRuleHolds at h
  split at h
  · obtain ⟨hp, rfl⟩ := gd_o h
    exact ⟨_, ev_drawObjectRuleHolds _ hp, rfl⟩
  · cases h

/- spec.DrawObjectBase -/
def K_drawObjectBase : List AV → List Ob → Option (AV × List Ob)
  | [.lst (.int .u8) b], [] => gd (b.length ≤ 1048576) (.agg [.int .i64 (bent3 b (newC b)).1, .own 0], [.row 3 (.int .i64) (bent3 b (newC b)).2.1])
  | _, _ => none
@[reducible] def E_drawObjectBase : Env := mkE (tb [(86, K_l1New), (87, K_l3Bent)]) (fun f => [87].contains f) (fun r => ([], []))
theorem ev_drawObjectBase (b : List Int) (hp : b.length ≤ 1048576) : evF E_drawObjectBase (1) Tryz.f35 [.lst (.int .u8) b] [] = some (.agg [.int .i64 (bent3 b (newC b)).1, .own 0], [.row 3 (.int .i64) (bent3 b (newC b)).2.1]) := by
  conv => lhs; whnf
  conv => lhs; arg 1; whnf
  refine bnd_g (by exact hp) ?_
  conv => lhs; whnf
  conv => lhs; arg 1; whnf
  refine bnd_g (by exact newC_ok hp) ?_
  conv => lhs; whnf
theorem ok_drawObjectBase : FnOk Tryz.prog 35 K_drawObjectBase := by
  refine fn_ok (fn := Tryz.f35) (k := Tryz.f35.ntmps) (E := E_drawObjectBase) (facts_of (List.forall_mem_cons.2 ⟨ok_l1New, List.forall_mem_cons.2 ⟨ok_l3Bent, List.forall_mem_nil _⟩⟩)) (by kernel_rfl) rfl (by decide +kernel) (by decide +kernel) ?_
  intro avs hin r h
  unfold K_drawObjectBase at h
  split at h
  · obtain ⟨hp, rfl⟩ := gd_o h
    exact ⟨_, ev_drawObjectBase _ hp, rfl⟩
  · cases h

/- spec.DrawExploreObjects -/
def K_drawExploreObjects : List AV → List Ob → Option (AV × List Ob)
  | [.lst (.int .u8) b], [] => gd (b.length ≤ 1048576) (.agg [.int .i64 (bent3 b (newC b)).1, .own 0], [.row 3 (.int .i64) (bent3 b (newC b)).2.1])
  | _, _ => none
@[reducible] def E_drawExploreObjects : Env := mkE (tb [(86, K_l1New), (87, K_l3Bent)]) (fun f => [87].contains f) (fun r => ([], []))
theorem ev_drawExploreObjects (b : List Int) (hp : b.length ≤ 1048576) : evF E_drawExploreObjects (1) Tryz.f38 [.lst (.int .u8) b] [] = some (.agg [.int .i64 (bent3 b (newC b)).1, .own 0], [.row 3 (.int .i64) (bent3 b (newC b)).2.1]) := by
  conv => lhs; whnf
  conv => lhs; arg 1; whnf
  refine bnd_g (by exact hp) ?_
  conv => lhs; whnf
  conv => lhs; arg 1; whnf
  refine bnd_g (by exact newC_ok hp) ?_
  conv => lhs; whnf
theorem ok_drawExploreObjects : FnOk Tryz.prog 38 K_drawExploreObjects := by
  refine fn_ok (fn := Tryz.f38) (k := Tryz.f38.ntmps) (E := E_drawExploreObjects) (facts_of (List.forall_mem_cons.2 ⟨ok_l1New, List.forall_mem_cons.2 ⟨ok_l3Bent, List.forall_mem_nil _⟩⟩)) (by kernel_rfl) rfl (by decide +kernel) (by decide +kernel) ?_
  intro avs hin r h
  unfold K_drawExploreObjects at h
  split at h
  · obtain ⟨hp, rfl⟩ := gd_o h
    exact ⟨_, ev_drawExploreObjects _ hp, rfl⟩
  · cases h

/- spec.l1Max -/
def K_l1Max : List AV → List Ob → Option (AV × List Ob)
  | [.int .i64 a, .int .i64 b], [] => gd (True) (.int .i64 (max a b), [])
  | _, _ => none
@[reducible] def E_l1Max : Env := mkE (tb []) (fun f => false) (fun r => ([], []))
theorem ev_l1Max (a b : Int) (hp : True) : evF E_l1Max (1) Tryz.f97 [.int .i64 a, .int .i64 b] [] = some (.int .i64 (max a b), []) := by
  conv => lhs; whnf
  refine br_c (fun h => ?_) (fun h => ?_)
  · conv => lhs; whnf
    have h := ofd h
    refine okI ?_
    omega
  · conv => lhs; whnf
    have h := ofn h
    refine okI ?_
    omega
theorem ok_l1Max : FnOk Tryz.prog 97 K_l1Max := by
  refine fn_ok (fn := Tryz.f97) (k := Tryz.f97.ntmps) (E := E_l1Max) (facts_of (List.forall_mem_nil _)) (by kernel_rfl) rfl (by decide +kernel) (by decide +kernel) ?_
  intro avs hin r h
  unfold K_l1Max at h
  split at h
  · obtain ⟨hp, rfl⟩ := gd_o h
    exact ⟨_, ev_l1Max _ _ hp, rfl⟩
  · cases h

/- spec.DrawSharedBy -/
def K_drawSharedBy : List AV → List Ob → Option (AV × List Ob)
  | [.lst (.int .u8) b], [] => gd (b.length ≤ 1048576) (.tup [.agg [.int .i64 (bent3 b (newC b)).1, .own 0], .own 1], [.row 3 (.int .i64) (bent3 b (newC b)).2.1, .row 3 (.int .i64) (shrD b (newC b))])
  | _, _ => none
@[reducible] def E_drawSharedBy : Env := mkE (tb [(86, K_l1New), (97, K_l1Max), (87, K_l3Bent), (96, K_l1Below)]) (fun f => [87, 96].contains f) (fun r => bif r == 6 then ([2, 4, 5, 6, 7, 8], [2, 5, 6]) else ([], []))
theorem lp_drawSharedBy (b : List Int) (m : Int) (a : List Int) (ha : a.length ≤ 9) (N : Int) (hN : 0 ≤ N ∧ N ≤ 100) (k : AX → S → Option (AV × List Ob)) (d : Nat) : ∀ (n i : Nat) (x i0 h0 : Int) (zs : List Int), N.toNat - i = d → i ≤ N.toNat → x = i → d < n → CuOk b i0 → zs.length ≤ i →
    lpAt E_drawSharedBy (lp E_drawSharedBy 0 n) 0 (loopAt Tryz.f41 0) (mkS [2, 4, 5, 6, 7, 8] [.ptr 0 0, .ptr 2 0, .ptr 3 0, .own 5, .int .i64 N, .int .i64 x] [some (.box 26 [.int .i64 0, .own 1]), some (.row 3 (.int .i64) []), some (.box 109 [.lst (.int .u8) b, .int .i64 i0, .int .i64 h0]), some (.box 26 [.int .i64 m, .own 4]), some (.row 3 (.int .i64) a), some (.row 3 (.int .i64) zs)]) k =
      k (.exit 0) (mkS [2, 5, 6] [.ptr 0 0, .ptr 2 0, .own 4] [some (.box 26 [.int .i64 0, .own 1]), some (.row 3 (.int .i64) []), some (.box 26 [.int .i64 m, .own 3]), some (.row 3 (.int .i64) a), some (.row 3 (.int .i64) (zs ++ shrL b (max 1 ((a.length : Int) + 1)) d (i0, h0)))]) := by
  have hw : IntKind.i64.wrap ((a.length : Int) + 1) = (a.length : Int) + 1 := wrap64 (by omega) (by omega)
  induction d with
  | zero =>
    intro n i x i0 h0 zs hd hi hx hn hc hz
    subst hx
    rw [lpAt_def]
    conv => lhs; whnf
    refine br_f (df (by omega)) ?_
    conv => lhs; whnf
    rw [shrL, List.append_nil]
  | succ d ih =>
    intro n i x i0 h0 zs hd hi hx hn hc hz
    obtain ⟨n, rfl⟩ : ∃ m, n = m + 1 := ⟨n - 1, by omega⟩
    subst hx
    rw [lpAt_def]
    conv => lhs; whnf
    refine br_t (dt (by omega)) ?_
    conv => lhs; whnf
    rw [hw]
    conv => lhs; arg 1; whnf
    refine bnd_g (by exact True.intro) ?_
    conv => lhs; whnf
    conv => lhs; arg 1; whnf
    refine bnd_g (by exact ⟨hc, by omega, by omega⟩) ?_
    conv => lhs; whnf
    refine br_t (dt (by simp [room]; omega)) ?_
    conv => lhs; whnf
    refine (ih n (i + 1) (IntKind.i64.wrap ((i : Int) + 1)) _ _ _ (by omega) (by omega) (by rw [wrap64 (n := (i : Int) + 1) (by omega) (by omega)]; simp) (by omega) (nx_ok (c := (i0, h0)) hc) (by simp; omega)).trans ?_
    rw [shrL, List.append_assoc]
    rfl
theorem ev_drawSharedBy (b : List Int) (hp : b.length ≤ 1048576) : evF E_drawSharedBy (20) Tryz.f41 [.lst (.int .u8) b] [] = some (.tup [.agg [.int .i64 (bent3 b (newC b)).1, .own 0], .own 1], [.row 3 (.int .i64) (bent3 b (newC b)).2.1, .row 3 (.int .i64) (shrD b (newC b))]) := by
  have n0 := newC_ok hp
  have hd := bent3_ok n0
  have n1 := nx_ok hd.2
  have hr := be_rng b (bent3 b (newC b)).2.2 (n := 4) (by omega)
  conv => lhs; whnf
  conv => lhs; arg 1; whnf
  refine bnd_g (by exact hp) ?_
  conv => lhs; whnf
  conv => lhs; arg 1; whnf
  refine bnd_g (by exact n0) ?_
  conv => lhs; whnf
  conv => lhs; arg 1; whnf
  refine bnd_g (by exact ⟨hd.2, by omega, by omega⟩) ?_
  conv => lhs; whnf
  refine (lp_drawSharedBy b (bent3 b (newC b)).1 (bent3 b (newC b)).2.1 hd.1 (be b (bent3 b (newC b)).2.2 4) (by omega) _ (be b (bent3 b (newC b)).2.2 4).toNat _ 0 0 (nx b (bent3 b (newC b)).2.2).1 (nx b (bent3 b (newC b)).2.2).2 [] rfl (by omega) rfl (by change _ < 19; omega) n1 (by simp)).trans ?_
  conv => lhs; whnf
  all_goals rfl
theorem ok_drawSharedBy : FnOk Tryz.prog 41 K_drawSharedBy := by
  refine fn_ok (fn := Tryz.f41) (k := Tryz.f41.ntmps) (E := E_drawSharedBy) (facts_of (List.forall_mem_cons.2 ⟨ok_l1New, List.forall_mem_cons.2 ⟨ok_l1Max, List.forall_mem_cons.2 ⟨ok_l3Bent, List.forall_mem_cons.2 ⟨ok_l1Below, List.forall_mem_nil _⟩⟩⟩⟩)) (by kernel_rfl) rfl (by decide +kernel) (by decide +kernel) ?_
  intro avs hin r h
  unfold K_drawSharedBy at h
  split at h
  · obtain ⟨hp, rfl⟩ := gd_o h
    exact ⟨_, ev_drawSharedBy _ hp, rfl⟩
  · cases h

/- spec.DrawNearestObjects -/
def K_drawNearestObjects : List AV → List Ob → Option (AV × List Ob)
  | [.lst (.int .u8) b], [] => gd (b.length ≤ 1048576) (.tup [.agg [.int .i64 (bent3 b (newC b)).1, .own 0], .int .i64 (be b (bent3 b (newC b)).2.2 8 - 1)], [.row 3 (.int .i64) (bent3 b (newC b)).2.1])
  | _, _ => none
@[reducible] def E_drawNearestObjects : Env := mkE (tb [(57, K_drawColumnOf)]) (fun f => false) (fun r => ([], []))
theorem ev_drawNearestObjects (b : List Int) (hp : b.length ≤ 1048576) : evF E_drawNearestObjects (1) Tryz.f42 [.lst (.int .u8) b] [] = some (.tup [.agg [.int .i64 (bent3 b (newC b)).1, .own 0], .int .i64 (be b (bent3 b (newC b)).2.2 8 - 1)], [.row 3 (.int .i64) (bent3 b (newC b)).2.1]) := by
  conv => lhs; whnf
  conv => lhs; arg 1; whnf
  refine bnd_g (by exact hp) ?_
  conv => lhs; whnf
theorem ok_drawNearestObjects : FnOk Tryz.prog 42 K_drawNearestObjects := by
  refine fn_ok (fn := Tryz.f42) (k := Tryz.f42.ntmps) (E := E_drawNearestObjects) (facts_of (List.forall_mem_cons.2 ⟨ok_drawColumnOf, List.forall_mem_nil _⟩)) (by kernel_rfl) rfl (by decide +kernel) (by decide +kernel) ?_
  intro avs hin r h
  unfold K_drawNearestObjects at h
  split at h
  · obtain ⟨hp, rfl⟩ := gd_o h
    exact ⟨_, ev_drawNearestObjects _ hp, rfl⟩
  · cases h

/- impl.ObjectRuleHolds -/
def K_implObjectRuleHolds : List AV → List Ob → Option (AV × List Ob)
  | [.agg [.int .i64 m, .lst (.int .i64) a], .agg [.int .i64 p, .int .i64 q]], [] => gd (a.length ≤ 1048576) (.bool (orhF m a p q), [])
  | _, _ => none
@[reducible] def E_implObjectRuleHolds : Env := mkE (tb [(90, K_areObjects), (92, K_intentOf), (91, K_inSet)]) (fun f => false) (fun r => ([], []))
theorem ev_implObjectRuleHolds (m : Int) (a : List Int) (p q : Int) (hp : a.length ≤ 1048576) : evF E_implObjectRuleHolds (1) Tryz.f34 [.agg [.int .i64 m, .lst (.int .i64) a], .agg [.int .i64 p, .int .i64 q]] [] = some (.bool (orhF m a p q), []) := by
  conv => lhs; whnf
  conv => lhs; arg 1; whnf
  refine bnd_g (by omega) ?_
  conv => lhs; whnf
  refine br_c (fun h => ?_) (fun h => ?_)
  · have h1 := Bool.and_eq_true_iff.1 h
    conv => lhs; whnf
    repeat ((first | with_reducible apply br_tt | with_reducible apply br_ff | with_reducible apply br_nf | with_reducible apply br_nt | with_reducible refine br_d ?_ (by kernel_rfl) | with_reducible apply br_t h | with_reducible apply br_f h); conv => lhs; whnf)
    conv => lhs; arg 1; whnf
    refine bnd_g (by omega) ?_
    conv => lhs; whnf
    repeat ((first | with_reducible apply br_tt | with_reducible apply br_ff | with_reducible apply br_nf | with_reducible apply br_nt | with_reducible refine br_d ?_ (by kernel_rfl) | with_reducible apply br_t h | with_reducible apply br_f h); conv => lhs; whnf)
    refine br_c (fun h2 => ?_) (fun h2 => ?_)
    · have h3 := Bool.and_eq_true_iff.1 h2
      conv => lhs; whnf
      repeat ((first | with_reducible apply br_tt | with_reducible apply br_ff | with_reducible apply br_nf | with_reducible apply br_nt | with_reducible refine br_d ?_ (by kernel_rfl) | with_reducible apply br_t h | with_reducible apply br_f h | with_reducible apply br_t h2 | with_reducible apply br_f h2); conv => lhs; whnf)
      conv => lhs; arg 1; whnf
      refine bnd_g (by exact hp) ?_
      conv => lhs; whnf
      repeat ((first | with_reducible apply br_tt | with_reducible apply br_ff | with_reducible apply br_nf | with_reducible apply br_nt | with_reducible refine br_d ?_ (by kernel_rfl) | with_reducible apply br_t h | with_reducible apply br_f h | with_reducible apply br_t h2 | with_reducible apply br_f h2); conv => lhs; whnf)
      conv => lhs; arg 1; whnf
      refine bnd_g (by exact hp) ?_
      conv => lhs; whnf
      repeat ((first | with_reducible apply br_tt | with_reducible apply br_ff | with_reducible apply br_nf | with_reducible apply br_nt | with_reducible refine br_d ?_ (by kernel_rfl) | with_reducible apply br_t h | with_reducible apply br_f h | with_reducible apply br_t h2 | with_reducible apply br_f h2); conv => lhs; whnf)
      conv => lhs; arg 1; whnf
      refine bnd_g (by exact True.intro) ?_
      conv => lhs; whnf
      repeat ((first | with_reducible apply br_tt | with_reducible apply br_ff | with_reducible apply br_nf | with_reducible apply br_nt | with_reducible refine br_d ?_ (by kernel_rfl) | with_reducible apply br_t h | with_reducible apply br_f h | with_reducible apply br_t h2 | with_reducible apply br_f h2); conv => lhs; whnf)
      refine okB ?_
      rw [if_pos h, if_pos h2]
      unfold orhF
      rw [h1.1, h1.2, h3.2]
      rfl
    · conv => lhs; whnf
      repeat ((first | with_reducible apply br_tt | with_reducible apply br_ff | with_reducible apply br_nf | with_reducible apply br_nt | with_reducible refine br_d ?_ (by kernel_rfl) | with_reducible apply br_t h | with_reducible apply br_f h | with_reducible apply br_t h2 | with_reducible apply br_f h2); conv => lhs; whnf)
      refine okB ?_
      unfold orhF
      rw [h1.1, Bool.true_and] at h2
      rw [h2, Bool.and_false, Bool.and_false]
      rfl
  · conv => lhs; whnf
    repeat ((first | with_reducible apply br_tt | with_reducible apply br_ff | with_reducible apply br_nf | with_reducible apply br_nt | with_reducible refine br_d ?_ (by kernel_rfl) | with_reducible apply br_t h | with_reducible apply br_f h); conv => lhs; whnf)
    refine okB ?_
    unfold orhF
    rw [← Bool.and_assoc, h]
    rfl
theorem ok_implObjectRuleHolds : FnOk Tryz.prog 34 K_implObjectRuleHolds := by
  refine fn_ok (fn := Tryz.f34) (k := Tryz.f34.ntmps) (E := E_implObjectRuleHolds) (facts_of (List.forall_mem_cons.2 ⟨ok_areObjects, List.forall_mem_cons.2 ⟨ok_intentOf, List.forall_mem_cons.2 ⟨ok_inSet, List.forall_mem_nil _⟩⟩⟩)) (by kernel_rfl) rfl (by decide +kernel) (by decide +kernel) ?_
  intro avs hin r h
  unfold K_implObjectRuleHolds at h
  split at h
  · obtain ⟨hp, rfl⟩ := gd_o h
    exact ⟨_, ev_implObjectRuleHolds _ _ _ _ hp, rfl⟩
  · cases h

/- spec.ObjectRuleHolds -/
def K_specObjectRuleHolds : List AV → List Ob → Option (AV × List Ob)
  | [.agg [.int .i64 m, .lst (.int .i64) a], .agg [.int .i64 p, .int .i64 q]], [] => gd (a.length ≤ 1048576) (.bool (orhF m a p q), [])
  | _, _ => none
@[reducible] def E_specObjectRuleHolds : Env := mkE (tb [(53, K_specIsContext), (73, K_l9RuleN), (99, K_specIntent)]) (fun f => false) (fun r => ([], []))
theorem ev_specObjectRuleHolds (m : Int) (a : List Int) (p q : Int) (hp : a.length ≤ 1048576) : evF E_specObjectRuleHolds (1) Tryz.f44 [.agg [.int .i64 m, .lst (.int .i64) a], .agg [.int .i64 p, .int .i64 q]] [] = some (.bool (orhF m a p q), []) := by
  conv => lhs; whnf
  conv => lhs; arg 1; whnf
  refine bnd_g (by omega) ?_
  conv => lhs; whnf
  refine br_c (fun h => ?_) (fun h => ?_)
  · conv => lhs; whnf
    repeat ((first | with_reducible apply br_tt | with_reducible apply br_ff | with_reducible apply br_nf | with_reducible apply br_nt | with_reducible refine br_d ?_ (by kernel_rfl) | with_reducible apply br_t h | with_reducible apply br_f h); conv => lhs; whnf)
    refine okB ?_
    unfold orhF
    rw [bnt h]
    rfl
  · conv => lhs; whnf
    repeat ((first | with_reducible apply br_tt | with_reducible apply br_ff | with_reducible apply br_nf | with_reducible apply br_nt | with_reducible refine br_d ?_ (by kernel_rfl) | with_reducible apply br_t h | with_reducible apply br_f h); conv => lhs; whnf)
    conv => lhs; arg 1; whnf
    refine bnd_g (by exact True.intro) ?_
    conv => lhs; whnf
    repeat ((first | with_reducible apply br_tt | with_reducible apply br_ff | with_reducible apply br_nf | with_reducible apply br_nt | with_reducible refine br_d ?_ (by kernel_rfl) | with_reducible apply br_t h | with_reducible apply br_f h); conv => lhs; whnf)
    have hl := isCtx_len (bnf h)
    refine br_c (fun h2 => ?_) (fun h2 => ?_)
    · conv => lhs; whnf
      refine okB ?_
      unfold orhF
      rw [bnf h, bnt h2]
      rfl
    · have h2' := Bool.and_eq_true_iff.1 (bnf h2)
      conv => lhs; whnf
      conv => lhs; arg 1; whnf
      refine bnd_g (by exact ⟨hl.1, isSet_8 h2'.1⟩) ?_
      conv => lhs; whnf
      conv => lhs; arg 1; whnf
      refine bnd_g (by exact ⟨hl.1, isSet_8 h2'.2⟩) ?_
      conv => lhs; whnf
      refine okB ?_
      unfold orhF
      rw [bnf h, bnf h2, ← orh_eq]
      rfl
theorem ok_specObjectRuleHolds : FnOk Tryz.prog 44 K_specObjectRuleHolds := by
  refine fn_ok (fn := Tryz.f44) (k := Tryz.f44.ntmps) (E := E_specObjectRuleHolds) (facts_of (List.forall_mem_cons.2 ⟨ok_specIsContext, List.forall_mem_cons.2 ⟨ok_l9RuleN, List.forall_mem_cons.2 ⟨ok_specIntent, List.forall_mem_nil _⟩⟩⟩)) (by kernel_rfl) rfl (by decide +kernel) (by decide +kernel) ?_
  intro avs hin r h
  unfold K_specObjectRuleHolds at h
  split at h
  · obtain ⟨hp, rfl⟩ := gd_o h
    exact ⟨_, ev_specObjectRuleHolds _ _ _ _ hp, rfl⟩
  · cases h

/- impl.DualContext -/
def K_implDual : List AV → List Ob → Option (AV × List Ob)
  | [.agg [.int .i64 m, .lst (.int .i64) b]], [] => gd (b.length ≤ 1048576) (.tup [.agg [.int .i64 (dualF m b).1, .own 0], .bool (dualF m b).2.2], [.row 3 (.int .i64) (dualF m b).2.1])
  | _, _ => none
@[reducible] def E_implDual : Env := mkE (tb [(80, K_implIsContext), (135, K_columns)]) (fun f => false) (fun r => ([], []))
theorem ev_implDual (m : Int) (b : List Int) (hp : b.length ≤ 1048576) : evF E_implDual (1) Tryz.f93 [.agg [.int .i64 m, .lst (.int .i64) b]] [] = some (.tup [.agg [.int .i64 (dualF m b).1, .own 0], .bool (dualF m b).2.2], [.row 3 (.int .i64) (dualF m b).2.1]) := by
  conv => lhs; whnf
  conv => lhs; arg 1; whnf
  refine bnd_g (by omega) ?_
  conv => lhs; whnf
  refine br_c (fun h => ?_) (fun h => ?_)
  · have h0 : isCtx m b = false := bnt h
    have hf : dualF m b = (0, [], false) := by unfold dualF; rw [h0]; rfl
    conv => lhs; whnf
    repeat ((first | with_reducible apply br_tt | with_reducible apply br_ff | with_reducible apply br_nf | with_reducible apply br_nt | with_reducible refine br_d ?_ (by kernel_rfl) | with_reducible apply br_t h | with_reducible apply br_f h); conv => lhs; whnf)
    rw [hf]
  · have h0 : isCtx m b = true := bnf h
    conv => lhs; whnf
    repeat ((first | with_reducible apply br_tt | with_reducible apply br_ff | with_reducible apply br_nf | with_reducible apply br_nt | with_reducible refine br_d ?_ (by kernel_rfl) | with_reducible apply br_t h | with_reducible apply br_f h); conv => lhs; whnf)
    refine br_c (fun h2 => ?_) (fun h2 => ?_)
    · have h2' : decide ((b.length : Int) > 6) = true := h2
      have hf : dualF m b = (0, [], false) := by unfold dualF; rw [h0, h2']; rfl
      conv => lhs; whnf
      rw [hf]
    · have h2' : decide ((b.length : Int) > 6) = false := h2
      have hf : dualF m b = ((b.length : Int), colsF m b, true) := by unfold dualF; rw [h0, h2']; rfl
      conv => lhs; whnf
      conv => lhs; arg 1; whnf
      refine bnd_g (by exact h0) ?_
      conv => lhs; whnf
      repeat ((first | with_reducible apply br_tt | with_reducible apply br_ff | with_reducible apply br_nf | with_reducible apply br_nt | with_reducible refine br_d ?_ (by kernel_rfl)); conv => lhs; whnf)
      rw [hf]
theorem ok_implDual : FnOk Tryz.prog 93 K_implDual := by
  refine fn_ok (fn := Tryz.f93) (k := Tryz.f93.ntmps) (E := E_implDual) (facts_of (List.forall_mem_cons.2 ⟨ok_implIsContext, List.forall_mem_cons.2 ⟨ok_columns, List.forall_mem_nil _⟩⟩)) (by kernel_rfl) rfl (by decide +kernel) (by decide +kernel) ?_
  intro avs hin r h
  unfold K_implDual at h
  split at h
  · obtain ⟨hp, rfl⟩ := gd_o h
    exact ⟨_, ev_implDual _ _ hp, rfl⟩
  · cases h

/- impl.ObjectBase -/
def K_implObjectBase : List AV → List Ob → Option (AV × List Ob)
  | [.agg [.int .i64 m, .lst (.int .i64) a]], [] => gd (a.length ≤ 1048576) (.tup [.own 0, .bool (dualF m a).2.2], [.row 48 (.pair (.int .i64) (.int .i64)) (objB m a)])
  | _, _ => none
@[reducible] def E_implObjectBase : Env := mkE (tb [(93, K_implDual), (61, K_implStem)]) (fun f => false) (fun r => ([], []))
theorem ev_implObjectBase (m : Int) (a : List Int) (hp : a.length ≤ 1048576) : evF E_implObjectBase (1) Tryz.f36 [.agg [.int .i64 m, .lst (.int .i64) a]] [] = some (.tup [.own 0, .bool (dualF m a).2.2], [.row 48 (.pair (.int .i64) (.int .i64)) (objB m a)]) := by
  conv => lhs; whnf
  conv => lhs; arg 1; whnf
  refine bnd_g (by exact hp) ?_
  conv => lhs; whnf
  refine br_c (fun h => ?_) (fun h => ?_)
  · unfold objB
    rw [bnt h]
    conv => lhs; whnf
    rfl
  · have hc := dualF_ctx (bnf h)
    unfold objB
    rw [bnf h]
    conv => lhs; whnf
    conv => lhs; arg 1; whnf
    refine bnd_g (by exact hc) ?_
    conv => lhs; whnf
    rfl
theorem ok_implObjectBase : FnOk Tryz.prog 36 K_implObjectBase := by
  refine fn_ok (fn := Tryz.f36) (k := Tryz.f36.ntmps) (E := E_implObjectBase) (facts_of (List.forall_mem_cons.2 ⟨ok_implDual, List.forall_mem_cons.2 ⟨ok_implStem, List.forall_mem_nil _⟩⟩)) (by kernel_rfl) rfl (by decide +kernel) (by decide +kernel) ?_
  intro avs hin r h
  unfold K_implObjectBase at h
  split at h
  · obtain ⟨hp, rfl⟩ := gd_o h
    exact ⟨_, ev_implObjectBase _ _ hp, rfl⟩
  · cases h

/- spec.l3Column -/
def K_l3Column : List AV → List Ob → Option (AV × List Ob)
  | [.agg [.int .i64 m, .lst (.int .i64) b], .int .i64 e], [] => gd ((0 ≤ e ∧ e ≤ 8) ∧ b.length ≤ 8 ∧ ∀ x ∈ b, 0 ≤ x ∧ x ≤ 255) (.int .i64 (colF b e), [])
  | _, _ => none
@[reducible] def E_l3Column : Env := mkE (tb [(122, K_l2Has)]) (fun f => false) (fun r => bif r == 3 then ([1, 2, 5, 6], [5]) else ([], []))
theorem lp_l3Column (m : Int) (b : List Int) (e : Int) (hb : b.length ≤ 8) (hs : ∀ x ∈ b, 0 ≤ x ∧ x ≤ 255) (he : 0 ≤ e ∧ e ≤ 8) (k : AX → S → Option (AV × List Ob)) (d : Nat) : ∀ (n i : Nat) (x q : Int), b.length - i = d → i ≤ b.length → x = i → d < n →
    lpAt E_l3Column (lp E_l3Column 0 n) 0 (loopAt Tryz.f105 0) (mkS [1, 2, 5, 6] [.int .i64 e, .ptr 0 0, .int .i64 q, .int .i64 x] [some (.box 26 [.int .i64 m, .lst (.int .i64) b])]) k =
      k (.exit 0) (mkS [5] [.int .i64 (orF (bitAt b e) d i q)] []) := by
  induction d with
  | zero =>
    intro n i x q hd hi hx hn
    subst hx
    rw [lpAt_def]
    conv => lhs; whnf
    refine br_f (df (by omega)) ?_
    conv => lhs; whnf
    rfl
  | succ d ih =>
    intro n i x q hd hi hx hn
    obtain ⟨n, rfl⟩ : ∃ m, n = m + 1 := ⟨n - 1, by omega⟩
    subst hx
    rw [lpAt_def]
    conv => lhs; whnf
    refine br_t (dt (by omega)) ?_
    conv => lhs; whnf
    refine br_t (dt2 (by omega) (by omega)) ?_
    conv => lhs; whnf
    conv => lhs; arg 1; whnf
    refine bnd_g (by exact ⟨hs _ (mem_getD (by omega)), he⟩) ?_
    conv => lhs; whnf
    refine br_c (fun h => ?_) (fun h => ?_)
    · have h' : bitAt b e i = true := h
      conv => lhs; whnf
      refine br_f (by (rw [wrapu (n := (i : Int)) (by omega) (by omega)]; exact df (by omega))) ?_
      conv => lhs; whnf
      rw [shl1u (by omega)]
      rw [ih n (i + 1) _ _ (by omega) (by omega) (by rw [wrap64 (by omega) (by omega)]; simp) (by omega)]
      rw [orF, h', cond_true]
      rfl
    · have h' : bitAt b e i = false := h
      conv => lhs; whnf
      rw [ih n (i + 1) _ _ (by omega) (by omega) (by rw [wrap64 (by omega) (by omega)]; simp) (by omega)]
      rw [orF, h', cond_false]
theorem ev_l3Column (m : Int) (b : List Int) (e : Int) (hp : (0 ≤ e ∧ e ≤ 8) ∧ b.length ≤ 8 ∧ ∀ x ∈ b, 0 ≤ x ∧ x ≤ 255) : evF E_l3Column (20) Tryz.f105 [.agg [.int .i64 m, .lst (.int .i64) b], .int .i64 e] [] = some (.int .i64 (colF b e), []) := by
  conv => lhs; whnf
  refine (lp_l3Column m b e hp.2.1 hp.2.2 hp.1 _ b.length _ 0 0 _ rfl (by omega) rfl (by have := hp.2.1; change _ < 19; omega)).trans ?_
  conv => lhs; whnf
  rfl
theorem ok_l3Column : FnOk Tryz.prog 105 K_l3Column := by
  refine fn_ok (fn := Tryz.f105) (k := Tryz.f105.ntmps) (E := E_l3Column) (facts_of (List.forall_mem_cons.2 ⟨ok_l2Has, List.forall_mem_nil _⟩)) (by kernel_rfl) rfl (by decide +kernel) (by decide +kernel) ?_
  intro avs hin r h
  unfold K_l3Column at h
  split at h
  · obtain ⟨hp, rfl⟩ := gd_o h
    exact ⟨_, ev_l3Column _ _ _ hp, rfl⟩
  · cases h

/- spec.DualContext -/
def K_specDual : List AV → List Ob → Option (AV × List Ob)
  | [.agg [.int .i64 m, .lst (.int .i64) b]], [] => gd (b.length ≤ 1048576) (.tup [.agg [.int .i64 (dualF m b).1, .own 0], .bool (dualF m b).2.2], [.row 3 (.int .i64) (dualF m b).2.1])
  | _, _ => none
@[reducible] def E_specDual : Env := mkE (tb [(53, K_specIsContext), (105, K_l3Column)]) (fun f => false) (fun r => bif r == 5 then ([1, 2, 4, 5], [2, 4]) else ([], []))
theorem lp_specDual (m : Nat) (hm : m ≤ 6) (b : List Int) (hb : b.length ≤ 8) (hs : ∀ x ∈ b, 0 ≤ x ∧ x ≤ 255) (k : AX → S → Option (AV × List Ob)) (d : Nat) : ∀ (n i : Nat) (x : Int) (zs : List Int), m - i = d → i ≤ m → x = i → d < n → zs.length ≤ i →
    lpAt E_specDual (lp E_specDual 0 n) 0 (loopAt Tryz.f49 0) (mkS [1, 2, 4, 5] [.ptr 0 0, .ptr 1 0, .ptr 3 0, .int .i64 x] [some (.box 26 [.int .i64 (m : Int), .lst (.int .i64) b]), some (.box 26 [.int .i64 0, .own 2]), some (.row 3 (.int .i64) []), some (.box 26 [.int .i64 b.length, .own 4]), some (.row 3 (.int .i64) zs)]) k =
      k (.exit 0) (mkS [2, 4] [.ptr 0 0, .ptr 2 0] [some (.box 26 [.int .i64 0, .own 1]), some (.row 3 (.int .i64) []), some (.box 26 [.int .i64 b.length, .own 3]), some (.row 3 (.int .i64) (zs ++ colsL b d i))]) := by
  induction d with
  | zero =>
    intro n i x zs hd hi hx hn hz
    subst hx
    rw [lpAt_def]
    conv => lhs; whnf
    refine br_f (df (by omega)) ?_
    conv => lhs; whnf
    rw [colsL, List.append_nil]
  | succ d ih =>
    intro n i x zs hd hi hx hn hz
    obtain ⟨n, rfl⟩ : ∃ m, n = m + 1 := ⟨n - 1, by omega⟩
    subst hx
    rw [lpAt_def]
    conv => lhs; whnf
    refine br_t (dt (by omega)) ?_
    conv => lhs; whnf
    conv => lhs; arg 1; whnf
    refine bnd_g (by exact ⟨⟨by omega, by omega⟩, hb, hs⟩) ?_
    conv => lhs; whnf
    refine br_t (dt (by simp [room]; omega)) ?_
    conv => lhs; whnf
    repeat ((first | with_reducible apply br_tt | with_reducible apply br_ff | with_reducible apply br_nf | with_reducible apply br_nt | with_reducible refine br_d ?_ (by kernel_rfl)); conv => lhs; whnf)
    refine Eq.trans (ih n (i + 1) _ _ (by omega) (by omega) (by rw [wrap64 (n := (i : Int) + 1) (by omega) (by omega)]; simp) (by omega) (by simp; omega)) ?_
    rw [colsL]
    simp only [List.append_assoc]
    rfl
theorem ev_specDual (m : Int) (b : List Int) (hp : b.length ≤ 1048576) : evF E_specDual (20) Tryz.f49 [.agg [.int .i64 m, .lst (.int .i64) b]] [] = some (.tup [.agg [.int .i64 (dualF m b).1, .own 0], .bool (dualF m b).2.2], [.row 3 (.int .i64) (dualF m b).2.1]) := by
  conv => lhs; whnf
  conv => lhs; arg 1; whnf
  refine bnd_g (by omega) ?_
  conv => lhs; whnf
  refine br_c (fun h => ?_) (fun h => ?_)
  · have h0 : isCtx m b = false := bnt h
    have hf : dualF m b = (0, [], false) := by unfold dualF; rw [h0]; rfl
    conv => lhs; whnf
    repeat ((first | with_reducible apply br_tt | with_reducible apply br_ff | with_reducible apply br_nf | with_reducible apply br_nt | with_reducible refine br_d ?_ (by kernel_rfl) | with_reducible apply br_t h | with_reducible apply br_f h); conv => lhs; whnf)
    rw [hf]
  · have h0 : isCtx m b = true := bnf h
    have hl := isCtx_len h0
    conv => lhs; whnf
    repeat ((first | with_reducible apply br_tt | with_reducible apply br_ff | with_reducible apply br_nf | with_reducible apply br_nt | with_reducible refine br_d ?_ (by kernel_rfl) | with_reducible apply br_t h | with_reducible apply br_f h); conv => lhs; whnf)
    refine br_c (fun h2 => ?_) (fun h2 => ?_)
    · have h2' : decide ((b.length : Int) > 6) = true := h2
      have hf : dualF m b = (0, [], false) := by unfold dualF; rw [h0, h2']; rfl
      conv => lhs; whnf
      rw [hf]
    · have h2' : decide ((b.length : Int) > 6) = false := h2
      have hf : dualF m b = ((b.length : Int), colsF m b, true) := by unfold dualF; rw [h0, h2']; rfl
      obtain ⟨mm, rfl⟩ : ∃ mm : Nat, m = mm := ⟨m.toNat, by omega⟩
      conv => lhs; whnf
      refine (lp_specDual mm (by omega) b hl.1 (ctx_small h0) _ mm _ 0 0 [] rfl (Nat.zero_le _) rfl (by change _ < 19; omega) (Nat.le_refl _)).trans ?_
      conv => lhs; whnf
      rw [hf]
      rfl
theorem ok_specDual : FnOk Tryz.prog 49 K_specDual := by
  refine fn_ok (fn := Tryz.f49) (k := Tryz.f49.ntmps) (E := E_specDual) (facts_of (List.forall_mem_cons.2 ⟨ok_specIsContext, List.forall_mem_cons.2 ⟨ok_l3Column, List.forall_mem_nil _⟩⟩)) (by kernel_rfl) rfl (by decide +kernel) (by decide +kernel) ?_
  intro avs hin r h
  unfold K_specDual at h
  split at h
  · obtain ⟨hp, rfl⟩ := gd_o h
    exact ⟨_, ev_specDual _ _ hp, rfl⟩
  · cases h

/- spec.ObjectBase -/
def K_specObjectBase : List AV → List Ob → Option (AV × List Ob)
  | [.agg [.int .i64 m, .lst (.int .i64) a]], [] => gd (a.length ≤ 1048576) (.tup [.own 0, .bool (dualF m a).2.2], [.row 48 (.pair (.int .i64) (.int .i64)) (objB m a)])
  | _, _ => none
@[reducible] def E_specObjectBase : Env := mkE (tb [(49, K_specDual), (62, K_specStem)]) (fun f => false) (fun r => ([], []))
theorem ev_specObjectBase (m : Int) (a : List Int) (hp : a.length ≤ 1048576) : evF E_specObjectBase (1) Tryz.f37 [.agg [.int .i64 m, .lst (.int .i64) a]] [] = some (.tup [.own 0, .bool (dualF m a).2.2], [.row 48 (.pair (.int .i64) (.int .i64)) (objB m a)]) := by
  conv => lhs; whnf
  conv => lhs; arg 1; whnf
  refine bnd_g (by exact hp) ?_
  conv => lhs; whnf
  refine br_c (fun h => ?_) (fun h => ?_)
  · unfold objB
    rw [bnt h]
    conv => lhs; whnf
    rfl
  · have hc := dualF_ctx (bnf h)
    unfold objB
    rw [bnf h]
    conv => lhs; whnf
    conv => lhs; arg 1; whnf
    refine bnd_g (by exact hc) ?_
    conv => lhs; whnf
    rfl
theorem ok_specObjectBase : FnOk Tryz.prog 37 K_specObjectBase := by
  refine fn_ok (fn := Tryz.f37) (k := Tryz.f37.ntmps) (E := E_specObjectBase) (facts_of (List.forall_mem_cons.2 ⟨ok_specDual, List.forall_mem_cons.2 ⟨ok_specStem, List.forall_mem_nil _⟩⟩)) (by kernel_rfl) rfl (by decide +kernel) (by decide +kernel) ?_
  intro avs hin r h
  unfold K_specObjectBase at h
  split at h
  · obtain ⟨hp, rfl⟩ := gd_o h
    exact ⟨_, ev_specObjectBase _ _ hp, rfl⟩
  · cases h

end Go.Sym
