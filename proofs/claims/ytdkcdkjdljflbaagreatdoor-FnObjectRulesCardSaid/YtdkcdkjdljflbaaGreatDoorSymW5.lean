/- Functions of the program, each told as a plain equation. -/
import Derived.Test.YtdkcdkjdljflbaaGreatDoorSymW4
namespace Go.Sym
open Go.Proofs
set_option linter.unusedVariables false
set_option linter.unusedSimpArgs false
set_option maxRecDepth 100000
set_option maxHeartbeats 4000000

def insF (m : Int) (a : List Int) (r : Int) : Int × List Int × Bool :=
  bif isCtx m a && isSet m r && decide (a.length < 8) then (m, a ++ [r], true) else (0, [], false)
theorem insF_len (m : Int) (a : List Int) (r : Int) : (insF m a r).2.1.length ≤ 8 := by
  unfold insF
  cases h : (isCtx m a && isSet m r && decide (a.length < 8))
  · simp
  · simp only [Bool.and_eq_true, decide_eq_true_eq] at h
    simp
    omega
theorem insF_ctx {m : Int} {a : List Int} {r : Int} (h : (insF m a r).2.2 = true) : isCtx (insF m a r).1 (insF m a r).2.1 = true := by
  unfold insF at h ⊢
  cases hc : (isCtx m a && isSet m r && decide (a.length < 8))
  · rw [hc] at h; cases h
  · rw [cond_true]
    rw [Bool.and_eq_true, Bool.and_eq_true, decide_eq_true_eq] at hc
    obtain ⟨⟨h1, h2⟩, h3⟩ := hc
    unfold isCtx at h1 ⊢
    rw [Bool.and_eq_true, Bool.and_eq_true, decide_eq_true_eq, decide_eq_true_eq] at h1
    rw [decide_eq_true h1.1.1, List.all_append, h1.2]
    simp only [List.all_cons, List.all_nil, h2, List.length_append, List.length_singleton]
    rw [decide_eq_true (by omega)]
    rfl
def updB (m : Int) (a : List Int) (r : Int) : List (Int × Int) := bif (insF m a r).2.2 then stemR (insF m a r).1 (insF m a r).2.1 else []
theorem stemR_len (m : Int) (b : List Int) : (stemR m b).length ≤ 64 := by
  unfold stemR
  rw [List.length_map]
  exact stemI_len m b
theorem updB_len (m : Int) (a : List Int) (r : Int) : (updB m a r).length ≤ 64 := by
  unfold updB
  cases (insF m a r).2.2
  · exact Nat.zero_le _
  · exact stemR_len _ _
/- impl.InsertRow -/
def K_implInsertRow : List AV → List Ob → Option (AV × List Ob)
  | [.agg [.int .i64 m, .lst (.int .i64) a], .int .i64 r], [] => gd (a.length ≤ 1048576) (.tup [.agg [.int .i64 (insF m a r).1, .own 0], .bool (insF m a r).2.2], [.row 3 (.int .i64) (insF m a r).2.1])
  | _, _ => none
@[reducible] def E_implInsertRow : Env := mkE (tb [(51, K_areAttributes), (52, K_cloneInt)]) (fun f => false) (fun r => ([], []))
theorem ev_implInsertRow (m : Int) (a : List Int) (r : Int) (hp : a.length ≤ 1048576) : evF E_implInsertRow (1) Tryz.f8 [.agg [.int .i64 m, .lst (.int .i64) a], .int .i64 r] [] = some (.tup [.agg [.int .i64 (insF m a r).1, .own 0], .bool (insF m a r).2.2], [.row 3 (.int .i64) (insF m a r).2.1]) := by
  conv => lhs; whnf
  conv => lhs; arg 1; whnf
  refine bnd_g (by omega) ?_
  conv => lhs; whnf
  refine br_c (fun h => ?_) (fun h => ?_)
  · have hf : insF m a r = (0, [], false) := by
      unfold insF
      rw [bnt h]
      rfl
    rw [hf]
    conv => lhs; whnf
    repeat ((first | with_reducible apply br_tt | with_reducible apply br_ff | with_reducible apply br_nf | with_reducible apply br_nt | with_reducible refine br_d ?_ (by kernel_rfl) | with_reducible apply br_t h | with_reducible apply br_f h); conv => lhs; whnf)
  · conv => lhs; whnf
    repeat ((first | with_reducible apply br_tt | with_reducible apply br_ff | with_reducible apply br_nf | with_reducible apply br_nt | with_reducible refine br_d ?_ (by kernel_rfl) | with_reducible apply br_t h | with_reducible apply br_f h); conv => lhs; whnf)
    have h' := bnf h
    have hl := (isCtx_len (Bool.and_eq_true_iff.1 h').1).1
    refine br_c (fun h3 => ?_) (fun h3 => ?_)
    · have hf : insF m a r = (0, [], false) := by
        unfold insF
        have : (a.length : Int) = 8 := by simpa using h3
        rw [h', df (by omega)]
        rfl
      rw [hf]
      conv => lhs; whnf
    · have hf : insF m a r = (m, a ++ [r], true) := by
        unfold insF
        have : ¬ (a.length : Int) = 8 := by simpa using h3
        rw [h', dt (by omega)]
        rfl
      rw [hf]
      conv => lhs; whnf
      conv => lhs; arg 1; whnf
      refine bnd_g (by exact hp) ?_
      conv => lhs; whnf
      refine br_t (dt (by simp [room]; omega)) ?_
      conv => lhs; whnf
      repeat ((first | with_reducible apply br_tt | with_reducible apply br_ff | with_reducible apply br_nf | with_reducible apply br_nt | with_reducible refine br_d ?_ (by kernel_rfl)); conv => lhs; whnf)
theorem ok_implInsertRow : FnOk Tryz.prog 8 K_implInsertRow := by
  refine fn_ok (fn := Tryz.f8) (k := Tryz.f8.ntmps) (E := E_implInsertRow) (facts_of (List.forall_mem_cons.2 ⟨ok_areAttributes, List.forall_mem_cons.2 ⟨ok_cloneInt, List.forall_mem_nil _⟩⟩)) (by kernel_rfl) rfl (by decide +kernel) (by decide +kernel) ?_
  intro avs hin r h
  unfold K_implInsertRow at h
  split at h
  · obtain ⟨hp, rfl⟩ := gd_o h
    exact ⟨_, ev_implInsertRow _ _ _ hp, rfl⟩
  · cases h

theorem stemR_clI {m : Int} {b : List Int} (h : isCtx m b = true) : (stemI m b).map (fun s => (s, clI m b s)) = stemR m b := by
  have hl := isCtx_len h
  unfold stemR
  refine List.map_congr_left fun s hs => ?_
  obtain ⟨h0, h1⟩ := stemI_mem (by omega) hs
  obtain ⟨x, rfl⟩ : ∃ x : Nat, s = x := ⟨s.toNat, by omega⟩
  rw [Int.toNat_natCast] at h1
  unfold clI
  rw [h, set_of_lt h h1]
  rfl
/- slices.IndexFunc[[]int,int] -/
def K_idx_stem2 : List AV → List Ob → Option (AV × List Ob)
  | [.lst (.int .i64) a, .clo 173 [.vptr [.int .i64 s] 0, .vptr [.clo 152 [.vptr [.int .i64 m, .lst (.int .i64) b] 0]] 0]], [] => gd (a.length < 4611686018427387904 ∧ b.length ≤ 1048576) (.int .i64 (firstI (badP m b s) a 0), [])
  | _, _ => none
@[reducible] def E_idx_stem2 : Env := mkE (tb [(173, K_stem2)]) (fun f => false) (fun r => bif r == 2 then ([0, 1, 7, 8], [4]) else ([], []))
theorem lp_idx_stem2 (a : List Int) (s m : Int) (b : List Int) (hB : b.length ≤ 1048576) (ha : a.length < 4611686018427387904) (k : AX → S → Option (AV × List Ob)) (d : Nat) : ∀ (n i : Nat) (x : Int), a.length - i = d → i ≤ a.length → x = i → d < n →
    lpAt E_idx_stem2 (lp E_idx_stem2 0 n) 0 (loopAt Tryz.f139 0) (mkS [0, 1, 7, 8] [.lst (.int .i64) a, .clo 173 [.vptr [.int .i64 s] 0, .vptr [.clo 152 [.vptr [.int .i64 m, .lst (.int .i64) b] 0]] 0], .int .i64 a.length, .int .i64 x] []) k =
      if (a.drop i).any (badP m b s) then k .ret (mkS [4] [.int .i64 (firstI (badP m b s) (a.drop i) i)] []) else k (.exit 0) (mkS [4] [.any] []) := by
  induction d with
  | zero =>
    intro n i x hd hi hx hn
    subst hx
    rw [lpAt_def]
    conv => lhs; whnf
    refine br_f (df (by omega)) ?_
    conv => lhs; whnf
    rw [List.drop_of_length_le (by omega)]
    simp
  | succ d ih =>
    intro n i x hd hi hx hn
    obtain ⟨n, rfl⟩ : ∃ m, n = m + 1 := ⟨n - 1, by omega⟩
    subst hx
    rw [lpAt_def]
    conv => lhs; whnf
    refine br_t (dt (by omega)) ?_
    conv => lhs; whnf
    refine br_t (dt2 (by omega) (by omega)) ?_
    conv => lhs; whnf
    conv => lhs; arg 1; whnf
    refine bnd_g (by exact hB) ?_
    conv => lhs; whnf
    rw [getD_drop (l := a) (i := i) (d := 0) (by omega)]
    refine br_c (fun h => ?_) (fun h => ?_)
    · have h' : (badP m b s) (a.getD i 0) = true := h
      conv => lhs; whnf
      rw [if_pos (by rw [List.any_cons, h', Bool.true_or])]
      rw [firstI, h', cond_true]
    · have h' : (badP m b s) (a.getD i 0) = false := h
      conv => lhs; whnf
      rw [ih n (i + 1) _ (by omega) (by omega) (by rw [wrap64 (by omega) (by omega)]; simp) (by omega)]
      rw [List.any_cons, h', Bool.false_or, firstI, h', cond_false]
      rfl
theorem ev_idx_stem2 (a : List Int) (s m : Int) (b : List Int) (hp : a.length < 4611686018427387904 ∧ b.length ≤ 1048576) : evF E_idx_stem2 (a.length + 2) Tryz.f139 [.lst (.int .i64) a, .clo 173 [.vptr [.int .i64 s] 0, .vptr [.clo 152 [.vptr [.int .i64 m, .lst (.int .i64) b] 0]] 0]] [] = some (.int .i64 (firstI (badP m b s) a 0), []) := by
  conv => lhs; whnf
  refine (lp_idx_stem2 a s m b hp.2 hp.1 _ a.length _ 0 0 rfl (by omega) rfl (by omega)).trans ?_
  simp only [List.drop_zero]
  split
  · conv => lhs; whnf
    rfl
  · rename_i he
    conv => lhs; whnf
    have : firstI (badP m b s) a 0 = -1 := firstI_none (badP m b s) a 0 (by simpa using he)
    rw [this]
theorem ok_idx_stem2 : FnOk Tryz.prog 139 K_idx_stem2 := by
  refine fn_ok (fn := Tryz.f139) (k := Tryz.f139.ntmps) (E := E_idx_stem2) (facts_of (List.forall_mem_cons.2 ⟨ok_stem2, List.forall_mem_nil _⟩)) (by kernel_rfl) rfl (by decide +kernel) (by decide +kernel) ?_
  intro avs hin r h
  unfold K_idx_stem2 at h
  split at h
  · obtain ⟨hp, rfl⟩ := gd_o h
    exact ⟨_, ev_idx_stem2 _ _ _ _ hp, rfl⟩
  · cases h

/- slices.ContainsFunc[[]int,int] -/
def K_has_stem2 : List AV → List Ob → Option (AV × List Ob)
  | [.lst (.int .i64) a, .clo 173 [.vptr [.int .i64 s] 0, .vptr [.clo 152 [.vptr [.int .i64 m, .lst (.int .i64) b] 0]] 0]], [] => gd (a.length < 4611686018427387904 ∧ b.length ≤ 1048576) (.bool (a.any (badP m b s)), [])
  | _, _ => none
@[reducible] def E_has_stem2 : Env := mkE (tb [(139, K_idx_stem2)]) (fun f => false) (fun r => ([], []))
theorem ev_has_stem2 (a : List Int) (s m : Int) (b : List Int) (hp : a.length < 4611686018427387904 ∧ b.length ≤ 1048576) : evF E_has_stem2 (1) Tryz.f100 [.lst (.int .i64) a, .clo 173 [.vptr [.int .i64 s] 0, .vptr [.clo 152 [.vptr [.int .i64 m, .lst (.int .i64) b] 0]] 0]] [] = some (.bool (a.any (badP m b s)), []) := by
  conv => lhs; whnf
  conv => lhs; arg 1; whnf
  refine bnd_g (by exact hp) ?_
  conv => lhs; whnf
  refine okB ?_
  exact firstI_iff (badP m b s) a 0 (by omega)
theorem ok_has_stem2 : FnOk Tryz.prog 100 K_has_stem2 := by
  refine fn_ok (fn := Tryz.f100) (k := Tryz.f100.ntmps) (E := E_has_stem2) (facts_of (List.forall_mem_cons.2 ⟨ok_idx_stem2, List.forall_mem_nil _⟩)) (by kernel_rfl) rfl (by decide +kernel) (by decide +kernel) ?_
  intro avs hin r h
  unfold K_has_stem2 at h
  split at h
  · obtain ⟨hp, rfl⟩ := gd_o h
    exact ⟨_, ev_has_stem2 _ _ _ _ hp, rfl⟩
  · cases h

/- impl.stem -/
def K_implStemL : List AV → List Ob → Option (AV × List Ob)
  | [.int .i64 m, .clo 152 [.vptr [.int .i64 m', .lst (.int .i64) b] 0]], [] => gd (m' = m ∧ isCtx m b = true ∧ b.length ≤ 1048576) (.own 0, [.row 3 (.int .i64) (stemI m b)])
  | _, _ => none
@[reducible] def E_implStemL : Env := mkE (tb [(147, K_allSets), (100, K_has_stem2), (152, K_pseudo1), (170, K_sortLecticG), (171, K_sortStable)]) (fun f => [171].contains f) (fun r => bif r == 5 then ([3, 6, 15, 16, 17], [6]) else ([], []))
theorem lp_implStemL (m : Nat) (hm : m ≤ 6) (b : List Int) (hc : isCtx (m : Int) b = true) (hB : b.length ≤ 1048576) (Ls : List Nat) (hl : Ls.length ≤ 64) (hLs : ∀ x ∈ Ls, x < 2 ^ m) (N : Nat) (hN : N = Ls.length) (k : AX → S → Option (AV × List Ob)) (d : Nat) : ∀ (n i : Nat) (x : Int) (L : List Nat), Ls.length - i = d → i ≤ Ls.length → x = i → d < n → L.length ≤ i → (∀ y ∈ L, y < 2 ^ m) →
    lpAt E_implStemL (lp E_implStemL 0 n) 0 (loopAt Tryz.f151 0) (mkS [3, 6, 15, 16, 17] [.ptr 0 0, .own 1, .own 2, .int .i64 (N : Int), .int .i64 x] [some (.box 95 [.clo 152 [.vptr [.int .i64 (m : Int), .lst (.int .i64) b] 0]]), some (.row 3 (.int .i64) (castN L)), some (.row 3 (.int .i64) (castN Ls))]) k =
      k (.exit 0) (mkS [6] [.own 0] [some (.row 3 (.int .i64) (castN (greedy (okP (clN (m : Int) b)) (Ls.drop i) L)))]) := by
  have hp : 2 ^ m ≤ 2 ^ 6 := Nat.pow_le_pow_right (by omega) hm
  have hcl2 : (castN Ls).length = Ls.length := List.length_map _
  subst hN
  induction d with
  | zero =>
    intro n i x L hd hi hx hn hz hL
    subst hx
    rw [lpAt_def]
    conv => lhs; whnf
    refine br_f (df (by omega)) ?_
    conv => lhs; whnf
    rw [List.drop_of_length_le (by omega), greedy]
  | succ d ih =>
    intro n i x L hd hi hx hn hz hL
    obtain ⟨n, rfl⟩ : ∃ m, n = m + 1 := ⟨n - 1, by omega⟩
    subst hx
    have hsi := hLs _ (mem_getD (l := Ls) (i := i) (d := 0) (by omega))
    have hlen : (castN L).length = L.length := List.length_map _
    obtain ⟨s, hs⟩ : ∃ s, s = Ls.getD i 0 := ⟨_, rfl⟩
    have hcs : (castN Ls).getD i 0 = (s : Int) := by
      rw [hs, List.getD_eq_getElem?_getD, List.getD_eq_getElem?_getD, List.getElem?_map]
      cases Ls[i]? <;> rfl
    have hs2 : s < 2 ^ m := by rw [hs]; exact hsi
    have ea := any_bad hc (s := s) (by rw [Int.toNat_natCast]; omega) L (fun y hy => by have := hL y hy; rw [Int.toNat_natCast]; omega)
    have hcl := clI_nat hc (s := s) (by rw [Int.toNat_natCast]; omega)
    have e0 : (clI (m : Int) b (s : Int) != (s : Int)) = !(clN (m : Int) b s == s) := by rw [hcl, bne, Bool.eq_iff_iff]; simp only [Bool.not_eq_true', beq_eq_false_iff_ne, ne_eq]; omega
    have eok : okP (clN (m : Int) b) L s = ((clI (m : Int) b (s : Int) != (s : Int)) && !(castN L).any (badP (m : Int) b (s : Int))) := by rw [ea, e0]; rfl
    rw [getD_drop (l := Ls) (i := i) (d := 0) (by omega), ← hs, greedy, lpAt_def]
    conv => lhs; whnf
    refine br_t (dt (by omega)) ?_
    conv => lhs; whnf
    refine br_t (by exact dt2 (by omega) (by rw [hcl2]; omega)) ?_
    conv => lhs; whnf
    refine br_t (by exact dt (by rw [hcl2]; omega)) ?_
    conv => lhs; whnf
    conv => lhs; arg 1; whnf
    refine bnd_g (by exact ⟨by rw [hlen]; omega, hB⟩) ?_
    conv => lhs; whnf
    conv => lhs; arg 1; whnf
    refine bnd_g (by exact hB) ?_
    conv => lhs; whnf
    repeat ((first | with_reducible apply br_tt | with_reducible apply br_ff | with_reducible apply br_nf | with_reducible apply br_nt | with_reducible refine br_d ?_ (by kernel_rfl)); conv => lhs; whnf)
    refine br_c (fun h => ?_) (fun h => ?_)
    · have h' : (clI (m : Int) b ((castN Ls).getD i 0) != (castN Ls).getD i 0) = true := h
      rw [hcs] at h'
      conv => lhs; whnf
      repeat ((first | with_reducible apply br_tt | with_reducible apply br_ff | with_reducible apply br_nf | with_reducible apply br_nt | with_reducible refine br_d ?_ (by kernel_rfl) | with_reducible apply br_t h | with_reducible apply br_f h); conv => lhs; whnf)
      refine br_c (fun h2 => ?_) (fun h2 => ?_)
      · have h2' : (!(castN L).any (badP (m : Int) b ((castN Ls).getD i 0))) = true := h2
        rw [hcs] at h2'
        conv => lhs; whnf
        refine br_t (dt (by rw [hlen]; simp [room]; omega)) ?_
        conv => lhs; whnf
        have e2 : castN L ++ [(castN Ls).getD i 0] = castN (L ++ [s]) := by rw [hcs]; unfold castN; rw [List.map_append]; rfl
        rw [eok, h', h2', Bool.and_self, cond_true]
        refine Eq.trans ?_ (ih n (i + 1) (IntKind.i64.wrap ((i : Int) + 1)) (L ++ [s]) (by omega) (by omega) (by rw [wrap64 (n := (i : Int) + 1) (by omega) (by omega)]; simp) (by omega) (by simp; omega) (fun y hy => ?_))
        · rw [← e2]
          rfl
        · rcases List.mem_append.1 hy with hy | hy
          · exact hL y hy
          · have : y = s := by simpa using hy
            omega
      · have h2' : (!(castN L).any (badP (m : Int) b ((castN Ls).getD i 0))) = false := h2
        rw [hcs] at h2'
        conv => lhs; whnf
        rw [eok, h', h2', Bool.and_false, cond_false]
        exact ih n (i + 1) _ L (by omega) (by omega) (by rw [wrap64 (n := (i : Int) + 1) (by omega) (by omega)]; simp) (by omega) (by omega) hL
    · have h' : (clI (m : Int) b ((castN Ls).getD i 0) != (castN Ls).getD i 0) = false := h
      rw [hcs] at h'
      conv => lhs; whnf
      repeat ((first | with_reducible apply br_tt | with_reducible apply br_ff | with_reducible apply br_nf | with_reducible apply br_nt | with_reducible refine br_d ?_ (by kernel_rfl) | with_reducible apply br_t h | with_reducible apply br_f h); conv => lhs; whnf)
      rw [eok, h', Bool.false_and, cond_false]
      exact ih n (i + 1) _ L (by omega) (by omega) (by rw [wrap64 (n := (i : Int) + 1) (by omega) (by omega)]; simp) (by omega) (by omega) hL
theorem ev_implStemL (m m' : Int) (b : List Int) (hp : m' = m ∧ isCtx m b = true ∧ b.length ≤ 1048576) : evF E_implStemL (100) Tryz.f151 [.int .i64 m, .clo 152 [.vptr [.int .i64 m', .lst (.int .i64) b] 0]] [] = some (.own 0, [.row 3 (.int .i64) (stemI m b)]) := by
  obtain ⟨rfl, hc, hB⟩ := hp
  have hlen := isCtx_len hc
  obtain ⟨mm, rfl⟩ : ∃ mm : Nat, m' = mm := ⟨m'.toNat, by omega⟩
  have h6 : mm ≤ 6 := by omega
  have hpw : 2 ^ mm ≤ 2 ^ 6 := Nat.pow_le_pow_right (by omega) h6
  have hlec : (lecI mm).length = 2 ^ mm := by unfold lecI lecL; rw [List.length_map, List.length_map, List.length_range]
  have e4 : stableF (lecI mm) = castN (stableN mm) := (stab_all ⟨mm, by omega⟩).2.2.2
  have hcn : (castN (stableN mm)).length = (stableN mm).length := List.length_map _
  have hsl : (stableF (lecI mm)).length = 2 ^ mm := by
    unfold stableF
    have hl : ∀ (n d bs : Nat) (ys : List Int), (lvlF n d bs ys).length = ys.length := by
      intro n d
      induction d with
      | zero => intro bs ys; rfl
      | succ d ih =>
        intro bs ys
        rw [lvlF]
        cases decide (bs < n)
        · rfl
        · rw [cond_true, ih, mrgF_len]
    rw [hl, blksF_len, hlec]
  have hN : (stableF (lecI mm)).length = (stableN mm).length := by rw [e4, hcn]
  have L := fun k => lp_implStemL mm h6 b hc hB (stableN mm) (by omega) (fun x hx => (stab_mem h6 x).1 hx) (stableF (lecI mm)).length hN k (stableN mm).length 99 0 0 [] rfl (Nat.zero_le _) rfl (by omega) (Nat.le_refl _) (fun y hy => by cases hy)
  rw [← e4, List.drop_zero] at L
  have hss := greedy_I_sets (clN (mm : Int) b) h6
  have hsn := greedy_I_nodup (clN (mm : Int) b) h6
  have hst := stem_I (mm : Int) b (by rw [Int.toNat_natCast]; exact h6)
  rw [Int.toNat_natCast] at hst
  conv => lhs; whnf
  conv => lhs; arg 1; whnf
  refine bnd_g (by exact ⟨by omega, by omega⟩) ?_
  conv => lhs; whnf
  conv => lhs; arg 1; whnf
  refine bnd_g (by (show (lecI mm).length ≤ 64; omega)) ?_
  conv => lhs; whnf
  refine (L _).trans ?_
  conv => lhs; whnf
  conv => lhs; arg 1; whnf
  refine bnd_g (by exact ⟨hss, hsn⟩) ?_
  conv => lhs; whnf
  rw [hst]
theorem ok_implStemL : FnOk Tryz.prog 151 K_implStemL := by
  refine fn_ok (fn := Tryz.f151) (k := Tryz.f151.ntmps) (E := E_implStemL) (facts_of (List.forall_mem_cons.2 ⟨ok_allSets, List.forall_mem_cons.2 ⟨ok_has_stem2, List.forall_mem_cons.2 ⟨ok_pseudo1, List.forall_mem_cons.2 ⟨ok_sortLecticG, List.forall_mem_cons.2 ⟨ok_sortStable, List.forall_mem_nil _⟩⟩⟩⟩⟩)) (by kernel_rfl) rfl (by decide +kernel) (by decide +kernel) ?_
  intro avs hin r h
  unfold K_implStemL at h
  split at h
  · obtain ⟨hp, rfl⟩ := gd_o h
    exact ⟨_, ev_implStemL _ _ _ hp, rfl⟩
  · cases h

/- impl.PseudoIntents -/
def K_implPseudo : List AV → List Ob → Option (AV × List Ob)
  | [.agg [.int .i64 m, .lst (.int .i64) b]], [] => gd (isCtx m b = true) (.own 0, [.row 3 (.int .i64) (stemI m b)])
  | _, _ => none
@[reducible] def E_implPseudo : Env := mkE (tb [(80, K_implIsContext), (151, K_implStemL)]) (fun f => false) (fun r => ([], []))
theorem ev_implPseudo (m : Int) (b : List Int) (hp : isCtx m b = true) : evF E_implPseudo (1) Tryz.f117 [.agg [.int .i64 m, .lst (.int .i64) b]] [] = some (.own 0, [.row 3 (.int .i64) (stemI m b)]) := by
  have hlen := isCtx_len hp
  conv => lhs; whnf
  conv => lhs; arg 1; whnf
  refine bnd_g (by omega) ?_
  conv => lhs; whnf
  refine br_f (by (rw [hp]; rfl)) ?_
  conv => lhs; whnf
  conv => lhs; arg 1; whnf
  refine bnd_g (by exact ⟨rfl, hp, by omega⟩) ?_
  conv => lhs; whnf
theorem ok_implPseudo : FnOk Tryz.prog 117 K_implPseudo := by
  refine fn_ok (fn := Tryz.f117) (k := Tryz.f117.ntmps) (E := E_implPseudo) (facts_of (List.forall_mem_cons.2 ⟨ok_implIsContext, List.forall_mem_cons.2 ⟨ok_implStemL, List.forall_mem_nil _⟩⟩)) (by kernel_rfl) rfl (by decide +kernel) (by decide +kernel) ?_
  intro avs hin r h
  unfold K_implPseudo at h
  split at h
  · obtain ⟨hp, rfl⟩ := gd_o h
    exact ⟨_, ev_implPseudo _ _ hp, rfl⟩
  · cases h

/- impl.StemBase$1 -/
def K_stemB1 : List AV → List Ob → Option (AV × List Ob)
  | [.int .i64 s, .vptr [.int .i64 m, .lst (.int .i64) b] 0], [] => gd (b.length ≤ 1048576) (.int .i64 (clI m b s), [])
  | _, _ => none
@[reducible] def E_stemB1 : Env := mkE (tb [(119, K_implClosureOf)]) (fun f => false) (fun r => ([], []))
theorem ev_stemB1 (s m : Int) (b : List Int) (hp : b.length ≤ 1048576) : evF E_stemB1 (1) Tryz.f118 [.int .i64 s, .vptr [.int .i64 m, .lst (.int .i64) b] 0] [] = some (.int .i64 (clI m b s), []) := by
  conv => lhs; whnf
  conv => lhs; arg 1; whnf
  refine bnd_g (by exact hp) ?_
  conv => lhs; whnf
  rfl
theorem ok_stemB1 : FnOk Tryz.prog 118 K_stemB1 := by
  refine fn_ok (fn := Tryz.f118) (k := Tryz.f118.ntmps) (E := E_stemB1) (facts_of (List.forall_mem_cons.2 ⟨ok_implClosureOf, List.forall_mem_nil _⟩)) (by kernel_rfl) rfl (by decide +kernel) (by decide +kernel) ?_
  intro avs hin r h
  unfold K_stemB1 at h
  split at h
  · obtain ⟨hp, rfl⟩ := gd_o h
    exact ⟨_, ev_stemB1 _ _ _ hp, rfl⟩
  · cases h

/- impl.rulesTo -/
def K_rulesTo : List AV → List Ob → Option (AV × List Ob)
  | [.lst (.int .i64) a, .clo 118 [.vptr [.int .i64 m, .lst (.int .i64) b] 0]], [] => gd (a.length ≤ 64 ∧ b.length ≤ 1048576) (.own 0, [.row 48 (.pair (.int .i64) (.int .i64)) (a.map (fun s => (s, clI m b s)))])
  | _, _ => none
@[reducible] def E_rulesTo : Env := mkE (tb [(118, K_stemB1)]) (fun f => false) (fun r => bif r == 3 then ([1, 5, 9, 10, 11], [5]) else ([], []))
theorem lp_rulesTo (m : Int) (b : List Int) (hB : b.length ≤ 1048576) (a : List Int) (ha : a.length ≤ 64) (k : AX → S → Option (AV × List Ob)) (d : Nat) : ∀ (n i : Nat) (x : Int) (zs : List (Int × Int)), a.length - i = d → i ≤ a.length → x = i → d < n → zs.length ≤ i →
    lpAt E_rulesTo (lp E_rulesTo 0 n) 0 (loopAt Tryz.f116 0) (mkS [1, 5, 9, 10, 11] [.clo 118 [.vptr [.int .i64 m, .lst (.int .i64) b] 0], .own 0, .lst (.int .i64) a, .int .i64 a.length, .int .i64 x] [some (.row 48 (.pair (.int .i64) (.int .i64)) zs)]) k =
      k (.exit 0) (mkS [5] [.own 0] [some (.row 48 (.pair (.int .i64) (.int .i64)) (zs ++ (a.drop i).map (fun s => (s, clI m b s))))]) := by
  induction d with
  | zero =>
    intro n i x zs hd hi hx hn hz
    subst hx
    rw [lpAt_def]
    conv => lhs; whnf
    refine br_f (df (by omega)) ?_
    conv => lhs; whnf
    rw [List.drop_of_length_le (by omega), List.map_nil, List.append_nil]
  | succ d ih =>
    intro n i x zs hd hi hx hn hz
    obtain ⟨n, rfl⟩ : ∃ m, n = m + 1 := ⟨n - 1, by omega⟩
    subst hx
    rw [lpAt_def]
    conv => lhs; whnf
    refine br_t (dt (by omega)) ?_
    conv => lhs; whnf
    refine br_t (dt2 (by omega) (by omega)) ?_
    conv => lhs; whnf
    conv => lhs; arg 1; whnf
    refine bnd_g (by exact hB) ?_
    conv => lhs; whnf
    refine br_t (dt (by simp [room]; omega)) ?_
    conv => lhs; whnf
    refine Eq.trans (ih n (i + 1) _ _ (by omega) (by omega) (by rw [wrap64 (n := (i : Int) + 1) (by omega) (by omega)]; simp) (by omega) (by simp; omega)) ?_
    rw [getD_drop (l := a) (i := i) (d := 0) (by omega), List.map_cons]
    simp only [List.append_assoc]
    rfl
theorem ev_rulesTo (m : Int) (b : List Int) (a : List Int) (hp : a.length ≤ 64 ∧ b.length ≤ 1048576) : evF E_rulesTo (100) Tryz.f116 [.lst (.int .i64) a, .clo 118 [.vptr [.int .i64 m, .lst (.int .i64) b] 0]] [] = some (.own 0, [.row 48 (.pair (.int .i64) (.int .i64)) (a.map (fun s => (s, clI m b s)))]) := by
  conv => lhs; whnf
  refine (lp_rulesTo m b hp.2 a hp.1 _ _ _ 0 0 [] rfl (Nat.zero_le _) rfl (by change _ < 99; omega) (Nat.le_refl _)).trans ?_
  conv => lhs; whnf
  rfl
theorem ok_rulesTo : FnOk Tryz.prog 116 K_rulesTo := by
  refine fn_ok (fn := Tryz.f116) (k := Tryz.f116.ntmps) (E := E_rulesTo) (facts_of (List.forall_mem_cons.2 ⟨ok_stemB1, List.forall_mem_nil _⟩)) (by kernel_rfl) rfl (by decide +kernel) (by decide +kernel) ?_
  intro avs hin r h
  unfold K_rulesTo at h
  split at h
  · obtain ⟨hp, rfl⟩ := gd_o h
    exact ⟨_, ev_rulesTo _ _ _ hp, rfl⟩
  · cases h

/- impl.StemBase -/
def K_implStem : List AV → List Ob → Option (AV × List Ob)
  | [.agg [.int .i64 m, .lst (.int .i64) b]], [] => gd (isCtx m b = true) (.own 0, [.row 48 (.pair (.int .i64) (.int .i64)) (stemR m b)])
  | _, _ => none
@[reducible] def E_implStem : Env := mkE (tb [(117, K_implPseudo), (116, K_rulesTo)]) (fun f => false) (fun r => ([], []))
theorem ev_implStem (m : Int) (b : List Int) (hp : isCtx m b = true) : evF E_implStem (1) Tryz.f61 [.agg [.int .i64 m, .lst (.int .i64) b]] [] = some (.own 0, [.row 48 (.pair (.int .i64) (.int .i64)) (stemR m b)]) := by
  have hlen := isCtx_len hp
  have hl := stemI_len m b
  have e := stemR_clI hp
  conv => lhs; whnf
  conv => lhs; arg 1; whnf
  refine bnd_g (by exact hp) ?_
  conv => lhs; whnf
  conv => lhs; arg 1; whnf
  refine bnd_g (by exact ⟨hl, by omega⟩) ?_
  conv => lhs; whnf
  rw [← e]
theorem ok_implStem : FnOk Tryz.prog 61 K_implStem := by
  refine fn_ok (fn := Tryz.f61) (k := Tryz.f61.ntmps) (E := E_implStem) (facts_of (List.forall_mem_cons.2 ⟨ok_implPseudo, List.forall_mem_cons.2 ⟨ok_rulesTo, List.forall_mem_nil _⟩⟩)) (by kernel_rfl) rfl (by decide +kernel) (by decide +kernel) ?_
  intro avs hin r h
  unfold K_implStem at h
  split at h
  · obtain ⟨hp, rfl⟩ := gd_o h
    exact ⟨_, ev_implStem _ _ hp, rfl⟩
  · cases h

/- impl.UpdateBase -/
def K_implUpdateBase : List AV → List Ob → Option (AV × List Ob)
  | [.agg [.int .i64 m, .lst (.int .i64) a], .int .i64 r], [] => gd (a.length ≤ 1048576) (.tup [.own 0, .bool (insF m a r).2.2], [.row 48 (.pair (.int .i64) (.int .i64)) (updB m a r)])
  | _, _ => none
@[reducible] def E_implUpdateBase : Env := mkE (tb [(8, K_implInsertRow), (61, K_implStem)]) (fun f => false) (fun r => ([], []))
theorem ev_implUpdateBase (m : Int) (a : List Int) (r : Int) (hp : a.length ≤ 1048576) : evF E_implUpdateBase (1) Tryz.f14 [.agg [.int .i64 m, .lst (.int .i64) a], .int .i64 r] [] = some (.tup [.own 0, .bool (insF m a r).2.2], [.row 48 (.pair (.int .i64) (.int .i64)) (updB m a r)]) := by
  conv => lhs; whnf
  conv => lhs; arg 1; whnf
  refine bnd_g (by exact hp) ?_
  conv => lhs; whnf
  refine br_c (fun h => ?_) (fun h => ?_)
  · unfold updB
    rw [bnt h]
    conv => lhs; whnf
    rfl
  · have hc := insF_ctx (bnf h)
    unfold updB
    rw [bnf h]
    conv => lhs; whnf
    conv => lhs; arg 1; whnf
    refine bnd_g (by exact hc) ?_
    conv => lhs; whnf
    rfl
theorem ok_implUpdateBase : FnOk Tryz.prog 14 K_implUpdateBase := by
  refine fn_ok (fn := Tryz.f14) (k := Tryz.f14.ntmps) (E := E_implUpdateBase) (facts_of (List.forall_mem_cons.2 ⟨ok_implInsertRow, List.forall_mem_cons.2 ⟨ok_implStem, List.forall_mem_nil _⟩⟩)) (by kernel_rfl) rfl (by decide +kernel) (by decide +kernel) ?_
  intro avs hin r h
  unfold K_implUpdateBase at h
  split at h
  · obtain ⟨hp, rfl⟩ := gd_o h
    exact ⟨_, ev_implUpdateBase _ _ _ hp, rfl⟩
  · cases h

/- spec.l3Copy -/
def K_l3Copy : List AV → List Ob → Option (AV × List Ob)
  | [.agg [.int .i64 m, .lst (.int .i64) a]], [] => gd (a.length ≤ 1048576) (.agg [.int .i64 m, .own 0], [.row 3 (.int .i64) a])
  | _, _ => none
@[reducible] def E_l3Copy : Env := mkE (tb []) (fun f => false) (fun r => ([], []))
theorem ev_l3Copy (m : Int) (a : List Int) (hp : a.length ≤ 1048576) : evF E_l3Copy (1) Tryz.f55 [.agg [.int .i64 m, .lst (.int .i64) a]] [] = some (.agg [.int .i64 m, .own 0], [.row 3 (.int .i64) a]) := by
  conv => lhs; whnf
  refine br_t (dt (by simp [room]; omega)) ?_
  conv => lhs; whnf
  repeat ((first | with_reducible apply br_tt | with_reducible apply br_ff | with_reducible apply br_nf | with_reducible apply br_nt | with_reducible refine br_d ?_ (by kernel_rfl)); conv => lhs; whnf)
  simp
theorem ok_l3Copy : FnOk Tryz.prog 55 K_l3Copy := by
  refine fn_ok (fn := Tryz.f55) (k := Tryz.f55.ntmps) (E := E_l3Copy) (facts_of (List.forall_mem_nil _)) (by kernel_rfl) rfl (by decide +kernel) (by decide +kernel) ?_
  intro avs hin r h
  unfold K_l3Copy at h
  split at h
  · obtain ⟨hp, rfl⟩ := gd_o h
    exact ⟨_, ev_l3Copy _ _ hp, rfl⟩
  · cases h

/- spec.InsertRow -/
def K_specInsertRow : List AV → List Ob → Option (AV × List Ob)
  | [.agg [.int .i64 m, .lst (.int .i64) a], .int .i64 r], [] => gd (a.length ≤ 1048576) (.tup [.agg [.int .i64 (insF m a r).1, .own 0], .bool (insF m a r).2.2], [.row 3 (.int .i64) (insF m a r).2.1])
  | _, _ => none
@[reducible] def E_specInsertRow : Env := mkE (tb [(53, K_specIsContext), (54, K_specIsSet), (55, K_l3Copy)]) (fun f => false) (fun r => ([], []))
theorem ev_specInsertRow (m : Int) (a : List Int) (r : Int) (hp : a.length ≤ 1048576) : evF E_specInsertRow (1) Tryz.f9 [.agg [.int .i64 m, .lst (.int .i64) a], .int .i64 r] [] = some (.tup [.agg [.int .i64 (insF m a r).1, .own 0], .bool (insF m a r).2.2], [.row 3 (.int .i64) (insF m a r).2.1]) := by
  conv => lhs; whnf
  conv => lhs; arg 1; whnf
  refine bnd_g (by omega) ?_
  conv => lhs; whnf
  refine br_c (fun h => ?_) (fun h => ?_)
  · have hf : insF m a r = (0, [], false) := by
      unfold insF
      rw [bnt h]
      rfl
    rw [hf]
    conv => lhs; whnf
    repeat ((first | with_reducible apply br_tt | with_reducible apply br_ff | with_reducible apply br_nf | with_reducible apply br_nt | with_reducible refine br_d ?_ (by kernel_rfl) | with_reducible apply br_t h | with_reducible apply br_f h); conv => lhs; whnf)
  · conv => lhs; whnf
    repeat ((first | with_reducible apply br_tt | with_reducible apply br_ff | with_reducible apply br_nf | with_reducible apply br_nt | with_reducible refine br_d ?_ (by kernel_rfl) | with_reducible apply br_t h | with_reducible apply br_f h); conv => lhs; whnf)
    conv => lhs; arg 1; whnf
    refine bnd_g (by exact True.intro) ?_
    conv => lhs; whnf
    repeat ((first | with_reducible apply br_tt | with_reducible apply br_ff | with_reducible apply br_nf | with_reducible apply br_nt | with_reducible refine br_d ?_ (by kernel_rfl) | with_reducible apply br_t h | with_reducible apply br_f h); conv => lhs; whnf)
    refine br_c (fun h2 => ?_) (fun h2 => ?_)
    · have hf : insF m a r = (0, [], false) := by
        unfold insF
        rw [bnf h, bnt h2]
        rfl
      rw [hf]
      conv => lhs; whnf
      repeat ((first | with_reducible apply br_tt | with_reducible apply br_ff | with_reducible apply br_nf | with_reducible apply br_nt | with_reducible refine br_d ?_ (by kernel_rfl) | with_reducible apply br_t h2 | with_reducible apply br_f h2); conv => lhs; whnf)
    · conv => lhs; whnf
      repeat ((first | with_reducible apply br_tt | with_reducible apply br_ff | with_reducible apply br_nf | with_reducible apply br_nt | with_reducible refine br_d ?_ (by kernel_rfl) | with_reducible apply br_t h2 | with_reducible apply br_f h2); conv => lhs; whnf)
      refine br_c (fun h3 => ?_) (fun h3 => ?_)
      · have hf : insF m a r = (0, [], false) := by
          unfold insF
          have := ofd h3
          rw [bnf h, bnf h2, df (by omega)]
          rfl
        rw [hf]
        conv => lhs; whnf
      · have hf : insF m a r = (m, a ++ [r], true) := by
          unfold insF
          have := ofn h3
          rw [bnf h, bnf h2, dt (by omega)]
          rfl
        rw [hf]
        conv => lhs; whnf
        conv => lhs; arg 1; whnf
        refine bnd_g (by exact hp) ?_
        conv => lhs; whnf
        refine br_t (dt (by simp [room]; omega)) ?_
        conv => lhs; whnf
theorem ok_specInsertRow : FnOk Tryz.prog 9 K_specInsertRow := by
  refine fn_ok (fn := Tryz.f9) (k := Tryz.f9.ntmps) (E := E_specInsertRow) (facts_of (List.forall_mem_cons.2 ⟨ok_specIsContext, List.forall_mem_cons.2 ⟨ok_specIsSet, List.forall_mem_cons.2 ⟨ok_l3Copy, List.forall_mem_nil _⟩⟩⟩)) (by kernel_rfl) rfl (by decide +kernel) (by decide +kernel) ?_
  intro avs hin r h
  unfold K_specInsertRow at h
  split at h
  · obtain ⟨hp, rfl⟩ := gd_o h
    exact ⟨_, ev_specInsertRow _ _ _ hp, rfl⟩
  · cases h

/- spec.UpdateBase -/
def K_specUpdateBase : List AV → List Ob → Option (AV × List Ob)
  | [.agg [.int .i64 m, .lst (.int .i64) a], .int .i64 r], [] => gd (a.length ≤ 1048576) (.tup [.own 0, .bool (insF m a r).2.2], [.row 48 (.pair (.int .i64) (.int .i64)) (updB m a r)])
  | _, _ => none
@[reducible] def E_specUpdateBase : Env := mkE (tb [(9, K_specInsertRow), (62, K_specStem)]) (fun f => false) (fun r => ([], []))
theorem ev_specUpdateBase (m : Int) (a : List Int) (r : Int) (hp : a.length ≤ 1048576) : evF E_specUpdateBase (1) Tryz.f15 [.agg [.int .i64 m, .lst (.int .i64) a], .int .i64 r] [] = some (.tup [.own 0, .bool (insF m a r).2.2], [.row 48 (.pair (.int .i64) (.int .i64)) (updB m a r)]) := by
  conv => lhs; whnf
  conv => lhs; arg 1; whnf
  refine bnd_g (by exact hp) ?_
  conv => lhs; whnf
  refine br_c (fun h => ?_) (fun h => ?_)
  · unfold updB
    rw [bnt h]
    conv => lhs; whnf
    rfl
  · have hc := insF_ctx (bnf h)
    unfold updB
    rw [bnf h]
    conv => lhs; whnf
    conv => lhs; arg 1; whnf
    refine bnd_g (by exact hc) ?_
    conv => lhs; whnf
    rfl
theorem ok_specUpdateBase : FnOk Tryz.prog 15 K_specUpdateBase := by
  refine fn_ok (fn := Tryz.f15) (k := Tryz.f15.ntmps) (E := E_specUpdateBase) (facts_of (List.forall_mem_cons.2 ⟨ok_specInsertRow, List.forall_mem_cons.2 ⟨ok_specStem, List.forall_mem_nil _⟩⟩)) (by kernel_rfl) rfl (by decide +kernel) (by decide +kernel) ?_
  intro avs hin r h
  unfold K_specUpdateBase at h
  split at h
  · obtain ⟨hp, rfl⟩ := gd_o h
    exact ⟨_, ev_specUpdateBase _ _ _ hp, rfl⟩
  · cases h

end Go.Sym
