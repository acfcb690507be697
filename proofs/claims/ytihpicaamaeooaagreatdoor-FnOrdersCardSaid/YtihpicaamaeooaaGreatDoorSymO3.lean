/- Functions of the program, each told as a plain equation. -/
import Derived.Test.YtihpicaamaeooaaGreatDoorSymO2
namespace Go.Sym
open Go.Proofs
set_option linter.unusedVariables false
set_option linter.unusedSimpArgs false
set_option maxRecDepth 100000
set_option maxHeartbeats 4000000

/- (impl.lattice).index$1 -/
def K_latIndex1 : List AV → List Ob → Option (AV × List Ob)
  | [.agg [.int .i64 p, .int .i64 q], .vptr [.int .i64 v] 0], [] => gd (True) (.bool (p == v), [])
  | _, _ => none
@[reducible] def E_latIndex1 : Env := mkE (tb []) (fun f => false) (fun r => ([], []))
theorem ev_latIndex1 (p q v : Int) (hp : True) : evF E_latIndex1 (1) Tryz.f101 [.agg [.int .i64 p, .int .i64 q], .vptr [.int .i64 v] 0] [] = some (.bool (p == v), []) := by
  conv => lhs; whnf
theorem ok_latIndex1 : FnOk Tryz.prog 101 K_latIndex1 := by
  refine fn_ok (fn := Tryz.f101) (k := Tryz.f101.ntmps) (E := E_latIndex1) (facts_of (List.forall_mem_nil _)) (by kernel_rfl) rfl (by decide +kernel) (by decide +kernel) ?_
  intro avs hin r h
  unfold K_latIndex1 at h
  split at h
  · obtain ⟨hp, rfl⟩ := gd_o h
    exact ⟨_, ev_latIndex1 _ _ _ hp, rfl⟩
  · cases h

/- slices.IndexFunc[impl.lattice,impl.Concept] -/
def K_idxLat : List AV → List Ob → Option (AV × List Ob)
  | [.lst (.pair (.int .i64) (.int .i64)) l, .clo 101 [.vptr [.int .i64 v] 0]], [] => gd (l.length ≤ 64) (.int .i64 (firstI (fun p => p.1 == v) l 0), [])
  | _, _ => none
@[reducible] def E_idxLat : Env := mkE (tb [(101, K_latIndex1)]) (fun f => false) (fun r => bif r == 2 then ([0, 1, 7, 8], [4]) else ([], []))
theorem lp_idxLat (l : List (Int × Int)) (v : Int) (ha : l.length ≤ 64) (k : AX → S → Option (AV × List Ob)) (d : Nat) : ∀ (n i : Nat) (x : Int), l.length - i = d → i ≤ l.length → x = i → d < n →
    lpAt E_idxLat (lp E_idxLat 0 n) 0 (loopAt Tryz.f100 0) (mkS [0, 1, 7, 8] [.lst (.pair (.int .i64) (.int .i64)) l, .clo 101 [.vptr [.int .i64 v] 0], .int .i64 l.length, .int .i64 x] []) k =
      if (l.drop i).any (fun p => p.1 == v) then k .ret (mkS [4] [.int .i64 (firstI (fun p => p.1 == v) (l.drop i) i)] []) else k (.exit 0) (mkS [4] [.any] []) := by
  induction d with
  | zero =>
    intro n i x hd hi hx hn
    subst hx
    rw [lpAt_def]
    conv => lhs; whnf
    refine br_f (df (by omega)) ?_
    conv => lhs; whnf
    rw [List.drop_of_length_le (by omega)]
    simp
  | succ d ih =>
    intro n i x hd hi hx hn
    obtain ⟨n, rfl⟩ : ∃ m, n = m + 1 := ⟨n - 1, by omega⟩
    subst hx
    rw [lpAt_def]
    conv => lhs; whnf
    refine br_t (dt (by omega)) ?_
    conv => lhs; whnf
    refine br_t (dt2 (by omega) (by omega)) ?_
    conv => lhs; whnf
    conv => lhs; arg 1; whnf
    refine bnd_g (by exact True.intro) ?_
    conv => lhs; whnf
    rw [getD_drop (l := l) (i := i) (d := (0, 0)) (by omega)]
    refine br_c (fun h => ?_) (fun h => ?_)
    · have h' : ((l.getD i (0, 0)).1 == v) = true := h
      conv => lhs; whnf
      rw [if_pos (by simp only [List.any_cons, h', Bool.true_or]), firstI, h', cond_true]
    · have h' : ((l.getD i (0, 0)).1 == v) = false := h
      conv => lhs; whnf
      rw [ih n (i + 1) _ (by omega) (by omega) (by rw [wrap64 (by omega) (by omega)]; simp) (by omega)]
      simp only [List.any_cons, h', Bool.false_or]
      rw [firstI, h', cond_false]
      rfl
theorem ev_idxLat (l : List (Int × Int)) (v : Int) (hp : l.length ≤ 64) : evF E_idxLat (l.length + 2) Tryz.f100 [.lst (.pair (.int .i64) (.int .i64)) l, .clo 101 [.vptr [.int .i64 v] 0]] [] = some (.int .i64 (firstI (fun p => p.1 == v) l 0), []) := by
  conv => lhs; whnf
  refine (lp_idxLat l v hp _ l.length _ 0 0 rfl (by omega) rfl (by omega)).trans ?_
  simp only [List.drop_zero]
  split
  · conv => lhs; whnf
    rfl
  · rename_i he
    conv => lhs; whnf
    have : firstI (fun p => p.1 == v) l 0 = -1 := firstI_none _ l 0 (by rw [Bool.not_eq_true] at he; exact he)
    rw [this]
theorem ok_idxLat : FnOk Tryz.prog 100 K_idxLat := by
  refine fn_ok (fn := Tryz.f100) (k := Tryz.f100.ntmps) (E := E_idxLat) (facts_of (List.forall_mem_cons.2 ⟨ok_latIndex1, List.forall_mem_nil _⟩)) (by kernel_rfl) rfl (by decide +kernel) (by decide +kernel) ?_
  intro avs hin r h
  unfold K_idxLat at h
  split at h
  · obtain ⟨hp, rfl⟩ := gd_o h
    exact ⟨_, ev_idxLat _ _ hp, rfl⟩
  · cases h

/- (impl.lattice).index -/
def K_latIndex : List AV → List Ob → Option (AV × List Ob)
  | [.lst (.pair (.int .i64) (.int .i64)) l, .int .i64 v], [] => gd (l.length ≤ 64) (.int .i64 (firstI (fun p => p.1 == v) l 0), [])
  | _, _ => none
@[reducible] def E_latIndex : Env := mkE (tb [(100, K_idxLat)]) (fun f => false) (fun r => ([], []))
theorem ev_latIndex (l : List (Int × Int)) (v : Int) (hp : l.length ≤ 64) : evF E_latIndex (1) Tryz.f58 [.lst (.pair (.int .i64) (.int .i64)) l, .int .i64 v] [] = some (.int .i64 (firstI (fun p => p.1 == v) l 0), []) := by
  conv => lhs; whnf
  conv => lhs; arg 1; whnf
  refine bnd_g (by exact hp) ?_
  conv => lhs; whnf
theorem ok_latIndex : FnOk Tryz.prog 58 K_latIndex := by
  refine fn_ok (fn := Tryz.f58) (k := Tryz.f58.ntmps) (E := E_latIndex) (facts_of (List.forall_mem_cons.2 ⟨ok_idxLat, List.forall_mem_nil _⟩)) (by kernel_rfl) rfl (by decide +kernel) (by decide +kernel) ?_
  intro avs hin r h
  unfold K_latIndex at h
  split at h
  · obtain ⟨hp, rfl⟩ := gd_o h
    exact ⟨_, ev_latIndex _ _ hp, rfl⟩
  · cases h

/- impl.PlaceOf -/
def K_implPlaceOf : List AV → List Ob → Option (AV × List Ob)
  | [.agg [.lst (.int .i64) b], .int .i64 k], [] => gd (b.length ≤ 1048576) (.int .i64 (placeF b k), [])
  | _, _ => none
@[reducible] def E_implPlaceOf : Env := mkE (tb [(7, K_implContextOfOrder), (56, K_within), (57, K_implConcepts), (58, K_latIndex)]) (fun f => false) (fun r => ([], []))
theorem ev_implPlaceOf (b : List Int) (k : Int) (hp : b.length ≤ 1048576) : evF E_implPlaceOf (1) Tryz.f16 [.agg [.lst (.int .i64) b], .int .i64 k] [] = some (.int .i64 (placeF b k), []) := by
  have hl := ctxOrd_len b
  conv => lhs; whnf
  conv => lhs; arg 1; whnf
  refine bnd_g (by omega) ?_
  conv => lhs; whnf
  refine br_c (fun h => ?_) (fun h => ?_)
  · have h' : (ctxOrd b).2.2 = false := bnt h
    have h0 : isOrd b = false := by
      unfold ctxOrd at h'
      cases hb : isOrd b
      · rfl
      · rw [hb] at h'; cases h'
    conv => lhs; whnf
    repeat ((first | with_reducible apply br_tt | with_reducible apply br_ff | with_reducible apply br_nf | with_reducible apply br_nt | with_reducible refine br_d ?_ (by kernel_rfl) | with_reducible apply br_t h | with_reducible apply br_f h); conv => lhs; whnf)
    unfold placeF
    rw [h0]
    rfl
  · have h' : (ctxOrd b).2.2 = true := bnf h
    have h0 : isOrd b = true := by
      unfold ctxOrd at h'
      cases hb : isOrd b
      · rw [hb] at h'; cases h'
      · rfl
    have hc : ctxOrd b = ((b.length : Int), rowsL b b.length 0, true) := by
      unfold ctxOrd
      rw [h0]
      rfl
    have hlr : (rowsL b b.length 0).length = b.length := rowsL_length b _ _
    have hcl := concF_len (ctxOrd b).1 (ctxOrd b).2.1
    conv => lhs; whnf
    repeat ((first | with_reducible apply br_tt | with_reducible apply br_ff | with_reducible apply br_nf | with_reducible apply br_nt | with_reducible refine br_d ?_ (by kernel_rfl) | with_reducible apply br_t h | with_reducible apply br_f h); conv => lhs; whnf)
    conv => lhs; arg 1; whnf
    refine bnd_g (by exact True.intro) ?_
    conv => lhs; whnf
    repeat ((first | with_reducible apply br_tt | with_reducible apply br_ff | with_reducible apply br_nf | with_reducible apply br_nt | with_reducible refine br_d ?_ (by kernel_rfl) | with_reducible apply br_t h | with_reducible apply br_f h); conv => lhs; whnf)
    have hw : IntKind.i64.wrap ((b.length : Int) - 1) = (b.length : Int) - 1 := wrap64 (by omega) (by omega)
    refine br_c (fun h2 => ?_) (fun h2 => ?_)
    · have h2' := ofnt h2
      rw [hw] at h2'
      conv => lhs; whnf
      unfold placeF
      rw [df h2', Bool.and_false]
      rfl
    · have h2' := ofnf h2
      rw [hw] at h2'
      conv => lhs; whnf
      conv => lhs; arg 1; whnf
      refine bnd_g (by omega) ?_
      conv => lhs; whnf
      refine br_t (by (exact dt2 h2'.1 (by omega))) ?_
      conv => lhs; whnf
      repeat ((first | with_reducible apply br_tt | with_reducible apply br_ff | with_reducible apply br_nf | with_reducible apply br_nt | with_reducible refine br_d ?_ (by kernel_rfl)); conv => lhs; whnf)
      conv => lhs; arg 1; whnf
      refine bnd_g (by exact hcl) ?_
      conv => lhs; whnf
      repeat ((first | with_reducible apply br_tt | with_reducible apply br_ff | with_reducible apply br_nf | with_reducible apply br_nt | with_reducible refine br_d ?_ (by kernel_rfl)); conv => lhs; whnf)
      rw [placeF_ext h0 h2', hc]
      rfl
theorem ok_implPlaceOf : FnOk Tryz.prog 16 K_implPlaceOf := by
  refine fn_ok (fn := Tryz.f16) (k := Tryz.f16.ntmps) (E := E_implPlaceOf) (facts_of (List.forall_mem_cons.2 ⟨ok_implContextOfOrder, List.forall_mem_cons.2 ⟨ok_within, List.forall_mem_cons.2 ⟨ok_implConcepts, List.forall_mem_cons.2 ⟨ok_latIndex, List.forall_mem_nil _⟩⟩⟩⟩)) (by kernel_rfl) rfl (by decide +kernel) (by decide +kernel) ?_
  intro avs hin r h
  unfold K_implPlaceOf at h
  split at h
  · obtain ⟨hp, rfl⟩ := gd_o h
    exact ⟨_, ev_implPlaceOf _ _ hp, rfl⟩
  · cases h

/- spec.PlaceOf -/
def K_specPlaceOf : List AV → List Ob → Option (AV × List Ob)
  | [.agg [.lst (.int .i64) b], .int .i64 k], [] => gd (b.length ≤ 1048576) (.int .i64 (placeF b k), [])
  | _, _ => none
@[reducible] def E_specPlaceOf : Env := mkE (tb [(8, K_specContextOfOrder), (59, K_l1In), (26, K_specConcepts), (60, K_l6At)]) (fun f => false) (fun r => ([], []))
theorem ev_specPlaceOf (b : List Int) (k : Int) (hp : b.length ≤ 1048576) : evF E_specPlaceOf (1) Tryz.f17 [.agg [.lst (.int .i64) b], .int .i64 k] [] = some (.int .i64 (placeF b k), []) := by
  have hl := ctxOrd_len b
  conv => lhs; whnf
  conv => lhs; arg 1; whnf
  refine bnd_g (by exact hp) ?_
  conv => lhs; whnf
  refine br_c (fun h => ?_) (fun h => ?_)
  · have h' : (ctxOrd b).2.2 = false := bnt h
    have h0 : isOrd b = false := by
      unfold ctxOrd at h'
      cases hb : isOrd b
      · rfl
      · rw [hb] at h'; cases h'
    conv => lhs; whnf
    repeat ((first | with_reducible apply br_tt | with_reducible apply br_ff | with_reducible apply br_nf | with_reducible apply br_nt | with_reducible refine br_d ?_ (by kernel_rfl) | with_reducible apply br_t h | with_reducible apply br_f h); conv => lhs; whnf)
    unfold placeF
    rw [h0]
    rfl
  · have h' : (ctxOrd b).2.2 = true := bnf h
    have h0 : isOrd b = true := by
      unfold ctxOrd at h'
      cases hb : isOrd b
      · rw [hb] at h'; cases h'
      · rfl
    have hc : ctxOrd b = ((b.length : Int), rowsL b b.length 0, true) := by
      unfold ctxOrd
      rw [h0]
      rfl
    have hlr : (rowsL b b.length 0).length = b.length := rowsL_length b _ _
    have hcl := concF_len (ctxOrd b).1 (ctxOrd b).2.1
    have hlen : (ctxOrd b).2.1.length = b.length := by rw [hc]; exact hlr
    conv => lhs; whnf
    repeat ((first | with_reducible apply br_tt | with_reducible apply br_ff | with_reducible apply br_nf | with_reducible apply br_nt | with_reducible refine br_d ?_ (by kernel_rfl) | with_reducible apply br_t h | with_reducible apply br_f h); conv => lhs; whnf)
    conv => lhs; arg 1; whnf
    refine bnd_g (by exact True.intro) ?_
    conv => lhs; whnf
    repeat ((first | with_reducible apply br_tt | with_reducible apply br_ff | with_reducible apply br_nf | with_reducible apply br_nt | with_reducible refine br_d ?_ (by kernel_rfl) | with_reducible apply br_t h | with_reducible apply br_f h); conv => lhs; whnf)
    have hw : IntKind.i64.wrap ((b.length : Int) - 1) = (b.length : Int) - 1 := wrap64 (by omega) (by omega)
    refine br_c (fun h2 => ?_) (fun h2 => ?_)
    · have h2' := ofnt h2
      rw [hw] at h2'
      conv => lhs; whnf
      unfold placeF
      rw [df h2', Bool.and_false]
      rfl
    · have h2' := ofnf h2
      rw [hw] at h2'
      conv => lhs; whnf
      conv => lhs; arg 1; whnf
      refine bnd_g (by omega) ?_
      conv => lhs; whnf
      refine br_t (by (exact dt2 h2'.1 (by omega))) ?_
      conv => lhs; whnf
      refine br_t (dt (by omega)) ?_
      conv => lhs; whnf
      repeat ((first | with_reducible apply br_tt | with_reducible apply br_ff | with_reducible apply br_nf | with_reducible apply br_nt | with_reducible refine br_d ?_ (by kernel_rfl)); conv => lhs; whnf)
      conv => lhs; arg 1; whnf
      refine bnd_g (by exact hcl) ?_
      conv => lhs; whnf
      repeat ((first | with_reducible apply br_tt | with_reducible apply br_ff | with_reducible apply br_nf | with_reducible apply br_nt | with_reducible refine br_d ?_ (by kernel_rfl)); conv => lhs; whnf)
      unfold placeF
      rw [h0, dt h2', hc]
      rfl
theorem ok_specPlaceOf : FnOk Tryz.prog 17 K_specPlaceOf := by
  refine fn_ok (fn := Tryz.f17) (k := Tryz.f17.ntmps) (E := E_specPlaceOf) (facts_of (List.forall_mem_cons.2 ⟨ok_specContextOfOrder, List.forall_mem_cons.2 ⟨ok_l1In, List.forall_mem_cons.2 ⟨ok_specConcepts, List.forall_mem_cons.2 ⟨ok_l6At, List.forall_mem_nil _⟩⟩⟩⟩)) (by kernel_rfl) rfl (by decide +kernel) (by decide +kernel) ?_
  intro avs hin r h
  unfold K_specPlaceOf at h
  split at h
  · obtain ⟨hp, rfl⟩ := gd_o h
    exact ⟨_, ev_specPlaceOf _ _ hp, rfl⟩
  · cases h

def cszF (b : List Int) : Int := bif (ctxOrd b).2.2 then ((concF (ctxOrd b).1 (ctxOrd b).2.1).length : Int) else -1
/- impl.CountConcepts -/
def K_countConcepts : List AV → List Ob → Option (AV × List Ob)
  | [.agg [.int .i64 m, .lst (.int .i64) a]], [] => gd (a.length ≤ 1048576) (.int .i64 ((concF m a).length : Int), [])
  | _, _ => none
@[reducible] def E_countConcepts : Env := mkE (tb [(57, K_implConcepts)]) (fun f => false) (fun r => ([], []))
theorem ev_countConcepts (m : Int) (a : List Int) (hp : a.length ≤ 1048576) : evF E_countConcepts (1) Tryz.f61 [.agg [.int .i64 m, .lst (.int .i64) a]] [] = some (.int .i64 ((concF m a).length : Int), []) := by
  conv => lhs; whnf
  conv => lhs; arg 1; whnf
  refine bnd_g (by exact hp) ?_
  conv => lhs; whnf
theorem ok_countConcepts : FnOk Tryz.prog 61 K_countConcepts := by
  refine fn_ok (fn := Tryz.f61) (k := Tryz.f61.ntmps) (E := E_countConcepts) (facts_of (List.forall_mem_cons.2 ⟨ok_implConcepts, List.forall_mem_nil _⟩)) (by kernel_rfl) rfl (by decide +kernel) (by decide +kernel) ?_
  intro avs hin r h
  unfold K_countConcepts at h
  split at h
  · obtain ⟨hp, rfl⟩ := gd_o h
    exact ⟨_, ev_countConcepts _ _ hp, rfl⟩
  · cases h

/- impl.CompletionSize -/
def K_implCompletionSize : List AV → List Ob → Option (AV × List Ob)
  | [.agg [.lst (.int .i64) b]], [] => gd (b.length ≤ 1048576) (.int .i64 (cszF b), [])
  | _, _ => none
@[reducible] def E_implCompletionSize : Env := mkE (tb [(7, K_implContextOfOrder), (61, K_countConcepts)]) (fun f => false) (fun r => ([], []))
theorem ev_implCompletionSize (b : List Int) (hp : b.length ≤ 1048576) : evF E_implCompletionSize (1) Tryz.f18 [.agg [.lst (.int .i64) b]] [] = some (.int .i64 (cszF b), []) := by
  have hl := ctxOrd_len b
  conv => lhs; whnf
  conv => lhs; arg 1; whnf
  refine bnd_g (by exact hp) ?_
  conv => lhs; whnf
  refine br_c (fun h => ?_) (fun h => ?_)
  · conv => lhs; whnf
    unfold cszF
    rw [bnt h]
    rfl
  · conv => lhs; whnf
    conv => lhs; arg 1; whnf
    refine bnd_g (by omega) ?_
    conv => lhs; whnf
    unfold cszF
    rw [bnf h]
    rfl
theorem ok_implCompletionSize : FnOk Tryz.prog 18 K_implCompletionSize := by
  refine fn_ok (fn := Tryz.f18) (k := Tryz.f18.ntmps) (E := E_implCompletionSize) (facts_of (List.forall_mem_cons.2 ⟨ok_implContextOfOrder, List.forall_mem_cons.2 ⟨ok_countConcepts, List.forall_mem_nil _⟩⟩)) (by kernel_rfl) rfl (by decide +kernel) (by decide +kernel) ?_
  intro avs hin r h
  unfold K_implCompletionSize at h
  split at h
  · obtain ⟨hp, rfl⟩ := gd_o h
    exact ⟨_, ev_implCompletionSize _ hp, rfl⟩
  · cases h

/- spec.CompletionSize -/
def K_specCompletionSize : List AV → List Ob → Option (AV × List Ob)
  | [.agg [.lst (.int .i64) b]], [] => gd (b.length ≤ 1048576) (.int .i64 (cszF b), [])
  | _, _ => none
@[reducible] def E_specCompletionSize : Env := mkE (tb [(8, K_specContextOfOrder), (26, K_specConcepts)]) (fun f => false) (fun r => ([], []))
theorem ev_specCompletionSize (b : List Int) (hp : b.length ≤ 1048576) : evF E_specCompletionSize (1) Tryz.f19 [.agg [.lst (.int .i64) b]] [] = some (.int .i64 (cszF b), []) := by
  have hl := ctxOrd_len b
  conv => lhs; whnf
  conv => lhs; arg 1; whnf
  refine bnd_g (by exact hp) ?_
  conv => lhs; whnf
  refine br_c (fun h => ?_) (fun h => ?_)
  · conv => lhs; whnf
    unfold cszF
    rw [bnt h]
    rfl
  · conv => lhs; whnf
    conv => lhs; arg 1; whnf
    refine bnd_g (by omega) ?_
    conv => lhs; whnf
    unfold cszF
    rw [bnf h]
    rfl
theorem ok_specCompletionSize : FnOk Tryz.prog 19 K_specCompletionSize := by
  refine fn_ok (fn := Tryz.f19) (k := Tryz.f19.ntmps) (E := E_specCompletionSize) (facts_of (List.forall_mem_cons.2 ⟨ok_specContextOfOrder, List.forall_mem_cons.2 ⟨ok_specConcepts, List.forall_mem_nil _⟩⟩)) (by kernel_rfl) rfl (by decide +kernel) (by decide +kernel) ?_
  intro avs hin r h
  unfold K_specCompletionSize at h
  split at h
  · obtain ⟨hp, rfl⟩ := gd_o h
    exact ⟨_, ev_specCompletionSize _ hp, rfl⟩
  · cases h

/- spec.HasElement -/
def K_specHasElement : List AV → List Ob → Option (AV × List Ob)
  | [.int .i64 s, .int .i64 e], [] => gd (True) (.bool (hasE s e), [])
  | _, _ => none
@[reducible] def E_specHasElement : Env := mkE (tb [(65, K_specIsSet), (59, K_l1In), (55, K_l2Has)]) (fun f => false) (fun r => ([], []))
theorem ev_specHasElement (s e : Int) (hp : True) : evF E_specHasElement (1) Tryz.f24 [.int .i64 s, .int .i64 e] [] = some (.bool (hasE s e), []) := by
  conv => lhs; whnf
  conv => lhs; arg 1; whnf
  refine bnd_g (by exact True.intro) ?_
  conv => lhs; whnf
  refine br_c (fun h => ?_) (fun h => ?_)
  · conv => lhs; whnf
    repeat ((first | with_reducible apply br_tt | with_reducible apply br_ff | with_reducible apply br_nf | with_reducible apply br_nt | with_reducible refine br_d ?_ (by kernel_rfl) | with_reducible apply br_t h | with_reducible apply br_f h); conv => lhs; whnf)
    conv => lhs; arg 1; whnf
    refine bnd_g (by exact True.intro) ?_
    conv => lhs; whnf
    repeat ((first | with_reducible apply br_tt | with_reducible apply br_ff | with_reducible apply br_nf | with_reducible apply br_nt | with_reducible refine br_d ?_ (by kernel_rfl) | with_reducible apply br_t h | with_reducible apply br_f h); conv => lhs; whnf)
    have hs := isSet_le h
    refine br_c (fun h2 => ?_) (fun h2 => ?_)
    · conv => lhs; whnf
      repeat ((first | with_reducible apply br_tt | with_reducible apply br_ff | with_reducible apply br_nf | with_reducible apply br_nt | with_reducible refine br_d ?_ (by kernel_rfl) | with_reducible apply br_t h | with_reducible apply br_f h | with_reducible apply br_t h2 | with_reducible apply br_f h2); conv => lhs; whnf)
      have h2' := ofd h2
      conv => lhs; arg 1; whnf
      refine bnd_g (by exact ⟨by omega, by omega⟩) ?_
      conv => lhs; whnf
      repeat ((first | with_reducible apply br_tt | with_reducible apply br_ff | with_reducible apply br_nf | with_reducible apply br_nt | with_reducible refine br_d ?_ (by kernel_rfl) | with_reducible apply br_t h | with_reducible apply br_f h | with_reducible apply br_t h2 | with_reducible apply br_f h2); conv => lhs; whnf)
      refine okB ?_
      unfold hasE
      rw [h, h2, Bool.true_and, Bool.true_and]
    · conv => lhs; whnf
      repeat ((first | with_reducible apply br_tt | with_reducible apply br_ff | with_reducible apply br_nf | with_reducible apply br_nt | with_reducible refine br_d ?_ (by kernel_rfl) | with_reducible apply br_t h | with_reducible apply br_f h | with_reducible apply br_t h2 | with_reducible apply br_f h2); conv => lhs; whnf)
      refine okB ?_
      unfold hasE
      rw [h, h2]
      rfl
  · conv => lhs; whnf
    repeat ((first | with_reducible apply br_tt | with_reducible apply br_ff | with_reducible apply br_nf | with_reducible apply br_nt | with_reducible refine br_d ?_ (by kernel_rfl) | with_reducible apply br_t h | with_reducible apply br_f h); conv => lhs; whnf)
    refine okB ?_
    unfold hasE
    rw [h, Bool.false_and, Bool.false_and]
theorem ok_specHasElement : FnOk Tryz.prog 24 K_specHasElement := by
  refine fn_ok (fn := Tryz.f24) (k := Tryz.f24.ntmps) (E := E_specHasElement) (facts_of (List.forall_mem_cons.2 ⟨ok_specIsSet, List.forall_mem_cons.2 ⟨ok_l1In, List.forall_mem_cons.2 ⟨ok_l2Has, List.forall_mem_nil _⟩⟩⟩)) (by kernel_rfl) rfl (by decide +kernel) (by decide +kernel) ?_
  intro avs hin r h
  unfold K_specHasElement at h
  split at h
  · obtain ⟨hp, rfl⟩ := gd_o h
    exact ⟨_, ev_specHasElement _ _ hp, rfl⟩
  · cases h

/- spec.l6Exists -/
def K_l6Exists : List AV → List Ob → Option (AV × List Ob)
  | [.lst (.pair (.int .i64) (.int .i64)) l, .int .i64 a], [] => gd (l.length ≤ 64) (.bool (inC l a), [])
  | _, _ => none
@[reducible] def E_l6Exists : Env := mkE (tb [(59, K_l1In)]) (fun f => false) (fun r => ([], []))
theorem ev_l6Exists (l : List (Int × Int)) (a : Int) (hp : l.length ≤ 64) : evF E_l6Exists (1) Tryz.f66 [.lst (.pair (.int .i64) (.int .i64)) l, .int .i64 a] [] = some (.bool (inC l a), []) := by
  conv => lhs; whnf
  conv => lhs; arg 1; whnf
  refine bnd_g (by exact True.intro) ?_
  conv => lhs; whnf
  refine okB ?_
  unfold inC
  rw [wrap64 (by omega) (by omega)]
theorem ok_l6Exists : FnOk Tryz.prog 66 K_l6Exists := by
  refine fn_ok (fn := Tryz.f66) (k := Tryz.f66.ntmps) (E := E_l6Exists) (facts_of (List.forall_mem_cons.2 ⟨ok_l1In, List.forall_mem_nil _⟩)) (by kernel_rfl) rfl (by decide +kernel) (by decide +kernel) ?_
  intro avs hin r h
  unfold K_l6Exists at h
  split at h
  · obtain ⟨hp, rfl⟩ := gd_o h
    exact ⟨_, ev_l6Exists _ _ hp, rfl⟩
  · cases h

/- spec.IsBelow -/
def K_specIsBelow : List AV → List Ob → Option (AV × List Ob)
  | [.agg [.int .i64 m, .lst (.int .i64) b], .int .i64 x, .int .i64 y], [] => gd (b.length ≤ 1048576) (.bool (belowB (concF m b) x y), [])
  | _, _ => none
@[reducible] def E_specIsBelow : Env := mkE (tb [(26, K_specConcepts), (66, K_l6Exists), (67, K_l6Under)]) (fun f => false) (fun r => ([], []))
theorem ev_specIsBelow (m : Int) (b : List Int) (x y : Int) (hp : b.length ≤ 1048576) : evF E_specIsBelow (1) Tryz.f25 [.agg [.int .i64 m, .lst (.int .i64) b], .int .i64 x, .int .i64 y] [] = some (.bool (belowB (concF m b) x y), []) := by
  have hl := concF_len m b
  conv => lhs; whnf
  conv => lhs; arg 1; whnf
  refine bnd_g (by exact hp) ?_
  conv => lhs; whnf
  conv => lhs; arg 1; whnf
  refine bnd_g (by exact hl) ?_
  conv => lhs; whnf
  refine br_c (fun h => ?_) (fun h => ?_)
  · have h1 := inC_iff.1 h
    conv => lhs; whnf
    repeat ((first | with_reducible apply br_tt | with_reducible apply br_ff | with_reducible apply br_nf | with_reducible apply br_nt | with_reducible refine br_d ?_ (by kernel_rfl) | with_reducible apply br_t h | with_reducible apply br_f h); conv => lhs; whnf)
    conv => lhs; arg 1; whnf
    refine bnd_g (by exact hl) ?_
    conv => lhs; whnf
    repeat ((first | with_reducible apply br_tt | with_reducible apply br_ff | with_reducible apply br_nf | with_reducible apply br_nt | with_reducible refine br_d ?_ (by kernel_rfl) | with_reducible apply br_t h | with_reducible apply br_f h); conv => lhs; whnf)
    refine br_c (fun h2 => ?_) (fun h2 => ?_)
    · have h3 := inC_iff.1 h2
      conv => lhs; whnf
      repeat ((first | with_reducible apply br_tt | with_reducible apply br_ff | with_reducible apply br_nf | with_reducible apply br_nt | with_reducible refine br_d ?_ (by kernel_rfl) | with_reducible apply br_t h | with_reducible apply br_f h | with_reducible apply br_t h2 | with_reducible apply br_f h2 | with_reducible refine br_t (dt2 (by omega) (by omega)) ?_ | with_reducible refine br_t (dt (by omega)) ?_); conv => lhs; whnf)
      conv => lhs; arg 1; whnf
      refine bnd_g (by exact True.intro) ?_
      conv => lhs; whnf
      repeat ((first | with_reducible apply br_tt | with_reducible apply br_ff | with_reducible apply br_nf | with_reducible apply br_nt | with_reducible refine br_d ?_ (by kernel_rfl) | with_reducible apply br_t h | with_reducible apply br_f h | with_reducible apply br_t h2 | with_reducible apply br_f h2 | with_reducible refine br_t (dt2 (by omega) (by omega)) ?_ | with_reducible refine br_t (dt (by omega)) ?_); conv => lhs; whnf)
      refine okB ?_
      unfold belowB
      rw [h, h2]
      rfl
    · conv => lhs; whnf
      repeat ((first | with_reducible apply br_tt | with_reducible apply br_ff | with_reducible apply br_nf | with_reducible apply br_nt | with_reducible refine br_d ?_ (by kernel_rfl) | with_reducible apply br_t h | with_reducible apply br_f h | with_reducible apply br_t h2 | with_reducible apply br_f h2); conv => lhs; whnf)
      refine okB ?_
      unfold belowB
      rw [h, h2]
      rfl
  · conv => lhs; whnf
    repeat ((first | with_reducible apply br_tt | with_reducible apply br_ff | with_reducible apply br_nf | with_reducible apply br_nt | with_reducible refine br_d ?_ (by kernel_rfl) | with_reducible apply br_t h | with_reducible apply br_f h); conv => lhs; whnf)
    refine okB ?_
    unfold belowB
    rw [h]
    rfl
theorem ok_specIsBelow : FnOk Tryz.prog 25 K_specIsBelow := by
  refine fn_ok (fn := Tryz.f25) (k := Tryz.f25.ntmps) (E := E_specIsBelow) (facts_of (List.forall_mem_cons.2 ⟨ok_specConcepts, List.forall_mem_cons.2 ⟨ok_l6Exists, List.forall_mem_cons.2 ⟨ok_l6Under, List.forall_mem_nil _⟩⟩⟩)) (by kernel_rfl) rfl (by decide +kernel) (by decide +kernel) ?_
  intro avs hin r h
  unfold K_specIsBelow at h
  split at h
  · obtain ⟨hp, rfl⟩ := gd_o h
    exact ⟨_, ev_specIsBelow _ _ _ _ hp, rfl⟩
  · cases h

/- laws.hasInt -/
def K_hasIntL : List AV → List Ob → Option (AV × List Ob)
  | [.lst (.int .i64) a, .int .i64 v], [] => gd (a.length < 4611686018427387904) (.bool (a.any (fun y => y == v)), [])
  | _, _ => none
@[reducible] def E_hasIntL : Env := mkE (tb []) (fun f => false) (fun r => bif r == 2 then ([0, 1, 5], [4]) else ([], []))
theorem lp_hasIntL (a : List Int) (v : Int) (ha : a.length < 4611686018427387904) (k : AX → S → Option (AV × List Ob)) (d : Nat) : ∀ (n i : Nat) (x : Int), a.length - i = d → i ≤ a.length → x = i → d < n →
    lpAt E_hasIntL (lp E_hasIntL 0 n) 0 (loopAt Tryz.f27 0) (mkS [0, 1, 5] [.lst (.int .i64) a, .int .i64 v, .int .i64 x] []) k =
      if (a.drop i).any (fun y => y == v) then k .ret (mkS [4] [.bool true] []) else k (.exit 0) (mkS [4] [.any] []) := by
  induction d with
  | zero =>
    intro n i x hd hi hx hn
    subst hx
    rw [lpAt_def]
    conv => lhs; whnf
    refine br_f (df (by omega)) ?_
    conv => lhs; whnf
    rw [List.drop_of_length_le (by omega)]
    simp
  | succ d ih =>
    intro n i x hd hi hx hn
    obtain ⟨n, rfl⟩ : ∃ m, n = m + 1 := ⟨n - 1, by omega⟩
    subst hx
    rw [lpAt_def]
    conv => lhs; whnf
    refine br_t (dt (by omega)) ?_
    conv => lhs; whnf
    refine br_t (dt2 (by omega) (by omega)) ?_
    conv => lhs; whnf
    rw [getD_drop (l := a) (i := i) (d := 0) (by omega)]
    refine br_c (fun h => ?_) (fun h => ?_)
    · have h' : (a.getD i 0 == v) = true := h
      conv => lhs; whnf
      rw [if_pos (by simp only [List.any_cons, h', Bool.true_or])]
    · have h' : (a.getD i 0 == v) = false := h
      conv => lhs; whnf
      rw [ih n (i + 1) _ (by omega) (by omega) (by rw [wrap64 (by omega) (by omega)]; simp) (by omega)]
      simp only [List.any_cons, h', Bool.false_or]
theorem ev_hasIntL (a : List Int) (v : Int) (hp : a.length < 4611686018427387904) : evF E_hasIntL (a.length + 2) Tryz.f27 [.lst (.int .i64) a, .int .i64 v] [] = some (.bool (a.any (fun y => y == v)), []) := by
  conv => lhs; whnf
  refine (lp_hasIntL a v hp _ a.length _ 0 0 rfl (by omega) rfl (by omega)).trans ?_
  simp only [List.drop_zero]
  split
  · rename_i he
    conv => lhs; whnf
    rw [he]
  · rename_i he
    conv => lhs; whnf
    rw [Bool.not_eq_true] at he
    rw [he]
theorem ok_hasIntL : FnOk Tryz.prog 27 K_hasIntL := by
  refine fn_ok (fn := Tryz.f27) (k := Tryz.f27.ntmps) (E := E_hasIntL) (facts_of (List.forall_mem_nil _)) (by kernel_rfl) rfl (by decide +kernel) (by decide +kernel) ?_
  intro avs hin r h
  unfold K_hasIntL at h
  split at h
  · obtain ⟨hp, rfl⟩ := gd_o h
    exact ⟨_, ev_hasIntL _ _ hp, rfl⟩
  · cases h

/- spec.IsDistributive -/
def K_specIsDistributive : List AV → List Ob → Option (AV × List Ob)
  | [.agg [.int .i64 m, .lst (.int .i64) b]], [] => gd (b.length ≤ 8) (.bool (lawV m b true), [])
  | _, _ => none
@[reducible] def E_specIsDistributive : Env := mkE (tb [(72, K_specLaw)]) (fun f => false) (fun r => ([], []))
theorem ev_specIsDistributive (m : Int) (b : List Int) (hp : b.length ≤ 8) : evF E_specIsDistributive (1) Tryz.f28 [.agg [.int .i64 m, .lst (.int .i64) b]] [] = some (.bool (lawV m b true), []) := by
  conv => lhs; whnf
  conv => lhs; arg 1; whnf
  refine bnd_g (by exact hp) ?_
  conv => lhs; whnf
theorem ok_specIsDistributive : FnOk Tryz.prog 28 K_specIsDistributive := by
  refine fn_ok (fn := Tryz.f28) (k := Tryz.f28.ntmps) (E := E_specIsDistributive) (facts_of (List.forall_mem_cons.2 ⟨ok_specLaw, List.forall_mem_nil _⟩)) (by kernel_rfl) rfl (by decide +kernel) (by decide +kernel) ?_
  intro avs hin r h
  unfold K_specIsDistributive at h
  split at h
  · obtain ⟨hp, rfl⟩ := gd_o h
    exact ⟨_, ev_specIsDistributive _ _ hp, rfl⟩
  · cases h

end Go.Sym
