/- Functions of the program, each told as a plain equation. -/
import Derived.Test.YtdkcdkjdljflbaaGreatDoorSymK1
namespace Go.Sym
open Go.Proofs
set_option linter.unusedVariables false
set_option linter.unusedSimpArgs false
set_option maxRecDepth 100000
set_option maxHeartbeats 4000000

/- (impl.lattice).join$1 -/
def K_latJoin1 : List AV → List Ob → Option (AV × List Ob)
  | [.agg [.int .i64 p, .int .i64 q], .vptr [.int .i64 v] 0], [] => gd (True) (.bool (q == v), [])
  | _, _ => none
@[reducible] def E_latJoin1 : Env := mkE (tb []) (fun f => false) (fun r => ([], []))
theorem ev_latJoin1 (p q v : Int) (hp : True) : evF E_latJoin1 (1) Tryz.f193 [.agg [.int .i64 p, .int .i64 q], .vptr [.int .i64 v] 0] [] = some (.bool (q == v), []) := by
  conv => lhs; whnf
theorem ok_latJoin1 : FnOk Tryz.prog 193 K_latJoin1 := by
  refine fn_ok (fn := Tryz.f193) (k := Tryz.f193.ntmps) (E := E_latJoin1) (facts_of (List.forall_mem_nil _)) (by kernel_rfl) rfl (by decide +kernel) (by decide +kernel) ?_
  intro avs hin r h
  unfold K_latJoin1 at h
  split at h
  · obtain ⟨hp, rfl⟩ := gd_o h
    exact ⟨_, ev_latJoin1 _ _ _ hp, rfl⟩
  · cases h

/- slices.IndexFunc[impl.lattice,impl.Concept] -/
def K_idxLatJ : List AV → List Ob → Option (AV × List Ob)
  | [.lst (.pair (.int .i64) (.int .i64)) l, .clo 193 [.vptr [.int .i64 v] 0]], [] => gd (l.length ≤ 64) (.int .i64 (firstI (fun p => p.2 == v) l 0), [])
  | _, _ => none
@[reducible] def E_idxLatJ : Env := mkE (tb [(193, K_latJoin1)]) (fun f => false) (fun r => bif r == 2 then ([0, 1, 7, 8], [4]) else ([], []))
theorem lp_idxLatJ (l : List (Int × Int)) (v : Int) (ha : l.length ≤ 64) (k : AX → S → Option (AV × List Ob)) (d : Nat) : ∀ (n i : Nat) (x : Int), l.length - i = d → i ≤ l.length → x = i → d < n →
    lpAt E_idxLatJ (lp E_idxLatJ 0 n) 0 (loopAt Tryz.f191 0) (mkS [0, 1, 7, 8] [.lst (.pair (.int .i64) (.int .i64)) l, .clo 193 [.vptr [.int .i64 v] 0], .int .i64 l.length, .int .i64 x] []) k =
      if (l.drop i).any (fun p => p.2 == v) then k .ret (mkS [4] [.int .i64 (firstI (fun p => p.2 == v) (l.drop i) i)] []) else k (.exit 0) (mkS [4] [.any] []) := by
  induction d with
  | zero =>
    intro n i x hd hi hx hn
    subst hx
    rw [lpAt_def]
    conv => lhs; whnf
    refine br_f (df (by omega)) ?_
    conv => lhs; whnf
    rw [List.drop_of_length_le (by omega)]
    simp
  | succ d ih =>
    intro n i x hd hi hx hn
    obtain ⟨n, rfl⟩ : ∃ m, n = m + 1 := ⟨n - 1, by omega⟩
    subst hx
    rw [lpAt_def]
    conv => lhs; whnf
    refine br_t (dt (by omega)) ?_
    conv => lhs; whnf
    refine br_t (dt2 (by omega) (by omega)) ?_
    conv => lhs; whnf
    conv => lhs; arg 1; whnf
    refine bnd_g (by exact True.intro) ?_
    conv => lhs; whnf
    rw [getD_drop (l := l) (i := i) (d := (0, 0)) (by omega)]
    refine br_c (fun h => ?_) (fun h => ?_)
    · have h' : ((l.getD i (0, 0)).2 == v) = true := h
      conv => lhs; whnf
      rw [if_pos (by simp only [List.any_cons, h', Bool.true_or]), firstI, h', cond_true]
    · have h' : ((l.getD i (0, 0)).2 == v) = false := h
      conv => lhs; whnf
      rw [ih n (i + 1) _ (by omega) (by omega) (by rw [wrap64 (by omega) (by omega)]; simp) (by omega)]
      simp only [List.any_cons, h', Bool.false_or]
      rw [firstI, h', cond_false]
      rfl
theorem ev_idxLatJ (l : List (Int × Int)) (v : Int) (hp : l.length ≤ 64) : evF E_idxLatJ (l.length + 2) Tryz.f191 [.lst (.pair (.int .i64) (.int .i64)) l, .clo 193 [.vptr [.int .i64 v] 0]] [] = some (.int .i64 (firstI (fun p => p.2 == v) l 0), []) := by
  conv => lhs; whnf
  refine (lp_idxLatJ l v hp _ l.length _ 0 0 rfl (by omega) rfl (by omega)).trans ?_
  simp only [List.drop_zero]
  split
  · conv => lhs; whnf
    rfl
  · rename_i he
    conv => lhs; whnf
    have : firstI (fun p => p.2 == v) l 0 = -1 := firstI_none _ l 0 (by rw [Bool.not_eq_true] at he; exact he)
    rw [this]
theorem ok_idxLatJ : FnOk Tryz.prog 191 K_idxLatJ := by
  refine fn_ok (fn := Tryz.f191) (k := Tryz.f191.ntmps) (E := E_idxLatJ) (facts_of (List.forall_mem_cons.2 ⟨ok_latJoin1, List.forall_mem_nil _⟩)) (by kernel_rfl) rfl (by decide +kernel) (by decide +kernel) ?_
  intro avs hin r h
  unfold K_idxLatJ at h
  split at h
  · obtain ⟨hp, rfl⟩ := gd_o h
    exact ⟨_, ev_idxLatJ _ _ hp, rfl⟩
  · cases h

/- (impl.lattice).index$1 -/
def K_latIndex1 : List AV → List Ob → Option (AV × List Ob)
  | [.agg [.int .i64 p, .int .i64 q], .vptr [.int .i64 v] 0], [] => gd (True) (.bool (p == v), [])
  | _, _ => none
@[reducible] def E_latIndex1 : Env := mkE (tb []) (fun f => false) (fun r => ([], []))
theorem ev_latIndex1 (p q v : Int) (hp : True) : evF E_latIndex1 (1) Tryz.f192 [.agg [.int .i64 p, .int .i64 q], .vptr [.int .i64 v] 0] [] = some (.bool (p == v), []) := by
  conv => lhs; whnf
theorem ok_latIndex1 : FnOk Tryz.prog 192 K_latIndex1 := by
  refine fn_ok (fn := Tryz.f192) (k := Tryz.f192.ntmps) (E := E_latIndex1) (facts_of (List.forall_mem_nil _)) (by kernel_rfl) rfl (by decide +kernel) (by decide +kernel) ?_
  intro avs hin r h
  unfold K_latIndex1 at h
  split at h
  · obtain ⟨hp, rfl⟩ := gd_o h
    exact ⟨_, ev_latIndex1 _ _ _ hp, rfl⟩
  · cases h

/- slices.IndexFunc[impl.lattice,impl.Concept] -/
def K_idxLat : List AV → List Ob → Option (AV × List Ob)
  | [.lst (.pair (.int .i64) (.int .i64)) l, .clo 192 [.vptr [.int .i64 v] 0]], [] => gd (l.length ≤ 64) (.int .i64 (firstI (fun p => p.1 == v) l 0), [])
  | _, _ => none
@[reducible] def E_idxLat : Env := mkE (tb [(192, K_latIndex1)]) (fun f => false) (fun r => bif r == 2 then ([0, 1, 7, 8], [4]) else ([], []))
theorem lp_idxLat (l : List (Int × Int)) (v : Int) (ha : l.length ≤ 64) (k : AX → S → Option (AV × List Ob)) (d : Nat) : ∀ (n i : Nat) (x : Int), l.length - i = d → i ≤ l.length → x = i → d < n →
    lpAt E_idxLat (lp E_idxLat 0 n) 0 (loopAt Tryz.f191 0) (mkS [0, 1, 7, 8] [.lst (.pair (.int .i64) (.int .i64)) l, .clo 192 [.vptr [.int .i64 v] 0], .int .i64 l.length, .int .i64 x] []) k =
      if (l.drop i).any (fun p => p.1 == v) then k .ret (mkS [4] [.int .i64 (firstI (fun p => p.1 == v) (l.drop i) i)] []) else k (.exit 0) (mkS [4] [.any] []) := by
  induction d with
  | zero =>
    intro n i x hd hi hx hn
    subst hx
    rw [lpAt_def]
    conv => lhs; whnf
    refine br_f (df (by omega)) ?_
    conv => lhs; whnf
    rw [List.drop_of_length_le (by omega)]
    simp
  | succ d ih =>
    intro n i x hd hi hx hn
    obtain ⟨n, rfl⟩ : ∃ m, n = m + 1 := ⟨n - 1, by omega⟩
    subst hx
    rw [lpAt_def]
    conv => lhs; whnf
    refine br_t (dt (by omega)) ?_
    conv => lhs; whnf
    refine br_t (dt2 (by omega) (by omega)) ?_
    conv => lhs; whnf
    conv => lhs; arg 1; whnf
    refine bnd_g (by exact True.intro) ?_
    conv => lhs; whnf
    rw [getD_drop (l := l) (i := i) (d := (0, 0)) (by omega)]
    refine br_c (fun h => ?_) (fun h => ?_)
    · have h' : ((l.getD i (0, 0)).1 == v) = true := h
      conv => lhs; whnf
      rw [if_pos (by simp only [List.any_cons, h', Bool.true_or]), firstI, h', cond_true]
    · have h' : ((l.getD i (0, 0)).1 == v) = false := h
      conv => lhs; whnf
      rw [ih n (i + 1) _ (by omega) (by omega) (by rw [wrap64 (by omega) (by omega)]; simp) (by omega)]
      simp only [List.any_cons, h', Bool.false_or]
      rw [firstI, h', cond_false]
      rfl
theorem ev_idxLat (l : List (Int × Int)) (v : Int) (hp : l.length ≤ 64) : evF E_idxLat (l.length + 2) Tryz.f191 [.lst (.pair (.int .i64) (.int .i64)) l, .clo 192 [.vptr [.int .i64 v] 0]] [] = some (.int .i64 (firstI (fun p => p.1 == v) l 0), []) := by
  conv => lhs; whnf
  refine (lp_idxLat l v hp _ l.length _ 0 0 rfl (by omega) rfl (by omega)).trans ?_
  simp only [List.drop_zero]
  split
  · conv => lhs; whnf
    rfl
  · rename_i he
    conv => lhs; whnf
    have : firstI (fun p => p.1 == v) l 0 = -1 := firstI_none _ l 0 (by rw [Bool.not_eq_true] at he; exact he)
    rw [this]
theorem ok_idxLat : FnOk Tryz.prog 191 K_idxLat := by
  refine fn_ok (fn := Tryz.f191) (k := Tryz.f191.ntmps) (E := E_idxLat) (facts_of (List.forall_mem_cons.2 ⟨ok_latIndex1, List.forall_mem_nil _⟩)) (by kernel_rfl) rfl (by decide +kernel) (by decide +kernel) ?_
  intro avs hin r h
  unfold K_idxLat at h
  split at h
  · obtain ⟨hp, rfl⟩ := gd_o h
    exact ⟨_, ev_idxLat _ _ hp, rfl⟩
  · cases h

/- (impl.lattice).index -/
def K_latIndex : List AV → List Ob → Option (AV × List Ob)
  | [.lst (.pair (.int .i64) (.int .i64)) l, .int .i64 v], [] => gd (l.length ≤ 64) (.int .i64 (firstI (fun p => p.1 == v) l 0), [])
  | _, _ => none
@[reducible] def E_latIndex : Env := mkE (tb [(191, K_idxLat)]) (fun f => false) (fun r => ([], []))
theorem ev_latIndex (l : List (Int × Int)) (v : Int) (hp : l.length ≤ 64) : evF E_latIndex (1) Tryz.f178 [.lst (.pair (.int .i64) (.int .i64)) l, .int .i64 v] [] = some (.int .i64 (firstI (fun p => p.1 == v) l 0), []) := by
  conv => lhs; whnf
  conv => lhs; arg 1; whnf
  refine bnd_g (by exact hp) ?_
  conv => lhs; whnf
theorem ok_latIndex : FnOk Tryz.prog 178 K_latIndex := by
  refine fn_ok (fn := Tryz.f178) (k := Tryz.f178.ntmps) (E := E_latIndex) (facts_of (List.forall_mem_cons.2 ⟨ok_idxLat, List.forall_mem_nil _⟩)) (by kernel_rfl) rfl (by decide +kernel) (by decide +kernel) ?_
  intro avs hin r h
  unfold K_latIndex at h
  split at h
  · obtain ⟨hp, rfl⟩ := gd_o h
    exact ⟨_, ev_latIndex _ _ hp, rfl⟩
  · cases h

/- (impl.lattice).meet -/
def K_latMeet : List AV → List Ob → Option (AV × List Ob)
  | [.lst (.pair (.int .i64) (.int .i64)) l, .int .i64 x, .int .i64 y], [] => gd ((l.length ≤ 64 ∧ (0 ≤ x ∧ x < l.length)) ∧ (0 ≤ y ∧ y < l.length)) (.int .i64 (firstI (fun z => z.1 == band (l.getD x.toNat (0, 0)).1 (l.getD y.toNat (0, 0)).1) l 0), [])
  | _, _ => none
@[reducible] def E_latMeet : Env := mkE (tb [(178, K_latIndex)]) (fun f => false) (fun r => ([], []))
theorem ev_latMeet (l : List (Int × Int)) (x y : Int) (hp : (l.length ≤ 64 ∧ (0 ≤ x ∧ x < l.length)) ∧ (0 ≤ y ∧ y < l.length)) : evF E_latMeet (1) Tryz.f181 [.lst (.pair (.int .i64) (.int .i64)) l, .int .i64 x, .int .i64 y] [] = some (.int .i64 (firstI (fun z => z.1 == band (l.getD x.toNat (0, 0)).1 (l.getD y.toNat (0, 0)).1) l 0), []) := by
  conv => lhs; whnf
  refine br_t (by exact dt2 hp.1.2.1 hp.1.2.2) ?_
  conv => lhs; whnf
  refine br_t (by exact dt2 hp.2.1 hp.2.2) ?_
  conv => lhs; whnf
  conv => lhs; arg 1; whnf
  refine bnd_g (by exact hp.1.1) ?_
  conv => lhs; whnf
  repeat ((first | with_reducible apply br_tt | with_reducible apply br_ff | with_reducible apply br_nf | with_reducible apply br_nt | with_reducible refine br_d ?_ (by kernel_rfl)); conv => lhs; whnf)
  rfl
theorem ok_latMeet : FnOk Tryz.prog 181 K_latMeet := by
  refine fn_ok (fn := Tryz.f181) (k := Tryz.f181.ntmps) (E := E_latMeet) (facts_of (List.forall_mem_cons.2 ⟨ok_latIndex, List.forall_mem_nil _⟩)) (by kernel_rfl) rfl (by decide +kernel) (by decide +kernel) ?_
  intro avs hin r h
  unfold K_latMeet at h
  split at h
  · obtain ⟨hp, rfl⟩ := gd_o h
    exact ⟨_, ev_latMeet _ _ _ hp, rfl⟩
  · cases h

/- (impl.lattice).join -/
def K_latJoin : List AV → List Ob → Option (AV × List Ob)
  | [.lst (.pair (.int .i64) (.int .i64)) l, .int .i64 x, .int .i64 y], [] => gd ((l.length ≤ 64 ∧ (0 ≤ x ∧ x < l.length)) ∧ (0 ≤ y ∧ y < l.length)) (.int .i64 (firstI (fun z => z.2 == band (l.getD x.toNat (0, 0)).2 (l.getD y.toNat (0, 0)).2) l 0), [])
  | _, _ => none
@[reducible] def E_latJoin : Env := mkE (tb [(191, K_idxLatJ)]) (fun f => false) (fun r => ([], []))
theorem ev_latJoin (l : List (Int × Int)) (x y : Int) (hp : (l.length ≤ 64 ∧ (0 ≤ x ∧ x < l.length)) ∧ (0 ≤ y ∧ y < l.length)) : evF E_latJoin (1) Tryz.f182 [.lst (.pair (.int .i64) (.int .i64)) l, .int .i64 x, .int .i64 y] [] = some (.int .i64 (firstI (fun z => z.2 == band (l.getD x.toNat (0, 0)).2 (l.getD y.toNat (0, 0)).2) l 0), []) := by
  conv => lhs; whnf
  refine br_t (by exact dt2 hp.1.2.1 hp.1.2.2) ?_
  conv => lhs; whnf
  refine br_t (by exact dt2 hp.2.1 hp.2.2) ?_
  conv => lhs; whnf
  repeat ((first | with_reducible apply br_tt | with_reducible apply br_ff | with_reducible apply br_nf | with_reducible apply br_nt | with_reducible refine br_d ?_ (by kernel_rfl)); conv => lhs; whnf)
  conv => lhs; arg 1; whnf
  refine bnd_g (by exact hp.1.1) ?_
  conv => lhs; whnf
  repeat ((first | with_reducible apply br_tt | with_reducible apply br_ff | with_reducible apply br_nf | with_reducible apply br_nt | with_reducible refine br_d ?_ (by kernel_rfl)); conv => lhs; whnf)
  rfl
theorem ok_latJoin : FnOk Tryz.prog 182 K_latJoin := by
  refine fn_ok (fn := Tryz.f182) (k := Tryz.f182.ntmps) (E := E_latJoin) (facts_of (List.forall_mem_cons.2 ⟨ok_idxLatJ, List.forall_mem_nil _⟩)) (by kernel_rfl) rfl (by decide +kernel) (by decide +kernel) ?_
  intro avs hin r h
  unfold K_latJoin at h
  split at h
  · obtain ⟨hp, rfl⟩ := gd_o h
    exact ⟨_, ev_latJoin _ _ _ hp, rfl⟩
  · cases h

def mtC (l : List (Int × Int)) (p q : Int × Int) : Int := firstI (fun z => z.1 == band p.1 q.1) l 0
def jnC (l : List (Int × Int)) (p q : Int × Int) : Int := firstI (fun z => z.2 == band p.2 q.2) l 0
theorem set_getD {α : Type} {l : List α} {i : Nat} {x d : α} (h : i < l.length) : (l.set i x).getD i d = x := by
  simp [List.getD, h]
theorem set_getD_ne {α : Type} {l : List α} {i j : Nat} {x d : α} (h : i ≠ j) : (l.set i x).getD j d = l.getD j d := by
  simp [List.getD, h]
theorem set_same {α : Type} {l : List α} {i : Nat} {d : α} (h : i < l.length) : l.set i (l.getD i d) = l := by
  apply List.ext_getElem
  · simp
  · intro j h1 h2
    rw [List.getElem_set]
    split
    · rename_i e; subst e; simp [List.getD, h]
    · rfl
theorem take_set_map {α : Type} {l m : List α} {i : Nat} {x : α} (h : i < l.length) : (l.set i x).take (i + 1) ++ m = l.take i ++ x :: m := by
  rw [List.take_add_one, List.take_set_of_le (Nat.le_refl i)]
  simp [h]
/- impl.tables -/
def K_tables : List AV → List Ob → Option (AV × List Ob)
  | [.lst (.pair (.int .i64) (.int .i64)) l], [] => gd (l.length ≤ 64) (.tup [.own 0, .own 1], [.nest 24 3 (.int .i64) (l.map fun p => l.map (mtC l p)) none, .nest 24 3 (.int .i64) (l.map fun p => l.map (jnC l p)) none])
  | _, _ => none
@[reducible] def E_tables : Env := mkE (tb [(181, K_latMeet), (182, K_latJoin)]) (fun f => false) (fun r => bif r == 3 then ([0, 4, 5, 15, 16], [0, 4, 5, 15, 16]) else bif r == 6 then ([0, 4, 5, 6, 15, 16, 20, 21], [0, 4, 5, 15, 16]) else ([], []))
theorem lpi_tables (l : List (Int × Int)) (hl : l.length ≤ 64) (hr : 600 ≤ room) (a : Nat) (ha : a < l.length) (k : AX → S → Option (AV × List Ob)) (d : Nat) : ∀ (n i : Nat) (x : Int) (yss zss : List (List Int)), l.length - i = d → i ≤ l.length → x = i → d < n → yss.length = l.length → zss.length = l.length → (yss.getD a []).length ≤ i → (zss.getD a []).length ≤ i →
    lpAt E_tables (lp E_tables 0 n) 0 (loopAt Tryz.f160 1) (mkS [0, 4, 5, 6, 15, 16, 20, 21] [.lst (.pair (.int .i64) (.int .i64)) l, .own 0, .own 1, .int .i64 (a : Int), .int .i64 l.length, .int .i64 (a : Int), .int .i64 l.length, .int .i64 x] [some (.nest 24 3 (.int .i64) yss none), some (.nest 24 3 (.int .i64) zss none)]) k =
      k (.exit 2) (mkS [0, 4, 5, 15, 16] [.lst (.pair (.int .i64) (.int .i64)) l, .own 0, .own 1, .int .i64 l.length, .int .i64 (a : Int)] [some (.nest 24 3 (.int .i64) (yss.set a (yss.getD a [] ++ (l.drop i).map (mtC l (l.getD a (0, 0))))) none), some (.nest 24 3 (.int .i64) (zss.set a (zss.getD a [] ++ (l.drop i).map (jnC l (l.getD a (0, 0))))) none)]) := by
  induction d with
  | zero =>
    intro n i x yss zss hd hi hx hn hy hz hya hza
    subst hx
    rw [lpAt_def]
    conv => lhs; whnf
    refine br_f (df (by omega)) ?_
    conv => lhs; whnf
    have e1 : yss.set a (yss.getD a [] ++ (l.drop i).map (mtC l (l.getD a (0, 0)))) = yss := by rw [List.drop_of_length_le (by omega), List.map_nil, List.append_nil, set_same (by omega)]
    have e2 : zss.set a (zss.getD a [] ++ (l.drop i).map (jnC l (l.getD a (0, 0)))) = zss := by rw [List.drop_of_length_le (by omega), List.map_nil, List.append_nil, set_same (by omega)]
    rw [e1, e2]
  | succ d ih =>
    intro n i x yss zss hd hi hx hn hy hz hya hza
    obtain ⟨n, rfl⟩ : ∃ m, n = m + 1 := ⟨n - 1, by omega⟩
    subst hx
    rw [lpAt_def]
    conv => lhs; whnf
    refine br_t (dt (by omega)) ?_
    conv => lhs; whnf
    repeat ((first | with_reducible apply br_tt | with_reducible apply br_ff | with_reducible apply br_nf | with_reducible apply br_nt | with_reducible refine br_d ?_ (by kernel_rfl) | with_reducible refine br_t (dt2 (by omega) (by omega)) ?_); conv => lhs; whnf)
    refine br_t (by exact dt (by omega)) ?_
    conv => lhs; whnf
    repeat ((first | with_reducible apply br_tt | with_reducible apply br_ff | with_reducible apply br_nf | with_reducible apply br_nt | with_reducible refine br_d ?_ (by kernel_rfl) | with_reducible refine br_t (dt2 (by omega) (by omega)) ?_); conv => lhs; whnf)
    conv => lhs; arg 1; whnf
    refine bnd_g (by exact ⟨⟨hl, by omega, by omega⟩, by omega, by omega⟩) ?_
    conv => lhs; whnf
    repeat ((first | with_reducible apply br_tt | with_reducible apply br_ff | with_reducible apply br_nf | with_reducible apply br_nt | with_reducible refine br_d ?_ (by kernel_rfl) | with_reducible refine br_t (dt2 (by omega) (by omega)) ?_); conv => lhs; whnf)
    refine br_t (by exact dt (show ((yss.getD a []).length + 1) * 8 ≤ room by omega)) ?_
    conv => lhs; whnf
    repeat ((first | with_reducible apply br_tt | with_reducible apply br_ff | with_reducible apply br_nf | with_reducible apply br_nt | with_reducible refine br_d ?_ (by kernel_rfl) | with_reducible refine br_t (dt2 (by omega) (by omega)) ?_); conv => lhs; whnf)
    refine br_t (by exact dt rfl) ?_
    conv => lhs; whnf
    repeat ((first | with_reducible apply br_tt | with_reducible apply br_ff | with_reducible apply br_nf | with_reducible apply br_nt | with_reducible refine br_d ?_ (by kernel_rfl) | with_reducible refine br_t (dt2 (by omega) (by omega)) ?_); conv => lhs; whnf)
    conv => lhs; whnf
    repeat ((first | with_reducible apply br_tt | with_reducible apply br_ff | with_reducible apply br_nf | with_reducible apply br_nt | with_reducible refine br_d ?_ (by kernel_rfl) | with_reducible refine br_t (dt2 (by omega) (by omega)) ?_); conv => lhs; whnf)
    refine br_t (by exact dt (by omega)) ?_
    conv => lhs; whnf
    repeat ((first | with_reducible apply br_tt | with_reducible apply br_ff | with_reducible apply br_nf | with_reducible apply br_nt | with_reducible refine br_d ?_ (by kernel_rfl) | with_reducible refine br_t (dt2 (by omega) (by omega)) ?_); conv => lhs; whnf)
    conv => lhs; arg 1; whnf
    refine bnd_g (by exact ⟨⟨hl, by omega, by omega⟩, by omega, by omega⟩) ?_
    conv => lhs; whnf
    repeat ((first | with_reducible apply br_tt | with_reducible apply br_ff | with_reducible apply br_nf | with_reducible apply br_nt | with_reducible refine br_d ?_ (by kernel_rfl) | with_reducible refine br_t (dt2 (by omega) (by omega)) ?_); conv => lhs; whnf)
    refine br_t (by exact dt (show ((zss.getD a []).length + 1) * 8 ≤ room by omega)) ?_
    conv => lhs; whnf
    repeat ((first | with_reducible apply br_tt | with_reducible apply br_ff | with_reducible apply br_nf | with_reducible apply br_nt | with_reducible refine br_d ?_ (by kernel_rfl) | with_reducible refine br_t (dt2 (by omega) (by omega)) ?_); conv => lhs; whnf)
    refine br_t (by exact dt rfl) ?_
    conv => lhs; whnf
    repeat ((first | with_reducible apply br_tt | with_reducible apply br_ff | with_reducible apply br_nf | with_reducible apply br_nt | with_reducible refine br_d ?_ (by kernel_rfl) | with_reducible refine br_t (dt2 (by omega) (by omega)) ?_); conv => lhs; whnf)
    have ea : ∀ (w : List (List Int)) (v : Int) (g : Int × Int → Int), w.length = l.length → g (l.getD i (0, 0)) = v → (w.set a (w.getD a [] ++ [v])).set a ((w.set a (w.getD a [] ++ [v])).getD a [] ++ (l.drop (i + 1)).map g) = w.set a (w.getD a [] ++ (l.drop i).map g) := by
      intro w v g hw hg
      rw [set_getD (by omega), List.set_set, getD_drop (l := l) (i := i) (d := (0, 0)) (by omega), List.map_cons, hg, List.append_assoc]
      rfl
    rw [← ea yss (mtC l (l.getD a (0, 0)) (l.getD i (0, 0))) _ hy rfl, ← ea zss (jnC l (l.getD a (0, 0)) (l.getD i (0, 0))) _ hz rfl]
    exact ih n (i + 1) _ (yss.set a (yss.getD a [] ++ [mtC l (l.getD a (0, 0)) (l.getD i (0, 0))])) (zss.set a (zss.getD a [] ++ [jnC l (l.getD a (0, 0)) (l.getD i (0, 0))])) (by omega) (by omega) (by rw [wrap64 (n := (i : Int) + 1) (by omega) (by omega)]; simp) (by omega) (by rw [List.length_set]; omega) (by rw [List.length_set]; omega) (by rw [set_getD (by omega), List.length_append]; show (yss.getD a []).length + 1 ≤ i + 1; omega) (by rw [set_getD (by omega), List.length_append]; show (zss.getD a []).length + 1 ≤ i + 1; omega)
theorem lp_tables (l : List (Int × Int)) (hl : l.length ≤ 64) (hr : 600 ≤ room) (k : AX → S → Option (AV × List Ob)) (d : Nat) : ∀ (n i : Nat) (x : Int) (q : AV) (yss zss : List (List Int)), l.length - i = d → i ≤ l.length → x = i → d + 100 < n → yss.length = l.length → zss.length = l.length → (∀ j, i ≤ j → yss.getD j [] = []) → (∀ j, i ≤ j → zss.getD j [] = []) →
    lpAt E_tables (lp E_tables 0 n) 0 (loopAt Tryz.f160 0) (mkS [0, 4, 5, 15, 16] [.lst (.pair (.int .i64) (.int .i64)) l, .own 0, .own 1, .int .i64 l.length, .int .i64 x] [some (.nest 24 3 (.int .i64) yss none), some (.nest 24 3 (.int .i64) zss none)]) k =
      k (.exit 0) (mkS [0, 4, 5, 15, 16] [.lst (.pair (.int .i64) (.int .i64)) l, .own 0, .own 1, .int .i64 l.length, .int .i64 l.length] [some (.nest 24 3 (.int .i64) (yss.take i ++ (l.drop i).map fun p => l.map (mtC l p)) none), some (.nest 24 3 (.int .i64) (zss.take i ++ (l.drop i).map fun p => l.map (jnC l p)) none)]) := by
  induction d with
  | zero =>
    intro n i x q yss zss hd hi hx hn hy hz hya hza
    subst hx
    rw [lpAt_def]
    conv => lhs; whnf
    refine br_f (df (by omega)) ?_
    conv => lhs; whnf
    have e1 : yss.take i ++ (l.drop i).map (fun p => l.map (mtC l p)) = yss := by rw [List.drop_of_length_le (by omega), List.map_nil, List.append_nil, List.take_of_length_le (by omega)]
    have e2 : zss.take i ++ (l.drop i).map (fun p => l.map (jnC l p)) = zss := by rw [List.drop_of_length_le (by omega), List.map_nil, List.append_nil, List.take_of_length_le (by omega)]
    have e3 : i = l.length := by omega
    rw [e1, e2, e3]
  | succ d ih =>
    intro n i x q yss zss hd hi hx hn hy hz hya hza
    obtain ⟨n, rfl⟩ : ∃ m, n = m + 1 := ⟨n - 1, by omega⟩
    subst hx
    rw [lpAt_def]
    conv => lhs; whnf
    refine br_t (dt (by omega)) ?_
    conv => lhs; whnf
    refine (lpi_tables l hl hr i (by omega) _ l.length _ 0 0 yss zss rfl (by omega) rfl (by omega) hy hz (by rw [hya i (Nat.le_refl i)]; exact Nat.zero_le _) (by rw [hza i (Nat.le_refl i)]; exact Nat.zero_le _)).trans ?_
    conv => lhs; whnf
    have ea : ∀ (w : List (List Int)) (g : List (Int × Int) → Int × Int → Int × Int → Int), w.length = l.length → (∀ j, i ≤ j → w.getD j [] = []) → (w.set i (w.getD i [] ++ (l.drop 0).map (g l (l.getD i (0, 0))))).take (i + 1) ++ (l.drop (i + 1)).map (fun p => l.map (g l p)) = w.take i ++ (l.drop i).map (fun p => l.map (g l p)) := by
      intro w g hw hg
      rw [take_set_map (by omega), getD_drop (l := l) (i := i) (d := (0, 0)) (by omega), List.map_cons, hg i (Nat.le_refl i), List.drop_zero]
      rfl
    have eb : ∀ (w : List (List Int)) (g : List (Int × Int) → Int × Int → Int × Int → Int), (∀ j, i ≤ j → w.getD j [] = []) → ∀ j, i + 1 ≤ j → (w.set i (w.getD i [] ++ (l.drop 0).map (g l (l.getD i (0, 0))))).getD j [] = [] := by
      intro w g hw j hj
      rw [set_getD_ne (by omega)]
      exact hw j (by omega)
    rw [← ea yss mtC hy hya, ← ea zss jnC hz hza]
    exact ih n (i + 1) _ .any (yss.set i (yss.getD i [] ++ (l.drop 0).map (mtC l (l.getD i (0, 0))))) (zss.set i (zss.getD i [] ++ (l.drop 0).map (jnC l (l.getD i (0, 0))))) (by omega) (by omega) (by rw [wrap64 (n := (i : Int) + 1) (by omega) (by omega)]; simp) (by omega) (by rw [List.length_set]; omega) (by rw [List.length_set]; omega) (eb yss _ hya) (eb zss _ hza)
theorem ev_tables (l : List (Int × Int)) (hp : l.length ≤ 64) : evF E_tables (l.length + 200) Tryz.f160 [.lst (.pair (.int .i64) (.int .i64)) l] [] = some (.tup [.own 0, .own 1], [.nest 24 3 (.int .i64) (l.map fun p => l.map (mtC l p)) none, .nest 24 3 (.int .i64) (l.map fun p => l.map (jnC l p)) none]) := by
  have hr : 600 ≤ room := by simp [room]
  have hrp : ∀ j, (List.replicate l.length ([] : List Int)).getD j [] = [] := by
    intro j
    simp only [List.getD, List.getElem?_replicate]
    split <;> rfl
  conv => lhs; whnf
  refine br_t (by exact mk_ok (by show l.length * 24 ≤ _; omega)) ?_
  conv => lhs; whnf
  repeat ((first | with_reducible apply br_tt | with_reducible apply br_ff | with_reducible apply br_nf | with_reducible apply br_nt | with_reducible refine br_d ?_ (by kernel_rfl) | with_reducible refine br_t (dt2 (by omega) (by omega)) ?_); conv => lhs; whnf)
  refine br_t (by exact mk_ok (by show l.length * 24 ≤ _; omega)) ?_
  conv => lhs; whnf
  repeat ((first | with_reducible apply br_tt | with_reducible apply br_ff | with_reducible apply br_nf | with_reducible apply br_nt | with_reducible refine br_d ?_ (by kernel_rfl) | with_reducible refine br_t (dt2 (by omega) (by omega)) ?_); conv => lhs; whnf)
  refine (lp_tables l hp hr _ l.length _ 0 0 .any (List.replicate l.length []) (List.replicate l.length []) rfl (Nat.zero_le _) rfl (by omega) (List.length_replicate ..) (List.length_replicate ..) (fun j _ => hrp j) (fun j _ => hrp j)).trans ?_
  conv => lhs; whnf
  rfl
theorem ok_tables : FnOk Tryz.prog 160 K_tables := by
  refine fn_ok (fn := Tryz.f160) (k := Tryz.f160.ntmps) (E := E_tables) (facts_of (List.forall_mem_cons.2 ⟨ok_latMeet, List.forall_mem_cons.2 ⟨ok_latJoin, List.forall_mem_nil _⟩⟩)) (by kernel_rfl) rfl (by decide +kernel) (by decide +kernel) ?_
  intro avs hin r h
  unfold K_tables at h
  split at h
  · obtain ⟨hp, rfl⟩ := gd_o h
    exact ⟨_, ev_tables _ hp, rfl⟩
  · cases h

end Go.Sym
