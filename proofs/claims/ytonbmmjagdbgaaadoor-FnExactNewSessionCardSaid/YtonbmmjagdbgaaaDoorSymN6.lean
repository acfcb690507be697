/- Functions of the program, each told as a plain equation. -/
import Derived.Test.YtonbmmjagdbgaaaDoorSymN5
namespace Go.Sym
open Go.Proofs
set_option linter.unusedVariables false
set_option linter.unusedSimpArgs false
set_option maxRecDepth 100000
set_option maxHeartbeats 4000000

theorem setTx_ok (a : List Int) : okTxt (a.map setTx) = true := by
  rw [okTxt_iff]
  intro y hy
  obtain ⟨s, _, rfl⟩ := List.mem_map.1 hy
  have := setTx_size s
  omega
def ctxTx (m : Int) (a : List Int) : ByteArray := bif isCtx m a then (itoaB m ++ ⟨#[32]⟩) ++ setsTx a else ⟨#[]⟩
theorem setsTx_size (a : List Int) : (setsTx a).size ≤ 1048576 := by
  unfold setsTx
  cases a.all (isSet 8)
  · rw [cond_false]; decide
  · rw [cond_true]
    cases (a.length : Int) == 0
    · rw [cond_false]
      unfold joinF
      split
      · assumption
      · decide
    · rw [cond_true]; decide
def wd (t : ByteArray) (i : Nat) : ByteArray := (splB t 32).getD i ByteArray.empty
def rowsS (t : ByteArray) : List Int := bif (wd t 1).toList == noneB.toList then [] else (splB (wd t 1) 44).map psS
def okCS (t : ByteArray) : Bool := (decide ((splB t 32).length = 2) && okD (wd t 0)) && ((((wd t 1).toList == noneB.toList) || (splB (wd t 1) 44).all okP) && (isCtx (byteN (wd t 0) 0 - 48) (rowsS t) && ((ctxTx (byteN (wd t 0) 0 - 48) (rowsS t)).toList == t.toList)))
def pcS (t : ByteArray) : Int × List Int × Bool := bif okCS t then (byteN (wd t 0) 0 - 48, rowsS t, true) else (0, [], false)
theorem splS_size (s : ByteArray) (c : Int) : ∀ (d i f : Nat), ∀ w ∈ splS s c d i f, w.size ≤ s.size
  | 0, _, _, w, h => by cases h
  | d + 1, i, f, w, h => by
    rw [splS] at h
    cases hc : ((i : Int) == (s.size : Int)) || (byteN s i == c)
    · rw [hc, cond_false] at h
      exact splS_size s c d _ _ w h
    · rw [hc, cond_true] at h
      rcases List.mem_cons.1 h with rfl | h
      · rw [ByteArray.size_extract]
        omega
      · exact splS_size s c d _ _ w h
theorem splB_size {s : ByteArray} {c : Int} {w : ByteArray} (h : w ∈ splB s c) : w.size ≤ s.size := splS_size s c _ _ _ w h
theorem splS_pos (s : ByteArray) (c : Int) : ∀ (d i f : Nat), i + d = s.size + 1 → 0 < d → 0 < (splS s c d i f).length
  | 0, _, _, _, h => by omega
  | d + 1, i, f, h, _ => by
    rw [splS]
    cases hc : ((i : Int) == (s.size : Int)) || (byteN s i == c)
    · rw [cond_false]
      have : (i : Int) ≠ (s.size : Int) := by
        rw [Bool.or_eq_false_iff] at hc
        simpa using hc.1
      exact splS_pos s c d (i + 1) f (by omega) (by omega)
    · rw [cond_true, List.length_cons]
      omega
/- spec.IsContext -/
def K_specIsContext : List AV → List Ob → Option (AV × List Ob)
  | [.agg [.int .i64 m, .lst (.int .i64) a]], [] => gd (a.length < 4611686018427387904) (.bool (isCtx m a), [])
  | _, _ => none
@[reducible] def E_specIsContext : Env := mkE (tb [(43, K_specIsSet), (45, K_l1In)]) (fun f => false) (fun r => bif r == 2 then ([1, 3], [1, 2]) else ([], []))
theorem lp_specIsContext (m : Int) (a : List Int) (ha : a.length < 4611686018427387904) (k : AX → S → Option (AV × List Ob)) (r : Option (AV × List Ob)) (hk : k .ret (mkS [1, 2] [.ptr 0 0, .bool false] [some (.box 24 [.int .i64 m, .lst (.int .i64) a])]) = r) (d : Nat) : ∀ (n i : Nat) (x : Int), a.length - i = d → i ≤ a.length → x = i → d < n →
    lpAt E_specIsContext (lp E_specIsContext 0 n) 0 (loopAt Tryd.f33 0) (mkS [1, 3] [.ptr 0 0, .int .i64 x] [some (.box 24 [.int .i64 m, .lst (.int .i64) a])]) k =
      if (a.drop i).all (isSet m) then k (.exit 0) (mkS [1, 2] [.ptr 0 0, .any] [some (.box 24 [.int .i64 m, .lst (.int .i64) a])]) else r := by
  induction d with
  | zero =>
    intro n i x hd hi hx hn
    subst hx
    rw [lpAt_def]
    conv => lhs; whnf
    refine br_f (df (by omega)) ?_
    conv => lhs; whnf
    rw [List.drop_of_length_le (by omega), if_pos (by rfl)]
  | succ d ih =>
    intro n i x hd hi hx hn
    obtain ⟨n, rfl⟩ : ∃ m, n = m + 1 := ⟨n - 1, by omega⟩
    subst hx
    rw [lpAt_def]
    conv => lhs; whnf
    refine br_t (dt (by omega)) ?_
    conv => lhs; whnf
    refine br_t (dt2 (by omega) (by omega)) ?_
    conv => lhs; whnf
    conv => lhs; arg 1; whnf
    refine bnd_g (by exact True.intro) ?_
    conv => lhs; whnf
    refine br_t (by kernel_rfl) ?_
    conv => lhs; whnf
    rw [getD_drop (l := a) (i := i) (d := 0) (by omega)]
    refine br_c (fun h => ?_) (fun h => ?_)
    · have h' : isSet m (a.getD i 0) = false := by simpa using h
      conv => lhs; whnf
      rw [if_neg (by rw [List.all_cons, h', Bool.false_and]; exact Bool.false_ne_true)]
      exact hk
    · have h' : isSet m (a.getD i 0) = true := by simpa using h
      conv => lhs; whnf
      rw [ih n (i + 1) _ (by omega) (by omega) (by rw [wrap64 (by omega) (by omega)]; simp) (by omega)]
      rw [List.all_cons, h', Bool.true_and]
theorem ev_specIsContext (m : Int) (a : List Int) (hp : a.length < 4611686018427387904) : evF E_specIsContext (a.length + 2) Tryd.f33 [.agg [.int .i64 m, .lst (.int .i64) a]] [] = some (.bool (isCtx m a), []) := by
  conv => lhs; whnf
  refine (lp_specIsContext m a hp _ _ rfl a.length _ 0 0 rfl (by omega) rfl (by omega)).trans ?_
  simp only [List.drop_zero]
  split
  · rename_i hA
    conv => lhs; whnf
    conv => lhs; arg 1; whnf
    refine bnd_g (by exact True.intro) ?_
    conv => lhs; whnf
    refine br_c (fun h => ?_) (fun h => ?_)
    · conv => lhs; whnf
      repeat ((first | with_reducible apply br_tt | with_reducible apply br_ff | with_reducible apply br_nf | with_reducible apply br_nt | with_reducible refine br_d ?_ (by kernel_rfl) | with_reducible apply br_t h | with_reducible apply br_f h); conv => lhs; whnf)
      refine okB ?_
      unfold isCtx
      rw [h, hA, Bool.true_and, Bool.and_true]
      exact decide_eq_decide.2 (by omega)
    · conv => lhs; whnf
      repeat ((first | with_reducible apply br_tt | with_reducible apply br_ff | with_reducible apply br_nf | with_reducible apply br_nt | with_reducible refine br_d ?_ (by kernel_rfl) | with_reducible apply br_t h | with_reducible apply br_f h); conv => lhs; whnf)
      refine okB ?_
      unfold isCtx
      rw [h, Bool.false_and, Bool.false_and]
  · rename_i hA
    conv => lhs; whnf
    refine okB ?_
    unfold isCtx
    rw [Bool.not_eq_true] at hA
    rw [hA, Bool.and_false]
theorem ok_specIsContext : FnOk Tryd.prog 33 K_specIsContext := by
  refine fn_ok (fn := Tryd.f33) (k := Tryd.f33.ntmps) (E := E_specIsContext) (facts_of (List.forall_mem_cons.2 ⟨ok_specIsSet, List.forall_mem_cons.2 ⟨ok_l1In, List.forall_mem_nil _⟩⟩)) (by kernel_rfl) rfl (by decide +kernel) (by decide +kernel) ?_
  intro avs hin r h
  unfold K_specIsContext at h
  split at h
  · obtain ⟨hp, rfl⟩ := gd_o h
    exact ⟨_, ev_specIsContext _ _ hp, rfl⟩
  · cases h

/- spec.l2Sets -/
def K_l2Sets : List AV → List Ob → Option (AV × List Ob)
  | [.lst (.int .i64) a], [] => gd (a.length ≤ 1048576) (.bool (a.all (isSet 8)), [])
  | _, _ => none
@[reducible] def E_l2Sets : Env := mkE (tb [(43, K_specIsSet)]) (fun f => false) (fun r => bif r == 2 then ([0, 3], [2]) else ([], []))
theorem lp_l2Sets (a : List Int) (ha : a.length ≤ 1048576) (k : AX → S → Option (AV × List Ob)) (d : Nat) : ∀ (n i : Nat) (x : Int), a.length - i = d → i ≤ a.length → x = i → d < n →
    lpAt E_l2Sets (lp E_l2Sets 0 n) 0 (loopAt Tryd.f46 0) (mkS [0, 3] [.lst (.int .i64) a, .int .i64 x] []) k =
      if (a.drop i).all (isSet 8) then k (.exit 0) (mkS [2] [.any] []) else k .ret (mkS [2] [.bool false] []) := by
  induction d with
  | zero =>
    intro n i x hd hi hx hn
    subst hx
    rw [lpAt_def]
    conv => lhs; whnf
    refine br_f (df (by omega)) ?_
    conv => lhs; whnf
    rw [List.drop_of_length_le (by omega)]
    simp
  | succ d ih =>
    intro n i x hd hi hx hn
    obtain ⟨n, rfl⟩ : ∃ m, n = m + 1 := ⟨n - 1, by omega⟩
    subst hx
    rw [lpAt_def]
    conv => lhs; whnf
    refine br_t (dt (by omega)) ?_
    conv => lhs; whnf
    refine br_t (dt2 (by omega) (by omega)) ?_
    conv => lhs; whnf
    conv => lhs; arg 1; whnf
    refine bnd_g (by exact True.intro) ?_
    conv => lhs; whnf
    rw [getD_drop (l := a) (i := i) (d := 0) (by omega), List.all_cons]
    refine br_c (fun h => ?_) (fun h => ?_)
    · have h' : isSet 8 (a.getD i 0) = false := bnt h
      conv => lhs; whnf
      rw [h', Bool.false_and, if_neg (by simp)]
    · have h' : isSet 8 (a.getD i 0) = true := bnf h
      conv => lhs; whnf
      refine Eq.trans (ih n (i + 1) _ (by omega) (by omega) (by rw [wrap64 (n := (i : Int) + 1) (by omega) (by omega)]; simp) (by omega)) ?_
      rw [h', Bool.true_and]
theorem ev_l2Sets (a : List Int) (hp : a.length ≤ 1048576) : evF E_l2Sets (a.length + 2) Tryd.f46 [.lst (.int .i64) a] [] = some (.bool (a.all (isSet 8)), []) := by
  conv => lhs; whnf
  refine (lp_l2Sets a hp _ a.length _ 0 0 rfl (Nat.zero_le _) rfl (by omega)).trans ?_
  rw [List.drop_zero]
  split
  · rename_i h
    conv => lhs; whnf
    rw [h]
  · rename_i h
    conv => lhs; whnf
    rw [Bool.not_eq_true] at h
    rw [h]
theorem ok_l2Sets : FnOk Tryd.prog 46 K_l2Sets := by
  refine fn_ok (fn := Tryd.f46) (k := Tryd.f46.ntmps) (E := E_l2Sets) (facts_of (List.forall_mem_cons.2 ⟨ok_specIsSet, List.forall_mem_nil _⟩)) (by kernel_rfl) rfl (by decide +kernel) (by decide +kernel) ?_
  intro avs hin r h
  unfold K_l2Sets at h
  split at h
  · obtain ⟨hp, rfl⟩ := gd_o h
    exact ⟨_, ev_l2Sets _ hp, rfl⟩
  · cases h

/- spec.Join -/
def K_specJoin : List AV → List Ob → Option (AV × List Ob)
  | [.lst .str ys, .str sep], [] => gd (ys.length ≤ 1048576 ∧ okTxt ys = true ∧ sep.size ≤ 16) (.str (joinF ys sep), [])
  | _, _ => none
@[reducible] def E_specJoin : Env := mkE (tb []) (fun f => false) (fun r => bif r == 3 then ([0, 1, 5, 6], [4, 5]) else ([], []))
theorem lp_specJoin (ys : List ByteArray) (sep : ByteArray) (hl : ys.length ≤ 1048576) (hy : ∀ y ∈ ys, y.size ≤ 1048576) (hs : sep.size ≤ 16) (k : AX → S → Option (AV × List Ob)) (r : Option (AV × List Ob)) (hk : ∀ zs, k .ret (mkS [4, 5] [.str ⟨#[]⟩, .own 0] [some (.row 5 (.int .u8) zs)]) = r) (d : Nat) : ∀ (n i : Nat) (x : Int) (zs : List Int), ys.length - i = d → i ≤ ys.length → x = i → d < n → zs.length ≤ 1048576 →
    lpAt E_specJoin (lp E_specJoin 0 n) 0 (loopAt Tryd.f47 0) (mkS [0, 1, 5, 6] [.lst .str ys, .str sep, .own 0, .int .i64 x] [some (.row 5 (.int .u8) zs)]) k =
      if (zs ++ restI sep i (ys.drop i)).length ≤ 1048576 then k (.exit 0) (mkS [4, 5] [.any, .own 0] [some (.row 5 (.int .u8) (zs ++ restI sep i (ys.drop i)))]) else r := by
  induction d with
  | zero =>
    intro n i x zs hd hi hx hn hz
    subst hx
    rw [lpAt_def]
    conv => lhs; whnf
    refine br_f (df (by omega)) ?_
    conv => lhs; whnf
    rw [List.drop_of_length_le (by omega), restI, List.append_nil, if_pos hz]
  | succ d ih =>
    intro n i x zs hd hi hx hn hz
    obtain ⟨n, rfl⟩ : ∃ m, n = m + 1 := ⟨n - 1, by omega⟩
    subst hx
    have hyi := hy _ (mem_getD (l := ys) (i := i) (d := ByteArray.empty) (by omega))
    have l1 := strInts_len (ys.getD i ByteArray.empty)
    have l2 := strInts_len sep
    rw [getD_drop (l := ys) (i := i) (d := ByteArray.empty) (by omega), restI, lpAt_def]
    conv => lhs; whnf
    refine br_t (dt (by omega)) ?_
    conv => lhs; whnf
    refine br_c (fun h => ?_) (fun h => ?_)
    · have h' := ofd h
      have h' : 0 < i := by omega
      conv => lhs; whnf
      refine br_t (dt (by change (zs.length + (strInts sep).length) * 1 ≤ 140737488355328; omega)) ?_
      conv => lhs; whnf
      refine br_t (dt2 (by omega) (by omega)) ?_
      conv => lhs; whnf
      refine br_t (dt (by change ((zs ++ strInts sep).length + (strInts (ys.getD i ByteArray.empty)).length) * 1 ≤ 140737488355328; rw [List.length_append]; omega)) ?_
      conv => lhs; whnf
      rw [if_pos h']
      refine br_c (fun h2 => ?_) (fun h2 => ?_)
      · have h2' := ofd h2
        have h2' : (((zs ++ strInts sep) ++ strInts (ys.getD i ByteArray.empty)).length : Int) > 1048576 := h2'
        conv => lhs; whnf
        rw [if_neg (by simp only [List.length_append] at h2' ⊢; omega)]
        exact hk _
      · have h2' := ofn h2
        have h2' : ¬ (((zs ++ strInts sep) ++ strInts (ys.getD i ByteArray.empty)).length : Int) > 1048576 := h2'
        conv => lhs; whnf
        refine Eq.trans (ih n (i + 1) _ _ (by omega) (by omega) (by rw [wrap64 (n := (i : Int) + 1) (by omega) (by omega)]; simp) (by omega) (by omega)) ?_
        simp only [List.append_assoc]
        rfl
    · have h' := ofn h
      have h' : ¬ 0 < i := by omega
      conv => lhs; whnf
      refine br_t (dt2 (by omega) (by omega)) ?_
      conv => lhs; whnf
      refine br_t (dt (by change (zs.length + (strInts (ys.getD i ByteArray.empty)).length) * 1 ≤ 140737488355328; omega)) ?_
      conv => lhs; whnf
      rw [if_neg h', List.nil_append]
      refine br_c (fun h2 => ?_) (fun h2 => ?_)
      · have h2' := ofd h2
        have h2' : ((zs ++ strInts (ys.getD i ByteArray.empty)).length : Int) > 1048576 := h2'
        conv => lhs; whnf
        rw [if_neg (by simp only [List.length_append] at h2' ⊢; omega)]
        exact hk _
      · have h2' := ofn h2
        have h2' : ¬ ((zs ++ strInts (ys.getD i ByteArray.empty)).length : Int) > 1048576 := h2'
        conv => lhs; whnf
        refine Eq.trans (ih n (i + 1) _ _ (by omega) (by omega) (by rw [wrap64 (n := (i : Int) + 1) (by omega) (by omega)]; simp) (by omega) (by omega)) ?_
        simp only [List.append_assoc]
        rfl
theorem ev_specJoin (ys : List ByteArray) (sep : ByteArray) (hp : ys.length ≤ 1048576 ∧ okTxt ys = true ∧ sep.size ≤ 16) : evF E_specJoin (ys.length + 2) Tryd.f47 [.lst .str ys, .str sep] [] = some (.str (joinF ys sep), []) := by
  obtain ⟨h1, h2, h3⟩ := hp
  have hy := okTxt_iff.1 h2
  conv => lhs; whnf
  refine (lp_specJoin ys sep h1 hy h3 _ _ (fun zs => rfl) ys.length _ 0 0 [] rfl (Nat.zero_le _) rfl (by omega) (by simp)).trans ?_
  rw [List.nil_append, List.drop_zero, restI_len]
  unfold joinF
  split
  · conv => lhs; whnf
    rw [intsStr_join]
  · rfl
theorem ok_specJoin : FnOk Tryd.prog 47 K_specJoin := by
  refine fn_ok (fn := Tryd.f47) (k := Tryd.f47.ntmps) (E := E_specJoin) (facts_of (List.forall_mem_nil _)) (by kernel_rfl) rfl (by decide +kernel) (by decide +kernel) ?_
  intro avs hin r h
  unfold K_specJoin at h
  split at h
  · obtain ⟨hp, rfl⟩ := gd_o h
    exact ⟨_, ev_specJoin _ _ hp, rfl⟩
  · cases h

/- spec.SetsText -/
def K_specSetsText : List AV → List Ob → Option (AV × List Ob)
  | [.lst (.int .i64) a], [] => gd (a.length ≤ 1048576) (.str (setsTx a), [])
  | _, _ => none
@[reducible] def E_specSetsText : Env := mkE (tb [(46, K_l2Sets), (32, K_specSetText), (47, K_specJoin)]) (fun f => false) (fun r => bif r == 7 then ([0, 3, 4], [3]) else ([], []))
theorem lp_specSetsText (a : List Int) (ha : a.length ≤ 1048576) (k : AX → S → Option (AV × List Ob)) (d : Nat) : ∀ (n i : Nat) (x : Int) (zs : List ByteArray), a.length - i = d → i ≤ a.length → x = i → d < n → zs.length ≤ i →
    lpAt E_specSetsText (lp E_specSetsText 0 n) 0 (loopAt Tryd.f35 0) (mkS [0, 3, 4] [.lst (.int .i64) a, .own 0, .int .i64 x] [some (.row 9 .str zs)]) k =
      k (.exit 0) (mkS [3] [.own 0] [some (.row 9 .str (zs ++ (a.drop i).map setTx))]) := by
  induction d with
  | zero =>
    intro n i x zs hd hi hx hn hz
    subst hx
    rw [lpAt_def]
    conv => lhs; whnf
    refine br_f (df (by omega)) ?_
    conv => lhs; whnf
    rw [List.drop_of_length_le (by omega)]
    simp
  | succ d ih =>
    intro n i x zs hd hi hx hn hz
    obtain ⟨n, rfl⟩ : ∃ m, n = m + 1 := ⟨n - 1, by omega⟩
    subst hx
    rw [lpAt_def]
    conv => lhs; whnf
    refine br_t (dt (by omega)) ?_
    conv => lhs; whnf
    refine br_t (dt2 (by omega) (by omega)) ?_
    conv => lhs; whnf
    conv => lhs; arg 1; whnf
    refine bnd_g (by exact True.intro) ?_
    conv => lhs; whnf
    refine br_t (dt (by simp [room]; omega)) ?_
    conv => lhs; whnf
    repeat ((first | with_reducible apply br_tt | with_reducible apply br_ff | with_reducible apply br_nf | with_reducible apply br_nt | with_reducible refine br_d ?_ (by kernel_rfl)); conv => lhs; whnf)
    rw [getD_drop (l := a) (i := i) (d := 0) (by omega), List.map_cons]
    refine Eq.trans (ih n (i + 1) _ _ (by omega) (by omega) (by rw [wrap64 (n := (i : Int) + 1) (by omega) (by omega)]; simp) (by omega) (by simp; omega)) ?_
    simp only [List.append_assoc]
    rfl
theorem ev_specSetsText (a : List Int) (hp : a.length ≤ 1048576) : evF E_specSetsText (a.length + 2) Tryd.f35 [.lst (.int .i64) a] [] = some (.str (setsTx a), []) := by
  have hlen : (a.map setTx).length = a.length := List.length_map _
  unfold setsTx
  conv => lhs; whnf
  conv => lhs; arg 1; whnf
  refine bnd_g (by exact hp) ?_
  conv => lhs; whnf
  refine br_c (fun h => ?_) (fun h => ?_)
  · rw [bnt h]
    conv => lhs; whnf
    rfl
  · rw [bnf h]
    conv => lhs; whnf
    refine br_c (fun h2 => ?_) (fun h2 => ?_)
    · have h' : ((a.length : Int) == 0) = true := h2
      rw [h']
      conv => lhs; whnf
      rfl
    · have h' : ((a.length : Int) == 0) = false := h2
      rw [h']
      conv => lhs; whnf
      refine (lp_specSetsText a hp _ a.length _ 0 0 [] rfl (Nat.zero_le _) rfl (by omega) (by simp)).trans ?_
      rw [List.drop_zero, List.nil_append]
      conv => lhs; whnf
      conv => lhs; arg 1; whnf
      refine bnd_g (by exact ⟨by omega, setTx_ok a, by decide⟩) ?_
      conv => lhs; whnf
      rfl
theorem ok_specSetsText : FnOk Tryd.prog 35 K_specSetsText := by
  refine fn_ok (fn := Tryd.f35) (k := Tryd.f35.ntmps) (E := E_specSetsText) (facts_of (List.forall_mem_cons.2 ⟨ok_l2Sets, List.forall_mem_cons.2 ⟨ok_specSetText, List.forall_mem_cons.2 ⟨ok_specJoin, List.forall_mem_nil _⟩⟩⟩)) (by kernel_rfl) rfl (by decide +kernel) (by decide +kernel) ?_
  intro avs hin r h
  unfold K_specSetsText at h
  split at h
  · obtain ⟨hp, rfl⟩ := gd_o h
    exact ⟨_, ev_specSetsText _ hp, rfl⟩
  · cases h

/- spec.ContextText -/
def K_specContextText : List AV → List Ob → Option (AV × List Ob)
  | [.agg [.int .i64 m, .lst (.int .i64) a]], [] => gd (a.length ≤ 1048576) (.str (ctxTx m a), [])
  | _, _ => none
@[reducible] def E_specContextText : Env := mkE (tb [(33, K_specIsContext), (34, K_specFormatInt), (35, K_specSetsText)]) (fun f => false) (fun r => ([], []))
theorem ev_specContextText (m : Int) (a : List Int) (hp : a.length ≤ 1048576) : evF E_specContextText (1) Tryd.f21 [.agg [.int .i64 m, .lst (.int .i64) a]] [] = some (.str (ctxTx m a), []) := by
  conv => lhs; whnf
  conv => lhs; arg 1; whnf
  refine bnd_g (by omega) ?_
  conv => lhs; whnf
  refine br_c (fun h => ?_) (fun h => ?_)
  · have e : ctxTx m a = ⟨#[]⟩ := by unfold ctxTx; rw [bnt h]; rfl
    conv => rhs; rw [e]
    conv => lhs; whnf
  · have h' := bnf h
    have hl := isCtx_len h'
    have e : ctxTx m a = (itoaB m ++ ⟨#[32]⟩) ++ setsTx a := by unfold ctxTx; rw [h']; rfl
    have s1 := itoa_len (n := m) (by omega) (by omega)
    have s2 := setsTx_size a
    have s3 : (itoaB m ++ (⟨#[32]⟩ : ByteArray)).size ≤ 30 := by
      rw [ByteArray.size_append]
      have : (⟨#[32]⟩ : ByteArray).size = 1 := rfl
      omega
    conv => rhs; rw [e]
    conv => lhs; whnf
    conv => lhs; arg 1; whnf
    refine bnd_g (by exact ⟨by omega, by omega⟩) ?_
    conv => lhs; whnf
    refine br_t (dt (by have : (⟨#[32]⟩ : ByteArray).size = 1 := rfl; omega)) ?_
    conv => lhs; whnf
    conv => lhs; arg 1; whnf
    refine bnd_g (by omega) ?_
    conv => lhs; whnf
    refine br_t (dt (by omega)) ?_
    conv => lhs; whnf
    refine br_t (by kernel_rfl) ?_
    conv => lhs; whnf
    all_goals rfl
theorem ok_specContextText : FnOk Tryd.prog 21 K_specContextText := by
  refine fn_ok (fn := Tryd.f21) (k := Tryd.f21.ntmps) (E := E_specContextText) (facts_of (List.forall_mem_cons.2 ⟨ok_specIsContext, List.forall_mem_cons.2 ⟨ok_specFormatInt, List.forall_mem_cons.2 ⟨ok_specSetsText, List.forall_mem_nil _⟩⟩⟩)) (by kernel_rfl) rfl (by decide +kernel) (by decide +kernel) ?_
  intro avs hin r h
  unfold K_specContextText at h
  split at h
  · obtain ⟨hp, rfl⟩ := gd_o h
    exact ⟨_, ev_specContextText _ _ hp, rfl⟩
  · cases h

/- spec.ParseContext -/
def K_specParseContext : List AV → List Ob → Option (AV × List Ob)
  | [.str t], [] => gd (t.size ≤ 900 ∧ (okCS t || decide ((splB t 32).length ≠ 2)) = true) (.tup [.agg [.int .i64 (pcS t).1, .own 0], .bool (pcS t).2.2], [.row 3 (.int .i64) (pcS t).2.1])
  | _, _ => none
@[reducible] def E_specParseContext : Env := mkE (tb [(18, K_specSplit), (19, K_specParseInt), (20, K_specParseSet), (21, K_specContextText)]) (fun f => false) (fun r => bif r == 8 then ([0, 2, 4, 6, 7, 8, 9], [0, 2, 3, 6, 7]) else ([], []))
theorem lp_specParseContext (t : ByteArray) (m : Int) (ws ps : List ByteArray) (hw : ws.length = 2) (hn : ((ws.getD 1 ByteArray.empty).toList == noneB.toList) = false) (hp : ps.length ≤ 2000) (hps : ∀ p ∈ ps, p.size ≤ 1000 ∧ okP p = true) (k : AX → S → Option (AV × List Ob)) (d : Nat) : ∀ (n i : Nat) (x : Int) (zs : List Int), ps.length - i = d → i ≤ ps.length → x = i → d < n → zs.length ≤ i →
    lpAt E_specParseContext (lp E_specParseContext 0 n) 0 (loopAt Tryd.f9 0) (mkS [0, 2, 4, 6, 7, 8, 9] [.str t, .ptr 0 0, .own 2, .bool true, .ptr 3 0, .own 5, .int .i64 x] [some (.box 24 [.int .i64 0, .own 1]), some (.row 3 (.int .i64) []), some (.row 9 .str ws), some (.box 24 [.int .i64 m, .own 4]), some (.row 3 (.int .i64) zs), some (.row 9 .str ps)]) k =
      k (.exit 0) (mkS [0, 2, 3, 6, 7] [.str t, .ptr 0 0, .any, .bool true, .ptr 2 0] [some (.box 24 [.int .i64 0, .own 1]), some (.row 3 (.int .i64) []), some (.box 24 [.int .i64 m, .own 3]), some (.row 3 (.int .i64) (zs ++ (ps.drop i).map psS))]) := by
  have hn2 : (!((ws.getD (Int.toNat 1) ByteArray.empty).toList == (⟨#[110, 111, 110, 101]⟩ : ByteArray).toList)) = true := by
    have h : (!((ws.getD 1 ByteArray.empty).toList == noneB.toList)) = true := by rw [hn]; rfl
    exact h
  induction d with
  | zero =>
    intro n i x zs hd hi hx hn' hz
    subst hx
    have h0 : decide ((i : Int) < (ps.length : Int)) = false := df (by omega)
    rw [lpAt_def]
    conv => lhs; whnf
    repeat ((first | with_reducible apply br_tt | with_reducible apply br_ff | with_reducible apply br_nf | with_reducible apply br_nt | with_reducible refine br_d ?_ (by kernel_rfl) | with_reducible apply br_t h0 | with_reducible apply br_f h0); conv => lhs; whnf)
    rw [List.drop_of_length_le (by omega), List.map_nil, List.append_nil]
  | succ d ih =>
    intro n i x zs hd hi hx hn' hz
    obtain ⟨n, rfl⟩ : ∃ m, n = m + 1 := ⟨n - 1, by omega⟩
    subst hx
    have h0 : decide ((i : Int) < (ps.length : Int)) = true := dt (by omega)
    have hpi := hps _ (mem_getD (d := ByteArray.empty) (show i < ps.length by omega))
    rw [lpAt_def]
    conv => lhs; whnf
    repeat ((first | with_reducible apply br_tt | with_reducible apply br_ff | with_reducible apply br_nf | with_reducible apply br_nt | with_reducible refine br_d ?_ (by kernel_rfl) | with_reducible apply br_t h0 | with_reducible apply br_f h0 | with_reducible apply br_t hn2 | with_reducible apply br_f hn2 | with_reducible refine br_t (dt2 (by omega) (by omega)) ?_ | with_reducible refine br_t (dt (by omega)) ?_); conv => lhs; whnf)
    refine br_t (by exact hn2) ?_
    conv => lhs; whnf
    repeat ((first | with_reducible apply br_tt | with_reducible apply br_ff | with_reducible apply br_nf | with_reducible apply br_nt | with_reducible refine br_d ?_ (by kernel_rfl) | with_reducible refine br_t (dt2 (by omega) (by omega)) ?_ | with_reducible refine br_t (dt (by omega)) ?_); conv => lhs; whnf)
    conv => lhs; arg 1; whnf
    refine bnd_g (by exact hpi) ?_
    conv => lhs; whnf
    repeat ((first | with_reducible apply br_tt | with_reducible apply br_ff | with_reducible apply br_nf | with_reducible apply br_nt | with_reducible refine br_d ?_ (by kernel_rfl) | with_reducible refine br_t (dt2 (by omega) (by omega)) ?_ | with_reducible refine br_t (dt (by omega)) ?_); conv => lhs; whnf)
    refine br_t (dt (by simp [room]; omega)) ?_
    conv => lhs; whnf
    refine (ih n (i + 1) (IntKind.i64.wrap ((i : Int) + 1)) _ (by omega) (by omega) (by rw [wrap64 (n := (i : Int) + 1) (by omega) (by omega)]; simp) (by omega) (by simp; omega)).trans ?_
    rw [getD_drop (l := ps) (i := i) (d := ByteArray.empty) (by omega), List.map_cons]
    simp only [List.append_assoc]
    rfl
theorem l0_specParseContext (t : ByteArray) (m : Int) (ws ps : List ByteArray) (hw : ws.length = 2) (hn : ((ws.getD 1 ByteArray.empty).toList == noneB.toList) = true) (hp : 0 < ps.length) (k : AX → S → Option (AV × List Ob)) (n : Nat) :
    lpAt E_specParseContext (lp E_specParseContext 0 (n + 1)) 0 (loopAt Tryd.f9 0) (mkS [0, 2, 4, 6, 7, 8, 9] [.str t, .ptr 0 0, .own 2, .bool true, .ptr 3 0, .own 5, .int .i64 0] [some (.box 24 [.int .i64 0, .own 1]), some (.row 3 (.int .i64) []), some (.row 9 .str ws), some (.box 24 [.int .i64 m, .own 4]), some (.row 3 (.int .i64) []), some (.row 9 .str ps)]) k =
      k (.exit 0) (mkS [0, 2, 3, 6, 7] [.str t, .ptr 0 0, .any, .bool true, .ptr 2 0] [some (.box 24 [.int .i64 0, .own 1]), some (.row 3 (.int .i64) []), some (.box 24 [.int .i64 m, .own 3]), some (.row 3 (.int .i64) [])]) := by
  have hn2 : (!((ws.getD (Int.toNat 1) ByteArray.empty).toList == (⟨#[110, 111, 110, 101]⟩ : ByteArray).toList)) = false := by
    have h : (!((ws.getD 1 ByteArray.empty).toList == noneB.toList)) = false := by rw [hn]; rfl
    exact h
  have h0 : decide ((0 : Int) < (ps.length : Int)) = true := dt (by omega)
  rw [lpAt_def]
  conv => lhs; whnf
  repeat ((first | with_reducible apply br_tt | with_reducible apply br_ff | with_reducible apply br_nf | with_reducible apply br_nt | with_reducible refine br_d ?_ (by kernel_rfl) | with_reducible apply br_t h0 | with_reducible apply br_f h0 | with_reducible refine br_t (dt2 (by omega) (by omega)) ?_ | with_reducible refine br_t (dt (by omega)) ?_); conv => lhs; whnf)
  refine br_f (by exact hn2) ?_
  conv => lhs; whnf
theorem ev_specParseContext (t : ByteArray) (hp : t.size ≤ 900 ∧ (okCS t || decide ((splB t 32).length ≠ 2)) = true) : evF E_specParseContext (2100) Tryd.f9 [.str t] [] = some (.tup [.agg [.int .i64 (pcS t).1, .own 0], .bool (pcS t).2.2], [.row 3 (.int .i64) (pcS t).2.1]) := by
  have hp1 := hp.1
  refine Or.elim (Classical.em (okCS t = true)) (fun hk => ?_) (fun hk => ?_)
  · have hk' := hk
    unfold okCS at hk'
    have q1 := Bool.and_eq_true_iff.1 hk'
    have q2 := Bool.and_eq_true_iff.1 q1.1
    have q3 := Bool.and_eq_true_iff.1 q1.2
    have q4 := Bool.and_eq_true_iff.1 q3.2
    have h2 : (splB t 32).length = 2 := of_decide_eq_true q2.1
    have hd := q2.2
    have hc := isCtx_len q4.1
    have ht : (!((ctxTx (byteN (wd t 0) 0 - 48) (rowsS t)).toList == t.toList)) = false := by rw [q4.2]; rfl
    have e : pcS t = (byteN (wd t 0) 0 - 48, rowsS t, true) := by unfold pcS; rw [hk]; rfl
    have hl2 : (!(((splB t 32).length : Int) == 2)) = false := by rw [h2]; rfl
    have hs1 : (wd t 1).size ≤ t.size := splB_size (c := 32) (mem_getD (by omega))
    have hpl := splS_len (wd t 1) 44 ((wd t 1).size + 1) 0 0
    have hpl' : (splB (wd t 1) 44).length ≤ (wd t 1).size + 1 := hpl
    have hpp : 0 < (splB (wd t 1) 44).length := splS_pos (wd t 1) 44 _ 0 0 (by omega) (by omega)
    conv => rhs; rw [e]
    conv => lhs; whnf
    conv => lhs; arg 1; whnf
    refine bnd_g (by omega) ?_
    conv => lhs; whnf
    refine br_f (by exact hl2) ?_
    conv => lhs; whnf
    repeat ((first | with_reducible apply br_tt | with_reducible apply br_ff | with_reducible apply br_nf | with_reducible apply br_nt | with_reducible refine br_d ?_ (by kernel_rfl) | with_reducible refine br_t (dt2 (by omega) (by omega)) ?_ | with_reducible refine br_t (dt (by omega)) ?_); conv => lhs; whnf)
    conv => lhs; arg 1; whnf
    refine bnd_g (by exact hd) ?_
    conv => lhs; whnf
    repeat ((first | with_reducible apply br_tt | with_reducible apply br_ff | with_reducible apply br_nf | with_reducible apply br_nt | with_reducible refine br_d ?_ (by kernel_rfl) | with_reducible refine br_t (dt2 (by omega) (by omega)) ?_ | with_reducible refine br_t (dt (by omega)) ?_); conv => lhs; whnf)
    conv => lhs; arg 1; whnf
    refine bnd_g (by (have := hs1; unfold wd at this; exact Nat.le_trans this (by omega))) ?_
    conv => lhs; whnf
    refine Or.elim (Classical.em (((wd t 1).toList == noneB.toList) = true)) (fun hnn => ?_) (fun hnn => ?_)
    · have er : rowsS t = [] := by unfold rowsS; rw [hnn]; rfl
      rw [er] at ht
      conv => rhs; rw [er]
      refine (l0_specParseContext t (byteN (wd t 0) 0 - 48) (splB t 32) (splB (wd t 1) 44) h2 hnn hpp _ 2098).trans ?_
      conv => lhs; whnf
      repeat ((first | with_reducible apply br_tt | with_reducible apply br_ff | with_reducible apply br_nf | with_reducible apply br_nt | with_reducible refine br_d ?_ (by kernel_rfl)); conv => lhs; whnf)
      conv => lhs; arg 1; whnf
      refine bnd_g (by simp) ?_
      conv => lhs; whnf
      repeat ((first | with_reducible apply br_tt | with_reducible apply br_ff | with_reducible apply br_nf | with_reducible apply br_nt | with_reducible refine br_d ?_ (by kernel_rfl)); conv => lhs; whnf)
      refine br_f (by exact ht) ?_
      conv => lhs; whnf
      repeat ((first | with_reducible apply br_tt | with_reducible apply br_ff | with_reducible apply br_nf | with_reducible apply br_nt | with_reducible refine br_d ?_ (by kernel_rfl)); conv => lhs; whnf)
    · have hnf : ((wd t 1).toList == noneB.toList) = false := by simpa using hnn
      have er : rowsS t = (splB (wd t 1) 44).map psS := by unfold rowsS; rw [hnf, cond_false]
      have hall : ∀ p ∈ splB (wd t 1) 44, p.size ≤ 1000 ∧ okP p = true := fun p hp => by
        have g1 := splB_size hp
        have g2 := q3.1
        rw [hnf, Bool.false_or] at g2
        exact ⟨by omega, List.all_eq_true.1 g2 p hp⟩
      rw [er] at ht
      conv => rhs; rw [er]
      refine (lp_specParseContext t (byteN (wd t 0) 0 - 48) (splB t 32) (splB (wd t 1) 44) h2 hnf (by omega) hall _ (splB (wd t 1) 44).length _ 0 0 [] rfl (by omega) rfl (by change _ < 2099; omega) (by simp)).trans ?_
      rw [List.drop_zero, List.nil_append]
      conv => lhs; whnf
      repeat ((first | with_reducible apply br_tt | with_reducible apply br_ff | with_reducible apply br_nf | with_reducible apply br_nt | with_reducible refine br_d ?_ (by kernel_rfl)); conv => lhs; whnf)
      conv => lhs; arg 1; whnf
      refine bnd_g (by (rw [List.length_map]; omega)) ?_
      conv => lhs; whnf
      repeat ((first | with_reducible apply br_tt | with_reducible apply br_ff | with_reducible apply br_nf | with_reducible apply br_nt | with_reducible refine br_d ?_ (by kernel_rfl)); conv => lhs; whnf)
      refine br_f (by exact ht) ?_
      conv => lhs; whnf
      repeat ((first | with_reducible apply br_tt | with_reducible apply br_ff | with_reducible apply br_nf | with_reducible apply br_nt | with_reducible refine br_d ?_ (by kernel_rfl)); conv => lhs; whnf)
  · have hk0 : okCS t = false := by simpa using hk
    have hl : (splB t 32).length ≠ 2 := by
      have := hp.2
      rw [hk0, Bool.false_or] at this
      exact of_decide_eq_true this
    have hl2 : (!(((splB t 32).length : Int) == 2)) = true := by
      rw [Bool.not_eq_true', ← Bool.not_eq_true, beq_iff_eq]
      omega
    have e : pcS t = (0, [], false) := by unfold pcS; rw [hk0]; rfl
    conv => rhs; rw [e]
    conv => lhs; whnf
    conv => lhs; arg 1; whnf
    refine bnd_g (by omega) ?_
    conv => lhs; whnf
    refine br_t (by exact hl2) ?_
    conv => lhs; whnf
theorem ok_specParseContext : FnOk Tryd.prog 9 K_specParseContext := by
  refine fn_ok (fn := Tryd.f9) (k := Tryd.f9.ntmps) (E := E_specParseContext) (facts_of (List.forall_mem_cons.2 ⟨ok_specSplit, List.forall_mem_cons.2 ⟨ok_specParseInt, List.forall_mem_cons.2 ⟨ok_specParseSet, List.forall_mem_cons.2 ⟨ok_specContextText, List.forall_mem_nil _⟩⟩⟩⟩)) (by kernel_rfl) rfl (by decide +kernel) (by decide +kernel) ?_
  intro avs hin r h
  unfold K_specParseContext at h
  split at h
  · obtain ⟨hp, rfl⟩ := gd_o h
    exact ⟨_, ev_specParseContext _ hp, rfl⟩
  · cases h

end Go.Sym
