/- Functions of the program, each told as a plain equation. -/
import Derived.Test.YtonbmmjagdbgaaaGreatDoorSymHWB
namespace Go.Sym
open Go.Proofs
set_option linter.unusedVariables false
set_option linter.unusedSimpArgs false
set_option maxRecDepth 100000
set_option maxHeartbeats 4000000

/-- From here on the count of draws is not told. -/
instance softDm : Dm := ⟨False⟩
def abcB : ByteArray := ⟨#[97, 98, 99, 100, 101, 102, 103, 104]⟩
theorem abc_size (l h : Nat) : (abcB.extract l h).size ≤ 8 := by
  rw [ByteArray.size_extract]
  have : abcB.size = 8 := rfl
  omega
def addTx : List Int → ByteArray → ByteArray
  | [], acc => acc
  | e :: r, acc => addTx r (acc ++ abcB.extract e.toNat (IntKind.i64.wrap (e + 1)).toNat)
theorem addTx_size : ∀ (es : List Int) (acc : ByteArray), (addTx es acc).size ≤ acc.size + 8 * es.length
  | [], acc => by simp [addTx]
  | e :: r, acc => by
    have h := addTx_size r (acc ++ abcB.extract e.toNat (IntKind.i64.wrap (e + 1)).toNat)
    have h2 := abc_size e.toNat (IntKind.i64.wrap (e + 1)).toNat
    rw [ByteArray.size_append] at h
    rw [addTx, List.length_cons]
    omega
def setTx (s : Int) : ByteArray := bif isSet 8 s then (bif s == 0 then ⟨#[45]⟩ else addTx (elemsF s) ⟨#[]⟩) else ⟨#[]⟩
theorem setTx_size (s : Int) : (setTx s).size ≤ 64 := by
  unfold setTx
  cases isSet 8 s
  · exact Nat.zero_le _
  · rw [cond_true]
    cases s == 0
    · rw [cond_false]
      have h := addTx_size (elemsF s) ⟨#[]⟩
      have h2 : (elemsF s).length ≤ 8 := elemsL_length _ _ _
      have h3 : (⟨#[]⟩ : ByteArray).size = 0 := rfl
      omega
    · rw [cond_true]; decide
def setsTx (a : List Int) : ByteArray := bif a.all (isSet 8) then (bif (a.length : Int) == 0 then ⟨#[110, 111, 110, 101]⟩ else joinF (a.map setTx) ⟨#[44]⟩) else ⟨#[]⟩
theorem elems_rng {s e : Int} (h : e ∈ elemsF s) : 0 ≤ e ∧ e ≤ 7 := by
  obtain ⟨j, h1, h2, h3, h4⟩ := elemsL_mem s e 8 0 h
  omega
theorem abc_slice {e : Int} (h : 0 ≤ e ∧ e ≤ 7) : (decide (0 ≤ e) && (decide (e ≤ IntKind.i64.wrap (e + 1)) && decide (IntKind.i64.wrap (e + 1) ≤ 8))) = true := by
  rw [wrap64 (by omega) (by omega), dt h.1, dt (show e ≤ e + 1 by omega), dt (show e + 1 ≤ 8 by omega)]
  rfl
def okTxt (ys : List ByteArray) : Bool := ys.all (fun y => decide (y.size ≤ 1048576))
theorem okTxt_iff {ys : List ByteArray} : okTxt ys = true ↔ ∀ y ∈ ys, y.size ≤ 1048576 := by
  unfold okTxt
  simp only [List.all_eq_true, decide_eq_true_eq]
theorem strInts_len (s : ByteArray) : (strInts s).length = s.size := by
  unfold strInts
  rw [List.length_map, Array.length_toList]
  rfl
def ruleTx (r : Int × Int) : ByteArray := (setTx r.1 ++ ⟨#[62]⟩) ++ setTx r.2
def okRs (rs : List (Int × Int)) : Bool := rs.all (fun r => isSet 8 r.1 && isSet 8 r.2)
def rulesT (rs : List (Int × Int)) : ByteArray := bif (rs.length : Int) == 0 then ⟨#[110, 111, 110, 101]⟩ else joinF (rs.map ruleTx) ⟨#[32]⟩
theorem ruleTx_size (r : Int × Int) : 1 ≤ (ruleTx r).size ∧ (ruleTx r).size ≤ 129 := by
  have h1 := setTx_size r.1
  have h2 := setTx_size r.2
  unfold ruleTx
  rw [ByteArray.size_append, ByteArray.size_append]
  have : (⟨#[62]⟩ : ByteArray).size = 1 := rfl
  omega
theorem rules_ok {rs : List (Int × Int)} : okTxt (rs.map ruleTx) = true := by
  rw [okTxt_iff]
  intro y hy
  obtain ⟨r, _, rfl⟩ := List.mem_map.1 hy
  have := ruleTx_size r
  omega
theorem rulesT_size {rs : List (Int × Int)} (h : rs.length ≤ 64) : (rulesT rs).size ≤ 10000 := by
  unfold rulesT
  cases (rs.length : Int) == 0
  · rw [cond_false]
    unfold joinF
    split
    · have h1 := join_size (rs.map ruleTx) ⟨#[32]⟩
      have h2 := lenS_le 129 (rs.map ruleTx) (max (((rs.map ruleTx).length : Int) - 1) 0 * (((⟨#[32]⟩ : ByteArray).size : Nat) : Int)) fun y hy => by
        obtain ⟨r, _, rfl⟩ := List.mem_map.1 hy
        exact (ruleTx_size r).2
      rw [List.length_map] at h1 h2
      have h3 : (((⟨#[32]⟩ : ByteArray).size : Nat) : Int) = 1 := rfl
      rw [h3] at h1 h2
      omega
    · exact Nat.zero_le _
  · rw [cond_true]; decide
theorem rule_ne (r : Int × Int) : ((ruleTx r).toList == (⟨#[]⟩ : ByteArray).toList) = false := by
  have h := (ruleTx_size r).1
  rw [ByteArray.toList_eq, ByteArray.toList_eq]
  have h2 : (ruleTx r).data.toList.length = (ruleTx r).size := rfl
  cases hl : (ruleTx r).data.toList
  · rw [hl] at h2
    simp at h2
    omega
  · rfl
/- impl.areAnyRules$1 -/
def K_anyRules1 : List AV → List Ob → Option (AV × List Ob)
  | [.agg [.int .i64 p, .int .i64 q]], [] => gd (True) (.bool (badR (p, q)), [])
  | _, _ => none
@[reducible] def E_anyRules1 : Env := mkE (tb [(182, K_isAnySet)]) (fun f => false) (fun r => ([], []))
theorem ev_anyRules1 (p q : Int) (hp : True) : evF E_anyRules1 (1) Tryz.f181 [.agg [.int .i64 p, .int .i64 q]] [] = some (.bool (badR (p, q)), []) := by
  conv => lhs; whnf
  conv => lhs; arg 1; whnf
  refine bnd_g (by exact True.intro) ?_
  conv => lhs; whnf
  refine br_c (fun h => ?_) (fun h => ?_)
  · conv => lhs; whnf
    repeat ((first | with_reducible apply br_tt | with_reducible apply br_ff | with_reducible apply br_nf | with_reducible apply br_nt | with_reducible refine br_d ?_ (by kernel_rfl) | with_reducible apply br_t h | with_reducible apply br_f h); conv => lhs; whnf)
    simp at h
    simp [badR, h]
  · conv => lhs; whnf
    repeat ((first | with_reducible apply br_tt | with_reducible apply br_ff | with_reducible apply br_nf | with_reducible apply br_nt | with_reducible refine br_d ?_ (by kernel_rfl) | with_reducible apply br_t h | with_reducible apply br_f h); conv => lhs; whnf)
    conv => lhs; arg 1; whnf
    refine bnd_g (by exact True.intro) ?_
    conv => lhs; whnf
    repeat ((first | with_reducible apply br_tt | with_reducible apply br_ff | with_reducible apply br_nf | with_reducible apply br_nt | with_reducible refine br_d ?_ (by kernel_rfl) | with_reducible apply br_t h | with_reducible apply br_f h); conv => lhs; whnf)
    simp at h
    simp [badR, h]
theorem ok_anyRules1 : FnOk Tryz.prog 181 K_anyRules1 := by
  refine fn_ok (fn := Tryz.f181) (k := Tryz.f181.ntmps) (E := E_anyRules1) (facts_of (List.forall_mem_cons.2 ⟨(FnOk.soft (fun h => False.elim h) ok_isAnySet), List.forall_mem_nil _⟩)) (by kernel_rfl) rfl (by decide +kernel) (by decide +kernel) ?_
  intro avs hin r h
  unfold K_anyRules1 at h
  split at h
  · obtain ⟨hp, rfl⟩ := gd_o h
    exact ⟨_, ev_anyRules1 _ _ hp, rfl⟩
  · cases h

/- slices.IndexFunc[[]loop.example/g00596/impl.Rule,loop.example/g00596/impl.Rule] -/
def K_indexRule : List AV → List Ob → Option (AV × List Ob)
  | [.lst (.pair (.int .i64) (.int .i64)) a, .clo 181 []], [] => gd (a.length < 4611686018427387904) (.int .i64 (firstI badR a 0), [])
  | _, _ => none
@[reducible] def E_indexRule : Env := mkE (tb [(181, K_anyRules1)]) (fun f => false) (fun r => bif r == 2 then ([0, 1, 7, 8], [4]) else ([], []))
theorem lp_indexRule (a : List (Int × Int)) (ha : a.length < 4611686018427387904) (k : AX → S → Option (AV × List Ob)) (d : Nat) : ∀ (n i : Nat) (x : Int), a.length - i = d → i ≤ a.length → x = i → d < n →
    lpAt E_indexRule (lp E_indexRule 0 n) 0 (loopAt Tryz.f218 0) (mkS [0, 1, 7, 8] [.lst (.pair (.int .i64) (.int .i64)) a, .clo 181 [], .int .i64 a.length, .int .i64 x] []) k =
      if (a.drop i).any badR then k .ret (mkS [4] [.int .i64 (firstI badR (a.drop i) i)] []) else k (.exit 0) (mkS [4] [.any] []) := by
  induction d with
  | zero =>
    intro n i x hd hi hx hn
    subst hx
    rw [lpAt_def]
    conv => lhs; whnf
    refine br_f (df (by omega)) ?_
    conv => lhs; whnf
    rw [List.drop_of_length_le (by omega)]
    simp
  | succ d ih =>
    intro n i x hd hi hx hn
    obtain ⟨n, rfl⟩ : ∃ m, n = m + 1 := ⟨n - 1, by omega⟩
    subst hx
    rw [lpAt_def]
    conv => lhs; whnf
    refine br_t (dt (by omega)) ?_
    conv => lhs; whnf
    refine br_t (dt2 (by omega) (by omega)) ?_
    conv => lhs; whnf
    conv => lhs; arg 1; whnf
    refine bnd_g (by exact True.intro) ?_
    conv => lhs; whnf
    rw [getD_drop (l := a) (i := i) (d := (0, 0)) (by omega)]
    refine br_c (fun h => ?_) (fun h => ?_)
    · have h' : badR (a.getD i (0, 0)) = true := h
      conv => lhs; whnf
      rw [if_pos (by simp only [List.any_cons, h', Bool.true_or])]
      simp only [firstI, h', cond_true]
    · have h' : badR (a.getD i (0, 0)) = false := h
      conv => lhs; whnf
      rw [ih n (i + 1) _ (by omega) (by omega) (by rw [wrap64 (by omega) (by omega)]; simp) (by omega)]
      simp only [List.any_cons, h', Bool.false_or, firstI, cond_false]
      rfl
theorem ev_indexRule (a : List (Int × Int)) (hp : a.length < 4611686018427387904) : evF E_indexRule (a.length + 2) Tryz.f218 [.lst (.pair (.int .i64) (.int .i64)) a, .clo 181 []] [] = some (.int .i64 (firstI badR a 0), []) := by
  conv => lhs; whnf
  refine (lp_indexRule a hp _ a.length _ 0 0 rfl (by omega) rfl (by omega)).trans ?_
  simp only [List.drop_zero]
  split
  · conv => lhs; whnf
    rfl
  · rename_i he
    conv => lhs; whnf
    have : firstI badR a 0 = -1 := firstI_none badR a 0 (by simpa using he)
    rw [this]
theorem ok_indexRule : FnOk Tryz.prog 218 K_indexRule := by
  refine fn_ok (fn := Tryz.f218) (k := Tryz.f218.ntmps) (E := E_indexRule) (facts_of (List.forall_mem_cons.2 ⟨ok_anyRules1, List.forall_mem_nil _⟩)) (by kernel_rfl) rfl (by decide +kernel) (by decide +kernel) ?_
  intro avs hin r h
  unfold K_indexRule at h
  split at h
  · obtain ⟨hp, rfl⟩ := gd_o h
    exact ⟨_, ev_indexRule _ hp, rfl⟩
  · cases h

/- slices.ContainsFunc[[]loop.example/g00596/impl.Rule,loop.example/g00596/impl.Rule] -/
def K_containsRule : List AV → List Ob → Option (AV × List Ob)
  | [.lst (.pair (.int .i64) (.int .i64)) a, .clo 181 []], [] => gd (a.length < 4611686018427387904) (.bool (a.any badR), [])
  | _, _ => none
@[reducible] def E_containsRule : Env := mkE (tb [(218, K_indexRule)]) (fun f => false) (fun r => ([], []))
theorem ev_containsRule (a : List (Int × Int)) (hp : a.length < 4611686018427387904) : evF E_containsRule (1) Tryz.f180 [.lst (.pair (.int .i64) (.int .i64)) a, .clo 181 []] [] = some (.bool (a.any badR), []) := by
  conv => lhs; whnf
  conv => lhs; arg 1; whnf
  refine bnd_g (by exact hp) ?_
  conv => lhs; whnf
  refine okB ?_
  exact firstI_iff badR a 0 (by omega)
theorem ok_containsRule : FnOk Tryz.prog 180 K_containsRule := by
  refine fn_ok (fn := Tryz.f180) (k := Tryz.f180.ntmps) (E := E_containsRule) (facts_of (List.forall_mem_cons.2 ⟨ok_indexRule, List.forall_mem_nil _⟩)) (by kernel_rfl) rfl (by decide +kernel) (by decide +kernel) ?_
  intro avs hin r h
  unfold K_containsRule at h
  split at h
  · obtain ⟨hp, rfl⟩ := gd_o h
    exact ⟨_, ev_containsRule _ hp, rfl⟩
  · cases h

/- impl.areAnyRules -/
def K_areAnyRules : List AV → List Ob → Option (AV × List Ob)
  | [.lst (.pair (.int .i64) (.int .i64)) a], [] => gd (a.length < 4611686018427387904) (.bool (!a.any badR), [])
  | _, _ => none
@[reducible] def E_areAnyRules : Env := mkE (tb [(180, K_containsRule)]) (fun f => false) (fun r => ([], []))
theorem ev_areAnyRules (a : List (Int × Int)) (hp : a.length < 4611686018427387904) : evF E_areAnyRules (1) Tryz.f132 [.lst (.pair (.int .i64) (.int .i64)) a] [] = some (.bool (!a.any badR), []) := by
  conv => lhs; whnf
  conv => lhs; arg 1; whnf
  refine bnd_g (by exact hp) ?_
  conv => lhs; whnf
theorem ok_areAnyRules : FnOk Tryz.prog 132 K_areAnyRules := by
  refine fn_ok (fn := Tryz.f132) (k := Tryz.f132.ntmps) (E := E_areAnyRules) (facts_of (List.forall_mem_cons.2 ⟨ok_containsRule, List.forall_mem_nil _⟩)) (by kernel_rfl) rfl (by decide +kernel) (by decide +kernel) ?_
  intro avs hin r h
  unfold K_areAnyRules at h
  split at h
  · obtain ⟨hp, rfl⟩ := gd_o h
    exact ⟨_, ev_areAnyRules _ hp, rfl⟩
  · cases h

/- impl.SetText -/
def K_implSetText : List AV → List Ob → Option (AV × List Ob)
  | [.int .i64 s], [] => gd (True) (.str (setTx s), [])
  | _, _ => none
@[reducible] def E_implSetText : Env := mkE (tb [(182, K_isAnySet), (219, K_elementsOf)]) (fun f => false) (fun r => bif r == 7 then ([3, 14, 15, 16], [3]) else ([], []))
theorem lp_implSetText (es : List Int) (he : es.length ≤ 8) (he2 : ∀ e ∈ es, 0 ≤ e ∧ e ≤ 7) (k : AX → S → Option (AV × List Ob)) (d : Nat) : ∀ (n i : Nat) (x : Int) (acc : ByteArray), es.length - i = d → i ≤ es.length → x = i → d < n → acc.size ≤ 8 * i →
    lpAt E_implSetText (lp E_implSetText 0 n) 0 (loopAt Tryz.f183 0) (mkS [3, 14, 15, 16] [.str acc, .own 0, .int .i64 es.length, .int .i64 x] [some (.row 3 (.int .i64) es)]) k =
      k (.exit 1) (mkS [3] [.str (addTx (es.drop i) acc)] []) := by
  induction d with
  | zero =>
    intro n i x acc hd hi hx hn hz
    subst hx
    rw [lpAt_def]
    conv => lhs; whnf
    refine br_f (df (by omega)) ?_
    conv => lhs; whnf
    rw [List.drop_of_length_le (by omega), addTx]
  | succ d ih =>
    intro n i x acc hd hi hx hn hz
    obtain ⟨n, rfl⟩ : ∃ m, n = m + 1 := ⟨n - 1, by omega⟩
    subst hx
    have hei := he2 _ (mem_getD (l := es) (i := i) (d := 0) (by omega))
    have hab := abc_size (es.getD i 0).toNat (IntKind.i64.wrap (es.getD i 0 + 1)).toNat
    rw [lpAt_def]
    conv => lhs; whnf
    refine br_t (dt (by omega)) ?_
    conv => lhs; whnf
    refine br_t (dt2 (by omega) (by omega)) ?_
    conv => lhs; whnf
    refine br_t (dt (by omega)) ?_
    conv => lhs; whnf
    refine br_t (by exact abc_slice hei) ?_
    conv => lhs; whnf
    refine br_t (by (refine dt ?_; change acc.size + (abcB.extract (es.getD i 0).toNat (IntKind.i64.wrap (es.getD i 0 + 1)).toNat).size ≤ 9223372036854775807; omega)) ?_
    conv => lhs; whnf
    refine Eq.trans (ih n (i + 1) _ _ (by omega) (by omega) (by rw [wrap64 (n := (i : Int) + 1) (by omega) (by omega)]; simp) (by omega) (by change (acc ++ abcB.extract (es.getD i 0).toNat (IntKind.i64.wrap (es.getD i 0 + 1)).toNat).size ≤ _; rw [ByteArray.size_append]; omega)) ?_
    rw [getD_drop (l := es) (i := i) (d := 0) (by omega), addTx]
    rfl
theorem ev_implSetText (s : Int) (hp : True) : evF E_implSetText (20) Tryz.f183 [.int .i64 s] [] = some (.str (setTx s), []) := by
  unfold setTx
  conv => lhs; whnf
  conv => lhs; arg 1; whnf
  refine bnd_g (by exact True.intro) ?_
  conv => lhs; whnf
  refine br_c (fun h => ?_) (fun h => ?_)
  · rw [bnt h]
    conv => lhs; whnf
    rfl
  · rw [bnf h]
    conv => lhs; whnf
    refine br_c (fun h2 => ?_) (fun h2 => ?_)
    · have h2' : (s == 0) = true := h2
      rw [h2']
      conv => lhs; whnf
      rfl
    · have h2' : (s == 0) = false := h2
      rw [h2']
      have hel : (elemsF s).length ≤ 8 := elemsL_length _ _ _
      conv => lhs; whnf
      conv => lhs; arg 1; whnf
      refine bnd_g (by exact True.intro) ?_
      conv => lhs; whnf
      refine (lp_implSetText (elemsF s) hel (fun e h => elems_rng h) _ _ _ 0 0 ⟨#[]⟩ rfl (Nat.zero_le _) rfl (by change _ < 19; omega) (Nat.le_refl _)).trans ?_
      conv => lhs; whnf
      rfl
theorem ok_implSetText : FnOk Tryz.prog 183 K_implSetText := by
  refine fn_ok (fn := Tryz.f183) (k := Tryz.f183.ntmps) (E := E_implSetText) (facts_of (List.forall_mem_cons.2 ⟨(FnOk.soft (fun h => False.elim h) ok_isAnySet), List.forall_mem_cons.2 ⟨(FnOk.soft (fun h => False.elim h) ok_elementsOf), List.forall_mem_nil _⟩⟩)) (by kernel_rfl) rfl (by decide +kernel) (by decide +kernel) ?_
  intro avs hin r h
  unfold K_implSetText at h
  split at h
  · obtain ⟨hp, rfl⟩ := gd_o h
    exact ⟨_, ev_implSetText _ hp, rfl⟩
  · cases h

/- impl.RuleText -/
def K_implRuleText : List AV → List Ob → Option (AV × List Ob)
  | [.agg [.int .i64 p, .int .i64 q]], [] => gd ((isSet 8 p && isSet 8 q) = true) (.str (ruleTx (p, q)), [])
  | _, _ => none
@[reducible] def E_implRuleText : Env := mkE (tb [(132, K_areAnyRules), (183, K_implSetText)]) (fun f => false) (fun r => ([], []))
theorem ev_implRuleText (p q : Int) (hp : (isSet 8 p && isSet 8 q) = true) : evF E_implRuleText (1) Tryz.f133 [.agg [.int .i64 p, .int .i64 q]] [] = some (.str (ruleTx (p, q)), []) := by
  have hb : (!([(p, q)].any badR)) = true := by
    have : badR (p, q) = false := by unfold badR; rw [hp]; rfl
    rw [List.any_cons, this, List.any_nil]
    rfl
  have s1 := setTx_size p
  have s2 := setTx_size q
  have s3 : (⟨#[62]⟩ : ByteArray).size = 1 := rfl
  have s4 : (setTx p ++ (⟨#[62]⟩ : ByteArray)).size = (setTx p).size + 1 := by rw [ByteArray.size_append, s3]
  conv => lhs; whnf
  conv => lhs; arg 1; whnf
  refine bnd_g (by (simp)) ?_
  conv => lhs; whnf
  refine br_f (by rw [hb]; rfl) ?_
  conv => lhs; whnf
  conv => lhs; arg 1; whnf
  refine bnd_g (by exact True.intro) ?_
  conv => lhs; whnf
  refine br_t (dt (by omega)) ?_
  conv => lhs; whnf
  conv => lhs; arg 1; whnf
  refine bnd_g (by exact True.intro) ?_
  conv => lhs; whnf
  refine br_t (dt (by omega)) ?_
  conv => lhs; whnf
  repeat ((first | with_reducible apply br_tt | with_reducible apply br_ff | with_reducible apply br_nf | with_reducible apply br_nt | with_reducible refine br_d ?_ (by kernel_rfl)); conv => lhs; whnf)
  rfl
theorem ok_implRuleText : FnOk Tryz.prog 133 K_implRuleText := by
  refine fn_ok (fn := Tryz.f133) (k := Tryz.f133.ntmps) (E := E_implRuleText) (facts_of (List.forall_mem_cons.2 ⟨ok_areAnyRules, List.forall_mem_cons.2 ⟨ok_implSetText, List.forall_mem_nil _⟩⟩)) (by kernel_rfl) rfl (by decide +kernel) (by decide +kernel) ?_
  intro avs hin r h
  unfold K_implRuleText at h
  split at h
  · obtain ⟨hp, rfl⟩ := gd_o h
    exact ⟨_, ev_implRuleText _ _ hp, rfl⟩
  · cases h

/- spec.l9Rule -/
def K_l9Rule : List AV → List Ob → Option (AV × List Ob)
  | [.int .i64 8, .agg [.int .i64 p, .int .i64 q]], [] => gd (True) (.bool (isSet 8 p && isSet 8 q), [])
  | _, _ => none
@[reducible] def E_l9Rule : Env := mkE (tb [(115, K_specIsSet)]) (fun f => false) (fun r => ([], []))
theorem ev_l9Rule (p q : Int) (hp : True) : evF E_l9Rule (1) Tryz.f170 [.int .i64 8, .agg [.int .i64 p, .int .i64 q]] [] = some (.bool (isSet 8 p && isSet 8 q), []) := by
  conv => lhs; whnf
  conv => lhs; arg 1; whnf
  refine bnd_g (by exact True.intro) ?_
  conv => lhs; whnf
  refine br_c (fun h => ?_) (fun h => ?_)
  · conv => lhs; whnf
    repeat ((first | with_reducible apply br_tt | with_reducible apply br_ff | with_reducible apply br_nf | with_reducible apply br_nt | with_reducible refine br_d ?_ (by kernel_rfl) | with_reducible apply br_t h | with_reducible apply br_f h); conv => lhs; whnf)
    conv => lhs; arg 1; whnf
    refine bnd_g (by exact True.intro) ?_
    conv => lhs; whnf
    repeat ((first | with_reducible apply br_tt | with_reducible apply br_ff | with_reducible apply br_nf | with_reducible apply br_nt | with_reducible refine br_d ?_ (by kernel_rfl) | with_reducible apply br_t h | with_reducible apply br_f h); conv => lhs; whnf)
    rw [h, Bool.true_and]
  · conv => lhs; whnf
    repeat ((first | with_reducible apply br_tt | with_reducible apply br_ff | with_reducible apply br_nf | with_reducible apply br_nt | with_reducible refine br_d ?_ (by kernel_rfl) | with_reducible apply br_t h | with_reducible apply br_f h); conv => lhs; whnf)
    rw [h, Bool.false_and]
theorem ok_l9Rule : FnOk Tryz.prog 170 K_l9Rule := by
  refine fn_ok (fn := Tryz.f170) (k := Tryz.f170.ntmps) (E := E_l9Rule) (facts_of (List.forall_mem_cons.2 ⟨(FnOk.soft (fun h => False.elim h) ok_specIsSet), List.forall_mem_nil _⟩)) (by kernel_rfl) rfl (by decide +kernel) (by decide +kernel) ?_
  intro avs hin r h
  unfold K_l9Rule at h
  split at h
  · obtain ⟨hp, rfl⟩ := gd_o h
    exact ⟨_, ev_l9Rule _ _ hp, rfl⟩
  · cases h

/- spec.HasElement -/
def K_specHasElement : List AV → List Ob → Option (AV × List Ob)
  | [.int .i64 s, .int .i64 e], [] => gd (True) (.bool (hasE s e), [])
  | _, _ => none
@[reducible] def E_specHasElement : Env := mkE (tb [(115, K_specIsSet), (111, K_l1In), (116, K_l2Has)]) (fun f => false) (fun r => ([], []))
theorem ev_specHasElement (s e : Int) (hp : True) : evF E_specHasElement (1) Tryz.f223 [.int .i64 s, .int .i64 e] [] = some (.bool (hasE s e), []) := by
  conv => lhs; whnf
  conv => lhs; arg 1; whnf
  refine bnd_g (by exact True.intro) ?_
  conv => lhs; whnf
  refine br_c (fun h => ?_) (fun h => ?_)
  · conv => lhs; whnf
    repeat ((first | with_reducible apply br_tt | with_reducible apply br_ff | with_reducible apply br_nf | with_reducible apply br_nt | with_reducible refine br_d ?_ (by kernel_rfl) | with_reducible apply br_t h | with_reducible apply br_f h); conv => lhs; whnf)
    conv => lhs; arg 1; whnf
    refine bnd_g (by exact True.intro) ?_
    conv => lhs; whnf
    repeat ((first | with_reducible apply br_tt | with_reducible apply br_ff | with_reducible apply br_nf | with_reducible apply br_nt | with_reducible refine br_d ?_ (by kernel_rfl) | with_reducible apply br_t h | with_reducible apply br_f h); conv => lhs; whnf)
    have hs := isSet_le h
    refine br_c (fun h2 => ?_) (fun h2 => ?_)
    · conv => lhs; whnf
      repeat ((first | with_reducible apply br_tt | with_reducible apply br_ff | with_reducible apply br_nf | with_reducible apply br_nt | with_reducible refine br_d ?_ (by kernel_rfl) | with_reducible apply br_t h | with_reducible apply br_f h | with_reducible apply br_t h2 | with_reducible apply br_f h2); conv => lhs; whnf)
      have h2' := ofd h2
      conv => lhs; arg 1; whnf
      refine bnd_g (by exact ⟨by omega, by omega⟩) ?_
      conv => lhs; whnf
      repeat ((first | with_reducible apply br_tt | with_reducible apply br_ff | with_reducible apply br_nf | with_reducible apply br_nt | with_reducible refine br_d ?_ (by kernel_rfl) | with_reducible apply br_t h | with_reducible apply br_f h | with_reducible apply br_t h2 | with_reducible apply br_f h2); conv => lhs; whnf)
      refine okB ?_
      unfold hasE
      rw [h, h2, Bool.true_and, Bool.true_and]
    · conv => lhs; whnf
      repeat ((first | with_reducible apply br_tt | with_reducible apply br_ff | with_reducible apply br_nf | with_reducible apply br_nt | with_reducible refine br_d ?_ (by kernel_rfl) | with_reducible apply br_t h | with_reducible apply br_f h | with_reducible apply br_t h2 | with_reducible apply br_f h2); conv => lhs; whnf)
      refine okB ?_
      unfold hasE
      rw [h, h2]
      rfl
  · conv => lhs; whnf
    repeat ((first | with_reducible apply br_tt | with_reducible apply br_ff | with_reducible apply br_nf | with_reducible apply br_nt | with_reducible refine br_d ?_ (by kernel_rfl) | with_reducible apply br_t h | with_reducible apply br_f h); conv => lhs; whnf)
    refine okB ?_
    unfold hasE
    rw [h, Bool.false_and, Bool.false_and]
theorem ok_specHasElement : FnOk Tryz.prog 223 K_specHasElement := by
  refine fn_ok (fn := Tryz.f223) (k := Tryz.f223.ntmps) (E := E_specHasElement) (facts_of (List.forall_mem_cons.2 ⟨(FnOk.soft (fun h => False.elim h) ok_specIsSet), List.forall_mem_cons.2 ⟨(FnOk.soft (fun h => False.elim h) ok_l1In), List.forall_mem_cons.2 ⟨(FnOk.soft (fun h => False.elim h) ok_l2Has), List.forall_mem_nil _⟩⟩⟩)) (by kernel_rfl) rfl (by decide +kernel) (by decide +kernel) ?_
  intro avs hin r h
  unfold K_specHasElement at h
  split at h
  · obtain ⟨hp, rfl⟩ := gd_o h
    exact ⟨_, ev_specHasElement _ _ hp, rfl⟩
  · cases h

/- spec.ElementsOf -/
def K_specElementsOf : List AV → List Ob → Option (AV × List Ob)
  | [.int .i64 s], [] => gd (True) (.own 0, [.row 3 (.int .i64) (elemsF s)])
  | _, _ => none
@[reducible] def E_specElementsOf : Env := mkE (tb [(223, K_specHasElement)]) (fun f => false) (fun r => bif r == 3 then ([0, 3, 4], [3]) else ([], []))
theorem lp_specElementsOf (s : Int) (k : AX → S → Option (AV × List Ob)) (d : Nat) : ∀ (n i : Nat) (x : Int) (ys : List Int), 8 - i = d → i ≤ 8 → x = i → d < n → ys.length ≤ i →
    lpAt E_specElementsOf (lp E_specElementsOf 0 n) 0 (loopAt Tryz.f188 0) (mkS [0, 3, 4] [.int .i64 s, .own 0, .int .i64 x] [some (.row 3 (.int .i64) ys)]) k =
      k (.exit 0) (mkS [3] [.own 0] [some (.row 3 (.int .i64) (ys ++ elemsL s d i))]) := by
  induction d with
  | zero =>
    intro n i x ys hd hi hx hn hl
    subst hx
    rw [lpAt_def]
    conv => lhs; whnf
    refine br_f (df (by omega)) ?_
    conv => lhs; whnf
    rw [elemsL, List.append_nil]
  | succ d ih =>
    intro n i x ys hd hi hx hn hl
    obtain ⟨n, rfl⟩ : ∃ m, n = m + 1 := ⟨n - 1, by omega⟩
    subst hx
    rw [lpAt_def]
    conv => lhs; whnf
    refine br_t (dt (by omega)) ?_
    conv => lhs; whnf
    conv => lhs; arg 1; whnf
    refine bnd_g (by exact True.intro) ?_
    conv => lhs; whnf
    refine br_c (fun h => ?_) (fun h => ?_)
    · conv => lhs; whnf
      refine br_t (dt (by simp [room]; omega)) ?_
      conv => lhs; whnf
      rw [ih n (i + 1) _ _ (by omega) (by omega) (by rw [wrap64 (n := (i : Int) + 1) (by omega) (by omega)]; simp) (by omega) (by simp; omega)]
      have h' : hasE s (i : Int) = true := h
      rw [elemsL, h', cond_true, List.append_assoc]
      rfl
    · conv => lhs; whnf
      rw [ih n (i + 1) _ _ (by omega) (by omega) (by rw [wrap64 (n := (i : Int) + 1) (by omega) (by omega)]; simp) (by omega) (by omega)]
      have h' : hasE s (i : Int) = false := h
      rw [elemsL, h', cond_false]
theorem ev_specElementsOf (s : Int) (hp : True) : evF E_specElementsOf (12) Tryz.f188 [.int .i64 s] [] = some (.own 0, [.row 3 (.int .i64) (elemsF s)]) := by
  conv => lhs; whnf
  refine (lp_specElementsOf s _ 8 _ 0 0 [] rfl (by omega) rfl (by change _ < 11; omega) (by simp)).trans ?_
  conv => lhs; whnf
  rfl
theorem ok_specElementsOf : FnOk Tryz.prog 188 K_specElementsOf := by
  refine fn_ok (fn := Tryz.f188) (k := Tryz.f188.ntmps) (E := E_specElementsOf) (facts_of (List.forall_mem_cons.2 ⟨ok_specHasElement, List.forall_mem_nil _⟩)) (by kernel_rfl) rfl (by decide +kernel) (by decide +kernel) ?_
  intro avs hin r h
  unfold K_specElementsOf at h
  split at h
  · obtain ⟨hp, rfl⟩ := gd_o h
    exact ⟨_, ev_specElementsOf _ hp, rfl⟩
  · cases h

/- spec.SetText -/
def K_specSetText : List AV → List Ob → Option (AV × List Ob)
  | [.int .i64 s], [] => gd (True) (.str (setTx s), [])
  | _, _ => none
@[reducible] def E_specSetText : Env := mkE (tb [(115, K_specIsSet), (188, K_specElementsOf)]) (fun f => false) (fun r => bif r == 8 then ([3, 4, 5], [3]) else ([], []))
theorem lp_specSetText (es : List Int) (he : es.length ≤ 8) (he2 : ∀ e ∈ es, 0 ≤ e ∧ e ≤ 7) (k : AX → S → Option (AV × List Ob)) (d : Nat) : ∀ (n i : Nat) (x : Int) (acc : ByteArray), es.length - i = d → i ≤ es.length → x = i → d < n → acc.size ≤ 8 * i →
    lpAt E_specSetText (lp E_specSetText 0 n) 0 (loopAt Tryz.f139 0) (mkS [3, 4, 5] [.str acc, .own 0, .int .i64 x] [some (.row 3 (.int .i64) es)]) k =
      k (.exit 0) (mkS [3] [.str (addTx (es.drop i) acc)] []) := by
  induction d with
  | zero =>
    intro n i x acc hd hi hx hn hz
    subst hx
    rw [lpAt_def]
    conv => lhs; whnf
    refine br_f (df (by omega)) ?_
    conv => lhs; whnf
    rw [List.drop_of_length_le (by omega), addTx]
  | succ d ih =>
    intro n i x acc hd hi hx hn hz
    obtain ⟨n, rfl⟩ : ∃ m, n = m + 1 := ⟨n - 1, by omega⟩
    subst hx
    have hei := he2 _ (mem_getD (l := es) (i := i) (d := 0) (by omega))
    have hab := abc_size (es.getD i 0).toNat (IntKind.i64.wrap (es.getD i 0 + 1)).toNat
    rw [lpAt_def]
    conv => lhs; whnf
    refine br_t (dt (by omega)) ?_
    conv => lhs; whnf
    refine br_t (dt2 (by omega) (by omega)) ?_
    conv => lhs; whnf
    refine br_t (dt (by omega)) ?_
    conv => lhs; whnf
    refine br_t (dt2 (by omega) (by omega)) ?_
    conv => lhs; whnf
    refine br_t (dt (by omega)) ?_
    conv => lhs; whnf
    refine br_t (by exact abc_slice hei) ?_
    conv => lhs; whnf
    refine br_t (by (refine dt ?_; change acc.size + (abcB.extract (es.getD i 0).toNat (IntKind.i64.wrap (es.getD i 0 + 1)).toNat).size ≤ 9223372036854775807; omega)) ?_
    conv => lhs; whnf
    repeat ((first | with_reducible apply br_tt | with_reducible apply br_ff | with_reducible apply br_nf | with_reducible apply br_nt | with_reducible refine br_d ?_ (by kernel_rfl)); conv => lhs; whnf)
    refine Eq.trans (ih n (i + 1) _ _ (by omega) (by omega) (by rw [wrap64 (n := (i : Int) + 1) (by omega) (by omega)]; simp) (by omega) (by change (acc ++ abcB.extract (es.getD i 0).toNat (IntKind.i64.wrap (es.getD i 0 + 1)).toNat).size ≤ _; rw [ByteArray.size_append]; omega)) ?_
    rw [getD_drop (l := es) (i := i) (d := 0) (by omega), addTx]
    rfl
theorem ev_specSetText (s : Int) (hp : True) : evF E_specSetText (20) Tryz.f139 [.int .i64 s] [] = some (.str (setTx s), []) := by
  unfold setTx
  conv => lhs; whnf
  conv => lhs; arg 1; whnf
  refine bnd_g (by exact True.intro) ?_
  conv => lhs; whnf
  refine br_c (fun h => ?_) (fun h => ?_)
  · rw [bnt h]
    conv => lhs; whnf
    rfl
  · rw [bnf h]
    conv => lhs; whnf
    refine br_c (fun h2 => ?_) (fun h2 => ?_)
    · have h2' : (s == 0) = true := h2
      rw [h2']
      conv => lhs; whnf
      rfl
    · have h2' : (s == 0) = false := h2
      rw [h2']
      have hel : (elemsF s).length ≤ 8 := elemsL_length _ _ _
      conv => lhs; whnf
      conv => lhs; arg 1; whnf
      refine bnd_g (by exact True.intro) ?_
      conv => lhs; whnf
      refine (lp_specSetText (elemsF s) hel (fun e h => elems_rng h) _ _ _ 0 0 ⟨#[]⟩ rfl (Nat.zero_le _) rfl (by change _ < 19; omega) (Nat.le_refl _)).trans ?_
      conv => lhs; whnf
      rfl
theorem ok_specSetText : FnOk Tryz.prog 139 K_specSetText := by
  refine fn_ok (fn := Tryz.f139) (k := Tryz.f139.ntmps) (E := E_specSetText) (facts_of (List.forall_mem_cons.2 ⟨(FnOk.soft (fun h => False.elim h) ok_specIsSet), List.forall_mem_cons.2 ⟨ok_specElementsOf, List.forall_mem_nil _⟩⟩)) (by kernel_rfl) rfl (by decide +kernel) (by decide +kernel) ?_
  intro avs hin r h
  unfold K_specSetText at h
  split at h
  · obtain ⟨hp, rfl⟩ := gd_o h
    exact ⟨_, ev_specSetText _ hp, rfl⟩
  · cases h

/- spec.RuleText -/
def K_specRuleText : List AV → List Ob → Option (AV × List Ob)
  | [.agg [.int .i64 p, .int .i64 q]], [] => gd ((isSet 8 p && isSet 8 q) = true) (.str (ruleTx (p, q)), [])
  | _, _ => none
@[reducible] def E_specRuleText : Env := mkE (tb [(170, K_l9Rule), (139, K_specSetText)]) (fun f => false) (fun r => ([], []))
theorem ev_specRuleText (p q : Int) (hp : (isSet 8 p && isSet 8 q) = true) : evF E_specRuleText (1) Tryz.f122 [.agg [.int .i64 p, .int .i64 q]] [] = some (.str (ruleTx (p, q)), []) := by
  have s1 := setTx_size p
  have s2 := setTx_size q
  have s3 : (⟨#[62]⟩ : ByteArray).size = 1 := rfl
  have s4 : (setTx p ++ (⟨#[62]⟩ : ByteArray)).size = (setTx p).size + 1 := by rw [ByteArray.size_append, s3]
  conv => lhs; whnf
  conv => lhs; arg 1; whnf
  refine bnd_g (by exact True.intro) ?_
  conv => lhs; whnf
  refine br_f (by rw [hp]; rfl) ?_
  conv => lhs; whnf
  conv => lhs; arg 1; whnf
  refine bnd_g (by exact True.intro) ?_
  conv => lhs; whnf
  refine br_t (dt (by omega)) ?_
  conv => lhs; whnf
  conv => lhs; arg 1; whnf
  refine bnd_g (by exact True.intro) ?_
  conv => lhs; whnf
  refine br_t (dt (by omega)) ?_
  conv => lhs; whnf
  repeat ((first | with_reducible apply br_tt | with_reducible apply br_ff | with_reducible apply br_nf | with_reducible apply br_nt | with_reducible refine br_d ?_ (by kernel_rfl)); conv => lhs; whnf)
  rfl
theorem ok_specRuleText : FnOk Tryz.prog 122 K_specRuleText := by
  refine fn_ok (fn := Tryz.f122) (k := Tryz.f122.ntmps) (E := E_specRuleText) (facts_of (List.forall_mem_cons.2 ⟨ok_l9Rule, List.forall_mem_cons.2 ⟨ok_specSetText, List.forall_mem_nil _⟩⟩)) (by kernel_rfl) rfl (by decide +kernel) (by decide +kernel) ?_
  intro avs hin r h
  unfold K_specRuleText at h
  split at h
  · obtain ⟨hp, rfl⟩ := gd_o h
    exact ⟨_, ev_specRuleText _ _ hp, rfl⟩
  · cases h

def K_joinS : List AV → List Ob → Option (AV × List Ob)
  | [.lst .str ys, .str sep], [] => gd (ys.length ≤ 140737488355328 ∧ (joinB ys sep).size ≤ 140737488355328) (.str (joinB ys sep), [])
  | _, _ => none
theorem ok_joinS : FnOk Tryz.prog 128 K_joinS := by
  refine ⟨⟨Tryz.f128, by kernel_rfl, by kernel_rfl, by kernel_rfl⟩, fun avs hin r hout hk C L vs hH hm hA => ?_⟩
  unfold K_joinS at hk
  split at hk
  · obtain ⟨⟨h1, h2⟩, he⟩ := gd_o hk
    cases he
    exact join_calls (fun h => h) Tryz.layJoin Tryz.extraJoin hH hA h1 h2
  · cases hk

/- impl.Join -/
def K_implJoin : List AV → List Ob → Option (AV × List Ob)
  | [.lst .str ys, .str sep], [] => gd (ys.length ≤ 1048576 ∧ okTxt ys = true ∧ sep.size ≤ 16) (.str (joinF ys sep), [])
  | _, _ => none
@[reducible] def E_implJoin : Env := mkE (tb [(128, K_joinS)]) (fun f => false) (fun r => bif r == 3 then ([0, 1, 5, 15, 16, 17], [0, 1, 5]) else ([], []))
theorem lp_implJoin (ys : List ByteArray) (sep : ByteArray) (hl : ys.length ≤ 1048576) (hy : ∀ y ∈ ys, y.size ≤ 1048576) (k : AX → S → Option (AV × List Ob)) (d : Nat) : ∀ (n i : Nat) (x q : Int), ys.length - i = d → i ≤ ys.length → x = i → d < n → 0 ≤ q → q ≤ 16777216 + i * 1048576 →
    lpAt E_implJoin (lp E_implJoin 0 n) 0 (loopAt Tryz.f68 0) (mkS [0, 1, 5, 15, 16, 17] [.lst .str ys, .str sep, .int .i64 q, .lst .str ys, .int .i64 ys.length, .int .i64 x] []) k =
      k (.exit 0) (mkS [0, 1, 5] [.lst .str ys, .str sep, .int .i64 (lenS (ys.drop i) q)] []) := by
  induction d with
  | zero =>
    intro n i x q hd hi hx hn hq hq'
    subst hx
    rw [lpAt_def]
    conv => lhs; whnf
    refine br_f (df (by omega)) ?_
    conv => lhs; whnf
    rw [List.drop_of_length_le (by omega), lenS]
  | succ d ih =>
    intro n i x q hd hi hx hn hq hq'
    obtain ⟨n, rfl⟩ : ∃ m, n = m + 1 := ⟨n - 1, by omega⟩
    subst hx
    have hyi := hy _ (mem_getD (l := ys) (i := i) (d := ByteArray.empty) (by omega))
    have hw : IntKind.i64.wrap (q + ((ys.getD i ByteArray.empty).size : Int)) = q + ((ys.getD i ByteArray.empty).size : Int) := wrap64 (by omega) (by omega)
    rw [lpAt_def]
    conv => lhs; whnf
    refine br_t (dt (by omega)) ?_
    conv => lhs; whnf
    refine br_t (dt2 (by omega) (by omega)) ?_
    conv => lhs; whnf
    refine Eq.trans (ih n (i + 1) _ _ (by omega) (by omega) (by rw [wrap64 (n := (i : Int) + 1) (by omega) (by omega)]; simp) (by omega) (by change 0 ≤ IntKind.i64.wrap (q + ((ys.getD i ByteArray.empty).size : Int)); rw [hw]; omega) (by change IntKind.i64.wrap (q + ((ys.getD i ByteArray.empty).size : Int)) ≤ _; rw [hw]; push_cast; omega)) ?_
    have e : lenS (ys.drop i) q = lenS (ys.drop (i + 1)) (IntKind.i64.wrap (q + ((ys.getD i ByteArray.empty).size : Int))) := by rw [hw, getD_drop (l := ys) (i := i) (d := ByteArray.empty) (by omega), lenS]
    rw [e]
    rfl
theorem ev_implJoin (ys : List ByteArray) (sep : ByteArray) (hp : ys.length ≤ 1048576 ∧ okTxt ys = true ∧ sep.size ≤ 16) : evF E_implJoin (ys.length + 2) Tryz.f68 [.lst .str ys, .str sep] [] = some (.str (joinF ys sep), []) := by
  obtain ⟨h1, h2, h3⟩ := hp
  have hy := okTxt_iff.1 h2
  have hs := join_size ys sep
  have hm : 0 ≤ max ((ys.length : Int) - 1) 0 * (sep.size : Int) ∧ max ((ys.length : Int) - 1) 0 * (sep.size : Int) ≤ 16777216 := by
    have e : max ((ys.length : Int) - 1) 0 ≤ 1048576 := by omega
    have e0 : 0 ≤ max ((ys.length : Int) - 1) 0 := by omega
    refine ⟨Int.mul_nonneg e0 (by omega), ?_⟩
    have := Int.mul_le_mul e (show (sep.size : Int) ≤ 16 by omega) (by omega) (by omega)
    omega
  have hle := lenS_le 1048576 ys (max ((ys.length : Int) - 1) 0 * (sep.size : Int)) hy
  have hw : IntKind.i64.wrap (max (IntKind.i64.wrap ((ys.length : Int) - 1)) 0 * (sep.size : Int)) = max ((ys.length : Int) - 1) 0 * (sep.size : Int) := by
    rw [wrap64 (n := (ys.length : Int) - 1) (by omega) (by omega)]
    exact wrap64 (by omega) (by omega)
  conv => lhs; whnf
  refine (lp_implJoin ys sep h1 hy _ ys.length _ 0 0 _ rfl (Nat.zero_le _) rfl (by omega) (by change 0 ≤ IntKind.i64.wrap (max (IntKind.i64.wrap ((ys.length : Int) - 1)) 0 * (sep.size : Int)); rw [hw]; exact hm.1) (by change IntKind.i64.wrap (max (IntKind.i64.wrap ((ys.length : Int) - 1)) 0 * (sep.size : Int)) ≤ _; rw [hw]; omega)).trans ?_
  have e1 : lenS (ys.drop 0) (IntKind.i64.wrap (max (IntKind.i64.wrap ((ys.length : Int) - 1)) 0 * (sep.size : Int))) = ((joinB ys sep).size : Int) := by rw [hw, List.drop_zero, hs]
  conv => lhs; whnf
  unfold joinF
  refine br_c (fun h => ?_) (fun h => ?_)
  · have h' := ofd h
    have h' : lenS (ys.drop 0) (IntKind.i64.wrap (max (IntKind.i64.wrap ((ys.length : Int) - 1)) 0 * (sep.size : Int))) > 1048576 := h'
    conv => lhs; whnf
    rw [if_neg (by omega)]
  · have h' := ofn h
    have h' : ¬ lenS (ys.drop 0) (IntKind.i64.wrap (max (IntKind.i64.wrap ((ys.length : Int) - 1)) 0 * (sep.size : Int))) > 1048576 := h'
    conv => lhs; whnf
    conv => lhs; arg 1; whnf
    refine bnd_g (by exact ⟨by omega, by omega⟩) ?_
    conv => lhs; whnf
    rw [if_pos (by omega)]
theorem ok_implJoin : FnOk Tryz.prog 68 K_implJoin := by
  refine fn_ok (fn := Tryz.f68) (k := Tryz.f68.ntmps) (E := E_implJoin) (facts_of (List.forall_mem_cons.2 ⟨ok_joinS, List.forall_mem_nil _⟩)) (by kernel_rfl) rfl (by decide +kernel) (by decide +kernel) ?_
  intro avs hin r h
  unfold K_implJoin at h
  split at h
  · obtain ⟨hp, rfl⟩ := gd_o h
    exact ⟨_, ev_implJoin _ _ hp, rfl⟩
  · cases h

/- impl.RulesText -/
def K_implRulesText : List AV → List Ob → Option (AV × List Ob)
  | [.lst (.pair (.int .i64) (.int .i64)) rs], [] => gd (rs.length ≤ 64 ∧ okRs rs = true) (.str (rulesT rs), [])
  | _, _ => none
@[reducible] def E_implRulesText : Env := mkE (tb [(132, K_areAnyRules), (133, K_implRuleText), (68, K_implJoin)]) (fun f => false) (fun r => bif r == 7 then ([3, 15, 16, 17], [3]) else ([], []))
theorem lp_implRulesText (rs : List (Int × Int)) (hl : rs.length ≤ 64) (hr : okRs rs = true) (k : AX → S → Option (AV × List Ob)) (d : Nat) : ∀ (n i : Nat) (x : Int) (zs : List ByteArray), rs.length - i = d → i ≤ rs.length → x = i → d < n → zs.length ≤ i →
    lpAt E_implRulesText (lp E_implRulesText 0 n) 0 (loopAt Tryz.f73 0) (mkS [3, 15, 16, 17] [.own 0, .lst (.pair (.int .i64) (.int .i64)) rs, .int .i64 (rs.length : Int), .int .i64 x] [some (.row 9 .str zs)]) k =
      k (.exit 1) (mkS [3] [.own 0] [some (.row 9 .str (zs ++ (rs.drop i).map ruleTx))]) := by
  induction d with
  | zero =>
    intro n i x zs hd hi hx hn hz
    subst hx
    rw [lpAt_def]
    conv => lhs; whnf
    refine br_f (df (by omega)) ?_
    conv => lhs; whnf
    rw [List.drop_of_length_le (by omega), List.map_nil, List.append_nil]
  | succ d ih =>
    intro n i x zs hd hi hx hn hz
    obtain ⟨n, rfl⟩ : ∃ m, n = m + 1 := ⟨n - 1, by omega⟩
    subst hx
    have hi := List.all_eq_true.1 hr _ (mem_getD (d := (0, 0)) (show i < rs.length by omega))
    rw [lpAt_def]
    conv => lhs; whnf
    refine br_t (dt (by omega)) ?_
    conv => lhs; whnf
    refine br_t (dt2 (by omega) (by omega)) ?_
    conv => lhs; whnf
    conv => lhs; arg 1; whnf
    refine bnd_g (by exact hi) ?_
    conv => lhs; whnf
    refine br_t (dt (by simp [room]; omega)) ?_
    conv => lhs; whnf
    refine (ih n (i + 1) (IntKind.i64.wrap ((i : Int) + 1)) _ (by omega) (by omega) (by rw [wrap64 (n := (i : Int) + 1) (by omega) (by omega)]; simp) (by omega) (by simp; omega)).trans ?_
    rw [getD_drop (l := rs) (i := i) (d := (0, 0)) (by omega), List.map_cons]
    simp only [List.append_assoc]
    rfl
theorem ev_implRulesText (rs : List (Int × Int)) (hp : rs.length ≤ 64 ∧ okRs rs = true) : evF E_implRulesText (100) Tryz.f73 [.lst (.pair (.int .i64) (.int .i64)) rs] [] = some (.str (rulesT rs), []) := by
  have hl := hp.1
  have hb : (!(rs.any badR)) = true := by
    rw [Bool.not_eq_true']
    rw [← Bool.not_eq_true, List.any_eq_true]
    rintro ⟨r, hr, hbad⟩
    have := List.all_eq_true.1 hp.2 r hr
    unfold badR at hbad
    rw [this] at hbad
    cases hbad
  conv => lhs; whnf
  refine br_c (fun h => ?_) (fun h => ?_)
  · have h' : ((rs.length : Int) == 0) = true := h
    have e : rulesT rs = ⟨#[110, 111, 110, 101]⟩ := by unfold rulesT; rw [h']; rfl
    rw [e]
    conv => lhs; whnf
  · have h' : ((rs.length : Int) == 0) = false := h
    have e : rulesT rs = joinF (rs.map ruleTx) ⟨#[32]⟩ := by unfold rulesT; rw [h']; rfl
    rw [e]
    conv => lhs; whnf
    conv => lhs; arg 1; whnf
    refine bnd_g (by omega) ?_
    conv => lhs; whnf
    refine br_f (by rw [hb]; rfl) ?_
    conv => lhs; whnf
    refine (lp_implRulesText rs hl hp.2 _ rs.length _ 0 0 [] rfl (by omega) rfl (by change _ < 99; omega) (by simp)).trans ?_
    conv => lhs; whnf
    conv => lhs; arg 1; whnf
    refine bnd_g (by exact ⟨by simp; omega, rules_ok, by decide⟩) ?_
    conv => lhs; whnf
    all_goals rfl
theorem ok_implRulesText : FnOk Tryz.prog 73 K_implRulesText := by
  refine fn_ok (fn := Tryz.f73) (k := Tryz.f73.ntmps) (E := E_implRulesText) (facts_of (List.forall_mem_cons.2 ⟨ok_areAnyRules, List.forall_mem_cons.2 ⟨ok_implRuleText, List.forall_mem_cons.2 ⟨ok_implJoin, List.forall_mem_nil _⟩⟩⟩)) (by kernel_rfl) rfl (by decide +kernel) (by decide +kernel) ?_
  intro avs hin r h
  unfold K_implRulesText at h
  split at h
  · obtain ⟨hp, rfl⟩ := gd_o h
    exact ⟨_, ev_implRulesText _ hp, rfl⟩
  · cases h

/- spec.Join -/
def K_specJoin : List AV → List Ob → Option (AV × List Ob)
  | [.lst .str ys, .str sep], [] => gd (ys.length ≤ 1048576 ∧ okTxt ys = true ∧ sep.size ≤ 16) (.str (joinF ys sep), [])
  | _, _ => none
@[reducible] def E_specJoin : Env := mkE (tb []) (fun f => false) (fun r => bif r == 3 then ([0, 1, 5, 6], [4, 5]) else ([], []))
theorem lp_specJoin (ys : List ByteArray) (sep : ByteArray) (hl : ys.length ≤ 1048576) (hy : ∀ y ∈ ys, y.size ≤ 1048576) (hs : sep.size ≤ 16) (k : AX → S → Option (AV × List Ob)) (r : Option (AV × List Ob)) (hk : ∀ zs, k .ret (mkS [4, 5] [.str ⟨#[]⟩, .own 0] [some (.row 5 (.int .u8) zs)]) = r) (d : Nat) : ∀ (n i : Nat) (x : Int) (zs : List Int), ys.length - i = d → i ≤ ys.length → x = i → d < n → zs.length ≤ 1048576 →
    lpAt E_specJoin (lp E_specJoin 0 n) 0 (loopAt Tryz.f123 0) (mkS [0, 1, 5, 6] [.lst .str ys, .str sep, .own 0, .int .i64 x] [some (.row 5 (.int .u8) zs)]) k =
      if (zs ++ restI sep i (ys.drop i)).length ≤ 1048576 then k (.exit 0) (mkS [4, 5] [.any, .own 0] [some (.row 5 (.int .u8) (zs ++ restI sep i (ys.drop i)))]) else r := by
  induction d with
  | zero =>
    intro n i x zs hd hi hx hn hz
    subst hx
    rw [lpAt_def]
    conv => lhs; whnf
    refine br_f (df (by omega)) ?_
    conv => lhs; whnf
    rw [List.drop_of_length_le (by omega), restI, List.append_nil, if_pos hz]
  | succ d ih =>
    intro n i x zs hd hi hx hn hz
    obtain ⟨n, rfl⟩ : ∃ m, n = m + 1 := ⟨n - 1, by omega⟩
    subst hx
    have hyi := hy _ (mem_getD (l := ys) (i := i) (d := ByteArray.empty) (by omega))
    have l1 := strInts_len (ys.getD i ByteArray.empty)
    have l2 := strInts_len sep
    rw [getD_drop (l := ys) (i := i) (d := ByteArray.empty) (by omega), restI, lpAt_def]
    conv => lhs; whnf
    refine br_t (dt (by omega)) ?_
    conv => lhs; whnf
    refine br_c (fun h => ?_) (fun h => ?_)
    · have h' := ofd h
      have h' : 0 < i := by omega
      conv => lhs; whnf
      refine br_t (dt (by change (zs.length + (strInts sep).length) * 1 ≤ 140737488355328; omega)) ?_
      conv => lhs; whnf
      refine br_t (dt2 (by omega) (by omega)) ?_
      conv => lhs; whnf
      refine br_t (dt (by change ((zs ++ strInts sep).length + (strInts (ys.getD i ByteArray.empty)).length) * 1 ≤ 140737488355328; rw [List.length_append]; omega)) ?_
      conv => lhs; whnf
      rw [if_pos h']
      refine br_c (fun h2 => ?_) (fun h2 => ?_)
      · have h2' := ofd h2
        have h2' : (((zs ++ strInts sep) ++ strInts (ys.getD i ByteArray.empty)).length : Int) > 1048576 := h2'
        conv => lhs; whnf
        rw [if_neg (by simp only [List.length_append] at h2' ⊢; omega)]
        exact hk _
      · have h2' := ofn h2
        have h2' : ¬ (((zs ++ strInts sep) ++ strInts (ys.getD i ByteArray.empty)).length : Int) > 1048576 := h2'
        conv => lhs; whnf
        refine Eq.trans (ih n (i + 1) _ _ (by omega) (by omega) (by rw [wrap64 (n := (i : Int) + 1) (by omega) (by omega)]; simp) (by omega) (by omega)) ?_
        simp only [List.append_assoc]
        rfl
    · have h' := ofn h
      have h' : ¬ 0 < i := by omega
      conv => lhs; whnf
      refine br_t (dt2 (by omega) (by omega)) ?_
      conv => lhs; whnf
      refine br_t (dt (by change (zs.length + (strInts (ys.getD i ByteArray.empty)).length) * 1 ≤ 140737488355328; omega)) ?_
      conv => lhs; whnf
      rw [if_neg h', List.nil_append]
      refine br_c (fun h2 => ?_) (fun h2 => ?_)
      · have h2' := ofd h2
        have h2' : ((zs ++ strInts (ys.getD i ByteArray.empty)).length : Int) > 1048576 := h2'
        conv => lhs; whnf
        rw [if_neg (by simp only [List.length_append] at h2' ⊢; omega)]
        exact hk _
      · have h2' := ofn h2
        have h2' : ¬ ((zs ++ strInts (ys.getD i ByteArray.empty)).length : Int) > 1048576 := h2'
        conv => lhs; whnf
        refine Eq.trans (ih n (i + 1) _ _ (by omega) (by omega) (by rw [wrap64 (n := (i : Int) + 1) (by omega) (by omega)]; simp) (by omega) (by omega)) ?_
        simp only [List.append_assoc]
        rfl
theorem ev_specJoin (ys : List ByteArray) (sep : ByteArray) (hp : ys.length ≤ 1048576 ∧ okTxt ys = true ∧ sep.size ≤ 16) : evF E_specJoin (ys.length + 2) Tryz.f123 [.lst .str ys, .str sep] [] = some (.str (joinF ys sep), []) := by
  obtain ⟨h1, h2, h3⟩ := hp
  have hy := okTxt_iff.1 h2
  conv => lhs; whnf
  refine (lp_specJoin ys sep h1 hy h3 _ _ (fun zs => rfl) ys.length _ 0 0 [] rfl (Nat.zero_le _) rfl (by omega) (by simp)).trans ?_
  rw [List.nil_append, List.drop_zero, restI_len]
  unfold joinF
  split
  · conv => lhs; whnf
    rw [intsStr_join]
  · rfl
theorem ok_specJoin : FnOk Tryz.prog 123 K_specJoin := by
  refine fn_ok (fn := Tryz.f123) (k := Tryz.f123.ntmps) (E := E_specJoin) (facts_of (List.forall_mem_nil _)) (by kernel_rfl) rfl (by decide +kernel) (by decide +kernel) ?_
  intro avs hin r h
  unfold K_specJoin at h
  split at h
  · obtain ⟨hp, rfl⟩ := gd_o h
    exact ⟨_, ev_specJoin _ _ hp, rfl⟩
  · cases h

/- spec.RulesText -/
def K_specRulesText : List AV → List Ob → Option (AV × List Ob)
  | [.lst (.pair (.int .i64) (.int .i64)) rs], [] => gd (rs.length ≤ 64 ∧ okRs rs = true) (.str (rulesT rs), [])
  | _, _ => none
@[reducible] def E_specRulesText : Env := mkE (tb [(122, K_specRuleText), (123, K_specJoin)]) (fun f => false) (fun r => bif r == 5 then ([0, 3, 4], [2, 3]) else ([], []))
theorem lp_specRulesText (rs : List (Int × Int)) (hl : rs.length ≤ 64) (hr : okRs rs = true) (k : AX → S → Option (AV × List Ob)) (d : Nat) : ∀ (n i : Nat) (x : Int) (zs : List ByteArray), rs.length - i = d → i ≤ rs.length → x = i → d < n → zs.length ≤ i →
    lpAt E_specRulesText (lp E_specRulesText 0 n) 0 (loopAt Tryz.f65 0) (mkS [0, 3, 4] [.lst (.pair (.int .i64) (.int .i64)) rs, .own 0, .int .i64 x] [some (.row 9 .str zs)]) k =
      k (.exit 0) (mkS [2, 3] [.any, .own 0] [some (.row 9 .str (zs ++ (rs.drop i).map ruleTx))]) := by
  induction d with
  | zero =>
    intro n i x zs hd hi hx hn hz
    subst hx
    rw [lpAt_def]
    conv => lhs; whnf
    refine br_f (df (by omega)) ?_
    conv => lhs; whnf
    rw [List.drop_of_length_le (by omega), List.map_nil, List.append_nil]
  | succ d ih =>
    intro n i x zs hd hi hx hn hz
    obtain ⟨n, rfl⟩ : ∃ m, n = m + 1 := ⟨n - 1, by omega⟩
    subst hx
    have hi := List.all_eq_true.1 hr _ (mem_getD (d := (0, 0)) (show i < rs.length by omega))
    rw [lpAt_def]
    conv => lhs; whnf
    refine br_t (dt (by omega)) ?_
    conv => lhs; whnf
    refine br_t (dt2 (by omega) (by omega)) ?_
    conv => lhs; whnf
    conv => lhs; arg 1; whnf
    refine bnd_g (by exact hi) ?_
    conv => lhs; whnf
    refine br_f (by exact rule_ne _) ?_
    conv => lhs; whnf
    refine br_t (dt2 (by omega) (by omega)) ?_
    conv => lhs; whnf
    conv => lhs; arg 1; whnf
    refine bnd_g (by exact hi) ?_
    conv => lhs; whnf
    refine br_t (dt (by simp [room]; omega)) ?_
    conv => lhs; whnf
    refine (ih n (i + 1) (IntKind.i64.wrap ((i : Int) + 1)) _ (by omega) (by omega) (by rw [wrap64 (n := (i : Int) + 1) (by omega) (by omega)]; simp) (by omega) (by simp; omega)).trans ?_
    rw [getD_drop (l := rs) (i := i) (d := (0, 0)) (by omega), List.map_cons]
    simp only [List.append_assoc]
    rfl
theorem ev_specRulesText (rs : List (Int × Int)) (hp : rs.length ≤ 64 ∧ okRs rs = true) : evF E_specRulesText (100) Tryz.f65 [.lst (.pair (.int .i64) (.int .i64)) rs] [] = some (.str (rulesT rs), []) := by
  have hl := hp.1
  conv => lhs; whnf
  refine br_c (fun h => ?_) (fun h => ?_)
  · have h' : ((rs.length : Int) == 0) = true := h
    have e : rulesT rs = ⟨#[110, 111, 110, 101]⟩ := by unfold rulesT; rw [h']; rfl
    rw [e]
    conv => lhs; whnf
  · have h' : ((rs.length : Int) == 0) = false := h
    have e : rulesT rs = joinF (rs.map ruleTx) ⟨#[32]⟩ := by unfold rulesT; rw [h']; rfl
    rw [e]
    conv => lhs; whnf
    refine (lp_specRulesText rs hl hp.2 _ rs.length _ 0 0 [] rfl (by omega) rfl (by change _ < 99; omega) (by simp)).trans ?_
    conv => lhs; whnf
    conv => lhs; arg 1; whnf
    refine bnd_g (by exact ⟨by simp; omega, rules_ok, by decide⟩) ?_
    conv => lhs; whnf
    all_goals rfl
theorem ok_specRulesText : FnOk Tryz.prog 65 K_specRulesText := by
  refine fn_ok (fn := Tryz.f65) (k := Tryz.f65.ntmps) (E := E_specRulesText) (facts_of (List.forall_mem_cons.2 ⟨ok_specRuleText, List.forall_mem_cons.2 ⟨ok_specJoin, List.forall_mem_nil _⟩⟩)) (by kernel_rfl) rfl (by decide +kernel) (by decide +kernel) ?_
  intro avs hin r h
  unfold K_specRulesText at h
  split at h
  · obtain ⟨hp, rfl⟩ := gd_o h
    exact ⟨_, ev_specRulesText _ hp, rfl⟩
  · cases h

end Go.Sym
