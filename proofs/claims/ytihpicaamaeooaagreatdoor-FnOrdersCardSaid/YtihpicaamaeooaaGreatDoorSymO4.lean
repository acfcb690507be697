/- Functions of the program, each told as a plain equation. -/
import Derived.Test.YtihpicaamaeooaaGreatDoorSymO3
import Derived.Test.YtihpicaamaeooaaGreatDoorSymLayJ
namespace Go.Sym
open Go.Proofs
set_option linter.unusedVariables false
set_option linter.unusedSimpArgs false
set_option maxRecDepth 100000
set_option maxHeartbeats 4000000

/-- From here on the count of draws is not told. -/
instance softDm : Dm := ⟨False⟩
def abcB : ByteArray := ⟨#[97, 98, 99, 100, 101, 102, 103, 104]⟩
theorem abc_size (l h : Nat) : (abcB.extract l h).size ≤ 8 := by
  rw [ByteArray.size_extract]
  have : abcB.size = 8 := rfl
  omega
def addTx : List Int → ByteArray → ByteArray
  | [], acc => acc
  | e :: r, acc => addTx r (acc ++ abcB.extract e.toNat (IntKind.i64.wrap (e + 1)).toNat)
theorem addTx_size : ∀ (es : List Int) (acc : ByteArray), (addTx es acc).size ≤ acc.size + 8 * es.length
  | [], acc => by simp [addTx]
  | e :: r, acc => by
    have h := addTx_size r (acc ++ abcB.extract e.toNat (IntKind.i64.wrap (e + 1)).toNat)
    have h2 := abc_size e.toNat (IntKind.i64.wrap (e + 1)).toNat
    rw [ByteArray.size_append] at h
    rw [addTx, List.length_cons]
    omega
def setTx (s : Int) : ByteArray := bif isSet 8 s then (bif s == 0 then ⟨#[45]⟩ else addTx (elemsF s) ⟨#[]⟩) else ⟨#[]⟩
theorem setTx_size (s : Int) : (setTx s).size ≤ 64 := by
  unfold setTx
  cases isSet 8 s
  · exact Nat.zero_le _
  · rw [cond_true]
    cases s == 0
    · rw [cond_false]
      have h := addTx_size (elemsF s) ⟨#[]⟩
      have h2 : (elemsF s).length ≤ 8 := elemsL_length _ _ _
      have h3 : (⟨#[]⟩ : ByteArray).size = 0 := rfl
      omega
    · rw [cond_true]; decide
def setsTx (a : List Int) : ByteArray := bif a.all (isSet 8) then (bif (a.length : Int) == 0 then ⟨#[110, 111, 110, 101]⟩ else joinF (a.map setTx) ⟨#[44]⟩) else ⟨#[]⟩
theorem elems_rng {s e : Int} (h : e ∈ elemsF s) : 0 ≤ e ∧ e ≤ 7 := by
  obtain ⟨j, h1, h2, h3, h4⟩ := elemsL_mem s e 8 0 h
  omega
theorem abc_slice {e : Int} (h : 0 ≤ e ∧ e ≤ 7) : (decide (0 ≤ e) && (decide (e ≤ IntKind.i64.wrap (e + 1)) && decide (IntKind.i64.wrap (e + 1) ≤ 8))) = true := by
  rw [wrap64 (by omega) (by omega), dt h.1, dt (show e ≤ e + 1 by omega), dt (show e + 1 ≤ 8 by omega)]
  rfl
def ordTx (a : List Int) : ByteArray := bif isOrd a then setsTx a else ⟨#[]⟩
def okTxt (ys : List ByteArray) : Bool := ys.all (fun y => decide (y.size ≤ 1048576))
theorem okTxt_iff {ys : List ByteArray} : okTxt ys = true ↔ ∀ y ∈ ys, y.size ≤ 1048576 := by
  unfold okTxt
  simp only [List.all_eq_true, decide_eq_true_eq]
theorem strInts_len (s : ByteArray) : (strInts s).length = s.size := by
  unfold strInts
  rw [List.length_map, Array.length_toList]
  rfl
theorem setTx_ok (a : List Int) : okTxt (a.map setTx) = true := by
  rw [okTxt_iff]
  intro y hy
  obtain ⟨s, _, rfl⟩ := List.mem_map.1 hy
  have := setTx_size s
  omega
/- impl.SetText -/
def K_implSetText : List AV → List Ob → Option (AV × List Ob)
  | [.int .i64 s], [] => gd (True) (.str (setTx s), [])
  | _, _ => none
@[reducible] def E_implSetText : Env := mkE (tb [(93, K_isAnySet), (49, K_elementsOf)]) (fun f => false) (fun r => bif r == 7 then ([3, 14, 15, 16], [3]) else ([], []))
theorem lp_implSetText (es : List Int) (he : es.length ≤ 8) (he2 : ∀ e ∈ es, 0 ≤ e ∧ e ≤ 7) (k : AX → S → Option (AV × List Ob)) (d : Nat) : ∀ (n i : Nat) (x : Int) (acc : ByteArray), es.length - i = d → i ≤ es.length → x = i → d < n → acc.size ≤ 8 * i →
    lpAt E_implSetText (lp E_implSetText 0 n) 0 (loopAt Tryz.f102 0) (mkS [3, 14, 15, 16] [.str acc, .own 0, .int .i64 es.length, .int .i64 x] [some (.row 3 (.int .i64) es)]) k =
      k (.exit 1) (mkS [3] [.str (addTx (es.drop i) acc)] []) := by
  induction d with
  | zero =>
    intro n i x acc hd hi hx hn hz
    subst hx
    rw [lpAt_def]
    conv => lhs; whnf
    refine br_f (df (by omega)) ?_
    conv => lhs; whnf
    rw [List.drop_of_length_le (by omega), addTx]
  | succ d ih =>
    intro n i x acc hd hi hx hn hz
    obtain ⟨n, rfl⟩ : ∃ m, n = m + 1 := ⟨n - 1, by omega⟩
    subst hx
    have hei := he2 _ (mem_getD (l := es) (i := i) (d := 0) (by omega))
    have hab := abc_size (es.getD i 0).toNat (IntKind.i64.wrap (es.getD i 0 + 1)).toNat
    rw [lpAt_def]
    conv => lhs; whnf
    refine br_t (dt (by omega)) ?_
    conv => lhs; whnf
    refine br_t (dt2 (by omega) (by omega)) ?_
    conv => lhs; whnf
    refine br_t (dt (by omega)) ?_
    conv => lhs; whnf
    refine br_t (by exact abc_slice hei) ?_
    conv => lhs; whnf
    refine br_t (by (refine dt ?_; change acc.size + (abcB.extract (es.getD i 0).toNat (IntKind.i64.wrap (es.getD i 0 + 1)).toNat).size ≤ 9223372036854775807; omega)) ?_
    conv => lhs; whnf
    refine Eq.trans (ih n (i + 1) _ _ (by omega) (by omega) (by rw [wrap64 (n := (i : Int) + 1) (by omega) (by omega)]; simp) (by omega) (by change (acc ++ abcB.extract (es.getD i 0).toNat (IntKind.i64.wrap (es.getD i 0 + 1)).toNat).size ≤ _; rw [ByteArray.size_append]; omega)) ?_
    rw [getD_drop (l := es) (i := i) (d := 0) (by omega), addTx]
    rfl
theorem ev_implSetText (s : Int) (hp : True) : evF E_implSetText (20) Tryz.f102 [.int .i64 s] [] = some (.str (setTx s), []) := by
  unfold setTx
  conv => lhs; whnf
  conv => lhs; arg 1; whnf
  refine bnd_g (by exact True.intro) ?_
  conv => lhs; whnf
  refine br_c (fun h => ?_) (fun h => ?_)
  · rw [bnt h]
    conv => lhs; whnf
    rfl
  · rw [bnf h]
    conv => lhs; whnf
    refine br_c (fun h2 => ?_) (fun h2 => ?_)
    · have h2' : (s == 0) = true := h2
      rw [h2']
      conv => lhs; whnf
      rfl
    · have h2' : (s == 0) = false := h2
      rw [h2']
      have hel : (elemsF s).length ≤ 8 := elemsL_length _ _ _
      conv => lhs; whnf
      conv => lhs; arg 1; whnf
      refine bnd_g (by exact True.intro) ?_
      conv => lhs; whnf
      refine (lp_implSetText (elemsF s) hel (fun e h => elems_rng h) _ _ _ 0 0 ⟨#[]⟩ rfl (Nat.zero_le _) rfl (by change _ < 19; omega) (Nat.le_refl _)).trans ?_
      conv => lhs; whnf
      rfl
theorem ok_implSetText : FnOk Tryz.prog 102 K_implSetText := by
  refine fn_ok (fn := Tryz.f102) (k := Tryz.f102.ntmps) (E := E_implSetText) (facts_of (List.forall_mem_cons.2 ⟨(FnOk.soft (fun h => False.elim h) ok_isAnySet), List.forall_mem_cons.2 ⟨(FnOk.soft (fun h => False.elim h) ok_elementsOf), List.forall_mem_nil _⟩⟩)) (by kernel_rfl) rfl (by decide +kernel) (by decide +kernel) ?_
  intro avs hin r h
  unfold K_implSetText at h
  split at h
  · obtain ⟨hp, rfl⟩ := gd_o h
    exact ⟨_, ev_implSetText _ hp, rfl⟩
  · cases h

def K_joinS : List AV → List Ob → Option (AV × List Ob)
  | [.lst .str ys, .str sep], [] => gd (ys.length ≤ 140737488355328 ∧ (joinB ys sep).size ≤ 140737488355328) (.str (joinB ys sep), [])
  | _, _ => none
theorem ok_joinS : FnOk Tryz.prog 116 K_joinS := by
  refine ⟨⟨Tryz.f116, by kernel_rfl, by kernel_rfl, by kernel_rfl⟩, fun avs hin r hout hk C L vs hH hm hA => ?_⟩
  unfold K_joinS at hk
  split at hk
  · obtain ⟨⟨h1, h2⟩, he⟩ := gd_o hk
    cases he
    exact join_calls (fun h => h) Tryz.layJoin Tryz.extraJoin hH hA h1 h2
  · cases hk

/- impl.Join -/
def K_implJoin : List AV → List Ob → Option (AV × List Ob)
  | [.lst .str ys, .str sep], [] => gd (ys.length ≤ 1048576 ∧ okTxt ys = true ∧ sep.size ≤ 16) (.str (joinF ys sep), [])
  | _, _ => none
@[reducible] def E_implJoin : Env := mkE (tb [(116, K_joinS)]) (fun f => false) (fun r => bif r == 3 then ([0, 1, 5, 15, 16, 17], [0, 1, 5]) else ([], []))
theorem lp_implJoin (ys : List ByteArray) (sep : ByteArray) (hl : ys.length ≤ 1048576) (hy : ∀ y ∈ ys, y.size ≤ 1048576) (k : AX → S → Option (AV × List Ob)) (d : Nat) : ∀ (n i : Nat) (x q : Int), ys.length - i = d → i ≤ ys.length → x = i → d < n → 0 ≤ q → q ≤ 16777216 + i * 1048576 →
    lpAt E_implJoin (lp E_implJoin 0 n) 0 (loopAt Tryz.f85 0) (mkS [0, 1, 5, 15, 16, 17] [.lst .str ys, .str sep, .int .i64 q, .lst .str ys, .int .i64 ys.length, .int .i64 x] []) k =
      k (.exit 0) (mkS [0, 1, 5] [.lst .str ys, .str sep, .int .i64 (lenS (ys.drop i) q)] []) := by
  induction d with
  | zero =>
    intro n i x q hd hi hx hn hq hq'
    subst hx
    rw [lpAt_def]
    conv => lhs; whnf
    refine br_f (df (by omega)) ?_
    conv => lhs; whnf
    rw [List.drop_of_length_le (by omega), lenS]
  | succ d ih =>
    intro n i x q hd hi hx hn hq hq'
    obtain ⟨n, rfl⟩ : ∃ m, n = m + 1 := ⟨n - 1, by omega⟩
    subst hx
    have hyi := hy _ (mem_getD (l := ys) (i := i) (d := ByteArray.empty) (by omega))
    have hw : IntKind.i64.wrap (q + ((ys.getD i ByteArray.empty).size : Int)) = q + ((ys.getD i ByteArray.empty).size : Int) := wrap64 (by omega) (by omega)
    rw [lpAt_def]
    conv => lhs; whnf
    refine br_t (dt (by omega)) ?_
    conv => lhs; whnf
    refine br_t (dt2 (by omega) (by omega)) ?_
    conv => lhs; whnf
    refine Eq.trans (ih n (i + 1) _ _ (by omega) (by omega) (by rw [wrap64 (n := (i : Int) + 1) (by omega) (by omega)]; simp) (by omega) (by change 0 ≤ IntKind.i64.wrap (q + ((ys.getD i ByteArray.empty).size : Int)); rw [hw]; omega) (by change IntKind.i64.wrap (q + ((ys.getD i ByteArray.empty).size : Int)) ≤ _; rw [hw]; push_cast; omega)) ?_
    have e : lenS (ys.drop i) q = lenS (ys.drop (i + 1)) (IntKind.i64.wrap (q + ((ys.getD i ByteArray.empty).size : Int))) := by rw [hw, getD_drop (l := ys) (i := i) (d := ByteArray.empty) (by omega), lenS]
    rw [e]
    rfl
theorem ev_implJoin (ys : List ByteArray) (sep : ByteArray) (hp : ys.length ≤ 1048576 ∧ okTxt ys = true ∧ sep.size ≤ 16) : evF E_implJoin (ys.length + 2) Tryz.f85 [.lst .str ys, .str sep] [] = some (.str (joinF ys sep), []) := by
  obtain ⟨h1, h2, h3⟩ := hp
  have hy := okTxt_iff.1 h2
  have hs := join_size ys sep
  have hm : 0 ≤ max ((ys.length : Int) - 1) 0 * (sep.size : Int) ∧ max ((ys.length : Int) - 1) 0 * (sep.size : Int) ≤ 16777216 := by
    have e : max ((ys.length : Int) - 1) 0 ≤ 1048576 := by omega
    have e0 : 0 ≤ max ((ys.length : Int) - 1) 0 := by omega
    refine ⟨Int.mul_nonneg e0 (by omega), ?_⟩
    have := Int.mul_le_mul e (show (sep.size : Int) ≤ 16 by omega) (by omega) (by omega)
    omega
  have hle := lenS_le 1048576 ys (max ((ys.length : Int) - 1) 0 * (sep.size : Int)) hy
  have hw : IntKind.i64.wrap (max (IntKind.i64.wrap ((ys.length : Int) - 1)) 0 * (sep.size : Int)) = max ((ys.length : Int) - 1) 0 * (sep.size : Int) := by
    rw [wrap64 (n := (ys.length : Int) - 1) (by omega) (by omega)]
    exact wrap64 (by omega) (by omega)
  conv => lhs; whnf
  refine (lp_implJoin ys sep h1 hy _ ys.length _ 0 0 _ rfl (Nat.zero_le _) rfl (by omega) (by change 0 ≤ IntKind.i64.wrap (max (IntKind.i64.wrap ((ys.length : Int) - 1)) 0 * (sep.size : Int)); rw [hw]; exact hm.1) (by change IntKind.i64.wrap (max (IntKind.i64.wrap ((ys.length : Int) - 1)) 0 * (sep.size : Int)) ≤ _; rw [hw]; omega)).trans ?_
  have e1 : lenS (ys.drop 0) (IntKind.i64.wrap (max (IntKind.i64.wrap ((ys.length : Int) - 1)) 0 * (sep.size : Int))) = ((joinB ys sep).size : Int) := by rw [hw, List.drop_zero, hs]
  conv => lhs; whnf
  unfold joinF
  refine br_c (fun h => ?_) (fun h => ?_)
  · have h' := ofd h
    have h' : lenS (ys.drop 0) (IntKind.i64.wrap (max (IntKind.i64.wrap ((ys.length : Int) - 1)) 0 * (sep.size : Int))) > 1048576 := h'
    conv => lhs; whnf
    rw [if_neg (by omega)]
  · have h' := ofn h
    have h' : ¬ lenS (ys.drop 0) (IntKind.i64.wrap (max (IntKind.i64.wrap ((ys.length : Int) - 1)) 0 * (sep.size : Int))) > 1048576 := h'
    conv => lhs; whnf
    conv => lhs; arg 1; whnf
    refine bnd_g (by exact ⟨by omega, by omega⟩) ?_
    conv => lhs; whnf
    rw [if_pos (by omega)]
theorem ok_implJoin : FnOk Tryz.prog 85 K_implJoin := by
  refine fn_ok (fn := Tryz.f85) (k := Tryz.f85.ntmps) (E := E_implJoin) (facts_of (List.forall_mem_cons.2 ⟨ok_joinS, List.forall_mem_nil _⟩)) (by kernel_rfl) rfl (by decide +kernel) (by decide +kernel) ?_
  intro avs hin r h
  unfold K_implJoin at h
  split at h
  · obtain ⟨hp, rfl⟩ := gd_o h
    exact ⟨_, ev_implJoin _ _ hp, rfl⟩
  · cases h

/- impl.SetsText -/
def K_implSetsText : List AV → List Ob → Option (AV × List Ob)
  | [.lst (.int .i64) a], [] => gd (a.length ≤ 1048576) (.str (setsTx a), [])
  | _, _ => none
@[reducible] def E_implSetsText : Env := mkE (tb [(93, K_isAnySet), (102, K_implSetText), (85, K_implJoin)]) (fun f => false) (fun r => bif r == 5 then ([3, 10, 11, 12], [2, 3]) else ([], []))
theorem lp_implSetsText (a : List Int) (ha : a.length ≤ 1048576) (k : AX → S → Option (AV × List Ob)) (r : Option (AV × List Ob)) (hk : ∀ zs, k .ret (mkS [2, 3] [.str ⟨#[]⟩, .own 0] [some (.row 9 .str zs)]) = r) (d : Nat) : ∀ (n i : Nat) (x : Int) (zs : List ByteArray), a.length - i = d → i ≤ a.length → x = i → d < n → zs.length ≤ i →
    lpAt E_implSetsText (lp E_implSetsText 0 n) 0 (loopAt Tryz.f62 0) (mkS [3, 10, 11, 12] [.own 0, .lst (.int .i64) a, .int .i64 a.length, .int .i64 x] [some (.row 9 .str zs)]) k =
      if (a.drop i).all (isSet 8) then k (.exit 0) (mkS [2, 3] [.any, .own 0] [some (.row 9 .str (zs ++ (a.drop i).map setTx))]) else r := by
  induction d with
  | zero =>
    intro n i x zs hd hi hx hn hz
    subst hx
    rw [lpAt_def]
    conv => lhs; whnf
    refine br_f (df (by omega)) ?_
    conv => lhs; whnf
    rw [List.drop_of_length_le (by omega)]
    simp
  | succ d ih =>
    intro n i x zs hd hi hx hn hz
    obtain ⟨n, rfl⟩ : ∃ m, n = m + 1 := ⟨n - 1, by omega⟩
    subst hx
    rw [lpAt_def]
    conv => lhs; whnf
    refine br_t (dt (by omega)) ?_
    conv => lhs; whnf
    refine br_t (dt2 (by omega) (by omega)) ?_
    conv => lhs; whnf
    conv => lhs; arg 1; whnf
    refine bnd_g (by exact True.intro) ?_
    conv => lhs; whnf
    rw [getD_drop (l := a) (i := i) (d := 0) (by omega), List.all_cons, List.map_cons]
    refine br_c (fun h => ?_) (fun h => ?_)
    · have h' : isSet 8 (a.getD i 0) = false := bnt h
      conv => lhs; whnf
      rw [h', Bool.false_and, if_neg (by simp)]
      exact hk _
    · have h' : isSet 8 (a.getD i 0) = true := bnf h
      conv => lhs; whnf
      conv => lhs; arg 1; whnf
      refine bnd_g (by exact True.intro) ?_
      conv => lhs; whnf
      refine br_t (dt (by simp [room]; omega)) ?_
      conv => lhs; whnf
      refine Eq.trans (ih n (i + 1) _ _ (by omega) (by omega) (by rw [wrap64 (n := (i : Int) + 1) (by omega) (by omega)]; simp) (by omega) (by simp; omega)) ?_
      rw [h', Bool.true_and]
      simp only [List.append_assoc]
      rfl
theorem ev_implSetsText (a : List Int) (hp : a.length ≤ 1048576) : evF E_implSetsText (a.length + 2) Tryz.f62 [.lst (.int .i64) a] [] = some (.str (setsTx a), []) := by
  unfold setsTx
  conv => lhs; whnf
  refine br_c (fun h => ?_) (fun h => ?_)
  · have h' : ((a.length : Int) == 0) = true := h
    have h0 : a = [] := by
      have : (a.length : Int) = 0 := by simpa using h'
      exact List.eq_nil_of_length_eq_zero (by omega)
    subst h0
    conv => lhs; whnf
    rfl
  · have h' : ((a.length : Int) == 0) = false := h
    conv => lhs; whnf
    refine (lp_implSetsText a hp _ _ (fun zs => rfl) a.length _ 0 0 [] rfl (Nat.zero_le _) rfl (by omega) (by simp)).trans ?_
    rw [List.drop_zero, List.nil_append, h']
    split
    · rename_i hs
      have hlen : (a.map setTx).length = a.length := List.length_map _
      conv => lhs; whnf
      conv => lhs; arg 1; whnf
      refine bnd_g (by exact ⟨by omega, setTx_ok a, by decide⟩) ?_
      conv => lhs; whnf
      rw [hs]
      rfl
    · rename_i hs
      rw [Bool.not_eq_true] at hs
      rw [hs]
      rfl
theorem ok_implSetsText : FnOk Tryz.prog 62 K_implSetsText := by
  refine fn_ok (fn := Tryz.f62) (k := Tryz.f62.ntmps) (E := E_implSetsText) (facts_of (List.forall_mem_cons.2 ⟨(FnOk.soft (fun h => False.elim h) ok_isAnySet), List.forall_mem_cons.2 ⟨ok_implSetText, List.forall_mem_cons.2 ⟨ok_implJoin, List.forall_mem_nil _⟩⟩⟩)) (by kernel_rfl) rfl (by decide +kernel) (by decide +kernel) ?_
  intro avs hin r h
  unfold K_implSetsText at h
  split at h
  · obtain ⟨hp, rfl⟩ := gd_o h
    exact ⟨_, ev_implSetsText _ hp, rfl⟩
  · cases h

/- impl.OrderText -/
def K_implOrderText : List AV → List Ob → Option (AV × List Ob)
  | [.agg [.lst (.int .i64) a]], [] => gd (a.length ≤ 1048576) (.str (ordTx a), [])
  | _, _ => none
@[reducible] def E_implOrderText : Env := mkE (tb [(22, K_implIsOrder), (62, K_implSetsText)]) (fun f => false) (fun r => ([], []))
theorem ev_implOrderText (a : List Int) (hp : a.length ≤ 1048576) : evF E_implOrderText (1) Tryz.f20 [.agg [.lst (.int .i64) a]] [] = some (.str (ordTx a), []) := by
  unfold ordTx
  conv => lhs; whnf
  conv => lhs; arg 1; whnf
  refine bnd_g (by omega) ?_
  conv => lhs; whnf
  refine br_c (fun h => ?_) (fun h => ?_)
  · rw [bnt h]
    conv => lhs; whnf
    rfl
  · rw [bnf h]
    conv => lhs; whnf
    conv => lhs; arg 1; whnf
    refine bnd_g (by exact hp) ?_
    conv => lhs; whnf
    rfl
theorem ok_implOrderText : FnOk Tryz.prog 20 K_implOrderText := by
  refine fn_ok (fn := Tryz.f20) (k := Tryz.f20.ntmps) (E := E_implOrderText) (facts_of (List.forall_mem_cons.2 ⟨(FnOk.soft (fun h => False.elim h) ok_implIsOrder), List.forall_mem_cons.2 ⟨ok_implSetsText, List.forall_mem_nil _⟩⟩)) (by kernel_rfl) rfl (by decide +kernel) (by decide +kernel) ?_
  intro avs hin r h
  unfold K_implOrderText at h
  split at h
  · obtain ⟨hp, rfl⟩ := gd_o h
    exact ⟨_, ev_implOrderText _ hp, rfl⟩
  · cases h

/- spec.l2Sets -/
def K_l2Sets : List AV → List Ob → Option (AV × List Ob)
  | [.lst (.int .i64) a], [] => gd (a.length ≤ 1048576) (.bool (a.all (isSet 8)), [])
  | _, _ => none
@[reducible] def E_l2Sets : Env := mkE (tb [(65, K_specIsSet)]) (fun f => false) (fun r => bif r == 2 then ([0, 3], [2]) else ([], []))
theorem lp_l2Sets (a : List Int) (ha : a.length ≤ 1048576) (k : AX → S → Option (AV × List Ob)) (d : Nat) : ∀ (n i : Nat) (x : Int), a.length - i = d → i ≤ a.length → x = i → d < n →
    lpAt E_l2Sets (lp E_l2Sets 0 n) 0 (loopAt Tryz.f103 0) (mkS [0, 3] [.lst (.int .i64) a, .int .i64 x] []) k =
      if (a.drop i).all (isSet 8) then k (.exit 0) (mkS [2] [.any] []) else k .ret (mkS [2] [.bool false] []) := by
  induction d with
  | zero =>
    intro n i x hd hi hx hn
    subst hx
    rw [lpAt_def]
    conv => lhs; whnf
    refine br_f (df (by omega)) ?_
    conv => lhs; whnf
    rw [List.drop_of_length_le (by omega)]
    simp
  | succ d ih =>
    intro n i x hd hi hx hn
    obtain ⟨n, rfl⟩ : ∃ m, n = m + 1 := ⟨n - 1, by omega⟩
    subst hx
    rw [lpAt_def]
    conv => lhs; whnf
    refine br_t (dt (by omega)) ?_
    conv => lhs; whnf
    refine br_t (dt2 (by omega) (by omega)) ?_
    conv => lhs; whnf
    conv => lhs; arg 1; whnf
    refine bnd_g (by exact True.intro) ?_
    conv => lhs; whnf
    rw [getD_drop (l := a) (i := i) (d := 0) (by omega), List.all_cons]
    refine br_c (fun h => ?_) (fun h => ?_)
    · have h' : isSet 8 (a.getD i 0) = false := bnt h
      conv => lhs; whnf
      rw [h', Bool.false_and, if_neg (by simp)]
    · have h' : isSet 8 (a.getD i 0) = true := bnf h
      conv => lhs; whnf
      refine Eq.trans (ih n (i + 1) _ (by omega) (by omega) (by rw [wrap64 (n := (i : Int) + 1) (by omega) (by omega)]; simp) (by omega)) ?_
      rw [h', Bool.true_and]
theorem ev_l2Sets (a : List Int) (hp : a.length ≤ 1048576) : evF E_l2Sets (a.length + 2) Tryz.f103 [.lst (.int .i64) a] [] = some (.bool (a.all (isSet 8)), []) := by
  conv => lhs; whnf
  refine (lp_l2Sets a hp _ a.length _ 0 0 rfl (Nat.zero_le _) rfl (by omega)).trans ?_
  rw [List.drop_zero]
  split
  · rename_i h
    conv => lhs; whnf
    rw [h]
  · rename_i h
    conv => lhs; whnf
    rw [Bool.not_eq_true] at h
    rw [h]
theorem ok_l2Sets : FnOk Tryz.prog 103 K_l2Sets := by
  refine fn_ok (fn := Tryz.f103) (k := Tryz.f103.ntmps) (E := E_l2Sets) (facts_of (List.forall_mem_cons.2 ⟨(FnOk.soft (fun h => False.elim h) ok_specIsSet), List.forall_mem_nil _⟩)) (by kernel_rfl) rfl (by decide +kernel) (by decide +kernel) ?_
  intro avs hin r h
  unfold K_l2Sets at h
  split at h
  · obtain ⟨hp, rfl⟩ := gd_o h
    exact ⟨_, ev_l2Sets _ hp, rfl⟩
  · cases h

/- spec.ElementsOf -/
def K_specElementsOf : List AV → List Ob → Option (AV × List Ob)
  | [.int .i64 s], [] => gd (True) (.own 0, [.row 3 (.int .i64) (elemsF s)])
  | _, _ => none
@[reducible] def E_specElementsOf : Env := mkE (tb [(24, K_specHasElement)]) (fun f => false) (fun r => bif r == 3 then ([0, 3, 4], [3]) else ([], []))
theorem lp_specElementsOf (s : Int) (k : AX → S → Option (AV × List Ob)) (d : Nat) : ∀ (n i : Nat) (x : Int) (ys : List Int), 8 - i = d → i ≤ 8 → x = i → d < n → ys.length ≤ i →
    lpAt E_specElementsOf (lp E_specElementsOf 0 n) 0 (loopAt Tryz.f124 0) (mkS [0, 3, 4] [.int .i64 s, .own 0, .int .i64 x] [some (.row 3 (.int .i64) ys)]) k =
      k (.exit 0) (mkS [3] [.own 0] [some (.row 3 (.int .i64) (ys ++ elemsL s d i))]) := by
  induction d with
  | zero =>
    intro n i x ys hd hi hx hn hl
    subst hx
    rw [lpAt_def]
    conv => lhs; whnf
    refine br_f (df (by omega)) ?_
    conv => lhs; whnf
    rw [elemsL, List.append_nil]
  | succ d ih =>
    intro n i x ys hd hi hx hn hl
    obtain ⟨n, rfl⟩ : ∃ m, n = m + 1 := ⟨n - 1, by omega⟩
    subst hx
    rw [lpAt_def]
    conv => lhs; whnf
    refine br_t (dt (by omega)) ?_
    conv => lhs; whnf
    conv => lhs; arg 1; whnf
    refine bnd_g (by exact True.intro) ?_
    conv => lhs; whnf
    refine br_c (fun h => ?_) (fun h => ?_)
    · conv => lhs; whnf
      refine br_t (dt (by simp [room]; omega)) ?_
      conv => lhs; whnf
      rw [ih n (i + 1) _ _ (by omega) (by omega) (by rw [wrap64 (n := (i : Int) + 1) (by omega) (by omega)]; simp) (by omega) (by simp; omega)]
      have h' : hasE s (i : Int) = true := h
      rw [elemsL, h', cond_true, List.append_assoc]
      rfl
    · conv => lhs; whnf
      rw [ih n (i + 1) _ _ (by omega) (by omega) (by rw [wrap64 (n := (i : Int) + 1) (by omega) (by omega)]; simp) (by omega) (by omega)]
      have h' : hasE s (i : Int) = false := h
      rw [elemsL, h', cond_false]
theorem ev_specElementsOf (s : Int) (hp : True) : evF E_specElementsOf (12) Tryz.f124 [.int .i64 s] [] = some (.own 0, [.row 3 (.int .i64) (elemsF s)]) := by
  conv => lhs; whnf
  refine (lp_specElementsOf s _ 8 _ 0 0 [] rfl (by omega) rfl (by change _ < 11; omega) (by simp)).trans ?_
  conv => lhs; whnf
  rfl
theorem ok_specElementsOf : FnOk Tryz.prog 124 K_specElementsOf := by
  refine fn_ok (fn := Tryz.f124) (k := Tryz.f124.ntmps) (E := E_specElementsOf) (facts_of (List.forall_mem_cons.2 ⟨(FnOk.soft (fun h => False.elim h) ok_specHasElement), List.forall_mem_nil _⟩)) (by kernel_rfl) rfl (by decide +kernel) (by decide +kernel) ?_
  intro avs hin r h
  unfold K_specElementsOf at h
  split at h
  · obtain ⟨hp, rfl⟩ := gd_o h
    exact ⟨_, ev_specElementsOf _ hp, rfl⟩
  · cases h

/- spec.SetText -/
def K_specSetText : List AV → List Ob → Option (AV × List Ob)
  | [.int .i64 s], [] => gd (True) (.str (setTx s), [])
  | _, _ => none
@[reducible] def E_specSetText : Env := mkE (tb [(65, K_specIsSet), (124, K_specElementsOf)]) (fun f => false) (fun r => bif r == 8 then ([3, 4, 5], [3]) else ([], []))
theorem lp_specSetText (es : List Int) (he : es.length ≤ 8) (he2 : ∀ e ∈ es, 0 ≤ e ∧ e ≤ 7) (k : AX → S → Option (AV × List Ob)) (d : Nat) : ∀ (n i : Nat) (x : Int) (acc : ByteArray), es.length - i = d → i ≤ es.length → x = i → d < n → acc.size ≤ 8 * i →
    lpAt E_specSetText (lp E_specSetText 0 n) 0 (loopAt Tryz.f104 0) (mkS [3, 4, 5] [.str acc, .own 0, .int .i64 x] [some (.row 3 (.int .i64) es)]) k =
      k (.exit 0) (mkS [3] [.str (addTx (es.drop i) acc)] []) := by
  induction d with
  | zero =>
    intro n i x acc hd hi hx hn hz
    subst hx
    rw [lpAt_def]
    conv => lhs; whnf
    refine br_f (df (by omega)) ?_
    conv => lhs; whnf
    rw [List.drop_of_length_le (by omega), addTx]
  | succ d ih =>
    intro n i x acc hd hi hx hn hz
    obtain ⟨n, rfl⟩ : ∃ m, n = m + 1 := ⟨n - 1, by omega⟩
    subst hx
    have hei := he2 _ (mem_getD (l := es) (i := i) (d := 0) (by omega))
    have hab := abc_size (es.getD i 0).toNat (IntKind.i64.wrap (es.getD i 0 + 1)).toNat
    rw [lpAt_def]
    conv => lhs; whnf
    refine br_t (dt (by omega)) ?_
    conv => lhs; whnf
    refine br_t (dt2 (by omega) (by omega)) ?_
    conv => lhs; whnf
    refine br_t (dt (by omega)) ?_
    conv => lhs; whnf
    refine br_t (dt2 (by omega) (by omega)) ?_
    conv => lhs; whnf
    refine br_t (dt (by omega)) ?_
    conv => lhs; whnf
    refine br_t (by exact abc_slice hei) ?_
    conv => lhs; whnf
    refine br_t (by (refine dt ?_; change acc.size + (abcB.extract (es.getD i 0).toNat (IntKind.i64.wrap (es.getD i 0 + 1)).toNat).size ≤ 9223372036854775807; omega)) ?_
    conv => lhs; whnf
    repeat ((first | with_reducible apply br_tt | with_reducible apply br_ff | with_reducible apply br_nf | with_reducible apply br_nt | with_reducible refine br_d ?_ (by kernel_rfl)); conv => lhs; whnf)
    refine Eq.trans (ih n (i + 1) _ _ (by omega) (by omega) (by rw [wrap64 (n := (i : Int) + 1) (by omega) (by omega)]; simp) (by omega) (by change (acc ++ abcB.extract (es.getD i 0).toNat (IntKind.i64.wrap (es.getD i 0 + 1)).toNat).size ≤ _; rw [ByteArray.size_append]; omega)) ?_
    rw [getD_drop (l := es) (i := i) (d := 0) (by omega), addTx]
    rfl
theorem ev_specSetText (s : Int) (hp : True) : evF E_specSetText (20) Tryz.f104 [.int .i64 s] [] = some (.str (setTx s), []) := by
  unfold setTx
  conv => lhs; whnf
  conv => lhs; arg 1; whnf
  refine bnd_g (by exact True.intro) ?_
  conv => lhs; whnf
  refine br_c (fun h => ?_) (fun h => ?_)
  · rw [bnt h]
    conv => lhs; whnf
    rfl
  · rw [bnf h]
    conv => lhs; whnf
    refine br_c (fun h2 => ?_) (fun h2 => ?_)
    · have h2' : (s == 0) = true := h2
      rw [h2']
      conv => lhs; whnf
      rfl
    · have h2' : (s == 0) = false := h2
      rw [h2']
      have hel : (elemsF s).length ≤ 8 := elemsL_length _ _ _
      conv => lhs; whnf
      conv => lhs; arg 1; whnf
      refine bnd_g (by exact True.intro) ?_
      conv => lhs; whnf
      refine (lp_specSetText (elemsF s) hel (fun e h => elems_rng h) _ _ _ 0 0 ⟨#[]⟩ rfl (Nat.zero_le _) rfl (by change _ < 19; omega) (Nat.le_refl _)).trans ?_
      conv => lhs; whnf
      rfl
theorem ok_specSetText : FnOk Tryz.prog 104 K_specSetText := by
  refine fn_ok (fn := Tryz.f104) (k := Tryz.f104.ntmps) (E := E_specSetText) (facts_of (List.forall_mem_cons.2 ⟨(FnOk.soft (fun h => False.elim h) ok_specIsSet), List.forall_mem_cons.2 ⟨ok_specElementsOf, List.forall_mem_nil _⟩⟩)) (by kernel_rfl) rfl (by decide +kernel) (by decide +kernel) ?_
  intro avs hin r h
  unfold K_specSetText at h
  split at h
  · obtain ⟨hp, rfl⟩ := gd_o h
    exact ⟨_, ev_specSetText _ hp, rfl⟩
  · cases h

/- spec.Join -/
def K_specJoin : List AV → List Ob → Option (AV × List Ob)
  | [.lst .str ys, .str sep], [] => gd (ys.length ≤ 1048576 ∧ okTxt ys = true ∧ sep.size ≤ 16) (.str (joinF ys sep), [])
  | _, _ => none
@[reducible] def E_specJoin : Env := mkE (tb []) (fun f => false) (fun r => bif r == 3 then ([0, 1, 5, 6], [4, 5]) else ([], []))
theorem lp_specJoin (ys : List ByteArray) (sep : ByteArray) (hl : ys.length ≤ 1048576) (hy : ∀ y ∈ ys, y.size ≤ 1048576) (hs : sep.size ≤ 16) (k : AX → S → Option (AV × List Ob)) (r : Option (AV × List Ob)) (hk : ∀ zs, k .ret (mkS [4, 5] [.str ⟨#[]⟩, .own 0] [some (.row 5 (.int .u8) zs)]) = r) (d : Nat) : ∀ (n i : Nat) (x : Int) (zs : List Int), ys.length - i = d → i ≤ ys.length → x = i → d < n → zs.length ≤ 1048576 →
    lpAt E_specJoin (lp E_specJoin 0 n) 0 (loopAt Tryz.f88 0) (mkS [0, 1, 5, 6] [.lst .str ys, .str sep, .own 0, .int .i64 x] [some (.row 5 (.int .u8) zs)]) k =
      if (zs ++ restI sep i (ys.drop i)).length ≤ 1048576 then k (.exit 0) (mkS [4, 5] [.any, .own 0] [some (.row 5 (.int .u8) (zs ++ restI sep i (ys.drop i)))]) else r := by
  induction d with
  | zero =>
    intro n i x zs hd hi hx hn hz
    subst hx
    rw [lpAt_def]
    conv => lhs; whnf
    refine br_f (df (by omega)) ?_
    conv => lhs; whnf
    rw [List.drop_of_length_le (by omega), restI, List.append_nil, if_pos hz]
  | succ d ih =>
    intro n i x zs hd hi hx hn hz
    obtain ⟨n, rfl⟩ : ∃ m, n = m + 1 := ⟨n - 1, by omega⟩
    subst hx
    have hyi := hy _ (mem_getD (l := ys) (i := i) (d := ByteArray.empty) (by omega))
    have l1 := strInts_len (ys.getD i ByteArray.empty)
    have l2 := strInts_len sep
    rw [getD_drop (l := ys) (i := i) (d := ByteArray.empty) (by omega), restI, lpAt_def]
    conv => lhs; whnf
    refine br_t (dt (by omega)) ?_
    conv => lhs; whnf
    refine br_c (fun h => ?_) (fun h => ?_)
    · have h' := ofd h
      have h' : 0 < i := by omega
      conv => lhs; whnf
      refine br_t (dt (by change (zs.length + (strInts sep).length) * 1 ≤ 140737488355328; omega)) ?_
      conv => lhs; whnf
      refine br_t (dt2 (by omega) (by omega)) ?_
      conv => lhs; whnf
      refine br_t (dt (by change ((zs ++ strInts sep).length + (strInts (ys.getD i ByteArray.empty)).length) * 1 ≤ 140737488355328; rw [List.length_append]; omega)) ?_
      conv => lhs; whnf
      rw [if_pos h']
      refine br_c (fun h2 => ?_) (fun h2 => ?_)
      · have h2' := ofd h2
        have h2' : (((zs ++ strInts sep) ++ strInts (ys.getD i ByteArray.empty)).length : Int) > 1048576 := h2'
        conv => lhs; whnf
        rw [if_neg (by simp only [List.length_append] at h2' ⊢; omega)]
        exact hk _
      · have h2' := ofn h2
        have h2' : ¬ (((zs ++ strInts sep) ++ strInts (ys.getD i ByteArray.empty)).length : Int) > 1048576 := h2'
        conv => lhs; whnf
        refine Eq.trans (ih n (i + 1) _ _ (by omega) (by omega) (by rw [wrap64 (n := (i : Int) + 1) (by omega) (by omega)]; simp) (by omega) (by omega)) ?_
        simp only [List.append_assoc]
        rfl
    · have h' := ofn h
      have h' : ¬ 0 < i := by omega
      conv => lhs; whnf
      refine br_t (dt2 (by omega) (by omega)) ?_
      conv => lhs; whnf
      refine br_t (dt (by change (zs.length + (strInts (ys.getD i ByteArray.empty)).length) * 1 ≤ 140737488355328; omega)) ?_
      conv => lhs; whnf
      rw [if_neg h', List.nil_append]
      refine br_c (fun h2 => ?_) (fun h2 => ?_)
      · have h2' := ofd h2
        have h2' : ((zs ++ strInts (ys.getD i ByteArray.empty)).length : Int) > 1048576 := h2'
        conv => lhs; whnf
        rw [if_neg (by simp only [List.length_append] at h2' ⊢; omega)]
        exact hk _
      · have h2' := ofn h2
        have h2' : ¬ ((zs ++ strInts (ys.getD i ByteArray.empty)).length : Int) > 1048576 := h2'
        conv => lhs; whnf
        refine Eq.trans (ih n (i + 1) _ _ (by omega) (by omega) (by rw [wrap64 (n := (i : Int) + 1) (by omega) (by omega)]; simp) (by omega) (by omega)) ?_
        simp only [List.append_assoc]
        rfl
theorem ev_specJoin (ys : List ByteArray) (sep : ByteArray) (hp : ys.length ≤ 1048576 ∧ okTxt ys = true ∧ sep.size ≤ 16) : evF E_specJoin (ys.length + 2) Tryz.f88 [.lst .str ys, .str sep] [] = some (.str (joinF ys sep), []) := by
  obtain ⟨h1, h2, h3⟩ := hp
  have hy := okTxt_iff.1 h2
  conv => lhs; whnf
  refine (lp_specJoin ys sep h1 hy h3 _ _ (fun zs => rfl) ys.length _ 0 0 [] rfl (Nat.zero_le _) rfl (by omega) (by simp)).trans ?_
  rw [List.nil_append, List.drop_zero, restI_len]
  unfold joinF
  split
  · conv => lhs; whnf
    rw [intsStr_join]
  · rfl
theorem ok_specJoin : FnOk Tryz.prog 88 K_specJoin := by
  refine fn_ok (fn := Tryz.f88) (k := Tryz.f88.ntmps) (E := E_specJoin) (facts_of (List.forall_mem_nil _)) (by kernel_rfl) rfl (by decide +kernel) (by decide +kernel) ?_
  intro avs hin r h
  unfold K_specJoin at h
  split at h
  · obtain ⟨hp, rfl⟩ := gd_o h
    exact ⟨_, ev_specJoin _ _ hp, rfl⟩
  · cases h

/- spec.SetsText -/
def K_specSetsText : List AV → List Ob → Option (AV × List Ob)
  | [.lst (.int .i64) a], [] => gd (a.length ≤ 1048576) (.str (setsTx a), [])
  | _, _ => none
@[reducible] def E_specSetsText : Env := mkE (tb [(103, K_l2Sets), (104, K_specSetText), (88, K_specJoin)]) (fun f => false) (fun r => bif r == 7 then ([0, 3, 4], [3]) else ([], []))
theorem lp_specSetsText (a : List Int) (ha : a.length ≤ 1048576) (k : AX → S → Option (AV × List Ob)) (d : Nat) : ∀ (n i : Nat) (x : Int) (zs : List ByteArray), a.length - i = d → i ≤ a.length → x = i → d < n → zs.length ≤ i →
    lpAt E_specSetsText (lp E_specSetsText 0 n) 0 (loopAt Tryz.f63 0) (mkS [0, 3, 4] [.lst (.int .i64) a, .own 0, .int .i64 x] [some (.row 9 .str zs)]) k =
      k (.exit 0) (mkS [3] [.own 0] [some (.row 9 .str (zs ++ (a.drop i).map setTx))]) := by
  induction d with
  | zero =>
    intro n i x zs hd hi hx hn hz
    subst hx
    rw [lpAt_def]
    conv => lhs; whnf
    refine br_f (df (by omega)) ?_
    conv => lhs; whnf
    rw [List.drop_of_length_le (by omega)]
    simp
  | succ d ih =>
    intro n i x zs hd hi hx hn hz
    obtain ⟨n, rfl⟩ : ∃ m, n = m + 1 := ⟨n - 1, by omega⟩
    subst hx
    rw [lpAt_def]
    conv => lhs; whnf
    refine br_t (dt (by omega)) ?_
    conv => lhs; whnf
    refine br_t (dt2 (by omega) (by omega)) ?_
    conv => lhs; whnf
    conv => lhs; arg 1; whnf
    refine bnd_g (by exact True.intro) ?_
    conv => lhs; whnf
    refine br_t (dt (by simp [room]; omega)) ?_
    conv => lhs; whnf
    repeat ((first | with_reducible apply br_tt | with_reducible apply br_ff | with_reducible apply br_nf | with_reducible apply br_nt | with_reducible refine br_d ?_ (by kernel_rfl)); conv => lhs; whnf)
    rw [getD_drop (l := a) (i := i) (d := 0) (by omega), List.map_cons]
    refine Eq.trans (ih n (i + 1) _ _ (by omega) (by omega) (by rw [wrap64 (n := (i : Int) + 1) (by omega) (by omega)]; simp) (by omega) (by simp; omega)) ?_
    simp only [List.append_assoc]
    rfl
theorem ev_specSetsText (a : List Int) (hp : a.length ≤ 1048576) : evF E_specSetsText (a.length + 2) Tryz.f63 [.lst (.int .i64) a] [] = some (.str (setsTx a), []) := by
  have hlen : (a.map setTx).length = a.length := List.length_map _
  unfold setsTx
  conv => lhs; whnf
  conv => lhs; arg 1; whnf
  refine bnd_g (by exact hp) ?_
  conv => lhs; whnf
  refine br_c (fun h => ?_) (fun h => ?_)
  · rw [bnt h]
    conv => lhs; whnf
    rfl
  · rw [bnf h]
    conv => lhs; whnf
    refine br_c (fun h2 => ?_) (fun h2 => ?_)
    · have h' : ((a.length : Int) == 0) = true := h2
      rw [h']
      conv => lhs; whnf
      rfl
    · have h' : ((a.length : Int) == 0) = false := h2
      rw [h']
      conv => lhs; whnf
      refine (lp_specSetsText a hp _ a.length _ 0 0 [] rfl (Nat.zero_le _) rfl (by omega) (by simp)).trans ?_
      rw [List.drop_zero, List.nil_append]
      conv => lhs; whnf
      conv => lhs; arg 1; whnf
      refine bnd_g (by exact ⟨by omega, setTx_ok a, by decide⟩) ?_
      conv => lhs; whnf
      rfl
theorem ok_specSetsText : FnOk Tryz.prog 63 K_specSetsText := by
  refine fn_ok (fn := Tryz.f63) (k := Tryz.f63.ntmps) (E := E_specSetsText) (facts_of (List.forall_mem_cons.2 ⟨ok_l2Sets, List.forall_mem_cons.2 ⟨ok_specSetText, List.forall_mem_cons.2 ⟨ok_specJoin, List.forall_mem_nil _⟩⟩⟩)) (by kernel_rfl) rfl (by decide +kernel) (by decide +kernel) ?_
  intro avs hin r h
  unfold K_specSetsText at h
  split at h
  · obtain ⟨hp, rfl⟩ := gd_o h
    exact ⟨_, ev_specSetsText _ hp, rfl⟩
  · cases h

/- spec.OrderText -/
def K_specOrderText : List AV → List Ob → Option (AV × List Ob)
  | [.agg [.lst (.int .i64) a]], [] => gd (a.length ≤ 1048576) (.str (ordTx a), [])
  | _, _ => none
@[reducible] def E_specOrderText : Env := mkE (tb [(23, K_specIsOrder), (63, K_specSetsText)]) (fun f => false) (fun r => ([], []))
theorem ev_specOrderText (a : List Int) (hp : a.length ≤ 1048576) : evF E_specOrderText (1) Tryz.f21 [.agg [.lst (.int .i64) a]] [] = some (.str (ordTx a), []) := by
  unfold ordTx
  conv => lhs; whnf
  conv => lhs; arg 1; whnf
  refine bnd_g (by omega) ?_
  conv => lhs; whnf
  refine br_c (fun h => ?_) (fun h => ?_)
  · rw [bnt h]
    conv => lhs; whnf
    rfl
  · rw [bnf h]
    conv => lhs; whnf
    conv => lhs; arg 1; whnf
    refine bnd_g (by exact hp) ?_
    conv => lhs; whnf
    rfl
theorem ok_specOrderText : FnOk Tryz.prog 21 K_specOrderText := by
  refine fn_ok (fn := Tryz.f21) (k := Tryz.f21.ntmps) (E := E_specOrderText) (facts_of (List.forall_mem_cons.2 ⟨(FnOk.soft (fun h => False.elim h) ok_specIsOrder), List.forall_mem_cons.2 ⟨ok_specSetsText, List.forall_mem_nil _⟩⟩)) (by kernel_rfl) rfl (by decide +kernel) (by decide +kernel) ?_
  intro avs hin r h
  unfold K_specOrderText at h
  split at h
  · obtain ⟨hp, rfl⟩ := gd_o h
    exact ⟨_, ev_specOrderText _ hp, rfl⟩
  · cases h

end Go.Sym
