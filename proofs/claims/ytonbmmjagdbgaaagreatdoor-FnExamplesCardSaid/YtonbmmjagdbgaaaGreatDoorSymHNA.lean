/- Functions of the program, each told as a plain equation. -/
import Derived.Test.YtonbmmjagdbgaaaGreatDoorSymHRB
namespace Go.Sym
open Go.Proofs
set_option linter.unusedVariables false
set_option linter.unusedSimpArgs false
set_option maxRecDepth 100000
set_option maxHeartbeats 4000000

def byteN (s : ByteArray) (i : Nat) : Int := ((s.data.toList.getD i 0).toNat : Int)
def atO (s : ByteArray) : Bool := match Lib.atoiAll s.data.toList with
  | .ok _ => true
  | _ => false
def atS (s : ByteArray) : Bool := match Lib.atoiAll s.data.toList with
  | .ok _ => false
  | .range => false
  | _ => true
def atN (s : ByteArray) : Int := match Lib.atoiAll s.data.toList with
  | .ok n => n
  | _ => 0
theorem atO_ok {s : ByteArray} (h : atO s = true) : Lib.atoiAll s.data.toList = .ok (atN s) := by
  unfold atO at h
  unfold atN
  split at h
  · rename_i n e
    rw [e]
  · cases h
theorem atS_ok {s : ByteArray} (h : atS s = true) : Lib.atoiAll s.data.toList = Lib.atoiAll [] := by
  unfold atS at h
  cases e : Lib.atoiAll s.data.toList <;> rw [e] at h
  all_goals first | rfl | cases h
theorem at_not {s : ByteArray} (h : atS s = true) : atO s = false := by
  have := atS_ok h
  unfold atO
  rw [this]
  rfl
/-- One of two contracts. -/
@[irreducible] def sel {α : Type} (b : Bool) (x y : α) : α := bif b then x else y
theorem sel_t {α : Type} {x y : α} : sel true x y = x := by unfold sel; rfl
theorem sel_f {α : Type} {x y : α} : sel false x y = y := by unfold sel; rfl
theorem bnd_t {α β : Type} {p : Prop} [Decidable p] {b : Bool} {x : α} {y : Option α} {k : α → Option β} {r : Option β} (hb : b = true) (h : p) (g : k x = r) : bnd (sel b (gd p x) y) k = r := by
  rw [hb, sel_t]
  exact bnd_g h g
theorem bnd_f {α β : Type} {p : Prop} [Decidable p] {b : Bool} {x : α} {y : Option α} {k : α → Option β} {r : Option β} (hb : b = false) (h : p) (g : k x = r) : bnd (sel b y (gd p x)) k = r := by
  rw [hb, sel_f]
  exact bnd_g h g
def rdI (s : ByteArray) (lo hi : Int) : Int × Bool := bif atO s && ((itoaB (atN s)).toList == s.toList && decide (lo ≤ atN s ∧ atN s ≤ hi)) then (atN s, true) else (0, false)
def psL (t : ByteArray) : Nat → Nat → Int × Bool
  | 0, _ => (0, false)
  | d + 1, i => bif (setTx (i : Int)).toList == t.toList then ((i : Int), true) else psL t d (i + 1)
def psI (t : ByteArray) : Int × Bool := psL t 256 0
def pzL : List ByteArray → List Int → Option (List Int)
  | [], acc => some acc
  | w :: r, acc => bif (psI w).2 then pzL r (acc ++ [(psI w).1]) else none
def noneB : ByteArray := ⟨#[110, 111, 110, 101]⟩
def pzI (t : ByteArray) : List Int × Bool := bif t.toList == noneB.toList then ([], true) else match pzL (splitsB t ⟨#[44]⟩) [] with
  | some l => (l, true)
  | none => ([], false)
def K_atoiX : List AV → List Ob → Option (AV × List Ob)
  | [.str s], [] => sel (atO s) (gd (s.size ≤ 1000) (.tup [.int .i64 (atN s), .nili], [])) (gd (s.size ≤ 1000 ∧ atS s = true) (.tup [.int .i64 0, .ifn], []))
  | _, _ => none
theorem ok_atoiX : FnOk Tryz.prog 221 K_atoiX := by
  refine ⟨⟨Tryz.f221, by kernel_rfl, by kernel_rfl, by kernel_rfl⟩, fun avs hin r hout hk C L vs hH hm hA => ?_⟩
  unfold K_atoiX at hk
  split at hk
  · rename_i s
    cases h : atO s
    · rw [h, sel_f] at hk
      obtain ⟨⟨h1, h2⟩, he⟩ := gd_o hk
      cases he
      exact atoi_bad (fun h => h) Tryz.layAtoi (by first | exact List.Mem.head _ | exact List.Mem.tail _ (List.Mem.head _)) (by omega) (atS_ok h2) hH hA
    · rw [h, sel_t] at hk
      obtain ⟨h1, he⟩ := gd_o hk
      cases he
      exact atoi_calls (fun h => h) Tryz.layAtoi (by omega) (atO_ok h) hH hA
  · cases hk

/- impl.readInt -/
def K_readInt : List AV → List Ob → Option (AV × List Ob)
  | [.str s, .int .i64 lo, .int .i64 hi], [] => gd (s.size ≤ 1000 ∧ (atO s || atS s) = true) (.tup [.int .i64 (rdI s lo hi).1, .bool (rdI s lo hi).2], [])
  | _, _ => none
@[reducible] def E_readInt : Env := mkE (tb [(221, K_atoiX), (69, K_implFormatInt), (81, K_within)]) (fun f => false) (fun r => ([], []))
theorem ev_readInt (s : ByteArray) (lo hi : Int) (hp : s.size ≤ 1000 ∧ (atO s || atS s) = true) : evF E_readInt (1) Tryz.f185 [.str s, .int .i64 lo, .int .i64 hi] [] = some (.tup [.int .i64 (rdI s lo hi).1, .bool (rdI s lo hi).2], []) := by
  refine Or.elim (Classical.em (atO s = true)) (fun h => ?_) (fun h => ?_)
  · have hb := Lib.atoiAll_bounds (atO_ok h)
    conv => lhs; whnf
    conv => lhs; arg 1; whnf
    refine bnd_t h hp.1 ?_
    conv => lhs; whnf
    repeat ((first | with_reducible apply br_tt | with_reducible apply br_ff | with_reducible apply br_nf | with_reducible apply br_nt | with_reducible refine br_d ?_ (by kernel_rfl)); conv => lhs; whnf)
    conv => lhs; arg 1; whnf
    refine bnd_g (by omega) ?_
    conv => lhs; whnf
    repeat ((first | with_reducible apply br_tt | with_reducible apply br_ff | with_reducible apply br_nf | with_reducible apply br_nt | with_reducible refine br_d ?_ (by kernel_rfl)); conv => lhs; whnf)
    refine br_c (fun h2 => ?_) (fun h2 => ?_)
    · have h2' : (!((itoaB (atN s)).toList == s.toList)) = true := h2
      have e : rdI s lo hi = (0, false) := by
        unfold rdI
        rw [h, bnt h2']
        rfl
      conv => rhs; rw [e]
      conv => lhs; whnf
      repeat ((first | with_reducible apply br_tt | with_reducible apply br_ff | with_reducible apply br_nf | with_reducible apply br_nt | with_reducible refine br_d ?_ (by kernel_rfl) | with_reducible apply br_t h2 | with_reducible apply br_f h2); conv => lhs; whnf)
    · have h2' : (!((itoaB (atN s)).toList == s.toList)) = false := h2
      conv => lhs; whnf
      repeat ((first | with_reducible apply br_tt | with_reducible apply br_ff | with_reducible apply br_nf | with_reducible apply br_nt | with_reducible refine br_d ?_ (by kernel_rfl) | with_reducible apply br_t h2 | with_reducible apply br_f h2); conv => lhs; whnf)
      conv => lhs; arg 1; whnf
      refine bnd_g (by exact True.intro) ?_
      conv => lhs; whnf
      repeat ((first | with_reducible apply br_tt | with_reducible apply br_ff | with_reducible apply br_nf | with_reducible apply br_nt | with_reducible refine br_d ?_ (by kernel_rfl) | with_reducible apply br_t h2 | with_reducible apply br_f h2); conv => lhs; whnf)
      refine br_c (fun h3 => ?_) (fun h3 => ?_)
      · have h3' : (!decide (lo ≤ atN s ∧ atN s ≤ hi)) = true := h3
        have e : rdI s lo hi = (0, false) := by
          unfold rdI
          rw [h, bnf h2', bnt h3']
          rfl
        conv => rhs; rw [e]
        conv => lhs; whnf
      · have h3' : (!decide (lo ≤ atN s ∧ atN s ≤ hi)) = false := h3
        have e : rdI s lo hi = (atN s, true) := by
          unfold rdI
          rw [h, bnf h2', bnf h3']
          rfl
        conv => rhs; rw [e]
        conv => lhs; whnf
  · have h0 : atO s = false := by simpa using h
    have h1 : atS s = true := by
      have := hp.2
      rw [h0, Bool.false_or] at this
      exact this
    have e : rdI s lo hi = (0, false) := by
      unfold rdI
      rw [h0]
      rfl
    conv => rhs; rw [e]
    conv => lhs; whnf
    conv => lhs; arg 1; whnf
    refine bnd_f h0 ⟨hp.1, h1⟩ ?_
    conv => lhs; whnf
    repeat ((first | with_reducible apply br_tt | with_reducible apply br_ff | with_reducible apply br_nf | with_reducible apply br_nt | with_reducible refine br_d ?_ (by kernel_rfl)); conv => lhs; whnf)
theorem ok_readInt : FnOk Tryz.prog 185 K_readInt := by
  refine fn_ok (fn := Tryz.f185) (k := Tryz.f185.ntmps) (E := E_readInt) (facts_of (List.forall_mem_cons.2 ⟨ok_atoiX, List.forall_mem_cons.2 ⟨ok_implFormatInt, List.forall_mem_cons.2 ⟨(FnOk.soft (fun h => False.elim h) ok_within), List.forall_mem_nil _⟩⟩⟩)) (by kernel_rfl) rfl (by decide +kernel) (by decide +kernel) ?_
  intro avs hin r h
  unfold K_readInt at h
  split at h
  · obtain ⟨hp, rfl⟩ := gd_o h
    exact ⟨_, ev_readInt _ _ _ hp, rfl⟩
  · cases h

/- impl.ParseNumber -/
def K_parseNumber : List AV → List Ob → Option (AV × List Ob)
  | [.str s], [] => gd (s.size ≤ 1000 ∧ (atO s || atS s) = true) (.tup [.int .i64 (rdI s 0 999999).1, .bool (rdI s 0 999999).2], [])
  | _, _ => none
@[reducible] def E_parseNumber : Env := mkE (tb [(185, K_readInt)]) (fun f => false) (fun r => ([], []))
theorem ev_parseNumber (s : ByteArray) (hp : s.size ≤ 1000 ∧ (atO s || atS s) = true) : evF E_parseNumber (1) Tryz.f135 [.str s] [] = some (.tup [.int .i64 (rdI s 0 999999).1, .bool (rdI s 0 999999).2], []) := by
  conv => lhs; whnf
  conv => lhs; arg 1; whnf
  refine bnd_g (by exact hp) ?_
  conv => lhs; whnf
theorem ok_parseNumber : FnOk Tryz.prog 135 K_parseNumber := by
  refine fn_ok (fn := Tryz.f135) (k := Tryz.f135.ntmps) (E := E_parseNumber) (facts_of (List.forall_mem_cons.2 ⟨ok_readInt, List.forall_mem_nil _⟩)) (by kernel_rfl) rfl (by decide +kernel) (by decide +kernel) ?_
  intro avs hin r h
  unfold K_parseNumber at h
  split at h
  · obtain ⟨hp, rfl⟩ := gd_o h
    exact ⟨_, ev_parseNumber _ hp, rfl⟩
  · cases h

/- impl.ParseSet -/
def K_implParseSet : List AV → List Ob → Option (AV × List Ob)
  | [.str t], [] => gd (True) (.tup [.int .i64 (psI t).1, .bool (psI t).2], [])
  | _, _ => none
@[reducible] def E_implParseSet : Env := mkE (tb [(183, K_implSetText)]) (fun f => false) (fun r => bif r == 2 then ([0, 5], [2, 3]) else ([], []))
theorem lp_implParseSet (t : ByteArray) (k : AX → S → Option (AV × List Ob)) (d : Nat) : ∀ (n i : Nat) (x : Int), 256 - i = d → i ≤ 256 → x = i → d < n →
    lpAt E_implParseSet (lp E_implParseSet 0 n) 0 (loopAt Tryz.f187 0) (mkS [0, 5] [.str t, .int .i64 x] []) k =
      if (psL t d i).2 = true then k .ret (mkS [2, 3] [.int .i64 (psL t d i).1, .bool true] []) else k (.exit 0) (mkS [2, 3] [.any, .any] []) := by
  induction d with
  | zero =>
    intro n i x hd hi hx hn
    subst hx
    rw [lpAt_def]
    conv => lhs; whnf
    refine br_f (df (by omega)) ?_
    conv => lhs; whnf
    rfl
  | succ d ih =>
    intro n i x hd hi hx hn
    obtain ⟨n, rfl⟩ : ∃ m, n = m + 1 := ⟨n - 1, by omega⟩
    subst hx
    rw [lpAt_def]
    conv => lhs; whnf
    refine br_t (dt (by omega)) ?_
    conv => lhs; whnf
    conv => lhs; arg 1; whnf
    refine bnd_g (by exact True.intro) ?_
    conv => lhs; whnf
    refine br_c (fun h => ?_) (fun h => ?_)
    · have h' : ((setTx (i : Int)).toList == t.toList) = true := h
      have e : psL t (d + 1) i = ((i : Int), true) := by rw [psL, h', cond_true]
      conv => rhs; rw [e]
      conv => lhs; whnf
      rw [if_pos rfl]
    · have h' : ((setTx (i : Int)).toList == t.toList) = false := h
      have e : psL t (d + 1) i = psL t d (i + 1) := by rw [psL, h', cond_false]
      conv => rhs; rw [e]
      conv => lhs; whnf
      exact ih n (i + 1) (IntKind.i64.wrap ((i : Int) + 1)) (by omega) (by omega) (by rw [wrap64 (by omega) (by omega)]; simp) (by omega)
theorem ev_implParseSet (t : ByteArray) (hp : True) : evF E_implParseSet (300) Tryz.f187 [.str t] [] = some (.tup [.int .i64 (psI t).1, .bool (psI t).2], []) := by
  conv => lhs; whnf
  refine (lp_implParseSet t _ 256 _ 0 0 rfl (by omega) rfl (by change _ < 299; omega)).trans ?_
  split
  · rename_i h
    have e : (psI t).2 = true := h
    conv => rhs; rw [e]
    conv => lhs; whnf
    rfl
  · rename_i h
    have h0 : (psL t 256 0).2 = false := by simpa using h
    have e : psI t = (0, false) := by
      have key : ∀ (d i : Nat), (psL t d i).2 = false → psL t d i = (0, false) := by
        intro d
        induction d with
        | zero => intro i _; rfl
        | succ d ih =>
          intro i hq
          rw [psL] at hq ⊢
          cases hc : (setTx (i : Int)).toList == t.toList
          · rw [hc, cond_false] at hq
            rw [cond_false]
            exact ih _ hq
          · rw [hc, cond_true] at hq
            cases hq
      exact key 256 0 h0
    conv => rhs; rw [e]
    conv => lhs; whnf
theorem ok_implParseSet : FnOk Tryz.prog 187 K_implParseSet := by
  refine fn_ok (fn := Tryz.f187) (k := Tryz.f187.ntmps) (E := E_implParseSet) (facts_of (List.forall_mem_cons.2 ⟨ok_implSetText, List.forall_mem_nil _⟩)) (by kernel_rfl) rfl (by decide +kernel) (by decide +kernel) ?_
  intro avs hin r h
  unfold K_implParseSet at h
  split at h
  · obtain ⟨hp, rfl⟩ := gd_o h
    exact ⟨_, ev_implParseSet _ hp, rfl⟩
  · cases h

def K_cutX : List AV → List Ob → Option (AV × List Ob)
  | [.str s, .str sep], [] => gd (s.size < 4294967281) (.tup [.str (cutB s sep).1, .str (cutB s sep).2.1, .bool (cutB s sep).2.2], [])
  | _, _ => none
theorem ok_cutX : FnOk Tryz.prog 134 K_cutX := by
  refine ⟨⟨Tryz.f134, by kernel_rfl, by kernel_rfl, by kernel_rfl⟩, fun avs hin r hout hk C L vs hH hm hA => ?_⟩
  unfold K_cutX at hk
  split at hk
  · obtain ⟨h1, he⟩ := gd_o hk
    cases he
    exact cut_calls (fun h => h) Tryz.layCut (by first | exact List.Mem.head _ | exact List.Mem.tail _ (List.Mem.head _)) h1 hH hA
  · cases hk

def K_splitX : List AV → List Ob → Option (AV × List Ob)
  | [.str s, .str sep], [] => gd (s.size < 4294967281 ∧ 1 ≤ sep.size) (.own 0, [.row 9 .str (splitsB s sep)])
  | _, _ => none
theorem ok_splitX : FnOk Tryz.prog 186 K_splitX := by
  refine ⟨⟨Tryz.f186, by kernel_rfl, by kernel_rfl, by kernel_rfl⟩, fun avs hin r hout hk C L vs hH hm hA => ?_⟩
  unfold K_splitX at hk
  split at hk
  · obtain ⟨⟨h1, h2⟩, he⟩ := gd_o hk
    cases he
    exact split_calls (fun h => h) Tryz.laySplit Tryz.hiSplit (by first | exact List.Mem.head _ | exact List.Mem.tail _ (List.Mem.head _)) h1 h2 hH hm hA
  · cases hk

/- impl.parseSets -/
def K_implParseSets : List AV → List Ob → Option (AV × List Ob)
  | [.str t], [] => gd (t.size ≤ 1000) (.tup [.own 0, .bool (pzI t).2], [.row 3 (.int .i64) (pzI t).1])
  | _, _ => none
@[reducible] def E_implParseSets : Env := mkE (tb [(186, K_splitX), (187, K_implParseSet)]) (fun f => false) (fun r => bif r == 5 then ([4, 13, 14, 15], [2, 3, 4]) else ([], []))
theorem lp_implParseSets (ws : List ByteArray) (hw : ws.length ≤ 2000) (k : AX → S → Option (AV × List Ob)) (r : Option (AV × List Ob)) (hk : ∀ zs : List Int, k .ret (mkS [2, 3, 4] [.own 0, .bool false, .own 1] [some (.row 3 (.int .i64) []), some (.row 3 (.int .i64) zs)]) = r) (d : Nat) : ∀ (n i : Nat) (x : Int) (zs : List Int), ws.length - i = d → i ≤ ws.length → x = i → d < n → zs.length ≤ i →
    lpAt E_implParseSets (lp E_implParseSets 0 n) 0 (loopAt Tryz.f136 0) (mkS [4, 13, 14, 15] [.own 0, .own 1, .int .i64 (ws.length : Int), .int .i64 x] [some (.row 3 (.int .i64) zs), some (.row 9 .str ws)]) k =
      match pzL (ws.drop i) zs with
      | some l => k (.exit 0) (mkS [2, 3, 4] [.any, .any, .own 0] [some (.row 3 (.int .i64) l)])
      | none => r := by
  induction d with
  | zero =>
    intro n i x zs hd hi hx hn hz
    subst hx
    rw [lpAt_def]
    conv => lhs; whnf
    refine br_f (df (by omega)) ?_
    conv => lhs; whnf
    rw [List.drop_of_length_le (by omega)]
    rfl
  | succ d ih =>
    intro n i x zs hd hi hx hn hz
    obtain ⟨n, rfl⟩ : ∃ m, n = m + 1 := ⟨n - 1, by omega⟩
    subst hx
    rw [lpAt_def]
    conv => lhs; whnf
    refine br_t (dt (by omega)) ?_
    conv => lhs; whnf
    refine br_t (dt2 (by omega) (by omega)) ?_
    conv => lhs; whnf
    refine br_t (dt (by omega)) ?_
    conv => lhs; whnf
    conv => lhs; arg 1; whnf
    refine bnd_g (by exact True.intro) ?_
    conv => lhs; whnf
    refine br_c (fun h => ?_) (fun h => ?_)
    · have h' : (psI (ws.getD i ByteArray.empty)).2 = false := bnt h
      have e : pzL (ws.drop i) zs = none := by rw [getD_drop (l := ws) (i := i) (d := ByteArray.empty) (by omega), pzL, h', cond_false]
      conv => rhs; rw [e]
      conv => lhs; whnf
      exact hk zs
    · have h' : (psI (ws.getD i ByteArray.empty)).2 = true := bnf h
      have e : pzL (ws.drop i) zs = pzL (ws.drop (i + 1)) (zs ++ [(psI (ws.getD i ByteArray.empty)).1]) := by rw [getD_drop (l := ws) (i := i) (d := ByteArray.empty) (by omega), pzL, h', cond_true]
      conv => rhs; rw [e]
      conv => lhs; whnf
      refine br_t (dt (by simp [room]; omega)) ?_
      conv => lhs; whnf
      exact ih n (i + 1) (IntKind.i64.wrap ((i : Int) + 1)) _ (by omega) (by omega) (by rw [wrap64 (by omega) (by omega)]; simp) (by omega) (by simp; omega)
theorem ev_implParseSets (t : ByteArray) (hp : t.size ≤ 1000) : evF E_implParseSets (2100) Tryz.f136 [.str t] [] = some (.tup [.own 0, .bool (pzI t).2], [.row 3 (.int .i64) (pzI t).1]) := by
  conv => lhs; whnf
  refine br_c (fun h => ?_) (fun h => ?_)
  · have h' : (t.toList == noneB.toList) = true := h
    have e : pzI t = ([], true) := by unfold pzI; rw [h']; rfl
    conv => rhs; rw [e]
    conv => lhs; whnf
  · have h' : (t.toList == noneB.toList) = false := h
    have hc := Lib.countB_le (⟨#[44]⟩ : ByteArray) (by decide) t.size t (Nat.le_refl _)
    have hl : (splitsB t ⟨#[44]⟩).length = Lib.countB t ⟨#[44]⟩ + 1 := Lib.splitB_all _ (by decide) 0 _ t rfl
    conv => lhs; whnf
    conv => lhs; arg 1; whnf
    refine bnd_g (by exact ⟨by omega, by decide⟩) ?_
    conv => lhs; whnf
    refine (lp_implParseSets (splitsB t ⟨#[44]⟩) (by omega) _ (some (.tup [.own 0, .bool false], [.row 3 (.int .i64) []])) (fun zs => ?_) (splitsB t ⟨#[44]⟩).length _ 0 0 [] rfl (by omega) rfl (by change _ < 2099; omega) (by simp)).trans ?_
    · conv => lhs; whnf
    rw [List.drop_zero]
    cases hz : pzL (splitsB t ⟨#[44]⟩) [] with
    | some l =>
      have e : pzI t = (l, true) := by unfold pzI; rw [h', cond_false, hz]
      conv => rhs; rw [e]
      conv => lhs; whnf
    | none =>
      have e : pzI t = ([], false) := by unfold pzI; rw [h', cond_false, hz]
      conv => rhs; rw [e]
theorem ok_implParseSets : FnOk Tryz.prog 136 K_implParseSets := by
  refine fn_ok (fn := Tryz.f136) (k := Tryz.f136.ntmps) (E := E_implParseSets) (facts_of (List.forall_mem_cons.2 ⟨ok_splitX, List.forall_mem_cons.2 ⟨ok_implParseSet, List.forall_mem_nil _⟩⟩)) (by kernel_rfl) rfl (by decide +kernel) (by decide +kernel) ?_
  intro avs hin r h
  unfold K_implParseSets at h
  split at h
  · obtain ⟨hp, rfl⟩ := gd_o h
    exact ⟨_, ev_implParseSets _ hp, rfl⟩
  · cases h

def pcI (t : ByteArray) : Int × List Int × Bool := bif (cutB t ⟨#[32]⟩).2.2 && ((rdI (cutB t ⟨#[32]⟩).1 0 999999).2 && ((pzI (cutB t ⟨#[32]⟩).2.1).2 && isCtx (rdI (cutB t ⟨#[32]⟩).1 0 999999).1 (pzI (cutB t ⟨#[32]⟩).2.1).1))
  then ((rdI (cutB t ⟨#[32]⟩).1 0 999999).1, (pzI (cutB t ⟨#[32]⟩).2.1).1, true) else (0, [], false)
theorem cut_size (t sep : ByteArray) : (cutB t sep).1.size ≤ t.size ∧ (cutB t sep).2.1.size ≤ t.size := by
  have e : t.size = t.data.toList.length := rfl
  have e1 : (cutB t sep).1.size = (Lib.cut t.data.toList sep.data.toList).1.length := rfl
  have e2 : (cutB t sep).2.1.size = (Lib.cut t.data.toList sep.data.toList).2.1.length := rfl
  rw [e1, e2, e]
  unfold Lib.cut
  split
  · simp only [List.length_take, List.length_drop]
    omega
  · simp
theorem pzL_len : ∀ (ws : List ByteArray) (acc l : List Int), pzL ws acc = some l → l.length = acc.length + ws.length
  | [], acc, l, h => by
    rw [pzL] at h
    cases h
    simp
  | w :: r, acc, l, h => by
    rw [pzL] at h
    cases hq : (psI w).2
    · rw [hq, cond_false] at h
      cases h
    · rw [hq, cond_true] at h
      have := pzL_len r _ l h
      simp at this ⊢
      omega
theorem pzI_len (t : ByteArray) : (pzI t).1.length ≤ t.size + 1 := by
  have hc := Lib.countB_le (⟨#[44]⟩ : ByteArray) (by decide) t.size t (Nat.le_refl _)
  have hl : (splitsB t ⟨#[44]⟩).length = Lib.countB t ⟨#[44]⟩ + 1 := Lib.splitB_all _ (by decide) 0 _ t rfl
  unfold pzI
  cases t.toList == noneB.toList
  · rw [cond_false]
    cases hz : pzL (splitsB t ⟨#[44]⟩) [] with
    | some l =>
      have := pzL_len _ _ _ hz
      simp at this ⊢
      omega
    | none => simp
  · simp
/- impl.ParseContext -/
def K_implParseContext : List AV → List Ob → Option (AV × List Ob)
  | [.str t], [] => gd (t.size ≤ 900 ∧ (atO (cutB t ⟨#[32]⟩).1 || atS (cutB t ⟨#[32]⟩).1) = true) (.tup [.agg [.int .i64 (pcI t).1, .own 0], .bool (pcI t).2.2], [.row 3 (.int .i64) (pcI t).2.1])
  | _, _ => none
@[reducible] def E_implParseContext : Env := mkE (tb [(134, K_cutX), (135, K_parseNumber), (136, K_implParseSets), (38, K_implIsContext)]) (fun f => false) (fun r => ([], []))
theorem ev_implParseContext (t : ByteArray) (hp : t.size ≤ 900 ∧ (atO (cutB t ⟨#[32]⟩).1 || atS (cutB t ⟨#[32]⟩).1) = true) : evF E_implParseContext (1) Tryz.f75 [.str t] [] = some (.tup [.agg [.int .i64 (pcI t).1, .own 0], .bool (pcI t).2.2], [.row 3 (.int .i64) (pcI t).2.1]) := by
  have hs := cut_size t ⟨#[32]⟩
  have hp1 := hp.1
  have hz := pzI_len (cutB t ⟨#[32]⟩).2.1
  conv => lhs; whnf
  conv => lhs; arg 1; whnf
  refine bnd_g (by omega) ?_
  conv => lhs; whnf
  conv => lhs; arg 1; whnf
  refine bnd_g (by exact ⟨by omega, hp.2⟩) ?_
  conv => lhs; whnf
  conv => lhs; arg 1; whnf
  refine bnd_g (by omega) ?_
  conv => lhs; whnf
  refine br_c (fun h1 => ?_) (fun h1 => ?_)
  · have h1' : (!(cutB t ⟨#[32]⟩).2.2) = true := h1
    have e : pcI t = (0, [], false) := by unfold pcI; rw [bnt h1']; rfl
    conv => rhs; rw [e]
    conv => lhs; whnf
    repeat ((first | with_reducible apply br_tt | with_reducible apply br_ff | with_reducible apply br_nf | with_reducible apply br_nt | with_reducible refine br_d ?_ (by kernel_rfl) | with_reducible apply br_t h1 | with_reducible apply br_f h1); conv => lhs; whnf)
  · have h1' : (!(cutB t ⟨#[32]⟩).2.2) = false := h1
    conv => lhs; whnf
    repeat ((first | with_reducible apply br_tt | with_reducible apply br_ff | with_reducible apply br_nf | with_reducible apply br_nt | with_reducible refine br_d ?_ (by kernel_rfl) | with_reducible apply br_t h1 | with_reducible apply br_f h1); conv => lhs; whnf)
    refine br_c (fun h2 => ?_) (fun h2 => ?_)
    · have h2' : (!(rdI (cutB t ⟨#[32]⟩).1 0 999999).2) = true := h2
      have e : pcI t = (0, [], false) := by unfold pcI; rw [bnf h1', bnt h2']; rfl
      conv => rhs; rw [e]
      conv => lhs; whnf
      repeat ((first | with_reducible apply br_tt | with_reducible apply br_ff | with_reducible apply br_nf | with_reducible apply br_nt | with_reducible refine br_d ?_ (by kernel_rfl) | with_reducible apply br_t h1 | with_reducible apply br_f h1 | with_reducible apply br_t h2 | with_reducible apply br_f h2); conv => lhs; whnf)
    · have h2' : (!(rdI (cutB t ⟨#[32]⟩).1 0 999999).2) = false := h2
      conv => lhs; whnf
      repeat ((first | with_reducible apply br_tt | with_reducible apply br_ff | with_reducible apply br_nf | with_reducible apply br_nt | with_reducible refine br_d ?_ (by kernel_rfl) | with_reducible apply br_t h1 | with_reducible apply br_f h1 | with_reducible apply br_t h2 | with_reducible apply br_f h2); conv => lhs; whnf)
      refine br_c (fun h3 => ?_) (fun h3 => ?_)
      · have h3' : (!(pzI (cutB t ⟨#[32]⟩).2.1).2) = true := h3
        have e : pcI t = (0, [], false) := by unfold pcI; rw [bnf h1', bnf h2', bnt h3']; rfl
        conv => rhs; rw [e]
        conv => lhs; whnf
        repeat ((first | with_reducible apply br_tt | with_reducible apply br_ff | with_reducible apply br_nf | with_reducible apply br_nt | with_reducible refine br_d ?_ (by kernel_rfl) | with_reducible apply br_t h1 | with_reducible apply br_f h1 | with_reducible apply br_t h2 | with_reducible apply br_f h2 | with_reducible apply br_t h3 | with_reducible apply br_f h3); conv => lhs; whnf)
      · have h3' : (!(pzI (cutB t ⟨#[32]⟩).2.1).2) = false := h3
        conv => lhs; whnf
        repeat ((first | with_reducible apply br_tt | with_reducible apply br_ff | with_reducible apply br_nf | with_reducible apply br_nt | with_reducible refine br_d ?_ (by kernel_rfl) | with_reducible apply br_t h1 | with_reducible apply br_f h1 | with_reducible apply br_t h2 | with_reducible apply br_f h2 | with_reducible apply br_t h3 | with_reducible apply br_f h3); conv => lhs; whnf)
        conv => lhs; arg 1; whnf
        refine bnd_g (by omega) ?_
        conv => lhs; whnf
        repeat ((first | with_reducible apply br_tt | with_reducible apply br_ff | with_reducible apply br_nf | with_reducible apply br_nt | with_reducible refine br_d ?_ (by kernel_rfl) | with_reducible apply br_t h1 | with_reducible apply br_f h1 | with_reducible apply br_t h2 | with_reducible apply br_f h2 | with_reducible apply br_t h3 | with_reducible apply br_f h3); conv => lhs; whnf)
        refine br_c (fun h4 => ?_) (fun h4 => ?_)
        · have h4' : (!isCtx (rdI (cutB t ⟨#[32]⟩).1 0 999999).1 (pzI (cutB t ⟨#[32]⟩).2.1).1) = true := h4
          have e : pcI t = (0, [], false) := by unfold pcI; rw [bnf h1', bnf h2', bnf h3', bnt h4']; rfl
          conv => rhs; rw [e]
          conv => lhs; whnf
          repeat ((first | with_reducible apply br_tt | with_reducible apply br_ff | with_reducible apply br_nf | with_reducible apply br_nt | with_reducible refine br_d ?_ (by kernel_rfl) | with_reducible apply br_t h1 | with_reducible apply br_f h1 | with_reducible apply br_t h2 | with_reducible apply br_f h2 | with_reducible apply br_t h3 | with_reducible apply br_f h3 | with_reducible apply br_t h4 | with_reducible apply br_f h4); conv => lhs; whnf)
        · have h4' : (!isCtx (rdI (cutB t ⟨#[32]⟩).1 0 999999).1 (pzI (cutB t ⟨#[32]⟩).2.1).1) = false := h4
          have e : pcI t = ((rdI (cutB t ⟨#[32]⟩).1 0 999999).1, (pzI (cutB t ⟨#[32]⟩).2.1).1, true) := by unfold pcI; rw [bnf h1', bnf h2', bnf h3', bnf h4']; rfl
          conv => rhs; rw [e]
          conv => lhs; whnf
          repeat ((first | with_reducible apply br_tt | with_reducible apply br_ff | with_reducible apply br_nf | with_reducible apply br_nt | with_reducible refine br_d ?_ (by kernel_rfl) | with_reducible apply br_t h1 | with_reducible apply br_f h1 | with_reducible apply br_t h2 | with_reducible apply br_f h2 | with_reducible apply br_t h3 | with_reducible apply br_f h3 | with_reducible apply br_t h4 | with_reducible apply br_f h4); conv => lhs; whnf)
theorem ok_implParseContext : FnOk Tryz.prog 75 K_implParseContext := by
  refine fn_ok (fn := Tryz.f75) (k := Tryz.f75.ntmps) (E := E_implParseContext) (facts_of (List.forall_mem_cons.2 ⟨ok_cutX, List.forall_mem_cons.2 ⟨ok_parseNumber, List.forall_mem_cons.2 ⟨ok_implParseSets, List.forall_mem_cons.2 ⟨(FnOk.soft (fun h => False.elim h) ok_implIsContext), List.forall_mem_nil _⟩⟩⟩⟩)) (by kernel_rfl) rfl (by decide +kernel) (by decide +kernel) ?_
  intro avs hin r h
  unfold K_implParseContext at h
  split at h
  · obtain ⟨hp, rfl⟩ := gd_o h
    exact ⟨_, ev_implParseContext _ hp, rfl⟩
  · cases h

abbrev Cu := Int × Int
def curH (h : Int) : Int := IntKind.i64.wrap (IntKind.i64.wrap (h * 6364136223846793005) + 1442695040888963407)
def curX (h : Int) : Int := IntKind.i64.wrap ↑(BitVec.ofInt IntKind.i64.bits (IntKind.i64.wrap ↑(BitVec.ofInt IntKind.i64.bits ((curH h).fdiv (2 ^ min (Int.toNat 33) IntKind.i64.bits)) ^^^ BitVec.ofInt IntKind.i64.bits ((curH h).fdiv (2 ^ min (Int.toNat 45) IntKind.i64.bits))).toNat) &&& BitVec.ofInt IntKind.i64.bits 255).toNat
def curV (b : List Int) (c : Cu) : Int := if c.1 < b.length then band (IntKind.i64.wrap (curX c.2 + IntKind.i64.wrap (b.getD c.1.toNat 0))) 255 else curX c.2
def nx (b : List Int) (c : Cu) : Cu := (if c.1 < b.length then c.1 + 1 else c.1, curH c.2)
abbrev CuOk (b : List Int) (i : Int) : Prop := 0 ≤ i ∧ i ≤ b.length ∧ b.length ≤ 1048576
theorem nx_ok {b : List Int} {c : Cu} (h : CuOk b c.1) : CuOk b (nx b c).1 := by
  unfold nx
  dsimp only
  split
  · exact ⟨by omega, by omega, h.2.2⟩
  · exact h
theorem band_byte (x : Int) : 0 ≤ band x 255 ∧ band x 255 ≤ 255 := by
  unfold band
  have h : (BitVec.ofInt IntKind.i64.bits x &&& BitVec.ofInt IntKind.i64.bits 255).toNat ≤ 255 := by
    rw [BitVec.toNat_and]
    exact Nat.and_le_right
  rw [wrap64 (by omega) (by omega)]
  omega
theorem curV_rng (b : List Int) (c : Cu) : 0 ≤ curV b c ∧ curV b c ≤ 255 := by
  unfold curV
  split
  · exact band_byte _
  · exact band_byte _
def be (b : List Int) (c : Cu) (n : Int) : Int := (curV b c).tmod n
theorem be_rng (b : List Int) (c : Cu) {n : Int} (h : 0 < n) : 0 ≤ be b c n ∧ be b c n < n := by
  have := curV_rng b c
  unfold be
  exact ⟨Int.tmod_nonneg _ this.1, Int.tmod_lt_of_pos _ h⟩
def shlI (n : Int) : Int := IntKind.i64.wrap (1 * 2 ^ min n.toNat IntKind.i64.bits)
theorem shlI_nat {n : Nat} (h : n ≤ 8) : shlI (n : Int) = ((2 ^ n : Nat) : Int) := shl1 (by omega)
theorem shlI_rng {n : Int} (h0 : 0 ≤ n) (h8 : n ≤ 8) : 1 ≤ shlI n ∧ shlI n ≤ 256 := by
  obtain ⟨k, rfl⟩ : ∃ k : Nat, n = k := ⟨n.toNat, by omega⟩
  have h8 : 2 ^ k ≤ 2 ^ 8 := Nat.pow_le_pow_right (by omega) (by omega)
  have hp := Nat.two_pow_pos k
  rw [shlI_nat (by omega)]
  omega
def splS (s : ByteArray) (c : Int) : Nat → Nat → Nat → List ByteArray
  | 0, _, _ => []
  | d + 1, i, f => bif ((i : Int) == (s.size : Int)) || (byteN s i == c) then s.extract f i :: splS s c d (i + 1) (i + 1) else splS s c d (i + 1) f
def splB (s : ByteArray) (c : Int) : List ByteArray := splS s c (s.size + 1) 0 0
theorem splS_len (s : ByteArray) (c : Int) : ∀ (d i f : Nat), (splS s c d i f).length ≤ d
  | 0, _, _ => Nat.le_refl 0
  | d + 1, i, f => by
    rw [splS]
    have h1 := splS_len s c d (i + 1) (i + 1)
    have h2 := splS_len s c d (i + 1) f
    cases ((i : Int) == (s.size : Int)) || (byteN s i == c)
    · rw [cond_false]; omega
    · rw [cond_true, List.length_cons]; omega
def dashB : ByteArray := ⟨#[45]⟩
def psA (t : ByteArray) : Nat → Nat → Int → Int
  | 0, _, s => s
  | d + 1, i, s => psA t d (i + 1) (bor s (shlI (byteN t i - 97)))
def psS (t : ByteArray) : Int := bif t.toList == dashB.toList then 0 else psA t t.size 0 0
/-- A word that spells a set. -/
def okWp (t : ByteArray) : Bool := (t.toList == dashB.toList || t.data.toList.all (fun b => decide (97 ≤ b.toNat ∧ b.toNat ≤ 104))) && (setTx (psS t)).toList == t.toList
/-- One digit. -/
def okD (s : ByteArray) : Bool := (decide (s.size = 1) && decide (48 ≤ byteN s 0 ∧ byteN s 0 ≤ 57)) && (itoaB (byteN s 0 - 48)).toList == s.toList
theorem byte_all {t : ByteArray} {p : UInt8 → Bool} (h : t.data.toList.all p = true) {i : Nat} (hi : i < t.size) : p (t.data.toList.getD i 0) = true := by
  have hl : i < t.data.toList.length := hi
  refine List.all_eq_true.1 h _ ?_
  rw [List.getD_eq_getElem?_getD, List.getElem?_eq_getElem hl]
  exact List.getElem_mem hl
/- spec.SplitByte -/
def K_specSplit : List AV → List Ob → Option (AV × List Ob)
  | [.str s, .int .u8 c], [] => gd (s.size ≤ 1000) (.own 0, [.row 9 .str (splB s c)])
  | _, _ => none
@[reducible] def E_specSplit : Env := mkE (tb []) (fun f => false) (fun r => bif r == 4 then ([0, 1, 5, 6, 7], [5]) else ([], []))
theorem lp_specSplit (s : ByteArray) (c : Int) (hs : s.size ≤ 1000) (k : AX → S → Option (AV × List Ob)) (d : Nat) : ∀ (n i f : Nat) (x y : Int) (zs : List ByteArray), s.size + 1 - i = d → i ≤ s.size + 1 → x = i → d < n → zs.length ≤ i → f ≤ i → y = f →
    lpAt E_specSplit (lp E_specSplit 0 n) 0 (loopAt Tryz.f77 0) (mkS [0, 1, 5, 6, 7] [.str s, .int .u8 c, .own 0, .int .i64 y, .int .i64 x] [some (.row 9 .str zs)]) k =
      k (.exit 0) (mkS [5] [.own 0] [some (.row 9 .str (zs ++ splS s c d i f))]) := by
  induction d with
  | zero =>
    intro n i f x y zs hd hi hx hn hz hf hy
    subst hx hy
    rw [lpAt_def]
    conv => lhs; whnf
    refine br_f (df (by omega)) ?_
    conv => lhs; whnf
    rw [splS, List.append_nil]
  | succ d ih =>
    intro n i f x y zs hd hi hx hn hz hf hy
    obtain ⟨n, rfl⟩ : ∃ m, n = m + 1 := ⟨n - 1, by omega⟩
    subst hx hy
    rw [lpAt_def]
    conv => lhs; whnf
    refine br_t (dt (by omega)) ?_
    conv => lhs; whnf
    refine br_c (fun h1 => ?_) (fun h1 => ?_)
    · have h1' : ((i : Int) == (s.size : Int)) = true := h1
      have h1n : i = s.size := by have := eq_of_beq h1'; omega
      have e : splS s c (d + 1) i f = s.extract f i :: splS s c d (i + 1) (i + 1) := by rw [splS, h1', Bool.true_or, cond_true]
      conv => rhs; rw [e]
      conv => lhs; whnf
      repeat ((first | with_reducible apply br_tt | with_reducible apply br_ff | with_reducible apply br_nf | with_reducible apply br_nt | with_reducible refine br_d ?_ (by kernel_rfl) | with_reducible apply br_t h1 | with_reducible apply br_f h1); conv => lhs; whnf)
      refine br_t (by rw [dt (show 0 ≤ (f : Int) by omega), dt (show (f : Int) ≤ (i : Int) by omega), dt (show (i : Int) ≤ (s.size : Int) by omega)]; rfl) ?_
      conv => lhs; whnf
      refine br_t (dt (by simp [room]; omega)) ?_
      conv => lhs; whnf
      refine (ih n (i + 1) (i + 1) (IntKind.i64.wrap ((i : Int) + 1)) (IntKind.i64.wrap ((i : Int) + 1)) _ (by omega) (by omega) (by rw [wrap64 (n := (i : Int) + 1) (by omega) (by omega)]; simp) (by omega) (by simp; omega) (by omega) (by rw [wrap64 (n := (i : Int) + 1) (by omega) (by omega)]; simp)).trans ?_
      simp only [List.append_assoc]
      rfl
    · have h1' : ((i : Int) == (s.size : Int)) = false := h1
      have h1n : i < s.size := by
        have : (i : Int) ≠ (s.size : Int) := by simpa using h1'
        omega
      conv => lhs; whnf
      repeat ((first | with_reducible apply br_tt | with_reducible apply br_ff | with_reducible apply br_nf | with_reducible apply br_nt | with_reducible refine br_d ?_ (by kernel_rfl) | with_reducible apply br_t h1 | with_reducible apply br_f h1); conv => lhs; whnf)
      refine br_t (dt2 (by omega) (by omega)) ?_
      conv => lhs; whnf
      repeat ((first | with_reducible apply br_tt | with_reducible apply br_ff | with_reducible apply br_nf | with_reducible apply br_nt | with_reducible refine br_d ?_ (by kernel_rfl) | with_reducible apply br_t h1 | with_reducible apply br_f h1); conv => lhs; whnf)
      refine br_c (fun h2 => ?_) (fun h2 => ?_)
      · have h2' : (byteN s i == c) = true := h2
        have e : splS s c (d + 1) i f = s.extract f i :: splS s c d (i + 1) (i + 1) := by rw [splS, h2', Bool.or_true, cond_true]
        conv => rhs; rw [e]
        conv => lhs; whnf
        refine br_t (by rw [dt (show 0 ≤ (f : Int) by omega), dt (show (f : Int) ≤ (i : Int) by omega), dt (show (i : Int) ≤ (s.size : Int) by omega)]; rfl) ?_
        conv => lhs; whnf
        refine br_t (dt (by simp [room]; omega)) ?_
        conv => lhs; whnf
        refine (ih n (i + 1) (i + 1) (IntKind.i64.wrap ((i : Int) + 1)) (IntKind.i64.wrap ((i : Int) + 1)) _ (by omega) (by omega) (by rw [wrap64 (n := (i : Int) + 1) (by omega) (by omega)]; simp) (by omega) (by simp; omega) (by omega) (by rw [wrap64 (n := (i : Int) + 1) (by omega) (by omega)]; simp)).trans ?_
        simp only [List.append_assoc]
        rfl
      · have h2' : (byteN s i == c) = false := h2
        have e : splS s c (d + 1) i f = splS s c d (i + 1) f := by rw [splS, h1', h2', Bool.or_false, cond_false]
        conv => rhs; rw [e]
        conv => lhs; whnf
        exact ih n (i + 1) f (IntKind.i64.wrap ((i : Int) + 1)) f zs (by omega) (by omega) (by rw [wrap64 (n := (i : Int) + 1) (by omega) (by omega)]; simp) (by omega) (by omega) (by omega) rfl
theorem ev_specSplit (s : ByteArray) (c : Int) (hp : s.size ≤ 1000) : evF E_specSplit (1100) Tryz.f77 [.str s, .int .u8 c] [] = some (.own 0, [.row 9 .str (splB s c)]) := by
  conv => lhs; whnf
  refine (lp_specSplit s c hp _ (s.size + 1) _ 0 0 0 0 [] rfl (by omega) rfl (by change _ < 1099; omega) (by simp) (by omega) rfl).trans ?_
  conv => lhs; whnf
  all_goals rfl
theorem ok_specSplit : FnOk Tryz.prog 77 K_specSplit := by
  refine fn_ok (fn := Tryz.f77) (k := Tryz.f77.ntmps) (E := E_specSplit) (facts_of (List.forall_mem_nil _)) (by kernel_rfl) rfl (by decide +kernel) (by decide +kernel) ?_
  intro avs hin r h
  unfold K_specSplit at h
  split at h
  · obtain ⟨hp, rfl⟩ := gd_o h
    exact ⟨_, ev_specSplit _ _ hp, rfl⟩
  · cases h

/- spec.l1Read -/
def K_l1Read : List AV → List Ob → Option (AV × List Ob)
  | [.str s, .int .i64 12], [] => gd (okD s = true) (.tup [.int .i64 (byteN s 0 - 48), .bool true], [])
  | _, _ => none
@[reducible] def E_l1Read : Env := mkE (tb [(62, K_specFormatInt)]) (fun f => false) (fun r => bif r == 9 then ([0, 6, 7, 8, 9], [0, 4, 5, 6, 8]) else ([], []))
theorem lp_l1Read (s : ByteArray) (hs : s.size = 1) (hb : 48 ≤ byteN s 0 ∧ byteN s 0 ≤ 57) (f : Bool) (k : AX → S → Option (AV × List Ob)) (n : Nat) :
    lpAt E_l1Read (lp E_l1Read 0 (n + 2)) 0 (loopAt Tryz.f138 0) (mkS [0, 6, 7, 8, 9] [.str s, .bool f, .str s, .int .i64 0, .int .i64 0] []) k =
      k (.exit 0) (mkS [0, 4, 5, 6, 8] [.str s, .any, .any, .bool f, .int .i64 (byteN s 0 - 48)] []) := by
  have hb' : 48 ≤ ((s.data.toList.getD (Int.toNat 0) 0).toNat : Int) ∧ ((s.data.toList.getD (Int.toNat 0) 0).toNat : Int) ≤ 57 := hb
  have h1 : decide (((s.data.toList.getD (Int.toNat 0) 0).toNat : Int) < 48) = false := df (by omega)
  have h2 : decide (((s.data.toList.getD (Int.toNat 0) 0).toNat : Int) > 57) = false := df (by omega)
  rw [lpAt_def]
  conv => lhs; whnf
  refine br_t (dt (by omega)) ?_
  conv => lhs; whnf
  refine br_t (dt2 (by omega) (by omega)) ?_
  conv => lhs; whnf
  repeat ((first | with_reducible apply br_tt | with_reducible apply br_ff | with_reducible apply br_nf | with_reducible apply br_nt | with_reducible refine br_d ?_ (by kernel_rfl) | with_reducible apply br_t h1 | with_reducible apply br_f h1); conv => lhs; whnf)
  refine br_t (dt2 (by omega) (by omega)) ?_
  conv => lhs; whnf
  repeat ((first | with_reducible apply br_tt | with_reducible apply br_ff | with_reducible apply br_nf | with_reducible apply br_nt | with_reducible refine br_d ?_ (by kernel_rfl) | with_reducible apply br_t h1 | with_reducible apply br_f h1 | with_reducible apply br_t h2 | with_reducible apply br_f h2); conv => lhs; whnf)
  refine br_t (dt2 (by omega) (by omega)) ?_
  conv => lhs; whnf
  repeat ((first | with_reducible apply br_tt | with_reducible apply br_ff | with_reducible apply br_nf | with_reducible apply br_nt | with_reducible refine br_d ?_ (by kernel_rfl) | with_reducible apply br_t h1 | with_reducible apply br_f h1 | with_reducible apply br_t h2 | with_reducible apply br_f h2); conv => lhs; whnf)
  rw [lpAt_def]
  conv => lhs; whnf
  refine br_f (df (by rw [wrap64 (n := (0 : Int) + 1) (by omega) (by omega)]; omega)) ?_
  conv => lhs; whnf
  have e1 : IntKind.u8.wrap (byteN s 0 - 48) = byteN s 0 - 48 := by simp [IntKind.wrap, IntKind.bits, IntKind.signed]; omega
  have e2 : IntKind.i64.wrap (IntKind.i64.wrap (10 * 0) + IntKind.i64.wrap (IntKind.u8.wrap (byteN s 0 - 48))) = byteN s 0 - 48 := by
    rw [e1, wrap64 (n := byteN s 0 - 48) (by omega) (by omega), wrap64 (n := 10 * 0) (by omega) (by omega), wrap64 (by omega) (by omega)]
    omega
  exact congrArg (fun z => k (.exit 0) (mkS [0, 4, 5, 6, 8] [.str s, .any, .any, .bool f, .int .i64 z] [])) e2
theorem ev_l1Read (s : ByteArray) (hp : okD s = true) : evF E_l1Read (10) Tryz.f138 [.str s, .int .i64 12] [] = some (.tup [.int .i64 (byteN s 0 - 48), .bool true], []) := by
  have h0 := hp
  unfold okD at h0
  have h1 := Bool.and_eq_true_iff.1 h0
  have h2 := Bool.and_eq_true_iff.1 h1.1
  have hs : s.size = 1 := of_decide_eq_true h2.1
  have hb : 48 ≤ byteN s 0 ∧ byteN s 0 ≤ 57 := of_decide_eq_true h2.2
  have ht := h1.2
  have h45 : (byteN s 0 == 45) = false := by
    rw [← Bool.not_eq_true, beq_iff_eq]
    omega
  have hn : (!((itoaB (byteN s 0 - 48)).toList == s.toList)) = false := by rw [ht]; rfl
  have h45' : (((s.data.toList.getD (Int.toNat 0) 0).toNat : Int) == 45) = false := h45
  conv => lhs; whnf
  repeat ((first | with_reducible apply br_tt | with_reducible apply br_ff | with_reducible apply br_nf | with_reducible apply br_nt | with_reducible refine br_d ?_ (by kernel_rfl) | with_reducible apply br_t h45' | with_reducible apply br_f h45' | with_reducible refine br_t (dt2 (by omega) (by omega)) ?_ | with_reducible refine br_t (dt (by omega)) ?_); conv => lhs; whnf)
  repeat ((first | with_reducible apply br_tt | with_reducible apply br_ff | with_reducible apply br_nf | with_reducible apply br_nt | with_reducible refine br_d ?_ (by kernel_rfl) | with_reducible refine br_t (dt (by omega)) ?_ | with_reducible refine br_f (df (by omega)) ?_ | with_reducible refine br_t (dt2 (by omega) (by omega)) ?_); conv => lhs; whnf)
  refine (lp_l1Read s hs hb _ _ 7).trans ?_
  conv => lhs; whnf
  repeat ((first | with_reducible apply br_tt | with_reducible apply br_ff | with_reducible apply br_nf | with_reducible apply br_nt | with_reducible refine br_d ?_ (by kernel_rfl) | with_reducible apply br_t h45' | with_reducible apply br_f h45'); conv => lhs; whnf)
  conv => lhs; arg 1; whnf
  refine bnd_g (by omega) ?_
  conv => lhs; whnf
  refine br_f (by exact hn) ?_
  conv => lhs; whnf
theorem ok_l1Read : FnOk Tryz.prog 138 K_l1Read := by
  refine fn_ok (fn := Tryz.f138) (k := Tryz.f138.ntmps) (E := E_l1Read) (facts_of (List.forall_mem_cons.2 ⟨ok_specFormatInt, List.forall_mem_nil _⟩)) (by kernel_rfl) rfl (by decide +kernel) (by decide +kernel) ?_
  intro avs hin r h
  unfold K_l1Read at h
  split at h
  · obtain ⟨hp, rfl⟩ := gd_o h
    exact ⟨_, ev_l1Read _ hp, rfl⟩
  · cases h

/- spec.ParseInt -/
def K_specParseInt : List AV → List Ob → Option (AV × List Ob)
  | [.str s], [] => gd (okD s = true) (.tup [.int .i64 (byteN s 0 - 48), .bool true], [])
  | _, _ => none
@[reducible] def E_specParseInt : Env := mkE (tb [(138, K_l1Read)]) (fun f => false) (fun r => ([], []))
theorem ev_specParseInt (s : ByteArray) (hp : okD s = true) : evF E_specParseInt (1) Tryz.f78 [.str s] [] = some (.tup [.int .i64 (byteN s 0 - 48), .bool true], []) := by
  conv => lhs; whnf
  conv => lhs; arg 1; whnf
  refine bnd_g (by exact hp) ?_
  conv => lhs; whnf
theorem ok_specParseInt : FnOk Tryz.prog 78 K_specParseInt := by
  refine fn_ok (fn := Tryz.f78) (k := Tryz.f78.ntmps) (E := E_specParseInt) (facts_of (List.forall_mem_cons.2 ⟨ok_l1Read, List.forall_mem_nil _⟩)) (by kernel_rfl) rfl (by decide +kernel) (by decide +kernel) ?_
  intro avs hin r h
  unfold K_specParseInt at h
  split at h
  · obtain ⟨hp, rfl⟩ := gd_o h
    exact ⟨_, ev_specParseInt _ hp, rfl⟩
  · cases h

/- spec.ParseSet -/
def K_specParseSet : List AV → List Ob → Option (AV × List Ob)
  | [.str t], [] => gd (t.size ≤ 1000 ∧ okWp t = true) (.tup [.int .i64 (psS t), .bool true], [])
  | _, _ => none
@[reducible] def E_specParseSet : Env := mkE (tb [(139, K_specSetText)]) (fun f => false) (fun r => bif r == 3 then ([0, 4, 5], [0, 2, 3, 4]) else ([], []))
theorem w8 {n : Int} (h0 : 0 ≤ n) (h1 : n ≤ 255) : IntKind.u8.wrap n = n := by simp [IntKind.wrap, IntKind.bits, IntKind.signed]; omega
theorem lp_specParseSet (t : ByteArray) (hs : t.size ≤ 1000) (hd' : (t.toList == dashB.toList) = false) (hb : ∀ i : Nat, i < t.size → 97 ≤ ((t.data.toList.getD (i : Int).toNat 0).toNat : Int) ∧ ((t.data.toList.getD (i : Int).toNat 0).toNat : Int) ≤ 104) (k : AX → S → Option (AV × List Ob)) (d : Nat) : ∀ (n i : Nat) (x q : Int), t.size - i = d → i ≤ t.size → x = i → d < n →
    lpAt E_specParseSet (lp E_specParseSet 0 n) 0 (loopAt Tryz.f79 0) (mkS [0, 4, 5] [.str t, .int .i64 q, .int .i64 x] []) k =
      k (.exit 0) (mkS [0, 2, 3, 4] [.str t, .any, .any, .int .i64 (psA t d i q)] []) := by
  have hd2 : (!(t.toList == (⟨#[45]⟩ : ByteArray).toList)) = true := by
    have h : (!(t.toList == dashB.toList)) = true := by rw [hd']; rfl
    exact h
  induction d with
  | zero =>
    intro n i x q hd hi hx hn
    subst hx
    have h0 : decide ((i : Int) < (t.size : Int)) = false := df (by omega)
    rw [lpAt_def]
    conv => lhs; whnf
    repeat ((first | with_reducible apply br_tt | with_reducible apply br_ff | with_reducible apply br_nf | with_reducible apply br_nt | with_reducible refine br_d ?_ (by kernel_rfl) | with_reducible apply br_t h0 | with_reducible apply br_f h0); conv => lhs; whnf)
    rw [psA]
  | succ d ih =>
    intro n i x q hd hi hx hn
    obtain ⟨n, rfl⟩ : ∃ m, n = m + 1 := ⟨n - 1, by omega⟩
    subst hx
    have hb1 := hb i (by omega)
    have h0 : decide ((i : Int) < (t.size : Int)) = true := dt (by omega)
    have h1 : decide (((t.data.toList.getD (i : Int).toNat 0).toNat : Int) < 97) = false := df (by omega)
    have h2 : decide (((t.data.toList.getD (i : Int).toNat 0).toNat : Int) > 104) = false := df (by omega)
    rw [lpAt_def]
    conv => lhs; whnf
    repeat ((first | with_reducible apply br_tt | with_reducible apply br_ff | with_reducible apply br_nf | with_reducible apply br_nt | with_reducible refine br_d ?_ (by kernel_rfl) | with_reducible apply br_t h0 | with_reducible apply br_f h0 | with_reducible apply br_t hd2 | with_reducible apply br_f hd2 | with_reducible apply br_t h1 | with_reducible apply br_f h1 | with_reducible apply br_t h2 | with_reducible apply br_f h2 | with_reducible refine br_t (dt2 (by omega) (by omega)) ?_ | with_reducible refine br_t (dt (by omega)) ?_); conv => lhs; whnf)
    have hu8 : IntKind.u8.wrap (((t.data.toList.getD (i : Int).toNat 0).toNat : Int) - 97) = ((t.data.toList.getD (i : Int).toNat 0).toNat : Int) - 97 := w8 (by omega) (by omega)
    have hu : IntKind.u64.wrap (IntKind.u8.wrap (((t.data.toList.getD (i : Int).toNat 0).toNat : Int) - 97)) = ((t.data.toList.getD (i : Int).toNat 0).toNat : Int) - 97 := by rw [hu8]; exact wrapu (by omega) (by omega)
    refine br_f (df (by rw [hu]; omega)) ?_
    conv => lhs; whnf
    have eq : bor q (IntKind.i64.wrap (1 * 2 ^ min (IntKind.u64.wrap (IntKind.u8.wrap (((t.data.toList.getD (i : Int).toNat 0).toNat : Int) - 97))).toNat IntKind.i64.bits)) = bor q (shlI (byteN t i - 97)) := by
      rw [hu]
      rfl
    refine (ih n (i + 1) (IntKind.i64.wrap ((i : Int) + 1)) _ (by omega) (by omega) (by rw [wrap64 (n := (i : Int) + 1) (by omega) (by omega)]; simp) (by omega)).trans ?_
    rw [psA]
    exact congrArg (fun z => k (.exit 0) (mkS [0, 2, 3, 4] [.str t, .any, .any, .int .i64 (psA t d (i + 1) z)] [])) eq
theorem l0_specParseSet (t : ByteArray) (hd' : (t.toList == dashB.toList) = true) (hs : 1 ≤ t.size) (k : AX → S → Option (AV × List Ob)) (n : Nat) :
    lpAt E_specParseSet (lp E_specParseSet 0 (n + 1)) 0 (loopAt Tryz.f79 0) (mkS [0, 4, 5] [.str t, .int .i64 0, .int .i64 0] []) k =
      k (.exit 0) (mkS [0, 2, 3, 4] [.str t, .any, .any, .int .i64 0] []) := by
  have hd2 : (!(t.toList == (⟨#[45]⟩ : ByteArray).toList)) = false := by
    have h : (!(t.toList == dashB.toList)) = false := by rw [hd']; rfl
    exact h
  have h0 : decide ((0 : Int) < (t.size : Int)) = true := dt (by omega)
  rw [lpAt_def]
  conv => lhs; whnf
  repeat ((first | with_reducible apply br_tt | with_reducible apply br_ff | with_reducible apply br_nf | with_reducible apply br_nt | with_reducible refine br_d ?_ (by kernel_rfl) | with_reducible apply br_t h0 | with_reducible apply br_f h0 | with_reducible apply br_t hd2 | with_reducible apply br_f hd2); conv => lhs; whnf)
theorem ev_specParseSet (t : ByteArray) (hp : t.size ≤ 1000 ∧ okWp t = true) : evF E_specParseSet (1100) Tryz.f79 [.str t] [] = some (.tup [.int .i64 (psS t), .bool true], []) := by
  obtain ⟨hs, hok⟩ := hp
  unfold okWp at hok
  have h1 := Bool.and_eq_true_iff.1 hok
  have hn : (!((setTx (psS t)).toList == t.toList)) = false := by rw [h1.2]; rfl
  refine Or.elim (Classical.em ((t.toList == dashB.toList) = true)) (fun hd => ?_) (fun hd => ?_)
  · have hsz : 1 ≤ t.size := by
      have he := eq_of_beq hd
      rw [ByteArray.toList_eq, ByteArray.toList_eq] at he
      have : t.size = t.data.toList.length := rfl
      rw [this, he]
      decide
    have e : psS t = 0 := by unfold psS; rw [hd]; rfl
    rw [e] at hn
    conv => rhs; rw [e]
    conv => lhs; whnf
    refine (l0_specParseSet t hd hsz _ 1098).trans ?_
    conv => lhs; whnf
    conv => lhs; arg 1; whnf
    refine bnd_g (by exact True.intro) ?_
    conv => lhs; whnf
    refine br_f (by exact hn) ?_
    conv => lhs; whnf
  · have hd' : (t.toList == dashB.toList) = false := by simpa using hd
    have ha : t.data.toList.all (fun b => decide (97 ≤ b.toNat ∧ b.toNat ≤ 104)) = true := by
      have := h1.1
      rw [hd', Bool.false_or] at this
      exact this
    have hb : ∀ i : Nat, i < t.size → 97 ≤ ((t.data.toList.getD (i : Int).toNat 0).toNat : Int) ∧ ((t.data.toList.getD (i : Int).toNat 0).toNat : Int) ≤ 104 := fun i hi => by
      have := of_decide_eq_true (byte_all ha hi)
      rw [Int.toNat_natCast]
      omega
    have e : psS t = psA t t.size 0 0 := by unfold psS; rw [hd', cond_false]
    rw [e] at hn
    conv => rhs; rw [e]
    conv => lhs; whnf
    refine (lp_specParseSet t hs hd' hb _ t.size _ 0 0 0 rfl (by omega) rfl (by change _ < 1099; omega)).trans ?_
    conv => lhs; whnf
    conv => lhs; arg 1; whnf
    refine bnd_g (by exact True.intro) ?_
    conv => lhs; whnf
    refine br_f (by exact hn) ?_
    conv => lhs; whnf
theorem ok_specParseSet : FnOk Tryz.prog 79 K_specParseSet := by
  refine fn_ok (fn := Tryz.f79) (k := Tryz.f79.ntmps) (E := E_specParseSet) (facts_of (List.forall_mem_cons.2 ⟨ok_specSetText, List.forall_mem_nil _⟩)) (by kernel_rfl) rfl (by decide +kernel) (by decide +kernel) ?_
  intro avs hin r h
  unfold K_specParseSet at h
  split at h
  · obtain ⟨hp, rfl⟩ := gd_o h
    exact ⟨_, ev_specParseSet _ hp, rfl⟩
  · cases h

theorem setTx_ok (a : List Int) : okTxt (a.map setTx) = true := by
  rw [okTxt_iff]
  intro y hy
  obtain ⟨s, _, rfl⟩ := List.mem_map.1 hy
  have := setTx_size s
  omega
def ctxTx (m : Int) (a : List Int) : ByteArray := bif isCtx m a then (itoaB m ++ ⟨#[32]⟩) ++ setsTx a else ⟨#[]⟩
theorem setsTx_size (a : List Int) : (setsTx a).size ≤ 1048576 := by
  unfold setsTx
  cases a.all (isSet 8)
  · rw [cond_false]; decide
  · rw [cond_true]
    cases (a.length : Int) == 0
    · rw [cond_false]
      unfold joinF
      split
      · assumption
      · decide
    · rw [cond_true]; decide
def wd (t : ByteArray) (i : Nat) : ByteArray := (splB t 32).getD i ByteArray.empty
def rowsS (t : ByteArray) : List Int := bif (wd t 1).toList == noneB.toList then [] else (splB (wd t 1) 44).map psS
def okCS (t : ByteArray) : Bool := (decide ((splB t 32).length = 2) && okD (wd t 0)) && ((((wd t 1).toList == noneB.toList) || (splB (wd t 1) 44).all okWp) && (isCtx (byteN (wd t 0) 0 - 48) (rowsS t) && ((ctxTx (byteN (wd t 0) 0 - 48) (rowsS t)).toList == t.toList)))
def pcS (t : ByteArray) : Int × List Int × Bool := bif okCS t then (byteN (wd t 0) 0 - 48, rowsS t, true) else (0, [], false)
theorem splS_size (s : ByteArray) (c : Int) : ∀ (d i f : Nat), ∀ w ∈ splS s c d i f, w.size ≤ s.size
  | 0, _, _, w, h => by cases h
  | d + 1, i, f, w, h => by
    rw [splS] at h
    cases hc : ((i : Int) == (s.size : Int)) || (byteN s i == c)
    · rw [hc, cond_false] at h
      exact splS_size s c d _ _ w h
    · rw [hc, cond_true] at h
      rcases List.mem_cons.1 h with rfl | h
      · rw [ByteArray.size_extract]
        omega
      · exact splS_size s c d _ _ w h
theorem splB_size {s : ByteArray} {c : Int} {w : ByteArray} (h : w ∈ splB s c) : w.size ≤ s.size := splS_size s c _ _ _ w h
theorem splS_pos (s : ByteArray) (c : Int) : ∀ (d i f : Nat), i + d = s.size + 1 → 0 < d → 0 < (splS s c d i f).length
  | 0, _, _, _, h => by omega
  | d + 1, i, f, h, _ => by
    rw [splS]
    cases hc : ((i : Int) == (s.size : Int)) || (byteN s i == c)
    · rw [cond_false]
      have : (i : Int) ≠ (s.size : Int) := by
        rw [Bool.or_eq_false_iff] at hc
        simpa using hc.1
      exact splS_pos s c d (i + 1) f (by omega) (by omega)
    · rw [cond_true, List.length_cons]
      omega
/- spec.SetsText -/
def K_specSetsText : List AV → List Ob → Option (AV × List Ob)
  | [.lst (.int .i64) a], [] => gd (a.length ≤ 1048576) (.str (setsTx a), [])
  | _, _ => none
@[reducible] def E_specSetsText : Env := mkE (tb [(189, K_l2Sets), (139, K_specSetText), (123, K_specJoin)]) (fun f => false) (fun r => bif r == 7 then ([0, 3, 4], [3]) else ([], []))
theorem lp_specSetsText (a : List Int) (ha : a.length ≤ 1048576) (k : AX → S → Option (AV × List Ob)) (d : Nat) : ∀ (n i : Nat) (x : Int) (zs : List ByteArray), a.length - i = d → i ≤ a.length → x = i → d < n → zs.length ≤ i →
    lpAt E_specSetsText (lp E_specSetsText 0 n) 0 (loopAt Tryz.f140 0) (mkS [0, 3, 4] [.lst (.int .i64) a, .own 0, .int .i64 x] [some (.row 9 .str zs)]) k =
      k (.exit 0) (mkS [3] [.own 0] [some (.row 9 .str (zs ++ (a.drop i).map setTx))]) := by
  induction d with
  | zero =>
    intro n i x zs hd hi hx hn hz
    subst hx
    rw [lpAt_def]
    conv => lhs; whnf
    refine br_f (df (by omega)) ?_
    conv => lhs; whnf
    rw [List.drop_of_length_le (by omega)]
    simp
  | succ d ih =>
    intro n i x zs hd hi hx hn hz
    obtain ⟨n, rfl⟩ : ∃ m, n = m + 1 := ⟨n - 1, by omega⟩
    subst hx
    rw [lpAt_def]
    conv => lhs; whnf
    refine br_t (dt (by omega)) ?_
    conv => lhs; whnf
    refine br_t (dt2 (by omega) (by omega)) ?_
    conv => lhs; whnf
    conv => lhs; arg 1; whnf
    refine bnd_g (by exact True.intro) ?_
    conv => lhs; whnf
    refine br_t (dt (by simp [room]; omega)) ?_
    conv => lhs; whnf
    repeat ((first | with_reducible apply br_tt | with_reducible apply br_ff | with_reducible apply br_nf | with_reducible apply br_nt | with_reducible refine br_d ?_ (by kernel_rfl)); conv => lhs; whnf)
    rw [getD_drop (l := a) (i := i) (d := 0) (by omega), List.map_cons]
    refine Eq.trans (ih n (i + 1) _ _ (by omega) (by omega) (by rw [wrap64 (n := (i : Int) + 1) (by omega) (by omega)]; simp) (by omega) (by simp; omega)) ?_
    simp only [List.append_assoc]
    rfl
theorem ev_specSetsText (a : List Int) (hp : a.length ≤ 1048576) : evF E_specSetsText (a.length + 2) Tryz.f140 [.lst (.int .i64) a] [] = some (.str (setsTx a), []) := by
  have hlen : (a.map setTx).length = a.length := List.length_map _
  unfold setsTx
  conv => lhs; whnf
  conv => lhs; arg 1; whnf
  refine bnd_g (by exact hp) ?_
  conv => lhs; whnf
  refine br_c (fun h => ?_) (fun h => ?_)
  · rw [bnt h]
    conv => lhs; whnf
    rfl
  · rw [bnf h]
    conv => lhs; whnf
    refine br_c (fun h2 => ?_) (fun h2 => ?_)
    · have h' : ((a.length : Int) == 0) = true := h2
      rw [h']
      conv => lhs; whnf
      rfl
    · have h' : ((a.length : Int) == 0) = false := h2
      rw [h']
      conv => lhs; whnf
      refine (lp_specSetsText a hp _ a.length _ 0 0 [] rfl (Nat.zero_le _) rfl (by omega) (by simp)).trans ?_
      rw [List.drop_zero, List.nil_append]
      conv => lhs; whnf
      conv => lhs; arg 1; whnf
      refine bnd_g (by exact ⟨by omega, setTx_ok a, by decide⟩) ?_
      conv => lhs; whnf
      rfl
theorem ok_specSetsText : FnOk Tryz.prog 140 K_specSetsText := by
  refine fn_ok (fn := Tryz.f140) (k := Tryz.f140.ntmps) (E := E_specSetsText) (facts_of (List.forall_mem_cons.2 ⟨(FnOk.soft (fun h => False.elim h) ok_l2Sets), List.forall_mem_cons.2 ⟨ok_specSetText, List.forall_mem_cons.2 ⟨ok_specJoin, List.forall_mem_nil _⟩⟩⟩)) (by kernel_rfl) rfl (by decide +kernel) (by decide +kernel) ?_
  intro avs hin r h
  unfold K_specSetsText at h
  split at h
  · obtain ⟨hp, rfl⟩ := gd_o h
    exact ⟨_, ev_specSetsText _ hp, rfl⟩
  · cases h

/- spec.ContextText -/
def K_specContextText : List AV → List Ob → Option (AV × List Ob)
  | [.agg [.int .i64 m, .lst (.int .i64) a]], [] => gd (a.length ≤ 1048576) (.str (ctxTx m a), [])
  | _, _ => none
@[reducible] def E_specContextText : Env := mkE (tb [(60, K_specIsContext), (62, K_specFormatInt), (140, K_specSetsText)]) (fun f => false) (fun r => ([], []))
theorem ev_specContextText (m : Int) (a : List Int) (hp : a.length ≤ 1048576) : evF E_specContextText (1) Tryz.f80 [.agg [.int .i64 m, .lst (.int .i64) a]] [] = some (.str (ctxTx m a), []) := by
  conv => lhs; whnf
  conv => lhs; arg 1; whnf
  refine bnd_g (by omega) ?_
  conv => lhs; whnf
  refine br_c (fun h => ?_) (fun h => ?_)
  · have e : ctxTx m a = ⟨#[]⟩ := by unfold ctxTx; rw [bnt h]; rfl
    conv => rhs; rw [e]
    conv => lhs; whnf
  · have h' := bnf h
    have hl := isCtx_len h'
    have e : ctxTx m a = (itoaB m ++ ⟨#[32]⟩) ++ setsTx a := by unfold ctxTx; rw [h']; rfl
    have s1 := itoa_len (n := m) (by omega) (by omega)
    have s2 := setsTx_size a
    have s3 : (itoaB m ++ (⟨#[32]⟩ : ByteArray)).size ≤ 30 := by
      rw [ByteArray.size_append]
      have : (⟨#[32]⟩ : ByteArray).size = 1 := rfl
      omega
    conv => rhs; rw [e]
    conv => lhs; whnf
    conv => lhs; arg 1; whnf
    refine bnd_g (by exact ⟨by omega, by omega⟩) ?_
    conv => lhs; whnf
    refine br_t (dt (by have : (⟨#[32]⟩ : ByteArray).size = 1 := rfl; omega)) ?_
    conv => lhs; whnf
    conv => lhs; arg 1; whnf
    refine bnd_g (by omega) ?_
    conv => lhs; whnf
    refine br_t (dt (by omega)) ?_
    conv => lhs; whnf
    refine br_t (by kernel_rfl) ?_
    conv => lhs; whnf
    all_goals rfl
theorem ok_specContextText : FnOk Tryz.prog 80 K_specContextText := by
  refine fn_ok (fn := Tryz.f80) (k := Tryz.f80.ntmps) (E := E_specContextText) (facts_of (List.forall_mem_cons.2 ⟨(FnOk.soft (fun h => False.elim h) ok_specIsContext), List.forall_mem_cons.2 ⟨ok_specFormatInt, List.forall_mem_cons.2 ⟨ok_specSetsText, List.forall_mem_nil _⟩⟩⟩)) (by kernel_rfl) rfl (by decide +kernel) (by decide +kernel) ?_
  intro avs hin r h
  unfold K_specContextText at h
  split at h
  · obtain ⟨hp, rfl⟩ := gd_o h
    exact ⟨_, ev_specContextText _ _ hp, rfl⟩
  · cases h

/- spec.ParseContext -/
def K_specParseContext : List AV → List Ob → Option (AV × List Ob)
  | [.str t], [] => gd (t.size ≤ 900 ∧ (okCS t || decide ((splB t 32).length ≠ 2)) = true) (.tup [.agg [.int .i64 (pcS t).1, .own 0], .bool (pcS t).2.2], [.row 3 (.int .i64) (pcS t).2.1])
  | _, _ => none
@[reducible] def E_specParseContext : Env := mkE (tb [(77, K_specSplit), (78, K_specParseInt), (79, K_specParseSet), (80, K_specContextText)]) (fun f => false) (fun r => bif r == 8 then ([0, 2, 4, 6, 7, 8, 9], [0, 2, 3, 6, 7]) else ([], []))
theorem lp_specParseContext (t : ByteArray) (m : Int) (ws ps : List ByteArray) (hw : ws.length = 2) (hn : ((ws.getD 1 ByteArray.empty).toList == noneB.toList) = false) (hp : ps.length ≤ 2000) (hps : ∀ p ∈ ps, p.size ≤ 1000 ∧ okWp p = true) (k : AX → S → Option (AV × List Ob)) (d : Nat) : ∀ (n i : Nat) (x : Int) (zs : List Int), ps.length - i = d → i ≤ ps.length → x = i → d < n → zs.length ≤ i →
    lpAt E_specParseContext (lp E_specParseContext 0 n) 0 (loopAt Tryz.f31 0) (mkS [0, 2, 4, 6, 7, 8, 9] [.str t, .ptr 0 0, .own 2, .bool true, .ptr 3 0, .own 5, .int .i64 x] [some (.box 26 [.int .i64 0, .own 1]), some (.row 3 (.int .i64) []), some (.row 9 .str ws), some (.box 26 [.int .i64 m, .own 4]), some (.row 3 (.int .i64) zs), some (.row 9 .str ps)]) k =
      k (.exit 0) (mkS [0, 2, 3, 6, 7] [.str t, .ptr 0 0, .any, .bool true, .ptr 2 0] [some (.box 26 [.int .i64 0, .own 1]), some (.row 3 (.int .i64) []), some (.box 26 [.int .i64 m, .own 3]), some (.row 3 (.int .i64) (zs ++ (ps.drop i).map psS))]) := by
  have hn2 : (!((ws.getD (Int.toNat 1) ByteArray.empty).toList == (⟨#[110, 111, 110, 101]⟩ : ByteArray).toList)) = true := by
    have h : (!((ws.getD 1 ByteArray.empty).toList == noneB.toList)) = true := by rw [hn]; rfl
    exact h
  induction d with
  | zero =>
    intro n i x zs hd hi hx hn' hz
    subst hx
    have h0 : decide ((i : Int) < (ps.length : Int)) = false := df (by omega)
    rw [lpAt_def]
    conv => lhs; whnf
    repeat ((first | with_reducible apply br_tt | with_reducible apply br_ff | with_reducible apply br_nf | with_reducible apply br_nt | with_reducible refine br_d ?_ (by kernel_rfl) | with_reducible apply br_t h0 | with_reducible apply br_f h0); conv => lhs; whnf)
    rw [List.drop_of_length_le (by omega), List.map_nil, List.append_nil]
  | succ d ih =>
    intro n i x zs hd hi hx hn' hz
    obtain ⟨n, rfl⟩ : ∃ m, n = m + 1 := ⟨n - 1, by omega⟩
    subst hx
    have h0 : decide ((i : Int) < (ps.length : Int)) = true := dt (by omega)
    have hpi := hps _ (mem_getD (d := ByteArray.empty) (show i < ps.length by omega))
    rw [lpAt_def]
    conv => lhs; whnf
    repeat ((first | with_reducible apply br_tt | with_reducible apply br_ff | with_reducible apply br_nf | with_reducible apply br_nt | with_reducible refine br_d ?_ (by kernel_rfl) | with_reducible apply br_t h0 | with_reducible apply br_f h0 | with_reducible apply br_t hn2 | with_reducible apply br_f hn2 | with_reducible refine br_t (dt2 (by omega) (by omega)) ?_ | with_reducible refine br_t (dt (by omega)) ?_); conv => lhs; whnf)
    refine br_t (by exact hn2) ?_
    conv => lhs; whnf
    repeat ((first | with_reducible apply br_tt | with_reducible apply br_ff | with_reducible apply br_nf | with_reducible apply br_nt | with_reducible refine br_d ?_ (by kernel_rfl) | with_reducible refine br_t (dt2 (by omega) (by omega)) ?_ | with_reducible refine br_t (dt (by omega)) ?_); conv => lhs; whnf)
    conv => lhs; arg 1; whnf
    refine bnd_g (by exact hpi) ?_
    conv => lhs; whnf
    repeat ((first | with_reducible apply br_tt | with_reducible apply br_ff | with_reducible apply br_nf | with_reducible apply br_nt | with_reducible refine br_d ?_ (by kernel_rfl) | with_reducible refine br_t (dt2 (by omega) (by omega)) ?_ | with_reducible refine br_t (dt (by omega)) ?_); conv => lhs; whnf)
    refine br_t (dt (by simp [room]; omega)) ?_
    conv => lhs; whnf
    refine (ih n (i + 1) (IntKind.i64.wrap ((i : Int) + 1)) _ (by omega) (by omega) (by rw [wrap64 (n := (i : Int) + 1) (by omega) (by omega)]; simp) (by omega) (by simp; omega)).trans ?_
    rw [getD_drop (l := ps) (i := i) (d := ByteArray.empty) (by omega), List.map_cons]
    simp only [List.append_assoc]
    rfl
theorem l0_specParseContext (t : ByteArray) (m : Int) (ws ps : List ByteArray) (hw : ws.length = 2) (hn : ((ws.getD 1 ByteArray.empty).toList == noneB.toList) = true) (hp : 0 < ps.length) (k : AX → S → Option (AV × List Ob)) (n : Nat) :
    lpAt E_specParseContext (lp E_specParseContext 0 (n + 1)) 0 (loopAt Tryz.f31 0) (mkS [0, 2, 4, 6, 7, 8, 9] [.str t, .ptr 0 0, .own 2, .bool true, .ptr 3 0, .own 5, .int .i64 0] [some (.box 26 [.int .i64 0, .own 1]), some (.row 3 (.int .i64) []), some (.row 9 .str ws), some (.box 26 [.int .i64 m, .own 4]), some (.row 3 (.int .i64) []), some (.row 9 .str ps)]) k =
      k (.exit 0) (mkS [0, 2, 3, 6, 7] [.str t, .ptr 0 0, .any, .bool true, .ptr 2 0] [some (.box 26 [.int .i64 0, .own 1]), some (.row 3 (.int .i64) []), some (.box 26 [.int .i64 m, .own 3]), some (.row 3 (.int .i64) [])]) := by
  have hn2 : (!((ws.getD (Int.toNat 1) ByteArray.empty).toList == (⟨#[110, 111, 110, 101]⟩ : ByteArray).toList)) = false := by
    have h : (!((ws.getD 1 ByteArray.empty).toList == noneB.toList)) = false := by rw [hn]; rfl
    exact h
  have h0 : decide ((0 : Int) < (ps.length : Int)) = true := dt (by omega)
  rw [lpAt_def]
  conv => lhs; whnf
  repeat ((first | with_reducible apply br_tt | with_reducible apply br_ff | with_reducible apply br_nf | with_reducible apply br_nt | with_reducible refine br_d ?_ (by kernel_rfl) | with_reducible apply br_t h0 | with_reducible apply br_f h0 | with_reducible refine br_t (dt2 (by omega) (by omega)) ?_ | with_reducible refine br_t (dt (by omega)) ?_); conv => lhs; whnf)
  refine br_f (by exact hn2) ?_
  conv => lhs; whnf
theorem ev_specParseContext (t : ByteArray) (hp : t.size ≤ 900 ∧ (okCS t || decide ((splB t 32).length ≠ 2)) = true) : evF E_specParseContext (2100) Tryz.f31 [.str t] [] = some (.tup [.agg [.int .i64 (pcS t).1, .own 0], .bool (pcS t).2.2], [.row 3 (.int .i64) (pcS t).2.1]) := by
  have hp1 := hp.1
  refine Or.elim (Classical.em (okCS t = true)) (fun hk => ?_) (fun hk => ?_)
  · have hk' := hk
    unfold okCS at hk'
    have q1 := Bool.and_eq_true_iff.1 hk'
    have q2 := Bool.and_eq_true_iff.1 q1.1
    have q3 := Bool.and_eq_true_iff.1 q1.2
    have q4 := Bool.and_eq_true_iff.1 q3.2
    have h2 : (splB t 32).length = 2 := of_decide_eq_true q2.1
    have hd := q2.2
    have hc := isCtx_len q4.1
    have ht : (!((ctxTx (byteN (wd t 0) 0 - 48) (rowsS t)).toList == t.toList)) = false := by rw [q4.2]; rfl
    have e : pcS t = (byteN (wd t 0) 0 - 48, rowsS t, true) := by unfold pcS; rw [hk]; rfl
    have hl2 : (!(((splB t 32).length : Int) == 2)) = false := by rw [h2]; rfl
    have hs1 : (wd t 1).size ≤ t.size := splB_size (c := 32) (mem_getD (by omega))
    have hpl := splS_len (wd t 1) 44 ((wd t 1).size + 1) 0 0
    have hpl' : (splB (wd t 1) 44).length ≤ (wd t 1).size + 1 := hpl
    have hpp : 0 < (splB (wd t 1) 44).length := splS_pos (wd t 1) 44 _ 0 0 (by omega) (by omega)
    conv => rhs; rw [e]
    conv => lhs; whnf
    conv => lhs; arg 1; whnf
    refine bnd_g (by omega) ?_
    conv => lhs; whnf
    refine br_f (by exact hl2) ?_
    conv => lhs; whnf
    repeat ((first | with_reducible apply br_tt | with_reducible apply br_ff | with_reducible apply br_nf | with_reducible apply br_nt | with_reducible refine br_d ?_ (by kernel_rfl) | with_reducible refine br_t (dt2 (by omega) (by omega)) ?_ | with_reducible refine br_t (dt (by omega)) ?_); conv => lhs; whnf)
    conv => lhs; arg 1; whnf
    refine bnd_g (by exact hd) ?_
    conv => lhs; whnf
    repeat ((first | with_reducible apply br_tt | with_reducible apply br_ff | with_reducible apply br_nf | with_reducible apply br_nt | with_reducible refine br_d ?_ (by kernel_rfl) | with_reducible refine br_t (dt2 (by omega) (by omega)) ?_ | with_reducible refine br_t (dt (by omega)) ?_); conv => lhs; whnf)
    conv => lhs; arg 1; whnf
    refine bnd_g (by (have := hs1; unfold wd at this; exact Nat.le_trans this (by omega))) ?_
    conv => lhs; whnf
    refine Or.elim (Classical.em (((wd t 1).toList == noneB.toList) = true)) (fun hnn => ?_) (fun hnn => ?_)
    · have er : rowsS t = [] := by unfold rowsS; rw [hnn]; rfl
      rw [er] at ht
      conv => rhs; rw [er]
      refine (l0_specParseContext t (byteN (wd t 0) 0 - 48) (splB t 32) (splB (wd t 1) 44) h2 hnn hpp _ 2098).trans ?_
      conv => lhs; whnf
      repeat ((first | with_reducible apply br_tt | with_reducible apply br_ff | with_reducible apply br_nf | with_reducible apply br_nt | with_reducible refine br_d ?_ (by kernel_rfl)); conv => lhs; whnf)
      conv => lhs; arg 1; whnf
      refine bnd_g (by simp) ?_
      conv => lhs; whnf
      repeat ((first | with_reducible apply br_tt | with_reducible apply br_ff | with_reducible apply br_nf | with_reducible apply br_nt | with_reducible refine br_d ?_ (by kernel_rfl)); conv => lhs; whnf)
      refine br_f (by exact ht) ?_
      conv => lhs; whnf
      repeat ((first | with_reducible apply br_tt | with_reducible apply br_ff | with_reducible apply br_nf | with_reducible apply br_nt | with_reducible refine br_d ?_ (by kernel_rfl)); conv => lhs; whnf)
    · have hnf : ((wd t 1).toList == noneB.toList) = false := by simpa using hnn
      have er : rowsS t = (splB (wd t 1) 44).map psS := by unfold rowsS; rw [hnf, cond_false]
      have hall : ∀ p ∈ splB (wd t 1) 44, p.size ≤ 1000 ∧ okWp p = true := fun p hp => by
        have g1 := splB_size hp
        have g2 := q3.1
        rw [hnf, Bool.false_or] at g2
        exact ⟨by omega, List.all_eq_true.1 g2 p hp⟩
      rw [er] at ht
      conv => rhs; rw [er]
      refine (lp_specParseContext t (byteN (wd t 0) 0 - 48) (splB t 32) (splB (wd t 1) 44) h2 hnf (by omega) hall _ (splB (wd t 1) 44).length _ 0 0 [] rfl (by omega) rfl (by change _ < 2099; omega) (by simp)).trans ?_
      rw [List.drop_zero, List.nil_append]
      conv => lhs; whnf
      repeat ((first | with_reducible apply br_tt | with_reducible apply br_ff | with_reducible apply br_nf | with_reducible apply br_nt | with_reducible refine br_d ?_ (by kernel_rfl)); conv => lhs; whnf)
      conv => lhs; arg 1; whnf
      refine bnd_g (by (rw [List.length_map]; omega)) ?_
      conv => lhs; whnf
      repeat ((first | with_reducible apply br_tt | with_reducible apply br_ff | with_reducible apply br_nf | with_reducible apply br_nt | with_reducible refine br_d ?_ (by kernel_rfl)); conv => lhs; whnf)
      refine br_f (by exact ht) ?_
      conv => lhs; whnf
      repeat ((first | with_reducible apply br_tt | with_reducible apply br_ff | with_reducible apply br_nf | with_reducible apply br_nt | with_reducible refine br_d ?_ (by kernel_rfl)); conv => lhs; whnf)
  · have hk0 : okCS t = false := by simpa using hk
    have hl : (splB t 32).length ≠ 2 := by
      have := hp.2
      rw [hk0, Bool.false_or] at this
      exact of_decide_eq_true this
    have hl2 : (!(((splB t 32).length : Int) == 2)) = true := by
      rw [Bool.not_eq_true', ← Bool.not_eq_true, beq_iff_eq]
      omega
    have e : pcS t = (0, [], false) := by unfold pcS; rw [hk0]; rfl
    conv => rhs; rw [e]
    conv => lhs; whnf
    conv => lhs; arg 1; whnf
    refine bnd_g (by omega) ?_
    conv => lhs; whnf
    refine br_t (by exact hl2) ?_
    conv => lhs; whnf
theorem ok_specParseContext : FnOk Tryz.prog 31 K_specParseContext := by
  refine fn_ok (fn := Tryz.f31) (k := Tryz.f31.ntmps) (E := E_specParseContext) (facts_of (List.forall_mem_cons.2 ⟨ok_specSplit, List.forall_mem_cons.2 ⟨ok_specParseInt, List.forall_mem_cons.2 ⟨ok_specParseSet, List.forall_mem_cons.2 ⟨ok_specContextText, List.forall_mem_nil _⟩⟩⟩⟩)) (by kernel_rfl) rfl (by decide +kernel) (by decide +kernel) ?_
  intro avs hin r h
  unfold K_specParseContext at h
  split at h
  · obtain ⟨hp, rfl⟩ := gd_o h
    exact ⟨_, ev_specParseContext _ hp, rfl⟩
  · cases h

def exText (k : Int) : ByteArray :=
  if k = 1 then ⟨#[51, 32, 97, 98, 44, 98, 99, 44, 97, 99]⟩ else if k = 2 then ⟨#[51, 32, 97, 44, 97, 98, 44, 97, 98, 99]⟩ else if k = 3 then ⟨#[52, 32, 97, 98, 99, 44, 97, 98, 100, 44, 97, 99, 100, 44, 98, 99, 100]⟩
  else if k = 4 then ⟨#[52, 32, 97, 98, 44, 98, 44, 98, 99, 44, 99, 100]⟩ else if k = 5 then ⟨#[50, 32, 110, 111, 110, 101]⟩ else if k = 6 then ⟨#[48, 32, 45]⟩ else ⟨#[]⟩
/- impl.ExampleText -/
def K_implExampleText : List AV → List Ob → Option (AV × List Ob)
  | [.int .i64 k], [] => gd (True) (.str (exText k), [])
  | _, _ => none
@[reducible] def E_implExampleText : Env := mkE (tb [(81, K_within)]) (fun f => false) (fun r => ([], []))
theorem ev_implExampleText (k : Int) (hp : True) : evF E_implExampleText (1) Tryz.f32 [.int .i64 k] [] = some (.str (exText k), []) := by
  conv => lhs; whnf
  conv => lhs; arg 1; whnf
  refine bnd_g (by exact True.intro) ?_
  conv => lhs; whnf
  refine br_c (fun h1 => ?_) (fun h1 => ?_)
  · conv => lhs; whnf
    simp at h1
    have : exText k = ⟨#[]⟩ := by
      unfold exText
      repeat rw [if_neg (by omega)]
    rw [this]
  · conv => lhs; whnf
    simp at h1
    have hk : k = 1 ∨ k = 2 ∨ k = 3 ∨ k = 4 ∨ k = 5 ∨ k = 6 := by omega
    rcases hk with rfl | rfl | rfl | rfl | rfl | rfl
    all_goals
      refine br_t (by decide) ?_
      conv => lhs; whnf
      refine br_t (by decide) ?_
      conv => lhs; whnf
      rfl
theorem ok_implExampleText : FnOk Tryz.prog 32 K_implExampleText := by
  refine fn_ok (fn := Tryz.f32) (k := Tryz.f32.ntmps) (E := E_implExampleText) (facts_of (List.forall_mem_cons.2 ⟨(FnOk.soft (fun h => False.elim h) ok_within), List.forall_mem_nil _⟩)) (by kernel_rfl) rfl (by decide +kernel) (by decide +kernel) ?_
  intro avs hin r h
  unfold K_implExampleText at h
  split at h
  · obtain ⟨hp, rfl⟩ := gd_o h
    exact ⟨_, ev_implExampleText _ hp, rfl⟩
  · cases h

/- spec.ExampleText -/
def K_specExampleText : List AV → List Ob → Option (AV × List Ob)
  | [.int .i64 k], [] => gd (True) (.str (exText k), [])
  | _, _ => none
@[reducible] def E_specExampleText : Env := mkE (tb []) (fun f => false) (fun r => ([], []))
theorem ev_specExampleText (k : Int) (hp : True) : evF E_specExampleText (1) Tryz.f33 [.int .i64 k] [] = some (.str (exText k), []) := by
  conv => lhs; whnf
  refine br_c (fun h1 => ?_) (fun h1 => ?_)
  · conv => lhs; whnf
    simp at h1
    subst h1
    rfl
  · conv => lhs; whnf
    refine br_c (fun h2 => ?_) (fun h2 => ?_)
    · conv => lhs; whnf
      simp at h2
      subst h2
      rfl
    · conv => lhs; whnf
      refine br_c (fun h3 => ?_) (fun h3 => ?_)
      · conv => lhs; whnf
        simp at h3
        subst h3
        rfl
      · conv => lhs; whnf
        refine br_c (fun h4 => ?_) (fun h4 => ?_)
        · conv => lhs; whnf
          simp at h4
          subst h4
          rfl
        · conv => lhs; whnf
          refine br_c (fun h5 => ?_) (fun h5 => ?_)
          · conv => lhs; whnf
            simp at h5
            subst h5
            rfl
          · conv => lhs; whnf
            refine br_c (fun h6 => ?_) (fun h6 => ?_)
            · conv => lhs; whnf
              simp at h6
              subst h6
              rfl
            · conv => lhs; whnf
              simp at h1 h2 h3 h4 h5 h6
              simp [exText, h1, h2, h3, h4, h5, h6]
theorem ok_specExampleText : FnOk Tryz.prog 33 K_specExampleText := by
  refine fn_ok (fn := Tryz.f33) (k := Tryz.f33.ntmps) (E := E_specExampleText) (facts_of (List.forall_mem_nil _)) (by kernel_rfl) rfl (by decide +kernel) (by decide +kernel) ?_
  intro avs hin r h
  unfold K_specExampleText at h
  split at h
  · obtain ⟨hp, rfl⟩ := gd_o h
    exact ⟨_, ev_specExampleText _ hp, rfl⟩
  · cases h

end Go.Sym
