/- Functions of the program, each told as a plain equation. -/
import Derived.Test.YtmphbdhjdalgnaaGreatDoorSymMD
namespace Go.Sym
open Go.Proofs
set_option linter.unusedVariables false
set_option linter.unusedSimpArgs false
set_option maxRecDepth 100000
set_option maxHeartbeats 4000000

/- laws.big -/
def K_bigL : List AV → List Ob → Option (AV × List Ob)
  | [.lst (.int .u8) b], [] => gd (True) (.bool (decide ((b.length : Int) > 1048576)), [])
  | _, _ => none
@[reducible] def E_bigL : Env := mkE (tb []) (fun f => false) (fun r => ([], []))
theorem ev_bigL (b : List Int) (hp : True) : evF E_bigL (1) Tryz.f4 [.lst (.int .u8) b] [] = some (.bool (decide ((b.length : Int) > 1048576)), []) := by
  conv => lhs; whnf
theorem ok_bigL : FnOk Tryz.prog 4 K_bigL := by
  refine fn_ok (fn := Tryz.f4) (k := Tryz.f4.ntmps) (E := E_bigL) (facts_of (List.forall_mem_nil _)) (by kernel_rfl) rfl (by decide +kernel) (by decide +kernel) ?_
  intro avs hin r h
  unfold K_bigL at h
  split at h
  · obtain ⟨hp, rfl⟩ := gd_o h
    exact ⟨_, ev_bigL _ hp, rfl⟩
  · cases h

/- laws.sameInts -/
def K_sameInts : List AV → List Ob → Option (AV × List Ob)
  | [.lst (.int .i64) a, .lst (.int .i64) b], [] => gd (a.length < 4611686018427387904 ∧ b.length < 4611686018427387904) (.bool (decide (a = b)), [])
  | _, _ => none
@[reducible] def E_sameInts : Env := mkE (tb []) (fun f => false) (fun r => bif r == 4 then ([0, 1, 5], [4]) else ([], []))
theorem lp_sameInts (a b : List Int) (hl : a.length = b.length) (ha : a.length < 4611686018427387904) (k : AX → S → Option (AV × List Ob)) (d : Nat) : ∀ (n i : Nat) (x : Int), a.length - i = d → i ≤ a.length → x = i → d < n →
    lpAt E_sameInts (lp E_sameInts 0 n) 0 (loopAt Tryz.f10 0) (mkS [0, 1, 5] [.lst (.int .i64) a, .lst (.int .i64) b, .int .i64 x] []) k =
      if a.drop i = b.drop i then k (.exit 0) (mkS [4] [.any] []) else k .ret (mkS [4] [.bool false] []) := by
  induction d with
  | zero =>
    intro n i x hd hi hx hn
    subst hx
    rw [lpAt_def]
    conv => lhs; whnf
    refine br_f (df (by omega)) ?_
    conv => lhs; whnf
    rw [if_pos (by rw [List.drop_of_length_le (by omega), List.drop_of_length_le (by omega)])]
  | succ d ih =>
    intro n i x hd hi hx hn
    obtain ⟨n, rfl⟩ : ∃ m, n = m + 1 := ⟨n - 1, by omega⟩
    subst hx
    rw [lpAt_def]
    conv => lhs; whnf
    refine br_t (dt (by omega)) ?_
    conv => lhs; whnf
    refine br_t (dt2 (by omega) (by omega)) ?_
    conv => lhs; whnf
    refine br_t (dt2 (by omega) (by omega)) ?_
    conv => lhs; whnf
    rw [getD_drop (l := a) (i := i) (d := 0) (by omega), getD_drop (l := b) (i := i) (d := 0) (by omega)]
    refine br_t (by kernel_rfl) ?_
    conv => lhs; whnf
    refine br_c (fun h => ?_) (fun h => ?_)
    · conv => lhs; whnf
      rw [if_neg]
      intro he
      have := (List.cons.inj he).1
      simp at h
      exact h this
    · conv => lhs; whnf
      rw [ih n (i + 1) _ (by omega) (by omega) (by rw [wrap64 (by omega) (by omega)]; simp) (by omega)]
      simp at h
      rw [List.getD_eq_getElem?_getD, List.getD_eq_getElem?_getD, h]
      simp
theorem ev_sameInts (a b : List Int) (hp : a.length < 4611686018427387904 ∧ b.length < 4611686018427387904) : evF E_sameInts (a.length + 2) Tryz.f10 [.lst (.int .i64) a, .lst (.int .i64) b] [] = some (.bool (decide (a = b)), []) := by
  conv => lhs; whnf
  refine br_c (fun h => ?_) (fun h => ?_)
  · conv => lhs; whnf
    have : a ≠ b := by
      rintro rfl
      simp at h
    simp [this]
  · conv => lhs; whnf
    have hl : a.length = b.length := by simp at h; omega
    refine (lp_sameInts a b hl hp.1 _ _ _ 0 0 rfl (by omega) rfl (by omega)).trans ?_
    simp only [List.drop_zero]
    split
    · rename_i he
      conv => lhs; whnf
      simp [he]
    · rename_i he
      conv => lhs; whnf
      simp [he]
theorem ok_sameInts : FnOk Tryz.prog 10 K_sameInts := by
  refine fn_ok (fn := Tryz.f10) (k := Tryz.f10.ntmps) (E := E_sameInts) (facts_of (List.forall_mem_nil _)) (by kernel_rfl) rfl (by decide +kernel) (by decide +kernel) ?_
  intro avs hin r h
  unfold K_sameInts at h
  split at h
  · obtain ⟨hp, rfl⟩ := gd_o h
    exact ⟨_, ev_sameInts _ _ hp, rfl⟩
  · cases h

def pick4 (x y z w : Int) (b : List Int) (c : Cu) : Int := [x, y, z, w].getD (be b c 4).toNat 0
/-- A set, mostly, and the cursor behind it. -/
def bent2 (b : List Int) (c : Cu) : Int := bif be b c 8 == 0 then pick4 (-1) 256 1000 (-9223372036854775808) b (nx b c) else be b (nx b c) 256
def mkRows (b : List Int) (m : Int) : Nat → Cu → List Int × Cu
  | 0, c => ([], c)
  | d + 1, c => bif be b c 2 == 0 then
      (be b (nx b c) (shlI m) :: (mkRows b m d (nx b (nx b c))).1, (mkRows b m d (nx b (nx b c))).2)
    else (bor (be b (nx b c) (shlI m)) (be b (nx b (nx b c)) (shlI m)) :: (mkRows b m d (nx b (nx b (nx b c)))).1, (mkRows b m d (nx b (nx b (nx b c)))).2)
theorem mkRows_ok {b : List Int} {m : Int} : ∀ (d : Nat) (c : Cu), CuOk b c.1 → (mkRows b m d c).1.length = d ∧ CuOk b (mkRows b m d c).2.1
  | 0, c, h => ⟨rfl, h⟩
  | d + 1, c, h => by
    have h1 := mkRows_ok (m := m) d (nx b (nx b c)) (nx_ok (nx_ok h))
    have h2 := mkRows_ok (m := m) d (nx b (nx b (nx b c))) (nx_ok (nx_ok (nx_ok h)))
    unfold mkRows
    cases be b c 2 == 0
    · exact ⟨by rw [cond_false, List.length_cons, h2.1], h2.2⟩
    · exact ⟨by rw [cond_true, List.length_cons, h1.1], h1.2⟩
def make3 (b : List Int) (m o : Int) (c : Cu) : List Int × Cu := mkRows b m (be b c (o + 1)).toNat (nx b c)
theorem make3_ok {b : List Int} {m o : Int} {c : Cu} (h : CuOk b c.1) (ho : 0 ≤ o) : ((make3 b m o c).1.length : Int) ≤ o ∧ CuOk b (make3 b m o c).2.1 := by
  have h1 := mkRows_ok (m := m) (be b c (o + 1)).toNat (nx b c) (nx_ok h)
  have h2 := be_rng b c (n := o + 1) (by omega)
  unfold make3
  exact ⟨by omega, h1.2⟩
def draw3m (b : List Int) (c : Cu) : Int := ([0, 1, 2, 3, 3, 4, 4, 5, 5] : List Int).getD (be b c 9).toNat 0
theorem draw3m_rng (b : List Int) (c : Cu) : 0 ≤ draw3m b c ∧ draw3m b c ≤ 5 := by
  have h := be_rng b c (n := 9) (by omega)
  unfold draw3m
  obtain ⟨k, hk⟩ : ∃ k : Nat, be b c 9 = k := ⟨(be b c 9).toNat, by omega⟩
  rw [hk] at h ⊢
  have : ∀ k : Fin 9, 0 ≤ ([0, 1, 2, 3, 3, 4, 4, 5, 5] : List Int).getD ((k.val : Int)).toNat 0 ∧ ([0, 1, 2, 3, 3, 4, 4, 5, 5] : List Int).getD ((k.val : Int)).toNat 0 ≤ 5 := by decide
  exact this ⟨k, by omega⟩
/-- A context: attributes, rows, and the cursor behind it. -/
def draw3 (b : List Int) (c : Cu) : Int × List Int × Cu := (draw3m b c, make3 b (draw3m b c) 6 (nx b c))
theorem draw3_ok {b : List Int} {c : Cu} (h : CuOk b c.1) : (0 ≤ (draw3 b c).1 ∧ (draw3 b c).1 ≤ 5) ∧ (draw3 b c).2.1.length ≤ 6 ∧ CuOk b (draw3 b c).2.2.1 := by
  have h1 := make3_ok (b := b) (m := draw3m b c) (o := 6) (nx_ok h) (by omega)
  exact ⟨draw3m_rng b c, by have := h1.1; unfold draw3; dsimp only; omega, h1.2⟩
def pad9 (a : List Int) : List Int := a ++ List.replicate (9 - a.length) 0
def bent3' (b : List Int) (x : Int × List Int × Cu) : Int × List Int × Cu :=
  bif be b x.2.2 14 == 0 then (pick4 (-1) 0 2 7 b (nx b x.2.2), x.2.1, nx b (nx b x.2.2))
  else bif be b x.2.2 14 == 1 then (x.1, x.2.1 ++ [bent2 b (nx b x.2.2)], nx b (nx b (nx b x.2.2)))
  else bif be b x.2.2 14 == 2 then (x.1, pad9 x.2.1, nx b x.2.2) else (x.1, x.2.1, nx b x.2.2)
def bent3 (b : List Int) (c : Cu) : Int × List Int × Cu := bent3' b (draw3 b c)
theorem bent3_ok {b : List Int} {c : Cu} (h : CuOk b c.1) : (bent3 b c).2.1.length ≤ 9 ∧ CuOk b (bent3 b c).2.2.1 := by
  obtain ⟨h1, h2, h3⟩ := draw3_ok h
  unfold bent3
  generalize draw3 b c = x at h1 h2 h3
  unfold bent3'
  have n1 := nx_ok h3
  have n2 := nx_ok n1
  have n3 := nx_ok n2
  cases be b x.2.2 14 == 0
  · cases be b x.2.2 14 == 1
    · cases be b x.2.2 14 == 2
      · exact ⟨by simp only [cond_false]; omega, n1⟩
      · refine ⟨?_, n1⟩
        simp only [cond_false, cond_true, pad9, List.length_append, List.length_replicate]
        omega
    · refine ⟨?_, n3⟩
      simp only [cond_false, cond_true, List.length_append, List.length_singleton]
      omega
  · exact ⟨by simp only [cond_true]; omega, n2⟩
def newL (b : List Int) : Nat → Nat → Int → Int
  | 0, _, h => h
  | d + 1, i, h => newL b d (i + 1) (band (IntKind.i64.wrap (IntKind.i64.wrap (IntKind.i64.wrap (h * 131) + IntKind.i64.wrap (b.getD i 0)) + 7)) 1073741823)
def newC (b : List Int) : Cu := (0, newL b (min b.length 4000) 0 (IntKind.i64.wrap (26583 + b.length)))
theorem newC_ok {b : List Int} (h : b.length ≤ 1048576) : CuOk b (newC b).1 := ⟨Int.le_refl 0, Int.natCast_nonneg _, h⟩
/-- A context with a set of its attributes, mostly. -/
def att4 (b : List Int) (c : Cu) : Int × List Int × Int :=
  bif be b (nx b (draw3 b c).2.2) 16 == 0 then ((bent3 b (nx b (nx b (draw3 b c).2.2))).1, (bent3 b (nx b (nx b (draw3 b c).2.2))).2.1, be b (draw3 b c).2.2 (shlI (draw3 b c).1))
  else bif be b (nx b (draw3 b c).2.2) 16 == 1 then ((draw3 b c).1, (draw3 b c).2.1, bent2 b (nx b (nx b (draw3 b c).2.2)))
  else ((draw3 b c).1, (draw3 b c).2.1, be b (draw3 b c).2.2 (shlI (draw3 b c).1))
theorem att4_len {b : List Int} {c : Cu} (h : CuOk b c.1) : (att4 b c).2.1.length ≤ 9 := by
  obtain ⟨h1, h2, h3⟩ := draw3_ok h
  have h4 := bent3_ok (b := b) (c := nx b (nx b (draw3 b c).2.2)) (nx_ok (nx_ok h3))
  unfold att4
  cases be b (nx b (draw3 b c).2.2) 16 == 0
  · cases be b (nx b (draw3 b c).2.2) 16 == 1
    · simp only [cond_false]; omega
    · simp only [cond_false, cond_true]; omega
  · simp only [cond_true]; exact h4.1
def d21 (b : List Int) (c : Cu) : Int × List Int × Cu :=
  bif be b c 12 == 0 then bent3 b (nx b c)
  else bif be b (make3 b (be b (nx b c) 5) 5 (nx b (nx b c))).2 3 == 0 then (3, [6, 5, 3], nx b (make3 b (be b (nx b c) 5) 5 (nx b (nx b c))).2)
  else (be b (nx b c) 5, (make3 b (be b (nx b c) 5) 5 (nx b (nx b c))).1, nx b (make3 b (be b (nx b c) 5) 5 (nx b (nx b c))).2)
theorem d21_len {b : List Int} {c : Cu} (h : CuOk b c.1) : (d21 b c).2.1.length ≤ 9 := by
  have h1 := (bent3_ok (nx_ok h)).1
  have h2 := (make3_ok (b := b) (m := be b (nx b c) 5) (o := 5) (c := nx b (nx b c)) (nx_ok (nx_ok h)) (by omega)).1
  unfold d21
  cases be b c 12 == 0
  · rw [cond_false]
    cases be b (make3 b (be b (nx b c) 5) 5 (nx b (nx b c))).2 3 == 0
    · rw [cond_false]; dsimp only; omega
    · rw [cond_true]; dsimp only; simp
  · rw [cond_true]; exact h1
def comF (m x : Int) : Int := IntKind.i64.wrap (fullSet m - x)
/- spec.ComplementContext -/
def K_specComplement : List AV → List Ob → Option (AV × List Ob)
  | [.agg [.int .i64 m, .lst (.int .i64) a]], [] => gd (isCtx m a = true) (.tup [.agg [.int .i64 m, .own 0], .bool true], [.row 3 (.int .i64) (a.map (comF m))])
  | _, _ => none
@[reducible] def E_specComplement : Env := mkE (tb [(54, K_specIsContext), (68, K_specFullSet)]) (fun f => false) (fun r => bif r == 5 then ([1, 2, 4, 5], [2, 4]) else ([], []))
theorem lp_specComplement (m : Int) (a : List Int) (ha : a.length ≤ 8) (k : AX → S → Option (AV × List Ob)) (d : Nat) : ∀ (n i : Nat) (x : Int) (zs : List Int), a.length - i = d → i ≤ a.length → x = i → d < n → zs.length ≤ i →
    lpAt E_specComplement (lp E_specComplement 0 n) 0 (loopAt Tryz.f62 0) (mkS [1, 2, 4, 5] [.ptr 0 0, .ptr 1 0, .ptr 3 0, .int .i64 x] [some (.box 26 [.int .i64 m, .lst (.int .i64) a]), some (.box 26 [.int .i64 0, .own 2]), some (.row 3 (.int .i64) []), some (.box 26 [.int .i64 m, .own 4]), some (.row 3 (.int .i64) zs)]) k =
      k (.exit 0) (mkS [2, 4] [.ptr 0 0, .ptr 2 0] [some (.box 26 [.int .i64 0, .own 1]), some (.row 3 (.int .i64) []), some (.box 26 [.int .i64 m, .own 3]), some (.row 3 (.int .i64) (zs ++ (a.drop i).map (comF m)))]) := by
  induction d with
  | zero =>
    intro n i x zs hd hi hx hn hz
    subst hx
    rw [lpAt_def]
    conv => lhs; whnf
    refine br_f (df (by omega)) ?_
    conv => lhs; whnf
    rw [List.drop_of_length_le (by omega), List.map_nil, List.append_nil]
  | succ d ih =>
    intro n i x zs hd hi hx hn hz
    obtain ⟨n, rfl⟩ : ∃ m, n = m + 1 := ⟨n - 1, by omega⟩
    subst hx
    rw [lpAt_def]
    conv => lhs; whnf
    refine br_t (dt (by omega)) ?_
    conv => lhs; whnf
    conv => lhs; arg 1; whnf
    refine bnd_g (by exact True.intro) ?_
    conv => lhs; whnf
    repeat ((first | with_reducible apply br_tt | with_reducible apply br_ff | with_reducible apply br_nf | with_reducible apply br_nt | with_reducible refine br_d ?_ (by kernel_rfl) | with_reducible refine br_t (dt2 (by omega) (by omega)) ?_ | with_reducible refine br_t (dt (by omega)) ?_); conv => lhs; whnf)
    refine br_t (dt (by simp [room]; omega)) ?_
    conv => lhs; whnf
    repeat ((first | with_reducible apply br_tt | with_reducible apply br_ff | with_reducible apply br_nf | with_reducible apply br_nt | with_reducible refine br_d ?_ (by kernel_rfl)); conv => lhs; whnf)
    refine (ih n (i + 1) (IntKind.i64.wrap ((i : Int) + 1)) _ (by omega) (by omega) (by rw [wrap64 (n := (i : Int) + 1) (by omega) (by omega)]; simp) (by omega) (by simp; omega)).trans ?_
    rw [getD_drop (l := a) (i := i) (d := 0) (by omega), List.map_cons]
    simp only [List.append_assoc]
    rfl
theorem ev_specComplement (m : Int) (a : List Int) (hp : isCtx m a = true) : evF E_specComplement (20) Tryz.f62 [.agg [.int .i64 m, .lst (.int .i64) a]] [] = some (.tup [.agg [.int .i64 m, .own 0], .bool true], [.row 3 (.int .i64) (a.map (comF m))]) := by
  have hl := isCtx_len hp
  have h0 : (!isCtx m a) = false := by rw [hp]; rfl
  conv => lhs; whnf
  conv => lhs; arg 1; whnf
  refine bnd_g (by omega) ?_
  conv => lhs; whnf
  refine br_f (by exact h0) ?_
  conv => lhs; whnf
  refine (lp_specComplement m a hl.1 _ a.length _ 0 0 [] rfl (by omega) rfl (by change _ < 19; omega) (by simp)).trans ?_
  conv => lhs; whnf
  all_goals rfl
theorem ok_specComplement : FnOk Tryz.prog 62 K_specComplement := by
  refine fn_ok (fn := Tryz.f62) (k := Tryz.f62.ntmps) (E := E_specComplement) (facts_of (List.forall_mem_cons.2 ⟨ok_specIsContext, List.forall_mem_cons.2 ⟨ok_specFullSet, List.forall_mem_nil _⟩⟩)) (by kernel_rfl) rfl (by decide +kernel) (by decide +kernel) ?_
  intro avs hin r h
  unfold K_specComplement at h
  split at h
  · obtain ⟨hp, rfl⟩ := gd_o h
    exact ⟨_, ev_specComplement _ _ hp, rfl⟩
  · cases h

/- spec.l1Byte -/
def K_l1Byte : List AV → List Ob → Option (AV × List Ob)
  | [.ptr 0 0], [.box 76 [.lst (.int .u8) b, .int .i64 i, .int .i64 h]] => gd (CuOk b i) (.int .i64 (curV b (i, h)), [.box 76 [.lst (.int .u8) b, .int .i64 (nx b (i, h)).1, .int .i64 (nx b (i, h)).2]])
  | _, _ => none
@[reducible] def E_l1Byte : Env := mkE (tb []) (fun f => false) (fun r => ([], []))
theorem ev_l1Byte (b : List Int) (i h : Int) (hp : CuOk b i) : evF E_l1Byte (1) Tryz.f73 [.ptr 0 0] [.box 76 [.lst (.int .u8) b, .int .i64 i, .int .i64 h]] = some (.int .i64 (curV b (i, h)), [.box 76 [.lst (.int .u8) b, .int .i64 (nx b (i, h)).1, .int .i64 (nx b (i, h)).2]]) := by
  have h1 := hp.1
  have h2 := hp.2.1
  have h3 := hp.2.2
  conv => lhs; whnf
  refine br_f (df (by omega)) ?_
  conv => lhs; whnf
  refine br_f (df (by omega)) ?_
  conv => lhs; whnf
  refine br_t (by kernel_rfl) ?_
  conv => lhs; whnf
  refine br_t (by kernel_rfl) ?_
  conv => lhs; whnf
  refine br_c (fun hc => ?_) (fun hc => ?_)
  · have h' := ofd hc
    conv => lhs; whnf
    refine br_t (dt2 (by omega) (by omega)) ?_
    conv => lhs; whnf
    refine br_t (by kernel_rfl) ?_
    conv => lhs; whnf
    have e1 : nx b (i, h) = (i + 1, curH h) := by unfold nx; rw [if_pos h']
    have e2 : curV b (i, h) = band (IntKind.i64.wrap (curX h + IntKind.i64.wrap (b.getD i.toNat 0))) 255 := if_pos h'
    rw [e1, e2, wrap64 (n := i + 1) (by omega) (by omega)]
    rfl
  · have h' := ofn hc
    conv => lhs; whnf
    have e1 : nx b (i, h) = (i, curH h) := by unfold nx; rw [if_neg h']
    have e2 : curV b (i, h) = curX h := if_neg h'
    rw [e1, e2]
    rfl
theorem ok_l1Byte : FnOk Tryz.prog 73 K_l1Byte := by
  refine fn_ok (fn := Tryz.f73) (k := Tryz.f73.ntmps) (E := E_l1Byte) (facts_of (List.forall_mem_nil _)) (by kernel_rfl) rfl (by decide +kernel) (by decide +kernel) ?_
  intro avs hin r h
  unfold K_l1Byte at h
  split at h
  · obtain ⟨hp, rfl⟩ := gd_o h
    exact ⟨_, ev_l1Byte _ _ _ hp, rfl⟩
  · cases h

/- spec.l1Below -/
def K_l1Below : List AV → List Ob → Option (AV × List Ob)
  | [.ptr 0 0, .int .i64 n], [.box 76 [.lst (.int .u8) b, .int .i64 i, .int .i64 h]] => gd (CuOk b i ∧ 1 ≤ n ∧ n ≤ 256) (.int .i64 (be b (i, h) n), [.box 76 [.lst (.int .u8) b, .int .i64 (nx b (i, h)).1, .int .i64 (nx b (i, h)).2]])
  | _, _ => none
@[reducible] def E_l1Below : Env := mkE (tb [(73, K_l1Byte)]) (fun f => [73].contains f) (fun r => ([], []))
theorem ev_l1Below (b : List Int) (i h : Int) (n : Int) (hp : CuOk b i ∧ 1 ≤ n ∧ n ≤ 256) : evF E_l1Below (1) Tryz.f41 [.ptr 0 0, .int .i64 n] [.box 76 [.lst (.int .u8) b, .int .i64 i, .int .i64 h]] = some (.int .i64 (be b (i, h) n), [.box 76 [.lst (.int .u8) b, .int .i64 (nx b (i, h)).1, .int .i64 (nx b (i, h)).2]]) := by
  have h1 := hp.2.1
  have h2 := hp.2.2
  have hr := be_rng b (i, h) (n := n) (by omega)
  conv => lhs; whnf
  refine br_f (df (by omega)) ?_
  conv => lhs; whnf
  refine br_t (dt (by omega)) ?_
  conv => lhs; whnf
  conv => lhs; arg 1; whnf
  refine bnd_g (by exact hp.1) ?_
  conv => lhs; whnf
  refine br_f (df (by omega)) ?_
  conv => lhs; whnf
  rfl
theorem ok_l1Below : FnOk Tryz.prog 41 K_l1Below := by
  refine fn_ok (fn := Tryz.f41) (k := Tryz.f41.ntmps) (E := E_l1Below) (facts_of (List.forall_mem_cons.2 ⟨ok_l1Byte, List.forall_mem_nil _⟩)) (by kernel_rfl) rfl (by decide +kernel) (by decide +kernel) ?_
  intro avs hin r h
  unfold K_l1Below at h
  split at h
  · obtain ⟨hp, rfl⟩ := gd_o h
    exact ⟨_, ev_l1Below _ _ _ _ hp, rfl⟩
  · cases h

/- spec.l1Once -/
def K_l1Once : List AV → List Ob → Option (AV × List Ob)
  | [.ptr 0 0, .int .i64 n], [.box 76 [.lst (.int .u8) b, .int .i64 i, .int .i64 h]] => gd (CuOk b i ∧ 1 ≤ n ∧ n ≤ 256) (.bool (be b (i, h) n == 0), [.box 76 [.lst (.int .u8) b, .int .i64 (nx b (i, h)).1, .int .i64 (nx b (i, h)).2]])
  | _, _ => none
@[reducible] def E_l1Once : Env := mkE (tb [(41, K_l1Below)]) (fun f => [41].contains f) (fun r => ([], []))
theorem ev_l1Once (b : List Int) (i h : Int) (n : Int) (hp : CuOk b i ∧ 1 ≤ n ∧ n ≤ 256) : evF E_l1Once (1) Tryz.f59 [.ptr 0 0, .int .i64 n] [.box 76 [.lst (.int .u8) b, .int .i64 i, .int .i64 h]] = some (.bool (be b (i, h) n == 0), [.box 76 [.lst (.int .u8) b, .int .i64 (nx b (i, h)).1, .int .i64 (nx b (i, h)).2]]) := by
  conv => lhs; whnf
  conv => lhs; arg 1; whnf
  refine bnd_g (by exact hp) ?_
  conv => lhs; whnf
theorem ok_l1Once : FnOk Tryz.prog 59 K_l1Once := by
  refine fn_ok (fn := Tryz.f59) (k := Tryz.f59.ntmps) (E := E_l1Once) (facts_of (List.forall_mem_cons.2 ⟨ok_l1Below, List.forall_mem_nil _⟩)) (by kernel_rfl) rfl (by decide +kernel) (by decide +kernel) ?_
  intro avs hin r h
  unfold K_l1Once at h
  split at h
  · obtain ⟨hp, rfl⟩ := gd_o h
    exact ⟨_, ev_l1Once _ _ _ _ hp, rfl⟩
  · cases h

/- spec.l1PickInt -/
def K_l1PickInt : List AV → List Ob → Option (AV × List Ob)
  | [.ptr 0 0, .own 1], [.box 76 [.lst (.int .u8) b, .int .i64 i, .int .i64 h], .row 3 (.int .i64) l] => gd (CuOk b i ∧ 1 ≤ l.length ∧ l.length ≤ 256) (.int .i64 (l.getD (be b (i, h) (l.length : Int)).toNat 0), [.box 76 [.lst (.int .u8) b, .int .i64 (nx b (i, h)).1, .int .i64 (nx b (i, h)).2], .row 3 (.int .i64) l])
  | _, _ => none
@[reducible] def E_l1PickInt : Env := mkE (tb [(41, K_l1Below)]) (fun f => [41].contains f) (fun r => ([], []))
theorem ev_l1PickInt (b : List Int) (i h : Int) (l : List Int) (hp : CuOk b i ∧ 1 ≤ l.length ∧ l.length ≤ 256) : evF E_l1PickInt (1) Tryz.f85 [.ptr 0 0, .own 1] [.box 76 [.lst (.int .u8) b, .int .i64 i, .int .i64 h], .row 3 (.int .i64) l] = some (.int .i64 (l.getD (be b (i, h) (l.length : Int)).toNat 0), [.box 76 [.lst (.int .u8) b, .int .i64 (nx b (i, h)).1, .int .i64 (nx b (i, h)).2], .row 3 (.int .i64) l]) := by
  have hr := be_rng b (i, h) (n := (l.length : Int)) (by omega)
  conv => lhs; whnf
  conv => lhs; arg 1; whnf
  refine bnd_g (by exact ⟨hp.1, by omega, by omega⟩) ?_
  conv => lhs; whnf
  refine br_t (dt2 (by omega) (by omega)) ?_
  conv => lhs; whnf
  refine br_t (dt (by omega)) ?_
  conv => lhs; whnf
  rfl
theorem ok_l1PickInt : FnOk Tryz.prog 85 K_l1PickInt := by
  refine fn_ok (fn := Tryz.f85) (k := Tryz.f85.ntmps) (E := E_l1PickInt) (facts_of (List.forall_mem_cons.2 ⟨ok_l1Below, List.forall_mem_nil _⟩)) (by kernel_rfl) rfl (by decide +kernel) (by decide +kernel) ?_
  intro avs hin r h
  unfold K_l1PickInt at h
  split at h
  · obtain ⟨hp, rfl⟩ := gd_o h
    exact ⟨_, ev_l1PickInt _ _ _ _ hp, rfl⟩
  · cases h

/- spec.l3Make -/
def K_l3Make : List AV → List Ob → Option (AV × List Ob)
  | [.ptr 0 0, .int .i64 m, .int .i64 o], [.box 76 [.lst (.int .u8) b, .int .i64 i, .int .i64 h]] => gd (CuOk b i ∧ (0 ≤ m ∧ m ≤ 8) ∧ 0 ≤ o ∧ o ≤ 90) (.agg [.int .i64 m, .own 1], [.box 76 [.lst (.int .u8) b, .int .i64 (make3 b m o (i, h)).2.1, .int .i64 (make3 b m o (i, h)).2.2], .row 3 (.int .i64) (make3 b m o (i, h)).1])
  | _, _ => none
@[reducible] def E_l3Make : Env := mkE (tb [(59, K_l1Once), (41, K_l1Below)]) (fun f => [59, 41].contains f) (fun r => bif r == 4 then ([0, 1, 6, 7, 8, 9], [6, 7]) else ([], []))
theorem lp_l3Make (b : List Int) (m : Int) (hm : 0 ≤ m ∧ m ≤ 8) (N : Int) (hN : 0 ≤ N ∧ N ≤ 100) (k : AX → S → Option (AV × List Ob)) (d : Nat) : ∀ (n i : Nat) (x i0 h0 : Int) (zs : List Int), N.toNat - i = d → i ≤ N.toNat → x = i → d < n → CuOk b i0 → zs.length ≤ i →
    lpAt E_l3Make (lp E_l3Make 1 n) 1 (loopAt Tryz.f61 0) (mkS [0, 1, 6, 7, 8, 9] [.ptr 0 0, .int .i64 m, .ptr 1 0, .ptr 3 0, .int .i64 N, .int .i64 x] [some (.box 76 [.lst (.int .u8) b, .int .i64 i0, .int .i64 h0]), some (.box 26 [.int .i64 0, .own 2]), some (.row 3 (.int .i64) []), some (.box 26 [.int .i64 m, .own 4]), some (.row 3 (.int .i64) zs)]) k =
      k (.exit 0) (mkS [6, 7] [.ptr 1 0, .ptr 3 0] [some (.box 76 [.lst (.int .u8) b, .int .i64 (mkRows b m d (i0, h0)).2.1, .int .i64 (mkRows b m d (i0, h0)).2.2]), some (.box 26 [.int .i64 0, .own 2]), some (.row 3 (.int .i64) []), some (.box 26 [.int .i64 m, .own 4]), some (.row 3 (.int .i64) (zs ++ (mkRows b m d (i0, h0)).1))]) := by
  have hs := shlI_rng hm.1 hm.2
  have hu := wrapu hm.1 hm.2
  induction d with
  | zero =>
    intro n i x i0 h0 zs hd hi hx hn hc hz
    subst hx
    rw [lpAt_def]
    conv => lhs; whnf
    refine br_f (df (by omega)) ?_
    conv => lhs; whnf
    rw [mkRows, List.append_nil]
  | succ d ih =>
    intro n i x i0 h0 zs hd hi hx hn hc hz
    obtain ⟨n, rfl⟩ : ∃ m, n = m + 1 := ⟨n - 1, by omega⟩
    subst hx
    have n1 := nx_ok (c := (i0, h0)) hc
    have n2 := nx_ok n1
    have n3 := nx_ok n2
    rw [lpAt_def]
    conv => lhs; whnf
    refine br_t (dt (by omega)) ?_
    conv => lhs; whnf
    conv => lhs; arg 1; whnf
    refine bnd_g (by exact ⟨hc, by omega, by omega⟩) ?_
    conv => lhs; whnf
    refine br_c (fun g => ?_) (fun g => ?_)
    · conv => lhs; whnf
      rw [hu]
      refine br_f (df (by omega)) ?_
      conv => lhs; whnf
      conv => lhs; arg 1; whnf
      refine bnd_g (by exact ⟨n1, hs⟩) ?_
      conv => lhs; whnf
      refine br_t (dt (by simp [room]; omega)) ?_
      conv => lhs; whnf
      refine br_t (by kernel_rfl) ?_
      conv => lhs; whnf
      refine (ih n (i + 1) (IntKind.i64.wrap ((i : Int) + 1)) _ _ _ (by omega) (by omega) (by rw [wrap64 (n := (i : Int) + 1) (by omega) (by omega)]; simp) (by omega) n2 (by simp; omega)).trans ?_
      have e : mkRows b m (d + 1) (i0, h0) = (be b (nx b (i0, h0)) (shlI m) :: (mkRows b m d (nx b (nx b (i0, h0)))).1, (mkRows b m d (nx b (nx b (i0, h0)))).2) := by rw [mkRows, g]; rfl
      rw [e, List.append_assoc]
      rfl
    · conv => lhs; whnf
      rw [hu]
      refine br_f (df (by omega)) ?_
      conv => lhs; whnf
      conv => lhs; arg 1; whnf
      refine bnd_g (by exact ⟨n1, hs⟩) ?_
      conv => lhs; whnf
      rw [hu]
      refine br_f (df (by omega)) ?_
      conv => lhs; whnf
      conv => lhs; arg 1; whnf
      refine bnd_g (by exact ⟨n2, hs⟩) ?_
      conv => lhs; whnf
      refine br_t (dt (by simp [room]; omega)) ?_
      conv => lhs; whnf
      refine br_t (by kernel_rfl) ?_
      conv => lhs; whnf
      refine (ih n (i + 1) (IntKind.i64.wrap ((i : Int) + 1)) _ _ _ (by omega) (by omega) (by rw [wrap64 (n := (i : Int) + 1) (by omega) (by omega)]; simp) (by omega) n3 (by simp; omega)).trans ?_
      have e : mkRows b m (d + 1) (i0, h0) = (bor (be b (nx b (i0, h0)) (shlI m)) (be b (nx b (nx b (i0, h0))) (shlI m)) :: (mkRows b m d (nx b (nx b (nx b (i0, h0))))).1, (mkRows b m d (nx b (nx b (nx b (i0, h0))))).2) := by rw [mkRows, g]; rfl
      rw [e, List.append_assoc]
      rfl
theorem ev_l3Make (b : List Int) (i h m o : Int) (hp : CuOk b i ∧ (0 ≤ m ∧ m ≤ 8) ∧ 0 ≤ o ∧ o ≤ 90) : evF E_l3Make (100) Tryz.f61 [.ptr 0 0, .int .i64 m, .int .i64 o] [.box 76 [.lst (.int .u8) b, .int .i64 i, .int .i64 h]] = some (.agg [.int .i64 m, .own 1], [.box 76 [.lst (.int .u8) b, .int .i64 (make3 b m o (i, h)).2.1, .int .i64 (make3 b m o (i, h)).2.2], .row 3 (.int .i64) (make3 b m o (i, h)).1]) := by
  have hr := be_rng b (i, h) (n := o + 1) (by omega)
  have n1 := nx_ok (c := (i, h)) hp.1
  have hw : IntKind.i64.wrap (o + 1) = o + 1 := wrap64 (by omega) (by omega)
  conv => lhs; whnf
  rw [hw]
  conv => lhs; arg 1; whnf
  refine bnd_g (by exact ⟨hp.1, by omega, by omega⟩) ?_
  conv => lhs; whnf
  refine (lp_l3Make b m hp.2.1 (be b (i, h) (o + 1)) (by omega) _ (be b (i, h) (o + 1)).toNat _ 0 0 (nx b (i, h)).1 (nx b (i, h)).2 [] rfl (by omega) rfl (by change _ < 99; omega) n1 (by simp)).trans ?_
  conv => lhs; whnf
  rfl
theorem ok_l3Make : FnOk Tryz.prog 61 K_l3Make := by
  refine fn_ok (fn := Tryz.f61) (k := Tryz.f61.ntmps) (E := E_l3Make) (facts_of (List.forall_mem_cons.2 ⟨ok_l1Once, List.forall_mem_cons.2 ⟨ok_l1Below, List.forall_mem_nil _⟩⟩)) (by kernel_rfl) rfl (by decide +kernel) (by decide +kernel) ?_
  intro avs hin r h
  unfold K_l3Make at h
  split at h
  · obtain ⟨hp, rfl⟩ := gd_o h
    exact ⟨_, ev_l3Make _ _ _ _ _ hp, rfl⟩
  · cases h

/- spec.l3Draw -/
def K_l3Draw : List AV → List Ob → Option (AV × List Ob)
  | [.ptr 0 0], [.box 76 [.lst (.int .u8) b, .int .i64 i, .int .i64 h]] => gd (CuOk b i) (.agg [.int .i64 (draw3 b (i, h)).1, .own 1], [.box 76 [.lst (.int .u8) b, .int .i64 (draw3 b (i, h)).2.2.1, .int .i64 (draw3 b (i, h)).2.2.2], .row 3 (.int .i64) (draw3 b (i, h)).2.1])
  | _, _ => none
@[reducible] def E_l3Draw : Env := mkE (tb [(85, K_l1PickInt), (61, K_l3Make)]) (fun f => [85, 61].contains f) (fun r => ([], []))
theorem ev_l3Draw (b : List Int) (i h : Int) (hp : CuOk b i) : evF E_l3Draw (1) Tryz.f84 [.ptr 0 0] [.box 76 [.lst (.int .u8) b, .int .i64 i, .int .i64 h]] = some (.agg [.int .i64 (draw3 b (i, h)).1, .own 1], [.box 76 [.lst (.int .u8) b, .int .i64 (draw3 b (i, h)).2.2.1, .int .i64 (draw3 b (i, h)).2.2.2], .row 3 (.int .i64) (draw3 b (i, h)).2.1]) := by
  have n1 := nx_ok (c := (i, h)) hp
  have hm := draw3m_rng b (i, h)
  conv => lhs; whnf
  conv => lhs; arg 1; whnf
  refine bnd_g (by exact ⟨hp, by simp, by simp⟩) ?_
  conv => lhs; whnf
  conv => lhs; arg 1; whnf
  refine bnd_g (by exact ⟨n1, ⟨hm.1, by have := hm.2; exact Int.le_trans hm.2 (by omega)⟩, by omega, by omega⟩) ?_
  conv => lhs; whnf
  all_goals rfl
theorem ok_l3Draw : FnOk Tryz.prog 84 K_l3Draw := by
  refine fn_ok (fn := Tryz.f84) (k := Tryz.f84.ntmps) (E := E_l3Draw) (facts_of (List.forall_mem_cons.2 ⟨ok_l1PickInt, List.forall_mem_cons.2 ⟨ok_l3Make, List.forall_mem_nil _⟩⟩)) (by kernel_rfl) rfl (by decide +kernel) (by decide +kernel) ?_
  intro avs hin r h
  unfold K_l3Draw at h
  split at h
  · obtain ⟨hp, rfl⟩ := gd_o h
    exact ⟨_, ev_l3Draw _ _ _ hp, rfl⟩
  · cases h

/- spec.l2Bent -/
def K_l2Bent : List AV → List Ob → Option (AV × List Ob)
  | [.ptr 0 0], [.box 76 [.lst (.int .u8) b, .int .i64 i, .int .i64 h]] => gd (CuOk b i) (.int .i64 (bent2 b (i, h)), [.box 76 [.lst (.int .u8) b, .int .i64 (nx b (nx b (i, h))).1, .int .i64 (nx b (nx b (i, h))).2]])
  | _, _ => none
@[reducible] def E_l2Bent : Env := mkE (tb [(59, K_l1Once), (85, K_l1PickInt), (41, K_l1Below)]) (fun f => [59, 85, 41].contains f) (fun r => ([], []))
theorem ev_l2Bent (b : List Int) (i h : Int) (hp : CuOk b i) : evF E_l2Bent (1) Tryz.f86 [.ptr 0 0] [.box 76 [.lst (.int .u8) b, .int .i64 i, .int .i64 h]] = some (.int .i64 (bent2 b (i, h)), [.box 76 [.lst (.int .u8) b, .int .i64 (nx b (nx b (i, h))).1, .int .i64 (nx b (nx b (i, h))).2]]) := by
  have hn := nx_ok (c := (i, h)) hp
  conv => lhs; whnf
  conv => lhs; arg 1; whnf
  refine bnd_g (by exact ⟨hp, by omega, by omega⟩) ?_
  conv => lhs; whnf
  refine br_c (fun hc => ?_) (fun hc => ?_)
  · have e : bent2 b (i, h) = pick4 (-1) 256 1000 (-9223372036854775808) b (nx b (i, h)) := by unfold bent2; rw [hc]; rfl
    rw [e]
    conv => lhs; whnf
    conv => lhs; arg 1; whnf
    refine bnd_g (by exact ⟨hn, by simp, by simp⟩) ?_
    conv => lhs; whnf
    rfl
  · have e : bent2 b (i, h) = be b (nx b (i, h)) 256 := by unfold bent2; rw [hc]; rfl
    rw [e]
    conv => lhs; whnf
    conv => lhs; arg 1; whnf
    refine bnd_g (by exact ⟨hn, by omega, by omega⟩) ?_
    conv => lhs; whnf
theorem ok_l2Bent : FnOk Tryz.prog 86 K_l2Bent := by
  refine fn_ok (fn := Tryz.f86) (k := Tryz.f86.ntmps) (E := E_l2Bent) (facts_of (List.forall_mem_cons.2 ⟨ok_l1Once, List.forall_mem_cons.2 ⟨ok_l1PickInt, List.forall_mem_cons.2 ⟨ok_l1Below, List.forall_mem_nil _⟩⟩⟩)) (by kernel_rfl) rfl (by decide +kernel) (by decide +kernel) ?_
  intro avs hin r h
  unfold K_l2Bent at h
  split at h
  · obtain ⟨hp, rfl⟩ := gd_o h
    exact ⟨_, ev_l2Bent _ _ _ hp, rfl⟩
  · cases h

/- spec.l3Bent -/
def K_l3Bent : List AV → List Ob → Option (AV × List Ob)
  | [.ptr 0 0], [.box 76 [.lst (.int .u8) b, .int .i64 i, .int .i64 h]] => gd (CuOk b i) (.agg [.int .i64 (bent3 b (i, h)).1, .own 1], [.box 76 [.lst (.int .u8) b, .int .i64 (bent3 b (i, h)).2.2.1, .int .i64 (bent3 b (i, h)).2.2.2], .row 3 (.int .i64) (bent3 b (i, h)).2.1])
  | _, _ => none
@[reducible] def E_l3Bent : Env := mkE (tb [(84, K_l3Draw), (41, K_l1Below), (85, K_l1PickInt), (86, K_l2Bent)]) (fun f => [84, 41, 85, 86].contains f) (fun r => bif r == 8 then ([2, 3], [2, 3]) else ([], []))
theorem lp_l3Bent (b : List Int) (i0 h0 m : Int) (k : AX → S → Option (AV × List Ob)) (d : Nat) : ∀ (n : Nat) (zs : List Int), 9 - zs.length = d → zs.length ≤ 9 → d < n →
    lpAt E_l3Bent (lp E_l3Bent 1 n) 1 (loopAt Tryz.f60 0) (mkS [2, 3] [.ptr 1 0, .ptr 3 0] [some (.box 76 [.lst (.int .u8) b, .int .i64 i0, .int .i64 h0]), some (.box 26 [.int .i64 0, .own 2]), some (.row 3 (.int .i64) []), some (.box 26 [.int .i64 m, .own 4]), some (.row 3 (.int .i64) zs)]) k =
      k (.exit 1) (mkS [2, 3] [.ptr 1 0, .ptr 3 0] [some (.box 76 [.lst (.int .u8) b, .int .i64 i0, .int .i64 h0]), some (.box 26 [.int .i64 0, .own 2]), some (.row 3 (.int .i64) []), some (.box 26 [.int .i64 m, .own 4]), some (.row 3 (.int .i64) (pad9 zs))]) := by
  induction d with
  | zero =>
    intro n zs hd hi hn
    rw [lpAt_def]
    conv => lhs; whnf
    refine br_f (df (by omega)) ?_
    conv => lhs; whnf
    have e : pad9 zs = zs := by
      unfold pad9
      rw [show 9 - zs.length = 0 by omega]
      simp
    rw [e]
  | succ d ih =>
    intro n zs hd hi hn
    obtain ⟨n, rfl⟩ : ∃ m, n = m + 1 := ⟨n - 1, by omega⟩
    rw [lpAt_def]
    conv => lhs; whnf
    refine br_t (dt (by omega)) ?_
    conv => lhs; whnf
    refine br_t (dt (by simp [room]; omega)) ?_
    conv => lhs; whnf
    refine (ih n _ (by simp; omega) (by simp; omega) (by omega)).trans ?_
    have e : pad9 zs = pad9 (zs ++ [0]) := by
      unfold pad9
      obtain ⟨q, hq⟩ : ∃ q, 9 - zs.length = q + 1 := ⟨8 - zs.length, by omega⟩
      rw [List.length_append, List.length_singleton, hq, show 9 - (zs.length + 1) = q by omega, List.replicate_succ, List.append_assoc]
      rfl
    rw [e]
theorem ev_l3Bent (b : List Int) (i h : Int) (hp : CuOk b i) : evF E_l3Bent (20) Tryz.f60 [.ptr 0 0] [.box 76 [.lst (.int .u8) b, .int .i64 i, .int .i64 h]] = some (.agg [.int .i64 (bent3 b (i, h)).1, .own 1], [.box 76 [.lst (.int .u8) b, .int .i64 (bent3 b (i, h)).2.2.1, .int .i64 (bent3 b (i, h)).2.2.2], .row 3 (.int .i64) (bent3 b (i, h)).2.1]) := by
  have h3 := draw3_ok (c := (i, h)) hp
  have n0 := h3.2.2
  have hl := h3.2.1
  have n1 := nx_ok n0
  have n2 := nx_ok n1
  conv => lhs; whnf
  conv => lhs; arg 1; whnf
  refine bnd_g (by exact hp) ?_
  conv => lhs; whnf
  conv => lhs; arg 1; whnf
  refine bnd_g (by exact ⟨n0, by omega, by omega⟩) ?_
  conv => lhs; whnf
  refine br_c (fun g => ?_) (fun g => ?_)
  · have e : bent3 b (i, h) = (pick4 (-1) 0 2 7 b (nx b (draw3 b (i, h)).2.2), (draw3 b (i, h)).2.1, nx b (nx b (draw3 b (i, h)).2.2)) := by unfold bent3 bent3'; rw [g]; rfl
    rw [e]
    conv => lhs; whnf
    conv => lhs; arg 1; whnf
    refine bnd_g (by exact ⟨n1, by simp, by simp⟩) ?_
    conv => lhs; whnf
    all_goals rfl
  · conv => lhs; whnf
    refine br_c (fun g2 => ?_) (fun g2 => ?_)
    · have e : bent3 b (i, h) = ((draw3 b (i, h)).1, (draw3 b (i, h)).2.1 ++ [bent2 b (nx b (draw3 b (i, h)).2.2)], nx b (nx b (nx b (draw3 b (i, h)).2.2))) := by unfold bent3 bent3'; rw [g, g2]; rfl
      rw [e]
      conv => lhs; whnf
      conv => lhs; arg 1; whnf
      refine bnd_g (by exact n1) ?_
      conv => lhs; whnf
      refine br_t (dt (by simp [room]; omega)) ?_
      conv => lhs; whnf
      refine br_t (by kernel_rfl) ?_
      conv => lhs; whnf
      all_goals rfl
    · conv => lhs; whnf
      refine br_c (fun g3 => ?_) (fun g3 => ?_)
      · have e : bent3 b (i, h) = ((draw3 b (i, h)).1, pad9 (draw3 b (i, h)).2.1, nx b (draw3 b (i, h)).2.2) := by unfold bent3 bent3'; rw [g, g2, g3]; rfl
        rw [e]
        conv => lhs; whnf
        refine (lp_l3Bent b _ _ _ _ (9 - (draw3 b (i, h)).2.1.length) _ (draw3 b (i, h)).2.1 rfl (by omega) (by change _ < 19; omega)).trans ?_
        conv => lhs; whnf
        all_goals rfl
      · have e : bent3 b (i, h) = ((draw3 b (i, h)).1, (draw3 b (i, h)).2.1, nx b (draw3 b (i, h)).2.2) := by unfold bent3 bent3'; rw [g, g2, g3]; rfl
        rw [e]
        conv => lhs; whnf
theorem ok_l3Bent : FnOk Tryz.prog 60 K_l3Bent := by
  refine fn_ok (fn := Tryz.f60) (k := Tryz.f60.ntmps) (E := E_l3Bent) (facts_of (List.forall_mem_cons.2 ⟨ok_l3Draw, List.forall_mem_cons.2 ⟨ok_l1Below, List.forall_mem_cons.2 ⟨ok_l1PickInt, List.forall_mem_cons.2 ⟨ok_l2Bent, List.forall_mem_nil _⟩⟩⟩⟩)) (by kernel_rfl) rfl (by decide +kernel) (by decide +kernel) ?_
  intro avs hin r h
  unfold K_l3Bent at h
  split at h
  · obtain ⟨hp, rfl⟩ := gd_o h
    exact ⟨_, ev_l3Bent _ _ _ hp, rfl⟩
  · cases h

/- spec.l21Draw -/
def K_draw21 : List AV → List Ob → Option (AV × List Ob)
  | [.ptr 0 0], [.box 76 [.lst (.int .u8) b, .int .i64 i, .int .i64 h]] => gd (CuOk b i) (.agg [.int .i64 (d21 b (i, h)).1, .own 1], [.box 76 [.lst (.int .u8) b, .int .i64 (d21 b (i, h)).2.2.1, .int .i64 (d21 b (i, h)).2.2.2], .row 3 (.int .i64) (d21 b (i, h)).2.1])
  | _, _ => none
@[reducible] def E_draw21 : Env := mkE (tb [(62, K_specComplement), (59, K_l1Once), (60, K_l3Bent), (41, K_l1Below), (61, K_l3Make)]) (fun f => [59, 60, 41, 61].contains f) (fun r => ([], []))
theorem ev_draw21 (b : List Int) (i h : Int) (hp : CuOk b i) : evF E_draw21 (1) Tryz.f30 [.ptr 0 0] [.box 76 [.lst (.int .u8) b, .int .i64 i, .int .i64 h]] = some (.agg [.int .i64 (d21 b (i, h)).1, .own 1], [.box 76 [.lst (.int .u8) b, .int .i64 (d21 b (i, h)).2.2.1, .int .i64 (d21 b (i, h)).2.2.2], .row 3 (.int .i64) (d21 b (i, h)).2.1]) := by
  have n1 := nx_ok (c := (i, h)) hp
  have n2 := nx_ok n1
  have r5 := be_rng b (nx b (i, h)) (n := 5) (by omega)
  have n3 := (make3_ok (b := b) (m := be b (nx b (i, h)) 5) (o := 5) (c := nx b (nx b (i, h))) n2 (by omega)).2
  conv => lhs; whnf
  conv => lhs; arg 1; whnf
  refine bnd_g (by exact ⟨hp, by omega, by omega⟩) ?_
  conv => lhs; whnf
  refine br_c (fun h1 => ?_) (fun h1 => ?_)
  · have h1' : (be b (i, h) 12 == 0) = true := h1
    have e : d21 b (i, h) = bent3 b (nx b (i, h)) := by unfold d21; rw [h1', cond_true]
    conv => rhs; rw [e]
    conv => lhs; whnf
    conv => lhs; arg 1; whnf
    refine bnd_g (by exact n1) ?_
    conv => lhs; whnf
    all_goals rfl
  · have h1' : (be b (i, h) 12 == 0) = false := h1
    conv => lhs; whnf
    conv => lhs; arg 1; whnf
    refine bnd_g (by exact ⟨n1, by omega, by omega⟩) ?_
    conv => lhs; whnf
    conv => lhs; arg 1; whnf
    refine bnd_g (by exact ⟨n2, ⟨r5.1, by have := r5.2; exact Int.le_trans (Int.le_of_lt this) (by omega)⟩, by omega, by omega⟩) ?_
    conv => lhs; whnf
    conv => lhs; arg 1; whnf
    refine bnd_g (by exact ⟨n3, by omega, by omega⟩) ?_
    conv => lhs; whnf
    refine br_c (fun h2 => ?_) (fun h2 => ?_)
    · have h2' : (be b (make3 b (be b (nx b (i, h)) 5) 5 (nx b (nx b (i, h)))).2 3 == 0) = true := h2
      have e : d21 b (i, h) = (3, [6, 5, 3], nx b (make3 b (be b (nx b (i, h)) 5) 5 (nx b (nx b (i, h)))).2) := by unfold d21; rw [h1', h2']; rfl
      conv => rhs; rw [e]
      conv => lhs; whnf
      conv => lhs; arg 1; whnf
      refine bnd_g (by decide) ?_
      conv => lhs; whnf
      repeat ((first | with_reducible apply br_tt | with_reducible apply br_ff | with_reducible apply br_nf | with_reducible apply br_nt | with_reducible refine br_d ?_ (by kernel_rfl)); conv => lhs; whnf)
      all_goals rfl
    · have h2' : (be b (make3 b (be b (nx b (i, h)) 5) 5 (nx b (nx b (i, h)))).2 3 == 0) = false := h2
      have e : d21 b (i, h) = (be b (nx b (i, h)) 5, (make3 b (be b (nx b (i, h)) 5) 5 (nx b (nx b (i, h)))).1, nx b (make3 b (be b (nx b (i, h)) 5) 5 (nx b (nx b (i, h)))).2) := by unfold d21; rw [h1', h2']; rfl
      conv => rhs; rw [e]
      conv => lhs; whnf
      all_goals rfl
theorem ok_draw21 : FnOk Tryz.prog 30 K_draw21 := by
  refine fn_ok (fn := Tryz.f30) (k := Tryz.f30.ntmps) (E := E_draw21) (facts_of (List.forall_mem_cons.2 ⟨ok_specComplement, List.forall_mem_cons.2 ⟨ok_l1Once, List.forall_mem_cons.2 ⟨ok_l3Bent, List.forall_mem_cons.2 ⟨ok_l1Below, List.forall_mem_cons.2 ⟨ok_l3Make, List.forall_mem_nil _⟩⟩⟩⟩⟩)) (by kernel_rfl) rfl (by decide +kernel) (by decide +kernel) ?_
  intro avs hin r h
  unfold K_draw21 at h
  split at h
  · obtain ⟨hp, rfl⟩ := gd_o h
    exact ⟨_, ev_draw21 _ _ _ hp, rfl⟩
  · cases h

def revL (a : List Int) : Nat → Nat → List Int → List Int
  | 0, _, zs => zs
  | d + 1, i, zs => revL a d (i + 1) (zs.set i (a.getD (a.length - 1 - i) 0))
theorem revL_len (a : List Int) : ∀ (d i : Nat) (zs : List Int), (revL a d i zs).length = zs.length
  | 0, _, _ => rfl
  | d + 1, i, zs => by rw [revL, revL_len a d (i + 1), List.length_set]
def t23b (b : List Int) (m : Int) (a : List Int) (c : Cu) : Int × List Int :=
  bif be b c 4 == 0 then ((d21 b (nx b c)).1, (d21 b (nx b c)).2.1)
  else bif be b c 4 == 1 && (redF m a).2.2 then ((redF m a).1, (redF m a).2.1)
  else bif be b c 4 == 2 then (m, revL a a.length 0 a)
  else ((spClar m a).1, (spClar m a).2.1)
def t23 (b : List Int) : Int × List Int := t23b b (d21 b (newC b)).1 (d21 b (newC b)).2.1 (d21 b (newC b)).2.2
theorem redF_ok (m : Int) (a : List Int) : (redF m a).2.2 = isCtx m a := by
  cases h : isCtx m a
  · unfold redF; rw [h]; rfl
  · exact (red_iso h).2.1
theorem redF_len (m : Int) (a : List Int) : (redF m a).2.1.length ≤ 8 := by
  cases h : isCtx m a
  · unfold redF; rw [h]; exact Nat.zero_le _
  · exact (isCtx_len (red_iso h).1).1
theorem spClar_len (m : Int) (a : List Int) : (spClar m a).2.1.length ≤ 8 := by
  cases h : isCtx m a
  · unfold spClar; rw [h]; exact Nat.zero_le _
  · exact (isCtx_len (clar_iso h).1).1
theorem t23b_len {b : List Int} {m : Int} {a : List Int} {c : Cu} (h : CuOk b c.1) (ha : a.length ≤ 9) : (t23b b m a c).2.length ≤ 9 := by
  have h1 := d21_len (b := b) (c := nx b c) (nx_ok h)
  have h2 := redF_len m a
  have h3 := spClar_len m a
  have h4 := revL_len a a.length 0 a
  unfold t23b
  cases be b c 4 == 0
  · rw [cond_false]
    cases be b c 4 == 1 && (redF m a).2.2
    · rw [cond_false]
      cases be b c 4 == 2
      · rw [cond_false]; dsimp only; omega
      · rw [cond_true]; dsimp only; omega
    · rw [cond_true]; dsimp only; omega
  · rw [cond_true]; exact h1
theorem d21_cu {b : List Int} {c : Cu} (h : CuOk b c.1) : CuOk b (d21 b c).2.2.1 := by
  have h1 := (bent3_ok (nx_ok h)).2
  have h2 := (make3_ok (b := b) (m := be b (nx b c) 5) (o := 5) (c := nx b (nx b c)) (nx_ok (nx_ok h)) (by omega)).2
  unfold d21
  cases be b c 12 == 0
  · rw [cond_false]
    cases be b (make3 b (be b (nx b c) 5) 5 (nx b (nx b c))).2 3 == 0
    · rw [cond_false]; exact nx_ok h2
    · rw [cond_true]; exact nx_ok h2
  · rw [cond_true]; exact h1
/- spec.l1New -/
def K_l1New : List AV → List Ob → Option (AV × List Ob)
  | [.lst (.int .u8) b], [] => gd (b.length ≤ 1048576) (.ptr 0 0, [.box 76 [.lst (.int .u8) b, .int .i64 (newC b).1, .int .i64 (newC b).2]])
  | _, _ => none
@[reducible] def E_l1New : Env := mkE (tb []) (fun f => false) (fun r => bif r == 3 then ([0, 3, 4], [0, 3]) else ([], []))
theorem lp_l1New (b : List Int) (hb : b.length ≤ 1048576) (k : AX → S → Option (AV × List Ob)) (d : Nat) : ∀ (n i : Nat) (x h : Int), min b.length 4000 - i = d → i ≤ min b.length 4000 → x = i → d < n →
    lpAt E_l1New (lp E_l1New 0 n) 0 (loopAt Tryz.f31 0) (mkS [0, 3, 4] [.lst (.int .u8) b, .int .i64 h, .int .i64 x] []) k =
      k (.exit 0) (mkS [0, 3] [.lst (.int .u8) b, .int .i64 (newL b d i h)] []) := by
  induction d with
  | zero =>
    intro n i x h hd hi hx hn
    subst hx
    rw [lpAt_def]
    conv => lhs; whnf
    refine br_c (fun g => ?_) (fun g => ?_)
    · have g' := ofd g
      conv => lhs; whnf
      repeat ((first | with_reducible apply br_tt | with_reducible apply br_ff | with_reducible apply br_nf | with_reducible apply br_nt | with_reducible refine br_d ?_ (by kernel_rfl) | with_reducible apply br_t g | with_reducible apply br_f g); conv => lhs; whnf)
      refine br_f (df (by omega)) ?_
      conv => lhs; whnf
      all_goals rfl
    · conv => lhs; whnf
      repeat ((first | with_reducible apply br_tt | with_reducible apply br_ff | with_reducible apply br_nf | with_reducible apply br_nt | with_reducible refine br_d ?_ (by kernel_rfl) | with_reducible apply br_t g | with_reducible apply br_f g); conv => lhs; whnf)
      all_goals rfl
  | succ d ih =>
    intro n i x h hd hi hx hn
    obtain ⟨n, rfl⟩ : ∃ m, n = m + 1 := ⟨n - 1, by omega⟩
    subst hx
    rw [lpAt_def]
    have g : decide ((i : Int) < (b.length : Int)) = true := dt (by omega)
    conv => lhs; whnf
    repeat ((first | with_reducible apply br_tt | with_reducible apply br_ff | with_reducible apply br_nf | with_reducible apply br_nt | with_reducible refine br_d ?_ (by kernel_rfl) | with_reducible apply br_t g | with_reducible apply br_f g); conv => lhs; whnf)
    refine br_t (dt (by omega)) ?_
    conv => lhs; whnf
    refine br_t (dt2 (by omega) (by omega)) ?_
    conv => lhs; whnf
    refine Eq.trans (b := lpAt E_l1New (lp E_l1New 0 n) 0 (loopAt Tryz.f31 0) (mkS [0, 3, 4] [.lst (.int .u8) b, .int .i64 (band (IntKind.i64.wrap (IntKind.i64.wrap (IntKind.i64.wrap (h * 131) + IntKind.i64.wrap (b.getD i 0)) + 7)) 1073741823), .int .i64 (IntKind.i64.wrap ((i : Int) + 1))] []) k) rfl ?_
    exact ih n (i + 1) (IntKind.i64.wrap ((i : Int) + 1)) _ (by omega) (by omega) (by rw [wrap64 (n := (i : Int) + 1) (by omega) (by omega)]; simp) (by omega)
theorem ev_l1New (b : List Int) (hp : b.length ≤ 1048576) : evF E_l1New (4010) Tryz.f31 [.lst (.int .u8) b] [] = some (.ptr 0 0, [.box 76 [.lst (.int .u8) b, .int .i64 (newC b).1, .int .i64 (newC b).2]]) := by
  conv => lhs; whnf
  refine (lp_l1New b hp _ (min b.length 4000) _ 0 0 _ rfl (Nat.zero_le _) rfl (by change _ < 4009; omega)).trans ?_
  conv => lhs; whnf
  rfl
theorem ok_l1New : FnOk Tryz.prog 31 K_l1New := by
  refine fn_ok (fn := Tryz.f31) (k := Tryz.f31.ntmps) (E := E_l1New) (facts_of (List.forall_mem_nil _)) (by kernel_rfl) rfl (by decide +kernel) (by decide +kernel) ?_
  intro avs hin r h
  unfold K_l1New at h
  split at h
  · obtain ⟨hp, rfl⟩ := gd_o h
    exact ⟨_, ev_l1New _ hp, rfl⟩
  · cases h

/- spec.l3Copy -/
def K_l3Copy : List AV → List Ob → Option (AV × List Ob)
  | [.agg [.int .i64 m, .lst (.int .i64) a]], [] => gd (a.length ≤ 1048576) (.agg [.int .i64 m, .own 0], [.row 3 (.int .i64) a])
  | _, _ => none
@[reducible] def E_l3Copy : Env := mkE (tb []) (fun f => false) (fun r => ([], []))
theorem ev_l3Copy (m : Int) (a : List Int) (hp : a.length ≤ 1048576) : evF E_l3Copy (1) Tryz.f42 [.agg [.int .i64 m, .lst (.int .i64) a]] [] = some (.agg [.int .i64 m, .own 0], [.row 3 (.int .i64) a]) := by
  conv => lhs; whnf
  refine br_t (dt (by simp [room]; omega)) ?_
  conv => lhs; whnf
  repeat ((first | with_reducible apply br_tt | with_reducible apply br_ff | with_reducible apply br_nf | with_reducible apply br_nt | with_reducible refine br_d ?_ (by kernel_rfl)); conv => lhs; whnf)
  simp
theorem ok_l3Copy : FnOk Tryz.prog 42 K_l3Copy := by
  refine fn_ok (fn := Tryz.f42) (k := Tryz.f42.ntmps) (E := E_l3Copy) (facts_of (List.forall_mem_nil _)) (by kernel_rfl) rfl (by decide +kernel) (by decide +kernel) ?_
  intro avs hin r h
  unfold K_l3Copy at h
  split at h
  · obtain ⟨hp, rfl⟩ := gd_o h
    exact ⟨_, ev_l3Copy _ _ hp, rfl⟩
  · cases h

/- spec.l23Two -/
def K_l23Two : List AV → List Ob → Option (AV × List Ob)
  | [.lst (.int .u8) b], [] => gd (b.length ≤ 1048576) (.tup [.agg [.int .i64 (d21 b (newC b)).1, .own 0], .agg [.int .i64 (t23 b).1, .own 1]], [.row 3 (.int .i64) (d21 b (newC b)).2.1, .row 3 (.int .i64) (t23 b).2])
  | _, _ => none
@[reducible] def E_l23Two : Env := mkE (tb [(31, K_l1New), (16, K_specReduceContext), (36, K_specClarify), (42, K_l3Copy), (30, K_draw21), (41, K_l1Below)]) (fun f => [30, 41].contains f) (fun r => bif r == 13 then ([2, 3, 5, 8, 9], [2, 3, 5, 8]) else ([], []))
theorem lp_l23Two (m : Int) (a : List Int) (ha : a.length ≤ 9) (k : AX → S → Option (AV × List Ob)) (d : Nat) : ∀ (n i : Nat) (x : Int) (zs : List Int), a.length - i = d → i ≤ a.length → x = i → d < n → zs.length = a.length →
    lpAt E_l23Two (lp E_l23Two 0 n) 0 (loopAt Tryz.f18 0) (mkS [2, 3, 5, 8, 9] [.ptr 0 0, .ptr 2 0, .ptr 4 0, .ptr 6 0, .int .i64 x] [some (.box 26 [.int .i64 0, .own 1]), some (.row 3 (.int .i64) []), some (.box 26 [.int .i64 0, .own 3]), some (.row 3 (.int .i64) []), some (.box 26 [.int .i64 m, .own 5]), some (.row 3 (.int .i64) a), some (.box 26 [.int .i64 m, .own 7]), some (.row 3 (.int .i64) zs)]) k =
      k (.exit 1) (mkS [2, 3, 5, 8] [.ptr 0 0, .ptr 2 0, .ptr 4 0, .ptr 6 0] [some (.box 26 [.int .i64 0, .own 1]), some (.row 3 (.int .i64) []), some (.box 26 [.int .i64 0, .own 3]), some (.row 3 (.int .i64) []), some (.box 26 [.int .i64 m, .own 5]), some (.row 3 (.int .i64) a), some (.box 26 [.int .i64 m, .own 7]), some (.row 3 (.int .i64) (revL a d i zs))]) := by
  induction d with
  | zero =>
    intro n i x zs hd hi hx hn hz
    subst hx
    rw [lpAt_def]
    conv => lhs; whnf
    refine br_f (df (by omega)) ?_
    conv => lhs; whnf
    rfl
  | succ d ih =>
    intro n i x zs hd hi hx hn hz
    obtain ⟨n, rfl⟩ : ∃ m, n = m + 1 := ⟨n - 1, by omega⟩
    subst hx
    have w1 : IntKind.i64.wrap ((a.length : Int) - 1) = (a.length : Int) - 1 := wrap64 (by omega) (by omega)
    have w2 : IntKind.i64.wrap (IntKind.i64.wrap ((a.length : Int) - 1) - (i : Int)) = ((a.length - 1 - i : Nat) : Int) := by rw [w1, wrap64 (by omega) (by omega)]; omega
    rw [lpAt_def]
    conv => lhs; whnf
    refine br_t (dt (by omega)) ?_
    conv => lhs; whnf
    refine br_t (by rw [w2]; simp; omega) ?_
    conv => lhs; whnf
    refine br_t (by rw [w2]; simp; omega) ?_
    conv => lhs; whnf
    refine br_t (dt2 (by omega) (by omega)) ?_
    conv => lhs; whnf
    refine br_t (dt (by omega)) ?_
    conv => lhs; whnf
    refine br_t (by kernel_rfl) ?_
    conv => lhs; whnf
    refine (ih n (i + 1) (IntKind.i64.wrap ((i : Int) + 1)) _ (by omega) (by omega) (by rw [wrap64 (n := (i : Int) + 1) (by omega) (by omega)]; simp) (by omega) ?_).trans ?_
    · exact List.length_set.trans hz
    rw [revL, w2]
    rfl
theorem ev_l23Two (b : List Int) (hp : b.length ≤ 1048576) : evF E_l23Two (40) Tryz.f18 [.lst (.int .u8) b] [] = some (.tup [.agg [.int .i64 (d21 b (newC b)).1, .own 0], .agg [.int .i64 (t23 b).1, .own 1]], [.row 3 (.int .i64) (d21 b (newC b)).2.1, .row 3 (.int .i64) (t23 b).2]) := by
  have n0 := newC_ok hp
  have n1 := d21_cu n0
  have n2 := nx_ok n1
  have la := d21_len n0
  have la2 : (d21 b (newC b)).2.1.length ≤ 1048576 := by omega
  conv => lhs; whnf
  conv => lhs; arg 1; whnf
  refine bnd_g (by exact hp) ?_
  conv => lhs; whnf
  conv => lhs; arg 1; whnf
  refine bnd_g (by exact n0) ?_
  conv => lhs; whnf
  conv => lhs; arg 1; whnf
  refine bnd_g (by exact ⟨n1, by omega, by omega⟩) ?_
  conv => lhs; whnf
  refine br_c (fun h1 => ?_) (fun h1 => ?_)
  · have h1' : (be b (d21 b (newC b)).2.2 4 == 0) = true := h1
    have e : t23 b = ((d21 b (nx b (d21 b (newC b)).2.2)).1, (d21 b (nx b (d21 b (newC b)).2.2)).2.1) := by unfold t23 t23b; rw [h1', cond_true]
    conv => rhs; rw [e]
    conv => lhs; whnf
    conv => lhs; arg 1; whnf
    refine bnd_g (by exact n2) ?_
    conv => lhs; whnf
    refine br_t (by kernel_rfl) ?_
    conv => lhs; whnf
    all_goals rfl
  · have h1' : (be b (d21 b (newC b)).2.2 4 == 0) = false := h1
    conv => lhs; whnf
    refine br_c (fun h2 => ?_) (fun h2 => ?_)
    · have h2' : (be b (d21 b (newC b)).2.2 4 == 1) = true := h2
      conv => lhs; whnf
      conv => lhs; arg 1; whnf
      refine bnd_g (by exact la2) ?_
      conv => lhs; whnf
      refine br_c (fun h3 => ?_) (fun h3 => ?_)
      · have e : t23 b = ((redF (d21 b (newC b)).1 (d21 b (newC b)).2.1).1, (redF (d21 b (newC b)).1 (d21 b (newC b)).2.1).2.1) := by unfold t23 t23b; rw [h1', h2', h3]; rfl
        conv => rhs; rw [e]
        conv => lhs; whnf
        refine br_t (by kernel_rfl) ?_
        conv => lhs; whnf
        all_goals rfl
      · have h4' : (be b (d21 b (newC b)).2.2 4 == 2) = false := by rw [eq_of_beq h2']; rfl
        have e : t23 b = ((spClar (d21 b (newC b)).1 (d21 b (newC b)).2.1).1, (spClar (d21 b (newC b)).1 (d21 b (newC b)).2.1).2.1) := by unfold t23 t23b; rw [h1', h2', h3, h4']; rfl
        conv => rhs; rw [e]
        conv => lhs; whnf
        conv => lhs; arg 1; whnf
        refine bnd_g (by exact la2) ?_
        conv => lhs; whnf
        refine br_t (by kernel_rfl) ?_
        conv => lhs; whnf
        all_goals rfl
    · have h2' : (be b (d21 b (newC b)).2.2 4 == 1) = false := h2
      conv => lhs; whnf
      refine br_c (fun h3 => ?_) (fun h3 => ?_)
      · have h3' : (be b (d21 b (newC b)).2.2 4 == 2) = true := h3
        have e : t23 b = ((d21 b (newC b)).1, revL (d21 b (newC b)).2.1 (d21 b (newC b)).2.1.length 0 (d21 b (newC b)).2.1) := by unfold t23 t23b; rw [h1', h2', h3']; rfl
        conv => rhs; rw [e]
        conv => lhs; whnf
        conv => lhs; arg 1; whnf
        refine bnd_g (by exact la2) ?_
        conv => lhs; whnf
        refine (lp_l23Two (d21 b (newC b)).1 (d21 b (newC b)).2.1 la _ (d21 b (newC b)).2.1.length _ 0 0 (d21 b (newC b)).2.1 rfl (by omega) rfl (by change _ < 39; omega) rfl).trans ?_
        conv => lhs; whnf
        refine br_t (by kernel_rfl) ?_
        conv => lhs; whnf
        all_goals rfl
      · have h3' : (be b (d21 b (newC b)).2.2 4 == 2) = false := h3
        have e : t23 b = ((spClar (d21 b (newC b)).1 (d21 b (newC b)).2.1).1, (spClar (d21 b (newC b)).1 (d21 b (newC b)).2.1).2.1) := by unfold t23 t23b; rw [h1', h2', h3']; rfl
        conv => rhs; rw [e]
        conv => lhs; whnf
        conv => lhs; arg 1; whnf
        refine bnd_g (by exact la2) ?_
        conv => lhs; whnf
        refine br_t (by kernel_rfl) ?_
        conv => lhs; whnf
        all_goals rfl
theorem ok_l23Two : FnOk Tryz.prog 18 K_l23Two := by
  refine fn_ok (fn := Tryz.f18) (k := Tryz.f18.ntmps) (E := E_l23Two) (facts_of (List.forall_mem_cons.2 ⟨ok_l1New, List.forall_mem_cons.2 ⟨ok_specReduceContext, List.forall_mem_cons.2 ⟨ok_specClarify, List.forall_mem_cons.2 ⟨ok_l3Copy, List.forall_mem_cons.2 ⟨ok_draw21, List.forall_mem_cons.2 ⟨ok_l1Below, List.forall_mem_nil _⟩⟩⟩⟩⟩⟩)) (by kernel_rfl) rfl (by decide +kernel) (by decide +kernel) ?_
  intro avs hin r h
  unfold K_l23Two at h
  split at h
  · obtain ⟨hp, rfl⟩ := gd_o h
    exact ⟨_, ev_l23Two _ hp, rfl⟩
  · cases h

/- spec.DrawFindMap -/
def K_drawFindMap : List AV → List Ob → Option (AV × List Ob)
  | [.lst (.int .u8) b], [] => gd (b.length ≤ 1048576) (.tup [.agg [.int .i64 (d21 b (newC b)).1, .own 0], .agg [.int .i64 (t23 b).1, .own 1]], [.row 3 (.int .i64) (d21 b (newC b)).2.1, .row 3 (.int .i64) (t23 b).2])
  | _, _ => none
@[reducible] def E_drawFindMap : Env := mkE (tb [(18, K_l23Two)]) (fun f => false) (fun r => ([], []))
theorem ev_drawFindMap (b : List Int) (hp : b.length ≤ 1048576) : evF E_drawFindMap (1) Tryz.f5 [.lst (.int .u8) b] [] = some (.tup [.agg [.int .i64 (d21 b (newC b)).1, .own 0], .agg [.int .i64 (t23 b).1, .own 1]], [.row 3 (.int .i64) (d21 b (newC b)).2.1, .row 3 (.int .i64) (t23 b).2]) := by
  conv => lhs; whnf
  conv => lhs; arg 1; whnf
  refine bnd_g (by exact hp) ?_
  conv => lhs; whnf
  refine br_t (by kernel_rfl) ?_
  conv => lhs; whnf
  all_goals rfl
theorem ok_drawFindMap : FnOk Tryz.prog 5 K_drawFindMap := by
  refine fn_ok (fn := Tryz.f5) (k := Tryz.f5.ntmps) (E := E_drawFindMap) (facts_of (List.forall_mem_cons.2 ⟨ok_l23Two, List.forall_mem_nil _⟩)) (by kernel_rfl) rfl (by decide +kernel) (by decide +kernel) ?_
  intro avs hin r h
  unfold K_drawFindMap at h
  split at h
  · obtain ⟨hp, rfl⟩ := gd_o h
    exact ⟨_, ev_drawFindMap _ hp, rfl⟩
  · cases h

/- spec.DrawProfileOf -/
def K_drawProfileOf : List AV → List Ob → Option (AV × List Ob)
  | [.lst (.int .u8) b], [] => gd (b.length ≤ 1048576) (.agg [.int .i64 (d21 b (newC b)).1, .own 0], [.row 3 (.int .i64) (d21 b (newC b)).2.1])
  | _, _ => none
@[reducible] def E_drawProfileOf : Env := mkE (tb [(31, K_l1New), (30, K_draw21)]) (fun f => [30].contains f) (fun r => ([], []))
theorem ev_drawProfileOf (b : List Int) (hp : b.length ≤ 1048576) : evF E_drawProfileOf (1) Tryz.f8 [.lst (.int .u8) b] [] = some (.agg [.int .i64 (d21 b (newC b)).1, .own 0], [.row 3 (.int .i64) (d21 b (newC b)).2.1]) := by
  conv => lhs; whnf
  conv => lhs; arg 1; whnf
  refine bnd_g (by exact hp) ?_
  conv => lhs; whnf
  conv => lhs; arg 1; whnf
  refine bnd_g (by exact newC_ok hp) ?_
  conv => lhs; whnf
theorem ok_drawProfileOf : FnOk Tryz.prog 8 K_drawProfileOf := by
  refine fn_ok (fn := Tryz.f8) (k := Tryz.f8.ntmps) (E := E_drawProfileOf) (facts_of (List.forall_mem_cons.2 ⟨ok_l1New, List.forall_mem_cons.2 ⟨ok_draw21, List.forall_mem_nil _⟩⟩)) (by kernel_rfl) rfl (by decide +kernel) (by decide +kernel) ?_
  intro avs hin r h
  unfold K_drawProfileOf at h
  split at h
  · obtain ⟨hp, rfl⟩ := gd_o h
    exact ⟨_, ev_drawProfileOf _ hp, rfl⟩
  · cases h

/- spec.DrawHasMap -/
def K_drawHasMap : List AV → List Ob → Option (AV × List Ob)
  | [.lst (.int .u8) b], [] => gd (b.length ≤ 1048576) (.tup [.agg [.int .i64 (d21 b (newC b)).1, .own 0], .agg [.int .i64 (t23 b).1, .own 1]], [.row 3 (.int .i64) (d21 b (newC b)).2.1, .row 3 (.int .i64) (t23 b).2])
  | _, _ => none
@[reducible] def E_drawHasMap : Env := mkE (tb [(18, K_l23Two)]) (fun f => false) (fun r => ([], []))
theorem ev_drawHasMap (b : List Int) (hp : b.length ≤ 1048576) : evF E_drawHasMap (1) Tryz.f9 [.lst (.int .u8) b] [] = some (.tup [.agg [.int .i64 (d21 b (newC b)).1, .own 0], .agg [.int .i64 (t23 b).1, .own 1]], [.row 3 (.int .i64) (d21 b (newC b)).2.1, .row 3 (.int .i64) (t23 b).2]) := by
  conv => lhs; whnf
  conv => lhs; arg 1; whnf
  refine bnd_g (by exact hp) ?_
  conv => lhs; whnf
  refine br_t (by kernel_rfl) ?_
  conv => lhs; whnf
  all_goals rfl
theorem ok_drawHasMap : FnOk Tryz.prog 9 K_drawHasMap := by
  refine fn_ok (fn := Tryz.f9) (k := Tryz.f9.ntmps) (E := E_drawHasMap) (facts_of (List.forall_mem_cons.2 ⟨ok_l23Two, List.forall_mem_nil _⟩)) (by kernel_rfl) rfl (by decide +kernel) (by decide +kernel) ?_
  intro avs hin r h
  unfold K_drawHasMap at h
  split at h
  · obtain ⟨hp, rfl⟩ := gd_o h
    exact ⟨_, ev_drawHasMap _ hp, rfl⟩
  · cases h

/- spec.l6Exists -/
def K_l6Exists : List AV → List Ob → Option (AV × List Ob)
  | [.lst (.pair (.int .i64) (.int .i64)) l, .int .i64 a], [] => gd (l.length ≤ 64) (.bool (inC l a), [])
  | _, _ => none
@[reducible] def E_l6Exists : Env := mkE (tb [(65, K_l1In)]) (fun f => false) (fun r => ([], []))
theorem ev_l6Exists (l : List (Int × Int)) (a : Int) (hp : l.length ≤ 64) : evF E_l6Exists (1) Tryz.f34 [.lst (.pair (.int .i64) (.int .i64)) l, .int .i64 a] [] = some (.bool (inC l a), []) := by
  conv => lhs; whnf
  conv => lhs; arg 1; whnf
  refine bnd_g (by exact True.intro) ?_
  conv => lhs; whnf
  refine okB ?_
  unfold inC
  rw [wrap64 (by omega) (by omega)]
theorem ok_l6Exists : FnOk Tryz.prog 34 K_l6Exists := by
  refine fn_ok (fn := Tryz.f34) (k := Tryz.f34.ntmps) (E := E_l6Exists) (facts_of (List.forall_mem_cons.2 ⟨ok_l1In, List.forall_mem_nil _⟩)) (by kernel_rfl) rfl (by decide +kernel) (by decide +kernel) ?_
  intro avs hin r h
  unfold K_l6Exists at h
  split at h
  · obtain ⟨hp, rfl⟩ := gd_o h
    exact ⟨_, ev_l6Exists _ _ hp, rfl⟩
  · cases h

/- spec.IsBelow -/
def K_specIsBelow : List AV → List Ob → Option (AV × List Ob)
  | [.agg [.int .i64 m, .lst (.int .i64) b], .int .i64 x, .int .i64 y], [] => gd (b.length ≤ 1048576) (.bool (belowB (concF m b) x y), [])
  | _, _ => none
@[reducible] def E_specIsBelow : Env := mkE (tb [(26, K_specConcepts), (34, K_l6Exists), (35, K_l6Under)]) (fun f => false) (fun r => ([], []))
theorem ev_specIsBelow (m : Int) (b : List Int) (x y : Int) (hp : b.length ≤ 1048576) : evF E_specIsBelow (1) Tryz.f15 [.agg [.int .i64 m, .lst (.int .i64) b], .int .i64 x, .int .i64 y] [] = some (.bool (belowB (concF m b) x y), []) := by
  have hl := concF_len m b
  conv => lhs; whnf
  conv => lhs; arg 1; whnf
  refine bnd_g (by exact hp) ?_
  conv => lhs; whnf
  conv => lhs; arg 1; whnf
  refine bnd_g (by exact hl) ?_
  conv => lhs; whnf
  refine br_c (fun h => ?_) (fun h => ?_)
  · have h1 := inC_iff.1 h
    conv => lhs; whnf
    repeat ((first | with_reducible apply br_tt | with_reducible apply br_ff | with_reducible apply br_nf | with_reducible apply br_nt | with_reducible refine br_d ?_ (by kernel_rfl) | with_reducible apply br_t h | with_reducible apply br_f h); conv => lhs; whnf)
    conv => lhs; arg 1; whnf
    refine bnd_g (by exact hl) ?_
    conv => lhs; whnf
    repeat ((first | with_reducible apply br_tt | with_reducible apply br_ff | with_reducible apply br_nf | with_reducible apply br_nt | with_reducible refine br_d ?_ (by kernel_rfl) | with_reducible apply br_t h | with_reducible apply br_f h); conv => lhs; whnf)
    refine br_c (fun h2 => ?_) (fun h2 => ?_)
    · have h3 := inC_iff.1 h2
      conv => lhs; whnf
      repeat ((first | with_reducible apply br_tt | with_reducible apply br_ff | with_reducible apply br_nf | with_reducible apply br_nt | with_reducible refine br_d ?_ (by kernel_rfl) | with_reducible apply br_t h | with_reducible apply br_f h | with_reducible apply br_t h2 | with_reducible apply br_f h2 | with_reducible refine br_t (dt2 (by omega) (by omega)) ?_ | with_reducible refine br_t (dt (by omega)) ?_); conv => lhs; whnf)
      conv => lhs; arg 1; whnf
      refine bnd_g (by exact True.intro) ?_
      conv => lhs; whnf
      repeat ((first | with_reducible apply br_tt | with_reducible apply br_ff | with_reducible apply br_nf | with_reducible apply br_nt | with_reducible refine br_d ?_ (by kernel_rfl) | with_reducible apply br_t h | with_reducible apply br_f h | with_reducible apply br_t h2 | with_reducible apply br_f h2 | with_reducible refine br_t (dt2 (by omega) (by omega)) ?_ | with_reducible refine br_t (dt (by omega)) ?_); conv => lhs; whnf)
      refine okB ?_
      unfold belowB
      rw [h, h2]
      rfl
    · conv => lhs; whnf
      repeat ((first | with_reducible apply br_tt | with_reducible apply br_ff | with_reducible apply br_nf | with_reducible apply br_nt | with_reducible refine br_d ?_ (by kernel_rfl) | with_reducible apply br_t h | with_reducible apply br_f h | with_reducible apply br_t h2 | with_reducible apply br_f h2); conv => lhs; whnf)
      refine okB ?_
      unfold belowB
      rw [h, h2]
      rfl
  · conv => lhs; whnf
    repeat ((first | with_reducible apply br_tt | with_reducible apply br_ff | with_reducible apply br_nf | with_reducible apply br_nt | with_reducible refine br_d ?_ (by kernel_rfl) | with_reducible apply br_t h | with_reducible apply br_f h); conv => lhs; whnf)
    refine okB ?_
    unfold belowB
    rw [h]
    rfl
theorem ok_specIsBelow : FnOk Tryz.prog 15 K_specIsBelow := by
  refine fn_ok (fn := Tryz.f15) (k := Tryz.f15.ntmps) (E := E_specIsBelow) (facts_of (List.forall_mem_cons.2 ⟨ok_specConcepts, List.forall_mem_cons.2 ⟨ok_l6Exists, List.forall_mem_cons.2 ⟨ok_l6Under, List.forall_mem_nil _⟩⟩⟩)) (by kernel_rfl) rfl (by decide +kernel) (by decide +kernel) ?_
  intro avs hin r h
  unfold K_specIsBelow at h
  split at h
  · obtain ⟨hp, rfl⟩ := gd_o h
    exact ⟨_, ev_specIsBelow _ _ _ _ hp, rfl⟩
  · cases h

/- spec.CountConcepts -/
def K_specCountConcepts : List AV → List Ob → Option (AV × List Ob)
  | [.agg [.int .i64 m, .lst (.int .i64) a]], [] => gd (a.length ≤ 1048576) (.int .i64 ((concF m a).length : Int), [])
  | _, _ => none
@[reducible] def E_specCountConcepts : Env := mkE (tb [(26, K_specConcepts)]) (fun f => false) (fun r => ([], []))
theorem ev_specCountConcepts (m : Int) (a : List Int) (hp : a.length ≤ 1048576) : evF E_specCountConcepts (1) Tryz.f17 [.agg [.int .i64 m, .lst (.int .i64) a]] [] = some (.int .i64 ((concF m a).length : Int), []) := by
  conv => lhs; whnf
  conv => lhs; arg 1; whnf
  refine bnd_g (by exact hp) ?_
  conv => lhs; whnf
theorem ok_specCountConcepts : FnOk Tryz.prog 17 K_specCountConcepts := by
  refine fn_ok (fn := Tryz.f17) (k := Tryz.f17.ntmps) (E := E_specCountConcepts) (facts_of (List.forall_mem_cons.2 ⟨ok_specConcepts, List.forall_mem_nil _⟩)) (by kernel_rfl) rfl (by decide +kernel) (by decide +kernel) ?_
  intro avs hin r h
  unfold K_specCountConcepts at h
  split at h
  · obtain ⟨hp, rfl⟩ := gd_o h
    exact ⟨_, ev_specCountConcepts _ _ hp, rfl⟩
  · cases h

end Go.Sym
