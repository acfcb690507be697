/- Functions of the program, each told as a plain equation. -/
import Derived.Test.YtonbmmjagdbgaaaGreatDoorSymHNB
namespace Go.Sym
open Go.Proofs
set_option linter.unusedVariables false
set_option linter.unusedSimpArgs false
set_option maxRecDepth 100000
set_option maxHeartbeats 4000000

def pick4 (x y z w : Int) (b : List Int) (c : Cu) : Int := [x, y, z, w].getD (be b c 4).toNat 0
/-- A set, mostly, and the cursor behind it. -/
def bent2 (b : List Int) (c : Cu) : Int := bif be b c 8 == 0 then pick4 (-1) 256 1000 (-9223372036854775808) b (nx b c) else be b (nx b c) 256
def mkRows (b : List Int) (m : Int) : Nat → Cu → List Int × Cu
  | 0, c => ([], c)
  | d + 1, c => bif be b c 2 == 0 then
      (be b (nx b c) (shlI m) :: (mkRows b m d (nx b (nx b c))).1, (mkRows b m d (nx b (nx b c))).2)
    else (bor (be b (nx b c) (shlI m)) (be b (nx b (nx b c)) (shlI m)) :: (mkRows b m d (nx b (nx b (nx b c)))).1, (mkRows b m d (nx b (nx b (nx b c)))).2)
theorem mkRows_ok {b : List Int} {m : Int} : ∀ (d : Nat) (c : Cu), CuOk b c.1 → (mkRows b m d c).1.length = d ∧ CuOk b (mkRows b m d c).2.1
  | 0, c, h => ⟨rfl, h⟩
  | d + 1, c, h => by
    have h1 := mkRows_ok (m := m) d (nx b (nx b c)) (nx_ok (nx_ok h))
    have h2 := mkRows_ok (m := m) d (nx b (nx b (nx b c))) (nx_ok (nx_ok (nx_ok h)))
    unfold mkRows
    cases be b c 2 == 0
    · exact ⟨by rw [cond_false, List.length_cons, h2.1], h2.2⟩
    · exact ⟨by rw [cond_true, List.length_cons, h1.1], h1.2⟩
def make3 (b : List Int) (m o : Int) (c : Cu) : List Int × Cu := mkRows b m (be b c (o + 1)).toNat (nx b c)
theorem make3_ok {b : List Int} {m o : Int} {c : Cu} (h : CuOk b c.1) (ho : 0 ≤ o) : ((make3 b m o c).1.length : Int) ≤ o ∧ CuOk b (make3 b m o c).2.1 := by
  have h1 := mkRows_ok (m := m) (be b c (o + 1)).toNat (nx b c) (nx_ok h)
  have h2 := be_rng b c (n := o + 1) (by omega)
  unfold make3
  exact ⟨by omega, h1.2⟩
def draw3m (b : List Int) (c : Cu) : Int := ([0, 1, 2, 3, 3, 4, 4, 5, 5] : List Int).getD (be b c 9).toNat 0
theorem draw3m_rng (b : List Int) (c : Cu) : 0 ≤ draw3m b c ∧ draw3m b c ≤ 5 := by
  have h := be_rng b c (n := 9) (by omega)
  unfold draw3m
  obtain ⟨k, hk⟩ : ∃ k : Nat, be b c 9 = k := ⟨(be b c 9).toNat, by omega⟩
  rw [hk] at h ⊢
  have : ∀ k : Fin 9, 0 ≤ ([0, 1, 2, 3, 3, 4, 4, 5, 5] : List Int).getD ((k.val : Int)).toNat 0 ∧ ([0, 1, 2, 3, 3, 4, 4, 5, 5] : List Int).getD ((k.val : Int)).toNat 0 ≤ 5 := by decide
  exact this ⟨k, by omega⟩
/-- A context: attributes, rows, and the cursor behind it. -/
def draw3 (b : List Int) (c : Cu) : Int × List Int × Cu := (draw3m b c, make3 b (draw3m b c) 6 (nx b c))
theorem draw3_ok {b : List Int} {c : Cu} (h : CuOk b c.1) : (0 ≤ (draw3 b c).1 ∧ (draw3 b c).1 ≤ 5) ∧ (draw3 b c).2.1.length ≤ 6 ∧ CuOk b (draw3 b c).2.2.1 := by
  have h1 := make3_ok (b := b) (m := draw3m b c) (o := 6) (nx_ok h) (by omega)
  exact ⟨draw3m_rng b c, by have := h1.1; unfold draw3; dsimp only; omega, h1.2⟩
def pad9 (a : List Int) : List Int := a ++ List.replicate (9 - a.length) 0
def bent3' (b : List Int) (x : Int × List Int × Cu) : Int × List Int × Cu :=
  bif be b x.2.2 14 == 0 then (pick4 (-1) 0 2 7 b (nx b x.2.2), x.2.1, nx b (nx b x.2.2))
  else bif be b x.2.2 14 == 1 then (x.1, x.2.1 ++ [bent2 b (nx b x.2.2)], nx b (nx b (nx b x.2.2)))
  else bif be b x.2.2 14 == 2 then (x.1, pad9 x.2.1, nx b x.2.2) else (x.1, x.2.1, nx b x.2.2)
def bent3 (b : List Int) (c : Cu) : Int × List Int × Cu := bent3' b (draw3 b c)
theorem bent3_ok {b : List Int} {c : Cu} (h : CuOk b c.1) : (bent3 b c).2.1.length ≤ 9 ∧ CuOk b (bent3 b c).2.2.1 := by
  obtain ⟨h1, h2, h3⟩ := draw3_ok h
  unfold bent3
  generalize draw3 b c = x at h1 h2 h3
  unfold bent3'
  have n1 := nx_ok h3
  have n2 := nx_ok n1
  have n3 := nx_ok n2
  cases be b x.2.2 14 == 0
  · cases be b x.2.2 14 == 1
    · cases be b x.2.2 14 == 2
      · exact ⟨by simp only [cond_false]; omega, n1⟩
      · refine ⟨?_, n1⟩
        simp only [cond_false, cond_true, pad9, List.length_append, List.length_replicate]
        omega
    · refine ⟨?_, n3⟩
      simp only [cond_false, cond_true, List.length_append, List.length_singleton]
      omega
  · exact ⟨by simp only [cond_true]; omega, n2⟩
def newL (b : List Int) : Nat → Nat → Int → Int
  | 0, _, h => h
  | d + 1, i, h => newL b d (i + 1) (band (IntKind.i64.wrap (IntKind.i64.wrap (IntKind.i64.wrap (h * 131) + IntKind.i64.wrap (b.getD i 0)) + 7)) 1073741823)
def newC (b : List Int) : Cu := (0, newL b (min b.length 4000) 0 (IntKind.i64.wrap (26583 + b.length)))
theorem newC_ok {b : List Int} (h : b.length ≤ 1048576) : CuOk b (newC b).1 := ⟨Int.le_refl 0, Int.natCast_nonneg _, h⟩
/-- A context with a set of its attributes, mostly. -/
def att4 (b : List Int) (c : Cu) : Int × List Int × Int :=
  bif be b (nx b (draw3 b c).2.2) 16 == 0 then ((bent3 b (nx b (nx b (draw3 b c).2.2))).1, (bent3 b (nx b (nx b (draw3 b c).2.2))).2.1, be b (draw3 b c).2.2 (shlI (draw3 b c).1))
  else bif be b (nx b (draw3 b c).2.2) 16 == 1 then ((draw3 b c).1, (draw3 b c).2.1, bent2 b (nx b (nx b (draw3 b c).2.2)))
  else ((draw3 b c).1, (draw3 b c).2.1, be b (draw3 b c).2.2 (shlI (draw3 b c).1))
theorem att4_len {b : List Int} {c : Cu} (h : CuOk b c.1) : (att4 b c).2.1.length ≤ 9 := by
  obtain ⟨h1, h2, h3⟩ := draw3_ok h
  have h4 := bent3_ok (b := b) (c := nx b (nx b (draw3 b c).2.2)) (nx_ok (nx_ok h3))
  unfold att4
  cases be b (nx b (draw3 b c).2.2) 16 == 0
  · cases be b (nx b (draw3 b c).2.2) 16 == 1
    · simp only [cond_false]; omega
    · simp only [cond_false, cond_true]; omega
  · simp only [cond_true]; exact h4.1
/- spec.l1New -/
def K_l1New : List AV → List Ob → Option (AV × List Ob)
  | [.lst (.int .u8) b], [] => gd (b.length ≤ 1048576) (.ptr 0 0, [.box 92 [.lst (.int .u8) b, .int .i64 (newC b).1, .int .i64 (newC b).2]])
  | _, _ => none
@[reducible] def E_l1New : Env := mkE (tb []) (fun f => false) (fun r => bif r == 3 then ([0, 3, 4], [0, 3]) else ([], []))
theorem lp_l1New (b : List Int) (hb : b.length ≤ 1048576) (k : AX → S → Option (AV × List Ob)) (d : Nat) : ∀ (n i : Nat) (x h : Int), min b.length 4000 - i = d → i ≤ min b.length 4000 → x = i → d < n →
    lpAt E_l1New (lp E_l1New 0 n) 0 (loopAt Tryz.f49 0) (mkS [0, 3, 4] [.lst (.int .u8) b, .int .i64 h, .int .i64 x] []) k =
      k (.exit 0) (mkS [0, 3] [.lst (.int .u8) b, .int .i64 (newL b d i h)] []) := by
  induction d with
  | zero =>
    intro n i x h hd hi hx hn
    subst hx
    rw [lpAt_def]
    conv => lhs; whnf
    refine br_c (fun g => ?_) (fun g => ?_)
    · have g' := ofd g
      conv => lhs; whnf
      repeat ((first | with_reducible apply br_tt | with_reducible apply br_ff | with_reducible apply br_nf | with_reducible apply br_nt | with_reducible refine br_d ?_ (by kernel_rfl) | with_reducible apply br_t g | with_reducible apply br_f g); conv => lhs; whnf)
      refine br_f (df (by omega)) ?_
      conv => lhs; whnf
      all_goals rfl
    · conv => lhs; whnf
      repeat ((first | with_reducible apply br_tt | with_reducible apply br_ff | with_reducible apply br_nf | with_reducible apply br_nt | with_reducible refine br_d ?_ (by kernel_rfl) | with_reducible apply br_t g | with_reducible apply br_f g); conv => lhs; whnf)
      all_goals rfl
  | succ d ih =>
    intro n i x h hd hi hx hn
    obtain ⟨n, rfl⟩ : ∃ m, n = m + 1 := ⟨n - 1, by omega⟩
    subst hx
    rw [lpAt_def]
    have g : decide ((i : Int) < (b.length : Int)) = true := dt (by omega)
    conv => lhs; whnf
    repeat ((first | with_reducible apply br_tt | with_reducible apply br_ff | with_reducible apply br_nf | with_reducible apply br_nt | with_reducible refine br_d ?_ (by kernel_rfl) | with_reducible apply br_t g | with_reducible apply br_f g); conv => lhs; whnf)
    refine br_t (dt (by omega)) ?_
    conv => lhs; whnf
    refine br_t (dt2 (by omega) (by omega)) ?_
    conv => lhs; whnf
    refine Eq.trans (b := lpAt E_l1New (lp E_l1New 0 n) 0 (loopAt Tryz.f49 0) (mkS [0, 3, 4] [.lst (.int .u8) b, .int .i64 (band (IntKind.i64.wrap (IntKind.i64.wrap (IntKind.i64.wrap (h * 131) + IntKind.i64.wrap (b.getD i 0)) + 7)) 1073741823), .int .i64 (IntKind.i64.wrap ((i : Int) + 1))] []) k) rfl ?_
    exact ih n (i + 1) (IntKind.i64.wrap ((i : Int) + 1)) _ (by omega) (by omega) (by rw [wrap64 (n := (i : Int) + 1) (by omega) (by omega)]; simp) (by omega)
theorem ev_l1New (b : List Int) (hp : b.length ≤ 1048576) : evF E_l1New (4010) Tryz.f49 [.lst (.int .u8) b] [] = some (.ptr 0 0, [.box 92 [.lst (.int .u8) b, .int .i64 (newC b).1, .int .i64 (newC b).2]]) := by
  conv => lhs; whnf
  refine (lp_l1New b hp _ (min b.length 4000) _ 0 0 _ rfl (Nat.zero_le _) rfl (by change _ < 4009; omega)).trans ?_
  conv => lhs; whnf
  rfl
theorem ok_l1New : FnOk Tryz.prog 49 K_l1New := by
  refine fn_ok (fn := Tryz.f49) (k := Tryz.f49.ntmps) (E := E_l1New) (facts_of (List.forall_mem_nil _)) (by kernel_rfl) rfl (by decide +kernel) (by decide +kernel) ?_
  intro avs hin r h
  unfold K_l1New at h
  split at h
  · obtain ⟨hp, rfl⟩ := gd_o h
    exact ⟨_, ev_l1New _ hp, rfl⟩
  · cases h

/- spec.l1Byte -/
def K_l1Byte : List AV → List Ob → Option (AV × List Ob)
  | [.ptr 0 0], [.box 92 [.lst (.int .u8) b, .int .i64 i, .int .i64 h]] => gd (CuOk b i) (.int .i64 (curV b (i, h)), [.box 92 [.lst (.int .u8) b, .int .i64 (nx b (i, h)).1, .int .i64 (nx b (i, h)).2]])
  | _, _ => none
@[reducible] def E_l1Byte : Env := mkE (tb []) (fun f => false) (fun r => ([], []))
theorem ev_l1Byte (b : List Int) (i h : Int) (hp : CuOk b i) : evF E_l1Byte (1) Tryz.f137 [.ptr 0 0] [.box 92 [.lst (.int .u8) b, .int .i64 i, .int .i64 h]] = some (.int .i64 (curV b (i, h)), [.box 92 [.lst (.int .u8) b, .int .i64 (nx b (i, h)).1, .int .i64 (nx b (i, h)).2]]) := by
  have h1 := hp.1
  have h2 := hp.2.1
  have h3 := hp.2.2
  conv => lhs; whnf
  refine br_f (df (by omega)) ?_
  conv => lhs; whnf
  refine br_f (df (by omega)) ?_
  conv => lhs; whnf
  refine br_t (by kernel_rfl) ?_
  conv => lhs; whnf
  refine br_t (by kernel_rfl) ?_
  conv => lhs; whnf
  refine br_c (fun hc => ?_) (fun hc => ?_)
  · have h' := ofd hc
    conv => lhs; whnf
    refine br_t (dt2 (by omega) (by omega)) ?_
    conv => lhs; whnf
    refine br_t (by kernel_rfl) ?_
    conv => lhs; whnf
    have e1 : nx b (i, h) = (i + 1, curH h) := by unfold nx; rw [if_pos h']
    have e2 : curV b (i, h) = band (IntKind.i64.wrap (curX h + IntKind.i64.wrap (b.getD i.toNat 0))) 255 := if_pos h'
    rw [e1, e2, wrap64 (n := i + 1) (by omega) (by omega)]
    rfl
  · have h' := ofn hc
    conv => lhs; whnf
    have e1 : nx b (i, h) = (i, curH h) := by unfold nx; rw [if_neg h']
    have e2 : curV b (i, h) = curX h := if_neg h'
    rw [e1, e2]
    rfl
theorem ok_l1Byte : FnOk Tryz.prog 137 K_l1Byte := by
  refine fn_ok (fn := Tryz.f137) (k := Tryz.f137.ntmps) (E := E_l1Byte) (facts_of (List.forall_mem_nil _)) (by kernel_rfl) rfl (by decide +kernel) (by decide +kernel) ?_
  intro avs hin r h
  unfold K_l1Byte at h
  split at h
  · obtain ⟨hp, rfl⟩ := gd_o h
    exact ⟨_, ev_l1Byte _ _ _ hp, rfl⟩
  · cases h

/- spec.l1Below -/
def K_l1Below : List AV → List Ob → Option (AV × List Ob)
  | [.ptr 0 0, .int .i64 n], [.box 92 [.lst (.int .u8) b, .int .i64 i, .int .i64 h]] => gd (CuOk b i ∧ 1 ≤ n ∧ n ≤ 256) (.int .i64 (be b (i, h) n), [.box 92 [.lst (.int .u8) b, .int .i64 (nx b (i, h)).1, .int .i64 (nx b (i, h)).2]])
  | _, _ => none
@[reducible] def E_l1Below : Env := mkE (tb [(137, K_l1Byte)]) (fun f => [137].contains f) (fun r => ([], []))
theorem ev_l1Below (b : List Int) (i h : Int) (n : Int) (hp : CuOk b i ∧ 1 ≤ n ∧ n ≤ 256) : evF E_l1Below (1) Tryz.f76 [.ptr 0 0, .int .i64 n] [.box 92 [.lst (.int .u8) b, .int .i64 i, .int .i64 h]] = some (.int .i64 (be b (i, h) n), [.box 92 [.lst (.int .u8) b, .int .i64 (nx b (i, h)).1, .int .i64 (nx b (i, h)).2]]) := by
  have h1 := hp.2.1
  have h2 := hp.2.2
  have hr := be_rng b (i, h) (n := n) (by omega)
  conv => lhs; whnf
  refine br_f (df (by omega)) ?_
  conv => lhs; whnf
  refine br_t (dt (by omega)) ?_
  conv => lhs; whnf
  conv => lhs; arg 1; whnf
  refine bnd_g (by exact hp.1) ?_
  conv => lhs; whnf
  refine br_f (df (by omega)) ?_
  conv => lhs; whnf
  rfl
theorem ok_l1Below : FnOk Tryz.prog 76 K_l1Below := by
  refine fn_ok (fn := Tryz.f76) (k := Tryz.f76.ntmps) (E := E_l1Below) (facts_of (List.forall_mem_cons.2 ⟨ok_l1Byte, List.forall_mem_nil _⟩)) (by kernel_rfl) rfl (by decide +kernel) (by decide +kernel) ?_
  intro avs hin r h
  unfold K_l1Below at h
  split at h
  · obtain ⟨hp, rfl⟩ := gd_o h
    exact ⟨_, ev_l1Below _ _ _ _ hp, rfl⟩
  · cases h

/- spec.DrawDescribeExample -/
def K_drawExampleText : List AV → List Ob → Option (AV × List Ob)
  | [.lst (.int .u8) b], [] => gd (b.length ≤ 1048576) (.int .i64 (be b (newC b) 9 - 1), [])
  | _, _ => none
@[reducible] def E_drawExampleText : Env := mkE (tb [(49, K_l1New), (76, K_l1Below)]) (fun f => [76].contains f) (fun r => ([], []))
theorem ev_drawExampleText (b : List Int) (hp : b.length ≤ 1048576) : evF E_drawExampleText (1) Tryz.f28 [.lst (.int .u8) b] [] = some (.int .i64 (be b (newC b) 9 - 1), []) := by
  have n0 := newC_ok hp
  have hr := be_rng b (newC b) (n := 9) (by omega)
  have hw : IntKind.i64.wrap (be b (newC b) 9 - 1) = be b (newC b) 9 - 1 := wrap64 (by omega) (by omega)
  conv => lhs; whnf
  conv => lhs; arg 1; whnf
  refine bnd_g (by exact hp) ?_
  conv => lhs; whnf
  conv => lhs; arg 1; whnf
  refine bnd_g (by exact ⟨n0, by omega, by omega⟩) ?_
  conv => lhs; whnf
  conv => rhs; rw [← hw]
  all_goals rfl
theorem ok_drawExampleText : FnOk Tryz.prog 28 K_drawExampleText := by
  refine fn_ok (fn := Tryz.f28) (k := Tryz.f28.ntmps) (E := E_drawExampleText) (facts_of (List.forall_mem_cons.2 ⟨ok_l1New, List.forall_mem_cons.2 ⟨ok_l1Below, List.forall_mem_nil _⟩⟩)) (by kernel_rfl) rfl (by decide +kernel) (by decide +kernel) ?_
  intro avs hin r h
  unfold K_drawExampleText at h
  split at h
  · obtain ⟨hp, rfl⟩ := gd_o h
    exact ⟨_, ev_drawExampleText _ hp, rfl⟩
  · cases h

def d21 (b : List Int) (c : Cu) : Int × List Int × Cu :=
  bif be b c 12 == 0 then bent3 b (nx b c)
  else bif be b (make3 b (be b (nx b c) 5) 5 (nx b (nx b c))).2 3 == 0 then (3, [6, 5, 3], nx b (make3 b (be b (nx b c) 5) 5 (nx b (nx b c))).2)
  else (be b (nx b c) 5, (make3 b (be b (nx b c) 5) 5 (nx b (nx b c))).1, nx b (make3 b (be b (nx b c) 5) 5 (nx b (nx b c))).2)
theorem d21_len {b : List Int} {c : Cu} (h : CuOk b c.1) : (d21 b c).2.1.length ≤ 9 := by
  have h1 := (bent3_ok (nx_ok h)).1
  have h2 := (make3_ok (b := b) (m := be b (nx b c) 5) (o := 5) (c := nx b (nx b c)) (nx_ok (nx_ok h)) (by omega)).1
  unfold d21
  cases be b c 12 == 0
  · rw [cond_false]
    cases be b (make3 b (be b (nx b c) 5) 5 (nx b (nx b c))).2 3 == 0
    · rw [cond_false]; dsimp only; omega
    · rw [cond_true]; dsimp only; simp
  · rw [cond_true]; exact h1
def comF (m x : Int) : Int := IntKind.i64.wrap (fullSet m - x)
/- spec.ComplementContext -/
def K_specComplement : List AV → List Ob → Option (AV × List Ob)
  | [.agg [.int .i64 m, .lst (.int .i64) a]], [] => gd (isCtx m a = true) (.tup [.agg [.int .i64 m, .own 0], .bool true], [.row 3 (.int .i64) (a.map (comF m))])
  | _, _ => none
@[reducible] def E_specComplement : Env := mkE (tb [(60, K_specIsContext), (114, K_specFullSet)]) (fun f => false) (fun r => bif r == 5 then ([1, 2, 4, 5], [2, 4]) else ([], []))
theorem lp_specComplement (m : Int) (a : List Int) (ha : a.length ≤ 8) (k : AX → S → Option (AV × List Ob)) (d : Nat) : ∀ (n i : Nat) (x : Int) (zs : List Int), a.length - i = d → i ≤ a.length → x = i → d < n → zs.length ≤ i →
    lpAt E_specComplement (lp E_specComplement 0 n) 0 (loopAt Tryz.f108 0) (mkS [1, 2, 4, 5] [.ptr 0 0, .ptr 1 0, .ptr 3 0, .int .i64 x] [some (.box 26 [.int .i64 m, .lst (.int .i64) a]), some (.box 26 [.int .i64 0, .own 2]), some (.row 3 (.int .i64) []), some (.box 26 [.int .i64 m, .own 4]), some (.row 3 (.int .i64) zs)]) k =
      k (.exit 0) (mkS [2, 4] [.ptr 0 0, .ptr 2 0] [some (.box 26 [.int .i64 0, .own 1]), some (.row 3 (.int .i64) []), some (.box 26 [.int .i64 m, .own 3]), some (.row 3 (.int .i64) (zs ++ (a.drop i).map (comF m)))]) := by
  induction d with
  | zero =>
    intro n i x zs hd hi hx hn hz
    subst hx
    rw [lpAt_def]
    conv => lhs; whnf
    refine br_f (df (by omega)) ?_
    conv => lhs; whnf
    rw [List.drop_of_length_le (by omega), List.map_nil, List.append_nil]
  | succ d ih =>
    intro n i x zs hd hi hx hn hz
    obtain ⟨n, rfl⟩ : ∃ m, n = m + 1 := ⟨n - 1, by omega⟩
    subst hx
    rw [lpAt_def]
    conv => lhs; whnf
    refine br_t (dt (by omega)) ?_
    conv => lhs; whnf
    conv => lhs; arg 1; whnf
    refine bnd_g (by exact True.intro) ?_
    conv => lhs; whnf
    repeat ((first | with_reducible apply br_tt | with_reducible apply br_ff | with_reducible apply br_nf | with_reducible apply br_nt | with_reducible refine br_d ?_ (by kernel_rfl) | with_reducible refine br_t (dt2 (by omega) (by omega)) ?_ | with_reducible refine br_t (dt (by omega)) ?_); conv => lhs; whnf)
    refine br_t (dt (by simp [room]; omega)) ?_
    conv => lhs; whnf
    repeat ((first | with_reducible apply br_tt | with_reducible apply br_ff | with_reducible apply br_nf | with_reducible apply br_nt | with_reducible refine br_d ?_ (by kernel_rfl)); conv => lhs; whnf)
    refine (ih n (i + 1) (IntKind.i64.wrap ((i : Int) + 1)) _ (by omega) (by omega) (by rw [wrap64 (n := (i : Int) + 1) (by omega) (by omega)]; simp) (by omega) (by simp; omega)).trans ?_
    rw [getD_drop (l := a) (i := i) (d := 0) (by omega), List.map_cons]
    simp only [List.append_assoc]
    rfl
theorem ev_specComplement (m : Int) (a : List Int) (hp : isCtx m a = true) : evF E_specComplement (20) Tryz.f108 [.agg [.int .i64 m, .lst (.int .i64) a]] [] = some (.tup [.agg [.int .i64 m, .own 0], .bool true], [.row 3 (.int .i64) (a.map (comF m))]) := by
  have hl := isCtx_len hp
  have h0 : (!isCtx m a) = false := by rw [hp]; rfl
  conv => lhs; whnf
  conv => lhs; arg 1; whnf
  refine bnd_g (by omega) ?_
  conv => lhs; whnf
  refine br_f (by exact h0) ?_
  conv => lhs; whnf
  refine (lp_specComplement m a hl.1 _ a.length _ 0 0 [] rfl (by omega) rfl (by change _ < 19; omega) (by simp)).trans ?_
  conv => lhs; whnf
  all_goals rfl
theorem ok_specComplement : FnOk Tryz.prog 108 K_specComplement := by
  refine fn_ok (fn := Tryz.f108) (k := Tryz.f108.ntmps) (E := E_specComplement) (facts_of (List.forall_mem_cons.2 ⟨(FnOk.soft (fun h => False.elim h) ok_specIsContext), List.forall_mem_cons.2 ⟨(FnOk.soft (fun h => False.elim h) ok_specFullSet), List.forall_mem_nil _⟩⟩)) (by kernel_rfl) rfl (by decide +kernel) (by decide +kernel) ?_
  intro avs hin r h
  unfold K_specComplement at h
  split at h
  · obtain ⟨hp, rfl⟩ := gd_o h
    exact ⟨_, ev_specComplement _ _ hp, rfl⟩
  · cases h

/- spec.l1Once -/
def K_l1Once : List AV → List Ob → Option (AV × List Ob)
  | [.ptr 0 0, .int .i64 n], [.box 92 [.lst (.int .u8) b, .int .i64 i, .int .i64 h]] => gd (CuOk b i ∧ 1 ≤ n ∧ n ≤ 256) (.bool (be b (i, h) n == 0), [.box 92 [.lst (.int .u8) b, .int .i64 (nx b (i, h)).1, .int .i64 (nx b (i, h)).2]])
  | _, _ => none
@[reducible] def E_l1Once : Env := mkE (tb [(76, K_l1Below)]) (fun f => [76].contains f) (fun r => ([], []))
theorem ev_l1Once (b : List Int) (i h : Int) (n : Int) (hp : CuOk b i ∧ 1 ≤ n ∧ n ≤ 256) : evF E_l1Once (1) Tryz.f105 [.ptr 0 0, .int .i64 n] [.box 92 [.lst (.int .u8) b, .int .i64 i, .int .i64 h]] = some (.bool (be b (i, h) n == 0), [.box 92 [.lst (.int .u8) b, .int .i64 (nx b (i, h)).1, .int .i64 (nx b (i, h)).2]]) := by
  conv => lhs; whnf
  conv => lhs; arg 1; whnf
  refine bnd_g (by exact hp) ?_
  conv => lhs; whnf
theorem ok_l1Once : FnOk Tryz.prog 105 K_l1Once := by
  refine fn_ok (fn := Tryz.f105) (k := Tryz.f105.ntmps) (E := E_l1Once) (facts_of (List.forall_mem_cons.2 ⟨ok_l1Below, List.forall_mem_nil _⟩)) (by kernel_rfl) rfl (by decide +kernel) (by decide +kernel) ?_
  intro avs hin r h
  unfold K_l1Once at h
  split at h
  · obtain ⟨hp, rfl⟩ := gd_o h
    exact ⟨_, ev_l1Once _ _ _ _ hp, rfl⟩
  · cases h

/- spec.l1PickInt -/
def K_l1PickInt : List AV → List Ob → Option (AV × List Ob)
  | [.ptr 0 0, .own 1], [.box 92 [.lst (.int .u8) b, .int .i64 i, .int .i64 h], .row 3 (.int .i64) l] => gd (CuOk b i ∧ 1 ≤ l.length ∧ l.length ≤ 256) (.int .i64 (l.getD (be b (i, h) (l.length : Int)).toNat 0), [.box 92 [.lst (.int .u8) b, .int .i64 (nx b (i, h)).1, .int .i64 (nx b (i, h)).2], .row 3 (.int .i64) l])
  | _, _ => none
@[reducible] def E_l1PickInt : Env := mkE (tb [(76, K_l1Below)]) (fun f => [76].contains f) (fun r => ([], []))
theorem ev_l1PickInt (b : List Int) (i h : Int) (l : List Int) (hp : CuOk b i ∧ 1 ≤ l.length ∧ l.length ≤ 256) : evF E_l1PickInt (1) Tryz.f155 [.ptr 0 0, .own 1] [.box 92 [.lst (.int .u8) b, .int .i64 i, .int .i64 h], .row 3 (.int .i64) l] = some (.int .i64 (l.getD (be b (i, h) (l.length : Int)).toNat 0), [.box 92 [.lst (.int .u8) b, .int .i64 (nx b (i, h)).1, .int .i64 (nx b (i, h)).2], .row 3 (.int .i64) l]) := by
  have hr := be_rng b (i, h) (n := (l.length : Int)) (by omega)
  conv => lhs; whnf
  conv => lhs; arg 1; whnf
  refine bnd_g (by exact ⟨hp.1, by omega, by omega⟩) ?_
  conv => lhs; whnf
  refine br_t (dt2 (by omega) (by omega)) ?_
  conv => lhs; whnf
  refine br_t (dt (by omega)) ?_
  conv => lhs; whnf
  rfl
theorem ok_l1PickInt : FnOk Tryz.prog 155 K_l1PickInt := by
  refine fn_ok (fn := Tryz.f155) (k := Tryz.f155.ntmps) (E := E_l1PickInt) (facts_of (List.forall_mem_cons.2 ⟨ok_l1Below, List.forall_mem_nil _⟩)) (by kernel_rfl) rfl (by decide +kernel) (by decide +kernel) ?_
  intro avs hin r h
  unfold K_l1PickInt at h
  split at h
  · obtain ⟨hp, rfl⟩ := gd_o h
    exact ⟨_, ev_l1PickInt _ _ _ _ hp, rfl⟩
  · cases h

/- spec.l3Make -/
def K_l3Make : List AV → List Ob → Option (AV × List Ob)
  | [.ptr 0 0, .int .i64 m, .int .i64 o], [.box 92 [.lst (.int .u8) b, .int .i64 i, .int .i64 h]] => gd (CuOk b i ∧ (0 ≤ m ∧ m ≤ 8) ∧ 0 ≤ o ∧ o ≤ 90) (.agg [.int .i64 m, .own 1], [.box 92 [.lst (.int .u8) b, .int .i64 (make3 b m o (i, h)).2.1, .int .i64 (make3 b m o (i, h)).2.2], .row 3 (.int .i64) (make3 b m o (i, h)).1])
  | _, _ => none
@[reducible] def E_l3Make : Env := mkE (tb [(105, K_l1Once), (76, K_l1Below)]) (fun f => [105, 76].contains f) (fun r => bif r == 4 then ([0, 1, 6, 7, 8, 9], [6, 7]) else ([], []))
theorem lp_l3Make (b : List Int) (m : Int) (hm : 0 ≤ m ∧ m ≤ 8) (N : Int) (hN : 0 ≤ N ∧ N ≤ 100) (k : AX → S → Option (AV × List Ob)) (d : Nat) : ∀ (n i : Nat) (x i0 h0 : Int) (zs : List Int), N.toNat - i = d → i ≤ N.toNat → x = i → d < n → CuOk b i0 → zs.length ≤ i →
    lpAt E_l3Make (lp E_l3Make 1 n) 1 (loopAt Tryz.f107 0) (mkS [0, 1, 6, 7, 8, 9] [.ptr 0 0, .int .i64 m, .ptr 1 0, .ptr 3 0, .int .i64 N, .int .i64 x] [some (.box 92 [.lst (.int .u8) b, .int .i64 i0, .int .i64 h0]), some (.box 26 [.int .i64 0, .own 2]), some (.row 3 (.int .i64) []), some (.box 26 [.int .i64 m, .own 4]), some (.row 3 (.int .i64) zs)]) k =
      k (.exit 0) (mkS [6, 7] [.ptr 1 0, .ptr 3 0] [some (.box 92 [.lst (.int .u8) b, .int .i64 (mkRows b m d (i0, h0)).2.1, .int .i64 (mkRows b m d (i0, h0)).2.2]), some (.box 26 [.int .i64 0, .own 2]), some (.row 3 (.int .i64) []), some (.box 26 [.int .i64 m, .own 4]), some (.row 3 (.int .i64) (zs ++ (mkRows b m d (i0, h0)).1))]) := by
  have hs := shlI_rng hm.1 hm.2
  have hu := wrapu hm.1 hm.2
  induction d with
  | zero =>
    intro n i x i0 h0 zs hd hi hx hn hc hz
    subst hx
    rw [lpAt_def]
    conv => lhs; whnf
    refine br_f (df (by omega)) ?_
    conv => lhs; whnf
    rw [mkRows, List.append_nil]
  | succ d ih =>
    intro n i x i0 h0 zs hd hi hx hn hc hz
    obtain ⟨n, rfl⟩ : ∃ m, n = m + 1 := ⟨n - 1, by omega⟩
    subst hx
    have n1 := nx_ok (c := (i0, h0)) hc
    have n2 := nx_ok n1
    have n3 := nx_ok n2
    rw [lpAt_def]
    conv => lhs; whnf
    refine br_t (dt (by omega)) ?_
    conv => lhs; whnf
    conv => lhs; arg 1; whnf
    refine bnd_g (by exact ⟨hc, by omega, by omega⟩) ?_
    conv => lhs; whnf
    refine br_c (fun g => ?_) (fun g => ?_)
    · conv => lhs; whnf
      rw [hu]
      refine br_f (df (by omega)) ?_
      conv => lhs; whnf
      conv => lhs; arg 1; whnf
      refine bnd_g (by exact ⟨n1, hs⟩) ?_
      conv => lhs; whnf
      refine br_t (dt (by simp [room]; omega)) ?_
      conv => lhs; whnf
      refine br_t (by kernel_rfl) ?_
      conv => lhs; whnf
      refine (ih n (i + 1) (IntKind.i64.wrap ((i : Int) + 1)) _ _ _ (by omega) (by omega) (by rw [wrap64 (n := (i : Int) + 1) (by omega) (by omega)]; simp) (by omega) n2 (by simp; omega)).trans ?_
      have e : mkRows b m (d + 1) (i0, h0) = (be b (nx b (i0, h0)) (shlI m) :: (mkRows b m d (nx b (nx b (i0, h0)))).1, (mkRows b m d (nx b (nx b (i0, h0)))).2) := by rw [mkRows, g]; rfl
      rw [e, List.append_assoc]
      rfl
    · conv => lhs; whnf
      rw [hu]
      refine br_f (df (by omega)) ?_
      conv => lhs; whnf
      conv => lhs; arg 1; whnf
      refine bnd_g (by exact ⟨n1, hs⟩) ?_
      conv => lhs; whnf
      rw [hu]
      refine br_f (df (by omega)) ?_
      conv => lhs; whnf
      conv => lhs; arg 1; whnf
      refine bnd_g (by exact ⟨n2, hs⟩) ?_
      conv => lhs; whnf
      refine br_t (dt (by simp [room]; omega)) ?_
      conv => lhs; whnf
      refine br_t (by kernel_rfl) ?_
      conv => lhs; whnf
      refine (ih n (i + 1) (IntKind.i64.wrap ((i : Int) + 1)) _ _ _ (by omega) (by omega) (by rw [wrap64 (n := (i : Int) + 1) (by omega) (by omega)]; simp) (by omega) n3 (by simp; omega)).trans ?_
      have e : mkRows b m (d + 1) (i0, h0) = (bor (be b (nx b (i0, h0)) (shlI m)) (be b (nx b (nx b (i0, h0))) (shlI m)) :: (mkRows b m d (nx b (nx b (nx b (i0, h0))))).1, (mkRows b m d (nx b (nx b (nx b (i0, h0))))).2) := by rw [mkRows, g]; rfl
      rw [e, List.append_assoc]
      rfl
theorem ev_l3Make (b : List Int) (i h m o : Int) (hp : CuOk b i ∧ (0 ≤ m ∧ m ≤ 8) ∧ 0 ≤ o ∧ o ≤ 90) : evF E_l3Make (100) Tryz.f107 [.ptr 0 0, .int .i64 m, .int .i64 o] [.box 92 [.lst (.int .u8) b, .int .i64 i, .int .i64 h]] = some (.agg [.int .i64 m, .own 1], [.box 92 [.lst (.int .u8) b, .int .i64 (make3 b m o (i, h)).2.1, .int .i64 (make3 b m o (i, h)).2.2], .row 3 (.int .i64) (make3 b m o (i, h)).1]) := by
  have hr := be_rng b (i, h) (n := o + 1) (by omega)
  have n1 := nx_ok (c := (i, h)) hp.1
  have hw : IntKind.i64.wrap (o + 1) = o + 1 := wrap64 (by omega) (by omega)
  conv => lhs; whnf
  rw [hw]
  conv => lhs; arg 1; whnf
  refine bnd_g (by exact ⟨hp.1, by omega, by omega⟩) ?_
  conv => lhs; whnf
  refine (lp_l3Make b m hp.2.1 (be b (i, h) (o + 1)) (by omega) _ (be b (i, h) (o + 1)).toNat _ 0 0 (nx b (i, h)).1 (nx b (i, h)).2 [] rfl (by omega) rfl (by change _ < 99; omega) n1 (by simp)).trans ?_
  conv => lhs; whnf
  rfl
theorem ok_l3Make : FnOk Tryz.prog 107 K_l3Make := by
  refine fn_ok (fn := Tryz.f107) (k := Tryz.f107.ntmps) (E := E_l3Make) (facts_of (List.forall_mem_cons.2 ⟨ok_l1Once, List.forall_mem_cons.2 ⟨ok_l1Below, List.forall_mem_nil _⟩⟩)) (by kernel_rfl) rfl (by decide +kernel) (by decide +kernel) ?_
  intro avs hin r h
  unfold K_l3Make at h
  split at h
  · obtain ⟨hp, rfl⟩ := gd_o h
    exact ⟨_, ev_l3Make _ _ _ _ _ hp, rfl⟩
  · cases h

/- spec.l3Draw -/
def K_l3Draw : List AV → List Ob → Option (AV × List Ob)
  | [.ptr 0 0], [.box 92 [.lst (.int .u8) b, .int .i64 i, .int .i64 h]] => gd (CuOk b i) (.agg [.int .i64 (draw3 b (i, h)).1, .own 1], [.box 92 [.lst (.int .u8) b, .int .i64 (draw3 b (i, h)).2.2.1, .int .i64 (draw3 b (i, h)).2.2.2], .row 3 (.int .i64) (draw3 b (i, h)).2.1])
  | _, _ => none
@[reducible] def E_l3Draw : Env := mkE (tb [(155, K_l1PickInt), (107, K_l3Make)]) (fun f => [155, 107].contains f) (fun r => ([], []))
theorem ev_l3Draw (b : List Int) (i h : Int) (hp : CuOk b i) : evF E_l3Draw (1) Tryz.f154 [.ptr 0 0] [.box 92 [.lst (.int .u8) b, .int .i64 i, .int .i64 h]] = some (.agg [.int .i64 (draw3 b (i, h)).1, .own 1], [.box 92 [.lst (.int .u8) b, .int .i64 (draw3 b (i, h)).2.2.1, .int .i64 (draw3 b (i, h)).2.2.2], .row 3 (.int .i64) (draw3 b (i, h)).2.1]) := by
  have n1 := nx_ok (c := (i, h)) hp
  have hm := draw3m_rng b (i, h)
  conv => lhs; whnf
  conv => lhs; arg 1; whnf
  refine bnd_g (by exact ⟨hp, by simp, by simp⟩) ?_
  conv => lhs; whnf
  conv => lhs; arg 1; whnf
  refine bnd_g (by exact ⟨n1, ⟨hm.1, by have := hm.2; exact Int.le_trans hm.2 (by omega)⟩, by omega, by omega⟩) ?_
  conv => lhs; whnf
  all_goals rfl
theorem ok_l3Draw : FnOk Tryz.prog 154 K_l3Draw := by
  refine fn_ok (fn := Tryz.f154) (k := Tryz.f154.ntmps) (E := E_l3Draw) (facts_of (List.forall_mem_cons.2 ⟨ok_l1PickInt, List.forall_mem_cons.2 ⟨ok_l3Make, List.forall_mem_nil _⟩⟩)) (by kernel_rfl) rfl (by decide +kernel) (by decide +kernel) ?_
  intro avs hin r h
  unfold K_l3Draw at h
  split at h
  · obtain ⟨hp, rfl⟩ := gd_o h
    exact ⟨_, ev_l3Draw _ _ _ hp, rfl⟩
  · cases h

/- spec.l2Bent -/
def K_l2Bent : List AV → List Ob → Option (AV × List Ob)
  | [.ptr 0 0], [.box 92 [.lst (.int .u8) b, .int .i64 i, .int .i64 h]] => gd (CuOk b i) (.int .i64 (bent2 b (i, h)), [.box 92 [.lst (.int .u8) b, .int .i64 (nx b (nx b (i, h))).1, .int .i64 (nx b (nx b (i, h))).2]])
  | _, _ => none
@[reducible] def E_l2Bent : Env := mkE (tb [(105, K_l1Once), (155, K_l1PickInt), (76, K_l1Below)]) (fun f => [105, 155, 76].contains f) (fun r => ([], []))
theorem ev_l2Bent (b : List Int) (i h : Int) (hp : CuOk b i) : evF E_l2Bent (1) Tryz.f156 [.ptr 0 0] [.box 92 [.lst (.int .u8) b, .int .i64 i, .int .i64 h]] = some (.int .i64 (bent2 b (i, h)), [.box 92 [.lst (.int .u8) b, .int .i64 (nx b (nx b (i, h))).1, .int .i64 (nx b (nx b (i, h))).2]]) := by
  have hn := nx_ok (c := (i, h)) hp
  conv => lhs; whnf
  conv => lhs; arg 1; whnf
  refine bnd_g (by exact ⟨hp, by omega, by omega⟩) ?_
  conv => lhs; whnf
  refine br_c (fun hc => ?_) (fun hc => ?_)
  · have e : bent2 b (i, h) = pick4 (-1) 256 1000 (-9223372036854775808) b (nx b (i, h)) := by unfold bent2; rw [hc]; rfl
    rw [e]
    conv => lhs; whnf
    conv => lhs; arg 1; whnf
    refine bnd_g (by exact ⟨hn, by simp, by simp⟩) ?_
    conv => lhs; whnf
    rfl
  · have e : bent2 b (i, h) = be b (nx b (i, h)) 256 := by unfold bent2; rw [hc]; rfl
    rw [e]
    conv => lhs; whnf
    conv => lhs; arg 1; whnf
    refine bnd_g (by exact ⟨hn, by omega, by omega⟩) ?_
    conv => lhs; whnf
theorem ok_l2Bent : FnOk Tryz.prog 156 K_l2Bent := by
  refine fn_ok (fn := Tryz.f156) (k := Tryz.f156.ntmps) (E := E_l2Bent) (facts_of (List.forall_mem_cons.2 ⟨ok_l1Once, List.forall_mem_cons.2 ⟨ok_l1PickInt, List.forall_mem_cons.2 ⟨ok_l1Below, List.forall_mem_nil _⟩⟩⟩)) (by kernel_rfl) rfl (by decide +kernel) (by decide +kernel) ?_
  intro avs hin r h
  unfold K_l2Bent at h
  split at h
  · obtain ⟨hp, rfl⟩ := gd_o h
    exact ⟨_, ev_l2Bent _ _ _ hp, rfl⟩
  · cases h

/- spec.l3Bent -/
def K_l3Bent : List AV → List Ob → Option (AV × List Ob)
  | [.ptr 0 0], [.box 92 [.lst (.int .u8) b, .int .i64 i, .int .i64 h]] => gd (CuOk b i) (.agg [.int .i64 (bent3 b (i, h)).1, .own 1], [.box 92 [.lst (.int .u8) b, .int .i64 (bent3 b (i, h)).2.2.1, .int .i64 (bent3 b (i, h)).2.2.2], .row 3 (.int .i64) (bent3 b (i, h)).2.1])
  | _, _ => none
@[reducible] def E_l3Bent : Env := mkE (tb [(154, K_l3Draw), (76, K_l1Below), (155, K_l1PickInt), (156, K_l2Bent)]) (fun f => [154, 76, 155, 156].contains f) (fun r => bif r == 8 then ([2, 3], [2, 3]) else ([], []))
theorem lp_l3Bent (b : List Int) (i0 h0 m : Int) (k : AX → S → Option (AV × List Ob)) (d : Nat) : ∀ (n : Nat) (zs : List Int), 9 - zs.length = d → zs.length ≤ 9 → d < n →
    lpAt E_l3Bent (lp E_l3Bent 1 n) 1 (loopAt Tryz.f106 0) (mkS [2, 3] [.ptr 1 0, .ptr 3 0] [some (.box 92 [.lst (.int .u8) b, .int .i64 i0, .int .i64 h0]), some (.box 26 [.int .i64 0, .own 2]), some (.row 3 (.int .i64) []), some (.box 26 [.int .i64 m, .own 4]), some (.row 3 (.int .i64) zs)]) k =
      k (.exit 1) (mkS [2, 3] [.ptr 1 0, .ptr 3 0] [some (.box 92 [.lst (.int .u8) b, .int .i64 i0, .int .i64 h0]), some (.box 26 [.int .i64 0, .own 2]), some (.row 3 (.int .i64) []), some (.box 26 [.int .i64 m, .own 4]), some (.row 3 (.int .i64) (pad9 zs))]) := by
  induction d with
  | zero =>
    intro n zs hd hi hn
    rw [lpAt_def]
    conv => lhs; whnf
    refine br_f (df (by omega)) ?_
    conv => lhs; whnf
    have e : pad9 zs = zs := by
      unfold pad9
      rw [show 9 - zs.length = 0 by omega]
      simp
    rw [e]
  | succ d ih =>
    intro n zs hd hi hn
    obtain ⟨n, rfl⟩ : ∃ m, n = m + 1 := ⟨n - 1, by omega⟩
    rw [lpAt_def]
    conv => lhs; whnf
    refine br_t (dt (by omega)) ?_
    conv => lhs; whnf
    refine br_t (dt (by simp [room]; omega)) ?_
    conv => lhs; whnf
    refine (ih n _ (by simp; omega) (by simp; omega) (by omega)).trans ?_
    have e : pad9 zs = pad9 (zs ++ [0]) := by
      unfold pad9
      obtain ⟨q, hq⟩ : ∃ q, 9 - zs.length = q + 1 := ⟨8 - zs.length, by omega⟩
      rw [List.length_append, List.length_singleton, hq, show 9 - (zs.length + 1) = q by omega, List.replicate_succ, List.append_assoc]
      rfl
    rw [e]
theorem ev_l3Bent (b : List Int) (i h : Int) (hp : CuOk b i) : evF E_l3Bent (20) Tryz.f106 [.ptr 0 0] [.box 92 [.lst (.int .u8) b, .int .i64 i, .int .i64 h]] = some (.agg [.int .i64 (bent3 b (i, h)).1, .own 1], [.box 92 [.lst (.int .u8) b, .int .i64 (bent3 b (i, h)).2.2.1, .int .i64 (bent3 b (i, h)).2.2.2], .row 3 (.int .i64) (bent3 b (i, h)).2.1]) := by
  have h3 := draw3_ok (c := (i, h)) hp
  have n0 := h3.2.2
  have hl := h3.2.1
  have n1 := nx_ok n0
  have n2 := nx_ok n1
  conv => lhs; whnf
  conv => lhs; arg 1; whnf
  refine bnd_g (by exact hp) ?_
  conv => lhs; whnf
  conv => lhs; arg 1; whnf
  refine bnd_g (by exact ⟨n0, by omega, by omega⟩) ?_
  conv => lhs; whnf
  refine br_c (fun g => ?_) (fun g => ?_)
  · have e : bent3 b (i, h) = (pick4 (-1) 0 2 7 b (nx b (draw3 b (i, h)).2.2), (draw3 b (i, h)).2.1, nx b (nx b (draw3 b (i, h)).2.2)) := by unfold bent3 bent3'; rw [g]; rfl
    rw [e]
    conv => lhs; whnf
    conv => lhs; arg 1; whnf
    refine bnd_g (by exact ⟨n1, by simp, by simp⟩) ?_
    conv => lhs; whnf
    all_goals rfl
  · conv => lhs; whnf
    refine br_c (fun g2 => ?_) (fun g2 => ?_)
    · have e : bent3 b (i, h) = ((draw3 b (i, h)).1, (draw3 b (i, h)).2.1 ++ [bent2 b (nx b (draw3 b (i, h)).2.2)], nx b (nx b (nx b (draw3 b (i, h)).2.2))) := by unfold bent3 bent3'; rw [g, g2]; rfl
      rw [e]
      conv => lhs; whnf
      conv => lhs; arg 1; whnf
      refine bnd_g (by exact n1) ?_
      conv => lhs; whnf
      refine br_t (dt (by simp [room]; omega)) ?_
      conv => lhs; whnf
      refine br_t (by kernel_rfl) ?_
      conv => lhs; whnf
      all_goals rfl
    · conv => lhs; whnf
      refine br_c (fun g3 => ?_) (fun g3 => ?_)
      · have e : bent3 b (i, h) = ((draw3 b (i, h)).1, pad9 (draw3 b (i, h)).2.1, nx b (draw3 b (i, h)).2.2) := by unfold bent3 bent3'; rw [g, g2, g3]; rfl
        rw [e]
        conv => lhs; whnf
        refine (lp_l3Bent b _ _ _ _ (9 - (draw3 b (i, h)).2.1.length) _ (draw3 b (i, h)).2.1 rfl (by omega) (by change _ < 19; omega)).trans ?_
        conv => lhs; whnf
        all_goals rfl
      · have e : bent3 b (i, h) = ((draw3 b (i, h)).1, (draw3 b (i, h)).2.1, nx b (draw3 b (i, h)).2.2) := by unfold bent3 bent3'; rw [g, g2, g3]; rfl
        rw [e]
        conv => lhs; whnf
theorem ok_l3Bent : FnOk Tryz.prog 106 K_l3Bent := by
  refine fn_ok (fn := Tryz.f106) (k := Tryz.f106.ntmps) (E := E_l3Bent) (facts_of (List.forall_mem_cons.2 ⟨ok_l3Draw, List.forall_mem_cons.2 ⟨ok_l1Below, List.forall_mem_cons.2 ⟨ok_l1PickInt, List.forall_mem_cons.2 ⟨ok_l2Bent, List.forall_mem_nil _⟩⟩⟩⟩)) (by kernel_rfl) rfl (by decide +kernel) (by decide +kernel) ?_
  intro avs hin r h
  unfold K_l3Bent at h
  split at h
  · obtain ⟨hp, rfl⟩ := gd_o h
    exact ⟨_, ev_l3Bent _ _ _ hp, rfl⟩
  · cases h

/- spec.l21Draw -/
def K_draw21 : List AV → List Ob → Option (AV × List Ob)
  | [.ptr 0 0], [.box 92 [.lst (.int .u8) b, .int .i64 i, .int .i64 h]] => gd (CuOk b i) (.agg [.int .i64 (d21 b (i, h)).1, .own 1], [.box 92 [.lst (.int .u8) b, .int .i64 (d21 b (i, h)).2.2.1, .int .i64 (d21 b (i, h)).2.2.2], .row 3 (.int .i64) (d21 b (i, h)).2.1])
  | _, _ => none
@[reducible] def E_draw21 : Env := mkE (tb [(108, K_specComplement), (105, K_l1Once), (106, K_l3Bent), (76, K_l1Below), (107, K_l3Make)]) (fun f => [105, 106, 76, 107].contains f) (fun r => ([], []))
theorem ev_draw21 (b : List Int) (i h : Int) (hp : CuOk b i) : evF E_draw21 (1) Tryz.f48 [.ptr 0 0] [.box 92 [.lst (.int .u8) b, .int .i64 i, .int .i64 h]] = some (.agg [.int .i64 (d21 b (i, h)).1, .own 1], [.box 92 [.lst (.int .u8) b, .int .i64 (d21 b (i, h)).2.2.1, .int .i64 (d21 b (i, h)).2.2.2], .row 3 (.int .i64) (d21 b (i, h)).2.1]) := by
  have n1 := nx_ok (c := (i, h)) hp
  have n2 := nx_ok n1
  have r5 := be_rng b (nx b (i, h)) (n := 5) (by omega)
  have n3 := (make3_ok (b := b) (m := be b (nx b (i, h)) 5) (o := 5) (c := nx b (nx b (i, h))) n2 (by omega)).2
  conv => lhs; whnf
  conv => lhs; arg 1; whnf
  refine bnd_g (by exact ⟨hp, by omega, by omega⟩) ?_
  conv => lhs; whnf
  refine br_c (fun h1 => ?_) (fun h1 => ?_)
  · have h1' : (be b (i, h) 12 == 0) = true := h1
    have e : d21 b (i, h) = bent3 b (nx b (i, h)) := by unfold d21; rw [h1', cond_true]
    conv => rhs; rw [e]
    conv => lhs; whnf
    conv => lhs; arg 1; whnf
    refine bnd_g (by exact n1) ?_
    conv => lhs; whnf
    all_goals rfl
  · have h1' : (be b (i, h) 12 == 0) = false := h1
    conv => lhs; whnf
    conv => lhs; arg 1; whnf
    refine bnd_g (by exact ⟨n1, by omega, by omega⟩) ?_
    conv => lhs; whnf
    conv => lhs; arg 1; whnf
    refine bnd_g (by exact ⟨n2, ⟨r5.1, by have := r5.2; exact Int.le_trans (Int.le_of_lt this) (by omega)⟩, by omega, by omega⟩) ?_
    conv => lhs; whnf
    conv => lhs; arg 1; whnf
    refine bnd_g (by exact ⟨n3, by omega, by omega⟩) ?_
    conv => lhs; whnf
    refine br_c (fun h2 => ?_) (fun h2 => ?_)
    · have h2' : (be b (make3 b (be b (nx b (i, h)) 5) 5 (nx b (nx b (i, h)))).2 3 == 0) = true := h2
      have e : d21 b (i, h) = (3, [6, 5, 3], nx b (make3 b (be b (nx b (i, h)) 5) 5 (nx b (nx b (i, h)))).2) := by unfold d21; rw [h1', h2']; rfl
      conv => rhs; rw [e]
      conv => lhs; whnf
      conv => lhs; arg 1; whnf
      refine bnd_g (by decide) ?_
      conv => lhs; whnf
      repeat ((first | with_reducible apply br_tt | with_reducible apply br_ff | with_reducible apply br_nf | with_reducible apply br_nt | with_reducible refine br_d ?_ (by kernel_rfl)); conv => lhs; whnf)
      all_goals rfl
    · have h2' : (be b (make3 b (be b (nx b (i, h)) 5) 5 (nx b (nx b (i, h)))).2 3 == 0) = false := h2
      have e : d21 b (i, h) = (be b (nx b (i, h)) 5, (make3 b (be b (nx b (i, h)) 5) 5 (nx b (nx b (i, h)))).1, nx b (make3 b (be b (nx b (i, h)) 5) 5 (nx b (nx b (i, h)))).2) := by unfold d21; rw [h1', h2']; rfl
      conv => rhs; rw [e]
      conv => lhs; whnf
      all_goals rfl
theorem ok_draw21 : FnOk Tryz.prog 48 K_draw21 := by
  refine fn_ok (fn := Tryz.f48) (k := Tryz.f48.ntmps) (E := E_draw21) (facts_of (List.forall_mem_cons.2 ⟨ok_specComplement, List.forall_mem_cons.2 ⟨ok_l1Once, List.forall_mem_cons.2 ⟨ok_l3Bent, List.forall_mem_cons.2 ⟨ok_l1Below, List.forall_mem_cons.2 ⟨ok_l3Make, List.forall_mem_nil _⟩⟩⟩⟩⟩)) (by kernel_rfl) rfl (by decide +kernel) (by decide +kernel) ?_
  intro avs hin r h
  unfold K_draw21 at h
  split at h
  · obtain ⟨hp, rfl⟩ := gd_o h
    exact ⟨_, ev_draw21 _ _ _ hp, rfl⟩
  · cases h

/- laws.big -/
def K_bigL : List AV → List Ob → Option (AV × List Ob)
  | [.lst (.int .u8) b], [] => gd (True) (.bool (decide ((b.length : Int) > 1048576)), [])
  | _, _ => none
@[reducible] def E_bigL : Env := mkE (tb []) (fun f => false) (fun r => ([], []))
theorem ev_bigL (b : List Int) (hp : True) : evF E_bigL (1) Tryz.f7 [.lst (.int .u8) b] [] = some (.bool (decide ((b.length : Int) > 1048576)), []) := by
  conv => lhs; whnf
theorem ok_bigL : FnOk Tryz.prog 7 K_bigL := by
  refine fn_ok (fn := Tryz.f7) (k := Tryz.f7.ntmps) (E := E_bigL) (facts_of (List.forall_mem_nil _)) (by kernel_rfl) rfl (by decide +kernel) (by decide +kernel) ?_
  intro avs hin r h
  unfold K_bigL at h
  split at h
  · obtain ⟨hp, rfl⟩ := gd_o h
    exact ⟨_, ev_bigL _ hp, rfl⟩
  · cases h

/- spec.DrawDescribeContext -/
def K_drawDescribeContext : List AV → List Ob → Option (AV × List Ob)
  | [.lst (.int .u8) b], [] => gd (b.length ≤ 1048576) (.agg [.int .i64 (d21 b (newC b)).1, .own 0], [.row 3 (.int .i64) (d21 b (newC b)).2.1])
  | _, _ => none
@[reducible] def E_drawDescribeContext : Env := mkE (tb [(49, K_l1New), (48, K_draw21)]) (fun f => [48].contains f) (fun r => ([], []))
theorem ev_drawDescribeContext (b : List Int) (hp : b.length ≤ 1048576) : evF E_drawDescribeContext (1) Tryz.f29 [.lst (.int .u8) b] [] = some (.agg [.int .i64 (d21 b (newC b)).1, .own 0], [.row 3 (.int .i64) (d21 b (newC b)).2.1]) := by
  conv => lhs; whnf
  conv => lhs; arg 1; whnf
  refine bnd_g (by exact hp) ?_
  conv => lhs; whnf
  conv => lhs; arg 1; whnf
  refine bnd_g (by exact newC_ok hp) ?_
  conv => lhs; whnf
theorem ok_drawDescribeContext : FnOk Tryz.prog 29 K_drawDescribeContext := by
  refine fn_ok (fn := Tryz.f29) (k := Tryz.f29.ntmps) (E := E_drawDescribeContext) (facts_of (List.forall_mem_cons.2 ⟨ok_l1New, List.forall_mem_cons.2 ⟨ok_draw21, List.forall_mem_nil _⟩⟩)) (by kernel_rfl) rfl (by decide +kernel) (by decide +kernel) ?_
  intro avs hin r h
  unfold K_drawDescribeContext at h
  split at h
  · obtain ⟨hp, rfl⟩ := gd_o h
    exact ⟨_, ev_drawDescribeContext _ hp, rfl⟩
  · cases h

/- spec.DrawKindName -/
def K_drawKindName : List AV → List Ob → Option (AV × List Ob)
  | [.lst (.int .u8) b], [] => gd (b.length ≤ 1048576) (.agg [.int .i64 (d21 b (newC b)).1, .own 0], [.row 3 (.int .i64) (d21 b (newC b)).2.1])
  | _, _ => none
@[reducible] def E_drawKindName : Env := mkE (tb [(49, K_l1New), (48, K_draw21)]) (fun f => [48].contains f) (fun r => ([], []))
theorem ev_drawKindName (b : List Int) (hp : b.length ≤ 1048576) : evF E_drawKindName (1) Tryz.f30 [.lst (.int .u8) b] [] = some (.agg [.int .i64 (d21 b (newC b)).1, .own 0], [.row 3 (.int .i64) (d21 b (newC b)).2.1]) := by
  conv => lhs; whnf
  conv => lhs; arg 1; whnf
  refine bnd_g (by exact hp) ?_
  conv => lhs; whnf
  conv => lhs; arg 1; whnf
  refine bnd_g (by exact newC_ok hp) ?_
  conv => lhs; whnf
theorem ok_drawKindName : FnOk Tryz.prog 30 K_drawKindName := by
  refine fn_ok (fn := Tryz.f30) (k := Tryz.f30.ntmps) (E := E_drawKindName) (facts_of (List.forall_mem_cons.2 ⟨ok_l1New, List.forall_mem_cons.2 ⟨ok_draw21, List.forall_mem_nil _⟩⟩)) (by kernel_rfl) rfl (by decide +kernel) (by decide +kernel) ?_
  intro avs hin r h
  unfold K_drawKindName at h
  split at h
  · obtain ⟨hp, rfl⟩ := gd_o h
    exact ⟨_, ev_drawKindName _ hp, rfl⟩
  · cases h

end Go.Sym
