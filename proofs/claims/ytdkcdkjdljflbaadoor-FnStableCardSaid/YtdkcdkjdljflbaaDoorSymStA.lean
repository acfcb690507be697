/- Functions of the program, each told as a plain equation. -/
import Derived.Test.YtdkcdkjdljflbaaDoorSymCptC
namespace Go.Sym
open Go.Proofs
set_option linter.unusedVariables false
set_option linter.unusedSimpArgs false
set_option maxRecDepth 100000
set_option maxHeartbeats 4000000

abbrev Cu := Int × Int
def curH (h : Int) : Int := IntKind.i64.wrap (IntKind.i64.wrap (h * 6364136223846793005) + 1442695040888963407)
def curX (h : Int) : Int := IntKind.i64.wrap ↑(BitVec.ofInt IntKind.i64.bits (IntKind.i64.wrap ↑(BitVec.ofInt IntKind.i64.bits ((curH h).fdiv (2 ^ min (Int.toNat 33) IntKind.i64.bits)) ^^^ BitVec.ofInt IntKind.i64.bits ((curH h).fdiv (2 ^ min (Int.toNat 45) IntKind.i64.bits))).toNat) &&& BitVec.ofInt IntKind.i64.bits 255).toNat
def curV (b : List Int) (c : Cu) : Int := if c.1 < b.length then band (IntKind.i64.wrap (curX c.2 + IntKind.i64.wrap (b.getD c.1.toNat 0))) 255 else curX c.2
def nx (b : List Int) (c : Cu) : Cu := (if c.1 < b.length then c.1 + 1 else c.1, curH c.2)
abbrev CuOk (b : List Int) (i : Int) : Prop := 0 ≤ i ∧ i ≤ b.length ∧ b.length ≤ 1048576
theorem nx_ok {b : List Int} {c : Cu} (h : CuOk b c.1) : CuOk b (nx b c).1 := by
  unfold nx
  dsimp only
  split
  · exact ⟨by omega, by omega, h.2.2⟩
  · exact h
theorem band_byte (x : Int) : 0 ≤ band x 255 ∧ band x 255 ≤ 255 := by
  unfold band
  have h : (BitVec.ofInt IntKind.i64.bits x &&& BitVec.ofInt IntKind.i64.bits 255).toNat ≤ 255 := by
    rw [BitVec.toNat_and]
    exact Nat.and_le_right
  rw [wrap64 (by omega) (by omega)]
  omega
theorem curV_rng (b : List Int) (c : Cu) : 0 ≤ curV b c ∧ curV b c ≤ 255 := by
  unfold curV
  split
  · exact band_byte _
  · exact band_byte _
def be (b : List Int) (c : Cu) (n : Int) : Int := (curV b c).tmod n
theorem be_rng (b : List Int) (c : Cu) {n : Int} (h : 0 < n) : 0 ≤ be b c n ∧ be b c n < n := by
  have := curV_rng b c
  unfold be
  exact ⟨Int.tmod_nonneg _ this.1, Int.tmod_lt_of_pos _ h⟩
def shlI (n : Int) : Int := IntKind.i64.wrap (1 * 2 ^ min n.toNat IntKind.i64.bits)
theorem shlI_nat {n : Nat} (h : n ≤ 8) : shlI (n : Int) = ((2 ^ n : Nat) : Int) := shl1 (by omega)
theorem shlI_rng {n : Int} (h0 : 0 ≤ n) (h8 : n ≤ 8) : 1 ≤ shlI n ∧ shlI n ≤ 256 := by
  obtain ⟨k, rfl⟩ : ∃ k : Nat, n = k := ⟨n.toNat, by omega⟩
  have h8 : 2 ^ k ≤ 2 ^ 8 := Nat.pow_le_pow_right (by omega) (by omega)
  have hp := Nat.two_pow_pos k
  rw [shlI_nat (by omega)]
  omega
def pick4 (x y z w : Int) (b : List Int) (c : Cu) : Int := [x, y, z, w].getD (be b c 4).toNat 0
/-- A set, mostly, and the cursor behind it. -/
def bent2 (b : List Int) (c : Cu) : Int := bif be b c 8 == 0 then pick4 (-1) 256 1000 (-9223372036854775808) b (nx b c) else be b (nx b c) 256
def mkRows (b : List Int) (m : Int) : Nat → Cu → List Int × Cu
  | 0, c => ([], c)
  | d + 1, c => bif be b c 2 == 0 then
      (be b (nx b c) (shlI m) :: (mkRows b m d (nx b (nx b c))).1, (mkRows b m d (nx b (nx b c))).2)
    else (bor (be b (nx b c) (shlI m)) (be b (nx b (nx b c)) (shlI m)) :: (mkRows b m d (nx b (nx b (nx b c)))).1, (mkRows b m d (nx b (nx b (nx b c)))).2)
theorem mkRows_ok {b : List Int} {m : Int} : ∀ (d : Nat) (c : Cu), CuOk b c.1 → (mkRows b m d c).1.length = d ∧ CuOk b (mkRows b m d c).2.1
  | 0, c, h => ⟨rfl, h⟩
  | d + 1, c, h => by
    have h1 := mkRows_ok (m := m) d (nx b (nx b c)) (nx_ok (nx_ok h))
    have h2 := mkRows_ok (m := m) d (nx b (nx b (nx b c))) (nx_ok (nx_ok (nx_ok h)))
    unfold mkRows
    cases be b c 2 == 0
    · exact ⟨by rw [cond_false, List.length_cons, h2.1], h2.2⟩
    · exact ⟨by rw [cond_true, List.length_cons, h1.1], h1.2⟩
def make3 (b : List Int) (m o : Int) (c : Cu) : List Int × Cu := mkRows b m (be b c (o + 1)).toNat (nx b c)
theorem make3_ok {b : List Int} {m o : Int} {c : Cu} (h : CuOk b c.1) (ho : 0 ≤ o) : ((make3 b m o c).1.length : Int) ≤ o ∧ CuOk b (make3 b m o c).2.1 := by
  have h1 := mkRows_ok (m := m) (be b c (o + 1)).toNat (nx b c) (nx_ok h)
  have h2 := be_rng b c (n := o + 1) (by omega)
  unfold make3
  exact ⟨by omega, h1.2⟩
def draw3m (b : List Int) (c : Cu) : Int := ([0, 1, 2, 3, 3, 4, 4, 5, 5] : List Int).getD (be b c 9).toNat 0
theorem draw3m_rng (b : List Int) (c : Cu) : 0 ≤ draw3m b c ∧ draw3m b c ≤ 5 := by
  have h := be_rng b c (n := 9) (by omega)
  unfold draw3m
  obtain ⟨k, hk⟩ : ∃ k : Nat, be b c 9 = k := ⟨(be b c 9).toNat, by omega⟩
  rw [hk] at h ⊢
  have : ∀ k : Fin 9, 0 ≤ ([0, 1, 2, 3, 3, 4, 4, 5, 5] : List Int).getD ((k.val : Int)).toNat 0 ∧ ([0, 1, 2, 3, 3, 4, 4, 5, 5] : List Int).getD ((k.val : Int)).toNat 0 ≤ 5 := by decide
  exact this ⟨k, by omega⟩
/-- A context: attributes, rows, and the cursor behind it. -/
def draw3 (b : List Int) (c : Cu) : Int × List Int × Cu := (draw3m b c, make3 b (draw3m b c) 6 (nx b c))
theorem draw3_ok {b : List Int} {c : Cu} (h : CuOk b c.1) : (0 ≤ (draw3 b c).1 ∧ (draw3 b c).1 ≤ 5) ∧ (draw3 b c).2.1.length ≤ 6 ∧ CuOk b (draw3 b c).2.2.1 := by
  have h1 := make3_ok (b := b) (m := draw3m b c) (o := 6) (nx_ok h) (by omega)
  exact ⟨draw3m_rng b c, by have := h1.1; unfold draw3; dsimp only; omega, h1.2⟩
def pad9 (a : List Int) : List Int := a ++ List.replicate (9 - a.length) 0
def bent3' (b : List Int) (x : Int × List Int × Cu) : Int × List Int × Cu :=
  bif be b x.2.2 14 == 0 then (pick4 (-1) 0 2 7 b (nx b x.2.2), x.2.1, nx b (nx b x.2.2))
  else bif be b x.2.2 14 == 1 then (x.1, x.2.1 ++ [bent2 b (nx b x.2.2)], nx b (nx b (nx b x.2.2)))
  else bif be b x.2.2 14 == 2 then (x.1, pad9 x.2.1, nx b x.2.2) else (x.1, x.2.1, nx b x.2.2)
def bent3 (b : List Int) (c : Cu) : Int × List Int × Cu := bent3' b (draw3 b c)
theorem bent3_ok {b : List Int} {c : Cu} (h : CuOk b c.1) : (bent3 b c).2.1.length ≤ 9 ∧ CuOk b (bent3 b c).2.2.1 := by
  obtain ⟨h1, h2, h3⟩ := draw3_ok h
  unfold bent3
  generalize draw3 b c = x at h1 h2 h3
  unfold bent3'
  have n1 := nx_ok h3
  have n2 := nx_ok n1
  have n3 := nx_ok n2
  cases be b x.2.2 14 == 0
  · cases be b x.2.2 14 == 1
    · cases be b x.2.2 14 == 2
      · exact ⟨by simp only [cond_false]; omega, n1⟩
      · refine ⟨?_, n1⟩
        simp only [cond_false, cond_true, pad9, List.length_append, List.length_replicate]
        omega
    · refine ⟨?_, n3⟩
      simp only [cond_false, cond_true, List.length_append, List.length_singleton]
      omega
  · exact ⟨by simp only [cond_true]; omega, n2⟩
def newL (b : List Int) : Nat → Nat → Int → Int
  | 0, _, h => h
  | d + 1, i, h => newL b d (i + 1) (band (IntKind.i64.wrap (IntKind.i64.wrap (IntKind.i64.wrap (h * 131) + IntKind.i64.wrap (b.getD i 0)) + 7)) 1073741823)
def newC (b : List Int) : Cu := (0, newL b (min b.length 4000) 0 (IntKind.i64.wrap (26583 + b.length)))
theorem newC_ok {b : List Int} (h : b.length ≤ 1048576) : CuOk b (newC b).1 := ⟨Int.le_refl 0, Int.natCast_nonneg _, h⟩
/-- A context with a set of its attributes, mostly. -/
def att4 (b : List Int) (c : Cu) : Int × List Int × Int :=
  bif be b (nx b (draw3 b c).2.2) 16 == 0 then ((bent3 b (nx b (nx b (draw3 b c).2.2))).1, (bent3 b (nx b (nx b (draw3 b c).2.2))).2.1, be b (draw3 b c).2.2 (shlI (draw3 b c).1))
  else bif be b (nx b (draw3 b c).2.2) 16 == 1 then ((draw3 b c).1, (draw3 b c).2.1, bent2 b (nx b (nx b (draw3 b c).2.2)))
  else ((draw3 b c).1, (draw3 b c).2.1, be b (draw3 b c).2.2 (shlI (draw3 b c).1))
theorem att4_len {b : List Int} {c : Cu} (h : CuOk b c.1) : (att4 b c).2.1.length ≤ 9 := by
  obtain ⟨h1, h2, h3⟩ := draw3_ok h
  have h4 := bent3_ok (b := b) (c := nx b (nx b (draw3 b c).2.2)) (nx_ok (nx_ok h3))
  unfold att4
  cases be b (nx b (draw3 b c).2.2) 16 == 0
  · cases be b (nx b (draw3 b c).2.2) 16 == 1
    · simp only [cond_false]; omega
    · simp only [cond_false, cond_true]; omega
  · simp only [cond_true]; exact h4.1
/- spec.l1New -/
def K_l1New : List AV → List Ob → Option (AV × List Ob)
  | [.lst (.int .u8) b], [] => gd (b.length ≤ 1048576) (.ptr 0 0, [.box 91 [.lst (.int .u8) b, .int .i64 (newC b).1, .int .i64 (newC b).2]])
  | _, _ => none
@[reducible] def E_l1New : Env := mkE (tb []) (fun f => false) (fun r => bif r == 3 then ([0, 3, 4], [0, 3]) else ([], []))
theorem lp_l1New (b : List Int) (hb : b.length ≤ 1048576) (k : AX → S → Option (AV × List Ob)) (d : Nat) : ∀ (n i : Nat) (x h : Int), min b.length 4000 - i = d → i ≤ min b.length 4000 → x = i → d < n →
    lpAt E_l1New (lp E_l1New 0 n) 0 (loopAt Tryd.f40 0) (mkS [0, 3, 4] [.lst (.int .u8) b, .int .i64 h, .int .i64 x] []) k =
      k (.exit 0) (mkS [0, 3] [.lst (.int .u8) b, .int .i64 (newL b d i h)] []) := by
  induction d with
  | zero =>
    intro n i x h hd hi hx hn
    subst hx
    rw [lpAt_def]
    conv => lhs; whnf
    refine br_c (fun g => ?_) (fun g => ?_)
    · have g' := ofd g
      conv => lhs; whnf
      repeat ((first | with_reducible apply br_tt | with_reducible apply br_ff | with_reducible apply br_nf | with_reducible apply br_nt | with_reducible refine br_d ?_ (by kernel_rfl) | with_reducible apply br_t g | with_reducible apply br_f g); conv => lhs; whnf)
      refine br_f (df (by omega)) ?_
      conv => lhs; whnf
      all_goals rfl
    · conv => lhs; whnf
      repeat ((first | with_reducible apply br_tt | with_reducible apply br_ff | with_reducible apply br_nf | with_reducible apply br_nt | with_reducible refine br_d ?_ (by kernel_rfl) | with_reducible apply br_t g | with_reducible apply br_f g); conv => lhs; whnf)
      all_goals rfl
  | succ d ih =>
    intro n i x h hd hi hx hn
    obtain ⟨n, rfl⟩ : ∃ m, n = m + 1 := ⟨n - 1, by omega⟩
    subst hx
    rw [lpAt_def]
    have g : decide ((i : Int) < (b.length : Int)) = true := dt (by omega)
    conv => lhs; whnf
    repeat ((first | with_reducible apply br_tt | with_reducible apply br_ff | with_reducible apply br_nf | with_reducible apply br_nt | with_reducible refine br_d ?_ (by kernel_rfl) | with_reducible apply br_t g | with_reducible apply br_f g); conv => lhs; whnf)
    refine br_t (dt (by omega)) ?_
    conv => lhs; whnf
    refine br_t (dt2 (by omega) (by omega)) ?_
    conv => lhs; whnf
    refine Eq.trans (b := lpAt E_l1New (lp E_l1New 0 n) 0 (loopAt Tryd.f40 0) (mkS [0, 3, 4] [.lst (.int .u8) b, .int .i64 (band (IntKind.i64.wrap (IntKind.i64.wrap (IntKind.i64.wrap (h * 131) + IntKind.i64.wrap (b.getD i 0)) + 7)) 1073741823), .int .i64 (IntKind.i64.wrap ((i : Int) + 1))] []) k) rfl ?_
    exact ih n (i + 1) (IntKind.i64.wrap ((i : Int) + 1)) _ (by omega) (by omega) (by rw [wrap64 (n := (i : Int) + 1) (by omega) (by omega)]; simp) (by omega)
theorem ev_l1New (b : List Int) (hp : b.length ≤ 1048576) : evF E_l1New (4010) Tryd.f40 [.lst (.int .u8) b] [] = some (.ptr 0 0, [.box 91 [.lst (.int .u8) b, .int .i64 (newC b).1, .int .i64 (newC b).2]]) := by
  conv => lhs; whnf
  refine (lp_l1New b hp _ (min b.length 4000) _ 0 0 _ rfl (Nat.zero_le _) rfl (by change _ < 4009; omega)).trans ?_
  conv => lhs; whnf
  rfl
theorem ok_l1New : FnOk Tryd.prog 40 K_l1New := by
  refine fn_ok (fn := Tryd.f40) (k := Tryd.f40.ntmps) (E := E_l1New) (facts_of (List.forall_mem_nil _)) (by kernel_rfl) rfl (by decide +kernel) (by decide +kernel) ?_
  intro avs hin r h
  unfold K_l1New at h
  split at h
  · obtain ⟨hp, rfl⟩ := gd_o h
    exact ⟨_, ev_l1New _ hp, rfl⟩
  · cases h

/- spec.l1Byte -/
def K_l1Byte : List AV → List Ob → Option (AV × List Ob)
  | [.ptr 0 0], [.box 91 [.lst (.int .u8) b, .int .i64 i, .int .i64 h]] => gd (CuOk b i) (.int .i64 (curV b (i, h)), [.box 91 [.lst (.int .u8) b, .int .i64 (nx b (i, h)).1, .int .i64 (nx b (i, h)).2]])
  | _, _ => none
@[reducible] def E_l1Byte : Env := mkE (tb []) (fun f => false) (fun r => ([], []))
theorem ev_l1Byte (b : List Int) (i h : Int) (hp : CuOk b i) : evF E_l1Byte (1) Tryd.f80 [.ptr 0 0] [.box 91 [.lst (.int .u8) b, .int .i64 i, .int .i64 h]] = some (.int .i64 (curV b (i, h)), [.box 91 [.lst (.int .u8) b, .int .i64 (nx b (i, h)).1, .int .i64 (nx b (i, h)).2]]) := by
  have h1 := hp.1
  have h2 := hp.2.1
  have h3 := hp.2.2
  conv => lhs; whnf
  refine br_f (df (by omega)) ?_
  conv => lhs; whnf
  refine br_f (df (by omega)) ?_
  conv => lhs; whnf
  refine br_t (by kernel_rfl) ?_
  conv => lhs; whnf
  refine br_t (by kernel_rfl) ?_
  conv => lhs; whnf
  refine br_c (fun hc => ?_) (fun hc => ?_)
  · have h' := ofd hc
    conv => lhs; whnf
    refine br_t (dt2 (by omega) (by omega)) ?_
    conv => lhs; whnf
    refine br_t (by kernel_rfl) ?_
    conv => lhs; whnf
    have e1 : nx b (i, h) = (i + 1, curH h) := by unfold nx; rw [if_pos h']
    have e2 : curV b (i, h) = band (IntKind.i64.wrap (curX h + IntKind.i64.wrap (b.getD i.toNat 0))) 255 := if_pos h'
    rw [e1, e2, wrap64 (n := i + 1) (by omega) (by omega)]
    rfl
  · have h' := ofn hc
    conv => lhs; whnf
    have e1 : nx b (i, h) = (i, curH h) := by unfold nx; rw [if_neg h']
    have e2 : curV b (i, h) = curX h := if_neg h'
    rw [e1, e2]
    rfl
theorem ok_l1Byte : FnOk Tryd.prog 80 K_l1Byte := by
  refine fn_ok (fn := Tryd.f80) (k := Tryd.f80.ntmps) (E := E_l1Byte) (facts_of (List.forall_mem_nil _)) (by kernel_rfl) rfl (by decide +kernel) (by decide +kernel) ?_
  intro avs hin r h
  unfold K_l1Byte at h
  split at h
  · obtain ⟨hp, rfl⟩ := gd_o h
    exact ⟨_, ev_l1Byte _ _ _ hp, rfl⟩
  · cases h

/- spec.l1Below -/
def K_l1Below : List AV → List Ob → Option (AV × List Ob)
  | [.ptr 0 0, .int .i64 n], [.box 91 [.lst (.int .u8) b, .int .i64 i, .int .i64 h]] => gd (CuOk b i ∧ 1 ≤ n ∧ n ≤ 256) (.int .i64 (be b (i, h) n), [.box 91 [.lst (.int .u8) b, .int .i64 (nx b (i, h)).1, .int .i64 (nx b (i, h)).2]])
  | _, _ => none
@[reducible] def E_l1Below : Env := mkE (tb [(80, K_l1Byte)]) (fun f => [80].contains f) (fun r => ([], []))
theorem ev_l1Below (b : List Int) (i h : Int) (n : Int) (hp : CuOk b i ∧ 1 ≤ n ∧ n ≤ 256) : evF E_l1Below (1) Tryd.f42 [.ptr 0 0, .int .i64 n] [.box 91 [.lst (.int .u8) b, .int .i64 i, .int .i64 h]] = some (.int .i64 (be b (i, h) n), [.box 91 [.lst (.int .u8) b, .int .i64 (nx b (i, h)).1, .int .i64 (nx b (i, h)).2]]) := by
  have h1 := hp.2.1
  have h2 := hp.2.2
  have hr := be_rng b (i, h) (n := n) (by omega)
  conv => lhs; whnf
  refine br_f (df (by omega)) ?_
  conv => lhs; whnf
  refine br_t (dt (by omega)) ?_
  conv => lhs; whnf
  conv => lhs; arg 1; whnf
  refine bnd_g (by exact hp.1) ?_
  conv => lhs; whnf
  refine br_f (df (by omega)) ?_
  conv => lhs; whnf
  rfl
theorem ok_l1Below : FnOk Tryd.prog 42 K_l1Below := by
  refine fn_ok (fn := Tryd.f42) (k := Tryd.f42.ntmps) (E := E_l1Below) (facts_of (List.forall_mem_cons.2 ⟨ok_l1Byte, List.forall_mem_nil _⟩)) (by kernel_rfl) rfl (by decide +kernel) (by decide +kernel) ?_
  intro avs hin r h
  unfold K_l1Below at h
  split at h
  · obtain ⟨hp, rfl⟩ := gd_o h
    exact ⟨_, ev_l1Below _ _ _ _ hp, rfl⟩
  · cases h

/- spec.l1PickInt -/
def K_l1PickInt : List AV → List Ob → Option (AV × List Ob)
  | [.ptr 0 0, .own 1], [.box 91 [.lst (.int .u8) b, .int .i64 i, .int .i64 h], .row 3 (.int .i64) l] => gd (CuOk b i ∧ 1 ≤ l.length ∧ l.length ≤ 256) (.int .i64 (l.getD (be b (i, h) (l.length : Int)).toNat 0), [.box 91 [.lst (.int .u8) b, .int .i64 (nx b (i, h)).1, .int .i64 (nx b (i, h)).2], .row 3 (.int .i64) l])
  | _, _ => none
@[reducible] def E_l1PickInt : Env := mkE (tb [(42, K_l1Below)]) (fun f => [42].contains f) (fun r => ([], []))
theorem ev_l1PickInt (b : List Int) (i h : Int) (l : List Int) (hp : CuOk b i ∧ 1 ≤ l.length ∧ l.length ≤ 256) : evF E_l1PickInt (1) Tryd.f79 [.ptr 0 0, .own 1] [.box 91 [.lst (.int .u8) b, .int .i64 i, .int .i64 h], .row 3 (.int .i64) l] = some (.int .i64 (l.getD (be b (i, h) (l.length : Int)).toNat 0), [.box 91 [.lst (.int .u8) b, .int .i64 (nx b (i, h)).1, .int .i64 (nx b (i, h)).2], .row 3 (.int .i64) l]) := by
  have hr := be_rng b (i, h) (n := (l.length : Int)) (by omega)
  conv => lhs; whnf
  conv => lhs; arg 1; whnf
  refine bnd_g (by exact ⟨hp.1, by omega, by omega⟩) ?_
  conv => lhs; whnf
  refine br_t (dt2 (by omega) (by omega)) ?_
  conv => lhs; whnf
  refine br_t (dt (by omega)) ?_
  conv => lhs; whnf
  rfl
theorem ok_l1PickInt : FnOk Tryd.prog 79 K_l1PickInt := by
  refine fn_ok (fn := Tryd.f79) (k := Tryd.f79.ntmps) (E := E_l1PickInt) (facts_of (List.forall_mem_cons.2 ⟨ok_l1Below, List.forall_mem_nil _⟩)) (by kernel_rfl) rfl (by decide +kernel) (by decide +kernel) ?_
  intro avs hin r h
  unfold K_l1PickInt at h
  split at h
  · obtain ⟨hp, rfl⟩ := gd_o h
    exact ⟨_, ev_l1PickInt _ _ _ _ hp, rfl⟩
  · cases h

/- spec.l1Once -/
def K_l1Once : List AV → List Ob → Option (AV × List Ob)
  | [.ptr 0 0, .int .i64 n], [.box 91 [.lst (.int .u8) b, .int .i64 i, .int .i64 h]] => gd (CuOk b i ∧ 1 ≤ n ∧ n ≤ 256) (.bool (be b (i, h) n == 0), [.box 91 [.lst (.int .u8) b, .int .i64 (nx b (i, h)).1, .int .i64 (nx b (i, h)).2]])
  | _, _ => none
@[reducible] def E_l1Once : Env := mkE (tb [(42, K_l1Below)]) (fun f => [42].contains f) (fun r => ([], []))
theorem ev_l1Once (b : List Int) (i h : Int) (n : Int) (hp : CuOk b i ∧ 1 ≤ n ∧ n ≤ 256) : evF E_l1Once (1) Tryd.f48 [.ptr 0 0, .int .i64 n] [.box 91 [.lst (.int .u8) b, .int .i64 i, .int .i64 h]] = some (.bool (be b (i, h) n == 0), [.box 91 [.lst (.int .u8) b, .int .i64 (nx b (i, h)).1, .int .i64 (nx b (i, h)).2]]) := by
  conv => lhs; whnf
  conv => lhs; arg 1; whnf
  refine bnd_g (by exact hp) ?_
  conv => lhs; whnf
theorem ok_l1Once : FnOk Tryd.prog 48 K_l1Once := by
  refine fn_ok (fn := Tryd.f48) (k := Tryd.f48.ntmps) (E := E_l1Once) (facts_of (List.forall_mem_cons.2 ⟨ok_l1Below, List.forall_mem_nil _⟩)) (by kernel_rfl) rfl (by decide +kernel) (by decide +kernel) ?_
  intro avs hin r h
  unfold K_l1Once at h
  split at h
  · obtain ⟨hp, rfl⟩ := gd_o h
    exact ⟨_, ev_l1Once _ _ _ _ hp, rfl⟩
  · cases h

/- spec.l3Make -/
def K_l3Make : List AV → List Ob → Option (AV × List Ob)
  | [.ptr 0 0, .int .i64 m, .int .i64 o], [.box 91 [.lst (.int .u8) b, .int .i64 i, .int .i64 h]] => gd (CuOk b i ∧ (0 ≤ m ∧ m ≤ 8) ∧ 0 ≤ o ∧ o ≤ 90) (.agg [.int .i64 m, .own 1], [.box 91 [.lst (.int .u8) b, .int .i64 (make3 b m o (i, h)).2.1, .int .i64 (make3 b m o (i, h)).2.2], .row 3 (.int .i64) (make3 b m o (i, h)).1])
  | _, _ => none
@[reducible] def E_l3Make : Env := mkE (tb [(48, K_l1Once), (42, K_l1Below)]) (fun f => [48, 42].contains f) (fun r => bif r == 4 then ([0, 1, 6, 7, 8, 9], [6, 7]) else ([], []))
theorem lp_l3Make (b : List Int) (m : Int) (hm : 0 ≤ m ∧ m ≤ 8) (N : Int) (hN : 0 ≤ N ∧ N ≤ 100) (k : AX → S → Option (AV × List Ob)) (d : Nat) : ∀ (n i : Nat) (x i0 h0 : Int) (zs : List Int), N.toNat - i = d → i ≤ N.toNat → x = i → d < n → CuOk b i0 → zs.length ≤ i →
    lpAt E_l3Make (lp E_l3Make 1 n) 1 (loopAt Tryd.f105 0) (mkS [0, 1, 6, 7, 8, 9] [.ptr 0 0, .int .i64 m, .ptr 1 0, .ptr 3 0, .int .i64 N, .int .i64 x] [some (.box 91 [.lst (.int .u8) b, .int .i64 i0, .int .i64 h0]), some (.box 47 [.int .i64 0, .own 2]), some (.row 3 (.int .i64) []), some (.box 47 [.int .i64 m, .own 4]), some (.row 3 (.int .i64) zs)]) k =
      k (.exit 0) (mkS [6, 7] [.ptr 1 0, .ptr 3 0] [some (.box 91 [.lst (.int .u8) b, .int .i64 (mkRows b m d (i0, h0)).2.1, .int .i64 (mkRows b m d (i0, h0)).2.2]), some (.box 47 [.int .i64 0, .own 2]), some (.row 3 (.int .i64) []), some (.box 47 [.int .i64 m, .own 4]), some (.row 3 (.int .i64) (zs ++ (mkRows b m d (i0, h0)).1))]) := by
  have hs := shlI_rng hm.1 hm.2
  have hu := wrapu hm.1 hm.2
  induction d with
  | zero =>
    intro n i x i0 h0 zs hd hi hx hn hc hz
    subst hx
    rw [lpAt_def]
    conv => lhs; whnf
    refine br_f (df (by omega)) ?_
    conv => lhs; whnf
    rw [mkRows, List.append_nil]
  | succ d ih =>
    intro n i x i0 h0 zs hd hi hx hn hc hz
    obtain ⟨n, rfl⟩ : ∃ m, n = m + 1 := ⟨n - 1, by omega⟩
    subst hx
    have n1 := nx_ok (c := (i0, h0)) hc
    have n2 := nx_ok n1
    have n3 := nx_ok n2
    rw [lpAt_def]
    conv => lhs; whnf
    refine br_t (dt (by omega)) ?_
    conv => lhs; whnf
    conv => lhs; arg 1; whnf
    refine bnd_g (by exact ⟨hc, by omega, by omega⟩) ?_
    conv => lhs; whnf
    refine br_c (fun g => ?_) (fun g => ?_)
    · conv => lhs; whnf
      rw [hu]
      refine br_f (df (by omega)) ?_
      conv => lhs; whnf
      conv => lhs; arg 1; whnf
      refine bnd_g (by exact ⟨n1, hs⟩) ?_
      conv => lhs; whnf
      refine br_t (dt (by simp [room]; omega)) ?_
      conv => lhs; whnf
      refine br_t (by kernel_rfl) ?_
      conv => lhs; whnf
      refine (ih n (i + 1) (IntKind.i64.wrap ((i : Int) + 1)) _ _ _ (by omega) (by omega) (by rw [wrap64 (n := (i : Int) + 1) (by omega) (by omega)]; simp) (by omega) n2 (by simp; omega)).trans ?_
      have e : mkRows b m (d + 1) (i0, h0) = (be b (nx b (i0, h0)) (shlI m) :: (mkRows b m d (nx b (nx b (i0, h0)))).1, (mkRows b m d (nx b (nx b (i0, h0)))).2) := by rw [mkRows, g]; rfl
      rw [e, List.append_assoc]
      rfl
    · conv => lhs; whnf
      rw [hu]
      refine br_f (df (by omega)) ?_
      conv => lhs; whnf
      conv => lhs; arg 1; whnf
      refine bnd_g (by exact ⟨n1, hs⟩) ?_
      conv => lhs; whnf
      rw [hu]
      refine br_f (df (by omega)) ?_
      conv => lhs; whnf
      conv => lhs; arg 1; whnf
      refine bnd_g (by exact ⟨n2, hs⟩) ?_
      conv => lhs; whnf
      refine br_t (dt (by simp [room]; omega)) ?_
      conv => lhs; whnf
      refine br_t (by kernel_rfl) ?_
      conv => lhs; whnf
      refine (ih n (i + 1) (IntKind.i64.wrap ((i : Int) + 1)) _ _ _ (by omega) (by omega) (by rw [wrap64 (n := (i : Int) + 1) (by omega) (by omega)]; simp) (by omega) n3 (by simp; omega)).trans ?_
      have e : mkRows b m (d + 1) (i0, h0) = (bor (be b (nx b (i0, h0)) (shlI m)) (be b (nx b (nx b (i0, h0))) (shlI m)) :: (mkRows b m d (nx b (nx b (nx b (i0, h0))))).1, (mkRows b m d (nx b (nx b (nx b (i0, h0))))).2) := by rw [mkRows, g]; rfl
      rw [e, List.append_assoc]
      rfl
theorem ev_l3Make (b : List Int) (i h m o : Int) (hp : CuOk b i ∧ (0 ≤ m ∧ m ≤ 8) ∧ 0 ≤ o ∧ o ≤ 90) : evF E_l3Make (100) Tryd.f105 [.ptr 0 0, .int .i64 m, .int .i64 o] [.box 91 [.lst (.int .u8) b, .int .i64 i, .int .i64 h]] = some (.agg [.int .i64 m, .own 1], [.box 91 [.lst (.int .u8) b, .int .i64 (make3 b m o (i, h)).2.1, .int .i64 (make3 b m o (i, h)).2.2], .row 3 (.int .i64) (make3 b m o (i, h)).1]) := by
  have hr := be_rng b (i, h) (n := o + 1) (by omega)
  have n1 := nx_ok (c := (i, h)) hp.1
  have hw : IntKind.i64.wrap (o + 1) = o + 1 := wrap64 (by omega) (by omega)
  conv => lhs; whnf
  rw [hw]
  conv => lhs; arg 1; whnf
  refine bnd_g (by exact ⟨hp.1, by omega, by omega⟩) ?_
  conv => lhs; whnf
  refine (lp_l3Make b m hp.2.1 (be b (i, h) (o + 1)) (by omega) _ (be b (i, h) (o + 1)).toNat _ 0 0 (nx b (i, h)).1 (nx b (i, h)).2 [] rfl (by omega) rfl (by change _ < 99; omega) n1 (by simp)).trans ?_
  conv => lhs; whnf
  rfl
theorem ok_l3Make : FnOk Tryd.prog 105 K_l3Make := by
  refine fn_ok (fn := Tryd.f105) (k := Tryd.f105.ntmps) (E := E_l3Make) (facts_of (List.forall_mem_cons.2 ⟨ok_l1Once, List.forall_mem_cons.2 ⟨ok_l1Below, List.forall_mem_nil _⟩⟩)) (by kernel_rfl) rfl (by decide +kernel) (by decide +kernel) ?_
  intro avs hin r h
  unfold K_l3Make at h
  split at h
  · obtain ⟨hp, rfl⟩ := gd_o h
    exact ⟨_, ev_l3Make _ _ _ _ _ hp, rfl⟩
  · cases h

/- spec.l3Draw -/
def K_l3Draw : List AV → List Ob → Option (AV × List Ob)
  | [.ptr 0 0], [.box 91 [.lst (.int .u8) b, .int .i64 i, .int .i64 h]] => gd (CuOk b i) (.agg [.int .i64 (draw3 b (i, h)).1, .own 1], [.box 91 [.lst (.int .u8) b, .int .i64 (draw3 b (i, h)).2.2.1, .int .i64 (draw3 b (i, h)).2.2.2], .row 3 (.int .i64) (draw3 b (i, h)).2.1])
  | _, _ => none
@[reducible] def E_l3Draw : Env := mkE (tb [(79, K_l1PickInt), (105, K_l3Make)]) (fun f => [79, 105].contains f) (fun r => ([], []))
theorem ev_l3Draw (b : List Int) (i h : Int) (hp : CuOk b i) : evF E_l3Draw (1) Tryd.f87 [.ptr 0 0] [.box 91 [.lst (.int .u8) b, .int .i64 i, .int .i64 h]] = some (.agg [.int .i64 (draw3 b (i, h)).1, .own 1], [.box 91 [.lst (.int .u8) b, .int .i64 (draw3 b (i, h)).2.2.1, .int .i64 (draw3 b (i, h)).2.2.2], .row 3 (.int .i64) (draw3 b (i, h)).2.1]) := by
  have n1 := nx_ok (c := (i, h)) hp
  have hm := draw3m_rng b (i, h)
  conv => lhs; whnf
  conv => lhs; arg 1; whnf
  refine bnd_g (by exact ⟨hp, by simp, by simp⟩) ?_
  conv => lhs; whnf
  conv => lhs; arg 1; whnf
  refine bnd_g (by exact ⟨n1, ⟨hm.1, by have := hm.2; exact Int.le_trans hm.2 (by omega)⟩, by omega, by omega⟩) ?_
  conv => lhs; whnf
  all_goals rfl
theorem ok_l3Draw : FnOk Tryd.prog 87 K_l3Draw := by
  refine fn_ok (fn := Tryd.f87) (k := Tryd.f87.ntmps) (E := E_l3Draw) (facts_of (List.forall_mem_cons.2 ⟨ok_l1PickInt, List.forall_mem_cons.2 ⟨ok_l3Make, List.forall_mem_nil _⟩⟩)) (by kernel_rfl) rfl (by decide +kernel) (by decide +kernel) ?_
  intro avs hin r h
  unfold K_l3Draw at h
  split at h
  · obtain ⟨hp, rfl⟩ := gd_o h
    exact ⟨_, ev_l3Draw _ _ _ hp, rfl⟩
  · cases h

/- spec.l2Bent -/
def K_l2Bent : List AV → List Ob → Option (AV × List Ob)
  | [.ptr 0 0], [.box 91 [.lst (.int .u8) b, .int .i64 i, .int .i64 h]] => gd (CuOk b i) (.int .i64 (bent2 b (i, h)), [.box 91 [.lst (.int .u8) b, .int .i64 (nx b (nx b (i, h))).1, .int .i64 (nx b (nx b (i, h))).2]])
  | _, _ => none
@[reducible] def E_l2Bent : Env := mkE (tb [(48, K_l1Once), (79, K_l1PickInt), (42, K_l1Below)]) (fun f => [48, 79, 42].contains f) (fun r => ([], []))
theorem ev_l2Bent (b : List Int) (i h : Int) (hp : CuOk b i) : evF E_l2Bent (1) Tryd.f88 [.ptr 0 0] [.box 91 [.lst (.int .u8) b, .int .i64 i, .int .i64 h]] = some (.int .i64 (bent2 b (i, h)), [.box 91 [.lst (.int .u8) b, .int .i64 (nx b (nx b (i, h))).1, .int .i64 (nx b (nx b (i, h))).2]]) := by
  have hn := nx_ok (c := (i, h)) hp
  conv => lhs; whnf
  conv => lhs; arg 1; whnf
  refine bnd_g (by exact ⟨hp, by omega, by omega⟩) ?_
  conv => lhs; whnf
  refine br_c (fun hc => ?_) (fun hc => ?_)
  · have e : bent2 b (i, h) = pick4 (-1) 256 1000 (-9223372036854775808) b (nx b (i, h)) := by unfold bent2; rw [hc]; rfl
    rw [e]
    conv => lhs; whnf
    conv => lhs; arg 1; whnf
    refine bnd_g (by exact ⟨hn, by simp, by simp⟩) ?_
    conv => lhs; whnf
    rfl
  · have e : bent2 b (i, h) = be b (nx b (i, h)) 256 := by unfold bent2; rw [hc]; rfl
    rw [e]
    conv => lhs; whnf
    conv => lhs; arg 1; whnf
    refine bnd_g (by exact ⟨hn, by omega, by omega⟩) ?_
    conv => lhs; whnf
theorem ok_l2Bent : FnOk Tryd.prog 88 K_l2Bent := by
  refine fn_ok (fn := Tryd.f88) (k := Tryd.f88.ntmps) (E := E_l2Bent) (facts_of (List.forall_mem_cons.2 ⟨ok_l1Once, List.forall_mem_cons.2 ⟨ok_l1PickInt, List.forall_mem_cons.2 ⟨ok_l1Below, List.forall_mem_nil _⟩⟩⟩)) (by kernel_rfl) rfl (by decide +kernel) (by decide +kernel) ?_
  intro avs hin r h
  unfold K_l2Bent at h
  split at h
  · obtain ⟨hp, rfl⟩ := gd_o h
    exact ⟨_, ev_l2Bent _ _ _ hp, rfl⟩
  · cases h

/- spec.l3Bent -/
def K_l3Bent : List AV → List Ob → Option (AV × List Ob)
  | [.ptr 0 0], [.box 91 [.lst (.int .u8) b, .int .i64 i, .int .i64 h]] => gd (CuOk b i) (.agg [.int .i64 (bent3 b (i, h)).1, .own 1], [.box 91 [.lst (.int .u8) b, .int .i64 (bent3 b (i, h)).2.2.1, .int .i64 (bent3 b (i, h)).2.2.2], .row 3 (.int .i64) (bent3 b (i, h)).2.1])
  | _, _ => none
@[reducible] def E_l3Bent : Env := mkE (tb [(87, K_l3Draw), (42, K_l1Below), (79, K_l1PickInt), (88, K_l2Bent)]) (fun f => [87, 42, 79, 88].contains f) (fun r => bif r == 8 then ([2, 3], [2, 3]) else ([], []))
theorem lp_l3Bent (b : List Int) (i0 h0 m : Int) (k : AX → S → Option (AV × List Ob)) (d : Nat) : ∀ (n : Nat) (zs : List Int), 9 - zs.length = d → zs.length ≤ 9 → d < n →
    lpAt E_l3Bent (lp E_l3Bent 1 n) 1 (loopAt Tryd.f62 0) (mkS [2, 3] [.ptr 1 0, .ptr 3 0] [some (.box 91 [.lst (.int .u8) b, .int .i64 i0, .int .i64 h0]), some (.box 47 [.int .i64 0, .own 2]), some (.row 3 (.int .i64) []), some (.box 47 [.int .i64 m, .own 4]), some (.row 3 (.int .i64) zs)]) k =
      k (.exit 1) (mkS [2, 3] [.ptr 1 0, .ptr 3 0] [some (.box 91 [.lst (.int .u8) b, .int .i64 i0, .int .i64 h0]), some (.box 47 [.int .i64 0, .own 2]), some (.row 3 (.int .i64) []), some (.box 47 [.int .i64 m, .own 4]), some (.row 3 (.int .i64) (pad9 zs))]) := by
  induction d with
  | zero =>
    intro n zs hd hi hn
    rw [lpAt_def]
    conv => lhs; whnf
    refine br_f (df (by omega)) ?_
    conv => lhs; whnf
    have e : pad9 zs = zs := by
      unfold pad9
      rw [show 9 - zs.length = 0 by omega]
      simp
    rw [e]
  | succ d ih =>
    intro n zs hd hi hn
    obtain ⟨n, rfl⟩ : ∃ m, n = m + 1 := ⟨n - 1, by omega⟩
    rw [lpAt_def]
    conv => lhs; whnf
    refine br_t (dt (by omega)) ?_
    conv => lhs; whnf
    refine br_t (dt (by simp [room]; omega)) ?_
    conv => lhs; whnf
    refine (ih n _ (by simp; omega) (by simp; omega) (by omega)).trans ?_
    have e : pad9 zs = pad9 (zs ++ [0]) := by
      unfold pad9
      obtain ⟨q, hq⟩ : ∃ q, 9 - zs.length = q + 1 := ⟨8 - zs.length, by omega⟩
      rw [List.length_append, List.length_singleton, hq, show 9 - (zs.length + 1) = q by omega, List.replicate_succ, List.append_assoc]
      rfl
    rw [e]
theorem ev_l3Bent (b : List Int) (i h : Int) (hp : CuOk b i) : evF E_l3Bent (20) Tryd.f62 [.ptr 0 0] [.box 91 [.lst (.int .u8) b, .int .i64 i, .int .i64 h]] = some (.agg [.int .i64 (bent3 b (i, h)).1, .own 1], [.box 91 [.lst (.int .u8) b, .int .i64 (bent3 b (i, h)).2.2.1, .int .i64 (bent3 b (i, h)).2.2.2], .row 3 (.int .i64) (bent3 b (i, h)).2.1]) := by
  have h3 := draw3_ok (c := (i, h)) hp
  have n0 := h3.2.2
  have hl := h3.2.1
  have n1 := nx_ok n0
  have n2 := nx_ok n1
  conv => lhs; whnf
  conv => lhs; arg 1; whnf
  refine bnd_g (by exact hp) ?_
  conv => lhs; whnf
  conv => lhs; arg 1; whnf
  refine bnd_g (by exact ⟨n0, by omega, by omega⟩) ?_
  conv => lhs; whnf
  refine br_c (fun g => ?_) (fun g => ?_)
  · have e : bent3 b (i, h) = (pick4 (-1) 0 2 7 b (nx b (draw3 b (i, h)).2.2), (draw3 b (i, h)).2.1, nx b (nx b (draw3 b (i, h)).2.2)) := by unfold bent3 bent3'; rw [g]; rfl
    rw [e]
    conv => lhs; whnf
    conv => lhs; arg 1; whnf
    refine bnd_g (by exact ⟨n1, by simp, by simp⟩) ?_
    conv => lhs; whnf
    all_goals rfl
  · conv => lhs; whnf
    refine br_c (fun g2 => ?_) (fun g2 => ?_)
    · have e : bent3 b (i, h) = ((draw3 b (i, h)).1, (draw3 b (i, h)).2.1 ++ [bent2 b (nx b (draw3 b (i, h)).2.2)], nx b (nx b (nx b (draw3 b (i, h)).2.2))) := by unfold bent3 bent3'; rw [g, g2]; rfl
      rw [e]
      conv => lhs; whnf
      conv => lhs; arg 1; whnf
      refine bnd_g (by exact n1) ?_
      conv => lhs; whnf
      refine br_t (dt (by simp [room]; omega)) ?_
      conv => lhs; whnf
      refine br_t (by kernel_rfl) ?_
      conv => lhs; whnf
      all_goals rfl
    · conv => lhs; whnf
      refine br_c (fun g3 => ?_) (fun g3 => ?_)
      · have e : bent3 b (i, h) = ((draw3 b (i, h)).1, pad9 (draw3 b (i, h)).2.1, nx b (draw3 b (i, h)).2.2) := by unfold bent3 bent3'; rw [g, g2, g3]; rfl
        rw [e]
        conv => lhs; whnf
        refine (lp_l3Bent b _ _ _ _ (9 - (draw3 b (i, h)).2.1.length) _ (draw3 b (i, h)).2.1 rfl (by omega) (by change _ < 19; omega)).trans ?_
        conv => lhs; whnf
        all_goals rfl
      · have e : bent3 b (i, h) = ((draw3 b (i, h)).1, (draw3 b (i, h)).2.1, nx b (draw3 b (i, h)).2.2) := by unfold bent3 bent3'; rw [g, g2, g3]; rfl
        rw [e]
        conv => lhs; whnf
theorem ok_l3Bent : FnOk Tryd.prog 62 K_l3Bent := by
  refine fn_ok (fn := Tryd.f62) (k := Tryd.f62.ntmps) (E := E_l3Bent) (facts_of (List.forall_mem_cons.2 ⟨ok_l3Draw, List.forall_mem_cons.2 ⟨ok_l1Below, List.forall_mem_cons.2 ⟨ok_l1PickInt, List.forall_mem_cons.2 ⟨ok_l2Bent, List.forall_mem_nil _⟩⟩⟩⟩)) (by kernel_rfl) rfl (by decide +kernel) (by decide +kernel) ?_
  intro avs hin r h
  unfold K_l3Bent at h
  split at h
  · obtain ⟨hp, rfl⟩ := gd_o h
    exact ⟨_, ev_l3Bent _ _ _ hp, rfl⟩
  · cases h

/- spec.DrawMostStable -/
def K_drawMostStable : List AV → List Ob → Option (AV × List Ob)
  | [.lst (.int .u8) b], [] => gd (b.length ≤ 1048576) (.agg [.int .i64 (bent3 b (newC b)).1, .own 0], [.row 3 (.int .i64) (bent3 b (newC b)).2.1])
  | _, _ => none
@[reducible] def E_drawMostStable : Env := mkE (tb [(40, K_l1New), (62, K_l3Bent)]) (fun f => [62].contains f) (fun r => ([], []))
theorem ev_drawMostStable (b : List Int) (hp : b.length ≤ 1048576) : evF E_drawMostStable (1) Tryd.f27 [.lst (.int .u8) b] [] = some (.agg [.int .i64 (bent3 b (newC b)).1, .own 0], [.row 3 (.int .i64) (bent3 b (newC b)).2.1]) := by
  conv => lhs; whnf
  conv => lhs; arg 1; whnf
  refine bnd_g (by exact hp) ?_
  conv => lhs; whnf
  conv => lhs; arg 1; whnf
  refine bnd_g (by exact newC_ok hp) ?_
  conv => lhs; whnf
theorem ok_drawMostStable : FnOk Tryd.prog 27 K_drawMostStable := by
  refine fn_ok (fn := Tryd.f27) (k := Tryd.f27.ntmps) (E := E_drawMostStable) (facts_of (List.forall_mem_cons.2 ⟨ok_l1New, List.forall_mem_cons.2 ⟨ok_l3Bent, List.forall_mem_nil _⟩⟩)) (by kernel_rfl) rfl (by decide +kernel) (by decide +kernel) ?_
  intro avs hin r h
  unfold K_drawMostStable at h
  split at h
  · obtain ⟨hp, rfl⟩ := gd_o h
    exact ⟨_, ev_drawMostStable _ hp, rfl⟩
  · cases h

def two6a (b : List Int) (c : Cu) : Int := be b (bent3 b c).2.2 ((concF (bent3 b c).1 (bent3 b c).2.1).length + 2) - 1
def two6b (b : List Int) (c : Cu) : Int := be b (nx b (bent3 b c).2.2) ((concF (bent3 b c).1 (bent3 b c).2.1).length + 2) - 1
/- spec.l6Two -/
def K_l6Two : List AV → List Ob → Option (AV × List Ob)
  | [.lst (.int .u8) b], [] => gd (b.length ≤ 1048576) (.tup [.agg [.int .i64 (bent3 b (newC b)).1, .own 0], .int .i64 (two6a b (newC b)), .int .i64 (two6b b (newC b))], [.row 3 (.int .i64) (bent3 b (newC b)).2.1])
  | _, _ => none
@[reducible] def E_l6Two : Env := mkE (tb [(40, K_l1New), (37, K_specConcepts), (62, K_l3Bent), (42, K_l1Below)]) (fun f => [62, 42].contains f) (fun r => ([], []))
theorem ev_l6Two (b : List Int) (hp : b.length ≤ 1048576) : evF E_l6Two (1) Tryd.f64 [.lst (.int .u8) b] [] = some (.tup [.agg [.int .i64 (bent3 b (newC b)).1, .own 0], .int .i64 (two6a b (newC b)), .int .i64 (two6b b (newC b))], [.row 3 (.int .i64) (bent3 b (newC b)).2.1]) := by
  have n0 := newC_ok hp
  have hd := bent3_ok n0
  have hl := hd.1
  have hc := concF_len (bent3 b (newC b)).1 (bent3 b (newC b)).2.1
  have n2 := nx_ok hd.2
  have r1 := be_rng b (bent3 b (newC b)).2.2 (n := ((concF (bent3 b (newC b)).1 (bent3 b (newC b)).2.1).length : Int) + 2) (by omega)
  have r2 := be_rng b (nx b (bent3 b (newC b)).2.2) (n := ((concF (bent3 b (newC b)).1 (bent3 b (newC b)).2.1).length : Int) + 2) (by omega)
  have w1 : IntKind.i64.wrap (((concF (bent3 b (newC b)).1 (bent3 b (newC b)).2.1).length : Int) + 1) = ((concF (bent3 b (newC b)).1 (bent3 b (newC b)).2.1).length : Int) + 1 := wrap64 (by omega) (by omega)
  have w2 : IntKind.i64.wrap (IntKind.i64.wrap (((concF (bent3 b (newC b)).1 (bent3 b (newC b)).2.1).length : Int) + 1) + 1) = ((concF (bent3 b (newC b)).1 (bent3 b (newC b)).2.1).length : Int) + 2 := by rw [w1, wrap64 (by omega) (by omega)]; omega
  have w3 : IntKind.i64.wrap (be b (bent3 b (newC b)).2.2 (((concF (bent3 b (newC b)).1 (bent3 b (newC b)).2.1).length : Int) + 2) - 1) = two6a b (newC b) := wrap64 (by omega) (by omega)
  have w4 : IntKind.i64.wrap (be b (nx b (bent3 b (newC b)).2.2) (((concF (bent3 b (newC b)).1 (bent3 b (newC b)).2.1).length : Int) + 2) - 1) = two6b b (newC b) := wrap64 (by omega) (by omega)
  have w5 : 1 ≤ IntKind.i64.wrap (IntKind.i64.wrap (((concF (bent3 b (newC b)).1 (bent3 b (newC b)).2.1).length : Int) + 1) + 1) ∧ IntKind.i64.wrap (IntKind.i64.wrap (((concF (bent3 b (newC b)).1 (bent3 b (newC b)).2.1).length : Int) + 1) + 1) ≤ 256 := by rw [w2]; omega
  have z1 : IntKind.i64.wrap (be b (bent3 b (newC b)).2.2 (IntKind.i64.wrap (IntKind.i64.wrap (((concF (bent3 b (newC b)).1 (bent3 b (newC b)).2.1).length : Int) + 1) + 1)) - 1) = two6a b (newC b) := by rw [w2]; exact w3
  have z2 : IntKind.i64.wrap (be b (nx b (bent3 b (newC b)).2.2) (IntKind.i64.wrap (IntKind.i64.wrap (((concF (bent3 b (newC b)).1 (bent3 b (newC b)).2.1).length : Int) + 1) + 1)) - 1) = two6b b (newC b) := by rw [w2]; exact w4
  conv => lhs; whnf
  conv => lhs; arg 1; whnf
  refine bnd_g (by exact hp) ?_
  conv => lhs; whnf
  conv => lhs; arg 1; whnf
  refine bnd_g (by exact n0) ?_
  conv => lhs; whnf
  conv => lhs; arg 1; whnf
  refine bnd_g (by (change (bent3 b (newC b)).2.1.length ≤ 1048576; omega)) ?_
  conv => lhs; whnf
  conv => lhs; arg 1; whnf
  refine bnd_g (by exact ⟨hd.2, w5.1, w5.2⟩) ?_
  conv => lhs; whnf
  conv => lhs; arg 1; whnf
  refine bnd_g (by exact ⟨n2, w5.1, w5.2⟩) ?_
  conv => lhs; whnf
  refine br_t (by kernel_rfl) ?_
  conv => lhs; whnf
  conv => rhs; rw [← z1, ← z2]
  all_goals rfl
theorem ok_l6Two : FnOk Tryd.prog 64 K_l6Two := by
  refine fn_ok (fn := Tryd.f64) (k := Tryd.f64.ntmps) (E := E_l6Two) (facts_of (List.forall_mem_cons.2 ⟨ok_l1New, List.forall_mem_cons.2 ⟨ok_specConcepts, List.forall_mem_cons.2 ⟨ok_l3Bent, List.forall_mem_cons.2 ⟨ok_l1Below, List.forall_mem_nil _⟩⟩⟩⟩)) (by kernel_rfl) rfl (by decide +kernel) (by decide +kernel) ?_
  intro avs hin r h
  unfold K_l6Two at h
  split at h
  · obtain ⟨hp, rfl⟩ := gd_o h
    exact ⟨_, ev_l6Two _ hp, rfl⟩
  · cases h

/- spec.DrawStabilityOf -/
def K_drawStabilityOf : List AV → List Ob → Option (AV × List Ob)
  | [.lst (.int .u8) b], [] => gd (b.length ≤ 1048576) (.tup [.agg [.int .i64 (bent3 b (newC b)).1, .own 0], .int .i64 (two6a b (newC b))], [.row 3 (.int .i64) (bent3 b (newC b)).2.1])
  | _, _ => none
@[reducible] def E_drawStabilityOf : Env := mkE (tb [(64, K_l6Two)]) (fun f => false) (fun r => ([], []))
theorem ev_drawStabilityOf (b : List Int) (hp : b.length ≤ 1048576) : evF E_drawStabilityOf (1) Tryd.f29 [.lst (.int .u8) b] [] = some (.tup [.agg [.int .i64 (bent3 b (newC b)).1, .own 0], .int .i64 (two6a b (newC b))], [.row 3 (.int .i64) (bent3 b (newC b)).2.1]) := by
  conv => lhs; whnf
  conv => lhs; arg 1; whnf
  refine bnd_g (by exact hp) ?_
  conv => lhs; whnf
theorem ok_drawStabilityOf : FnOk Tryd.prog 29 K_drawStabilityOf := by
  refine fn_ok (fn := Tryd.f29) (k := Tryd.f29.ntmps) (E := E_drawStabilityOf) (facts_of (List.forall_mem_cons.2 ⟨ok_l6Two, List.forall_mem_nil _⟩)) (by kernel_rfl) rfl (by decide +kernel) (by decide +kernel) ?_
  intro avs hin r h
  unfold K_drawStabilityOf at h
  split at h
  · obtain ⟨hp, rfl⟩ := gd_o h
    exact ⟨_, ev_drawStabilityOf _ hp, rfl⟩
  · cases h

def inlF (m : Int) (a : List Int) : List Int := (concF m a).map (·.2)
def missF (a b : List Int) : List Int := a.filter (fun v => !b.any (fun y => y == v))
def onlyF (m : Int) (a : List Int) (m' : Int) (b : List Int) : List Int := (inlF m a).filter (fun v => !((isCtx m' b && isSet m' v) && closedI m' b v))
theorem inlF_len (m : Int) (a : List Int) : (inlF m a).length ≤ 64 := by
  unfold inlF
  rw [List.length_map]
  exact concF_len m a
theorem missF_len (a b : List Int) : (missF a b).length ≤ a.length := List.length_filter_le _ _
theorem lecI_of_set {m v : Int} (hm : 0 ≤ m ∧ m ≤ 6) (h : isSet m v = true) : v ∈ lecI m.toNat := by
  obtain ⟨s, rfl, hs⟩ := isSet_ex h
  unfold lecI
  exact List.mem_map.2 ⟨s, (lecL_mem (by omega)).2 hs, rfl⟩
theorem inlF_any (m : Int) (b : List Int) (v : Int) : (inlF m b).any (fun y => y == v) = ((isCtx m b && isSet m v) && closedI m b v) := by
  unfold inlF concF
  cases hc : isCtx m b with
  | false => rfl
  | true =>
    have hl := isCtx_len hc
    rw [cond_true, Bool.true_and, Bool.eq_iff_iff, List.any_eq_true, Bool.and_eq_true]
    constructor
    · rintro ⟨y, hy, hv⟩
      obtain ⟨p, hp, rfl⟩ := List.mem_map.1 hy
      obtain ⟨x, hx, rfl⟩ := List.mem_map.1 hp
      have hx := List.mem_filter.1 hx
      have e : x = v := eq_of_beq hv
      subst e
      exact ⟨(lecI_isSet ⟨by omega, by omega⟩ hx.1).1, hx.2⟩
    · rintro ⟨h1, h2⟩
      refine ⟨v, List.mem_map.2 ⟨pairI b v, List.mem_map.2 ⟨v, List.mem_filter.2 ⟨lecI_of_set ⟨by omega, by omega⟩ h1, h2⟩, rfl⟩, rfl⟩, ?_⟩
      exact beq_self_eq_true v
theorem miss_only (m : Int) (a : List Int) (m' : Int) (b : List Int) : onlyF m a m' b = missF (inlF m a) (inlF m' b) := by
  unfold onlyF missF
  refine List.filter_congr fun v _ => ?_
  rw [inlF_any]
theorem sumB_acc (f : Nat → Bool) : ∀ (d i : Nat) (q : Int), sumB f d i q = q + sumB f d i 0
  | 0, i, q => by simp [sumB]
  | d + 1, i, q => by
    rw [sumB, sumB, sumB_acc f d (i + 1) (q + _), sumB_acc f d (i + 1) (0 + _)]
    omega
theorem sumB_mono {f g : Nat → Bool} (h : ∀ j, f j = true → g j = true) : ∀ (d i : Nat) (q r : Int), q ≤ r → sumB f d i q ≤ sumB g d i r
  | 0, i, q, r, hq => hq
  | d + 1, i, q, r, hq => by
    rw [sumB, sumB]
    refine sumB_mono h d (i + 1) _ _ ?_
    cases hf : f i
    · cases g i <;> simp <;> omega
    · rw [h i hf]; simp; omega
theorem subs_all : ∀ e : Fin 256, sumB (fun s => s &&& e.val == s) (e.val + 1) 0 0 = ((2 ^ popF 8 e.val : Nat) : Int) := by decide +kernel
theorem stNum_le (m : Int) (b : List Int) {p : Int × Int} (hp : isSet 8 p.1 = true) : stNum m b p ≤ powC p.1 := by
  have hr := isSet_le hp
  obtain ⟨e, he⟩ : ∃ e : Nat, p.1 = e := ⟨p.1.toNat, by omega⟩
  have h1 := subs_all ⟨e, by omega⟩
  simp only at h1
  unfold stNum powC cntF
  rw [if_pos hp, he, Int.toNat_natCast, Int.toNat_natCast, ← h1]
  have hc : ∀ j, 0 ≤ j → j < 0 + (e + 1) → (fun s : Nat => s &&& e == s) j = (fun s : Nat => band (s : Int) (e : Int) == (s : Int)) j := by
    intro j _ hj
    have g : (s : Nat) → s < 256 → (s &&& e == s) = (band (s : Int) (e : Int) == (s : Int)) := by
      intro s hs
      rw [band_nat hs (by omega), Bool.eq_iff_iff, beq_iff_eq, beq_iff_eq]
      omega
    exact g j (by omega)
  rw [sumB_congr _ _ _ hc]
  refine sumB_mono (fun j hj => ?_) _ _ _ _ (Int.le_refl 0)
  unfold stAt at hj
  rw [he] at hj
  exact (Bool.and_eq_true_iff.1 hj).1
theorem ext_le8 {b : List Int} {s : Int} (hb : b.length ≤ 8) (h : isSet b.length s = true) : isSet 8 s = true := isSet_8 h
theorem stab_pq (m : Int) (b : List Int) (a : Int) : (stabF m b a).1 ≤ (stabF m b a).2 := by
  unfold stabF
  cases h : inC (concF m b) a with
  | false => exact Int.le_refl 0
  | true =>
    obtain ⟨_, _, h3, _, _⟩ := concF_at h
    exact stNum_le m b (isSet_8 h3)
theorem popF_mono : ∀ (d : Nat) {s x : Nat}, SubN s x → popF d s ≤ popF d x
  | 0, _, _, _ => Nat.le_refl 0
  | d + 1, s, x, h => by
    have h0 : s % 2 ≤ x % 2 := by
      have := h 0
      rw [Nat.testBit_zero, Nat.testBit_zero, decide_eq_true_eq, decide_eq_true_eq] at this
      omega
    have h1 : SubN (s / 2) (x / 2) := fun i hi => by
      have := h (i + 1)
      rw [Nat.testBit_succ, Nat.testBit_succ] at this
      exact this hi
    have := popF_mono d h1
    unfold popF
    omega
theorem cnt_bits : ∀ e : Fin 256, (popF 8 e.val : Int) = sumB (fun k => e.val.testBit k) 8 0 0 := by decide +kernel
theorem sepS_ge (b : List Int) (p : Int × Int) (c : Int) (hc : 0 ≤ c) (f : Nat → Bool) : ∀ (d i : Nat) (q r : Int), c * r ≤ q →
    (∀ j, i ≤ j → j < i + d → f j = true → hasE p.1 (j : Int) = true ∧ c ≤ cntF (b.getD j 0)) → c * sumB f d i r ≤ sepS b p d i q
  | 0, i, q, r, h, _ => h
  | d + 1, i, q, r, h, hh => by
    rw [sepS, sumB]
    refine sepS_ge b p c hc f d (i + 1) _ _ ?_ (fun j h1 h2 => hh j (by omega) (by omega))
    have hr := sepAt_rng b p i
    cases hf : f i
    · rw [cond_false, Int.add_zero]; omega
    · obtain ⟨g1, g2⟩ := hh i (Nat.le_refl _) (by omega) hf
      have e : sepAt b p i = cntF (b.getD i 0) := by unfold sepAt; rw [g1]; rfl
      rw [cond_true, Int.mul_add, e]
      omega
theorem sep_pq (m : Int) (b : List Int) (a : Int) : (sepF m b a).1 ≤ (sepF m b a).2 := by
  unfold sepF
  cases h : inC (concF m b) a with
  | false => exact Int.le_refl 0
  | true =>
    obtain ⟨h1, h2, h3, h4, h5⟩ := concF_at h
    generalize elC (concF m b) a = p at h2 h3 h4 h5 ⊢
    have hl := isCtx_len h1
    have hsm := ctx_small h1
    rw [cond_true]
    have r1 := cntF_rng p.1
    have r2 := cntF_rng p.2
    have hb1 : 0 ≤ cntF p.1 * cntF p.2 := Int.mul_nonneg r1.1 r2.1
    have hb2 : cntF p.1 * cntF p.2 ≤ 8 * 8 := Int.mul_le_mul r1.2 r2.2 r2.1 (by omega)
    simp only
    rw [wrap64 (by omega) (by omega)]
    obtain ⟨e, he⟩ : ∃ e : Nat, p.1 = e := ⟨p.1.toNat, by have := isSet_le h3; omega⟩
    obtain ⟨s, hs, hs2⟩ := isSet_ex h2
    have hpw : 2 ^ m.toNat ≤ 2 ^ 6 := Nat.pow_le_pow_right (by omega) (by omega)
    have h8 := isSet_8 h3
    have he8 := isSet_le h8
    have hcn : cntF p.1 = sumB (fun k => e.testBit k) b.length 0 0 := by
      have g := cnt_bits ⟨e, by omega⟩
      simp only at g
      unfold cntF
      rw [if_pos h8, he, Int.toNat_natCast, g]
      obtain ⟨c, hc⟩ : ∃ c, 8 = b.length + c := ⟨8 - b.length, by omega⟩
      rw [hc]
      refine sumB_grow c _ 0 0 fun j q1 q2 => ?_
      have := isSet_bit h3 (e := j) (by omega)
      unfold bitI at this
      rw [he, Int.toNat_natCast, Int.toNat_natCast] at this
      exact this
    rw [Int.mul_comm, hcn]
    refine sepS_ge b p _ r2.1 _ _ _ _ _ (by simp) fun j _ hj hf => ⟨?_, ?_⟩
    · rw [hasE_bit h8 (by omega) (by omega)]
      unfold bitI
      rw [he, Int.toNat_natCast, Int.toNat_natCast]
      exact hf
    · have hx := (extF_spec hl.1 hsm (s := s) (by omega)).2.2 j
      rw [← hs, ← h4, he, Int.toNat_natCast] at hx
      have hsub := (hx.1 hf).2
      have hrow := small_getD hsm j
      unfold cntF
      rw [if_pos (isSet_8 h2), if_pos (by rw [isSet8]; exact dt hrow), hs, Int.toNat_natCast]
      have := popF_mono 8 hsub
      omega
theorem gen_cl {m : Int} {b : List Int} {a g : Int} (h : g ∈ genF m b a) : inC (concF m b) a = true ∧ isCtx m b = true ∧ isSet m g = true ∧ intentF m b (extF b g) = (elC (concF m b) a).2 := by
  unfold genF at h
  cases hk : inC (concF m b) a with
  | false => rw [hk] at h; cases h
  | true =>
    rw [hk, cond_true] at h
    obtain ⟨h1, h2, h3, h4, h5⟩ := concF_at hk
    obtain ⟨s, hs, rfl⟩ := List.mem_map.1 h
    obtain ⟨q1, q2⟩ := List.mem_filter.1 hs
    have hlt : s < 2 ^ m.toNat := List.mem_range.1 q1
    have hl := isCtx_len h1
    have hpw : 2 ^ m.toNat ≤ 2 ^ 6 := Nat.pow_le_pow_right (by omega) (by omega)
    refine ⟨rfl, h1, ?_, ?_⟩
    · unfold isSet
      refine dt ⟨by omega, by omega, ?_⟩
      have e2 : ((2 ^ m.toNat : Nat) : Int) = (2 : Int) ^ m.toNat := by push_cast; rfl
      omega
    · rw [clN_int h1 (by omega)]
      unfold leastN at q2
      have := eq_of_beq (Bool.and_eq_true_iff.1 q2).1
      rw [this]
      have := (isSet_le h2).2.2.1
      omega
theorem gen_free {m : Int} {b : List Int} {a : Int} {i j : Nat} (hij : j < i) (hi : i < (genF m b a).length) :
    (band ((genF m b a).getD j 0) ((genF m b a).getD i 0) == (genF m b a).getD j 0) = false ∧ (band ((genF m b a).getD i 0) ((genF m b a).getD j 0) == (genF m b a).getD i 0) = false := by
  unfold genF at hi ⊢
  cases hk : inC (concF m b) a with
  | false => rw [hk] at hi; cases hi
  | true =>
    rw [hk, cond_true] at hi
    rw [cond_true]
    obtain ⟨h1, h2, h3, h4, h5⟩ := concF_at hk
    have hl := isCtx_len h1
    have hpw : 2 ^ m.toNat ≤ 2 ^ 6 := Nat.pow_le_pow_right (by omega) (by omega)
    have hclo := cl_clo h1
    generalize hI : (elC (concF m b) a).2.toNat = I at hi ⊢
    have hL : ((List.range (2 ^ m.toNat)).filter (leastN (clN m b) I)).Pairwise (· < ·) := List.Pairwise.filter _ List.pairwise_lt_range
    have hM : ∀ s ∈ (List.range (2 ^ m.toNat)).filter (leastN (clN m b) I), s < 2 ^ m.toNat ∧ leastN (clN m b) I s = true := fun s hs => ⟨List.mem_range.1 (List.mem_filter.1 hs).1, (List.mem_filter.1 hs).2⟩
    generalize (List.range (2 ^ m.toNat)).filter (leastN (clN m b) I) = L at hi hL hM ⊢
    rw [List.length_map] at hi
    have g : ∀ k, k < L.length → (L.map (fun n : Nat => (n : Int))).getD k 0 = ((L.getD k 0 : Nat) : Int) := fun k hk => by
      simp [List.getD_eq_getElem?_getD, List.getElem?_eq_getElem hk]
    have gm : ∀ k, k < L.length → L.getD k 0 ∈ L := fun k hk => mem_getD hk
    rw [g i hi, g j (by omega)]
    have hlt : L.getD j 0 < L.getD i 0 := by
      have := List.pairwise_iff_getElem.1 hL j i (by omega) hi hij
      simpa [List.getD_eq_getElem?_getD, List.getElem?_eq_getElem hi, List.getElem?_eq_getElem (show j < L.length by omega)] using this
    obtain ⟨y1, y2⟩ := hM _ (gm j (by omega))
    obtain ⟨s1, s2⟩ := hM _ (gm i hi)
    generalize L.getD j 0 = y at hlt y1 y2 ⊢
    generalize L.getD i 0 = s at hlt s1 s2 ⊢
    unfold leastN at y2 s2
    rw [Bool.and_eq_true] at y2 s2
    have cy := eq_of_beq y2.1
    have cs := eq_of_beq s2.1
    have ty := (tightB_iff (by omega) cy).1 y2.2
    have ts := (tightB_iff (by omega) cs).1 s2.2
    constructor
    · rw [← Bool.not_eq_true, band_nat (by omega) (by omega), beq_iff_eq]
      intro hb
      exact (tight_iff hclo (by omega) s1).1 ts y hlt (sub_and.1 (by omega)) (cy.trans cs.symm) ty
    · rw [← Bool.not_eq_true, band_nat (by omega) (by omega), beq_iff_eq]
      intro hb
      have hsub : SubN s y := sub_and.1 (by omega)
      have := gsub_le hsub
      omega
/-- The stabilities' sum. -/
def sumS (m : Int) (b : List Int) : Nat → Nat → Int → Int
  | 0, _, q => q
  | d + 1, i, q => sumS m b d (i + 1) (q + (stabF m b (i : Int)).1)
theorem sumB_count (f : Nat → Bool) : ∀ (d i : Nat), sumB f d i 0 = (((List.range' i d).countP f : Nat) : Int)
  | 0, i => rfl
  | d + 1, i => by
    rw [sumB, sumB_acc, sumB_count f d (i + 1), List.range'_succ, List.countP_cons]
    cases f i <;> simp <;> omega
theorem int_closed {m : Int} {b : List Int} (h : isCtx m b = true) {s : Int} (hs : isSet 8 s = true) : isSet m (intentF m b s) = true ∧ closedI m b (intentF m b s) = true := by
  have hl := isCtx_len h
  have hsm := ctx_small h
  obtain ⟨i1, i2, i3⟩ := intentF_spec (m := m) ⟨hl.2.1, by omega⟩ hl.1 hsm hs
  obtain ⟨v, hv⟩ : ∃ v : Nat, intentF m b s = v := ⟨(intentF m b s).toNat, by omega⟩
  rw [hv] at i1 i2 i3 ⊢
  have hlt : v < 2 ^ m.toNat := by
    refine Nat.lt_pow_two_of_testBit _ fun i hi => ?_
    cases hb : v.testBit i
    · rfl
    · have := ((i3 i).1 (by rw [Int.toNat_natCast]; exact hb)).1
      omega
  refine ⟨?_, ?_⟩
  · unfold isSet
    refine dt ⟨by omega, by omega, ?_⟩
    have e2 : ((2 ^ m.toNat : Nat) : Int) = (2 : Int) ^ m.toNat := by push_cast; rfl
    omega
  · rw [closed_is h (by omega)]
    refine beq_iff_eq.2 (Nat.eq_of_testBit_eq fun e => ?_)
    rw [Bool.eq_iff_iff]
    constructor
    · intro he
      obtain ⟨q1, q2⟩ := (clN_bit h (by omega) e).1 he
      have := (i3 e).2 ⟨q1, fun k hk hb => q2 k hk fun j hj => ((i3 j).1 (by rw [Int.toNat_natCast]; exact hj)).2 k hk hb⟩
      rwa [Int.toNat_natCast] at this
    · exact (cl_clo h).ext v hlt e
theorem st_int {m : Int} {b : List Int} (h : isCtx m b = true) {p : Int × Int} (hp : p ∈ concF m b) {s : Nat} (hs : s < 2 ^ b.length) : stAt m b p s = (intentF m b (s : Int) == p.2) := by
  have hl := isCtx_len h
  have hsm := ctx_small h
  have h2 : 2 ^ b.length ≤ 2 ^ 8 := Nat.pow_le_pow_right (by omega) hl.1
  obtain ⟨_, g2, g3, g4, g5⟩ := concF_mem hp
  unfold stAt
  cases hi : (intentF m b (s : Int) == p.2)
  · rw [Bool.and_false]
  · rw [Bool.and_true]
    have hi := eq_of_beq hi
    have h8 : isSet 8 (s : Int) = true := by rw [isSet8]; exact dt (by omega)
    obtain ⟨i1, i2, i3⟩ := intentF_spec (m := m) ⟨hl.2.1, by omega⟩ hl.1 hsm h8
    obtain ⟨v, hv, hv2⟩ := isSet_ex g2
    have hpw : 2 ^ m.toNat ≤ 2 ^ 6 := Nat.pow_le_pow_right (by omega) (by omega)
    obtain ⟨x1, x2, x3⟩ := extF_spec hl.1 hsm (s := v) (by omega)
    rw [g4, hv]
    obtain ⟨e, he⟩ : ∃ e : Nat, extF b (v : Int) = e := ⟨(extF b v).toNat, by omega⟩
    rw [he] at x1 x2 x3 ⊢
    rw [band_nat (by omega) (by omega), beq_iff_eq]
    have : s &&& e = s := sub_and.2 fun k hk => by
      have hkl : k < b.length := by
        rcases Nat.lt_or_ge k b.length with q | q
        · exact q
        · rw [Nat.testBit_lt_two_pow (Nat.lt_of_lt_of_le hs (Nat.pow_le_pow_right (by omega) q))] at hk
          cases hk
      refine (x3 k).2 ⟨hkl, fun j hj => ?_⟩
      have := (i3 j).1 (by rw [hi, hv, Int.toNat_natCast]; exact hj)
      exact this.2 k hkl (by rw [Int.toNat_natCast]; exact hk)
    omega
theorem hit_one {α : Type} [BEq α] [LawfulBEq α] {v : α} : ∀ {l : List α}, l.Nodup → v ∈ l → l.countP (fun y => v == y) = 1
  | x :: l, hn, hm => by
    obtain ⟨h1, h2⟩ := List.nodup_cons.1 hn
    rw [List.countP_cons]
    rcases List.mem_cons.1 hm with rfl | hm'
    · have : l.countP (fun y => v == y) = 0 := by
        rw [List.countP_eq_zero]
        intro y hy he
        exact h1 (by rw [eq_of_beq he]; exact hy)
      rw [this]
      simp
    · have hne : (v == x) = false := beq_eq_false_iff_ne.2 fun e => h1 (by rw [← e]; exact hm')
      rw [hit_one h2 hm', hne]
      simp
theorem lecI_nodup : ∀ n : Fin 7, (lecI n.val).Nodup := by decide +kernel
theorem inl_nodup (m : Int) (b : List Int) : (inlF m b).Nodup := by
  unfold inlF concF
  cases hc : isCtx m b with
  | false => exact List.nodup_nil
  | true =>
    have hl := isCtx_len hc
    rw [cond_true, List.map_map]
    have : ((fun x : Int × Int => x.2) ∘ pairI b) = id := rfl
    rw [this, List.map_id]
    exact (lecI_nodup ⟨m.toNat, by omega⟩).filter _
theorem int_in {m : Int} {b : List Int} (h : isCtx m b = true) {s : Int} (hs : isSet 8 s = true) : intentF m b s ∈ inlF m b := by
  obtain ⟨h1, h2⟩ := int_closed h hs
  have : (inlF m b).any (fun y => y == intentF m b s) = true := by rw [inlF_any, h, h1, h2]; rfl
  obtain ⟨y, hy, he⟩ := List.any_eq_true.1 this
  rw [← eq_of_beq he]
  exact hy
theorem sum_swap {α : Type} (f : α → Nat → Bool) (l : List α) : ∀ R : List Nat, (∀ s ∈ R, l.countP (fun p => f p s) = 1) → (l.map fun p => R.countP (f p)).sum = R.length
  | [], _ => by
    have : ∀ l : List α, (l.map fun p => ([] : List Nat).countP (f p)).sum = 0 := by
      intro l
      induction l with
      | nil => rfl
      | cons x l ih => rw [List.map_cons, List.sum_cons, ih]; rfl
    exact this l
  | s :: R, h => by
    have ih := sum_swap f l R fun x hx => h x (by simp [hx])
    have h1 := h s (by simp)
    have : ∀ l : List α, (l.map fun p => (s :: R).countP (f p)).sum = (l.map fun p => R.countP (f p)).sum + l.countP (fun p => f p s) := by
      intro l
      induction l with
      | nil => rfl
      | cons x l ih =>
        rw [List.map_cons, List.sum_cons, List.map_cons, List.sum_cons, ih, List.countP_cons, List.countP_cons]
        cases f x s <;> simp <;> omega
    rw [this, ih, h1, List.length_cons]
theorem sumS_eq {m : Int} {b : List Int} (h : isCtx m b = true) : ∀ (d i : Nat) (q : Int), i + d = (concF m b).length →
    sumS m b d i q = q + ((((concF m b).drop i).map fun p => (List.range' 0 (2 ^ b.length)).countP (fun (s : Nat) => intentF m b (s : Int) == p.2)).sum : Nat)
  | 0, i, q, hi => by rw [sumS, List.drop_of_length_le (by omega)]; simp
  | d + 1, i, q, hi => by
    rw [sumS, sumS_eq h d (i + 1) _ (by omega)]
    have hlt : i < (concF m b).length := by omega
    have hp : (concF m b).getD i (0, 0) ∈ concF m b := mem_getD hlt
    have hin : inC (concF m b) (i : Int) = true := inC_iff.2 (by omega)
    obtain ⟨_, g2, g3, g4, g5⟩ := concF_mem hp
    have e1 : (stabF m b (i : Int)).1 = stNum m b ((concF m b).getD i (0, 0)) := by
      unfold stabF
      rw [hin, cond_true]
      rfl
    have hl := isCtx_len h
    have h2 : 2 ^ b.length ≤ 2 ^ 8 := Nat.pow_le_pow_right (by omega) hl.1
    obtain ⟨e, he, he2⟩ := isSet_ex g3
    rw [Int.toNat_natCast] at he2
    have e2 : stNum m b ((concF m b).getD i (0, 0)) = (((List.range' 0 (2 ^ b.length)).countP (fun (s : Nat) => intentF m b (s : Int) == ((concF m b).getD i (0, 0)).2) : Nat) : Int) := by
      rw [← sumB_count, ← stNum_eq hl.1 ⟨by omega, by rw [he, Int.toNat_natCast]; exact he2⟩]
      refine sumB_congr _ _ _ fun j _ hj => ?_
      rw [stAt_eq (by omega), st_int h hp (by omega)]
    rw [e1, e2]
    have e3 : (concF m b).drop i = (concF m b).getD i (0, 0) :: (concF m b).drop (i + 1) := getD_drop hlt
    rw [e3, List.map_cons, List.sum_cons]
    push_cast
    omega
theorem stab_sum {m : Int} {b : List Int} (h : isCtx m b = true) : sumS m b (concF m b).length 0 0 = ((2 ^ b.length : Nat) : Int) := by
  rw [sumS_eq h _ 0 0 (by omega), List.drop_zero]
  have hl := isCtx_len h
  have h2 : 2 ^ b.length ≤ 2 ^ 8 := Nat.pow_le_pow_right (by omega) hl.1
  have key : ((concF m b).map fun p => (List.range' 0 (2 ^ b.length)).countP (fun (s : Nat) => intentF m b (s : Int) == p.2)).sum = (List.range' 0 (2 ^ b.length)).length := by
    refine sum_swap (fun (p : Int × Int) (s : Nat) => intentF m b (s : Int) == p.2) _ _ fun s hs => ?_
    have hlt : s < 2 ^ b.length := by have := List.mem_range'_1.1 hs; omega
    have h8 : isSet 8 (s : Int) = true := by rw [isSet8]; exact dt (by omega)
    have hc : ∀ l : List (Int × Int), l.countP (fun p => intentF m b (s : Int) == p.2) = (l.map (·.2)).countP (fun y => intentF m b (s : Int) == y) := fun l => by rw [List.countP_map]; rfl
    rw [hc]
    exact hit_one (inl_nodup m b) (int_in h h8)
  rw [key, List.length_range']
  simp
theorem stabF_rng (m : Int) (b : List Int) (a : Int) : 0 ≤ (stabF m b a).1 ∧ (stabF m b a).1 ≤ 256 := by
  unfold stabF
  cases h : inC (concF m b) a with
  | false => exact ⟨Int.le_refl 0, show (0 : Int) ≤ 256 by omega⟩
  | true =>
    obtain ⟨_, _, h3, _, _⟩ := concF_at h
    have hr := isSet_le (isSet_8 h3)
    have h1 := sumB_le (stAt m b (elC (concF m b) a)) ((elC (concF m b) a).1.toNat + 1) 0 0
    rw [cond_true]
    unfold stNum
    dsimp only
    omega
theorem gen_at0 (m : Int) (b : List Int) (a : Int) : (∀ g ∈ genF m b a, isSet m g = true ∧ intentF m b (extF b g) = ((concF m b).getD a.toNat (0, 0)).2) ∧ (genF m b a ≠ [] → isCtx m b = true ∧ 0 ≤ a ∧ a < ((concF m b).length : Int)) := by
  refine ⟨fun g hg => ?_, fun hne => ?_⟩
  · obtain ⟨h1, h2, h3, h4⟩ := gen_cl hg
    exact ⟨h3, h4⟩
  · obtain ⟨g, hg⟩ := List.exists_mem_of_ne_nil _ hne
    obtain ⟨h1, h2, h3, h4⟩ := gen_cl hg
    exact ⟨h2, inC_iff.1 h1⟩
/- spec.ClosureOf -/
def K_specClosureOf : List AV → List Ob → Option (AV × List Ob)
  | [.agg [.int .i64 m, .lst (.int .i64) b], .int .i64 s], [] => gd (isCtx m b = true ∧ isSet m s = true) (.int .i64 (intentF m b (extF b s)), [])
  | _, _ => none
@[reducible] def E_specClosureOf : Env := mkE (tb [(39, K_specIsContext), (46, K_specIsSet), (76, K_specClosure)]) (fun f => false) (fun r => ([], []))
theorem ev_specClosureOf (m : Int) (b : List Int) (s : Int) (hp : isCtx m b = true ∧ isSet m s = true) : evF E_specClosureOf (1) Tryd.f38 [.agg [.int .i64 m, .lst (.int .i64) b], .int .i64 s] [] = some (.int .i64 (intentF m b (extF b s)), []) := by
  have hl := isCtx_len hp.1
  have hs := isSet_le hp.2
  have h : (!isCtx m b) = false := by rw [hp.1]; rfl
  have h2 : (!isSet m s) = false := by rw [hp.2]; rfl
  conv => lhs; whnf
  conv => lhs; arg 1; whnf
  refine bnd_g (by omega) ?_
  conv => lhs; whnf
  repeat ((first | with_reducible apply br_tt | with_reducible apply br_ff | with_reducible apply br_nf | with_reducible apply br_nt | with_reducible refine br_d ?_ (by kernel_rfl) | with_reducible apply br_t h | with_reducible apply br_f h); conv => lhs; whnf)
  conv => lhs; arg 1; whnf
  refine bnd_g (by exact True.intro) ?_
  conv => lhs; whnf
  repeat ((first | with_reducible apply br_tt | with_reducible apply br_ff | with_reducible apply br_nf | with_reducible apply br_nt | with_reducible refine br_d ?_ (by kernel_rfl) | with_reducible apply br_t h | with_reducible apply br_f h | with_reducible apply br_t h2 | with_reducible apply br_f h2); conv => lhs; whnf)
  conv => lhs; arg 1; whnf
  refine bnd_g (by exact ⟨hp.1, by omega⟩) ?_
  conv => lhs; whnf
theorem ok_specClosureOf : FnOk Tryd.prog 38 K_specClosureOf := by
  refine fn_ok (fn := Tryd.f38) (k := Tryd.f38.ntmps) (E := E_specClosureOf) (facts_of (List.forall_mem_cons.2 ⟨ok_specIsContext, List.forall_mem_cons.2 ⟨ok_specIsSet, List.forall_mem_cons.2 ⟨ok_specClosure, List.forall_mem_nil _⟩⟩⟩)) (by kernel_rfl) rfl (by decide +kernel) (by decide +kernel) ?_
  intro avs hin r h
  unfold K_specClosureOf at h
  split at h
  · obtain ⟨hp, rfl⟩ := gd_o h
    exact ⟨_, ev_specClosureOf _ _ _ hp, rfl⟩
  · cases h

@[irreducible] def subB (s t : Int) : Bool := (isSet 8 s && isSet 8 t) && (band s t == s)
theorem subB_no {s t : Int} (h : (band s t == s) = false) : subB s t = false := by
  unfold subB
  rw [h, Bool.and_false]
theorem subB_eq (s t : Int) : subB s t = ((isSet 8 s && isSet 8 t) && (band s t == s)) := by
  unfold subB
  rfl
/- spec.IsSubset -/
def K_specIsSubset : List AV → List Ob → Option (AV × List Ob)
  | [.int .i64 s, .int .i64 t], [] => gd (True) (.bool (subB s t), [])
  | _, _ => none
@[reducible] def E_specIsSubset : Env := mkE (tb [(46, K_specIsSet)]) (fun f => false) (fun r => ([], []))
theorem ev_specIsSubset (s t : Int) (hp : True) : evF E_specIsSubset (1) Tryd.f25 [.int .i64 s, .int .i64 t] [] = some (.bool (subB s t), []) := by
  rw [subB_eq]
  conv => lhs; whnf
  conv => lhs; arg 1; whnf
  refine bnd_g (by exact True.intro) ?_
  conv => lhs; whnf
  refine br_c (fun h => ?_) (fun h => ?_)
  · conv => lhs; whnf
    repeat ((first | with_reducible apply br_tt | with_reducible apply br_ff | with_reducible apply br_nf | with_reducible apply br_nt | with_reducible refine br_d ?_ (by kernel_rfl) | with_reducible apply br_t h | with_reducible apply br_f h); conv => lhs; whnf)
    conv => lhs; arg 1; whnf
    refine bnd_g (by exact True.intro) ?_
    conv => lhs; whnf
    repeat ((first | with_reducible apply br_tt | with_reducible apply br_ff | with_reducible apply br_nf | with_reducible apply br_nt | with_reducible refine br_d ?_ (by kernel_rfl) | with_reducible apply br_t h | with_reducible apply br_f h); conv => lhs; whnf)
    refine br_c (fun h2 => ?_) (fun h2 => ?_)
    · conv => lhs; whnf
      repeat ((first | with_reducible apply br_tt | with_reducible apply br_ff | with_reducible apply br_nf | with_reducible apply br_nt | with_reducible refine br_d ?_ (by kernel_rfl) | with_reducible apply br_t h | with_reducible apply br_f h | with_reducible apply br_t h2 | with_reducible apply br_f h2); conv => lhs; whnf)
      rw [h, h2]
      rfl
    · conv => lhs; whnf
      repeat ((first | with_reducible apply br_tt | with_reducible apply br_ff | with_reducible apply br_nf | with_reducible apply br_nt | with_reducible refine br_d ?_ (by kernel_rfl) | with_reducible apply br_t h | with_reducible apply br_f h | with_reducible apply br_t h2 | with_reducible apply br_f h2); conv => lhs; whnf)
      rw [h, h2]
      rfl
  · conv => lhs; whnf
    repeat ((first | with_reducible apply br_tt | with_reducible apply br_ff | with_reducible apply br_nf | with_reducible apply br_nt | with_reducible refine br_d ?_ (by kernel_rfl) | with_reducible apply br_t h | with_reducible apply br_f h); conv => lhs; whnf)
    rw [h]
    rfl
theorem ok_specIsSubset : FnOk Tryd.prog 25 K_specIsSubset := by
  refine fn_ok (fn := Tryd.f25) (k := Tryd.f25.ntmps) (E := E_specIsSubset) (facts_of (List.forall_mem_cons.2 ⟨ok_specIsSet, List.forall_mem_nil _⟩)) (by kernel_rfl) rfl (by decide +kernel) (by decide +kernel) ?_
  intro avs hin r h
  unfold K_specIsSubset at h
  split at h
  · obtain ⟨hp, rfl⟩ := gd_o h
    exact ⟨_, ev_specIsSubset _ _ hp, rfl⟩
  · cases h

/- laws.big -/
def K_bigL : List AV → List Ob → Option (AV × List Ob)
  | [.lst (.int .u8) b], [] => gd (True) (.bool (decide ((b.length : Int) > 1048576)), [])
  | _, _ => none
@[reducible] def E_bigL : Env := mkE (tb []) (fun f => false) (fun r => ([], []))
theorem ev_bigL (b : List Int) (hp : True) : evF E_bigL (1) Tryd.f5 [.lst (.int .u8) b] [] = some (.bool (decide ((b.length : Int) > 1048576)), []) := by
  conv => lhs; whnf
theorem ok_bigL : FnOk Tryd.prog 5 K_bigL := by
  refine fn_ok (fn := Tryd.f5) (k := Tryd.f5.ntmps) (E := E_bigL) (facts_of (List.forall_mem_nil _)) (by kernel_rfl) rfl (by decide +kernel) (by decide +kernel) ?_
  intro avs hin r h
  unfold K_bigL at h
  split at h
  · obtain ⟨hp, rfl⟩ := gd_o h
    exact ⟨_, ev_bigL _ hp, rfl⟩
  · cases h

/- laws.sameInts -/
def K_sameInts : List AV → List Ob → Option (AV × List Ob)
  | [.lst (.int .i64) a, .lst (.int .i64) b], [] => gd (a.length < 4611686018427387904 ∧ b.length < 4611686018427387904) (.bool (decide (a = b)), [])
  | _, _ => none
@[reducible] def E_sameInts : Env := mkE (tb []) (fun f => false) (fun r => bif r == 4 then ([0, 1, 5], [4]) else ([], []))
theorem lp_sameInts (a b : List Int) (hl : a.length = b.length) (ha : a.length < 4611686018427387904) (k : AX → S → Option (AV × List Ob)) (d : Nat) : ∀ (n i : Nat) (x : Int), a.length - i = d → i ≤ a.length → x = i → d < n →
    lpAt E_sameInts (lp E_sameInts 0 n) 0 (loopAt Tryd.f19 0) (mkS [0, 1, 5] [.lst (.int .i64) a, .lst (.int .i64) b, .int .i64 x] []) k =
      if a.drop i = b.drop i then k (.exit 0) (mkS [4] [.any] []) else k .ret (mkS [4] [.bool false] []) := by
  induction d with
  | zero =>
    intro n i x hd hi hx hn
    subst hx
    rw [lpAt_def]
    conv => lhs; whnf
    refine br_f (df (by omega)) ?_
    conv => lhs; whnf
    rw [if_pos (by rw [List.drop_of_length_le (by omega), List.drop_of_length_le (by omega)])]
  | succ d ih =>
    intro n i x hd hi hx hn
    obtain ⟨n, rfl⟩ : ∃ m, n = m + 1 := ⟨n - 1, by omega⟩
    subst hx
    rw [lpAt_def]
    conv => lhs; whnf
    refine br_t (dt (by omega)) ?_
    conv => lhs; whnf
    refine br_t (dt2 (by omega) (by omega)) ?_
    conv => lhs; whnf
    refine br_t (dt2 (by omega) (by omega)) ?_
    conv => lhs; whnf
    rw [getD_drop (l := a) (i := i) (d := 0) (by omega), getD_drop (l := b) (i := i) (d := 0) (by omega)]
    refine br_t (by kernel_rfl) ?_
    conv => lhs; whnf
    refine br_c (fun h => ?_) (fun h => ?_)
    · conv => lhs; whnf
      rw [if_neg]
      intro he
      have := (List.cons.inj he).1
      simp at h
      exact h this
    · conv => lhs; whnf
      rw [ih n (i + 1) _ (by omega) (by omega) (by rw [wrap64 (by omega) (by omega)]; simp) (by omega)]
      simp at h
      rw [List.getD_eq_getElem?_getD, List.getD_eq_getElem?_getD, h]
      simp
theorem ev_sameInts (a b : List Int) (hp : a.length < 4611686018427387904 ∧ b.length < 4611686018427387904) : evF E_sameInts (a.length + 2) Tryd.f19 [.lst (.int .i64) a, .lst (.int .i64) b] [] = some (.bool (decide (a = b)), []) := by
  conv => lhs; whnf
  refine br_c (fun h => ?_) (fun h => ?_)
  · conv => lhs; whnf
    have : a ≠ b := by
      rintro rfl
      simp at h
    simp [this]
  · conv => lhs; whnf
    have hl : a.length = b.length := by simp at h; omega
    refine (lp_sameInts a b hl hp.1 _ _ _ 0 0 rfl (by omega) rfl (by omega)).trans ?_
    simp only [List.drop_zero]
    split
    · rename_i he
      conv => lhs; whnf
      simp [he]
    · rename_i he
      conv => lhs; whnf
      simp [he]
theorem ok_sameInts : FnOk Tryd.prog 19 K_sameInts := by
  refine fn_ok (fn := Tryd.f19) (k := Tryd.f19.ntmps) (E := E_sameInts) (facts_of (List.forall_mem_nil _)) (by kernel_rfl) rfl (by decide +kernel) (by decide +kernel) ?_
  intro avs hin r h
  unfold K_sameInts at h
  split at h
  · obtain ⟨hp, rfl⟩ := gd_o h
    exact ⟨_, ev_sameInts _ _ hp, rfl⟩
  · cases h

end Go.Sym
