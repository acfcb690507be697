/- Functions of the program, each told as a plain equation. -/
import Derived.Test.YtdkcdkjdljflbaaGreatDoorSymU1
namespace Go.Sym
open Go.Proofs
set_option linter.unusedVariables false
set_option linter.unusedSimpArgs false
set_option maxRecDepth 100000
set_option maxHeartbeats 4000000

abbrev Cu := Int × Int
def curH (h : Int) : Int := IntKind.i64.wrap (IntKind.i64.wrap (h * 6364136223846793005) + 1442695040888963407)
def curX (h : Int) : Int := IntKind.i64.wrap ↑(BitVec.ofInt IntKind.i64.bits (IntKind.i64.wrap ↑(BitVec.ofInt IntKind.i64.bits ((curH h).fdiv (2 ^ min (Int.toNat 33) IntKind.i64.bits)) ^^^ BitVec.ofInt IntKind.i64.bits ((curH h).fdiv (2 ^ min (Int.toNat 45) IntKind.i64.bits))).toNat) &&& BitVec.ofInt IntKind.i64.bits 255).toNat
def curV (b : List Int) (c : Cu) : Int := if c.1 < b.length then band (IntKind.i64.wrap (curX c.2 + IntKind.i64.wrap (b.getD c.1.toNat 0))) 255 else curX c.2
def nx (b : List Int) (c : Cu) : Cu := (if c.1 < b.length then c.1 + 1 else c.1, curH c.2)
abbrev CuOk (b : List Int) (i : Int) : Prop := 0 ≤ i ∧ i ≤ b.length ∧ b.length ≤ 1048576
theorem nx_ok {b : List Int} {c : Cu} (h : CuOk b c.1) : CuOk b (nx b c).1 := by
  unfold nx
  dsimp only
  split
  · exact ⟨by omega, by omega, h.2.2⟩
  · exact h
theorem band_byte (x : Int) : 0 ≤ band x 255 ∧ band x 255 ≤ 255 := by
  unfold band
  have h : (BitVec.ofInt IntKind.i64.bits x &&& BitVec.ofInt IntKind.i64.bits 255).toNat ≤ 255 := by
    rw [BitVec.toNat_and]
    exact Nat.and_le_right
  rw [wrap64 (by omega) (by omega)]
  omega
theorem curV_rng (b : List Int) (c : Cu) : 0 ≤ curV b c ∧ curV b c ≤ 255 := by
  unfold curV
  split
  · exact band_byte _
  · exact band_byte _
def be (b : List Int) (c : Cu) (n : Int) : Int := (curV b c).tmod n
theorem be_rng (b : List Int) (c : Cu) {n : Int} (h : 0 < n) : 0 ≤ be b c n ∧ be b c n < n := by
  have := curV_rng b c
  unfold be
  exact ⟨Int.tmod_nonneg _ this.1, Int.tmod_lt_of_pos _ h⟩
def shlI (n : Int) : Int := IntKind.i64.wrap (1 * 2 ^ min n.toNat IntKind.i64.bits)
theorem shlI_nat {n : Nat} (h : n ≤ 8) : shlI (n : Int) = ((2 ^ n : Nat) : Int) := shl1 (by omega)
theorem shlI_rng {n : Int} (h0 : 0 ≤ n) (h8 : n ≤ 8) : 1 ≤ shlI n ∧ shlI n ≤ 256 := by
  obtain ⟨k, rfl⟩ : ∃ k : Nat, n = k := ⟨n.toNat, by omega⟩
  have h8 : 2 ^ k ≤ 2 ^ 8 := Nat.pow_le_pow_right (by omega) (by omega)
  have hp := Nat.two_pow_pos k
  rw [shlI_nat (by omega)]
  omega
def pick4 (x y z w : Int) (b : List Int) (c : Cu) : Int := [x, y, z, w].getD (be b c 4).toNat 0
/-- A set, mostly, and the cursor behind it. -/
def bent2 (b : List Int) (c : Cu) : Int := bif be b c 8 == 0 then pick4 (-1) 256 1000 (-9223372036854775808) b (nx b c) else be b (nx b c) 256
def mkRows (b : List Int) (m : Int) : Nat → Cu → List Int × Cu
  | 0, c => ([], c)
  | d + 1, c => bif be b c 2 == 0 then
      (be b (nx b c) (shlI m) :: (mkRows b m d (nx b (nx b c))).1, (mkRows b m d (nx b (nx b c))).2)
    else (bor (be b (nx b c) (shlI m)) (be b (nx b (nx b c)) (shlI m)) :: (mkRows b m d (nx b (nx b (nx b c)))).1, (mkRows b m d (nx b (nx b (nx b c)))).2)
theorem mkRows_ok {b : List Int} {m : Int} : ∀ (d : Nat) (c : Cu), CuOk b c.1 → (mkRows b m d c).1.length = d ∧ CuOk b (mkRows b m d c).2.1
  | 0, c, h => ⟨rfl, h⟩
  | d + 1, c, h => by
    have h1 := mkRows_ok (m := m) d (nx b (nx b c)) (nx_ok (nx_ok h))
    have h2 := mkRows_ok (m := m) d (nx b (nx b (nx b c))) (nx_ok (nx_ok (nx_ok h)))
    unfold mkRows
    cases be b c 2 == 0
    · exact ⟨by rw [cond_false, List.length_cons, h2.1], h2.2⟩
    · exact ⟨by rw [cond_true, List.length_cons, h1.1], h1.2⟩
def make3 (b : List Int) (m o : Int) (c : Cu) : List Int × Cu := mkRows b m (be b c (o + 1)).toNat (nx b c)
theorem make3_ok {b : List Int} {m o : Int} {c : Cu} (h : CuOk b c.1) (ho : 0 ≤ o) : ((make3 b m o c).1.length : Int) ≤ o ∧ CuOk b (make3 b m o c).2.1 := by
  have h1 := mkRows_ok (m := m) (be b c (o + 1)).toNat (nx b c) (nx_ok h)
  have h2 := be_rng b c (n := o + 1) (by omega)
  unfold make3
  exact ⟨by omega, h1.2⟩
def draw3m (b : List Int) (c : Cu) : Int := ([0, 1, 2, 3, 3, 4, 4, 5, 5] : List Int).getD (be b c 9).toNat 0
theorem draw3m_rng (b : List Int) (c : Cu) : 0 ≤ draw3m b c ∧ draw3m b c ≤ 5 := by
  have h := be_rng b c (n := 9) (by omega)
  unfold draw3m
  obtain ⟨k, hk⟩ : ∃ k : Nat, be b c 9 = k := ⟨(be b c 9).toNat, by omega⟩
  rw [hk] at h ⊢
  have : ∀ k : Fin 9, 0 ≤ ([0, 1, 2, 3, 3, 4, 4, 5, 5] : List Int).getD ((k.val : Int)).toNat 0 ∧ ([0, 1, 2, 3, 3, 4, 4, 5, 5] : List Int).getD ((k.val : Int)).toNat 0 ≤ 5 := by decide
  exact this ⟨k, by omega⟩
/-- A context: attributes, rows, and the cursor behind it. -/
def draw3 (b : List Int) (c : Cu) : Int × List Int × Cu := (draw3m b c, make3 b (draw3m b c) 6 (nx b c))
theorem draw3_ok {b : List Int} {c : Cu} (h : CuOk b c.1) : (0 ≤ (draw3 b c).1 ∧ (draw3 b c).1 ≤ 5) ∧ (draw3 b c).2.1.length ≤ 6 ∧ CuOk b (draw3 b c).2.2.1 := by
  have h1 := make3_ok (b := b) (m := draw3m b c) (o := 6) (nx_ok h) (by omega)
  exact ⟨draw3m_rng b c, by have := h1.1; unfold draw3; dsimp only; omega, h1.2⟩
def pad9 (a : List Int) : List Int := a ++ List.replicate (9 - a.length) 0
def bent3' (b : List Int) (x : Int × List Int × Cu) : Int × List Int × Cu :=
  bif be b x.2.2 14 == 0 then (pick4 (-1) 0 2 7 b (nx b x.2.2), x.2.1, nx b (nx b x.2.2))
  else bif be b x.2.2 14 == 1 then (x.1, x.2.1 ++ [bent2 b (nx b x.2.2)], nx b (nx b (nx b x.2.2)))
  else bif be b x.2.2 14 == 2 then (x.1, pad9 x.2.1, nx b x.2.2) else (x.1, x.2.1, nx b x.2.2)
def bent3 (b : List Int) (c : Cu) : Int × List Int × Cu := bent3' b (draw3 b c)
theorem bent3_ok {b : List Int} {c : Cu} (h : CuOk b c.1) : (bent3 b c).2.1.length ≤ 9 ∧ CuOk b (bent3 b c).2.2.1 := by
  obtain ⟨h1, h2, h3⟩ := draw3_ok h
  unfold bent3
  generalize draw3 b c = x at h1 h2 h3
  unfold bent3'
  have n1 := nx_ok h3
  have n2 := nx_ok n1
  have n3 := nx_ok n2
  cases be b x.2.2 14 == 0
  · cases be b x.2.2 14 == 1
    · cases be b x.2.2 14 == 2
      · exact ⟨by simp only [cond_false]; omega, n1⟩
      · refine ⟨?_, n1⟩
        simp only [cond_false, cond_true, pad9, List.length_append, List.length_replicate]
        omega
    · refine ⟨?_, n3⟩
      simp only [cond_false, cond_true, List.length_append, List.length_singleton]
      omega
  · exact ⟨by simp only [cond_true]; omega, n2⟩
def newL (b : List Int) : Nat → Nat → Int → Int
  | 0, _, h => h
  | d + 1, i, h => newL b d (i + 1) (band (IntKind.i64.wrap (IntKind.i64.wrap (IntKind.i64.wrap (h * 131) + IntKind.i64.wrap (b.getD i 0)) + 7)) 1073741823)
def newC (b : List Int) : Cu := (0, newL b (min b.length 4000) 0 (IntKind.i64.wrap (26583 + b.length)))
theorem newC_ok {b : List Int} (h : b.length ≤ 1048576) : CuOk b (newC b).1 := ⟨Int.le_refl 0, Int.natCast_nonneg _, h⟩
/-- A context with a set of its attributes, mostly. -/
def att4 (b : List Int) (c : Cu) : Int × List Int × Int :=
  bif be b (nx b (draw3 b c).2.2) 16 == 0 then ((bent3 b (nx b (nx b (draw3 b c).2.2))).1, (bent3 b (nx b (nx b (draw3 b c).2.2))).2.1, be b (draw3 b c).2.2 (shlI (draw3 b c).1))
  else bif be b (nx b (draw3 b c).2.2) 16 == 1 then ((draw3 b c).1, (draw3 b c).2.1, bent2 b (nx b (nx b (draw3 b c).2.2)))
  else ((draw3 b c).1, (draw3 b c).2.1, be b (draw3 b c).2.2 (shlI (draw3 b c).1))
theorem att4_len {b : List Int} {c : Cu} (h : CuOk b c.1) : (att4 b c).2.1.length ≤ 9 := by
  obtain ⟨h1, h2, h3⟩ := draw3_ok h
  have h4 := bent3_ok (b := b) (c := nx b (nx b (draw3 b c).2.2)) (nx_ok (nx_ok h3))
  unfold att4
  cases be b (nx b (draw3 b c).2.2) 16 == 0
  · cases be b (nx b (draw3 b c).2.2) 16 == 1
    · simp only [cond_false]; omega
    · simp only [cond_false, cond_true]; omega
  · simp only [cond_true]; exact h4.1
/- spec.l1New -/
def K_l1New : List AV → List Ob → Option (AV × List Ob)
  | [.lst (.int .u8) b], [] => gd (b.length ≤ 1048576) (.ptr 0 0, [.box 109 [.lst (.int .u8) b, .int .i64 (newC b).1, .int .i64 (newC b).2]])
  | _, _ => none
@[reducible] def E_l1New : Env := mkE (tb []) (fun f => false) (fun r => bif r == 3 then ([0, 3, 4], [0, 3]) else ([], []))
theorem lp_l1New (b : List Int) (hb : b.length ≤ 1048576) (k : AX → S → Option (AV × List Ob)) (d : Nat) : ∀ (n i : Nat) (x h : Int), min b.length 4000 - i = d → i ≤ min b.length 4000 → x = i → d < n →
    lpAt E_l1New (lp E_l1New 0 n) 0 (loopAt Tryz.f86 0) (mkS [0, 3, 4] [.lst (.int .u8) b, .int .i64 h, .int .i64 x] []) k =
      k (.exit 0) (mkS [0, 3] [.lst (.int .u8) b, .int .i64 (newL b d i h)] []) := by
  induction d with
  | zero =>
    intro n i x h hd hi hx hn
    subst hx
    rw [lpAt_def]
    conv => lhs; whnf
    refine br_c (fun g => ?_) (fun g => ?_)
    · have g' := ofd g
      conv => lhs; whnf
      repeat ((first | with_reducible apply br_tt | with_reducible apply br_ff | with_reducible apply br_nf | with_reducible apply br_nt | with_reducible refine br_d ?_ (by kernel_rfl) | with_reducible apply br_t g | with_reducible apply br_f g); conv => lhs; whnf)
      refine br_f (df (by omega)) ?_
      conv => lhs; whnf
      all_goals rfl
    · conv => lhs; whnf
      repeat ((first | with_reducible apply br_tt | with_reducible apply br_ff | with_reducible apply br_nf | with_reducible apply br_nt | with_reducible refine br_d ?_ (by kernel_rfl) | with_reducible apply br_t g | with_reducible apply br_f g); conv => lhs; whnf)
      all_goals rfl
  | succ d ih =>
    intro n i x h hd hi hx hn
    obtain ⟨n, rfl⟩ : ∃ m, n = m + 1 := ⟨n - 1, by omega⟩
    subst hx
    rw [lpAt_def]
    have g : decide ((i : Int) < (b.length : Int)) = true := dt (by omega)
    conv => lhs; whnf
    repeat ((first | with_reducible apply br_tt | with_reducible apply br_ff | with_reducible apply br_nf | with_reducible apply br_nt | with_reducible refine br_d ?_ (by kernel_rfl) | with_reducible apply br_t g | with_reducible apply br_f g); conv => lhs; whnf)
    refine br_t (dt (by omega)) ?_
    conv => lhs; whnf
    refine br_t (dt2 (by omega) (by omega)) ?_
    conv => lhs; whnf
    refine Eq.trans (b := lpAt E_l1New (lp E_l1New 0 n) 0 (loopAt Tryz.f86 0) (mkS [0, 3, 4] [.lst (.int .u8) b, .int .i64 (band (IntKind.i64.wrap (IntKind.i64.wrap (IntKind.i64.wrap (h * 131) + IntKind.i64.wrap (b.getD i 0)) + 7)) 1073741823), .int .i64 (IntKind.i64.wrap ((i : Int) + 1))] []) k) rfl ?_
    exact ih n (i + 1) (IntKind.i64.wrap ((i : Int) + 1)) _ (by omega) (by omega) (by rw [wrap64 (n := (i : Int) + 1) (by omega) (by omega)]; simp) (by omega)
theorem ev_l1New (b : List Int) (hp : b.length ≤ 1048576) : evF E_l1New (4010) Tryz.f86 [.lst (.int .u8) b] [] = some (.ptr 0 0, [.box 109 [.lst (.int .u8) b, .int .i64 (newC b).1, .int .i64 (newC b).2]]) := by
  conv => lhs; whnf
  refine (lp_l1New b hp _ (min b.length 4000) _ 0 0 _ rfl (Nat.zero_le _) rfl (by change _ < 4009; omega)).trans ?_
  conv => lhs; whnf
  rfl
theorem ok_l1New : FnOk Tryz.prog 86 K_l1New := by
  refine fn_ok (fn := Tryz.f86) (k := Tryz.f86.ntmps) (E := E_l1New) (facts_of (List.forall_mem_nil _)) (by kernel_rfl) rfl (by decide +kernel) (by decide +kernel) ?_
  intro avs hin r h
  unfold K_l1New at h
  split at h
  · obtain ⟨hp, rfl⟩ := gd_o h
    exact ⟨_, ev_l1New _ hp, rfl⟩
  · cases h

/- spec.l1Byte -/
def K_l1Byte : List AV → List Ob → Option (AV × List Ob)
  | [.ptr 0 0], [.box 109 [.lst (.int .u8) b, .int .i64 i, .int .i64 h]] => gd (CuOk b i) (.int .i64 (curV b (i, h)), [.box 109 [.lst (.int .u8) b, .int .i64 (nx b (i, h)).1, .int .i64 (nx b (i, h)).2]])
  | _, _ => none
@[reducible] def E_l1Byte : Env := mkE (tb []) (fun f => false) (fun r => ([], []))
theorem ev_l1Byte (b : List Int) (i h : Int) (hp : CuOk b i) : evF E_l1Byte (1) Tryz.f144 [.ptr 0 0] [.box 109 [.lst (.int .u8) b, .int .i64 i, .int .i64 h]] = some (.int .i64 (curV b (i, h)), [.box 109 [.lst (.int .u8) b, .int .i64 (nx b (i, h)).1, .int .i64 (nx b (i, h)).2]]) := by
  have h1 := hp.1
  have h2 := hp.2.1
  have h3 := hp.2.2
  conv => lhs; whnf
  refine br_f (df (by omega)) ?_
  conv => lhs; whnf
  refine br_f (df (by omega)) ?_
  conv => lhs; whnf
  refine br_t (by kernel_rfl) ?_
  conv => lhs; whnf
  refine br_t (by kernel_rfl) ?_
  conv => lhs; whnf
  refine br_c (fun hc => ?_) (fun hc => ?_)
  · have h' := ofd hc
    conv => lhs; whnf
    refine br_t (dt2 (by omega) (by omega)) ?_
    conv => lhs; whnf
    refine br_t (by kernel_rfl) ?_
    conv => lhs; whnf
    have e1 : nx b (i, h) = (i + 1, curH h) := by unfold nx; rw [if_pos h']
    have e2 : curV b (i, h) = band (IntKind.i64.wrap (curX h + IntKind.i64.wrap (b.getD i.toNat 0))) 255 := if_pos h'
    rw [e1, e2, wrap64 (n := i + 1) (by omega) (by omega)]
    rfl
  · have h' := ofn hc
    conv => lhs; whnf
    have e1 : nx b (i, h) = (i, curH h) := by unfold nx; rw [if_neg h']
    have e2 : curV b (i, h) = curX h := if_neg h'
    rw [e1, e2]
    rfl
theorem ok_l1Byte : FnOk Tryz.prog 144 K_l1Byte := by
  refine fn_ok (fn := Tryz.f144) (k := Tryz.f144.ntmps) (E := E_l1Byte) (facts_of (List.forall_mem_nil _)) (by kernel_rfl) rfl (by decide +kernel) (by decide +kernel) ?_
  intro avs hin r h
  unfold K_l1Byte at h
  split at h
  · obtain ⟨hp, rfl⟩ := gd_o h
    exact ⟨_, ev_l1Byte _ _ _ hp, rfl⟩
  · cases h

/- spec.l1Below -/
def K_l1Below : List AV → List Ob → Option (AV × List Ob)
  | [.ptr 0 0, .int .i64 n], [.box 109 [.lst (.int .u8) b, .int .i64 i, .int .i64 h]] => gd (CuOk b i ∧ 1 ≤ n ∧ n ≤ 256) (.int .i64 (be b (i, h) n), [.box 109 [.lst (.int .u8) b, .int .i64 (nx b (i, h)).1, .int .i64 (nx b (i, h)).2]])
  | _, _ => none
@[reducible] def E_l1Below : Env := mkE (tb [(144, K_l1Byte)]) (fun f => [144].contains f) (fun r => ([], []))
theorem ev_l1Below (b : List Int) (i h : Int) (n : Int) (hp : CuOk b i ∧ 1 ≤ n ∧ n ≤ 256) : evF E_l1Below (1) Tryz.f96 [.ptr 0 0, .int .i64 n] [.box 109 [.lst (.int .u8) b, .int .i64 i, .int .i64 h]] = some (.int .i64 (be b (i, h) n), [.box 109 [.lst (.int .u8) b, .int .i64 (nx b (i, h)).1, .int .i64 (nx b (i, h)).2]]) := by
  have h1 := hp.2.1
  have h2 := hp.2.2
  have hr := be_rng b (i, h) (n := n) (by omega)
  conv => lhs; whnf
  refine br_f (df (by omega)) ?_
  conv => lhs; whnf
  refine br_t (dt (by omega)) ?_
  conv => lhs; whnf
  conv => lhs; arg 1; whnf
  refine bnd_g (by exact hp.1) ?_
  conv => lhs; whnf
  refine br_f (df (by omega)) ?_
  conv => lhs; whnf
  rfl
theorem ok_l1Below : FnOk Tryz.prog 96 K_l1Below := by
  refine fn_ok (fn := Tryz.f96) (k := Tryz.f96.ntmps) (E := E_l1Below) (facts_of (List.forall_mem_cons.2 ⟨ok_l1Byte, List.forall_mem_nil _⟩)) (by kernel_rfl) rfl (by decide +kernel) (by decide +kernel) ?_
  intro avs hin r h
  unfold K_l1Below at h
  split at h
  · obtain ⟨hp, rfl⟩ := gd_o h
    exact ⟨_, ev_l1Below _ _ _ _ hp, rfl⟩
  · cases h

/- spec.l1PickInt -/
def K_l1PickInt : List AV → List Ob → Option (AV × List Ob)
  | [.ptr 0 0, .own 1], [.box 109 [.lst (.int .u8) b, .int .i64 i, .int .i64 h], .row 3 (.int .i64) l] => gd (CuOk b i ∧ 1 ≤ l.length ∧ l.length ≤ 256) (.int .i64 (l.getD (be b (i, h) (l.length : Int)).toNat 0), [.box 109 [.lst (.int .u8) b, .int .i64 (nx b (i, h)).1, .int .i64 (nx b (i, h)).2], .row 3 (.int .i64) l])
  | _, _ => none
@[reducible] def E_l1PickInt : Env := mkE (tb [(96, K_l1Below)]) (fun f => [96].contains f) (fun r => ([], []))
theorem ev_l1PickInt (b : List Int) (i h : Int) (l : List Int) (hp : CuOk b i ∧ 1 ≤ l.length ∧ l.length ≤ 256) : evF E_l1PickInt (1) Tryz.f133 [.ptr 0 0, .own 1] [.box 109 [.lst (.int .u8) b, .int .i64 i, .int .i64 h], .row 3 (.int .i64) l] = some (.int .i64 (l.getD (be b (i, h) (l.length : Int)).toNat 0), [.box 109 [.lst (.int .u8) b, .int .i64 (nx b (i, h)).1, .int .i64 (nx b (i, h)).2], .row 3 (.int .i64) l]) := by
  have hr := be_rng b (i, h) (n := (l.length : Int)) (by omega)
  conv => lhs; whnf
  conv => lhs; arg 1; whnf
  refine bnd_g (by exact ⟨hp.1, by omega, by omega⟩) ?_
  conv => lhs; whnf
  refine br_t (dt2 (by omega) (by omega)) ?_
  conv => lhs; whnf
  refine br_t (dt (by omega)) ?_
  conv => lhs; whnf
  rfl
theorem ok_l1PickInt : FnOk Tryz.prog 133 K_l1PickInt := by
  refine fn_ok (fn := Tryz.f133) (k := Tryz.f133.ntmps) (E := E_l1PickInt) (facts_of (List.forall_mem_cons.2 ⟨ok_l1Below, List.forall_mem_nil _⟩)) (by kernel_rfl) rfl (by decide +kernel) (by decide +kernel) ?_
  intro avs hin r h
  unfold K_l1PickInt at h
  split at h
  · obtain ⟨hp, rfl⟩ := gd_o h
    exact ⟨_, ev_l1PickInt _ _ _ _ hp, rfl⟩
  · cases h

/- spec.l1Once -/
def K_l1Once : List AV → List Ob → Option (AV × List Ob)
  | [.ptr 0 0, .int .i64 n], [.box 109 [.lst (.int .u8) b, .int .i64 i, .int .i64 h]] => gd (CuOk b i ∧ 1 ≤ n ∧ n ≤ 256) (.bool (be b (i, h) n == 0), [.box 109 [.lst (.int .u8) b, .int .i64 (nx b (i, h)).1, .int .i64 (nx b (i, h)).2]])
  | _, _ => none
@[reducible] def E_l1Once : Env := mkE (tb [(96, K_l1Below)]) (fun f => [96].contains f) (fun r => ([], []))
theorem ev_l1Once (b : List Int) (i h : Int) (n : Int) (hp : CuOk b i ∧ 1 ≤ n ∧ n ≤ 256) : evF E_l1Once (1) Tryz.f115 [.ptr 0 0, .int .i64 n] [.box 109 [.lst (.int .u8) b, .int .i64 i, .int .i64 h]] = some (.bool (be b (i, h) n == 0), [.box 109 [.lst (.int .u8) b, .int .i64 (nx b (i, h)).1, .int .i64 (nx b (i, h)).2]]) := by
  conv => lhs; whnf
  conv => lhs; arg 1; whnf
  refine bnd_g (by exact hp) ?_
  conv => lhs; whnf
theorem ok_l1Once : FnOk Tryz.prog 115 K_l1Once := by
  refine fn_ok (fn := Tryz.f115) (k := Tryz.f115.ntmps) (E := E_l1Once) (facts_of (List.forall_mem_cons.2 ⟨ok_l1Below, List.forall_mem_nil _⟩)) (by kernel_rfl) rfl (by decide +kernel) (by decide +kernel) ?_
  intro avs hin r h
  unfold K_l1Once at h
  split at h
  · obtain ⟨hp, rfl⟩ := gd_o h
    exact ⟨_, ev_l1Once _ _ _ _ hp, rfl⟩
  · cases h

/- spec.l3Make -/
def K_l3Make : List AV → List Ob → Option (AV × List Ob)
  | [.ptr 0 0, .int .i64 m, .int .i64 o], [.box 109 [.lst (.int .u8) b, .int .i64 i, .int .i64 h]] => gd (CuOk b i ∧ (0 ≤ m ∧ m ≤ 8) ∧ 0 ≤ o ∧ o ≤ 90) (.agg [.int .i64 m, .own 1], [.box 109 [.lst (.int .u8) b, .int .i64 (make3 b m o (i, h)).2.1, .int .i64 (make3 b m o (i, h)).2.2], .row 3 (.int .i64) (make3 b m o (i, h)).1])
  | _, _ => none
@[reducible] def E_l3Make : Env := mkE (tb [(115, K_l1Once), (96, K_l1Below)]) (fun f => [115, 96].contains f) (fun r => bif r == 4 then ([0, 1, 6, 7, 8, 9], [6, 7]) else ([], []))
theorem lp_l3Make (b : List Int) (m : Int) (hm : 0 ≤ m ∧ m ≤ 8) (N : Int) (hN : 0 ≤ N ∧ N ≤ 100) (k : AX → S → Option (AV × List Ob)) (d : Nat) : ∀ (n i : Nat) (x i0 h0 : Int) (zs : List Int), N.toNat - i = d → i ≤ N.toNat → x = i → d < n → CuOk b i0 → zs.length ≤ i →
    lpAt E_l3Make (lp E_l3Make 1 n) 1 (loopAt Tryz.f146 0) (mkS [0, 1, 6, 7, 8, 9] [.ptr 0 0, .int .i64 m, .ptr 1 0, .ptr 3 0, .int .i64 N, .int .i64 x] [some (.box 109 [.lst (.int .u8) b, .int .i64 i0, .int .i64 h0]), some (.box 26 [.int .i64 0, .own 2]), some (.row 3 (.int .i64) []), some (.box 26 [.int .i64 m, .own 4]), some (.row 3 (.int .i64) zs)]) k =
      k (.exit 0) (mkS [6, 7] [.ptr 1 0, .ptr 3 0] [some (.box 109 [.lst (.int .u8) b, .int .i64 (mkRows b m d (i0, h0)).2.1, .int .i64 (mkRows b m d (i0, h0)).2.2]), some (.box 26 [.int .i64 0, .own 2]), some (.row 3 (.int .i64) []), some (.box 26 [.int .i64 m, .own 4]), some (.row 3 (.int .i64) (zs ++ (mkRows b m d (i0, h0)).1))]) := by
  have hs := shlI_rng hm.1 hm.2
  have hu := wrapu hm.1 hm.2
  induction d with
  | zero =>
    intro n i x i0 h0 zs hd hi hx hn hc hz
    subst hx
    rw [lpAt_def]
    conv => lhs; whnf
    refine br_f (df (by omega)) ?_
    conv => lhs; whnf
    rw [mkRows, List.append_nil]
  | succ d ih =>
    intro n i x i0 h0 zs hd hi hx hn hc hz
    obtain ⟨n, rfl⟩ : ∃ m, n = m + 1 := ⟨n - 1, by omega⟩
    subst hx
    have n1 := nx_ok (c := (i0, h0)) hc
    have n2 := nx_ok n1
    have n3 := nx_ok n2
    rw [lpAt_def]
    conv => lhs; whnf
    refine br_t (dt (by omega)) ?_
    conv => lhs; whnf
    conv => lhs; arg 1; whnf
    refine bnd_g (by exact ⟨hc, by omega, by omega⟩) ?_
    conv => lhs; whnf
    refine br_c (fun g => ?_) (fun g => ?_)
    · conv => lhs; whnf
      rw [hu]
      refine br_f (df (by omega)) ?_
      conv => lhs; whnf
      conv => lhs; arg 1; whnf
      refine bnd_g (by exact ⟨n1, hs⟩) ?_
      conv => lhs; whnf
      refine br_t (dt (by simp [room]; omega)) ?_
      conv => lhs; whnf
      refine br_t (by kernel_rfl) ?_
      conv => lhs; whnf
      refine (ih n (i + 1) (IntKind.i64.wrap ((i : Int) + 1)) _ _ _ (by omega) (by omega) (by rw [wrap64 (n := (i : Int) + 1) (by omega) (by omega)]; simp) (by omega) n2 (by simp; omega)).trans ?_
      have e : mkRows b m (d + 1) (i0, h0) = (be b (nx b (i0, h0)) (shlI m) :: (mkRows b m d (nx b (nx b (i0, h0)))).1, (mkRows b m d (nx b (nx b (i0, h0)))).2) := by rw [mkRows, g]; rfl
      rw [e, List.append_assoc]
      rfl
    · conv => lhs; whnf
      rw [hu]
      refine br_f (df (by omega)) ?_
      conv => lhs; whnf
      conv => lhs; arg 1; whnf
      refine bnd_g (by exact ⟨n1, hs⟩) ?_
      conv => lhs; whnf
      rw [hu]
      refine br_f (df (by omega)) ?_
      conv => lhs; whnf
      conv => lhs; arg 1; whnf
      refine bnd_g (by exact ⟨n2, hs⟩) ?_
      conv => lhs; whnf
      refine br_t (dt (by simp [room]; omega)) ?_
      conv => lhs; whnf
      refine br_t (by kernel_rfl) ?_
      conv => lhs; whnf
      refine (ih n (i + 1) (IntKind.i64.wrap ((i : Int) + 1)) _ _ _ (by omega) (by omega) (by rw [wrap64 (n := (i : Int) + 1) (by omega) (by omega)]; simp) (by omega) n3 (by simp; omega)).trans ?_
      have e : mkRows b m (d + 1) (i0, h0) = (bor (be b (nx b (i0, h0)) (shlI m)) (be b (nx b (nx b (i0, h0))) (shlI m)) :: (mkRows b m d (nx b (nx b (nx b (i0, h0))))).1, (mkRows b m d (nx b (nx b (nx b (i0, h0))))).2) := by rw [mkRows, g]; rfl
      rw [e, List.append_assoc]
      rfl
theorem ev_l3Make (b : List Int) (i h m o : Int) (hp : CuOk b i ∧ (0 ≤ m ∧ m ≤ 8) ∧ 0 ≤ o ∧ o ≤ 90) : evF E_l3Make (100) Tryz.f146 [.ptr 0 0, .int .i64 m, .int .i64 o] [.box 109 [.lst (.int .u8) b, .int .i64 i, .int .i64 h]] = some (.agg [.int .i64 m, .own 1], [.box 109 [.lst (.int .u8) b, .int .i64 (make3 b m o (i, h)).2.1, .int .i64 (make3 b m o (i, h)).2.2], .row 3 (.int .i64) (make3 b m o (i, h)).1]) := by
  have hr := be_rng b (i, h) (n := o + 1) (by omega)
  have n1 := nx_ok (c := (i, h)) hp.1
  have hw : IntKind.i64.wrap (o + 1) = o + 1 := wrap64 (by omega) (by omega)
  conv => lhs; whnf
  rw [hw]
  conv => lhs; arg 1; whnf
  refine bnd_g (by exact ⟨hp.1, by omega, by omega⟩) ?_
  conv => lhs; whnf
  refine (lp_l3Make b m hp.2.1 (be b (i, h) (o + 1)) (by omega) _ (be b (i, h) (o + 1)).toNat _ 0 0 (nx b (i, h)).1 (nx b (i, h)).2 [] rfl (by omega) rfl (by change _ < 99; omega) n1 (by simp)).trans ?_
  conv => lhs; whnf
  rfl
theorem ok_l3Make : FnOk Tryz.prog 146 K_l3Make := by
  refine fn_ok (fn := Tryz.f146) (k := Tryz.f146.ntmps) (E := E_l3Make) (facts_of (List.forall_mem_cons.2 ⟨ok_l1Once, List.forall_mem_cons.2 ⟨ok_l1Below, List.forall_mem_nil _⟩⟩)) (by kernel_rfl) rfl (by decide +kernel) (by decide +kernel) ?_
  intro avs hin r h
  unfold K_l3Make at h
  split at h
  · obtain ⟨hp, rfl⟩ := gd_o h
    exact ⟨_, ev_l3Make _ _ _ _ _ hp, rfl⟩
  · cases h

/- spec.l3Draw -/
def K_l3Draw : List AV → List Ob → Option (AV × List Ob)
  | [.ptr 0 0], [.box 109 [.lst (.int .u8) b, .int .i64 i, .int .i64 h]] => gd (CuOk b i) (.agg [.int .i64 (draw3 b (i, h)).1, .own 1], [.box 109 [.lst (.int .u8) b, .int .i64 (draw3 b (i, h)).2.2.1, .int .i64 (draw3 b (i, h)).2.2.2], .row 3 (.int .i64) (draw3 b (i, h)).2.1])
  | _, _ => none
@[reducible] def E_l3Draw : Env := mkE (tb [(133, K_l1PickInt), (146, K_l3Make)]) (fun f => [133, 146].contains f) (fun r => ([], []))
theorem ev_l3Draw (b : List Int) (i h : Int) (hp : CuOk b i) : evF E_l3Draw (1) Tryz.f106 [.ptr 0 0] [.box 109 [.lst (.int .u8) b, .int .i64 i, .int .i64 h]] = some (.agg [.int .i64 (draw3 b (i, h)).1, .own 1], [.box 109 [.lst (.int .u8) b, .int .i64 (draw3 b (i, h)).2.2.1, .int .i64 (draw3 b (i, h)).2.2.2], .row 3 (.int .i64) (draw3 b (i, h)).2.1]) := by
  have n1 := nx_ok (c := (i, h)) hp
  have hm := draw3m_rng b (i, h)
  conv => lhs; whnf
  conv => lhs; arg 1; whnf
  refine bnd_g (by exact ⟨hp, by simp, by simp⟩) ?_
  conv => lhs; whnf
  conv => lhs; arg 1; whnf
  refine bnd_g (by exact ⟨n1, ⟨hm.1, by have := hm.2; exact Int.le_trans hm.2 (by omega)⟩, by omega, by omega⟩) ?_
  conv => lhs; whnf
  all_goals rfl
theorem ok_l3Draw : FnOk Tryz.prog 106 K_l3Draw := by
  refine fn_ok (fn := Tryz.f106) (k := Tryz.f106.ntmps) (E := E_l3Draw) (facts_of (List.forall_mem_cons.2 ⟨ok_l1PickInt, List.forall_mem_cons.2 ⟨ok_l3Make, List.forall_mem_nil _⟩⟩)) (by kernel_rfl) rfl (by decide +kernel) (by decide +kernel) ?_
  intro avs hin r h
  unfold K_l3Draw at h
  split at h
  · obtain ⟨hp, rfl⟩ := gd_o h
    exact ⟨_, ev_l3Draw _ _ _ hp, rfl⟩
  · cases h

/- spec.l2Bent -/
def K_l2Bent : List AV → List Ob → Option (AV × List Ob)
  | [.ptr 0 0], [.box 109 [.lst (.int .u8) b, .int .i64 i, .int .i64 h]] => gd (CuOk b i) (.int .i64 (bent2 b (i, h)), [.box 109 [.lst (.int .u8) b, .int .i64 (nx b (nx b (i, h))).1, .int .i64 (nx b (nx b (i, h))).2]])
  | _, _ => none
@[reducible] def E_l2Bent : Env := mkE (tb [(115, K_l1Once), (133, K_l1PickInt), (96, K_l1Below)]) (fun f => [115, 133, 96].contains f) (fun r => ([], []))
theorem ev_l2Bent (b : List Int) (i h : Int) (hp : CuOk b i) : evF E_l2Bent (1) Tryz.f107 [.ptr 0 0] [.box 109 [.lst (.int .u8) b, .int .i64 i, .int .i64 h]] = some (.int .i64 (bent2 b (i, h)), [.box 109 [.lst (.int .u8) b, .int .i64 (nx b (nx b (i, h))).1, .int .i64 (nx b (nx b (i, h))).2]]) := by
  have hn := nx_ok (c := (i, h)) hp
  conv => lhs; whnf
  conv => lhs; arg 1; whnf
  refine bnd_g (by exact ⟨hp, by omega, by omega⟩) ?_
  conv => lhs; whnf
  refine br_c (fun hc => ?_) (fun hc => ?_)
  · have e : bent2 b (i, h) = pick4 (-1) 256 1000 (-9223372036854775808) b (nx b (i, h)) := by unfold bent2; rw [hc]; rfl
    rw [e]
    conv => lhs; whnf
    conv => lhs; arg 1; whnf
    refine bnd_g (by exact ⟨hn, by simp, by simp⟩) ?_
    conv => lhs; whnf
    rfl
  · have e : bent2 b (i, h) = be b (nx b (i, h)) 256 := by unfold bent2; rw [hc]; rfl
    rw [e]
    conv => lhs; whnf
    conv => lhs; arg 1; whnf
    refine bnd_g (by exact ⟨hn, by omega, by omega⟩) ?_
    conv => lhs; whnf
theorem ok_l2Bent : FnOk Tryz.prog 107 K_l2Bent := by
  refine fn_ok (fn := Tryz.f107) (k := Tryz.f107.ntmps) (E := E_l2Bent) (facts_of (List.forall_mem_cons.2 ⟨ok_l1Once, List.forall_mem_cons.2 ⟨ok_l1PickInt, List.forall_mem_cons.2 ⟨ok_l1Below, List.forall_mem_nil _⟩⟩⟩)) (by kernel_rfl) rfl (by decide +kernel) (by decide +kernel) ?_
  intro avs hin r h
  unfold K_l2Bent at h
  split at h
  · obtain ⟨hp, rfl⟩ := gd_o h
    exact ⟨_, ev_l2Bent _ _ _ hp, rfl⟩
  · cases h

/- spec.l3Bent -/
def K_l3Bent : List AV → List Ob → Option (AV × List Ob)
  | [.ptr 0 0], [.box 109 [.lst (.int .u8) b, .int .i64 i, .int .i64 h]] => gd (CuOk b i) (.agg [.int .i64 (bent3 b (i, h)).1, .own 1], [.box 109 [.lst (.int .u8) b, .int .i64 (bent3 b (i, h)).2.2.1, .int .i64 (bent3 b (i, h)).2.2.2], .row 3 (.int .i64) (bent3 b (i, h)).2.1])
  | _, _ => none
@[reducible] def E_l3Bent : Env := mkE (tb [(106, K_l3Draw), (96, K_l1Below), (133, K_l1PickInt), (107, K_l2Bent)]) (fun f => [106, 96, 133, 107].contains f) (fun r => bif r == 8 then ([2, 3], [2, 3]) else ([], []))
theorem lp_l3Bent (b : List Int) (i0 h0 m : Int) (k : AX → S → Option (AV × List Ob)) (d : Nat) : ∀ (n : Nat) (zs : List Int), 9 - zs.length = d → zs.length ≤ 9 → d < n →
    lpAt E_l3Bent (lp E_l3Bent 1 n) 1 (loopAt Tryz.f87 0) (mkS [2, 3] [.ptr 1 0, .ptr 3 0] [some (.box 109 [.lst (.int .u8) b, .int .i64 i0, .int .i64 h0]), some (.box 26 [.int .i64 0, .own 2]), some (.row 3 (.int .i64) []), some (.box 26 [.int .i64 m, .own 4]), some (.row 3 (.int .i64) zs)]) k =
      k (.exit 1) (mkS [2, 3] [.ptr 1 0, .ptr 3 0] [some (.box 109 [.lst (.int .u8) b, .int .i64 i0, .int .i64 h0]), some (.box 26 [.int .i64 0, .own 2]), some (.row 3 (.int .i64) []), some (.box 26 [.int .i64 m, .own 4]), some (.row 3 (.int .i64) (pad9 zs))]) := by
  induction d with
  | zero =>
    intro n zs hd hi hn
    rw [lpAt_def]
    conv => lhs; whnf
    refine br_f (df (by omega)) ?_
    conv => lhs; whnf
    have e : pad9 zs = zs := by
      unfold pad9
      rw [show 9 - zs.length = 0 by omega]
      simp
    rw [e]
  | succ d ih =>
    intro n zs hd hi hn
    obtain ⟨n, rfl⟩ : ∃ m, n = m + 1 := ⟨n - 1, by omega⟩
    rw [lpAt_def]
    conv => lhs; whnf
    refine br_t (dt (by omega)) ?_
    conv => lhs; whnf
    refine br_t (dt (by simp [room]; omega)) ?_
    conv => lhs; whnf
    refine (ih n _ (by simp; omega) (by simp; omega) (by omega)).trans ?_
    have e : pad9 zs = pad9 (zs ++ [0]) := by
      unfold pad9
      obtain ⟨q, hq⟩ : ∃ q, 9 - zs.length = q + 1 := ⟨8 - zs.length, by omega⟩
      rw [List.length_append, List.length_singleton, hq, show 9 - (zs.length + 1) = q by omega, List.replicate_succ, List.append_assoc]
      rfl
    rw [e]
theorem ev_l3Bent (b : List Int) (i h : Int) (hp : CuOk b i) : evF E_l3Bent (20) Tryz.f87 [.ptr 0 0] [.box 109 [.lst (.int .u8) b, .int .i64 i, .int .i64 h]] = some (.agg [.int .i64 (bent3 b (i, h)).1, .own 1], [.box 109 [.lst (.int .u8) b, .int .i64 (bent3 b (i, h)).2.2.1, .int .i64 (bent3 b (i, h)).2.2.2], .row 3 (.int .i64) (bent3 b (i, h)).2.1]) := by
  have h3 := draw3_ok (c := (i, h)) hp
  have n0 := h3.2.2
  have hl := h3.2.1
  have n1 := nx_ok n0
  have n2 := nx_ok n1
  conv => lhs; whnf
  conv => lhs; arg 1; whnf
  refine bnd_g (by exact hp) ?_
  conv => lhs; whnf
  conv => lhs; arg 1; whnf
  refine bnd_g (by exact ⟨n0, by omega, by omega⟩) ?_
  conv => lhs; whnf
  refine br_c (fun g => ?_) (fun g => ?_)
  · have e : bent3 b (i, h) = (pick4 (-1) 0 2 7 b (nx b (draw3 b (i, h)).2.2), (draw3 b (i, h)).2.1, nx b (nx b (draw3 b (i, h)).2.2)) := by unfold bent3 bent3'; rw [g]; rfl
    rw [e]
    conv => lhs; whnf
    conv => lhs; arg 1; whnf
    refine bnd_g (by exact ⟨n1, by simp, by simp⟩) ?_
    conv => lhs; whnf
    all_goals rfl
  · conv => lhs; whnf
    refine br_c (fun g2 => ?_) (fun g2 => ?_)
    · have e : bent3 b (i, h) = ((draw3 b (i, h)).1, (draw3 b (i, h)).2.1 ++ [bent2 b (nx b (draw3 b (i, h)).2.2)], nx b (nx b (nx b (draw3 b (i, h)).2.2))) := by unfold bent3 bent3'; rw [g, g2]; rfl
      rw [e]
      conv => lhs; whnf
      conv => lhs; arg 1; whnf
      refine bnd_g (by exact n1) ?_
      conv => lhs; whnf
      refine br_t (dt (by simp [room]; omega)) ?_
      conv => lhs; whnf
      refine br_t (by kernel_rfl) ?_
      conv => lhs; whnf
      all_goals rfl
    · conv => lhs; whnf
      refine br_c (fun g3 => ?_) (fun g3 => ?_)
      · have e : bent3 b (i, h) = ((draw3 b (i, h)).1, pad9 (draw3 b (i, h)).2.1, nx b (draw3 b (i, h)).2.2) := by unfold bent3 bent3'; rw [g, g2, g3]; rfl
        rw [e]
        conv => lhs; whnf
        refine (lp_l3Bent b _ _ _ _ (9 - (draw3 b (i, h)).2.1.length) _ (draw3 b (i, h)).2.1 rfl (by omega) (by change _ < 19; omega)).trans ?_
        conv => lhs; whnf
        all_goals rfl
      · have e : bent3 b (i, h) = ((draw3 b (i, h)).1, (draw3 b (i, h)).2.1, nx b (draw3 b (i, h)).2.2) := by unfold bent3 bent3'; rw [g, g2, g3]; rfl
        rw [e]
        conv => lhs; whnf
theorem ok_l3Bent : FnOk Tryz.prog 87 K_l3Bent := by
  refine fn_ok (fn := Tryz.f87) (k := Tryz.f87.ntmps) (E := E_l3Bent) (facts_of (List.forall_mem_cons.2 ⟨ok_l3Draw, List.forall_mem_cons.2 ⟨ok_l1Below, List.forall_mem_cons.2 ⟨ok_l1PickInt, List.forall_mem_cons.2 ⟨ok_l2Bent, List.forall_mem_nil _⟩⟩⟩⟩)) (by kernel_rfl) rfl (by decide +kernel) (by decide +kernel) ?_
  intro avs hin r h
  unfold K_l3Bent at h
  split at h
  · obtain ⟨hp, rfl⟩ := gd_o h
    exact ⟨_, ev_l3Bent _ _ _ hp, rfl⟩
  · cases h

/- spec.l4Attributes -/
def K_l4Attributes : List AV → List Ob → Option (AV × List Ob)
  | [.lst (.int .u8) b], [] => gd (b.length ≤ 1048576) (.tup [.agg [.int .i64 (att4 b (newC b)).1, .own 0], .int .i64 (att4 b (newC b)).2.2], [.row 3 (.int .i64) (att4 b (newC b)).2.1])
  | _, _ => none
@[reducible] def E_l4Attributes : Env := mkE (tb [(86, K_l1New), (106, K_l3Draw), (96, K_l1Below), (87, K_l3Bent), (107, K_l2Bent)]) (fun f => [106, 96, 87, 107].contains f) (fun r => ([], []))
theorem ev_l4Attributes (b : List Int) (hp : b.length ≤ 1048576) : evF E_l4Attributes (1) Tryz.f50 [.lst (.int .u8) b] [] = some (.tup [.agg [.int .i64 (att4 b (newC b)).1, .own 0], .int .i64 (att4 b (newC b)).2.2], [.row 3 (.int .i64) (att4 b (newC b)).2.1]) := by
  have n0 := newC_ok hp
  have hd := draw3_ok n0
  have n1 := hd.2.2
  have n2 := nx_ok n1
  have n3 := nx_ok n2
  have hu := wrapu (n := (draw3 b (newC b)).1) hd.1.1 (by omega)
  have hs := shlI_rng (n := (draw3 b (newC b)).1) hd.1.1 (by omega)
  conv => lhs; whnf
  conv => lhs; arg 1; whnf
  refine bnd_g (by exact hp) ?_
  conv => lhs; whnf
  conv => lhs; arg 1; whnf
  refine bnd_g (by exact n0) ?_
  conv => lhs; whnf
  rw [show IntKind.u64.wrap (draw3 b ((newC b).1, (newC b).2)).1 = (draw3 b ((newC b).1, (newC b).2)).1 from hu]
  refine br_f (df (by change ¬ (draw3 b (newC b)).1 < 0; omega)) ?_
  conv => lhs; whnf
  conv => lhs; arg 1; whnf
  refine bnd_g (by exact ⟨n1, hs⟩) ?_
  conv => lhs; whnf
  conv => lhs; arg 1; whnf
  refine bnd_g (by exact ⟨n2, by omega, by omega⟩) ?_
  conv => lhs; whnf
  refine br_c (fun g => ?_) (fun g => ?_)
  · have e : att4 b (newC b) = ((bent3 b (nx b (nx b (draw3 b (newC b)).2.2))).1, (bent3 b (nx b (nx b (draw3 b (newC b)).2.2))).2.1, be b (draw3 b (newC b)).2.2 (shlI (draw3 b (newC b)).1)) := by
      have g' : (be b (nx b (draw3 b (newC b)).2.2) 16 == 0) = true := g
      unfold att4; rw [g']; rfl
    conv => rhs; rw [e]
    conv => lhs; whnf
    conv => lhs; arg 1; whnf
    refine bnd_g (by exact n3) ?_
    conv => lhs; whnf
    all_goals rfl
  · have g' : (be b (nx b (draw3 b (newC b)).2.2) 16 == 0) = false := g
    conv => lhs; whnf
    refine br_c (fun g2 => ?_) (fun g2 => ?_)
    · have e : att4 b (newC b) = ((draw3 b (newC b)).1, (draw3 b (newC b)).2.1, bent2 b (nx b (nx b (draw3 b (newC b)).2.2))) := by
        have g2' : (be b (nx b (draw3 b (newC b)).2.2) 16 == 1) = true := g2
        unfold att4; rw [g', g2']; rfl
      conv => rhs; rw [e]
      conv => lhs; whnf
      conv => lhs; arg 1; whnf
      refine bnd_g (by exact n3) ?_
      conv => lhs; whnf
      all_goals rfl
    · have e : att4 b (newC b) = ((draw3 b (newC b)).1, (draw3 b (newC b)).2.1, be b (draw3 b (newC b)).2.2 (shlI (draw3 b (newC b)).1)) := by
        have g2' : (be b (nx b (draw3 b (newC b)).2.2) 16 == 1) = false := g2
        unfold att4; rw [g', g2']; rfl
      conv => rhs; rw [e]
      conv => lhs; whnf
      all_goals rfl
theorem ok_l4Attributes : FnOk Tryz.prog 50 K_l4Attributes := by
  refine fn_ok (fn := Tryz.f50) (k := Tryz.f50.ntmps) (E := E_l4Attributes) (facts_of (List.forall_mem_cons.2 ⟨ok_l1New, List.forall_mem_cons.2 ⟨ok_l3Draw, List.forall_mem_cons.2 ⟨ok_l1Below, List.forall_mem_cons.2 ⟨ok_l3Bent, List.forall_mem_cons.2 ⟨ok_l2Bent, List.forall_mem_nil _⟩⟩⟩⟩⟩)) (by kernel_rfl) rfl (by decide +kernel) (by decide +kernel) ?_
  intro avs hin r h
  unfold K_l4Attributes at h
  split at h
  · obtain ⟨hp, rfl⟩ := gd_o h
    exact ⟨_, ev_l4Attributes _ hp, rfl⟩
  · cases h

/- spec.DrawNewIntents -/
def K_drawNewIntents : List AV → List Ob → Option (AV × List Ob)
  | [.lst (.int .u8) b], [] => gd (b.length ≤ 1048576) (.tup [.agg [.int .i64 (att4 b (newC b)).1, .own 0], .int .i64 (att4 b (newC b)).2.2], [.row 3 (.int .i64) (att4 b (newC b)).2.1])
  | _, _ => none
@[reducible] def E_drawNewIntents : Env := mkE (tb [(50, K_l4Attributes)]) (fun f => false) (fun r => ([], []))
theorem ev_drawNewIntents (b : List Int) (hp : b.length ≤ 1048576) : evF E_drawNewIntents (1) Tryz.f7 [.lst (.int .u8) b] [] = some (.tup [.agg [.int .i64 (att4 b (newC b)).1, .own 0], .int .i64 (att4 b (newC b)).2.2], [.row 3 (.int .i64) (att4 b (newC b)).2.1]) := by
  conv => lhs; whnf
  conv => lhs; arg 1; whnf
  refine bnd_g (by exact hp) ?_
  conv => lhs; whnf
theorem ok_drawNewIntents : FnOk Tryz.prog 7 K_drawNewIntents := by
  refine fn_ok (fn := Tryz.f7) (k := Tryz.f7.ntmps) (E := E_drawNewIntents) (facts_of (List.forall_mem_cons.2 ⟨ok_l4Attributes, List.forall_mem_nil _⟩)) (by kernel_rfl) rfl (by decide +kernel) (by decide +kernel) ?_
  intro avs hin r h
  unfold K_drawNewIntents at h
  split at h
  · obtain ⟨hp, rfl⟩ := gd_o h
    exact ⟨_, ev_drawNewIntents _ hp, rfl⟩
  · cases h

/- spec.DrawColumnOf -/
def K_drawColumnOf : List AV → List Ob → Option (AV × List Ob)
  | [.lst (.int .u8) b], [] => gd (b.length ≤ 1048576) (.tup [.agg [.int .i64 (bent3 b (newC b)).1, .own 0], .int .i64 (be b (bent3 b (newC b)).2.2 8 - 1)], [.row 3 (.int .i64) (bent3 b (newC b)).2.1])
  | _, _ => none
@[reducible] def E_drawColumnOf : Env := mkE (tb [(86, K_l1New), (87, K_l3Bent), (96, K_l1Below)]) (fun f => [87, 96].contains f) (fun r => ([], []))
theorem ev_drawColumnOf (b : List Int) (hp : b.length ≤ 1048576) : evF E_drawColumnOf (1) Tryz.f57 [.lst (.int .u8) b] [] = some (.tup [.agg [.int .i64 (bent3 b (newC b)).1, .own 0], .int .i64 (be b (bent3 b (newC b)).2.2 8 - 1)], [.row 3 (.int .i64) (bent3 b (newC b)).2.1]) := by
  have n0 := newC_ok hp
  have hd := bent3_ok n0
  have hr := be_rng b (bent3 b (newC b)).2.2 (n := 8) (by omega)
  have hw : IntKind.i64.wrap (be b (bent3 b (newC b)).2.2 8 - 1) = be b (bent3 b (newC b)).2.2 8 - 1 := wrap64 (by omega) (by omega)
  conv => lhs; whnf
  conv => lhs; arg 1; whnf
  refine bnd_g (by exact hp) ?_
  conv => lhs; whnf
  conv => lhs; arg 1; whnf
  refine bnd_g (by exact n0) ?_
  conv => lhs; whnf
  conv => lhs; arg 1; whnf
  refine bnd_g (by exact ⟨hd.2, by omega, by omega⟩) ?_
  conv => lhs; whnf
  refine br_t (by kernel_rfl) ?_
  conv => lhs; whnf
  conv => rhs; rw [← hw]
  all_goals rfl
theorem ok_drawColumnOf : FnOk Tryz.prog 57 K_drawColumnOf := by
  refine fn_ok (fn := Tryz.f57) (k := Tryz.f57.ntmps) (E := E_drawColumnOf) (facts_of (List.forall_mem_cons.2 ⟨ok_l1New, List.forall_mem_cons.2 ⟨ok_l3Bent, List.forall_mem_cons.2 ⟨ok_l1Below, List.forall_mem_nil _⟩⟩⟩)) (by kernel_rfl) rfl (by decide +kernel) (by decide +kernel) ?_
  intro avs hin r h
  unfold K_drawColumnOf at h
  split at h
  · obtain ⟨hp, rfl⟩ := gd_o h
    exact ⟨_, ev_drawColumnOf _ hp, rfl⟩
  · cases h

/- spec.DrawLostIntents -/
def K_drawLostIntents : List AV → List Ob → Option (AV × List Ob)
  | [.lst (.int .u8) b], [] => gd (b.length ≤ 1048576) (.tup [.agg [.int .i64 (bent3 b (newC b)).1, .own 0], .int .i64 (be b (bent3 b (newC b)).2.2 8 - 1)], [.row 3 (.int .i64) (bent3 b (newC b)).2.1])
  | _, _ => none
@[reducible] def E_drawLostIntents : Env := mkE (tb [(57, K_drawColumnOf)]) (fun f => false) (fun r => ([], []))
theorem ev_drawLostIntents (b : List Int) (hp : b.length ≤ 1048576) : evF E_drawLostIntents (1) Tryz.f11 [.lst (.int .u8) b] [] = some (.tup [.agg [.int .i64 (bent3 b (newC b)).1, .own 0], .int .i64 (be b (bent3 b (newC b)).2.2 8 - 1)], [.row 3 (.int .i64) (bent3 b (newC b)).2.1]) := by
  conv => lhs; whnf
  conv => lhs; arg 1; whnf
  refine bnd_g (by exact hp) ?_
  conv => lhs; whnf
theorem ok_drawLostIntents : FnOk Tryz.prog 11 K_drawLostIntents := by
  refine fn_ok (fn := Tryz.f11) (k := Tryz.f11.ntmps) (E := E_drawLostIntents) (facts_of (List.forall_mem_cons.2 ⟨ok_drawColumnOf, List.forall_mem_nil _⟩)) (by kernel_rfl) rfl (by decide +kernel) (by decide +kernel) ?_
  intro avs hin r h
  unfold K_drawLostIntents at h
  split at h
  · obtain ⟨hp, rfl⟩ := gd_o h
    exact ⟨_, ev_drawLostIntents _ hp, rfl⟩
  · cases h

def mk9 (b : List Int) (N : Int) (c : Cu) : (Int × Int) × Cu := ((band (be b c N) (be b (nx b c) N), be b (nx b (nx b c)) N), nx b (nx b (nx b c)))
def mk9s (b : List Int) (N : Int) : Nat → Cu → List (Int × Int) × Cu
  | 0, c => ([], c)
  | d + 1, c => ((mk9 b N c).1 :: (mk9s b N d (mk9 b N c).2).1, (mk9s b N d (mk9 b N c).2).2)
theorem mk9_ok {b : List Int} {N : Int} {c : Cu} (h : CuOk b c.1) : CuOk b (mk9 b N c).2.1 := nx_ok (nx_ok (nx_ok h))
theorem mk9s_ok {b : List Int} {N : Int} : ∀ (d : Nat) (c : Cu), CuOk b c.1 → (mk9s b N d c).1.length = d ∧ CuOk b (mk9s b N d c).2.1
  | 0, c, h => ⟨rfl, h⟩
  | d + 1, c, h => by
    have h1 := mk9s_ok (N := N) d _ (mk9_ok (N := N) h)
    unfold mk9s
    exact ⟨by rw [List.length_cons, h1.1], h1.2⟩
def draw9 (b : List Int) (N : Int) (c : Cu) : List (Int × Int) × Cu := mk9s b N (be b c 5).toNat (nx b c)
theorem draw9_ok {b : List Int} {N : Int} {c : Cu} (h : CuOk b c.1) : (draw9 b N c).1.length ≤ 4 ∧ CuOk b (draw9 b N c).2.1 := by
  have h1 := mk9s_ok (N := N) (be b c 5).toNat (nx b c) (nx_ok h)
  have h2 := be_rng b c (n := 5) (by omega)
  unfold draw9
  exact ⟨by omega, h1.2⟩
def bent9' (b : List Int) (x : List (Int × Int) × Cu) : List (Int × Int) × Cu :=
  bif be b x.2 10 == 0 then (x.1 ++ [(bent2 b (nx b x.2), bent2 b (nx b (nx b (nx b x.2))))], nx b (nx b (nx b (nx b (nx b x.2))))) else (x.1, nx b x.2)
def bent9 (b : List Int) (N : Int) (c : Cu) : List (Int × Int) × Cu := bent9' b (draw9 b N c)
theorem bent9_ok {b : List Int} {N : Int} {c : Cu} (h : CuOk b c.1) : (bent9 b N c).1.length ≤ 5 ∧ CuOk b (bent9 b N c).2.1 := by
  obtain ⟨h1, h2⟩ := draw9_ok (N := N) h
  unfold bent9
  generalize draw9 b N c = x at h1 h2
  unfold bent9'
  have n1 := nx_ok h2
  cases be b x.2 10 == 0
  · exact ⟨by simp only [cond_false]; omega, n1⟩
  · exact ⟨by simp only [cond_true, List.length_append, List.length_singleton]; omega, nx_ok (nx_ok (nx_ok (nx_ok n1)))⟩
def clb9 (b : List Int) (c : Cu) : List (Int × Int) × Int := ((bent9 b 32 c).1, bif be b (bent9 b 32 c).2 12 == 0 then bent2 b (nx b (bent9 b 32 c).2) else be b (nx b (bent9 b 32 c).2) 32)
/- spec.l9Make -/
def K_l9Make : List AV → List Ob → Option (AV × List Ob)
  | [.ptr 0 0, .int .i64 n], [.box 109 [.lst (.int .u8) b, .int .i64 i, .int .i64 h]] => gd (CuOk b i ∧ (0 ≤ n ∧ n ≤ 8)) (.agg [.int .i64 (mk9 b (shlI n) (i, h)).1.1, .int .i64 (mk9 b (shlI n) (i, h)).1.2], [.box 109 [.lst (.int .u8) b, .int .i64 (mk9 b (shlI n) (i, h)).2.1, .int .i64 (mk9 b (shlI n) (i, h)).2.2]])
  | _, _ => none
@[reducible] def E_l9Make : Env := mkE (tb [(96, K_l1Below)]) (fun f => [96].contains f) (fun r => ([], []))
theorem ev_l9Make (b : List Int) (i h n : Int) (hp : CuOk b i ∧ (0 ≤ n ∧ n ≤ 8)) : evF E_l9Make (1) Tryz.f88 [.ptr 0 0, .int .i64 n] [.box 109 [.lst (.int .u8) b, .int .i64 i, .int .i64 h]] = some (.agg [.int .i64 (mk9 b (shlI n) (i, h)).1.1, .int .i64 (mk9 b (shlI n) (i, h)).1.2], [.box 109 [.lst (.int .u8) b, .int .i64 (mk9 b (shlI n) (i, h)).2.1, .int .i64 (mk9 b (shlI n) (i, h)).2.2]]) := by
  have hs := shlI_rng hp.2.1 hp.2.2
  have hu := wrapu hp.2.1 hp.2.2
  have n1 := nx_ok (c := (i, h)) hp.1
  have n2 := nx_ok n1
  conv => lhs; whnf
  rw [hu]
  refine br_f (df (by omega)) ?_
  conv => lhs; whnf
  conv => lhs; arg 1; whnf
  refine bnd_g (by exact ⟨hp.1, hs⟩) ?_
  conv => lhs; whnf
  rw [hu]
  refine br_f (df (by omega)) ?_
  conv => lhs; whnf
  conv => lhs; arg 1; whnf
  refine bnd_g (by exact ⟨n1, hs⟩) ?_
  conv => lhs; whnf
  rw [hu]
  refine br_f (df (by omega)) ?_
  conv => lhs; whnf
  conv => lhs; arg 1; whnf
  refine bnd_g (by exact ⟨n2, hs⟩) ?_
  conv => lhs; whnf
  all_goals rfl
theorem ok_l9Make : FnOk Tryz.prog 88 K_l9Make := by
  refine fn_ok (fn := Tryz.f88) (k := Tryz.f88.ntmps) (E := E_l9Make) (facts_of (List.forall_mem_cons.2 ⟨ok_l1Below, List.forall_mem_nil _⟩)) (by kernel_rfl) rfl (by decide +kernel) (by decide +kernel) ?_
  intro avs hin r h
  unfold K_l9Make at h
  split at h
  · obtain ⟨hp, rfl⟩ := gd_o h
    exact ⟨_, ev_l9Make _ _ _ _ hp, rfl⟩
  · cases h

/- spec.l9Draw -/
def K_l9Draw : List AV → List Ob → Option (AV × List Ob)
  | [.ptr 0 0, .int .i64 n], [.box 109 [.lst (.int .u8) b, .int .i64 i, .int .i64 h]] => gd (CuOk b i ∧ (0 ≤ n ∧ n ≤ 8)) (.own 1, [.box 109 [.lst (.int .u8) b, .int .i64 (draw9 b (shlI n) (i, h)).2.1, .int .i64 (draw9 b (shlI n) (i, h)).2.2], .row 48 (.pair (.int .i64) (.int .i64)) (draw9 b (shlI n) (i, h)).1])
  | _, _ => none
@[reducible] def E_l9Draw : Env := mkE (tb [(96, K_l1Below), (88, K_l9Make)]) (fun f => [96, 88].contains f) (fun r => bif r == 4 then ([0, 1, 5, 6, 7], [5]) else ([], []))
theorem lp_l9Draw (b : List Int) (m : Int) (hm : 0 ≤ m ∧ m ≤ 8) (N : Int) (hN : 0 ≤ N ∧ N ≤ 100) (k : AX → S → Option (AV × List Ob)) (d : Nat) : ∀ (n i : Nat) (x i0 h0 : Int) (zs : List (Int × Int)), N.toNat - i = d → i ≤ N.toNat → x = i → d < n → CuOk b i0 → zs.length ≤ i →
    lpAt E_l9Draw (lp E_l9Draw 1 n) 1 (loopAt Tryz.f150 0) (mkS [0, 1, 5, 6, 7] [.ptr 0 0, .int .i64 m, .own 1, .int .i64 N, .int .i64 x] [some (.box 109 [.lst (.int .u8) b, .int .i64 i0, .int .i64 h0]), some (.row 48 (.pair (.int .i64) (.int .i64)) zs)]) k =
      k (.exit 0) (mkS [5] [.own 1] [some (.box 109 [.lst (.int .u8) b, .int .i64 (mk9s b (shlI m) d (i0, h0)).2.1, .int .i64 (mk9s b (shlI m) d (i0, h0)).2.2]), some (.row 48 (.pair (.int .i64) (.int .i64)) (zs ++ (mk9s b (shlI m) d (i0, h0)).1))]) := by
  induction d with
  | zero =>
    intro n i x i0 h0 zs hd hi hx hn hc hz
    subst hx
    rw [lpAt_def]
    conv => lhs; whnf
    refine br_f (df (by omega)) ?_
    conv => lhs; whnf
    rw [mk9s, List.append_nil]
  | succ d ih =>
    intro n i x i0 h0 zs hd hi hx hn hc hz
    obtain ⟨n, rfl⟩ : ∃ m, n = m + 1 := ⟨n - 1, by omega⟩
    subst hx
    rw [lpAt_def]
    conv => lhs; whnf
    refine br_t (dt (by omega)) ?_
    conv => lhs; whnf
    conv => lhs; arg 1; whnf
    refine bnd_g (by exact ⟨hc, hm⟩) ?_
    conv => lhs; whnf
    refine br_t (dt (by simp [room]; omega)) ?_
    conv => lhs; whnf
    refine (ih n (i + 1) (IntKind.i64.wrap ((i : Int) + 1)) _ _ _ (by omega) (by omega) (by rw [wrap64 (n := (i : Int) + 1) (by omega) (by omega)]; simp) (by omega) (mk9_ok (c := (i0, h0)) hc) (by simp; omega)).trans ?_
    rw [mk9s, List.append_assoc]
    rfl
theorem ev_l9Draw (b : List Int) (i h n : Int) (hp : CuOk b i ∧ (0 ≤ n ∧ n ≤ 8)) : evF E_l9Draw (20) Tryz.f150 [.ptr 0 0, .int .i64 n] [.box 109 [.lst (.int .u8) b, .int .i64 i, .int .i64 h]] = some (.own 1, [.box 109 [.lst (.int .u8) b, .int .i64 (draw9 b (shlI n) (i, h)).2.1, .int .i64 (draw9 b (shlI n) (i, h)).2.2], .row 48 (.pair (.int .i64) (.int .i64)) (draw9 b (shlI n) (i, h)).1]) := by
  have hr := be_rng b (i, h) (n := 5) (by omega)
  have n1 := nx_ok (c := (i, h)) hp.1
  conv => lhs; whnf
  conv => lhs; arg 1; whnf
  refine bnd_g (by exact ⟨hp.1, by omega, by omega⟩) ?_
  conv => lhs; whnf
  refine (lp_l9Draw b n hp.2 (be b (i, h) 5) (by omega) _ (be b (i, h) 5).toNat _ 0 0 (nx b (i, h)).1 (nx b (i, h)).2 [] rfl (by omega) rfl (by change _ < 19; omega) n1 (by simp)).trans ?_
  conv => lhs; whnf
  all_goals rfl
theorem ok_l9Draw : FnOk Tryz.prog 150 K_l9Draw := by
  refine fn_ok (fn := Tryz.f150) (k := Tryz.f150.ntmps) (E := E_l9Draw) (facts_of (List.forall_mem_cons.2 ⟨ok_l1Below, List.forall_mem_cons.2 ⟨ok_l9Make, List.forall_mem_nil _⟩⟩)) (by kernel_rfl) rfl (by decide +kernel) (by decide +kernel) ?_
  intro avs hin r h
  unfold K_l9Draw at h
  split at h
  · obtain ⟨hp, rfl⟩ := gd_o h
    exact ⟨_, ev_l9Draw _ _ _ _ hp, rfl⟩
  · cases h

/- spec.l9Bent -/
def K_l9Bent : List AV → List Ob → Option (AV × List Ob)
  | [.ptr 0 0, .int .i64 n], [.box 109 [.lst (.int .u8) b, .int .i64 i, .int .i64 h]] => gd (CuOk b i ∧ (0 ≤ n ∧ n ≤ 8)) (.own 1, [.box 109 [.lst (.int .u8) b, .int .i64 (bent9 b (shlI n) (i, h)).2.1, .int .i64 (bent9 b (shlI n) (i, h)).2.2], .row 48 (.pair (.int .i64) (.int .i64)) (bent9 b (shlI n) (i, h)).1])
  | _, _ => none
@[reducible] def E_l9Bent : Env := mkE (tb [(150, K_l9Draw), (115, K_l1Once), (107, K_l2Bent)]) (fun f => [150, 115, 107].contains f) (fun r => ([], []))
theorem ev_l9Bent (b : List Int) (i h n : Int) (hp : CuOk b i ∧ (0 ≤ n ∧ n ≤ 8)) : evF E_l9Bent (1) Tryz.f114 [.ptr 0 0, .int .i64 n] [.box 109 [.lst (.int .u8) b, .int .i64 i, .int .i64 h]] = some (.own 1, [.box 109 [.lst (.int .u8) b, .int .i64 (bent9 b (shlI n) (i, h)).2.1, .int .i64 (bent9 b (shlI n) (i, h)).2.2], .row 48 (.pair (.int .i64) (.int .i64)) (bent9 b (shlI n) (i, h)).1]) := by
  have hd := draw9_ok (N := shlI n) (c := (i, h)) hp.1
  have hl := hd.1
  have n1 := nx_ok hd.2
  have n2 := nx_ok n1
  have n3 := nx_ok n2
  conv => lhs; whnf
  conv => lhs; arg 1; whnf
  refine bnd_g (by exact hp) ?_
  conv => lhs; whnf
  conv => lhs; arg 1; whnf
  refine bnd_g (by exact ⟨hd.2, by omega, by omega⟩) ?_
  conv => lhs; whnf
  refine br_c (fun g => ?_) (fun g => ?_)
  · have e : bent9 b (shlI n) (i, h) = ((draw9 b (shlI n) (i, h)).1 ++ [(bent2 b (nx b (draw9 b (shlI n) (i, h)).2), bent2 b (nx b (nx b (nx b (draw9 b (shlI n) (i, h)).2))))], nx b (nx b (nx b (nx b (nx b (draw9 b (shlI n) (i, h)).2))))) := by unfold bent9 bent9'; rw [g]; rfl
    conv => rhs; rw [e]
    conv => lhs; whnf
    conv => lhs; arg 1; whnf
    refine bnd_g (by exact n1) ?_
    conv => lhs; whnf
    conv => lhs; arg 1; whnf
    refine bnd_g (by exact n3) ?_
    conv => lhs; whnf
    refine br_t (dt (by simp [room]; omega)) ?_
    conv => lhs; whnf
    all_goals rfl
  · have e : bent9 b (shlI n) (i, h) = ((draw9 b (shlI n) (i, h)).1, nx b (draw9 b (shlI n) (i, h)).2) := by unfold bent9 bent9'; rw [g]; rfl
    conv => rhs; rw [e]
    conv => lhs; whnf
theorem ok_l9Bent : FnOk Tryz.prog 114 K_l9Bent := by
  refine fn_ok (fn := Tryz.f114) (k := Tryz.f114.ntmps) (E := E_l9Bent) (facts_of (List.forall_mem_cons.2 ⟨ok_l9Draw, List.forall_mem_cons.2 ⟨ok_l1Once, List.forall_mem_cons.2 ⟨ok_l2Bent, List.forall_mem_nil _⟩⟩⟩)) (by kernel_rfl) rfl (by decide +kernel) (by decide +kernel) ?_
  intro avs hin r h
  unfold K_l9Bent at h
  split at h
  · obtain ⟨hp, rfl⟩ := gd_o h
    exact ⟨_, ev_l9Bent _ _ _ _ hp, rfl⟩
  · cases h

/- spec.DrawClosedBy -/
def K_drawClosedBy : List AV → List Ob → Option (AV × List Ob)
  | [.lst (.int .u8) b], [] => gd (b.length ≤ 1048576) (.tup [.own 0, .int .i64 (clb9 b (newC b)).2], [.row 48 (.pair (.int .i64) (.int .i64)) (clb9 b (newC b)).1])
  | _, _ => none
@[reducible] def E_drawClosedBy : Env := mkE (tb [(86, K_l1New), (114, K_l9Bent), (115, K_l1Once), (107, K_l2Bent), (96, K_l1Below)]) (fun f => [114, 115, 107, 96].contains f) (fun r => ([], []))
theorem ev_drawClosedBy (b : List Int) (hp : b.length ≤ 1048576) : evF E_drawClosedBy (1) Tryz.f60 [.lst (.int .u8) b] [] = some (.tup [.own 0, .int .i64 (clb9 b (newC b)).2], [.row 48 (.pair (.int .i64) (.int .i64)) (clb9 b (newC b)).1]) := by
  have n0 := newC_ok hp
  have hd := bent9_ok (N := 32) n0
  have n1 := nx_ok hd.2
  conv => lhs; whnf
  conv => lhs; arg 1; whnf
  refine bnd_g (by exact hp) ?_
  conv => lhs; whnf
  conv => lhs; arg 1; whnf
  refine bnd_g (by exact ⟨n0, by omega, by omega⟩) ?_
  conv => lhs; whnf
  conv => lhs; arg 1; whnf
  refine bnd_g (by exact ⟨hd.2, by omega, by omega⟩) ?_
  conv => lhs; whnf
  refine br_c (fun g => ?_) (fun g => ?_)
  · have e : clb9 b (newC b) = ((bent9 b 32 (newC b)).1, bent2 b (nx b (bent9 b 32 (newC b)).2)) := by
      have g' : (be b (bent9 b 32 (newC b)).2 12 == 0) = true := g
      unfold clb9; rw [g']; rfl
    conv => rhs; rw [e]
    conv => lhs; whnf
    conv => lhs; arg 1; whnf
    refine bnd_g (by exact n1) ?_
    conv => lhs; whnf
    all_goals rfl
  · have e : clb9 b (newC b) = ((bent9 b 32 (newC b)).1, be b (nx b (bent9 b 32 (newC b)).2) 32) := by
      have g' : (be b (bent9 b 32 (newC b)).2 12 == 0) = false := g
      unfold clb9; rw [g']; rfl
    conv => rhs; rw [e]
    conv => lhs; whnf
    conv => lhs; arg 1; whnf
    refine bnd_g (by exact ⟨n1, by omega, by omega⟩) ?_
    conv => lhs; whnf
    all_goals rfl
theorem ok_drawClosedBy : FnOk Tryz.prog 60 K_drawClosedBy := by
  refine fn_ok (fn := Tryz.f60) (k := Tryz.f60.ntmps) (E := E_drawClosedBy) (facts_of (List.forall_mem_cons.2 ⟨ok_l1New, List.forall_mem_cons.2 ⟨ok_l9Bent, List.forall_mem_cons.2 ⟨ok_l1Once, List.forall_mem_cons.2 ⟨ok_l2Bent, List.forall_mem_cons.2 ⟨ok_l1Below, List.forall_mem_nil _⟩⟩⟩⟩⟩)) (by kernel_rfl) rfl (by decide +kernel) (by decide +kernel) ?_
  intro avs hin r h
  unfold K_drawClosedBy at h
  split at h
  · obtain ⟨hp, rfl⟩ := gd_o h
    exact ⟨_, ev_drawClosedBy _ hp, rfl⟩
  · cases h

/- spec.DrawBrokenRules -/
def K_drawBrokenRules : List AV → List Ob → Option (AV × List Ob)
  | [.lst (.int .u8) b], [] => gd (b.length ≤ 1048576) (.tup [.own 0, .int .i64 (clb9 b (newC b)).2], [.row 48 (.pair (.int .i64) (.int .i64)) (clb9 b (newC b)).1])
  | _, _ => none
@[reducible] def E_drawBrokenRules : Env := mkE (tb [(60, K_drawClosedBy)]) (fun f => false) (fun r => ([], []))
theorem ev_drawBrokenRules (b : List Int) (hp : b.length ≤ 1048576) : evF E_drawBrokenRules (1) Tryz.f13 [.lst (.int .u8) b] [] = some (.tup [.own 0, .int .i64 (clb9 b (newC b)).2], [.row 48 (.pair (.int .i64) (.int .i64)) (clb9 b (newC b)).1]) := by
  conv => lhs; whnf
  conv => lhs; arg 1; whnf
  refine bnd_g (by exact hp) ?_
  conv => lhs; whnf
theorem ok_drawBrokenRules : FnOk Tryz.prog 13 K_drawBrokenRules := by
  refine fn_ok (fn := Tryz.f13) (k := Tryz.f13.ntmps) (E := E_drawBrokenRules) (facts_of (List.forall_mem_cons.2 ⟨ok_drawClosedBy, List.forall_mem_nil _⟩)) (by kernel_rfl) rfl (by decide +kernel) (by decide +kernel) ?_
  intro avs hin r h
  unfold K_drawBrokenRules at h
  split at h
  · obtain ⟨hp, rfl⟩ := gd_o h
    exact ⟨_, ev_drawBrokenRules _ hp, rfl⟩
  · cases h

/- impl.onlyIn -/
def K_onlyIn : List AV → List Ob → Option (AV × List Ob)
  | [.agg [.int .i64 m, .lst (.int .i64) a], .agg [.int .i64 m', .lst (.int .i64) b]], [] => gd (a.length ≤ 1048576 ∧ b.length ≤ 1048576) (.own 0, [.row 3 (.int .i64) (missF (inlF m a) (inlF m' b))])
  | _, _ => none
@[reducible] def E_onlyIn : Env := mkE (tb [(109, K_implConcepts), (110, K_isClosed)]) (fun f => false) (fun r => bif r == 3 then ([3, 5, 10, 11, 12], [5]) else ([], []))
theorem lp_onlyIn (m : Int) (b : List Int) (hb : b.length ≤ 1048576) (l : List (Int × Int)) (hl : l.length ≤ 64) (k : AX → S → Option (AV × List Ob)) (d : Nat) : ∀ (n i : Nat) (x : Int) (ys : List Int), l.length - i = d → i ≤ l.length → x = i → d < n → ys.length ≤ i →
    lpAt E_onlyIn (lp E_onlyIn 0 n) 0 (loopAt Tryz.f56 0) (mkS [3, 5, 10, 11, 12] [.ptr 0 0, .own 1, .own 2, .int .i64 l.length, .int .i64 x] [some (.box 26 [.int .i64 m, .lst (.int .i64) b]), some (.row 3 (.int .i64) ys), some (.row 81 (.pair (.int .i64) (.int .i64)) l)]) k =
      k (.exit 0) (mkS [5] [.own 0] [some (.row 3 (.int .i64) (ys ++ ((l.drop i).map (·.2)).filter (fun v => !((isCtx m b && isSet m v) && closedI m b v))))]) := by
  induction d with
  | zero =>
    intro n i x ys hd hi hx hn hz
    subst hx
    rw [lpAt_def]
    conv => lhs; whnf
    refine br_f (df (by omega)) ?_
    conv => lhs; whnf
    rw [List.drop_of_length_le (by omega)]
    simp
  | succ d ih =>
    intro n i x ys hd hi hx hn hz
    obtain ⟨n, rfl⟩ : ∃ m, n = m + 1 := ⟨n - 1, by omega⟩
    subst hx
    rw [lpAt_def]
    conv => lhs; whnf
    refine br_t (dt (by omega)) ?_
    conv => lhs; whnf
    refine br_t (dt2 (by omega) (by omega)) ?_
    conv => lhs; whnf
    refine br_t (dt (by omega)) ?_
    conv => lhs; whnf
    conv => lhs; arg 1; whnf
    refine bnd_g (by omega) ?_
    conv => lhs; whnf
    refine br_c (fun h => ?_) (fun h => ?_)
    · have h' : (!((isCtx m b && isSet m (l.getD i (0, 0)).2) && closedI m b (l.getD i (0, 0)).2)) = true := h
      conv => lhs; whnf
      refine br_t (dt (by simp [room]; omega)) ?_
      conv => lhs; whnf
      rw [ih n (i + 1) _ _ (by omega) (by omega) (by rw [wrap64 (n := (i : Int) + 1) (by omega) (by omega)]; simp) (by omega) (by simp; omega)]
      rw [getD_drop (l := l) (i := i) (d := (0, 0)) (by omega), List.map_cons, List.filter_cons_of_pos (by exact h')]
      simp only [List.append_assoc]
      rfl
    · have h' : (!((isCtx m b && isSet m (l.getD i (0, 0)).2) && closedI m b (l.getD i (0, 0)).2)) = false := h
      conv => lhs; whnf
      rw [ih n (i + 1) _ _ (by omega) (by omega) (by rw [wrap64 (n := (i : Int) + 1) (by omega) (by omega)]; simp) (by omega) (by omega)]
      rw [getD_drop (l := l) (i := i) (d := (0, 0)) (by omega), List.map_cons, List.filter_cons_of_neg (by rw [h']; exact Bool.false_ne_true)]
theorem ev_onlyIn (m : Int) (a : List Int) (m' : Int) (b : List Int) (hp : a.length ≤ 1048576 ∧ b.length ≤ 1048576) : evF E_onlyIn (100) Tryz.f56 [.agg [.int .i64 m, .lst (.int .i64) a], .agg [.int .i64 m', .lst (.int .i64) b]] [] = some (.own 0, [.row 3 (.int .i64) (missF (inlF m a) (inlF m' b))]) := by
  have hl := concF_len m a
  conv => lhs; whnf
  conv => lhs; arg 1; whnf
  refine bnd_g (by exact hp.1) ?_
  conv => lhs; whnf
  refine (lp_onlyIn m' b hp.2 (concF m a) hl _ (concF m a).length _ 0 0 [] rfl (by omega) rfl (by change _ < 99; omega) (by simp)).trans ?_
  conv => lhs; whnf
  rw [← miss_only]
  rfl
theorem ok_onlyIn : FnOk Tryz.prog 56 K_onlyIn := by
  refine fn_ok (fn := Tryz.f56) (k := Tryz.f56.ntmps) (E := E_onlyIn) (facts_of (List.forall_mem_cons.2 ⟨ok_implConcepts, List.forall_mem_cons.2 ⟨ok_isClosed, List.forall_mem_nil _⟩⟩)) (by kernel_rfl) rfl (by decide +kernel) (by decide +kernel) ?_
  intro avs hin r h
  unfold K_onlyIn at h
  split at h
  · obtain ⟨hp, rfl⟩ := gd_o h
    exact ⟨_, ev_onlyIn _ _ _ _ hp, rfl⟩
  · cases h

/- impl.NewIntents -/
def K_implNewIntents : List AV → List Ob → Option (AV × List Ob)
  | [.agg [.int .i64 m, .lst (.int .i64) a], .int .i64 r], [] => gd (a.length ≤ 1048576) (.own 0, [.row 3 (.int .i64) (newF m a r)])
  | _, _ => none
@[reducible] def E_implNewIntents : Env := mkE (tb [(8, K_implInsertRow), (56, K_onlyIn)]) (fun f => false) (fun r => ([], []))
theorem ev_implNewIntents (m : Int) (a : List Int) (r : Int) (hp : a.length ≤ 1048576) : evF E_implNewIntents (1) Tryz.f10 [.agg [.int .i64 m, .lst (.int .i64) a], .int .i64 r] [] = some (.own 0, [.row 3 (.int .i64) (newF m a r)]) := by
  have hb := insF_len m a r
  conv => lhs; whnf
  conv => lhs; arg 1; whnf
  refine bnd_g (by exact hp) ?_
  conv => lhs; whnf
  refine br_c (fun h => ?_) (fun h => ?_)
  · unfold newF
    rw [bnt h]
    conv => lhs; whnf
    rfl
  · unfold newF
    rw [bnf h]
    conv => lhs; whnf
    conv => lhs; arg 1; whnf
    refine bnd_g (by exact ⟨by omega, hp⟩) ?_
    conv => lhs; whnf
    repeat ((first | with_reducible apply br_tt | with_reducible apply br_ff | with_reducible apply br_nf | with_reducible apply br_nt | with_reducible refine br_d ?_ (by kernel_rfl)); conv => lhs; whnf)
    rfl
theorem ok_implNewIntents : FnOk Tryz.prog 10 K_implNewIntents := by
  refine fn_ok (fn := Tryz.f10) (k := Tryz.f10.ntmps) (E := E_implNewIntents) (facts_of (List.forall_mem_cons.2 ⟨ok_implInsertRow, List.forall_mem_cons.2 ⟨ok_onlyIn, List.forall_mem_nil _⟩⟩)) (by kernel_rfl) rfl (by decide +kernel) (by decide +kernel) ?_
  intro avs hin r h
  unfold K_implNewIntents at h
  split at h
  · obtain ⟨hp, rfl⟩ := gd_o h
    exact ⟨_, ev_implNewIntents _ _ _ hp, rfl⟩
  · cases h

/- spec.l27Intents -/
def K_l27Intents : List AV → List Ob → Option (AV × List Ob)
  | [.agg [.int .i64 m, .lst (.int .i64) a]], [] => gd (a.length ≤ 1048576) (.own 0, [.row 3 (.int .i64) (inlF m a)])
  | _, _ => none
@[reducible] def E_l27Intents : Env := mkE (tb [(24, K_specConcepts)]) (fun f => false) (fun r => bif r == 4 then ([3, 4, 5], [3]) else ([], []))
theorem lp_l27Intents (l : List (Int × Int)) (hl : l.length ≤ 64) (k : AX → S → Option (AV × List Ob)) (d : Nat) : ∀ (n i : Nat) (x : Int) (ys : List Int), l.length - i = d → i ≤ l.length → x = i → d < n → ys.length ≤ i →
    lpAt E_l27Intents (lp E_l27Intents 0 n) 0 (loopAt Tryz.f65 0) (mkS [3, 4, 5] [.own 0, .own 1, .int .i64 x] [some (.row 3 (.int .i64) ys), some (.row 81 (.pair (.int .i64) (.int .i64)) l)]) k =
      k (.exit 0) (mkS [3] [.own 0] [some (.row 3 (.int .i64) (ys ++ (l.drop i).map (·.2)))]) := by
  induction d with
  | zero =>
    intro n i x ys hd hi hx hn hz
    subst hx
    rw [lpAt_def]
    conv => lhs; whnf
    refine br_f (df (by omega)) ?_
    conv => lhs; whnf
    rw [List.drop_of_length_le (by omega)]
    simp
  | succ d ih =>
    intro n i x ys hd hi hx hn hz
    obtain ⟨n, rfl⟩ : ∃ m, n = m + 1 := ⟨n - 1, by omega⟩
    subst hx
    rw [lpAt_def]
    conv => lhs; whnf
    refine br_t (dt (by omega)) ?_
    conv => lhs; whnf
    refine br_t (dt2 (by omega) (by omega)) ?_
    conv => lhs; whnf
    refine br_t (dt (by omega)) ?_
    conv => lhs; whnf
    refine br_t (dt (by simp [room]; omega)) ?_
    conv => lhs; whnf
    rw [ih n (i + 1) _ _ (by omega) (by omega) (by rw [wrap64 (n := (i : Int) + 1) (by omega) (by omega)]; simp) (by omega) (by simp; omega)]
    rw [getD_drop (l := l) (i := i) (d := (0, 0)) (by omega), List.map_cons]
    simp only [List.append_assoc]
    rfl
theorem ev_l27Intents (m : Int) (a : List Int) (hp : a.length ≤ 1048576) : evF E_l27Intents (100) Tryz.f65 [.agg [.int .i64 m, .lst (.int .i64) a]] [] = some (.own 0, [.row 3 (.int .i64) (inlF m a)]) := by
  have hl := concF_len m a
  conv => lhs; whnf
  conv => lhs; arg 1; whnf
  refine bnd_g (by exact hp) ?_
  conv => lhs; whnf
  refine (lp_l27Intents (concF m a) hl _ (concF m a).length _ 0 0 [] rfl (by omega) rfl (by change _ < 99; omega) (by simp)).trans ?_
  conv => lhs; whnf
  rfl
theorem ok_l27Intents : FnOk Tryz.prog 65 K_l27Intents := by
  refine fn_ok (fn := Tryz.f65) (k := Tryz.f65.ntmps) (E := E_l27Intents) (facts_of (List.forall_mem_cons.2 ⟨ok_specConcepts, List.forall_mem_nil _⟩)) (by kernel_rfl) rfl (by decide +kernel) (by decide +kernel) ?_
  intro avs hin r h
  unfold K_l27Intents at h
  split at h
  · obtain ⟨hp, rfl⟩ := gd_o h
    exact ⟨_, ev_l27Intents _ _ hp, rfl⟩
  · cases h

/- spec.l27Missing -/
def K_l27Missing : List AV → List Ob → Option (AV × List Ob)
  | [.lst (.int .i64) a, .lst (.int .i64) b], [] => gd (a.length ≤ 64 ∧ b.length ≤ 64) (.own 0, [.row 3 (.int .i64) (missF a b)])
  | _, _ => none
@[reducible] def E_l27Missing : Env := mkE (tb [(121, K_l2In)]) (fun f => false) (fun r => bif r == 3 then ([0, 1, 5, 6], [5]) else ([], []))
theorem lp_l27Missing (a b : List Int) (hl : a.length ≤ 64) (hb : b.length ≤ 64) (k : AX → S → Option (AV × List Ob)) (d : Nat) : ∀ (n i : Nat) (x : Int) (ys : List Int), a.length - i = d → i ≤ a.length → x = i → d < n → ys.length ≤ i →
    lpAt E_l27Missing (lp E_l27Missing 0 n) 0 (loopAt Tryz.f64 0) (mkS [0, 1, 5, 6] [.lst (.int .i64) a, .lst (.int .i64) b, .own 0, .int .i64 x] [some (.row 3 (.int .i64) ys)]) k =
      k (.exit 0) (mkS [5] [.own 0] [some (.row 3 (.int .i64) (ys ++ missF (a.drop i) b))]) := by
  induction d with
  | zero =>
    intro n i x ys hd hi hx hn hz
    subst hx
    rw [lpAt_def]
    conv => lhs; whnf
    refine br_f (df (by omega)) ?_
    conv => lhs; whnf
    rw [List.drop_of_length_le (by omega)]
    simp [missF]
  | succ d ih =>
    intro n i x ys hd hi hx hn hz
    obtain ⟨n, rfl⟩ : ∃ m, n = m + 1 := ⟨n - 1, by omega⟩
    subst hx
    rw [lpAt_def]
    conv => lhs; whnf
    refine br_t (dt (by omega)) ?_
    conv => lhs; whnf
    refine br_t (dt2 (by omega) (by omega)) ?_
    conv => lhs; whnf
    conv => lhs; arg 1; whnf
    refine bnd_g (by omega) ?_
    conv => lhs; whnf
    refine br_c (fun h => ?_) (fun h => ?_)
    · have h' : (!b.any (fun y => y == a.getD i 0)) = true := h
      conv => lhs; whnf
      refine br_t (dt2 (by omega) (by omega)) ?_
      conv => lhs; whnf
      refine br_t (dt (by simp [room]; omega)) ?_
      conv => lhs; whnf
      rw [ih n (i + 1) _ _ (by omega) (by omega) (by rw [wrap64 (n := (i : Int) + 1) (by omega) (by omega)]; simp) (by omega) (by simp; omega)]
      rw [getD_drop (l := a) (i := i) (d := 0) (by omega)]
      unfold missF
      rw [List.filter_cons_of_pos (by exact h')]
      simp only [List.append_assoc]
      rfl
    · have h' : (!b.any (fun y => y == a.getD i 0)) = false := h
      conv => lhs; whnf
      rw [ih n (i + 1) _ _ (by omega) (by omega) (by rw [wrap64 (n := (i : Int) + 1) (by omega) (by omega)]; simp) (by omega) (by omega)]
      rw [getD_drop (l := a) (i := i) (d := 0) (by omega)]
      unfold missF
      rw [List.filter_cons_of_neg (by rw [h']; exact Bool.false_ne_true)]
theorem ev_l27Missing (a b : List Int) (hp : a.length ≤ 64 ∧ b.length ≤ 64) : evF E_l27Missing (100) Tryz.f64 [.lst (.int .i64) a, .lst (.int .i64) b] [] = some (.own 0, [.row 3 (.int .i64) (missF a b)]) := by
  conv => lhs; whnf
  refine (lp_l27Missing a b hp.1 hp.2 _ a.length _ 0 0 [] rfl (by omega) rfl (by change _ < 99; omega) (by simp)).trans ?_
  conv => lhs; whnf
  rfl
theorem ok_l27Missing : FnOk Tryz.prog 64 K_l27Missing := by
  refine fn_ok (fn := Tryz.f64) (k := Tryz.f64.ntmps) (E := E_l27Missing) (facts_of (List.forall_mem_cons.2 ⟨ok_l2In, List.forall_mem_nil _⟩)) (by kernel_rfl) rfl (by decide +kernel) (by decide +kernel) ?_
  intro avs hin r h
  unfold K_l27Missing at h
  split at h
  · obtain ⟨hp, rfl⟩ := gd_o h
    exact ⟨_, ev_l27Missing _ _ hp, rfl⟩
  · cases h

/- spec.NewIntents -/
def K_specNewIntents : List AV → List Ob → Option (AV × List Ob)
  | [.agg [.int .i64 m, .lst (.int .i64) a], .int .i64 r], [] => gd (a.length ≤ 1048576) (.own 0, [.row 3 (.int .i64) (newF m a r)])
  | _, _ => none
@[reducible] def E_specNewIntents : Env := mkE (tb [(9, K_specInsertRow), (65, K_l27Intents), (64, K_l27Missing)]) (fun f => false) (fun r => ([], []))
theorem ev_specNewIntents (m : Int) (a : List Int) (r : Int) (hp : a.length ≤ 1048576) : evF E_specNewIntents (1) Tryz.f18 [.agg [.int .i64 m, .lst (.int .i64) a], .int .i64 r] [] = some (.own 0, [.row 3 (.int .i64) (newF m a r)]) := by
  have hb := insF_len m a r
  have h1 := inlF_len (insF m a r).1 (insF m a r).2.1
  have h2 := inlF_len m a
  conv => lhs; whnf
  conv => lhs; arg 1; whnf
  refine bnd_g (by exact hp) ?_
  conv => lhs; whnf
  refine br_c (fun h => ?_) (fun h => ?_)
  · unfold newF
    rw [bnt h]
    conv => lhs; whnf
    rfl
  · unfold newF
    rw [bnf h]
    conv => lhs; whnf
    conv => lhs; arg 1; whnf
    refine bnd_g (by omega) ?_
    conv => lhs; whnf
    conv => lhs; arg 1; whnf
    refine bnd_g (by exact hp) ?_
    conv => lhs; whnf
    conv => lhs; arg 1; whnf
    refine bnd_g (by exact ⟨h1, h2⟩) ?_
    conv => lhs; whnf
    repeat ((first | with_reducible apply br_tt | with_reducible apply br_ff | with_reducible apply br_nf | with_reducible apply br_nt | with_reducible refine br_d ?_ (by kernel_rfl)); conv => lhs; whnf)
    rfl
theorem ok_specNewIntents : FnOk Tryz.prog 18 K_specNewIntents := by
  refine fn_ok (fn := Tryz.f18) (k := Tryz.f18.ntmps) (E := E_specNewIntents) (facts_of (List.forall_mem_cons.2 ⟨ok_specInsertRow, List.forall_mem_cons.2 ⟨ok_l27Intents, List.forall_mem_cons.2 ⟨ok_l27Missing, List.forall_mem_nil _⟩⟩⟩)) (by kernel_rfl) rfl (by decide +kernel) (by decide +kernel) ?_
  intro avs hin r h
  unfold K_specNewIntents at h
  split at h
  · obtain ⟨hp, rfl⟩ := gd_o h
    exact ⟨_, ev_specNewIntents _ _ _ hp, rfl⟩
  · cases h

/- impl.isObject -/
def K_isObject : List AV → List Ob → Option (AV × List Ob)
  | [.agg [.int .i64 m, .lst (.int .i64) b], .int .i64 g], [] => gd (b.length ≤ 1048576) (.bool (!notObj m b g), [])
  | _, _ => none
@[reducible] def E_isObject : Env := mkE (tb [(80, K_implIsContext), (111, K_within)]) (fun f => false) (fun r => ([], []))
theorem ev_isObject (m : Int) (b : List Int) (g : Int) (hp : b.length ≤ 1048576) : evF E_isObject (1) Tryz.f58 [.agg [.int .i64 m, .lst (.int .i64) b], .int .i64 g] [] = some (.bool (!notObj m b g), []) := by
  conv => lhs; whnf
  conv => lhs; arg 1; whnf
  refine bnd_g (by omega) ?_
  conv => lhs; whnf
  refine br_c (fun h => ?_) (fun h => ?_)
  · conv => lhs; whnf
    repeat ((first | with_reducible apply br_tt | with_reducible apply br_ff | with_reducible apply br_nf | with_reducible apply br_nt | with_reducible refine br_d ?_ (by kernel_rfl) | with_reducible apply br_t h | with_reducible apply br_f h); conv => lhs; whnf)
    rw [wrap64 (by omega) (by omega)]
    conv => lhs; arg 1; whnf
    refine bnd_g (by exact True.intro) ?_
    conv => lhs; whnf
    repeat ((first | with_reducible apply br_tt | with_reducible apply br_ff | with_reducible apply br_nf | with_reducible apply br_nt | with_reducible refine br_d ?_ (by kernel_rfl) | with_reducible apply br_t h | with_reducible apply br_f h); conv => lhs; whnf)
    refine okB ?_
    unfold notObj
    rw [h, Bool.not_not, Bool.true_and]
  · conv => lhs; whnf
    repeat ((first | with_reducible apply br_tt | with_reducible apply br_ff | with_reducible apply br_nf | with_reducible apply br_nt | with_reducible refine br_d ?_ (by kernel_rfl) | with_reducible apply br_t h | with_reducible apply br_f h); conv => lhs; whnf)
    refine okB ?_
    unfold notObj
    rw [h]
    rfl
theorem ok_isObject : FnOk Tryz.prog 58 K_isObject := by
  refine fn_ok (fn := Tryz.f58) (k := Tryz.f58.ntmps) (E := E_isObject) (facts_of (List.forall_mem_cons.2 ⟨ok_implIsContext, List.forall_mem_cons.2 ⟨ok_within, List.forall_mem_nil _⟩⟩)) (by kernel_rfl) rfl (by decide +kernel) (by decide +kernel) ?_
  intro avs hin r h
  unfold K_isObject at h
  split at h
  · obtain ⟨hp, rfl⟩ := gd_o h
    exact ⟨_, ev_isObject _ _ _ hp, rfl⟩
  · cases h

def renS (s e q : Int) (k : Nat) : Int := bor q (IntKind.i64.wrap (band (s.fdiv (2 ^ min e.toNat IntKind.i64.bits)) 1 * 2 ^ min (k : Int).toNat IntKind.i64.bits))
def renL (s : Int) : List Int → Nat → Int → Int
  | [], _, q => q
  | e :: l, k, q => renL s l (k + 1) (renS s e q k)
def renF (s c : Int) : Int := renL s (elemsF c) 0 0
theorem ren_all : ∀ m : Fin 7, ∀ x : Fin 64, x.val < 2 ^ m.val → renF (x.val : Int) (bnot (fullSet (m.val : Int)) 0) = (x.val : Int) := by decide +kernel
theorem cnt_all : ∀ m : Fin 7, cntF (bnot (fullSet (m.val : Int)) 0) = (m.val : Int) := by decide +kernel
theorem ren_id {m x : Int} (hm : m ≤ 6) (h : isSet m x = true) : renF x (bnot (fullSet m) 0) = x := by
  have hl := isSet_le h
  obtain ⟨t, rfl, ht⟩ := isSet_ex h
  obtain ⟨n, rfl⟩ : ∃ n : Nat, m = n := ⟨m.toNat, by omega⟩
  rw [Int.toNat_natCast] at ht
  have h6 : 2 ^ n ≤ 2 ^ 6 := Nat.pow_le_pow_right (by omega) (by omega)
  exact ren_all ⟨n, by omega⟩ ⟨t, by omega⟩ ht
theorem cnt_id {m : Int} (h0 : 0 ≤ m) (hm : m ≤ 6) : cntF (bnot (fullSet m) 0) = m := by
  obtain ⟨n, rfl⟩ : ∃ n : Nat, m = n := ⟨m.toNat, by omega⟩
  exact cnt_all ⟨n, by omega⟩
/- impl.renumbered -/
def K_renumbered : List AV → List Ob → Option (AV × List Ob)
  | [.int .i64 s, .int .i64 c], [] => gd (True) (.int .i64 (renF s c), [])
  | _, _ => none
@[reducible] def E_renumbered : Env := mkE (tb [(149, K_elementsOf)]) (fun f => false) (fun r => bif r == 3 then ([0, 5, 9, 10, 11], [5]) else ([], []))
theorem lp_renumbered (s : Int) (l : List Int) (hl : l.length ≤ 8) (hm : ∀ x ∈ l, 0 ≤ x ∧ x ≤ 7) (k : AX → S → Option (AV × List Ob)) (d : Nat) : ∀ (n i : Nat) (x q : Int), l.length - i = d → i ≤ l.length → x = i → d < n →
    lpAt E_renumbered (lp E_renumbered 0 n) 0 (loopAt Tryz.f113 0) (mkS [0, 5, 9, 10, 11] [.int .i64 s, .int .i64 q, .own 0, .int .i64 l.length, .int .i64 x] [some (.row 3 (.int .i64) l)]) k =
      k (.exit 0) (mkS [5] [.int .i64 (renL s (l.drop i) i q)] []) := by
  induction d with
  | zero =>
    intro n i x q hd hi hx hn
    subst hx
    rw [lpAt_def]
    conv => lhs; whnf
    refine br_f (df (by omega)) ?_
    conv => lhs; whnf
    rw [List.drop_of_length_le (by omega)]
    rfl
  | succ d ih =>
    intro n i x q hd hi hx hn
    obtain ⟨n, rfl⟩ : ∃ m, n = m + 1 := ⟨n - 1, by omega⟩
    subst hx
    have he := hm _ (mem_getD (d := 0) (show i < l.length by omega))
    rw [lpAt_def]
    conv => lhs; whnf
    refine br_t (dt (by omega)) ?_
    conv => lhs; whnf
    refine br_t (dt2 (by omega) (by omega)) ?_
    conv => lhs; whnf
    refine br_t (dt (by omega)) ?_
    conv => lhs; whnf
    refine br_f (by exact df (show ¬ l.getD i 0 < 0 by omega)) ?_
    conv => lhs; whnf
    refine br_f (df (by omega)) ?_
    conv => lhs; whnf
    refine Eq.trans (ih n (i + 1) _ _ (by omega) (by omega) (by rw [wrap64 (n := (i : Int) + 1) (by omega) (by omega)]; simp) (by omega)) ?_
    rw [getD_drop (l := l) (i := i) (d := 0) (by omega), renL]
    rfl
theorem ev_renumbered (s c : Int) (hp : True) : evF E_renumbered (20) Tryz.f113 [.int .i64 s, .int .i64 c] [] = some (.int .i64 (renF s c), []) := by
  have he : (elemsF c).length ≤ 8 := elemsL_length _ _ _
  conv => lhs; whnf
  conv => lhs; arg 1; whnf
  refine bnd_g (by exact True.intro) ?_
  conv => lhs; whnf
  refine (lp_renumbered s (elemsF c) he (fun x hx => by obtain ⟨e, h1, h2, h3, h4⟩ := elemsL_mem c x 8 0 hx; omega) _ (elemsF c).length _ 0 0 0 rfl (by omega) rfl (by change _ < 19; omega)).trans ?_
  conv => lhs; whnf
  rfl
theorem ok_renumbered : FnOk Tryz.prog 113 K_renumbered := by
  refine fn_ok (fn := Tryz.f113) (k := Tryz.f113.ntmps) (E := E_renumbered) (facts_of (List.forall_mem_cons.2 ⟨ok_elementsOf, List.forall_mem_nil _⟩)) (by kernel_rfl) rfl (by decide +kernel) (by decide +kernel) ?_
  intro avs hin r h
  unfold K_renumbered at h
  split at h
  · obtain ⟨hp, rfl⟩ := gd_o h
    exact ⟨_, ev_renumbered _ _ hp, rfl⟩
  · cases h

/- impl.without -/
def K_without0 : List AV → List Ob → Option (AV × List Ob)
  | [.agg [.int .i64 m, .lst (.int .i64) b], .int .i64 s, .int .i64 0], [] => gd (isCtx m b = true) (.agg [.int .i64 m, .own 0], [.row 3 (.int .i64) (dropL s b 0)])
  | _, _ => none
@[reducible] def E_without0 : Env := mkE (tb [(102, K_implFullSet), (98, K_implCountOf), (112, K_hasElement), (113, K_renumbered)]) (fun f => false) (fun r => bif r == 4 then ([1, 6, 7, 8, 20, 21, 22], [6, 8]) else ([], []))
theorem lp_without0 (m : Int) (b : List Int) (hc : isCtx m b = true) (s : Int) (A : Int) (k : AX → S → Option (AV × List Ob)) (d : Nat) : ∀ (n i : Nat) (x : Int) (zs : List Int), b.length - i = d → i ≤ b.length → x = i → d < n → zs.length ≤ i →
    lpAt E_without0 (lp E_without0 0 n) 0 (loopAt Tryz.f59 0) (mkS [1, 6, 7, 8, 20, 21, 22] [.int .i64 s, .ptr 0 0, .int .i64 (bnot (fullSet m) 0), .ptr 2 0, .lst (.int .i64) b, .int .i64 b.length, .int .i64 x] [some (.box 26 [.int .i64 0, .own 1]), some (.row 3 (.int .i64) []), some (.box 26 [.int .i64 A, .own 3]), some (.row 3 (.int .i64) zs)]) k =
      k (.exit 0) (mkS [6, 8] [.ptr 0 0, .ptr 2 0] [some (.box 26 [.int .i64 0, .own 1]), some (.row 3 (.int .i64) []), some (.box 26 [.int .i64 A, .own 3]), some (.row 3 (.int .i64) (zs ++ dropL s (b.drop i) i))]) := by
  have hlen := isCtx_len hc
  induction d with
  | zero =>
    intro n i x zs hd hi hx hn hz
    subst hx
    rw [lpAt_def]
    conv => lhs; whnf
    refine br_f (df (by omega)) ?_
    conv => lhs; whnf
    rw [List.drop_of_length_le (by omega), dropL, List.append_nil]
  | succ d ih =>
    intro n i x zs hd hi hx hn hz
    obtain ⟨n, rfl⟩ : ∃ m, n = m + 1 := ⟨n - 1, by omega⟩
    subst hx
    have hren : renF (b.getD i 0) (bnot (fullSet m) 0) = b.getD i 0 := ren_id hlen.2.2.1 (hlen.2.2.2 _ (mem_getD (by omega)))
    rw [lpAt_def]
    conv => lhs; whnf
    refine br_t (dt (by omega)) ?_
    conv => lhs; whnf
    refine br_t (dt2 (by omega) (by omega)) ?_
    conv => lhs; whnf
    conv => lhs; arg 1; whnf
    refine bnd_g (by exact True.intro) ?_
    conv => lhs; whnf
    rw [getD_drop (l := b) (i := i) (d := 0) (by omega)]
    refine br_c (fun h => ?_) (fun h => ?_)
    · have h' : hasE s i = false := bnt h
      conv => lhs; whnf
      conv => lhs; arg 1; whnf
      refine bnd_g (by exact True.intro) ?_
      conv => lhs; whnf
      refine br_t (dt (by simp [room]; omega)) ?_
      conv => lhs; whnf
      repeat ((first | with_reducible apply br_tt | with_reducible apply br_ff | with_reducible apply br_nf | with_reducible apply br_nt | with_reducible refine br_d ?_ (by kernel_rfl)); conv => lhs; whnf)
      rw [ih n (i + 1) _ _ (by omega) (by omega) (by rw [wrap64 (by omega) (by omega)]; simp) (by omega) (by simp; omega)]
      rw [dropL, h', cond_false]
      simp only [List.append_assoc]
      exact congrArg (fun z => k (.exit 0) (mkS [6, 8] [.ptr 0 0, .ptr 2 0] [some (.box 26 [.int .i64 0, .own 1]), some (.row 3 (.int .i64) []), some (.box 26 [.int .i64 A, .own 3]), some (.row 3 (.int .i64) (zs ++ ([z] ++ dropL s (b.drop (i + 1)) (i + 1))))])) hren
    · have h' : hasE s i = true := bnf h
      conv => lhs; whnf
      rw [ih n (i + 1) _ _ (by omega) (by omega) (by rw [wrap64 (by omega) (by omega)]; simp) (by omega) (by omega)]
      rw [dropL, h', cond_true]
theorem ev_without0 (m : Int) (b : List Int) (s : Int) (hp : isCtx m b = true) : evF E_without0 (20) Tryz.f59 [.agg [.int .i64 m, .lst (.int .i64) b], .int .i64 s, .int .i64 0] [] = some (.agg [.int .i64 m, .own 0], [.row 3 (.int .i64) (dropL s b 0)]) := by
  have hl := isCtx_len hp
  conv => lhs; whnf
  conv => lhs; arg 1; whnf
  refine bnd_g (by exact True.intro) ?_
  conv => lhs; whnf
  conv => lhs; arg 1; whnf
  refine bnd_g (by exact True.intro) ?_
  conv => lhs; whnf
  refine (lp_without0 m b hp s _ _ b.length _ 0 0 [] rfl (by omega) rfl (by change _ < 19; omega) (by simp)).trans ?_
  conv => lhs; whnf
  refine congrArg (fun z => some (AV.agg [.int .i64 z, .own 0], [Ob.row 3 (.int .i64) (dropL s b 0)])) ?_
  exact cnt_id hl.2.1 hl.2.2.1
theorem ok_without0 : FnOk Tryz.prog 59 K_without0 := by
  refine fn_ok (fn := Tryz.f59) (k := Tryz.f59.ntmps) (E := E_without0) (facts_of (List.forall_mem_cons.2 ⟨ok_implFullSet, List.forall_mem_cons.2 ⟨ok_implCountOf, List.forall_mem_cons.2 ⟨ok_hasElement, List.forall_mem_cons.2 ⟨ok_renumbered, List.forall_mem_nil _⟩⟩⟩⟩)) (by kernel_rfl) rfl (by decide +kernel) (by decide +kernel) ?_
  intro avs hin r h
  unfold K_without0 at h
  split at h
  · obtain ⟨hp, rfl⟩ := gd_o h
    exact ⟨_, ev_without0 _ _ _ hp, rfl⟩
  · cases h

/- impl.LostIntents -/
def K_implLostIntents : List AV → List Ob → Option (AV × List Ob)
  | [.agg [.int .i64 m, .lst (.int .i64) b], .int .i64 g], [] => gd (b.length ≤ 1048576) (.own 0, [.row 3 (.int .i64) (lostF m b g)])
  | _, _ => none
@[reducible] def E_implLostIntents : Env := mkE (tb [(58, K_isObject), (59, K_without0), (56, K_onlyIn)]) (fun f => false) (fun r => ([], []))
theorem ev_implLostIntents (m : Int) (b : List Int) (g : Int) (hp : b.length ≤ 1048576) : evF E_implLostIntents (1) Tryz.f12 [.agg [.int .i64 m, .lst (.int .i64) b], .int .i64 g] [] = some (.own 0, [.row 3 (.int .i64) (lostF m b g)]) := by
  conv => lhs; whnf
  conv => lhs; arg 1; whnf
  refine bnd_g (by exact hp) ?_
  conv => lhs; whnf
  refine br_c (fun h => ?_) (fun h => ?_)
  · have h' : notObj m b g = true := by simpa using h
    have hf : lostF m b g = [] := by
      unfold lostF
      rw [h']
      rfl
    rw [hf]
    conv => lhs; whnf
  · have h' : notObj m b g = false := by simpa using h
    have h2 : isCtx m b = true ∧ 0 ≤ g ∧ g < (b.length : Int) := by
      unfold notObj at h'
      have h3 := bnf h'
      rw [Bool.and_eq_true] at h3
      have h4 := ofd h3.2
      exact ⟨h3.1, by omega, by omega⟩
    have hl := isCtx_len h2.1
    obtain ⟨n, rfl⟩ : ∃ n : Nat, g = n := ⟨g.toNat, by omega⟩
    have hsh : IntKind.i64.wrap (1 * 2 ^ min (n : Int).toNat IntKind.i64.bits) = ((2 ^ n : Nat) : Int) := shl1 (by omega)
    unfold lostF
    rw [h', cond_false]
    conv => lhs; whnf
    refine br_f (df (by omega)) ?_
    conv => lhs; whnf
    conv => lhs; arg 1; whnf
    refine bnd_g (by exact h2.1) ?_
    conv => lhs; whnf
    conv => lhs; arg 1; whnf
    refine bnd_g (by exact ⟨hp, Nat.le_trans (dropL_len _ _ _) hp⟩) ?_
    conv => lhs; whnf
    repeat ((first | with_reducible apply br_tt | with_reducible apply br_ff | with_reducible apply br_nf | with_reducible apply br_nt | with_reducible refine br_d ?_ (by kernel_rfl)); conv => lhs; whnf)
    rw [hsh]
    rfl
theorem ok_implLostIntents : FnOk Tryz.prog 12 K_implLostIntents := by
  refine fn_ok (fn := Tryz.f12) (k := Tryz.f12.ntmps) (E := E_implLostIntents) (facts_of (List.forall_mem_cons.2 ⟨ok_isObject, List.forall_mem_cons.2 ⟨ok_without0, List.forall_mem_cons.2 ⟨ok_onlyIn, List.forall_mem_nil _⟩⟩⟩)) (by kernel_rfl) rfl (by decide +kernel) (by decide +kernel) ?_
  intro avs hin r h
  unfold K_implLostIntents at h
  split at h
  · obtain ⟨hp, rfl⟩ := gd_o h
    exact ⟨_, ev_implLostIntents _ _ _ hp, rfl⟩
  · cases h

/- spec.DropObjects -/
def K_specDropObjects : List AV → List Ob → Option (AV × List Ob)
  | [.agg [.int .i64 m, .lst (.int .i64) b], .int .i64 s], [] => gd (isCtx m b = true ∧ isSet b.length s = true) (.tup [.agg [.int .i64 m, .own 0], .bool true], [.row 3 (.int .i64) (dropL s b 0)])
  | _, _ => none
@[reducible] def E_specDropObjects : Env := mkE (tb [(53, K_specIsContext), (54, K_specIsSet), (122, K_l2Has)]) (fun f => false) (fun r => bif r == 5 then ([1, 2, 4, 6, 7], [4, 6]) else ([], []))
theorem lp_specDropObjects (m : Int) (b : List Int) (hb : b.length ≤ 8) (s : Int) (hs : isSet 8 s = true) (k : AX → S → Option (AV × List Ob)) (d : Nat) : ∀ (n i : Nat) (x : Int) (zs : List Int), b.length - i = d → i ≤ b.length → x = i → d < n → zs.length ≤ i →
    lpAt E_specDropObjects (lp E_specDropObjects 0 n) 0 (loopAt Tryz.f67 0) (mkS [1, 2, 4, 6, 7] [.int .i64 s, .ptr 0 0, .ptr 1 0, .ptr 3 0, .int .i64 x] [some (.box 26 [.int .i64 m, .lst (.int .i64) b]), some (.box 26 [.int .i64 0, .own 2]), some (.row 3 (.int .i64) []), some (.box 26 [.int .i64 m, .own 4]), some (.row 3 (.int .i64) zs)]) k =
      k (.exit 0) (mkS [4, 6] [.ptr 0 0, .ptr 2 0] [some (.box 26 [.int .i64 0, .own 1]), some (.row 3 (.int .i64) []), some (.box 26 [.int .i64 m, .own 3]), some (.row 3 (.int .i64) (zs ++ dropL s (b.drop i) i))]) := by
  have hr := isSet_le hs
  induction d with
  | zero =>
    intro n i x zs hd hi hx hn hz
    subst hx
    rw [lpAt_def]
    conv => lhs; whnf
    refine br_f (df (by omega)) ?_
    conv => lhs; whnf
    rw [List.drop_of_length_le (by omega), dropL, List.append_nil]
  | succ d ih =>
    intro n i x zs hd hi hx hn hz
    obtain ⟨n, rfl⟩ : ∃ m, n = m + 1 := ⟨n - 1, by omega⟩
    subst hx
    have hE : hasE s i = s.toNat.testBit (i : Int).toNat := by
      unfold hasE
      rw [hs, dt (show 0 ≤ (i : Int) ∧ (i : Int) ≤ 7 by omega)]
      rfl
    rw [lpAt_def]
    conv => lhs; whnf
    refine br_t (dt (by omega)) ?_
    conv => lhs; whnf
    conv => lhs; arg 1; whnf
    refine bnd_g (by exact ⟨⟨by omega, by omega⟩, by omega, by omega⟩) ?_
    conv => lhs; whnf
    rw [getD_drop (l := b) (i := i) (d := 0) (by omega)]
    refine br_c (fun h => ?_) (fun h => ?_)
    · have h' : s.toNat.testBit (i : Int).toNat = false := bnt h
      conv => lhs; whnf
      refine br_t (dt2 (by omega) (by omega)) ?_
      conv => lhs; whnf
      refine br_t (dt (by simp [room]; omega)) ?_
      conv => lhs; whnf
      repeat ((first | with_reducible apply br_tt | with_reducible apply br_ff | with_reducible apply br_nf | with_reducible apply br_nt | with_reducible refine br_d ?_ (by kernel_rfl)); conv => lhs; whnf)
      rw [ih n (i + 1) _ _ (by omega) (by omega) (by rw [wrap64 (by omega) (by omega)]; simp) (by omega) (by simp; omega)]
      rw [dropL, hE, h', cond_false]
      simp only [List.append_assoc]
      rfl
    · have h' : s.toNat.testBit (i : Int).toNat = true := bnf h
      conv => lhs; whnf
      rw [ih n (i + 1) _ _ (by omega) (by omega) (by rw [wrap64 (by omega) (by omega)]; simp) (by omega) (by omega)]
      rw [dropL, hE, h', cond_true]
theorem ev_specDropObjects (m : Int) (b : List Int) (s : Int) (hp : isCtx m b = true ∧ isSet b.length s = true) : evF E_specDropObjects (20) Tryz.f67 [.agg [.int .i64 m, .lst (.int .i64) b], .int .i64 s] [] = some (.tup [.agg [.int .i64 m, .own 0], .bool true], [.row 3 (.int .i64) (dropL s b 0)]) := by
  have hl := isCtx_len hp.1
  have hr := isSet_le hp.2
  conv => lhs; whnf
  conv => lhs; arg 1; whnf
  refine bnd_g (by omega) ?_
  conv => lhs; whnf
  refine br_c (fun h => ?_) (fun h => ?_)
  · exact absurd hp.1 (by rw [bnt h]; exact Bool.false_ne_true)
  · conv => lhs; whnf
    repeat ((first | with_reducible apply br_tt | with_reducible apply br_ff | with_reducible apply br_nf | with_reducible apply br_nt | with_reducible refine br_d ?_ (by kernel_rfl) | with_reducible apply br_t h | with_reducible apply br_f h); conv => lhs; whnf)
    conv => lhs; arg 1; whnf
    refine bnd_g (by exact True.intro) ?_
    conv => lhs; whnf
    repeat ((first | with_reducible apply br_tt | with_reducible apply br_ff | with_reducible apply br_nf | with_reducible apply br_nt | with_reducible refine br_d ?_ (by kernel_rfl) | with_reducible apply br_t h | with_reducible apply br_f h); conv => lhs; whnf)
    refine br_c (fun h2 => ?_) (fun h2 => ?_)
    · exact absurd hp.2 (by rw [bnt h2]; exact Bool.false_ne_true)
    · conv => lhs; whnf
      repeat ((first | with_reducible apply br_tt | with_reducible apply br_ff | with_reducible apply br_nf | with_reducible apply br_nt | with_reducible refine br_d ?_ (by kernel_rfl) | with_reducible apply br_t h2 | with_reducible apply br_f h2); conv => lhs; whnf)
      refine (lp_specDropObjects m b hl.1 s (by rw [isSet8]; exact dt ⟨by omega, by omega⟩) _ b.length _ 0 0 [] rfl (by omega) rfl (by change _ < 19; omega) (by simp)).trans ?_
      conv => lhs; whnf
      rfl
theorem ok_specDropObjects : FnOk Tryz.prog 67 K_specDropObjects := by
  refine fn_ok (fn := Tryz.f67) (k := Tryz.f67.ntmps) (E := E_specDropObjects) (facts_of (List.forall_mem_cons.2 ⟨ok_specIsContext, List.forall_mem_cons.2 ⟨ok_specIsSet, List.forall_mem_cons.2 ⟨ok_l2Has, List.forall_mem_nil _⟩⟩⟩)) (by kernel_rfl) rfl (by decide +kernel) (by decide +kernel) ?_
  intro avs hin r h
  unfold K_specDropObjects at h
  split at h
  · obtain ⟨hp, rfl⟩ := gd_o h
    exact ⟨_, ev_specDropObjects _ _ _ hp, rfl⟩
  · cases h

/- spec.LostIntents -/
def K_specLostIntents : List AV → List Ob → Option (AV × List Ob)
  | [.agg [.int .i64 m, .lst (.int .i64) b], .int .i64 g], [] => gd (b.length ≤ 1048576) (.own 0, [.row 3 (.int .i64) (lostF m b g)])
  | _, _ => none
@[reducible] def E_specLostIntents : Env := mkE (tb [(53, K_specIsContext), (66, K_l1In), (67, K_specDropObjects), (65, K_l27Intents), (64, K_l27Missing)]) (fun f => false) (fun r => ([], []))
theorem ev_specLostIntents (m : Int) (b : List Int) (g : Int) (hp : b.length ≤ 1048576) : evF E_specLostIntents (1) Tryz.f19 [.agg [.int .i64 m, .lst (.int .i64) b], .int .i64 g] [] = some (.own 0, [.row 3 (.int .i64) (lostF m b g)]) := by
  conv => lhs; whnf
  conv => lhs; arg 1; whnf
  refine bnd_g (by omega) ?_
  conv => lhs; whnf
  refine br_c (fun h => ?_) (fun h => ?_)
  · have hf : lostF m b g = [] := by
      unfold lostF notObj
      rw [bnt h]
      rfl
    rw [hf]
    conv => lhs; whnf
    repeat ((first | with_reducible apply br_tt | with_reducible apply br_ff | with_reducible apply br_nf | with_reducible apply br_nt | with_reducible refine br_d ?_ (by kernel_rfl) | with_reducible apply br_t h | with_reducible apply br_f h); conv => lhs; whnf)
  · conv => lhs; whnf
    repeat ((first | with_reducible apply br_tt | with_reducible apply br_ff | with_reducible apply br_nf | with_reducible apply br_nt | with_reducible refine br_d ?_ (by kernel_rfl) | with_reducible apply br_t h | with_reducible apply br_f h); conv => lhs; whnf)
    conv => lhs; arg 1; whnf
    refine bnd_g (by exact True.intro) ?_
    conv => lhs; whnf
    repeat ((first | with_reducible apply br_tt | with_reducible apply br_ff | with_reducible apply br_nf | with_reducible apply br_nt | with_reducible refine br_d ?_ (by kernel_rfl) | with_reducible apply br_t h | with_reducible apply br_f h); conv => lhs; whnf)
    refine br_c (fun h2 => ?_) (fun h2 => ?_)
    · have h3 := bnt h2
      have hf : lostF m b g = [] := by
        unfold lostF notObj
        have h4 := ofn h3
        rw [wrap64 (n := (b.length : Int) - 1) (by omega) (by omega)] at h4
        rw [df h4, Bool.and_false]
        rfl
      rw [hf]
      conv => lhs; whnf
      repeat ((first | with_reducible apply br_tt | with_reducible apply br_ff | with_reducible apply br_nf | with_reducible apply br_nt | with_reducible refine br_d ?_ (by kernel_rfl) | with_reducible apply br_t h2 | with_reducible apply br_f h2); conv => lhs; whnf)
    · have h3 := ofd (bnf h2)
      rw [wrap64 (n := (b.length : Int) - 1) (by omega) (by omega)] at h3
      have hc := bnf h
      have hl := isCtx_len hc
      have hf : notObj m b g = false := by
        unfold notObj
        rw [hc, dt h3]
        rfl
      have h1 := inlF_len m b
      obtain ⟨n, rfl⟩ : ∃ n : Nat, g = n := ⟨g.toNat, by omega⟩
      have hsh : IntKind.i64.wrap (1 * 2 ^ min (IntKind.u64.wrap (n : Int)).toNat IntKind.i64.bits) = ((2 ^ n : Nat) : Int) := shl1u (by omega)
      unfold lostF
      rw [hf, cond_false]
      conv => lhs; whnf
      repeat ((first | with_reducible apply br_tt | with_reducible apply br_ff | with_reducible apply br_nf | with_reducible apply br_nt | with_reducible refine br_d ?_ (by kernel_rfl) | with_reducible apply br_t h2 | with_reducible apply br_f h2); conv => lhs; whnf)
      refine br_f (by (rw [wrapu (n := (n : Int)) (by omega) (by omega)]; exact df (by omega))) ?_
      conv => lhs; whnf
      conv => lhs; arg 1; whnf
      refine bnd_g (by (refine ⟨hc, ?_⟩; rw [hsh]; exact isSet_one hl.1 (by omega))) ?_
      conv => lhs; whnf
      conv => lhs; arg 1; whnf
      refine bnd_g (by exact hp) ?_
      conv => lhs; whnf
      conv => lhs; arg 1; whnf
      refine bnd_g (by (exact Nat.le_trans (dropL_len _ _ _) hp)) ?_
      conv => lhs; whnf
      conv => lhs; arg 1; whnf
      refine bnd_g (by exact ⟨h1, inlF_len _ _⟩) ?_
      conv => lhs; whnf
      repeat ((first | with_reducible apply br_tt | with_reducible apply br_ff | with_reducible apply br_nf | with_reducible apply br_nt | with_reducible refine br_d ?_ (by kernel_rfl)); conv => lhs; whnf)
      rw [hsh]
      rfl
theorem ok_specLostIntents : FnOk Tryz.prog 19 K_specLostIntents := by
  refine fn_ok (fn := Tryz.f19) (k := Tryz.f19.ntmps) (E := E_specLostIntents) (facts_of (List.forall_mem_cons.2 ⟨ok_specIsContext, List.forall_mem_cons.2 ⟨ok_l1In, List.forall_mem_cons.2 ⟨ok_specDropObjects, List.forall_mem_cons.2 ⟨ok_l27Intents, List.forall_mem_cons.2 ⟨ok_l27Missing, List.forall_mem_nil _⟩⟩⟩⟩⟩)) (by kernel_rfl) rfl (by decide +kernel) (by decide +kernel) ?_
  intro avs hin r h
  unfold K_specLostIntents at h
  split at h
  · obtain ⟨hp, rfl⟩ := gd_o h
    exact ⟨_, ev_specLostIntents _ _ _ hp, rfl⟩
  · cases h

/- impl.areAnyRules$1 -/
def K_anyRules1 : List AV → List Ob → Option (AV × List Ob)
  | [.agg [.int .i64 p, .int .i64 q]], [] => gd (True) (.bool (badR (p, q)), [])
  | _, _ => none
@[reducible] def E_anyRules1 : Env := mkE (tb [(124, K_isAnySet)]) (fun f => false) (fun r => ([], []))
theorem ev_anyRules1 (p q : Int) (hp : True) : evF E_anyRules1 (1) Tryz.f155 [.agg [.int .i64 p, .int .i64 q]] [] = some (.bool (badR (p, q)), []) := by
  conv => lhs; whnf
  conv => lhs; arg 1; whnf
  refine bnd_g (by exact True.intro) ?_
  conv => lhs; whnf
  refine br_c (fun h => ?_) (fun h => ?_)
  · conv => lhs; whnf
    repeat ((first | with_reducible apply br_tt | with_reducible apply br_ff | with_reducible apply br_nf | with_reducible apply br_nt | with_reducible refine br_d ?_ (by kernel_rfl) | with_reducible apply br_t h | with_reducible apply br_f h); conv => lhs; whnf)
    simp at h
    simp [badR, h]
  · conv => lhs; whnf
    repeat ((first | with_reducible apply br_tt | with_reducible apply br_ff | with_reducible apply br_nf | with_reducible apply br_nt | with_reducible refine br_d ?_ (by kernel_rfl) | with_reducible apply br_t h | with_reducible apply br_f h); conv => lhs; whnf)
    conv => lhs; arg 1; whnf
    refine bnd_g (by exact True.intro) ?_
    conv => lhs; whnf
    repeat ((first | with_reducible apply br_tt | with_reducible apply br_ff | with_reducible apply br_nf | with_reducible apply br_nt | with_reducible refine br_d ?_ (by kernel_rfl) | with_reducible apply br_t h | with_reducible apply br_f h); conv => lhs; whnf)
    simp at h
    simp [badR, h]
theorem ok_anyRules1 : FnOk Tryz.prog 155 K_anyRules1 := by
  refine fn_ok (fn := Tryz.f155) (k := Tryz.f155.ntmps) (E := E_anyRules1) (facts_of (List.forall_mem_cons.2 ⟨ok_isAnySet, List.forall_mem_nil _⟩)) (by kernel_rfl) rfl (by decide +kernel) (by decide +kernel) ?_
  intro avs hin r h
  unfold K_anyRules1 at h
  split at h
  · obtain ⟨hp, rfl⟩ := gd_o h
    exact ⟨_, ev_anyRules1 _ _ hp, rfl⟩
  · cases h

/- slices.IndexFunc[[]loop.example/g00596/impl.Rule,loop.example/g00596/impl.Rule] -/
def K_indexRule : List AV → List Ob → Option (AV × List Ob)
  | [.lst (.pair (.int .i64) (.int .i64)) a, .clo 155 []], [] => gd (a.length < 4611686018427387904) (.int .i64 (firstI badR a 0), [])
  | _, _ => none
@[reducible] def E_indexRule : Env := mkE (tb [(155, K_anyRules1)]) (fun f => false) (fun r => bif r == 2 then ([0, 1, 7, 8], [4]) else ([], []))
theorem lp_indexRule (a : List (Int × Int)) (ha : a.length < 4611686018427387904) (k : AX → S → Option (AV × List Ob)) (d : Nat) : ∀ (n i : Nat) (x : Int), a.length - i = d → i ≤ a.length → x = i → d < n →
    lpAt E_indexRule (lp E_indexRule 0 n) 0 (loopAt Tryz.f175 0) (mkS [0, 1, 7, 8] [.lst (.pair (.int .i64) (.int .i64)) a, .clo 155 [], .int .i64 a.length, .int .i64 x] []) k =
      if (a.drop i).any badR then k .ret (mkS [4] [.int .i64 (firstI badR (a.drop i) i)] []) else k (.exit 0) (mkS [4] [.any] []) := by
  induction d with
  | zero =>
    intro n i x hd hi hx hn
    subst hx
    rw [lpAt_def]
    conv => lhs; whnf
    refine br_f (df (by omega)) ?_
    conv => lhs; whnf
    rw [List.drop_of_length_le (by omega)]
    simp
  | succ d ih =>
    intro n i x hd hi hx hn
    obtain ⟨n, rfl⟩ : ∃ m, n = m + 1 := ⟨n - 1, by omega⟩
    subst hx
    rw [lpAt_def]
    conv => lhs; whnf
    refine br_t (dt (by omega)) ?_
    conv => lhs; whnf
    refine br_t (dt2 (by omega) (by omega)) ?_
    conv => lhs; whnf
    conv => lhs; arg 1; whnf
    refine bnd_g (by exact True.intro) ?_
    conv => lhs; whnf
    rw [getD_drop (l := a) (i := i) (d := (0, 0)) (by omega)]
    refine br_c (fun h => ?_) (fun h => ?_)
    · have h' : badR (a.getD i (0, 0)) = true := h
      conv => lhs; whnf
      rw [if_pos (by simp only [List.any_cons, h', Bool.true_or])]
      simp only [firstI, h', cond_true]
    · have h' : badR (a.getD i (0, 0)) = false := h
      conv => lhs; whnf
      rw [ih n (i + 1) _ (by omega) (by omega) (by rw [wrap64 (by omega) (by omega)]; simp) (by omega)]
      simp only [List.any_cons, h', Bool.false_or, firstI, cond_false]
      rfl
theorem ev_indexRule (a : List (Int × Int)) (hp : a.length < 4611686018427387904) : evF E_indexRule (a.length + 2) Tryz.f175 [.lst (.pair (.int .i64) (.int .i64)) a, .clo 155 []] [] = some (.int .i64 (firstI badR a 0), []) := by
  conv => lhs; whnf
  refine (lp_indexRule a hp _ a.length _ 0 0 rfl (by omega) rfl (by omega)).trans ?_
  simp only [List.drop_zero]
  split
  · conv => lhs; whnf
    rfl
  · rename_i he
    conv => lhs; whnf
    have : firstI badR a 0 = -1 := firstI_none badR a 0 (by simpa using he)
    rw [this]
theorem ok_indexRule : FnOk Tryz.prog 175 K_indexRule := by
  refine fn_ok (fn := Tryz.f175) (k := Tryz.f175.ntmps) (E := E_indexRule) (facts_of (List.forall_mem_cons.2 ⟨ok_anyRules1, List.forall_mem_nil _⟩)) (by kernel_rfl) rfl (by decide +kernel) (by decide +kernel) ?_
  intro avs hin r h
  unfold K_indexRule at h
  split at h
  · obtain ⟨hp, rfl⟩ := gd_o h
    exact ⟨_, ev_indexRule _ hp, rfl⟩
  · cases h

/- slices.ContainsFunc[[]loop.example/g00596/impl.Rule,loop.example/g00596/impl.Rule] -/
def K_containsRule : List AV → List Ob → Option (AV × List Ob)
  | [.lst (.pair (.int .i64) (.int .i64)) a, .clo 155 []], [] => gd (a.length < 4611686018427387904) (.bool (a.any badR), [])
  | _, _ => none
@[reducible] def E_containsRule : Env := mkE (tb [(175, K_indexRule)]) (fun f => false) (fun r => ([], []))
theorem ev_containsRule (a : List (Int × Int)) (hp : a.length < 4611686018427387904) : evF E_containsRule (1) Tryz.f154 [.lst (.pair (.int .i64) (.int .i64)) a, .clo 155 []] [] = some (.bool (a.any badR), []) := by
  conv => lhs; whnf
  conv => lhs; arg 1; whnf
  refine bnd_g (by exact hp) ?_
  conv => lhs; whnf
  refine okB ?_
  exact firstI_iff badR a 0 (by omega)
theorem ok_containsRule : FnOk Tryz.prog 154 K_containsRule := by
  refine fn_ok (fn := Tryz.f154) (k := Tryz.f154.ntmps) (E := E_containsRule) (facts_of (List.forall_mem_cons.2 ⟨ok_indexRule, List.forall_mem_nil _⟩)) (by kernel_rfl) rfl (by decide +kernel) (by decide +kernel) ?_
  intro avs hin r h
  unfold K_containsRule at h
  split at h
  · obtain ⟨hp, rfl⟩ := gd_o h
    exact ⟨_, ev_containsRule _ hp, rfl⟩
  · cases h

/- impl.areAnyRules -/
def K_areAnyRules : List AV → List Ob → Option (AV × List Ob)
  | [.lst (.pair (.int .i64) (.int .i64)) a], [] => gd (a.length < 4611686018427387904) (.bool (!a.any badR), [])
  | _, _ => none
@[reducible] def E_areAnyRules : Env := mkE (tb [(154, K_containsRule)]) (fun f => false) (fun r => ([], []))
theorem ev_areAnyRules (a : List (Int × Int)) (hp : a.length < 4611686018427387904) : evF E_areAnyRules (1) Tryz.f123 [.lst (.pair (.int .i64) (.int .i64)) a] [] = some (.bool (!a.any badR), []) := by
  conv => lhs; whnf
  conv => lhs; arg 1; whnf
  refine bnd_g (by exact hp) ?_
  conv => lhs; whnf
theorem ok_areAnyRules : FnOk Tryz.prog 123 K_areAnyRules := by
  refine fn_ok (fn := Tryz.f123) (k := Tryz.f123.ntmps) (E := E_areAnyRules) (facts_of (List.forall_mem_cons.2 ⟨ok_containsRule, List.forall_mem_nil _⟩)) (by kernel_rfl) rfl (by decide +kernel) (by decide +kernel) ?_
  intro avs hin r h
  unfold K_areAnyRules at h
  split at h
  · obtain ⟨hp, rfl⟩ := gd_o h
    exact ⟨_, ev_areAnyRules _ hp, rfl⟩
  · cases h

/- impl.Respects -/
def K_implRespects : List AV → List Ob → Option (AV × List Ob)
  | [.agg [.int .i64 p, .int .i64 q], .int .i64 s], [] => gd (True) (.bool (respOf p q s), [])
  | _, _ => none
@[reducible] def E_implRespects : Env := mkE (tb [(123, K_areAnyRules), (124, K_isAnySet), (91, K_inSet)]) (fun f => false) (fun r => ([], []))
theorem ev_implRespects (p q s : Int) (hp : True) : evF E_implRespects (1) Tryz.f68 [.agg [.int .i64 p, .int .i64 q], .int .i64 s] [] = some (.bool (respOf p q s), []) := by
  conv => lhs; whnf
  conv => lhs; arg 1; whnf
  refine bnd_g (by simp) ?_
  conv => lhs; whnf
  refine br_c (fun h => ?_) (fun h => ?_)
  · have hpq : isSet 8 p = true ∧ isSet 8 q = true := by simpa [badR] using h
    conv => lhs; whnf
    repeat ((first | with_reducible apply br_tt | with_reducible apply br_ff | with_reducible apply br_nf | with_reducible apply br_nt | with_reducible refine br_d ?_ (by kernel_rfl) | with_reducible apply br_t h | with_reducible apply br_f h); conv => lhs; whnf)
    conv => lhs; arg 1; whnf
    refine bnd_g (by exact True.intro) ?_
    conv => lhs; whnf
    repeat ((first | with_reducible apply br_tt | with_reducible apply br_ff | with_reducible apply br_nf | with_reducible apply br_nt | with_reducible refine br_d ?_ (by kernel_rfl) | with_reducible apply br_t h | with_reducible apply br_f h); conv => lhs; whnf)
    refine br_c (fun h2 => ?_) (fun h2 => ?_)
    · conv => lhs; whnf
      repeat ((first | with_reducible apply br_tt | with_reducible apply br_ff | with_reducible apply br_nf | with_reducible apply br_nt | with_reducible refine br_d ?_ (by kernel_rfl) | with_reducible apply br_t h | with_reducible apply br_f h | with_reducible apply br_t h2 | with_reducible apply br_f h2); conv => lhs; whnf)
      conv => lhs; arg 1; whnf
      refine bnd_g (by exact True.intro) ?_
      conv => lhs; whnf
      repeat ((first | with_reducible apply br_tt | with_reducible apply br_ff | with_reducible apply br_nf | with_reducible apply br_nt | with_reducible refine br_d ?_ (by kernel_rfl) | with_reducible apply br_t h | with_reducible apply br_f h | with_reducible apply br_t h2 | with_reducible apply br_f h2); conv => lhs; whnf)
      refine br_c (fun h3 => ?_) (fun h3 => ?_)
      · conv => lhs; whnf
        repeat ((first | with_reducible apply br_tt | with_reducible apply br_ff | with_reducible apply br_nf | with_reducible apply br_nt | with_reducible refine br_d ?_ (by kernel_rfl) | with_reducible apply br_t h | with_reducible apply br_f h | with_reducible apply br_t h2 | with_reducible apply br_f h2 | with_reducible apply br_t h3 | with_reducible apply br_f h3); conv => lhs; whnf)
        simp only [respOf, hpq.1, hpq.2, h2, h3, Bool.true_and, Bool.true_or]
      · conv => lhs; whnf
        repeat ((first | with_reducible apply br_tt | with_reducible apply br_ff | with_reducible apply br_nf | with_reducible apply br_nt | with_reducible refine br_d ?_ (by kernel_rfl) | with_reducible apply br_t h | with_reducible apply br_f h | with_reducible apply br_t h2 | with_reducible apply br_f h2 | with_reducible apply br_t h3 | with_reducible apply br_f h3); conv => lhs; whnf)
        conv => lhs; arg 1; whnf
        refine bnd_g (by exact True.intro) ?_
        conv => lhs; whnf
        repeat ((first | with_reducible apply br_tt | with_reducible apply br_ff | with_reducible apply br_nf | with_reducible apply br_nt | with_reducible refine br_d ?_ (by kernel_rfl) | with_reducible apply br_t h | with_reducible apply br_f h | with_reducible apply br_t h2 | with_reducible apply br_f h2 | with_reducible apply br_t h3 | with_reducible apply br_f h3); conv => lhs; whnf)
        simp only [respOf, hpq.1, hpq.2, h2, h3, Bool.true_and, Bool.false_or]
    · conv => lhs; whnf
      repeat ((first | with_reducible apply br_tt | with_reducible apply br_ff | with_reducible apply br_nf | with_reducible apply br_nt | with_reducible refine br_d ?_ (by kernel_rfl) | with_reducible apply br_t h | with_reducible apply br_f h | with_reducible apply br_t h2 | with_reducible apply br_f h2); conv => lhs; whnf)
      simp [respOf, h2]
  · conv => lhs; whnf
    repeat ((first | with_reducible apply br_tt | with_reducible apply br_ff | with_reducible apply br_nf | with_reducible apply br_nt | with_reducible refine br_d ?_ (by kernel_rfl) | with_reducible apply br_t h | with_reducible apply br_f h); conv => lhs; whnf)
    refine okB ?_
    have : (isSet 8 p && isSet 8 q) = false := by simpa [badR] using h
    simp only [respOf, this, Bool.false_and]
theorem ok_implRespects : FnOk Tryz.prog 68 K_implRespects := by
  refine fn_ok (fn := Tryz.f68) (k := Tryz.f68.ntmps) (E := E_implRespects) (facts_of (List.forall_mem_cons.2 ⟨ok_areAnyRules, List.forall_mem_cons.2 ⟨ok_isAnySet, List.forall_mem_cons.2 ⟨ok_inSet, List.forall_mem_nil _⟩⟩⟩)) (by kernel_rfl) rfl (by decide +kernel) (by decide +kernel) ?_
  intro avs hin r h
  unfold K_implRespects at h
  split at h
  · obtain ⟨hp, rfl⟩ := gd_o h
    exact ⟨_, ev_implRespects _ _ _ hp, rfl⟩
  · cases h

/- impl.BrokenRules -/
def K_implBrokenRules : List AV → List Ob → Option (AV × List Ob)
  | [.lst (.pair (.int .i64) (.int .i64)) a, .int .i64 s], [] => gd (a.length ≤ 1048576) (.own 0, [.row 3 (.int .i64) (brk a s)])
  | _, _ => none
@[reducible] def E_implBrokenRules : Env := mkE (tb [(68, K_implRespects)]) (fun f => false) (fun r => bif r == 3 then ([1, 5, 9, 10, 11], [5]) else ([], []))
theorem lp_implBrokenRules (a : List (Int × Int)) (s : Int) (ha : a.length ≤ 1048576) (k : AX → S → Option (AV × List Ob)) (d : Nat) : ∀ (n i : Nat) (x : Int) (ys : List Int), a.length - i = d → i ≤ a.length → x = i → d < n → ys.length ≤ i →
    lpAt E_implBrokenRules (lp E_implBrokenRules 0 n) 0 (loopAt Tryz.f20 0) (mkS [1, 5, 9, 10, 11] [.int .i64 s, .own 0, .lst (.pair (.int .i64) (.int .i64)) a, .int .i64 a.length, .int .i64 x] [some (.row 3 (.int .i64) ys)]) k =
      k (.exit 0) (mkS [5] [.own 0] [some (.row 3 (.int .i64) (ys ++ idxs (fun r => !respOf r.1 r.2 s) (a.drop i) i))]) := by
  induction d with
  | zero =>
    intro n i x ys hd hi hx hn hl
    subst hx
    rw [lpAt_def]
    conv => lhs; whnf
    refine br_f (df (by omega)) ?_
    conv => lhs; whnf
    rw [List.drop_of_length_le (by omega), idxs, List.append_nil]
  | succ d ih =>
    intro n i x ys hd hi hx hn hl
    obtain ⟨n, rfl⟩ : ∃ m, n = m + 1 := ⟨n - 1, by omega⟩
    subst hx
    rw [lpAt_def]
    conv => lhs; whnf
    refine br_t (dt (by omega)) ?_
    conv => lhs; whnf
    refine br_t (dt2 (by omega) (by omega)) ?_
    conv => lhs; whnf
    conv => lhs; arg 1; whnf
    refine bnd_g (by exact True.intro) ?_
    conv => lhs; whnf
    rw [getD_drop (l := a) (i := i) (d := (0, 0)) (by omega)]
    refine br_c (fun h => ?_) (fun h => ?_)
    · have h' : respOf (a.getD i (0, 0)).1 (a.getD i (0, 0)).2 s = false := by simpa using h
      conv => lhs; whnf
      refine br_t (dt (by simp [room]; omega)) ?_
      conv => lhs; whnf
      rw [ih n (i + 1) _ _ (by omega) (by omega) (by rw [wrap64 (by omega) (by omega)]; simp) (by omega) (by simp; omega)]
      simp [idxs, -List.getD_eq_getElem?_getD, h']
    · have h' : respOf (a.getD i (0, 0)).1 (a.getD i (0, 0)).2 s = true := by simpa using h
      conv => lhs; whnf
      rw [ih n (i + 1) _ _ (by omega) (by omega) (by rw [wrap64 (by omega) (by omega)]; simp) (by omega) (by omega)]
      simp [idxs, -List.getD_eq_getElem?_getD, h']
theorem ev_implBrokenRules (a : List (Int × Int)) (s : Int) (hp : a.length ≤ 1048576) : evF E_implBrokenRules (a.length + 2) Tryz.f20 [.lst (.pair (.int .i64) (.int .i64)) a, .int .i64 s] [] = some (.own 0, [.row 3 (.int .i64) (brk a s)]) := by
  conv => lhs; whnf
  refine (lp_implBrokenRules a s hp _ _ _ 0 0 _ rfl (by omega) rfl (by omega) (by simp)).trans ?_
  conv => lhs; whnf
  simp [brk]
theorem ok_implBrokenRules : FnOk Tryz.prog 20 K_implBrokenRules := by
  refine fn_ok (fn := Tryz.f20) (k := Tryz.f20.ntmps) (E := E_implBrokenRules) (facts_of (List.forall_mem_cons.2 ⟨ok_implRespects, List.forall_mem_nil _⟩)) (by kernel_rfl) rfl (by decide +kernel) (by decide +kernel) ?_
  intro avs hin r h
  unfold K_implBrokenRules at h
  split at h
  · obtain ⟨hp, rfl⟩ := gd_o h
    exact ⟨_, ev_implBrokenRules _ _ hp, rfl⟩
  · cases h

/- spec.l9Rule -/
def K_l9Rule : List AV → List Ob → Option (AV × List Ob)
  | [.int .i64 8, .agg [.int .i64 p, .int .i64 q]], [] => gd (True) (.bool (isSet 8 p && isSet 8 q), [])
  | _, _ => none
@[reducible] def E_l9Rule : Env := mkE (tb [(54, K_specIsSet)]) (fun f => false) (fun r => ([], []))
theorem ev_l9Rule (p q : Int) (hp : True) : evF E_l9Rule (1) Tryz.f73 [.int .i64 8, .agg [.int .i64 p, .int .i64 q]] [] = some (.bool (isSet 8 p && isSet 8 q), []) := by
  conv => lhs; whnf
  conv => lhs; arg 1; whnf
  refine bnd_g (by exact True.intro) ?_
  conv => lhs; whnf
  refine br_c (fun h => ?_) (fun h => ?_)
  · conv => lhs; whnf
    repeat ((first | with_reducible apply br_tt | with_reducible apply br_ff | with_reducible apply br_nf | with_reducible apply br_nt | with_reducible refine br_d ?_ (by kernel_rfl) | with_reducible apply br_t h | with_reducible apply br_f h); conv => lhs; whnf)
    conv => lhs; arg 1; whnf
    refine bnd_g (by exact True.intro) ?_
    conv => lhs; whnf
    repeat ((first | with_reducible apply br_tt | with_reducible apply br_ff | with_reducible apply br_nf | with_reducible apply br_nt | with_reducible refine br_d ?_ (by kernel_rfl) | with_reducible apply br_t h | with_reducible apply br_f h); conv => lhs; whnf)
    rw [h, Bool.true_and]
  · conv => lhs; whnf
    repeat ((first | with_reducible apply br_tt | with_reducible apply br_ff | with_reducible apply br_nf | with_reducible apply br_nt | with_reducible refine br_d ?_ (by kernel_rfl) | with_reducible apply br_t h | with_reducible apply br_f h); conv => lhs; whnf)
    rw [h, Bool.false_and]
theorem ok_l9Rule : FnOk Tryz.prog 73 K_l9Rule := by
  refine fn_ok (fn := Tryz.f73) (k := Tryz.f73.ntmps) (E := E_l9Rule) (facts_of (List.forall_mem_cons.2 ⟨ok_specIsSet, List.forall_mem_nil _⟩)) (by kernel_rfl) rfl (by decide +kernel) (by decide +kernel) ?_
  intro avs hin r h
  unfold K_l9Rule at h
  split at h
  · obtain ⟨hp, rfl⟩ := gd_o h
    exact ⟨_, ev_l9Rule _ _ hp, rfl⟩
  · cases h

/- spec.Respects -/
def K_specRespects : List AV → List Ob → Option (AV × List Ob)
  | [.agg [.int .i64 p, .int .i64 q], .int .i64 s], [] => gd (True) (.bool (respOf p q s), [])
  | _, _ => none
@[reducible] def E_specRespects : Env := mkE (tb [(73, K_l9Rule), (54, K_specIsSet)]) (fun f => false) (fun r => ([], []))
theorem ev_specRespects (p q s : Int) (hp : True) : evF E_specRespects (1) Tryz.f69 [.agg [.int .i64 p, .int .i64 q], .int .i64 s] [] = some (.bool (respOf p q s), []) := by
  conv => lhs; whnf
  conv => lhs; arg 1; whnf
  refine bnd_g (by exact True.intro) ?_
  conv => lhs; whnf
  refine br_c (fun h => ?_) (fun h => ?_)
  · have hpq := Bool.and_eq_true_iff.1 h
    conv => lhs; whnf
    repeat ((first | with_reducible apply br_tt | with_reducible apply br_ff | with_reducible apply br_nf | with_reducible apply br_nt | with_reducible refine br_d ?_ (by kernel_rfl) | with_reducible apply br_t h | with_reducible apply br_f h); conv => lhs; whnf)
    conv => lhs; arg 1; whnf
    refine bnd_g (by exact True.intro) ?_
    conv => lhs; whnf
    repeat ((first | with_reducible apply br_tt | with_reducible apply br_ff | with_reducible apply br_nf | with_reducible apply br_nt | with_reducible refine br_d ?_ (by kernel_rfl) | with_reducible apply br_t h | with_reducible apply br_f h); conv => lhs; whnf)
    refine br_c (fun h2 => ?_) (fun h2 => ?_)
    · conv => lhs; whnf
      repeat ((first | with_reducible apply br_tt | with_reducible apply br_ff | with_reducible apply br_nf | with_reducible apply br_nt | with_reducible refine br_d ?_ (by kernel_rfl) | with_reducible apply br_t h | with_reducible apply br_f h | with_reducible apply br_t h2 | with_reducible apply br_f h2); conv => lhs; whnf)
      refine br_c (fun h3 => ?_) (fun h3 => ?_)
      · conv => lhs; whnf
        repeat ((first | with_reducible apply br_tt | with_reducible apply br_ff | with_reducible apply br_nf | with_reducible apply br_nt | with_reducible refine br_d ?_ (by kernel_rfl) | with_reducible apply br_t h | with_reducible apply br_f h | with_reducible apply br_t h2 | with_reducible apply br_f h2 | with_reducible apply br_t h3 | with_reducible apply br_f h3); conv => lhs; whnf)
        change (band p s != p) = true at h3
        rw [bne_bnot hpq.1] at h3
        simp [respOf, hpq.1, hpq.2, h2, h3]
      · conv => lhs; whnf
        repeat ((first | with_reducible apply br_tt | with_reducible apply br_ff | with_reducible apply br_nf | with_reducible apply br_nt | with_reducible refine br_d ?_ (by kernel_rfl) | with_reducible apply br_t h | with_reducible apply br_f h | with_reducible apply br_t h2 | with_reducible apply br_f h2 | with_reducible apply br_t h3 | with_reducible apply br_f h3); conv => lhs; whnf)
        change (band p s != p) = false at h3
        rw [bne_bnot hpq.1] at h3
        refine okB ?_
        change (band q s == q) = _
        rw [beq_bnot hpq.2]
        simp only [respOf, hpq.1, hpq.2, h2, h3, Bool.true_and, Bool.false_or]
    · conv => lhs; whnf
      repeat ((first | with_reducible apply br_tt | with_reducible apply br_ff | with_reducible apply br_nf | with_reducible apply br_nt | with_reducible refine br_d ?_ (by kernel_rfl) | with_reducible apply br_t h | with_reducible apply br_f h | with_reducible apply br_t h2 | with_reducible apply br_f h2); conv => lhs; whnf)
      simp [respOf, h2]
  · conv => lhs; whnf
    repeat ((first | with_reducible apply br_tt | with_reducible apply br_ff | with_reducible apply br_nf | with_reducible apply br_nt | with_reducible refine br_d ?_ (by kernel_rfl) | with_reducible apply br_t h | with_reducible apply br_f h); conv => lhs; whnf)
    refine okB ?_
    simp only [respOf, h, Bool.false_and]
theorem ok_specRespects : FnOk Tryz.prog 69 K_specRespects := by
  refine fn_ok (fn := Tryz.f69) (k := Tryz.f69.ntmps) (E := E_specRespects) (facts_of (List.forall_mem_cons.2 ⟨ok_l9Rule, List.forall_mem_cons.2 ⟨ok_specIsSet, List.forall_mem_nil _⟩⟩)) (by kernel_rfl) rfl (by decide +kernel) (by decide +kernel) ?_
  intro avs hin r h
  unfold K_specRespects at h
  split at h
  · obtain ⟨hp, rfl⟩ := gd_o h
    exact ⟨_, ev_specRespects _ _ _ hp, rfl⟩
  · cases h

/- spec.BrokenRules -/
def K_specBrokenRules : List AV → List Ob → Option (AV × List Ob)
  | [.lst (.pair (.int .i64) (.int .i64)) a, .int .i64 s], [] => gd (a.length ≤ 1048576) (.own 0, [.row 3 (.int .i64) (brk a s)])
  | _, _ => none
@[reducible] def E_specBrokenRules : Env := mkE (tb [(69, K_specRespects)]) (fun f => false) (fun r => bif r == 3 then ([0, 1, 5, 6], [5]) else ([], []))
theorem lp_specBrokenRules (a : List (Int × Int)) (s : Int) (ha : a.length ≤ 1048576) (k : AX → S → Option (AV × List Ob)) (d : Nat) : ∀ (n i : Nat) (x : Int) (ys : List Int), a.length - i = d → i ≤ a.length → x = i → d < n → ys.length ≤ i →
    lpAt E_specBrokenRules (lp E_specBrokenRules 0 n) 0 (loopAt Tryz.f21 0) (mkS [0, 1, 5, 6] [.lst (.pair (.int .i64) (.int .i64)) a, .int .i64 s, .own 0, .int .i64 x] [some (.row 3 (.int .i64) ys)]) k =
      k (.exit 0) (mkS [5] [.own 0] [some (.row 3 (.int .i64) (ys ++ idxs (fun r => !respOf r.1 r.2 s) (a.drop i) i))]) := by
  induction d with
  | zero =>
    intro n i x ys hd hi hx hn hl
    subst hx
    rw [lpAt_def]
    conv => lhs; whnf
    refine br_f (df (by omega)) ?_
    conv => lhs; whnf
    rw [List.drop_of_length_le (by omega), idxs, List.append_nil]
  | succ d ih =>
    intro n i x ys hd hi hx hn hl
    obtain ⟨n, rfl⟩ : ∃ m, n = m + 1 := ⟨n - 1, by omega⟩
    subst hx
    rw [lpAt_def]
    conv => lhs; whnf
    refine br_t (dt (by omega)) ?_
    conv => lhs; whnf
    refine br_t (dt2 (by omega) (by omega)) ?_
    conv => lhs; whnf
    conv => lhs; arg 1; whnf
    refine bnd_g (by exact True.intro) ?_
    conv => lhs; whnf
    rw [getD_drop (l := a) (i := i) (d := (0, 0)) (by omega)]
    refine br_c (fun h => ?_) (fun h => ?_)
    · have h' : respOf (a.getD i (0, 0)).1 (a.getD i (0, 0)).2 s = false := by simpa using h
      conv => lhs; whnf
      refine br_t (dt (by simp [room]; omega)) ?_
      conv => lhs; whnf
      rw [ih n (i + 1) _ _ (by omega) (by omega) (by rw [wrap64 (by omega) (by omega)]; simp) (by omega) (by simp; omega)]
      simp [idxs, -List.getD_eq_getElem?_getD, h']
    · have h' : respOf (a.getD i (0, 0)).1 (a.getD i (0, 0)).2 s = true := by simpa using h
      conv => lhs; whnf
      rw [ih n (i + 1) _ _ (by omega) (by omega) (by rw [wrap64 (by omega) (by omega)]; simp) (by omega) (by omega)]
      simp [idxs, -List.getD_eq_getElem?_getD, h']
theorem ev_specBrokenRules (a : List (Int × Int)) (s : Int) (hp : a.length ≤ 1048576) : evF E_specBrokenRules (a.length + 2) Tryz.f21 [.lst (.pair (.int .i64) (.int .i64)) a, .int .i64 s] [] = some (.own 0, [.row 3 (.int .i64) (brk a s)]) := by
  conv => lhs; whnf
  refine (lp_specBrokenRules a s hp _ _ _ 0 0 _ rfl (by omega) rfl (by omega) (by simp)).trans ?_
  conv => lhs; whnf
  simp [brk]
theorem ok_specBrokenRules : FnOk Tryz.prog 21 K_specBrokenRules := by
  refine fn_ok (fn := Tryz.f21) (k := Tryz.f21.ntmps) (E := E_specBrokenRules) (facts_of (List.forall_mem_cons.2 ⟨ok_specRespects, List.forall_mem_nil _⟩)) (by kernel_rfl) rfl (by decide +kernel) (by decide +kernel) ?_
  intro avs hin r h
  unfold K_specBrokenRules at h
  split at h
  · obtain ⟨hp, rfl⟩ := gd_o h
    exact ⟨_, ev_specBrokenRules _ _ hp, rfl⟩
  · cases h

/- spec.l2Same -/
def K_l2Same : List AV → List Ob → Option (AV × List Ob)
  | [.lst (.int .i64) a, .lst (.int .i64) b], [] => gd (a.length < 4611686018427387904 ∧ b.length < 4611686018427387904) (.bool (decide (a = b)), [])
  | _, _ => none
@[reducible] def E_l2Same : Env := mkE (tb []) (fun f => false) (fun r => bif r == 4 then ([0, 1, 5], [4]) else ([], []))
theorem lp_l2Same (a b : List Int) (hl : a.length = b.length) (ha : a.length < 4611686018427387904) (k : AX → S → Option (AV × List Ob)) (d : Nat) : ∀ (n i : Nat) (x : Int), a.length - i = d → i ≤ a.length → x = i → d < n →
    lpAt E_l2Same (lp E_l2Same 0 n) 0 (loopAt Tryz.f63 0) (mkS [0, 1, 5] [.lst (.int .i64) a, .lst (.int .i64) b, .int .i64 x] []) k =
      if a.drop i = b.drop i then k (.exit 0) (mkS [4] [.any] []) else k .ret (mkS [4] [.bool false] []) := by
  induction d with
  | zero =>
    intro n i x hd hi hx hn
    subst hx
    rw [lpAt_def]
    conv => lhs; whnf
    refine br_f (df (by omega)) ?_
    conv => lhs; whnf
    rw [if_pos (by rw [List.drop_of_length_le (by omega), List.drop_of_length_le (by omega)])]
  | succ d ih =>
    intro n i x hd hi hx hn
    obtain ⟨n, rfl⟩ : ∃ m, n = m + 1 := ⟨n - 1, by omega⟩
    subst hx
    rw [lpAt_def]
    conv => lhs; whnf
    refine br_t (dt (by omega)) ?_
    conv => lhs; whnf
    refine br_t (dt2 (by omega) (by omega)) ?_
    conv => lhs; whnf
    refine br_t (dt2 (by omega) (by omega)) ?_
    conv => lhs; whnf
    rw [getD_drop (l := a) (i := i) (d := 0) (by omega), getD_drop (l := b) (i := i) (d := 0) (by omega)]
    refine br_t (by kernel_rfl) ?_
    conv => lhs; whnf
    refine br_c (fun h => ?_) (fun h => ?_)
    · conv => lhs; whnf
      rw [if_neg]
      intro he
      have := (List.cons.inj he).1
      simp at h
      exact h this
    · conv => lhs; whnf
      rw [ih n (i + 1) _ (by omega) (by omega) (by rw [wrap64 (by omega) (by omega)]; simp) (by omega)]
      simp at h
      simp [h]
theorem ev_l2Same (a b : List Int) (hp : a.length < 4611686018427387904 ∧ b.length < 4611686018427387904) : evF E_l2Same (a.length + 2) Tryz.f63 [.lst (.int .i64) a, .lst (.int .i64) b] [] = some (.bool (decide (a = b)), []) := by
  conv => lhs; whnf
  refine br_c (fun h => ?_) (fun h => ?_)
  · conv => lhs; whnf
    have : a ≠ b := by
      rintro rfl
      simp at h
    simp [this]
  · conv => lhs; whnf
    have hl : a.length = b.length := by simp at h; omega
    refine (lp_l2Same a b hl hp.1 _ _ _ 0 0 rfl (by omega) rfl (by omega)).trans ?_
    simp only [List.drop_zero]
    split
    · rename_i he
      conv => lhs; whnf
      simp [he]
    · rename_i he
      conv => lhs; whnf
      simp [he]
theorem ok_l2Same : FnOk Tryz.prog 63 K_l2Same := by
  refine fn_ok (fn := Tryz.f63) (k := Tryz.f63.ntmps) (E := E_l2Same) (facts_of (List.forall_mem_nil _)) (by kernel_rfl) rfl (by decide +kernel) (by decide +kernel) ?_
  intro avs hin r h
  unfold K_l2Same at h
  split at h
  · obtain ⟨hp, rfl⟩ := gd_o h
    exact ⟨_, ev_l2Same _ _ hp, rfl⟩
  · cases h

/- spec.EqualContext -/
def K_specEqualContext : List AV → List Ob → Option (AV × List Ob)
  | [.agg [.int .i64 m, .lst (.int .i64) a], .agg [.int .i64 m', .lst (.int .i64) a']], [] => gd (a.length < 4611686018427387904 ∧ a'.length < 4611686018427387904) (.bool (decide (m = m' ∧ a = a')), [])
  | _, _ => none
@[reducible] def E_specEqualContext : Env := mkE (tb [(63, K_l2Same)]) (fun f => false) (fun r => ([], []))
theorem ev_specEqualContext (m : Int) (a : List Int) (m' : Int) (a' : List Int) (hp : a.length < 4611686018427387904 ∧ a'.length < 4611686018427387904) : evF E_specEqualContext (1) Tryz.f16 [.agg [.int .i64 m, .lst (.int .i64) a], .agg [.int .i64 m', .lst (.int .i64) a']] [] = some (.bool (decide (m = m' ∧ a = a')), []) := by
  conv => lhs; whnf
  refine br_c (fun h => ?_) (fun h => ?_)
  · conv => lhs; whnf
    repeat ((first | with_reducible apply br_tt | with_reducible apply br_ff | with_reducible apply br_nf | with_reducible apply br_nt | with_reducible refine br_d ?_ (by kernel_rfl) | with_reducible apply br_t h | with_reducible apply br_f h); conv => lhs; whnf)
    conv => lhs; arg 1; whnf
    refine bnd_g (by exact ⟨hp.1, hp.2⟩) ?_
    conv => lhs; whnf
    repeat ((first | with_reducible apply br_tt | with_reducible apply br_ff | with_reducible apply br_nf | with_reducible apply br_nt | with_reducible refine br_d ?_ (by kernel_rfl) | with_reducible apply br_t h | with_reducible apply br_f h); conv => lhs; whnf)
    simp at h
    simp [h]
  · conv => lhs; whnf
    repeat ((first | with_reducible apply br_tt | with_reducible apply br_ff | with_reducible apply br_nf | with_reducible apply br_nt | with_reducible refine br_d ?_ (by kernel_rfl) | with_reducible apply br_t h | with_reducible apply br_f h); conv => lhs; whnf)
    simp at h
    simp [h]
theorem ok_specEqualContext : FnOk Tryz.prog 16 K_specEqualContext := by
  refine fn_ok (fn := Tryz.f16) (k := Tryz.f16.ntmps) (E := E_specEqualContext) (facts_of (List.forall_mem_cons.2 ⟨ok_l2Same, List.forall_mem_nil _⟩)) (by kernel_rfl) rfl (by decide +kernel) (by decide +kernel) ?_
  intro avs hin r h
  unfold K_specEqualContext at h
  split at h
  · obtain ⟨hp, rfl⟩ := gd_o h
    exact ⟨_, ev_specEqualContext _ _ _ _ hp, rfl⟩
  · cases h

def iotaI : Int → Nat → List Int
  | _, 0 => []
  | k, n + 1 => k :: iotaI (k + 1) n
@[simp] theorem iotaI_length : ∀ (n : Nat) (k : Int), (iotaI k n).length = n
  | 0, _ => rfl
  | n + 1, k => by simp [iotaI, iotaI_length n]
def held (a : List Int) (k : Int) : Int := if a = iotaI k a.length then k + a.length else -1
theorem held_iota (k : Int) (n : Nat) : held (iotaI k n) k = k + n := by simp [held]
theorem take_set_succ {α : Type} {ys : List α} {i : Nat} {v : α} (h : i < ys.length) : (ys.set i v).take (i + 1) = ys.take i ++ [v] := by
  rw [List.take_succ_eq_append_getElem (by simpa using h), List.take_set_of_le (by omega)]
  simp
theorem getD_set_self {α : Type} {ys : List α} {i : Nat} {v d : α} (h : i < ys.length) : (ys.set i v).getD i d = v := by
  simp [List.getD, h]
def iotaR : Int → Nat → List (Int × Int)
  | _, 0 => []
  | k, n + 1 => (k, k + 1) :: iotaR (k + 2) n
@[simp] theorem iotaR_length : ∀ (n : Nat) (k : Int), (iotaR k n).length = n
  | 0, _ => rfl
  | n + 1, k => by simp [iotaR, iotaR_length n]
def dualF (m : Int) (b : List Int) : Int × List Int × Bool := bif isCtx m b && !decide ((b.length : Int) > 6) then ((b.length : Int), colsF m b, true) else (0, [], false)
theorem colF_isSet {b : List Int} (h : b.length ≤ 8) (e : Nat) : isSet (b.length : Int) (colF b e) = true := by
  have hc := colF_set b (e : Int) h
  have hlt : (colF b (e : Int)).toNat < 2 ^ b.length := by
    refine Nat.lt_pow_two_of_testBit _ fun i hi => ?_
    cases hb : (colF b (e : Int)).toNat.testBit i
    · rfl
    · have := ((colF_bit h e i).1 hb).1
      omega
  unfold isSet
  refine dt ⟨by omega, by omega, ?_⟩
  have e2 : ((2 ^ b.length : Nat) : Int) = (2 : Int) ^ b.length := by push_cast; rfl
  rw [Int.toNat_natCast]
  omega
theorem colsL_sets {b : List Int} (h : b.length ≤ 8) : ∀ (d i : Nat), (colsL b d i).all (isSet (b.length : Int)) = true
  | 0, _ => rfl
  | d + 1, i => by rw [colsL, List.all_cons, colF_isSet h i, colsL_sets h d (i + 1)]; rfl
theorem colsF_length {m : Int} {b : List Int} : (colsF m b).length = m.toNat := colsL_length b _ _
theorem dualF_ctx {m : Int} {b : List Int} (h : (dualF m b).2.2 = true) : isCtx (dualF m b).1 (dualF m b).2.1 = true := by
  unfold dualF at h ⊢
  cases hc : (isCtx m b && !decide ((b.length : Int) > 6))
  · rw [hc] at h; cases h
  · rw [cond_true]
    rw [Bool.and_eq_true, Bool.not_eq_true', decide_eq_false_iff_not] at hc
    have hl := isCtx_len hc.1
    show isCtx (b.length : Int) (colsF m b) = true
    unfold isCtx
    have h1 : decide (0 ≤ (b.length : Int) ∧ (b.length : Int) ≤ 6) = true := decide_eq_true (by omega)
    have h2 : decide ((colsF m b).length ≤ 8) = true := decide_eq_true (by rw [colsF_length]; omega)
    have h3 : (colsF m b).all (isSet (b.length : Int)) = true := colsL_sets hl.1 _ _
    rw [h1, h2, h3]
    rfl
theorem dualF_len (m : Int) (b : List Int) : (dualF m b).2.1.length ≤ 8 := by
  unfold dualF
  cases hc : (isCtx m b && !decide ((b.length : Int) > 6))
  · exact Nat.zero_le _
  · rw [Bool.and_eq_true] at hc
    have hl := isCtx_len hc.1
    show (colsF m b).length ≤ 8
    rw [colsF_length]
    omega
def objB (m : Int) (b : List Int) : List (Int × Int) := bif (dualF m b).2.2 then stemR (dualF m b).1 (dualF m b).2.1 else []
theorem objB_len (m : Int) (b : List Int) : (objB m b).length ≤ 64 := by
  unfold objB
  cases (dualF m b).2.2
  · exact Nat.zero_le _
  · exact stemR_len _ _
end Go.Sym
