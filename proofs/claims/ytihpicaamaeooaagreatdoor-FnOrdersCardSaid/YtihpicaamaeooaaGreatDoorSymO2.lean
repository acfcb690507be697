/- Functions of the program, each told as a plain equation. -/
import Derived.Test.YtihpicaamaeooaaGreatDoorSymO1
namespace Go.Sym
open Go.Proofs
set_option linter.unusedVariables false
set_option linter.unusedSimpArgs false
set_option maxRecDepth 100000
set_option maxHeartbeats 4000000

abbrev Cu := Int × Int
def curH (h : Int) : Int := IntKind.i64.wrap (IntKind.i64.wrap (h * 6364136223846793005) + 1442695040888963407)
def curX (h : Int) : Int := IntKind.i64.wrap ↑(BitVec.ofInt IntKind.i64.bits (IntKind.i64.wrap ↑(BitVec.ofInt IntKind.i64.bits ((curH h).fdiv (2 ^ min (Int.toNat 33) IntKind.i64.bits)) ^^^ BitVec.ofInt IntKind.i64.bits ((curH h).fdiv (2 ^ min (Int.toNat 45) IntKind.i64.bits))).toNat) &&& BitVec.ofInt IntKind.i64.bits 255).toNat
def curV (b : List Int) (c : Cu) : Int := if c.1 < b.length then band (IntKind.i64.wrap (curX c.2 + IntKind.i64.wrap (b.getD c.1.toNat 0))) 255 else curX c.2
def nx (b : List Int) (c : Cu) : Cu := (if c.1 < b.length then c.1 + 1 else c.1, curH c.2)
abbrev CuOk (b : List Int) (i : Int) : Prop := 0 ≤ i ∧ i ≤ b.length ∧ b.length ≤ 1048576
theorem nx_ok {b : List Int} {c : Cu} (h : CuOk b c.1) : CuOk b (nx b c).1 := by
  unfold nx
  dsimp only
  split
  · exact ⟨by omega, by omega, h.2.2⟩
  · exact h
theorem band_byte (x : Int) : 0 ≤ band x 255 ∧ band x 255 ≤ 255 := by
  unfold band
  have h : (BitVec.ofInt IntKind.i64.bits x &&& BitVec.ofInt IntKind.i64.bits 255).toNat ≤ 255 := by
    rw [BitVec.toNat_and]
    exact Nat.and_le_right
  rw [wrap64 (by omega) (by omega)]
  omega
theorem curV_rng (b : List Int) (c : Cu) : 0 ≤ curV b c ∧ curV b c ≤ 255 := by
  unfold curV
  split
  · exact band_byte _
  · exact band_byte _
def be (b : List Int) (c : Cu) (n : Int) : Int := (curV b c).tmod n
theorem be_rng (b : List Int) (c : Cu) {n : Int} (h : 0 < n) : 0 ≤ be b c n ∧ be b c n < n := by
  have := curV_rng b c
  unfold be
  exact ⟨Int.tmod_nonneg _ this.1, Int.tmod_lt_of_pos _ h⟩
def shlI (n : Int) : Int := IntKind.i64.wrap (1 * 2 ^ min n.toNat IntKind.i64.bits)
theorem shlI_nat {n : Nat} (h : n ≤ 8) : shlI (n : Int) = ((2 ^ n : Nat) : Int) := shl1 (by omega)
theorem shlI_rng {n : Int} (h0 : 0 ≤ n) (h8 : n ≤ 8) : 1 ≤ shlI n ∧ shlI n ≤ 256 := by
  obtain ⟨k, rfl⟩ : ∃ k : Nat, n = k := ⟨n.toNat, by omega⟩
  have h8 : 2 ^ k ≤ 2 ^ 8 := Nat.pow_le_pow_right (by omega) (by omega)
  have hp := Nat.two_pow_pos k
  rw [shlI_nat (by omega)]
  omega
def pick4 (x y z w : Int) (b : List Int) (c : Cu) : Int := [x, y, z, w].getD (be b c 4).toNat 0
/-- A set, mostly, and the cursor behind it. -/
def bent2 (b : List Int) (c : Cu) : Int := bif be b c 8 == 0 then pick4 (-1) 256 1000 (-9223372036854775808) b (nx b c) else be b (nx b c) 256
def mkRows (b : List Int) (m : Int) : Nat → Cu → List Int × Cu
  | 0, c => ([], c)
  | d + 1, c => bif be b c 2 == 0 then
      (be b (nx b c) (shlI m) :: (mkRows b m d (nx b (nx b c))).1, (mkRows b m d (nx b (nx b c))).2)
    else (bor (be b (nx b c) (shlI m)) (be b (nx b (nx b c)) (shlI m)) :: (mkRows b m d (nx b (nx b (nx b c)))).1, (mkRows b m d (nx b (nx b (nx b c)))).2)
theorem mkRows_ok {b : List Int} {m : Int} : ∀ (d : Nat) (c : Cu), CuOk b c.1 → (mkRows b m d c).1.length = d ∧ CuOk b (mkRows b m d c).2.1
  | 0, c, h => ⟨rfl, h⟩
  | d + 1, c, h => by
    have h1 := mkRows_ok (m := m) d (nx b (nx b c)) (nx_ok (nx_ok h))
    have h2 := mkRows_ok (m := m) d (nx b (nx b (nx b c))) (nx_ok (nx_ok (nx_ok h)))
    unfold mkRows
    cases be b c 2 == 0
    · exact ⟨by rw [cond_false, List.length_cons, h2.1], h2.2⟩
    · exact ⟨by rw [cond_true, List.length_cons, h1.1], h1.2⟩
def make3 (b : List Int) (m o : Int) (c : Cu) : List Int × Cu := mkRows b m (be b c (o + 1)).toNat (nx b c)
theorem make3_ok {b : List Int} {m o : Int} {c : Cu} (h : CuOk b c.1) (ho : 0 ≤ o) : ((make3 b m o c).1.length : Int) ≤ o ∧ CuOk b (make3 b m o c).2.1 := by
  have h1 := mkRows_ok (m := m) (be b c (o + 1)).toNat (nx b c) (nx_ok h)
  have h2 := be_rng b c (n := o + 1) (by omega)
  unfold make3
  exact ⟨by omega, h1.2⟩
def draw3m (b : List Int) (c : Cu) : Int := ([0, 1, 2, 3, 3, 4, 4, 5, 5] : List Int).getD (be b c 9).toNat 0
theorem draw3m_rng (b : List Int) (c : Cu) : 0 ≤ draw3m b c ∧ draw3m b c ≤ 5 := by
  have h := be_rng b c (n := 9) (by omega)
  unfold draw3m
  obtain ⟨k, hk⟩ : ∃ k : Nat, be b c 9 = k := ⟨(be b c 9).toNat, by omega⟩
  rw [hk] at h ⊢
  have : ∀ k : Fin 9, 0 ≤ ([0, 1, 2, 3, 3, 4, 4, 5, 5] : List Int).getD ((k.val : Int)).toNat 0 ∧ ([0, 1, 2, 3, 3, 4, 4, 5, 5] : List Int).getD ((k.val : Int)).toNat 0 ≤ 5 := by decide
  exact this ⟨k, by omega⟩
/-- A context: attributes, rows, and the cursor behind it. -/
def draw3 (b : List Int) (c : Cu) : Int × List Int × Cu := (draw3m b c, make3 b (draw3m b c) 6 (nx b c))
theorem draw3_ok {b : List Int} {c : Cu} (h : CuOk b c.1) : (0 ≤ (draw3 b c).1 ∧ (draw3 b c).1 ≤ 5) ∧ (draw3 b c).2.1.length ≤ 6 ∧ CuOk b (draw3 b c).2.2.1 := by
  have h1 := make3_ok (b := b) (m := draw3m b c) (o := 6) (nx_ok h) (by omega)
  exact ⟨draw3m_rng b c, by have := h1.1; unfold draw3; dsimp only; omega, h1.2⟩
def pad9 (a : List Int) : List Int := a ++ List.replicate (9 - a.length) 0
def bent3' (b : List Int) (x : Int × List Int × Cu) : Int × List Int × Cu :=
  bif be b x.2.2 14 == 0 then (pick4 (-1) 0 2 7 b (nx b x.2.2), x.2.1, nx b (nx b x.2.2))
  else bif be b x.2.2 14 == 1 then (x.1, x.2.1 ++ [bent2 b (nx b x.2.2)], nx b (nx b (nx b x.2.2)))
  else bif be b x.2.2 14 == 2 then (x.1, pad9 x.2.1, nx b x.2.2) else (x.1, x.2.1, nx b x.2.2)
def bent3 (b : List Int) (c : Cu) : Int × List Int × Cu := bent3' b (draw3 b c)
theorem bent3_ok {b : List Int} {c : Cu} (h : CuOk b c.1) : (bent3 b c).2.1.length ≤ 9 ∧ CuOk b (bent3 b c).2.2.1 := by
  obtain ⟨h1, h2, h3⟩ := draw3_ok h
  unfold bent3
  generalize draw3 b c = x at h1 h2 h3
  unfold bent3'
  have n1 := nx_ok h3
  have n2 := nx_ok n1
  have n3 := nx_ok n2
  cases be b x.2.2 14 == 0
  · cases be b x.2.2 14 == 1
    · cases be b x.2.2 14 == 2
      · exact ⟨by simp only [cond_false]; omega, n1⟩
      · refine ⟨?_, n1⟩
        simp only [cond_false, cond_true, pad9, List.length_append, List.length_replicate]
        omega
    · refine ⟨?_, n3⟩
      simp only [cond_false, cond_true, List.length_append, List.length_singleton]
      omega
  · exact ⟨by simp only [cond_true]; omega, n2⟩
def newL (b : List Int) : Nat → Nat → Int → Int
  | 0, _, h => h
  | d + 1, i, h => newL b d (i + 1) (band (IntKind.i64.wrap (IntKind.i64.wrap (IntKind.i64.wrap (h * 131) + IntKind.i64.wrap (b.getD i 0)) + 7)) 1073741823)
def newC (b : List Int) : Cu := (0, newL b (min b.length 4000) 0 (IntKind.i64.wrap (26583 + b.length)))
theorem newC_ok {b : List Int} (h : b.length ≤ 1048576) : CuOk b (newC b).1 := ⟨Int.le_refl 0, Int.natCast_nonneg _, h⟩
/-- A context with a set of its attributes, mostly. -/
def att4 (b : List Int) (c : Cu) : Int × List Int × Int :=
  bif be b (nx b (draw3 b c).2.2) 16 == 0 then ((bent3 b (nx b (nx b (draw3 b c).2.2))).1, (bent3 b (nx b (nx b (draw3 b c).2.2))).2.1, be b (draw3 b c).2.2 (shlI (draw3 b c).1))
  else bif be b (nx b (draw3 b c).2.2) 16 == 1 then ((draw3 b c).1, (draw3 b c).2.1, bent2 b (nx b (nx b (draw3 b c).2.2)))
  else ((draw3 b c).1, (draw3 b c).2.1, be b (draw3 b c).2.2 (shlI (draw3 b c).1))
theorem att4_len {b : List Int} {c : Cu} (h : CuOk b c.1) : (att4 b c).2.1.length ≤ 9 := by
  obtain ⟨h1, h2, h3⟩ := draw3_ok h
  have h4 := bent3_ok (b := b) (c := nx b (nx b (draw3 b c).2.2)) (nx_ok (nx_ok h3))
  unfold att4
  cases be b (nx b (draw3 b c).2.2) 16 == 0
  · cases be b (nx b (draw3 b c).2.2) 16 == 1
    · simp only [cond_false]; omega
    · simp only [cond_false, cond_true]; omega
  · simp only [cond_true]; exact h4.1
def ordE (b : List Int) (L : List Int) : Nat → Nat → Int → Cu → Int × Cu
  | 0, _, s, c => (s, c)
  | d + 1, e, s, c => ordE b L d (e + 1) (bif be b c 3 == 0 then bor s (L.getD e 0) else s) (nx b c)
def ordK (b : List Int) : Nat → Nat → List Int → Cu → List Int × Cu
  | 0, _, L, c => (L, c)
  | d + 1, k, L, c => ordK b d (k + 1) (L ++ [(ordE b L k 0 (shlI k) c).1]) (ordE b L k 0 (shlI k) c).2
theorem ordE_ok {b : List Int} {L : List Int} : ∀ (d e : Nat) (s : Int) (c : Cu), CuOk b c.1 → CuOk b (ordE b L d e s c).2.1
  | 0, _, _, _, h => h
  | d + 1, e, s, c, h => ordE_ok d (e + 1) _ _ (nx_ok h)
theorem ordK_ok {b : List Int} : ∀ (d k : Nat) (L : List Int) (c : Cu), CuOk b c.1 → CuOk b (ordK b d k L c).2.1 ∧ (ordK b d k L c).1.length = L.length + d
  | 0, _, _, _, h => ⟨h, rfl⟩
  | d + 1, k, L, c, h => by
    have := ordK_ok d (k + 1) (L ++ [(ordE b L k 0 (shlI k) c).1]) _ (ordE_ok (L := L) k 0 (shlI k) c h)
    unfold ordK
    refine ⟨this.1, this.2.trans ?_⟩
    simp
    omega
def ordR (b : List Int) (c : Cu) : List Int × Cu := ordK b (be b c 6).toNat 0 [] (nx b c)
def ordD (b : List Int) (c : Cu) : List Int × Cu :=
  bif decide (((ordR b c).1.length : Int) > 0) then
    (bif be b (ordR b c).2 10 == 0 then ((ordR b c).1.set (be b (nx b (ordR b c).2) ((ordR b c).1.length : Int)).toNat (bent2 b (nx b (nx b (ordR b c).2))), nx b (nx b (nx b (nx b (ordR b c).2)))) else ((ordR b c).1, nx b (ordR b c).2))
  else ordR b c
theorem ordR_ok {b : List Int} {c : Cu} (h : CuOk b c.1) : CuOk b (ordR b c).2.1 ∧ (ordR b c).1.length ≤ 6 := by
  have hr := be_rng b c (n := 6) (by omega)
  have := ordK_ok (be b c 6).toNat 0 [] (nx b c) (nx_ok h)
  unfold ordR
  refine ⟨this.1, ?_⟩
  rw [this.2]
  simp
  omega
theorem ordD_ok {b : List Int} {c : Cu} (h : CuOk b c.1) : CuOk b (ordD b c).2.1 ∧ (ordD b c).1.length ≤ 6 := by
  obtain ⟨h1, h2⟩ := ordR_ok h
  unfold ordD
  cases decide (((ordR b c).1.length : Int) > 0)
  · exact ⟨h1, h2⟩
  · rw [cond_true]
    cases be b (ordR b c).2 10 == 0
    · exact ⟨nx_ok h1, h2⟩
    · rw [cond_true]
      exact ⟨nx_ok (nx_ok (nx_ok (nx_ok h1))), by rw [List.length_set]; exact h2⟩
/- spec.l1New -/
def K_l1New : List AV → List Ob → Option (AV × List Ob)
  | [.lst (.int .u8) b], [] => gd (b.length ≤ 1048576) (.ptr 0 0, [.box 99 [.lst (.int .u8) b, .int .i64 (newC b).1, .int .i64 (newC b).2]])
  | _, _ => none
@[reducible] def E_l1New : Env := mkE (tb []) (fun f => false) (fun r => bif r == 3 then ([0, 3, 4], [0, 3]) else ([], []))
theorem lp_l1New (b : List Int) (hb : b.length ≤ 1048576) (k : AX → S → Option (AV × List Ob)) (d : Nat) : ∀ (n i : Nat) (x h : Int), min b.length 4000 - i = d → i ≤ min b.length 4000 → x = i → d < n →
    lpAt E_l1New (lp E_l1New 0 n) 0 (loopAt Tryz.f42 0) (mkS [0, 3, 4] [.lst (.int .u8) b, .int .i64 h, .int .i64 x] []) k =
      k (.exit 0) (mkS [0, 3] [.lst (.int .u8) b, .int .i64 (newL b d i h)] []) := by
  induction d with
  | zero =>
    intro n i x h hd hi hx hn
    subst hx
    rw [lpAt_def]
    conv => lhs; whnf
    refine br_c (fun g => ?_) (fun g => ?_)
    · have g' := ofd g
      conv => lhs; whnf
      repeat ((first | with_reducible apply br_tt | with_reducible apply br_ff | with_reducible apply br_nf | with_reducible apply br_nt | with_reducible refine br_d ?_ (by kernel_rfl) | with_reducible apply br_t g | with_reducible apply br_f g); conv => lhs; whnf)
      refine br_f (df (by omega)) ?_
      conv => lhs; whnf
      all_goals rfl
    · conv => lhs; whnf
      repeat ((first | with_reducible apply br_tt | with_reducible apply br_ff | with_reducible apply br_nf | with_reducible apply br_nt | with_reducible refine br_d ?_ (by kernel_rfl) | with_reducible apply br_t g | with_reducible apply br_f g); conv => lhs; whnf)
      all_goals rfl
  | succ d ih =>
    intro n i x h hd hi hx hn
    obtain ⟨n, rfl⟩ : ∃ m, n = m + 1 := ⟨n - 1, by omega⟩
    subst hx
    rw [lpAt_def]
    have g : decide ((i : Int) < (b.length : Int)) = true := dt (by omega)
    conv => lhs; whnf
    repeat ((first | with_reducible apply br_tt | with_reducible apply br_ff | with_reducible apply br_nf | with_reducible apply br_nt | with_reducible refine br_d ?_ (by kernel_rfl) | with_reducible apply br_t g | with_reducible apply br_f g); conv => lhs; whnf)
    refine br_t (dt (by omega)) ?_
    conv => lhs; whnf
    refine br_t (dt2 (by omega) (by omega)) ?_
    conv => lhs; whnf
    refine Eq.trans (b := lpAt E_l1New (lp E_l1New 0 n) 0 (loopAt Tryz.f42 0) (mkS [0, 3, 4] [.lst (.int .u8) b, .int .i64 (band (IntKind.i64.wrap (IntKind.i64.wrap (IntKind.i64.wrap (h * 131) + IntKind.i64.wrap (b.getD i 0)) + 7)) 1073741823), .int .i64 (IntKind.i64.wrap ((i : Int) + 1))] []) k) rfl ?_
    exact ih n (i + 1) (IntKind.i64.wrap ((i : Int) + 1)) _ (by omega) (by omega) (by rw [wrap64 (n := (i : Int) + 1) (by omega) (by omega)]; simp) (by omega)
theorem ev_l1New (b : List Int) (hp : b.length ≤ 1048576) : evF E_l1New (4010) Tryz.f42 [.lst (.int .u8) b] [] = some (.ptr 0 0, [.box 99 [.lst (.int .u8) b, .int .i64 (newC b).1, .int .i64 (newC b).2]]) := by
  conv => lhs; whnf
  refine (lp_l1New b hp _ (min b.length 4000) _ 0 0 _ rfl (Nat.zero_le _) rfl (by change _ < 4009; omega)).trans ?_
  conv => lhs; whnf
  rfl
theorem ok_l1New : FnOk Tryz.prog 42 K_l1New := by
  refine fn_ok (fn := Tryz.f42) (k := Tryz.f42.ntmps) (E := E_l1New) (facts_of (List.forall_mem_nil _)) (by kernel_rfl) rfl (by decide +kernel) (by decide +kernel) ?_
  intro avs hin r h
  unfold K_l1New at h
  split at h
  · obtain ⟨hp, rfl⟩ := gd_o h
    exact ⟨_, ev_l1New _ hp, rfl⟩
  · cases h

/- spec.l1Byte -/
def K_l1Byte : List AV → List Ob → Option (AV × List Ob)
  | [.ptr 0 0], [.box 99 [.lst (.int .u8) b, .int .i64 i, .int .i64 h]] => gd (CuOk b i) (.int .i64 (curV b (i, h)), [.box 99 [.lst (.int .u8) b, .int .i64 (nx b (i, h)).1, .int .i64 (nx b (i, h)).2]])
  | _, _ => none
@[reducible] def E_l1Byte : Env := mkE (tb []) (fun f => false) (fun r => ([], []))
theorem ev_l1Byte (b : List Int) (i h : Int) (hp : CuOk b i) : evF E_l1Byte (1) Tryz.f95 [.ptr 0 0] [.box 99 [.lst (.int .u8) b, .int .i64 i, .int .i64 h]] = some (.int .i64 (curV b (i, h)), [.box 99 [.lst (.int .u8) b, .int .i64 (nx b (i, h)).1, .int .i64 (nx b (i, h)).2]]) := by
  have h1 := hp.1
  have h2 := hp.2.1
  have h3 := hp.2.2
  conv => lhs; whnf
  refine br_f (df (by omega)) ?_
  conv => lhs; whnf
  refine br_f (df (by omega)) ?_
  conv => lhs; whnf
  refine br_t (by kernel_rfl) ?_
  conv => lhs; whnf
  refine br_t (by kernel_rfl) ?_
  conv => lhs; whnf
  refine br_c (fun hc => ?_) (fun hc => ?_)
  · have h' := ofd hc
    conv => lhs; whnf
    refine br_t (dt2 (by omega) (by omega)) ?_
    conv => lhs; whnf
    refine br_t (by kernel_rfl) ?_
    conv => lhs; whnf
    have e1 : nx b (i, h) = (i + 1, curH h) := by unfold nx; rw [if_pos h']
    have e2 : curV b (i, h) = band (IntKind.i64.wrap (curX h + IntKind.i64.wrap (b.getD i.toNat 0))) 255 := if_pos h'
    rw [e1, e2, wrap64 (n := i + 1) (by omega) (by omega)]
    rfl
  · have h' := ofn hc
    conv => lhs; whnf
    have e1 : nx b (i, h) = (i, curH h) := by unfold nx; rw [if_neg h']
    have e2 : curV b (i, h) = curX h := if_neg h'
    rw [e1, e2]
    rfl
theorem ok_l1Byte : FnOk Tryz.prog 95 K_l1Byte := by
  refine fn_ok (fn := Tryz.f95) (k := Tryz.f95.ntmps) (E := E_l1Byte) (facts_of (List.forall_mem_nil _)) (by kernel_rfl) rfl (by decide +kernel) (by decide +kernel) ?_
  intro avs hin r h
  unfold K_l1Byte at h
  split at h
  · obtain ⟨hp, rfl⟩ := gd_o h
    exact ⟨_, ev_l1Byte _ _ _ hp, rfl⟩
  · cases h

/- spec.l1Below -/
def K_l1Below : List AV → List Ob → Option (AV × List Ob)
  | [.ptr 0 0, .int .i64 n], [.box 99 [.lst (.int .u8) b, .int .i64 i, .int .i64 h]] => gd (CuOk b i ∧ 1 ≤ n ∧ n ≤ 256) (.int .i64 (be b (i, h) n), [.box 99 [.lst (.int .u8) b, .int .i64 (nx b (i, h)).1, .int .i64 (nx b (i, h)).2]])
  | _, _ => none
@[reducible] def E_l1Below : Env := mkE (tb [(95, K_l1Byte)]) (fun f => [95].contains f) (fun r => ([], []))
theorem ev_l1Below (b : List Int) (i h : Int) (n : Int) (hp : CuOk b i ∧ 1 ≤ n ∧ n ≤ 256) : evF E_l1Below (1) Tryz.f52 [.ptr 0 0, .int .i64 n] [.box 99 [.lst (.int .u8) b, .int .i64 i, .int .i64 h]] = some (.int .i64 (be b (i, h) n), [.box 99 [.lst (.int .u8) b, .int .i64 (nx b (i, h)).1, .int .i64 (nx b (i, h)).2]]) := by
  have h1 := hp.2.1
  have h2 := hp.2.2
  have hr := be_rng b (i, h) (n := n) (by omega)
  conv => lhs; whnf
  refine br_f (df (by omega)) ?_
  conv => lhs; whnf
  refine br_t (dt (by omega)) ?_
  conv => lhs; whnf
  conv => lhs; arg 1; whnf
  refine bnd_g (by exact hp.1) ?_
  conv => lhs; whnf
  refine br_f (df (by omega)) ?_
  conv => lhs; whnf
  rfl
theorem ok_l1Below : FnOk Tryz.prog 52 K_l1Below := by
  refine fn_ok (fn := Tryz.f52) (k := Tryz.f52.ntmps) (E := E_l1Below) (facts_of (List.forall_mem_cons.2 ⟨ok_l1Byte, List.forall_mem_nil _⟩)) (by kernel_rfl) rfl (by decide +kernel) (by decide +kernel) ?_
  intro avs hin r h
  unfold K_l1Below at h
  split at h
  · obtain ⟨hp, rfl⟩ := gd_o h
    exact ⟨_, ev_l1Below _ _ _ _ hp, rfl⟩
  · cases h

/- spec.l1Once -/
def K_l1Once : List AV → List Ob → Option (AV × List Ob)
  | [.ptr 0 0, .int .i64 n], [.box 99 [.lst (.int .u8) b, .int .i64 i, .int .i64 h]] => gd (CuOk b i ∧ 1 ≤ n ∧ n ≤ 256) (.bool (be b (i, h) n == 0), [.box 99 [.lst (.int .u8) b, .int .i64 (nx b (i, h)).1, .int .i64 (nx b (i, h)).2]])
  | _, _ => none
@[reducible] def E_l1Once : Env := mkE (tb [(52, K_l1Below)]) (fun f => [52].contains f) (fun r => ([], []))
theorem ev_l1Once (b : List Int) (i h : Int) (n : Int) (hp : CuOk b i ∧ 1 ≤ n ∧ n ≤ 256) : evF E_l1Once (1) Tryz.f89 [.ptr 0 0, .int .i64 n] [.box 99 [.lst (.int .u8) b, .int .i64 i, .int .i64 h]] = some (.bool (be b (i, h) n == 0), [.box 99 [.lst (.int .u8) b, .int .i64 (nx b (i, h)).1, .int .i64 (nx b (i, h)).2]]) := by
  conv => lhs; whnf
  conv => lhs; arg 1; whnf
  refine bnd_g (by exact hp) ?_
  conv => lhs; whnf
theorem ok_l1Once : FnOk Tryz.prog 89 K_l1Once := by
  refine fn_ok (fn := Tryz.f89) (k := Tryz.f89.ntmps) (E := E_l1Once) (facts_of (List.forall_mem_cons.2 ⟨ok_l1Below, List.forall_mem_nil _⟩)) (by kernel_rfl) rfl (by decide +kernel) (by decide +kernel) ?_
  intro avs hin r h
  unfold K_l1Once at h
  split at h
  · obtain ⟨hp, rfl⟩ := gd_o h
    exact ⟨_, ev_l1Once _ _ _ _ hp, rfl⟩
  · cases h

/- spec.l1PickInt -/
def K_l1PickInt : List AV → List Ob → Option (AV × List Ob)
  | [.ptr 0 0, .own 1], [.box 99 [.lst (.int .u8) b, .int .i64 i, .int .i64 h], .row 3 (.int .i64) l] => gd (CuOk b i ∧ 1 ≤ l.length ∧ l.length ≤ 256) (.int .i64 (l.getD (be b (i, h) (l.length : Int)).toNat 0), [.box 99 [.lst (.int .u8) b, .int .i64 (nx b (i, h)).1, .int .i64 (nx b (i, h)).2], .row 3 (.int .i64) l])
  | _, _ => none
@[reducible] def E_l1PickInt : Env := mkE (tb [(52, K_l1Below)]) (fun f => [52].contains f) (fun r => ([], []))
theorem ev_l1PickInt (b : List Int) (i h : Int) (l : List Int) (hp : CuOk b i ∧ 1 ≤ l.length ∧ l.length ≤ 256) : evF E_l1PickInt (1) Tryz.f113 [.ptr 0 0, .own 1] [.box 99 [.lst (.int .u8) b, .int .i64 i, .int .i64 h], .row 3 (.int .i64) l] = some (.int .i64 (l.getD (be b (i, h) (l.length : Int)).toNat 0), [.box 99 [.lst (.int .u8) b, .int .i64 (nx b (i, h)).1, .int .i64 (nx b (i, h)).2], .row 3 (.int .i64) l]) := by
  have hr := be_rng b (i, h) (n := (l.length : Int)) (by omega)
  conv => lhs; whnf
  conv => lhs; arg 1; whnf
  refine bnd_g (by exact ⟨hp.1, by omega, by omega⟩) ?_
  conv => lhs; whnf
  refine br_t (dt2 (by omega) (by omega)) ?_
  conv => lhs; whnf
  refine br_t (dt (by omega)) ?_
  conv => lhs; whnf
  rfl
theorem ok_l1PickInt : FnOk Tryz.prog 113 K_l1PickInt := by
  refine fn_ok (fn := Tryz.f113) (k := Tryz.f113.ntmps) (E := E_l1PickInt) (facts_of (List.forall_mem_cons.2 ⟨ok_l1Below, List.forall_mem_nil _⟩)) (by kernel_rfl) rfl (by decide +kernel) (by decide +kernel) ?_
  intro avs hin r h
  unfold K_l1PickInt at h
  split at h
  · obtain ⟨hp, rfl⟩ := gd_o h
    exact ⟨_, ev_l1PickInt _ _ _ _ hp, rfl⟩
  · cases h

/- spec.l2Bent -/
def K_l2Bent : List AV → List Ob → Option (AV × List Ob)
  | [.ptr 0 0], [.box 99 [.lst (.int .u8) b, .int .i64 i, .int .i64 h]] => gd (CuOk b i) (.int .i64 (bent2 b (i, h)), [.box 99 [.lst (.int .u8) b, .int .i64 (nx b (nx b (i, h))).1, .int .i64 (nx b (nx b (i, h))).2]])
  | _, _ => none
@[reducible] def E_l2Bent : Env := mkE (tb [(89, K_l1Once), (113, K_l1PickInt), (52, K_l1Below)]) (fun f => [89, 113, 52].contains f) (fun r => ([], []))
theorem ev_l2Bent (b : List Int) (i h : Int) (hp : CuOk b i) : evF E_l2Bent (1) Tryz.f90 [.ptr 0 0] [.box 99 [.lst (.int .u8) b, .int .i64 i, .int .i64 h]] = some (.int .i64 (bent2 b (i, h)), [.box 99 [.lst (.int .u8) b, .int .i64 (nx b (nx b (i, h))).1, .int .i64 (nx b (nx b (i, h))).2]]) := by
  have hn := nx_ok (c := (i, h)) hp
  conv => lhs; whnf
  conv => lhs; arg 1; whnf
  refine bnd_g (by exact ⟨hp, by omega, by omega⟩) ?_
  conv => lhs; whnf
  refine br_c (fun hc => ?_) (fun hc => ?_)
  · have e : bent2 b (i, h) = pick4 (-1) 256 1000 (-9223372036854775808) b (nx b (i, h)) := by unfold bent2; rw [hc]; rfl
    rw [e]
    conv => lhs; whnf
    conv => lhs; arg 1; whnf
    refine bnd_g (by exact ⟨hn, by simp, by simp⟩) ?_
    conv => lhs; whnf
    rfl
  · have e : bent2 b (i, h) = be b (nx b (i, h)) 256 := by unfold bent2; rw [hc]; rfl
    rw [e]
    conv => lhs; whnf
    conv => lhs; arg 1; whnf
    refine bnd_g (by exact ⟨hn, by omega, by omega⟩) ?_
    conv => lhs; whnf
theorem ok_l2Bent : FnOk Tryz.prog 90 K_l2Bent := by
  refine fn_ok (fn := Tryz.f90) (k := Tryz.f90.ntmps) (E := E_l2Bent) (facts_of (List.forall_mem_cons.2 ⟨ok_l1Once, List.forall_mem_cons.2 ⟨ok_l1PickInt, List.forall_mem_cons.2 ⟨ok_l1Below, List.forall_mem_nil _⟩⟩⟩)) (by kernel_rfl) rfl (by decide +kernel) (by decide +kernel) ?_
  intro avs hin r h
  unfold K_l2Bent at h
  split at h
  · obtain ⟨hp, rfl⟩ := gd_o h
    exact ⟨_, ev_l2Bent _ _ _ hp, rfl⟩
  · cases h

/- spec.l22Draw -/
def K_l22Draw : List AV → List Ob → Option (AV × List Ob)
  | [.ptr 0 0], [.box 99 [.lst (.int .u8) b, .int .i64 i, .int .i64 h]] => gd (CuOk b i) (.agg [.own 1], [.box 99 [.lst (.int .u8) b, .int .i64 (ordD b (i, h)).2.1, .int .i64 (ordD b (i, h)).2.2], .row 3 (.int .i64) (ordD b (i, h)).1])
  | _, _ => none
@[reducible] def E_l22Draw : Env := mkE (tb [(52, K_l1Below), (89, K_l1Once), (90, K_l2Bent)]) (fun f => [52, 89, 90].contains f) (fun r => bif r == 4 then ([0, 2, 3, 4, 5], [0, 2, 3, 4, 5, 6]) else bif r == 8 then ([0, 2, 3, 4, 5, 6, 7], [0, 2, 3, 4, 5, 6]) else ([], []))
theorem lq_l22Draw (b : List Int) (L : List Int) (hL : L.length ≤ 6) (N : Int) (j : Nat) (hj : j = L.length) (k : AX → S → Option (AV × List Ob)) (d : Nat) : ∀ (n i : Nat) (x s i0 h0 : Int), j - i = d → i ≤ j → x = i → d < n → CuOk b i0 →
    lpAt E_l22Draw (lp E_l22Draw 1 n) 1 (loopAt Tryz.f41 1) (mkS [0, 2, 3, 4, 5, 6, 7] [.ptr 0 0, .ptr 1 0, .ptr 3 0, .int .i64 N, .int .i64 (j : Int), .int .i64 s, .int .i64 x] [some (.box 99 [.lst (.int .u8) b, .int .i64 i0, .int .i64 h0]), some (.box 26 [.own 2]), some (.row 3 (.int .i64) []), some (.box 26 [.own 4]), some (.row 3 (.int .i64) L)]) k =
      k (.exit 2) (mkS [0, 2, 3, 4, 5, 6] [.ptr 0 0, .ptr 1 0, .ptr 3 0, .int .i64 N, .int .i64 (j : Int), .int .i64 (ordE b L d i s (i0, h0)).1] [some (.box 99 [.lst (.int .u8) b, .int .i64 (ordE b L d i s (i0, h0)).2.1, .int .i64 (ordE b L d i s (i0, h0)).2.2]), some (.box 26 [.own 2]), some (.row 3 (.int .i64) []), some (.box 26 [.own 4]), some (.row 3 (.int .i64) L)]) := by
  induction d with
  | zero =>
    intro n i x s i0 h0 hd hi hx hn hc
    subst hx
    rw [lpAt_def]
    conv => lhs; whnf
    refine br_f (df (by omega)) ?_
    conv => lhs; whnf
    rfl
  | succ d ih =>
    intro n i x s i0 h0 hd hi hx hn hc
    obtain ⟨n, rfl⟩ : ∃ m, n = m + 1 := ⟨n - 1, by omega⟩
    subst hx
    have n1 := nx_ok (c := (i0, h0)) hc
    rw [lpAt_def]
    conv => lhs; whnf
    refine br_t (dt (by omega)) ?_
    conv => lhs; whnf
    conv => lhs; arg 1; whnf
    refine bnd_g (by exact ⟨hc, by omega, by omega⟩) ?_
    conv => lhs; whnf
    refine br_c (fun g => ?_) (fun g => ?_)
    · conv => lhs; whnf
      refine br_t (dt2 (by omega) (by omega)) ?_
      conv => lhs; whnf
      refine br_t (dt (by omega)) ?_
      conv => lhs; whnf
      refine (ih n (i + 1) (IntKind.i64.wrap ((i : Int) + 1)) (bor s (L.getD i 0)) _ _ (by omega) (by omega) (by rw [wrap64 (n := (i : Int) + 1) (by omega) (by omega)]; simp) (by omega) n1).trans ?_
      have e : ordE b L (d + 1) i s (i0, h0) = ordE b L d (i + 1) (bor s (L.getD i 0)) (nx b (i0, h0)) := by rw [ordE, g]; rfl
      rw [e]
    · conv => lhs; whnf
      refine (ih n (i + 1) (IntKind.i64.wrap ((i : Int) + 1)) s _ _ (by omega) (by omega) (by rw [wrap64 (n := (i : Int) + 1) (by omega) (by omega)]; simp) (by omega) n1).trans ?_
      have e : ordE b L (d + 1) i s (i0, h0) = ordE b L d (i + 1) s (nx b (i0, h0)) := by rw [ordE, g]; rfl
      rw [e]
theorem lp_l22Draw (b : List Int) (N : Nat) (hN : N ≤ 6) (k : AX → S → Option (AV × List Ob)) (d : Nat) : ∀ (n i : Nat) (x i0 h0 : Int) (L : List Int), N - i = d → i ≤ N → x = i → d + 20 < n → CuOk b i0 → L.length = i →
    lpAt E_l22Draw (lp E_l22Draw 1 n) 1 (loopAt Tryz.f41 0) (mkS [0, 2, 3, 4, 5] [.ptr 0 0, .ptr 1 0, .ptr 3 0, .int .i64 (N : Int), .int .i64 x] [some (.box 99 [.lst (.int .u8) b, .int .i64 i0, .int .i64 h0]), some (.box 26 [.own 2]), some (.row 3 (.int .i64) []), some (.box 26 [.own 4]), some (.row 3 (.int .i64) L)]) k =
      k (.exit 0) (mkS [0, 2, 3, 4, 5, 6] [.ptr 0 0, .ptr 1 0, .ptr 3 0, .int .i64 (N : Int), .int .i64 (N : Int), .any] [some (.box 99 [.lst (.int .u8) b, .int .i64 (ordK b d i L (i0, h0)).2.1, .int .i64 (ordK b d i L (i0, h0)).2.2]), some (.box 26 [.own 2]), some (.row 3 (.int .i64) []), some (.box 26 [.own 4]), some (.row 3 (.int .i64) (ordK b d i L (i0, h0)).1)]) := by
  induction d with
  | zero =>
    intro n i x i0 h0 L hd hi hx hn hc hL
    have e : i = N := by omega
    subst hx
    rw [lpAt_def]
    conv => lhs; whnf
    refine br_f (df (by omega)) ?_
    conv => lhs; whnf
    rw [e]
    rfl
  | succ d ih =>
    intro n i x i0 h0 L hd hi hx hn hc hL
    obtain ⟨n, rfl⟩ : ∃ m, n = m + 1 := ⟨n - 1, by omega⟩
    subst hx
    have hu : IntKind.u64.wrap (i : Int) = (i : Int) := wrapu (by omega) (by omega)
    have hk := ordE_ok (b := b) (L := L) i 0 (shlI i) (i0, h0) hc
    rw [lpAt_def]
    conv => lhs; whnf
    refine br_t (dt (by omega)) ?_
    conv => lhs; whnf
    rw [hu]
    refine br_f (df (by omega)) ?_
    conv => lhs; whnf
    refine (lq_l22Draw b L (by omega) (N : Int) i (by omega) _ i _ 0 0 (shlI i) i0 h0 (by omega) (by omega) rfl (by omega) hc).trans ?_
    conv => lhs; whnf
    refine br_t (dt (by simp [room]; omega)) ?_
    conv => lhs; whnf
    refine (ih n (i + 1) (IntKind.i64.wrap ((i : Int) + 1)) _ _ _ (by omega) (by omega) (by rw [wrap64 (n := (i : Int) + 1) (by omega) (by omega)]; simp) (by omega) hk (by simp; omega)).trans ?_
    rfl
theorem ev_l22Draw (b : List Int) (i h : Int) (hp : CuOk b i) : evF E_l22Draw (100) Tryz.f41 [.ptr 0 0] [.box 99 [.lst (.int .u8) b, .int .i64 i, .int .i64 h]] = some (.agg [.own 1], [.box 99 [.lst (.int .u8) b, .int .i64 (ordD b (i, h)).2.1, .int .i64 (ordD b (i, h)).2.2], .row 3 (.int .i64) (ordD b (i, h)).1]) := by
  have hr := be_rng b (i, h) (n := 6) (by omega)
  have n1 := nx_ok (c := (i, h)) hp
  have hR := ordR_ok (c := (i, h)) hp
  have hN : be b (i, h) 6 = ((be b (i, h) 6).toNat : Int) := by omega
  conv => lhs; whnf
  conv => lhs; arg 1; whnf
  refine bnd_g (by exact ⟨hp, by omega, by omega⟩) ?_
  conv => lhs; whnf
  rw [hN]
  refine (lp_l22Draw b (be b (i, h) 6).toNat (by omega) _ (be b (i, h) 6).toNat _ 0 0 (nx b (i, h)).1 (nx b (i, h)).2 [] rfl (by omega) rfl (by change _ < 99; omega) n1 rfl).trans ?_
  conv => lhs; whnf
  have e0 : ordK b (be b (i, h) 6).toNat 0 [] (nx b (i, h)) = ordR b (i, h) := rfl
  have hR1 := hR.1
  have hR2 := hR.2
  refine br_c (fun h1 => ?_) (fun h1 => ?_)
  · have h1' : decide (((ordR b (i, h)).1.length : Int) > 0) = true := h1
    have hpos := ofd h1'
    have r10 := be_rng b (ordR b (i, h)).2 (n := 10) (by omega)
    have m1 := nx_ok hR1
    have m2 := nx_ok m1
    have rl := be_rng b (nx b (ordR b (i, h)).2) (n := ((ordR b (i, h)).1.length : Int)) (by omega)
    conv => lhs; whnf
    repeat ((first | with_reducible apply br_tt | with_reducible apply br_ff | with_reducible apply br_nf | with_reducible apply br_nt | with_reducible refine br_d ?_ (by kernel_rfl) | with_reducible apply br_t h1 | with_reducible apply br_f h1); conv => lhs; whnf)
    conv => lhs; arg 1; whnf
    refine bnd_g (by exact ⟨hR1, by omega, by omega⟩) ?_
    conv => lhs; whnf
    repeat ((first | with_reducible apply br_tt | with_reducible apply br_ff | with_reducible apply br_nf | with_reducible apply br_nt | with_reducible refine br_d ?_ (by kernel_rfl) | with_reducible apply br_t h1 | with_reducible apply br_f h1); conv => lhs; whnf)
    refine br_c (fun h2 => ?_) (fun h2 => ?_)
    · have h2' : (be b (ordR b (i, h)).2 10 == 0) = true := h2
      have e : ordD b (i, h) = ((ordR b (i, h)).1.set (be b (nx b (ordR b (i, h)).2) ((ordR b (i, h)).1.length : Int)).toNat (bent2 b (nx b (nx b (ordR b (i, h)).2))), nx b (nx b (nx b (nx b (ordR b (i, h)).2)))) := by unfold ordD; rw [h1', h2']; rfl
      rw [e]
      conv => lhs; whnf
      repeat ((first | with_reducible apply br_tt | with_reducible apply br_ff | with_reducible apply br_nf | with_reducible apply br_nt | with_reducible refine br_d ?_ (by kernel_rfl) | with_reducible apply br_t h1 | with_reducible apply br_f h1 | with_reducible apply br_t h2 | with_reducible apply br_f h2); conv => lhs; whnf)
      conv => lhs; arg 1; whnf
      refine bnd_g (by exact ⟨m1, (show 1 ≤ ((ordR b (i, h)).1.length : Int) by omega), (show ((ordR b (i, h)).1.length : Int) ≤ 256 by omega)⟩) ?_
      conv => lhs; whnf
      repeat ((first | with_reducible apply br_tt | with_reducible apply br_ff | with_reducible apply br_nf | with_reducible apply br_nt | with_reducible refine br_d ?_ (by kernel_rfl) | with_reducible apply br_t h1 | with_reducible apply br_f h1 | with_reducible apply br_t h2 | with_reducible apply br_f h2); conv => lhs; whnf)
      conv => lhs; arg 1; whnf
      refine bnd_g (by exact m2) ?_
      conv => lhs; whnf
      repeat ((first | with_reducible apply br_tt | with_reducible apply br_ff | with_reducible apply br_nf | with_reducible apply br_nt | with_reducible refine br_d ?_ (by kernel_rfl) | with_reducible apply br_t h1 | with_reducible apply br_f h1 | with_reducible apply br_t h2 | with_reducible apply br_f h2); conv => lhs; whnf)
      refine br_t (dt2 rl.1 (by have := rl.2; exact Int.lt_of_lt_of_le this (Int.le_of_eq rfl))) ?_
      conv => lhs; whnf
      have hlt : (be b (nx b (ordR b (i, h)).2) ((ordR b (i, h)).1.length : Int)).toNat < (ordR b (i, h)).1.length := by omega
      refine br_t (decide_eq_true (by exact hlt)) ?_
      conv => lhs; whnf
      repeat ((first | with_reducible apply br_tt | with_reducible apply br_ff | with_reducible apply br_nf | with_reducible apply br_nt | with_reducible refine br_d ?_ (by kernel_rfl) | with_reducible apply br_t h1 | with_reducible apply br_f h1 | with_reducible apply br_t h2 | with_reducible apply br_f h2); conv => lhs; whnf)
      rfl
    · have h2' : (be b (ordR b (i, h)).2 10 == 0) = false := h2
      have e : ordD b (i, h) = ((ordR b (i, h)).1, nx b (ordR b (i, h)).2) := by unfold ordD; rw [h1', h2']; rfl
      rw [e]
      conv => lhs; whnf
      repeat ((first | with_reducible apply br_tt | with_reducible apply br_ff | with_reducible apply br_nf | with_reducible apply br_nt | with_reducible refine br_d ?_ (by kernel_rfl) | with_reducible apply br_t h1 | with_reducible apply br_f h1 | with_reducible apply br_t h2 | with_reducible apply br_f h2); conv => lhs; whnf)
      rfl
  · have h1' : decide (((ordR b (i, h)).1.length : Int) > 0) = false := h1
    have e : ordD b (i, h) = ordR b (i, h) := by unfold ordD; rw [h1']; rfl
    rw [e]
    conv => lhs; whnf
    repeat ((first | with_reducible apply br_tt | with_reducible apply br_ff | with_reducible apply br_nf | with_reducible apply br_nt | with_reducible refine br_d ?_ (by kernel_rfl) | with_reducible apply br_t h1 | with_reducible apply br_f h1); conv => lhs; whnf)
    rfl
theorem ok_l22Draw : FnOk Tryz.prog 41 K_l22Draw := by
  refine fn_ok (fn := Tryz.f41) (k := Tryz.f41.ntmps) (E := E_l22Draw) (facts_of (List.forall_mem_cons.2 ⟨ok_l1Below, List.forall_mem_cons.2 ⟨ok_l1Once, List.forall_mem_cons.2 ⟨ok_l2Bent, List.forall_mem_nil _⟩⟩⟩)) (by kernel_rfl) rfl (by decide +kernel) (by decide +kernel) ?_
  intro avs hin r h
  unfold K_l22Draw at h
  split at h
  · obtain ⟨hp, rfl⟩ := gd_o h
    exact ⟨_, ev_l22Draw _ _ _ hp, rfl⟩
  · cases h

/- spec.DrawContextOfOrder -/
def K_drawContextOfOrder : List AV → List Ob → Option (AV × List Ob)
  | [.lst (.int .u8) b], [] => gd (b.length ≤ 1048576) (.agg [.own 0], [.row 3 (.int .i64) (ordD b (newC b)).1])
  | _, _ => none
@[reducible] def E_drawContextOfOrder : Env := mkE (tb [(42, K_l1New), (41, K_l22Draw)]) (fun f => [41].contains f) (fun r => ([], []))
theorem ev_drawContextOfOrder (b : List Int) (hp : b.length ≤ 1048576) : evF E_drawContextOfOrder (1) Tryz.f6 [.lst (.int .u8) b] [] = some (.agg [.own 0], [.row 3 (.int .i64) (ordD b (newC b)).1]) := by
  have n0 := newC_ok hp
  conv => lhs; whnf
  conv => lhs; arg 1; whnf
  refine bnd_g (by exact hp) ?_
  conv => lhs; whnf
  conv => lhs; arg 1; whnf
  refine bnd_g (by exact n0) ?_
  conv => lhs; whnf
theorem ok_drawContextOfOrder : FnOk Tryz.prog 6 K_drawContextOfOrder := by
  refine fn_ok (fn := Tryz.f6) (k := Tryz.f6.ntmps) (E := E_drawContextOfOrder) (facts_of (List.forall_mem_cons.2 ⟨ok_l1New, List.forall_mem_cons.2 ⟨ok_l22Draw, List.forall_mem_nil _⟩⟩)) (by kernel_rfl) rfl (by decide +kernel) (by decide +kernel) ?_
  intro avs hin r h
  unfold K_drawContextOfOrder at h
  split at h
  · obtain ⟨hp, rfl⟩ := gd_o h
    exact ⟨_, ev_drawContextOfOrder _ hp, rfl⟩
  · cases h

/- spec.DrawPlaceOf -/
def K_drawPlaceOf : List AV → List Ob → Option (AV × List Ob)
  | [.lst (.int .u8) b], [] => gd (b.length ≤ 1048576) (.tup [.agg [.own 0], .int .i64 (be b (ordD b (newC b)).2 7 - 1)], [.row 3 (.int .i64) (ordD b (newC b)).1])
  | _, _ => none
@[reducible] def E_drawPlaceOf : Env := mkE (tb [(42, K_l1New), (41, K_l22Draw), (52, K_l1Below)]) (fun f => [41, 52].contains f) (fun r => ([], []))
theorem ev_drawPlaceOf (b : List Int) (hp : b.length ≤ 1048576) : evF E_drawPlaceOf (1) Tryz.f12 [.lst (.int .u8) b] [] = some (.tup [.agg [.own 0], .int .i64 (be b (ordD b (newC b)).2 7 - 1)], [.row 3 (.int .i64) (ordD b (newC b)).1]) := by
  have n0 := newC_ok hp
  have n1 := ordD_ok n0
  have hr := be_rng b (ordD b (newC b)).2 (n := 7) (by omega)
  have hw : IntKind.i64.wrap (be b (ordD b (newC b)).2 7 - 1) = be b (ordD b (newC b)).2 7 - 1 := wrap64 (by omega) (by omega)
  conv => lhs; whnf
  conv => lhs; arg 1; whnf
  refine bnd_g (by exact hp) ?_
  conv => lhs; whnf
  conv => lhs; arg 1; whnf
  refine bnd_g (by exact n0) ?_
  conv => lhs; whnf
  conv => lhs; arg 1; whnf
  refine bnd_g (by exact ⟨n1.1, by omega, by omega⟩) ?_
  conv => lhs; whnf
  refine br_t (by kernel_rfl) ?_
  conv => lhs; whnf
  conv => rhs; rw [← hw]
  all_goals rfl
theorem ok_drawPlaceOf : FnOk Tryz.prog 12 K_drawPlaceOf := by
  refine fn_ok (fn := Tryz.f12) (k := Tryz.f12.ntmps) (E := E_drawPlaceOf) (facts_of (List.forall_mem_cons.2 ⟨ok_l1New, List.forall_mem_cons.2 ⟨ok_l22Draw, List.forall_mem_cons.2 ⟨ok_l1Below, List.forall_mem_nil _⟩⟩⟩)) (by kernel_rfl) rfl (by decide +kernel) (by decide +kernel) ?_
  intro avs hin r h
  unfold K_drawPlaceOf at h
  split at h
  · obtain ⟨hp, rfl⟩ := gd_o h
    exact ⟨_, ev_drawPlaceOf _ hp, rfl⟩
  · cases h

theorem rowsL_get (b : List Int) : ∀ (d i k : Nat), k < d → (rowsL b d i).getD k 0 = orF (ordHas b ((i + k : Nat) : Int)) b.length 0 0
  | 0, i, k, h => by omega
  | d + 1, i, 0, h => by rw [rowsL, List.getD_cons_zero, Nat.add_zero]
  | d + 1, i, k + 1, h => by
    rw [rowsL, List.getD_cons_succ, rowsL_get b d (i + 1) k (by omega)]
    congr 2
    omega
theorem ord_le {b : List Int} (h : isOrd b = true) : b.length ≤ 6 ∧ (∀ k : Nat, k < b.length → isSet b.length (b.getD k 0) = true) ∧ (∀ k : Nat, k < b.length → (b.getD k 0).toNat.testBit k = true) ∧
    (∀ m k g : Nat, m < b.length → k < b.length → (b.getD m 0).toNat.testBit k = true → (b.getD k 0).toNat.testBit g = true → (b.getD m 0).toNat.testBit g = true) := by
  obtain ⟨h1, h2⟩ := isOrd_parts h
  have h3 : allB (ordRow b) b.length 0 = true := by
    unfold isOrd at h
    simp only [Bool.and_eq_true] at h
    exact h.2.2
  have hs : ∀ k : Nat, k < b.length → isSet b.length (b.getD k 0) = true := fun k hk => ordA_set h2 hk
  refine ⟨h1, hs, fun k hk => ?_, fun m k g hm hk hmk hkg => ?_⟩
  · have := (allB_iff _ _ _).1 h2 k (by omega) (by omega)
    unfold ordA at this
    have := (Bool.and_eq_true_iff.1 this).2
    unfold bitI at this
    rw [Int.toNat_natCast] at this
    exact this
  · have := (allB_iff _ _ _).1 h3 m (by omega) (by omega)
    unfold ordRow at this
    have := (allB_iff _ _ _).1 this k (by omega) (by omega)
    unfold ordBad at this
    have hb : bitI (b.getD m 0) (k : Int) = true := by unfold bitI; rw [Int.toNat_natCast]; exact hmk
    rw [hb, Bool.true_and, Bool.not_eq_true', Bool.or_eq_false_iff] at this
    have h4 : band (b.getD k 0) (b.getD m 0) = b.getD k 0 := by simpa using this.1
    have r1 := isSet_le (hs k hk)
    have r2 := isSet_le (hs m hm)
    have h5 := (band_set (x := b.getD k 0) (y := b.getD m 0) ⟨by omega, by omega⟩ ⟨by omega, by omega⟩).2.2
    rw [h4] at h5
    rw [h5, Nat.testBit_and] at hkg
    exact (Bool.and_eq_true_iff.1 hkg).2
theorem set_bit {n : Nat} {s : Int} (h : isSet n s = true) {e : Nat} (he : s.toNat.testBit e = true) : e < n := by
  rcases Nat.lt_or_ge e n with h5 | h5
  · exact h5
  · have := isSet_bit h (e := e) (by omega)
    unfold bitI at this
    rw [Int.toNat_natCast, he] at this
    cases this
theorem row_bit {b : List Int} (h : isOrd b = true) {k : Nat} (hk : k < b.length) (m : Nat) : ((rowsL b b.length 0).getD k 0).toNat.testBit m = true ↔ m < b.length ∧ (b.getD m 0).toNat.testBit k = true := by
  obtain ⟨h1, h2, _, _⟩ := ord_le h
  rw [rowsL_get b b.length 0 k hk, Nat.zero_add, orF_bit _ _ _ _ _ (by omega) (by omega) (by omega)]
  simp only [Int.toNat_zero, Nat.zero_testBit, Bool.false_or, Nat.zero_add, Nat.zero_le, true_and, Bool.and_eq_true, decide_eq_true_eq]
  refine and_congr_right fun hm => ?_
  unfold ordHas
  rw [Int.toNat_natCast, hasE_bit (isSet_8 (h2 m hm)) (by omega) (by omega)]
  unfold bitI
  rw [Int.toNat_natCast]
theorem place_iff {b : List Int} (h : isOrd b = true) {k : Nat} (hk : k < b.length) {p : Int × Int} (hp : p ∈ concF b.length (rowsL b b.length 0)) :
    p.2 = (rowsL b b.length 0).getD k 0 ↔ p.1 = b.getD k 0 := by
  obtain ⟨h1, h2, h3, h4⟩ := ord_le h
  obtain ⟨c1, c2, c3, c4, c5⟩ := concF_mem hp
  have hl := isCtx_len c1
  have hlen : (rowsL b b.length 0).length = b.length := rowsL_length b _ _
  have hsm := ctx_small c1
  constructor
  · intro e
    have hR := small_getD hsm k
    have hx := extF_spec hl.1 hsm (s := ((rowsL b b.length 0).getD k 0).toNat) (by omega)
    rw [Int.toNat_of_nonneg hR.1] at hx
    have hr := isSet_le (h2 k hk)
    rw [c4, e]
    have : (extF (rowsL b b.length 0) ((rowsL b b.length 0).getD k 0)).toNat = (b.getD k 0).toNat := by
      apply Nat.eq_of_testBit_eq
      intro g
      rw [Bool.eq_iff_iff, hx.2.2 g, hlen]
      constructor
      · rintro ⟨g1, g2⟩
        exact ((row_bit h g1 k).1 (g2 k ((row_bit h hk k).2 ⟨hk, h3 k hk⟩))).2
      · intro hg
        have hgn := set_bit (h2 k hk) hg
        refine ⟨hgn, fun m hm => ?_⟩
        obtain ⟨m1, m2⟩ := (row_bit h hk m).1 hm
        exact (row_bit h hgn m).2 ⟨m1, h4 m k g m1 hk m2 hg⟩
    omega
  · intro e
    have hr := isSet_le (h2 k hk)
    have hR := small_getD hsm k
    have hi := intentF_spec (m := (b.length : Int)) ⟨by omega, by omega⟩ hl.1 hsm (t := b.getD k 0) (isSet_8 (h2 k hk))
    rw [← c5, e]
    have : (intentF (b.length : Int) (rowsL b b.length 0) (b.getD k 0)).toNat = ((rowsL b b.length 0).getD k 0).toNat := by
      apply Nat.eq_of_testBit_eq
      intro x
      rw [Bool.eq_iff_iff, hi.2.2 x, row_bit h hk, hlen]
      constructor
      · rintro ⟨g1, g2⟩
        refine ⟨by omega, ?_⟩
        exact ((row_bit h hk x).1 (g2 k hk (h3 k hk))).2
      · rintro ⟨g1, g2⟩
        refine ⟨by omega, fun g hg hgk => ?_⟩
        exact (row_bit h hg x).2 ⟨g1, h4 x k g g1 hk g2 hgk⟩
    omega
theorem firstI_congr {α : Type} {p q : α → Bool} : ∀ (l : List α) (i : Int), (∀ x ∈ l, p x = q x) → firstI p l i = firstI q l i
  | [], _, _ => rfl
  | x :: l, i, h => by rw [firstI, firstI, h x (by simp), firstI_congr l (i + 1) fun y hy => h y (by simp [hy])]
def placeF (b : List Int) (k : Int) : Int := bif isOrd b && decide (0 ≤ k ∧ k ≤ (b.length : Int) - 1) then firstI (fun p => p.2 == (rowsL b b.length 0).getD k.toNat 0) (concF b.length (rowsL b b.length 0)) 0 else -1
theorem placeF_ext {b : List Int} (h : isOrd b = true) {k : Int} (hk : 0 ≤ k ∧ k ≤ (b.length : Int) - 1) : placeF b k = firstI (fun p => p.1 == b.getD k.toNat 0) (concF b.length (rowsL b b.length 0)) 0 := by
  unfold placeF
  rw [h, dt hk, Bool.and_self, cond_true]
  refine firstI_congr _ _ fun p hp => ?_
  rw [Bool.eq_iff_iff, beq_iff_eq, beq_iff_eq]
  exact place_iff h (by omega) hp
def idlHas (b : List Int) (g m : Int) : Bool := !hasE (b.getD g.toNat 0) m
def rowsI (b : List Int) : Nat → Nat → List Int
  | 0, _ => []
  | d + 1, i => orF (idlHas b i) b.length 0 0 :: rowsI b d (i + 1)
theorem rowsI_length (b : List Int) : ∀ (d i : Nat), (rowsI b d i).length = d
  | 0, _ => rfl
  | d + 1, i => by rw [rowsI, List.length_cons, rowsI_length b d (i + 1)]
def ctxIdl (b : List Int) : Int × List Int × Bool := bif isOrd b then ((b.length : Int), rowsI b b.length 0, true) else (0, [], false)
theorem ctxIdl_len (b : List Int) : (ctxIdl b).2.1.length ≤ 8 := by
  unfold ctxIdl
  cases h : isOrd b
  · simp
  · have := isOrd_parts h
    simp [rowsI_length]
    omega
theorem lecL_nd : ∀ n : Fin 7, (lecL n.val).Nodup := by decide +kernel
theorem conc_nodup (m : Int) (b : List Int) : ((concF m b).map (·.1)).Nodup := by
  unfold concF
  cases h : isCtx m b
  · exact List.nodup_nil
  · have hl := isCtx_len h
    rw [cond_true]
    have h0 : (lecI m.toNat).Nodup := by
      unfold lecI
      refine List.Pairwise.map _ (fun a b hab e => hab ?_) (lecL_nd ⟨m.toNat, by omega⟩)
      exact Int.ofNat.inj e
    have h1 : ((lecI m.toNat).filter (closedI m b)).Nodup := h0.sublist List.filter_sublist
    rw [List.map_map]
    refine List.Pairwise.map _ (fun x y hxy e => ?_) (List.Pairwise.and_mem.1 h1)
    obtain ⟨hx, hy, hne⟩ := hxy
    have cx := eq_of_beq (List.mem_filter.1 hx).2
    have cy := eq_of_beq (List.mem_filter.1 hy).2
    have e : extF b x = extF b y := e
    rw [e] at cx
    exact hne (cx.symm.trans cy)
theorem subLen : ∀ (l1 l2 : List Int), l1.Nodup → (∀ x ∈ l1, x ∈ l2) → l1.length ≤ l2.length
  | [], _, _, _ => Nat.zero_le _
  | x :: r, l2, hn, h => by
    have hn' := List.nodup_cons.1 hn
    have hx := h x (by simp)
    have := subLen r (l2.erase x) hn'.2 fun y hy => (List.mem_erase_of_ne (fun e => hn'.1 (by rw [← e]; exact hy))).2 (h y (by simp [hy]))
    rw [List.length_erase_of_mem hx] at this
    have : 0 < l2.length := List.length_pos_of_mem hx
    rw [List.length_cons]
    omega
def belowB (l : List (Int × Int)) (x y : Int) : Bool := bif inC l x then (bif inC l y then band (l.getD x.toNat (0, 0)).1 (l.getD y.toNat (0, 0)).1 == (l.getD x.toNat (0, 0)).1 else false) else false
theorem rowsI_get (b : List Int) : ∀ (d i k : Nat), k < d → (rowsI b d i).getD k 0 = orF (idlHas b ((i + k : Nat) : Int)) b.length 0 0
  | 0, i, k, h => by omega
  | d + 1, i, 0, h => by rw [rowsI, List.getD_cons_zero, Nat.add_zero]
  | d + 1, i, k + 1, h => by
    rw [rowsI, List.getD_cons_succ, rowsI_get b d (i + 1) k (by omega)]
    congr 2
    omega
theorem rowI_bit {b : List Int} (h : isOrd b = true) {k : Nat} (hk : k < b.length) (m : Nat) : ((rowsI b b.length 0).getD k 0).toNat.testBit m = true ↔ m < b.length ∧ (b.getD k 0).toNat.testBit m = false := by
  obtain ⟨h1, h2, _, _⟩ := ord_le h
  rw [rowsI_get b b.length 0 k hk, Nat.zero_add, orF_bit _ _ _ _ _ (by omega) (by omega) (by omega)]
  simp only [Int.toNat_zero, Nat.zero_testBit, Bool.false_or, Nat.zero_add, Nat.zero_le, true_and, Bool.and_eq_true, decide_eq_true_eq]
  refine and_congr_right fun hm => ?_
  unfold idlHas
  rw [Int.toNat_natCast, hasE_bit (isSet_8 (h2 k hk)) (by omega) (by omega)]
  unfold bitI
  rw [Int.toNat_natCast, Bool.not_eq_true']
/-- Sets that hold with an element what is below it. -/
def DownN (b : List Int) (s : Nat) : Prop := ∀ g h : Nat, g < b.length → s.testBit g = true → (b.getD g 0).toNat.testBit h = true → s.testBit h = true
theorem ideal_down {b : List Int} (h : isOrd b = true) {s : Nat} (hs : s < 2 ^ b.length) : ideal b (s : Int) = true ↔ DownN b s := by
  obtain ⟨h1, h2, h3, h4⟩ := ord_le h
  have hpw : 2 ^ b.length ≤ 2 ^ 8 := Nat.pow_le_pow_right (by omega) (by omega)
  unfold ideal
  rw [allB_iff]
  constructor
  · intro g k j hk hb hj
    have := g k (by omega) (by omega)
    unfold idealAt bitI at this
    rw [Int.toNat_natCast, Int.toNat_natCast, hb] at this
    have h5 : band (b.getD k 0) (s : Int) = b.getD k 0 := by simpa using this
    have r1 := isSet_le (h2 k hk)
    have h6 := (band_set (x := b.getD k 0) (y := (s : Int)) ⟨by omega, by omega⟩ ⟨by omega, by omega⟩).2.2
    rw [h5] at h6
    rw [h6, Nat.testBit_and, Int.toNat_natCast] at hj
    exact (Bool.and_eq_true_iff.1 hj).2
  · intro g k hk hk'
    unfold idealAt bitI
    rw [Int.toNat_natCast, Int.toNat_natCast]
    cases hb : s.testBit k
    · rfl
    · rw [Bool.not_true, Bool.false_or, beq_iff_eq]
      have r1 := isSet_le (h2 k (by omega))
      obtain ⟨q1, q2, q3⟩ := band_set (x := b.getD k 0) (y := (s : Int)) ⟨by omega, by omega⟩ ⟨by omega, by omega⟩
      have : (b.getD k 0).toNat &&& ((s : Int)).toNat = (b.getD k 0).toNat := by
        apply Nat.eq_of_testBit_eq
        intro j
        rw [Nat.testBit_and, Int.toNat_natCast]
        cases hj : (b.getD k 0).toNat.testBit j
        · rfl
        · rw [g k j (by omega) hb hj]; rfl
      omega
theorem idealsL_mem (b : List Int) (x : Int) : ∀ (d i : Nat), x ∈ idealsL b d i ↔ ∃ s : Nat, x = s ∧ i ≤ s ∧ s < i + d ∧ ideal b (s : Int) = true
  | 0, i => by
    rw [idealsL]
    constructor
    · intro h; cases h
    · rintro ⟨s, _, _, _, _⟩; omega
  | d + 1, i => by
    rw [idealsL]
    have ih := idealsL_mem b x d (i + 1)
    cases hi : ideal b i
    · rw [cond_false, ih]
      constructor
      · rintro ⟨s, rfl, h1, h2, h3⟩; exact ⟨s, rfl, by omega, by omega, h3⟩
      · rintro ⟨s, rfl, h1, h2, h3⟩
        have : s ≠ i := by rintro rfl; rw [hi] at h3; cases h3
        exact ⟨s, rfl, by omega, by omega, h3⟩
    · rw [cond_true, List.mem_cons, ih]
      constructor
      · rintro (rfl | ⟨s, rfl, h1, h2, h3⟩)
        · exact ⟨i, rfl, by omega, by omega, hi⟩
        · exact ⟨s, rfl, by omega, by omega, h3⟩
      · rintro ⟨s, rfl, h1, h2, h3⟩
        by_cases e : s = i
        · subst e; exact .inl rfl
        · exact .inr ⟨s, rfl, by omega, by omega, h3⟩
theorem idealsL_nodup (b : List Int) : ∀ (d i : Nat), (idealsL b d i).Nodup
  | 0, _ => List.nodup_nil
  | d + 1, i => by
    rw [idealsL]
    cases ideal b i
    · rw [cond_false]; exact idealsL_nodup b d (i + 1)
    · rw [cond_true]
      refine List.nodup_cons.2 ⟨fun h => ?_, idealsL_nodup b d (i + 1)⟩
      obtain ⟨s, e, h1, _⟩ := (idealsL_mem b _ d (i + 1)).1 h
      omega
theorem ideals_mem {b : List Int} (h : isOrd b = true) (x : Int) : x ∈ idealsF b ↔ ∃ s : Nat, x = s ∧ s < 2 ^ b.length ∧ DownN b s := by
  unfold idealsF
  rw [h, cond_true, idealsL_mem]
  constructor
  · rintro ⟨s, rfl, _, h2, h3⟩
    exact ⟨s, rfl, by omega, (ideal_down h (by omega)).1 h3⟩
  · rintro ⟨s, rfl, h2, h3⟩
    exact ⟨s, rfl, by omega, by omega, (ideal_down h h2).2 h3⟩
theorem set_of {n : Nat} (hn : n ≤ 8) {x : Int} (h0 : 0 ≤ x) (h : ∀ i, x.toNat.testBit i = true → i < n) : isSet (n : Int) x = true := by
  have : x.toNat < 2 ^ n := by
    refine Nat.lt_pow_two_of_testBit _ fun i hi => ?_
    cases hb : x.toNat.testBit i
    · rfl
    · have := h i hb
      omega
  unfold isSet
  refine dt ⟨by omega, by omega, ?_⟩
  have e2 : ((2 ^ n : Nat) : Int) = (2 : Int) ^ n := by push_cast; rfl
  rw [Int.toNat_natCast, ← e2]
  omega
theorem mem_ex {l : List Int} {x : Int} (h : x ∈ l) : ∃ k, k < l.length ∧ l.getD k 0 = x := by
  obtain ⟨k, hk, rfl⟩ := List.getElem_of_mem h
  exact ⟨k, hk, by simp [List.getD, hk]⟩
theorem orF_nn (p : Int → Bool) {d : Nat} (h : d ≤ 8) : 0 ≤ orF p d 0 0 := by
  have : ∀ (d i : Nat) (acc : Int), i + d ≤ 8 → 0 ≤ acc → acc ≤ 255 → 0 ≤ orF p d i acc ∧ orF p d i acc ≤ 255 := orF_set p
  exact (this d 0 0 (by omega) (by omega) (by omega)).1
theorem ctx_o {b : List Int} (h : isOrd b = true) : isCtx (b.length : Int) (rowsL b b.length 0) = true := by
  obtain ⟨h1, h2, h3, h4⟩ := ord_le h
  unfold isCtx
  rw [dt (show 0 ≤ (b.length : Int) ∧ (b.length : Int) ≤ 6 by omega), dt (show (rowsL b b.length 0).length ≤ 8 by rw [rowsL_length]; omega), Bool.true_and, Bool.true_and, List.all_eq_true]
  intro x hx
  obtain ⟨k, hk, rfl⟩ := mem_ex hx
  rw [rowsL_length] at hk
  refine set_of (by omega) ?_ fun i hi => ((row_bit h hk i).1 hi).1
  rw [rowsL_get b b.length 0 k hk]
  exact orF_nn _ (by omega)
theorem ctx_i {b : List Int} (h : isOrd b = true) : isCtx (b.length : Int) (rowsI b b.length 0) = true := by
  obtain ⟨h1, h2, h3, h4⟩ := ord_le h
  unfold isCtx
  rw [dt (show 0 ≤ (b.length : Int) ∧ (b.length : Int) ≤ 6 by omega), dt (show (rowsI b b.length 0).length ≤ 8 by rw [rowsI_length]; omega), Bool.true_and, Bool.true_and, List.all_eq_true]
  intro x hx
  obtain ⟨k, hk, rfl⟩ := mem_ex hx
  rw [rowsI_length] at hk
  refine set_of (by omega) ?_ fun i hi => ((rowI_bit h hk i).1 hi).1
  rw [rowsI_get b b.length 0 k hk]
  exact orF_nn _ (by omega)
/-- A concept, its two sets as numbers below 2 ^ n, bit by bit. -/
theorem conc_bits {m : Int} {b : List Int} (hm : m = (b.length : Int)) {p : Int × Int} (hp : p ∈ concF m b) : ∃ s t : Nat, p = ((s : Int), (t : Int)) ∧ s < 2 ^ b.length ∧ t < 2 ^ b.length ∧
    (∀ g, s.testBit g = true ↔ g < b.length ∧ ∀ j, t.testBit j = true → (b.getD g 0).toNat.testBit j = true) ∧
    (∀ j, t.testBit j = true ↔ j < b.length ∧ ∀ g, g < b.length → s.testBit g = true → (b.getD g 0).toNat.testBit j = true) := by
  obtain ⟨h, p2, p3, p4, p5⟩ := concF_mem hp
  have hl := isCtx_len h
  have hsm := ctx_small h
  obtain ⟨t, ht, ht'⟩ := isSet_ex p2
  obtain ⟨s, hs, hs'⟩ := isSet_ex p3
  rw [Int.toNat_natCast] at hs'
  rw [hm, Int.toNat_natCast] at ht'
  have hpw : 2 ^ b.length ≤ 2 ^ 8 := Nat.pow_le_pow_right (by omega) hl.1
  obtain ⟨x1, x2, x3⟩ := extF_spec hl.1 hsm (s := t) (by omega)
  obtain ⟨c1, c2, c3⟩ := intentF_spec (m := m) ⟨hl.2.1, by omega⟩ hl.1 hsm (isSet_8 p3)
  rw [p5, ht, hs, Int.toNat_natCast, Int.toNat_natCast, hm] at c3
  rw [← ht, ← p4, hs, Int.toNat_natCast] at x3
  refine ⟨s, t, by rw [← hs, ← ht], hs', ht', fun g => ?_, fun j => ?_⟩
  · exact x3 g
  · rw [c3 j]
    refine and_congr_left fun _ => ?_
    omega
theorem conc_o {b : List Int} (h : isOrd b = true) {p : Int × Int} (hp : p ∈ concF (b.length : Int) (rowsL b b.length 0)) : ∃ s : Nat, p.1 = (s : Int) ∧ s < 2 ^ b.length ∧ DownN b s := by
  obtain ⟨h1, h2, h3, h4⟩ := ord_le h
  have hR := rowsL_length b b.length 0
  obtain ⟨s, t, rfl, hs, ht, e1, e2⟩ := conc_bits (by rw [hR]) hp
  rw [hR] at hs ht e1 e2
  refine ⟨s, rfl, hs, fun g k hg hsg hk => ?_⟩
  have hkn : k < b.length := set_bit (h2 g hg) hk
  refine (e1 k).2 ⟨hkn, fun j hj => ?_⟩
  have hr := ((e1 g).1 hsg).2 j hj
  obtain ⟨g1, g2⟩ := (row_bit h hg j).1 hr
  exact (row_bit h hkn j).2 ⟨g1, h4 j g k g1 hg g2 hk⟩
theorem conc_i {b : List Int} (h : isOrd b = true) {p : Int × Int} (hp : p ∈ concF (b.length : Int) (rowsI b b.length 0)) : ∃ s t : Nat, p = ((s : Int), (t : Int)) ∧ s < 2 ^ b.length ∧ DownN b s ∧ (∀ i, t.testBit i = true ↔ i < b.length ∧ s.testBit i = false) := by
  obtain ⟨h1, h2, h3, h4⟩ := ord_le h
  have hR := rowsI_length b b.length 0
  obtain ⟨s, t, rfl, hs, ht, e1, e2⟩ := conc_bits (by rw [hR]) hp
  rw [hR] at hs ht e1 e2
  have hd : DownN b s := by
    intro g k hg hsg hk
    have hkn : k < b.length := set_bit (h2 g hg) hk
    refine (e1 k).2 ⟨hkn, fun j hj => ?_⟩
    have hr := ((e1 g).1 hsg).2 j hj
    obtain ⟨g1, g2⟩ := (rowI_bit h hg j).1 hr
    refine (rowI_bit h hkn j).2 ⟨g1, ?_⟩
    cases hb : (b.getD k 0).toNat.testBit j
    · rfl
    · rw [h4 g k j hg hkn hk hb] at g2; cases g2
  refine ⟨s, t, rfl, hs, hd, fun i => ?_⟩
  rw [e2 i]
  refine and_congr_right fun hi => ?_
  constructor
  · intro g
    cases hb : s.testBit i
    · rfl
    · have := ((rowI_bit h hi i).1 (g i hi hb)).2
      rw [h3 i hi] at this
      cases this
  · intro g k hk hsk
    refine (rowI_bit h hk i).2 ⟨hi, ?_⟩
    cases hb : (b.getD k 0).toNat.testBit i
    · rfl
    · rw [hd k i hk hsk hb] at g; cases g
/-- What ideals have in common as objects: what lies in none of them. -/
theorem down_int {b : List Int} (h : isOrd b = true) {s : Nat} (hs : s < 2 ^ b.length) (hd : DownN b s) : ∃ t : Nat, intentF (b.length : Int) (rowsI b b.length 0) (s : Int) = (t : Int) ∧ t < 256 ∧ ∀ i, t.testBit i = true ↔ i < b.length ∧ s.testBit i = false := by
  obtain ⟨h1, h2, h3, h4⟩ := ord_le h
  have hc := ctx_i h
  have hl := isCtx_len hc
  have hsm := ctx_small hc
  have hR := rowsI_length b b.length 0
  have hpw : 2 ^ b.length ≤ 2 ^ 8 := Nat.pow_le_pow_right (by omega) (by omega)
  obtain ⟨c1, c2, c3⟩ := intentF_spec (m := (b.length : Int)) ⟨hl.2.1, by omega⟩ hl.1 hsm (t := (s : Int)) (by rw [isSet8]; exact dt (by omega))
  refine ⟨(intentF (b.length : Int) (rowsI b b.length 0) (s : Int)).toNat, by omega, by omega, fun i => ?_⟩
  rw [c3 i, hR, Int.toNat_natCast]
  constructor
  · rintro ⟨g1, g2⟩
    have hi : i < b.length := by omega
    refine ⟨hi, ?_⟩
    cases hb : s.testBit i
    · rfl
    · have := ((rowI_bit h hi i).1 (g2 i hi hb)).2
      rw [h3 i hi] at this
      cases this
  · rintro ⟨hi, g⟩
    refine ⟨by omega, fun k hk hsk => (rowI_bit h hk i).2 ⟨hi, ?_⟩⟩
    cases hb : (b.getD k 0).toNat.testBit i
    · rfl
    · rw [hd k i hk hsk hb] at g; cases g
theorem down_and {b : List Int} {s t : Nat} (hs : DownN b s) (ht : DownN b t) : DownN b (s &&& t) := by
  intro g k hg h1 h2
  rw [Nat.testBit_and, Bool.and_eq_true] at h1 ⊢
  exact ⟨hs g k hg h1.1 h2, ht g k hg h1.2 h2⟩
theorem ideal_conc {b : List Int} (h : isOrd b = true) {s : Nat} (hs : s < 2 ^ b.length) (hd : DownN b s) : ∃ p ∈ concF (b.length : Int) (rowsI b b.length 0), p.1 = (s : Int) := by
  have hc := ctx_i h
  have hl := isCtx_len hc
  have hpw : 2 ^ b.length ≤ 2 ^ 8 := Nat.pow_le_pow_right (by omega) (by rw [← rowsI_length b b.length 0]; exact hl.1)
  obtain ⟨t, h1, h2, h3⟩ := down_int h hs hd
  obtain ⟨g1, g2⟩ := int_cl hc (s := (s : Int)) (by rw [isSet8]; exact dt (by omega))
  have hm := conc_in hc g1 g2
  refine ⟨_, hm, ?_⟩
  obtain ⟨s', t', e, hs', hd', ht'⟩ := conc_i h hm
  have e1 := congrArg Prod.fst e
  have e2 : (t : Int) = (t' : Int) := h1.symm.trans (congrArg Prod.snd e)
  have e2 : t = t' := by omega
  rw [e1]
  subst e2
  have : s' = s := by
    apply Nat.eq_of_testBit_eq
    intro i
    rcases Nat.lt_or_ge i b.length with hi | hi
    · have := (ht' i).symm.trans (h3 i)
      cases q : s'.testBit i <;> cases q' : s.testBit i <;> simp [q, q', hi] at this ⊢
    · rw [Nat.testBit_lt_two_pow (Nat.lt_of_lt_of_le hs' (Nat.pow_le_pow_right (by omega) hi)), Nat.testBit_lt_two_pow (Nat.lt_of_lt_of_le hs (Nat.pow_le_pow_right (by omega) hi))]
  rw [this]
theorem ideals_conc {b : List Int} (h : isOrd b = true) (x : Int) : x ∈ (concF (b.length : Int) (rowsI b b.length 0)).map (·.1) ↔ x ∈ idealsF b := by
  rw [ideals_mem h]
  constructor
  · intro hx
    obtain ⟨p, hp, rfl⟩ := List.mem_map.1 hx
    obtain ⟨s, t, rfl, hs, hd, _⟩ := conc_i h hp
    exact ⟨s, rfl, hs, hd⟩
  · rintro ⟨s, rfl, hs, hd⟩
    obtain ⟨p, hp, e⟩ := ideal_conc h hs hd
    exact List.mem_map.2 ⟨p, hp, e⟩
theorem ideals_nodup {b : List Int} : (idealsF b).Nodup := by
  unfold idealsF
  cases isOrd b
  · exact List.nodup_nil
  · exact idealsL_nodup b _ _
theorem ideals_count {b : List Int} (h : isOrd b = true) : (concF (b.length : Int) (rowsI b b.length 0)).length = (idealsF b).length := by
  have := ((List.perm_ext_iff_of_nodup (conc_nodup _ _) ideals_nodup).2 (ideals_conc h)).length_eq
  rwa [List.length_map] at this
theorem compl_le {b : List Int} (h : isOrd b = true) : (concF (b.length : Int) (rowsL b b.length 0)).length ≤ (idealsF b).length := by
  have := subLen _ (idealsF b) (conc_nodup (b.length : Int) (rowsL b b.length 0)) fun x hx => by
    obtain ⟨p, hp, rfl⟩ := List.mem_map.1 hx
    exact (ideals_mem h _).2 (conc_o h hp)
  rwa [List.length_map] at this
theorem firstI_hit {α : Type} (p : α → Bool) (d : α) : ∀ (l : List α) (i : Int), l.any p = true → ∃ j : Nat, j < l.length ∧ firstI p l i = i + j ∧ p (l.getD j d) = true
  | [], _, h => by cases h
  | x :: l, i, h => by
    rw [firstI]
    cases hx : p x
    · rw [List.any_cons, hx, Bool.false_or] at h
      obtain ⟨j, h1, h2, h3⟩ := firstI_hit p d l (i + 1) h
      exact ⟨j + 1, by simp; omega, by rw [cond_false, h2]; omega, by rw [List.getD_cons_succ]; exact h3⟩
    · exact ⟨0, by simp, by rw [cond_true]; omega, by rw [List.getD_cons_zero]; exact hx⟩
theorem tabC_el {m : Int} {b : List Int} {p q : Int × Int} (hp : p ∈ concF m b) (hq : q ∈ concF m b) (meet : Bool) : ∃ j : Nat, j < (concF m b).length ∧ tabC m b (concF m b) meet p q = (j : Int) ∧ ((concF m b).getD j (0, 0)).2 = tabV m b meet p q := by
  obtain ⟨z, hz, he⟩ := meet_in hp hq meet
  obtain ⟨j, h1, h2, h3⟩ := firstI_hit (fun z => z.2 == tabV m b meet p q) (0, 0) (concF m b) 0 (List.any_eq_true.2 ⟨z, hz, beq_iff_eq.2 he⟩)
  exact ⟨j, h1, by unfold tabC; rw [h2]; omega, eq_of_beq h3⟩
theorem tab_get {m : Int} {b : List Int} {meet : Bool} {x y : Nat} (hx : x < (concF m b).length) (hy : y < (concF m b).length) : ((tabF m b meet).getD x []).getD y 0 = tabC m b (concF m b) meet ((concF m b).getD x (0, 0)) ((concF m b).getD y (0, 0)) := by
  unfold tabF
  rw [getD_map0 hx [] (0, 0)]
  unfold tabR
  rw [getD_map0 hy 0 (0, 0)]
theorem dist_i {b : List Int} (h : isOrd b = true) : lawV (b.length : Int) (rowsI b b.length 0) true = true := by
  have hc := ctx_i h
  have hn := (ord_le h).1
  have hpw : 2 ^ b.length ≤ 2 ^ 8 := Nat.pow_le_pow_right (by omega) (by omega)
  have key : lawX (tabF (b.length : Int) (rowsI b b.length 0) true) (tabF (b.length : Int) (rowsI b b.length 0) false) (concF (b.length : Int) (rowsI b b.length 0)) true = false := by
    refine anyN_false _ _ fun x _ hx => anyN_false _ _ fun y _ hy => anyN_false _ _ fun z _ hz => ?_
    rw [Nat.zero_add] at hx hy hz
    have mx := mem_getD (d := ((0, 0) : Int × Int)) hx
    have my := mem_getD (d := ((0, 0) : Int × Int)) hy
    have mz := mem_getD (d := ((0, 0) : Int × Int)) hz
    obtain ⟨j, j1, j2, j3⟩ := tabC_el my mz false
    obtain ⟨a, a1, a2, a3⟩ := tabC_el mx my true
    obtain ⟨c, c1, c2, c3⟩ := tabC_el mx mz true
    have mj := mem_getD (d := ((0, 0) : Int × Int)) j1
    unfold lawZ
    rw [Bool.true_or, Bool.true_and, tab_get hy hz, tab_get hx hy, tab_get hx hz, j2, a2, c2, Int.toNat_natCast, Int.toNat_natCast, Int.toNat_natCast, tab_get hx j1, tab_get a1 c1]
    refine bne_eq_false_iff_eq.2 ?_
    unfold tabC
    have e : tabV (b.length : Int) (rowsI b b.length 0) true ((concF (b.length : Int) (rowsI b b.length 0)).getD x (0, 0)) ((concF (b.length : Int) (rowsI b b.length 0)).getD j (0, 0)) = tabV (b.length : Int) (rowsI b b.length 0) false ((concF (b.length : Int) (rowsI b b.length 0)).getD a (0, 0)) ((concF (b.length : Int) (rowsI b b.length 0)).getD c (0, 0)) := by
      unfold tabV at j3 a3 c3 ⊢
      rw [cond_false] at j3 ⊢
      rw [cond_true] at a3 c3 ⊢
      rw [a3, c3]
      obtain ⟨sx, tx, ex, hsx, hdx, hbx⟩ := conc_i h mx
      obtain ⟨sy, ty, ey, hsy, hdy, hby⟩ := conc_i h my
      obtain ⟨sz, tz, ez, hsz, hdz, hbz⟩ := conc_i h mz
      obtain ⟨sj, tj, ej, hsj, hdj, hbj⟩ := conc_i h mj
      rw [ey, ez, ej] at j3
      rw [ex, ej, ey, ez]
      simp only at j3 ⊢
      have lt_of : ∀ t s : Nat, (∀ i, t.testBit i = true ↔ i < b.length ∧ s.testBit i = false) → t < 256 := by
        intro t s ht
        refine Nat.lt_of_lt_of_le (Nat.lt_pow_two_of_testBit (n := b.length) _ fun i hi => ?_) hpw
        cases hb : t.testBit i
        · rfl
        · have := ((ht i).1 hb).1; omega
      rw [band_nat (lt_of _ _ hby) (lt_of _ _ hbz)] at j3
      have hj : tj = ty &&& tz := by omega
      rw [band_nat (x := sx) (y := sj) (by omega) (by omega), band_nat (x := sx) (y := sy) (by omega) (by omega), band_nat (x := sx) (y := sz) (by omega) (by omega)]
      have hle : ∀ u v : Nat, u < 2 ^ b.length → u &&& v < 2 ^ b.length := fun u v hu => Nat.lt_of_le_of_lt Nat.and_le_left hu
      obtain ⟨t1, e1, l1, b1⟩ := down_int h (hle sx sj hsx) (down_and hdx hdj)
      obtain ⟨t2, e2, l2, b2⟩ := down_int h (hle sx sy hsx) (down_and hdx hdy)
      obtain ⟨t3, e3, l3, b3⟩ := down_int h (hle sx sz hsx) (down_and hdx hdz)
      rw [e1, e2, e3, band_nat l2 l3]
      have : t1 = t2 &&& t3 := by
        apply Nat.eq_of_testBit_eq
        intro i
        rw [Bool.eq_iff_iff, Nat.testBit_and t2 t3 i, Bool.and_eq_true, b1 i, b2 i, b3 i, Nat.testBit_and, Nat.testBit_and, Nat.testBit_and]
        have q1 := hbj i
        rw [hj, Nat.testBit_and, Bool.and_eq_true, hby i, hbz i] at q1
        by_cases hin : i < b.length
        · simp only [hin, true_and] at q1 ⊢
          revert q1
          cases sx.testBit i <;> cases sy.testBit i <;> cases sz.testBit i <;> cases sj.testBit i <;> simp
        · simp [hin]
      rw [this]
    rw [e]
  unfold lawV
  rw [key, cond_false]
  exact hc
/-- The order lies in its completion as it is. -/
theorem row_int {b : List Int} (h : isOrd b = true) {k : Nat} (hk : k < b.length) : intentF (b.length : Int) (rowsL b b.length 0) (b.getD k 0) = (rowsL b b.length 0).getD k 0 := by
  obtain ⟨h1, h2, h3, h4⟩ := ord_le h
  have hc := ctx_o h
  have hl := isCtx_len hc
  have hlen : (rowsL b b.length 0).length = b.length := rowsL_length b _ _
  have hsm := ctx_small hc
  have hr := isSet_le (h2 k hk)
  have hR := small_getD hsm k
  have hi := intentF_spec (m := (b.length : Int)) ⟨by omega, by omega⟩ hl.1 hsm (t := b.getD k 0) (isSet_8 (h2 k hk))
  have : (intentF (b.length : Int) (rowsL b b.length 0) (b.getD k 0)).toNat = ((rowsL b b.length 0).getD k 0).toNat := by
    apply Nat.eq_of_testBit_eq
    intro x
    rw [Bool.eq_iff_iff, hi.2.2 x, row_bit h hk, hlen]
    constructor
    · rintro ⟨g1, g2⟩
      refine ⟨by omega, ?_⟩
      exact ((row_bit h hk x).1 (g2 k hk (h3 k hk))).2
    · rintro ⟨g1, g2⟩
      refine ⟨by omega, fun g hg hgk => ?_⟩
      exact (row_bit h hg x).2 ⟨g1, h4 x k g g1 hk g2 hgk⟩
  omega
theorem place_in {b : List Int} (h : isOrd b = true) {k : Nat} (hk : k < b.length) : ∃ j : Nat, placeF b (k : Int) = (j : Int) ∧ j < (concF (b.length : Int) (rowsL b b.length 0)).length ∧ ((concF (b.length : Int) (rowsL b b.length 0)).getD j (0, 0)).1 = b.getD k 0 := by
  have hc := ctx_o h
  obtain ⟨h1, h2, h3, h4⟩ := ord_le h
  obtain ⟨g1, g2⟩ := int_cl hc (s := b.getD k 0) (isSet_8 (h2 k hk))
  rw [row_int h hk] at g1 g2
  have hm := conc_in hc g1 g2
  have he := (place_iff h hk hm).1 rfl
  obtain ⟨j, j1, j2, j3⟩ := firstI_hit (fun p => p.1 == b.getD k 0) (0, 0) (concF (b.length : Int) (rowsL b b.length 0)) 0 (List.any_eq_true.2 ⟨_, hm, beq_iff_eq.2 he⟩)
  refine ⟨j, ?_, j1, eq_of_beq j3⟩
  rw [placeF_ext h (by omega), Int.toNat_natCast, j2]
  omega
theorem place_below {b : List Int} (h : isOrd b = true) {x y : Nat} (hx : x < b.length) (hy : y < b.length) : hasE (b.getD y 0) (x : Int) = belowB (concF (b.length : Int) (rowsL b b.length 0)) (placeF b x) (placeF b y) := by
  obtain ⟨h1, h2, h3, h4⟩ := ord_le h
  obtain ⟨i, i1, i2, i3⟩ := place_in h hx
  obtain ⟨j, j1, j2, j3⟩ := place_in h hy
  unfold belowB
  rw [i1, j1, inC_iff.2 (by omega), inC_iff.2 (by omega), cond_true, cond_true, Int.toNat_natCast, Int.toNat_natCast, i3, j3, hasE_bit (isSet_8 (h2 y hy)) (by omega) (by omega)]
  unfold bitI
  rw [Int.toNat_natCast]
  obtain ⟨s, hs, hs'⟩ := isSet_ex (h2 x hx)
  obtain ⟨t, ht, ht'⟩ := isSet_ex (h2 y hy)
  have hpw : 2 ^ b.length ≤ 2 ^ 8 := Nat.pow_le_pow_right (by omega) (by omega)
  rw [Int.toNat_natCast] at hs' ht'
  have k4 := fun g => h4 y x g hy hx
  have k3 := h3 x hx
  rw [hs, Int.toNat_natCast] at k3
  rw [ht, hs, Int.toNat_natCast, Int.toNat_natCast] at k4
  rw [hs, ht, Int.toNat_natCast, band_nat (by omega) (by omega), Bool.eq_iff_iff, beq_iff_eq]
  constructor
  · intro g
    have : s &&& t = s := by
      apply Nat.eq_of_testBit_eq
      intro e
      rw [Nat.testBit_and]
      cases hb : s.testBit e
      · rfl
      · rw [k4 e g hb]; rfl
    rw [this]
  · intro g
    have g : s &&& t = s := by omega
    have := congrArg (fun z => Nat.testBit z x) g
    simp only [Nat.testBit_and, k3, Bool.true_and] at this
    exact this
/- laws.big -/
def K_bigL : List AV → List Ob → Option (AV × List Ob)
  | [.lst (.int .u8) b], [] => gd (True) (.bool (decide ((b.length : Int) > 1048576)), [])
  | _, _ => none
@[reducible] def E_bigL : Env := mkE (tb []) (fun f => false) (fun r => ([], []))
theorem ev_bigL (b : List Int) (hp : True) : evF E_bigL (1) Tryz.f5 [.lst (.int .u8) b] [] = some (.bool (decide ((b.length : Int) > 1048576)), []) := by
  conv => lhs; whnf
theorem ok_bigL : FnOk Tryz.prog 5 K_bigL := by
  refine fn_ok (fn := Tryz.f5) (k := Tryz.f5.ntmps) (E := E_bigL) (facts_of (List.forall_mem_nil _)) (by kernel_rfl) rfl (by decide +kernel) (by decide +kernel) ?_
  intro avs hin r h
  unfold K_bigL at h
  split at h
  · obtain ⟨hp, rfl⟩ := gd_o h
    exact ⟨_, ev_bigL _ hp, rfl⟩
  · cases h

/- impl.inSet -/
def K_inSet : List AV → List Ob → Option (AV × List Ob)
  | [.int .i64 a, .int .i64 b], [] => gd (True) (.bool (bnot a b == 0), [])
  | _, _ => none
@[reducible] def E_inSet : Env := mkE (tb []) (fun f => false) (fun r => ([], []))
theorem ev_inSet (a b : Int) (hp : True) : evF E_inSet (1) Tryz.f51 [.int .i64 a, .int .i64 b] [] = some (.bool (bnot a b == 0), []) := by
  conv => lhs; whnf
  rfl
theorem ok_inSet : FnOk Tryz.prog 51 K_inSet := by
  refine fn_ok (fn := Tryz.f51) (k := Tryz.f51.ntmps) (E := E_inSet) (facts_of (List.forall_mem_nil _)) (by kernel_rfl) rfl (by decide +kernel) (by decide +kernel) ?_
  intro avs hin r h
  unfold K_inSet at h
  split at h
  · obtain ⟨hp, rfl⟩ := gd_o h
    exact ⟨_, ev_inSet _ _ hp, rfl⟩
  · cases h

/- impl.IsOrder -/
def K_implIsOrder : List AV → List Ob → Option (AV × List Ob)
  | [.agg [.lst (.int .i64) b]], [] => gd (b.length < 4611686018427387904) (.bool (isOrd b), [])
  | _, _ => none
@[reducible] def E_implIsOrder : Env := mkE (tb [(64, K_implIsSet), (45, K_hasElement), (49, K_elementsOf), (51, K_inSet)]) (fun f => false) (fun r => bif r == 5 then ([1, 3, 16, 17, 18], [1, 2]) else bif r == 11 then ([1, 35, 36, 37], [1, 2, 35, 36, 37]) else bif r == 14 then ([1, 6, 7, 35, 36, 37, 43, 44, 45], [1, 2, 35, 36, 37]) else ([], []))
theorem lp_implIsOrder (b : List Int) (hb : b.length ≤ 6) (k : AX → S → Option (AV × List Ob)) (r : Option (AV × List Ob)) (hk : k .ret (mkS [1, 2] [.ptr 0 0, .bool false] [some (.box 26 [.lst (.int .i64) b])]) = r) (d : Nat) : ∀ (n i : Nat) (x : Int), b.length - i = d → i ≤ b.length → x = i → d < n →
    lpAt E_implIsOrder (lp E_implIsOrder 0 n) 0 (loopAt Tryz.f22 0) (mkS [1, 3, 16, 17, 18] [.ptr 0 0, .int .i64 b.length, .lst (.int .i64) b, .int .i64 b.length, .int .i64 x] [some (.box 26 [.lst (.int .i64) b])]) k =
      if allB (ordA b) d i then k (.exit 0) (mkS [1, 2] [.ptr 0 0, .any] [some (.box 26 [.lst (.int .i64) b])]) else r := by
  induction d with
  | zero =>
    intro n i x hd hi hx hn
    subst hx
    rw [lpAt_def]
    conv => lhs; whnf
    refine br_f (df (by omega)) ?_
    conv => lhs; whnf
    rfl
  | succ d ih =>
    intro n i x hd hi hx hn
    obtain ⟨n, rfl⟩ : ∃ m, n = m + 1 := ⟨n - 1, by omega⟩
    subst hx
    rw [lpAt_def]
    conv => lhs; whnf
    refine br_t (dt (by omega)) ?_
    conv => lhs; whnf
    refine br_t (dt2 (by omega) (by omega)) ?_
    conv => lhs; whnf
    conv => lhs; arg 1; whnf
    refine bnd_g (by exact True.intro) ?_
    conv => lhs; whnf
    refine br_c (fun h => ?_) (fun h => ?_)
    · have h' : isSet b.length (b.getD i 0) = false := bnt h
      conv => lhs; whnf
      repeat ((first | with_reducible apply br_tt | with_reducible apply br_ff | with_reducible apply br_nf | with_reducible apply br_nt | with_reducible refine br_d ?_ (by kernel_rfl) | with_reducible apply br_t h | with_reducible apply br_f h | with_reducible refine br_t (dt2 (by omega) (by omega)) ?_); conv => lhs; whnf)
      have e : ordA b i = false := by
        unfold ordA
        rw [h']
        rfl
      rw [if_neg (by rw [allB, e]; exact Bool.false_ne_true)]
      exact hk
    · have h' : isSet b.length (b.getD i 0) = true := bnf h
      have hl := isSet_le h'
      have hE : hasE (b.getD i 0) i = bitI (b.getD i 0) i := hasE_bit (isSet_8 h') (by omega) (by omega)
      conv => lhs; whnf
      repeat ((first | with_reducible apply br_tt | with_reducible apply br_ff | with_reducible apply br_nf | with_reducible apply br_nt | with_reducible refine br_d ?_ (by kernel_rfl) | with_reducible apply br_t h | with_reducible apply br_f h | with_reducible refine br_t (dt2 (by omega) (by omega)) ?_); conv => lhs; whnf)
      conv => lhs; arg 1; whnf
      refine bnd_g (by exact True.intro) ?_
      conv => lhs; whnf
      repeat ((first | with_reducible apply br_tt | with_reducible apply br_ff | with_reducible apply br_nf | with_reducible apply br_nt | with_reducible refine br_d ?_ (by kernel_rfl) | with_reducible apply br_t h | with_reducible apply br_f h | with_reducible refine br_t (dt2 (by omega) (by omega)) ?_); conv => lhs; whnf)
      refine br_c (fun h2 => ?_) (fun h2 => ?_)
      · conv => lhs; whnf
        have e : ordA b i = false := by
          unfold ordA
          rw [← hE, show hasE (b.getD i 0) i = false from bnt h2, Bool.and_false]
        rw [if_neg (by rw [allB, e]; exact Bool.false_ne_true)]
        exact hk
      · conv => lhs; whnf
        rw [ih n (i + 1) _ (by omega) (by omega) (by rw [wrap64 (by omega) (by omega)]; simp) (by omega)]
        have e : ordA b i = true := by
          unfold ordA
          rw [h', ← hE, show hasE (b.getD i 0) i = true from bnf h2]
          rfl
        rw [allB, e, Bool.true_and]

theorem lq_implIsOrder (b : List Int) (hb : b.length ≤ 6) (a : Nat) (ha : a < b.length) (s : Int) (l : List Int) (hl : l.length ≤ 8) (hm : ∀ x ∈ l, 0 ≤ x ∧ x < b.length ∧ x ≤ 7) (k : AX → S → Option (AV × List Ob)) (r : Option (AV × List Ob))
    (hk : k .ret (mkS [1, 2, 35, 36, 37] [.ptr 0 0, .bool false, .lst (.int .i64) b, .int .i64 b.length, .int .i64 (a : Int)] [some (.box 26 [.lst (.int .i64) b])]) = r) (d : Nat) : ∀ (n i : Nat) (x : Int), l.length - i = d → i ≤ l.length → x = i → d < n →
    lpAt E_implIsOrder (lp E_implIsOrder 0 n) 0 (loopAt Tryz.f22 2) (mkS [1, 6, 7, 35, 36, 37, 43, 44, 45] [.ptr 0 0, .int .i64 (a : Int), .int .i64 s, .lst (.int .i64) b, .int .i64 b.length, .int .i64 (a : Int), .own 1, .int .i64 l.length, .int .i64 x] [some (.box 26 [.lst (.int .i64) b]), some (.row 3 (.int .i64) l)]) k =
      if (l.drop i).any (pairBad b a s) then r else k (.exit 4) (mkS [1, 2, 35, 36, 37] [.ptr 0 0, .any, .lst (.int .i64) b, .int .i64 b.length, .int .i64 (a : Int)] [some (.box 26 [.lst (.int .i64) b])]) := by
  induction d with
  | zero =>
    intro n i x hd hi hx hn
    subst hx
    rw [lpAt_def]
    conv => lhs; whnf
    refine br_f (df (by omega)) ?_
    conv => lhs; whnf
    rw [List.drop_of_length_le (by omega)]
    rfl
  | succ d ih =>
    intro n i x hd hi hx hn
    obtain ⟨n, rfl⟩ : ∃ m, n = m + 1 := ⟨n - 1, by omega⟩
    subst hx
    have hx := hm _ (mem_getD (d := 0) (show i < l.length by omega))
    rw [lpAt_def]
    conv => lhs; whnf
    refine br_t (dt (by omega)) ?_
    conv => lhs; whnf
    repeat ((first | with_reducible apply br_tt | with_reducible apply br_ff | with_reducible apply br_nf | with_reducible apply br_nt | with_reducible refine br_d ?_ (by kernel_rfl) | with_reducible refine br_t (dt2 (by omega) (by omega)) ?_); conv => lhs; whnf)
    refine br_t (dt (by omega)) ?_
    conv => lhs; whnf
    refine br_t (dt2 hx.1 hx.2.1) ?_
    conv => lhs; whnf
    conv => lhs; arg 1; whnf
    refine bnd_g (by exact True.intro) ?_
    conv => lhs; whnf
    rw [getD_drop (l := l) (i := i) (d := 0) (by omega)]
    have bad : pairBad b a s (l.getD i 0) = true → (if (l.getD i 0 :: l.drop (i + 1)).any (pairBad b a s) then r else k (.exit 4) (mkS [1, 2, 35, 36, 37] [.ptr 0 0, .any, .lst (.int .i64) b, .int .i64 b.length, .int .i64 (a : Int)] [some (.box 26 [.lst (.int .i64) b])])) = r := by
      intro h
      rw [List.any_cons, h]
      rfl
    have good : pairBad b a s (l.getD i 0) = false → (l.getD i 0 :: l.drop (i + 1)).any (pairBad b a s) = (l.drop (i + 1)).any (pairBad b a s) := by
      intro h
      rw [List.any_cons, h]
      rfl
    refine br_c (fun h => ?_) (fun h => ?_)
    · conv => lhs; whnf
      repeat ((first | with_reducible apply br_tt | with_reducible apply br_ff | with_reducible apply br_nf | with_reducible apply br_nt | with_reducible refine br_d ?_ (by kernel_rfl) | with_reducible apply br_t h | with_reducible apply br_f h | with_reducible refine br_t (dt2 (by omega) (by omega)) ?_); conv => lhs; whnf)
      rw [bad (by unfold pairBad; rw [show (!(bnot (b.getD (l.getD i 0).toNat 0) s == 0)) = true from h]; rfl)]
      exact hk
    · conv => lhs; whnf
      repeat ((first | with_reducible apply br_tt | with_reducible apply br_ff | with_reducible apply br_nf | with_reducible apply br_nt | with_reducible refine br_d ?_ (by kernel_rfl) | with_reducible apply br_t h | with_reducible apply br_f h | with_reducible refine br_t (dt2 (by omega) (by omega)) ?_); conv => lhs; whnf)
      refine br_c (fun h2 => ?_) (fun h2 => ?_)
      · conv => lhs; whnf
        repeat ((first | with_reducible apply br_tt | with_reducible apply br_ff | with_reducible apply br_nf | with_reducible apply br_nt | with_reducible refine br_d ?_ (by kernel_rfl) | with_reducible apply br_t h | with_reducible apply br_f h | with_reducible apply br_t h2 | with_reducible apply br_f h2 | with_reducible refine br_t (dt2 (by omega) (by omega)) ?_); conv => lhs; whnf)
        refine br_t (dt2 hx.1 hx.2.1) ?_
        conv => lhs; whnf
        repeat ((first | with_reducible apply br_tt | with_reducible apply br_ff | with_reducible apply br_nf | with_reducible apply br_nt | with_reducible refine br_d ?_ (by kernel_rfl) | with_reducible apply br_t h | with_reducible apply br_f h | with_reducible apply br_t h2 | with_reducible apply br_f h2 | with_reducible refine br_t (dt2 (by omega) (by omega)) ?_); conv => lhs; whnf)
        conv => lhs; arg 1; whnf
        refine bnd_g (by exact True.intro) ?_
        conv => lhs; whnf
        repeat ((first | with_reducible apply br_tt | with_reducible apply br_ff | with_reducible apply br_nf | with_reducible apply br_nt | with_reducible refine br_d ?_ (by kernel_rfl) | with_reducible apply br_t h | with_reducible apply br_f h | with_reducible apply br_t h2 | with_reducible apply br_f h2 | with_reducible refine br_t (dt2 (by omega) (by omega)) ?_); conv => lhs; whnf)
        have e2 : decide (l.getD i 0 ≠ (a : Int)) = true := by simpa using h2
        refine br_c (fun h3 => ?_) (fun h3 => ?_)
        · conv => lhs; whnf
          rw [bad (by unfold pairBad; rw [e2, show hasE (b.getD (l.getD i 0).toNat 0) a = true from h3, Bool.true_and, Bool.or_true])]
          exact hk
        · conv => lhs; whnf
          rw [ih n (i + 1) _ (by omega) (by omega) (by rw [wrap64 (by omega) (by omega)]; simp) (by omega)]
          rw [good (by unfold pairBad; rw [e2, show hasE (b.getD (l.getD i 0).toNat 0) a = false from h3, show (!(bnot (b.getD (l.getD i 0).toNat 0) s == 0)) = false from h]; rfl)]
      · conv => lhs; whnf
        repeat ((first | with_reducible apply br_tt | with_reducible apply br_ff | with_reducible apply br_nf | with_reducible apply br_nt | with_reducible refine br_d ?_ (by kernel_rfl) | with_reducible apply br_t h | with_reducible apply br_f h | with_reducible apply br_t h2 | with_reducible apply br_f h2 | with_reducible refine br_t (dt2 (by omega) (by omega)) ?_); conv => lhs; whnf)
        have e2 : decide (l.getD i 0 ≠ (a : Int)) = false := by simpa using h2
        rw [ih n (i + 1) _ (by omega) (by omega) (by rw [wrap64 (by omega) (by omega)]; simp) (by omega)]
        rw [good (by unfold pairBad; rw [e2, show (!(bnot (b.getD (l.getD i 0).toNat 0) s == 0)) = false from h]; rfl)]

theorem lo_implIsOrder (b : List Int) (hb : b.length ≤ 6) (hA : allB (ordA b) b.length 0 = true) (k : AX → S → Option (AV × List Ob)) (r : Option (AV × List Ob)) (hk : ∀ a : Int, k .ret (mkS [1, 2, 35, 36, 37] [.ptr 0 0, .bool false, .lst (.int .i64) b, .int .i64 b.length, .int .i64 a] [some (.box 26 [.lst (.int .i64) b])]) = r) (d : Nat) : ∀ (n i : Nat) (x : Int), b.length - i = d → i ≤ b.length → x = i → d + 10 < n →
    lpAt E_implIsOrder (lp E_implIsOrder 0 n) 0 (loopAt Tryz.f22 1) (mkS [1, 35, 36, 37] [.ptr 0 0, .lst (.int .i64) b, .int .i64 b.length, .int .i64 x] [some (.box 26 [.lst (.int .i64) b])]) k =
      if allB (ordRow b) d i then k (.exit 2) (mkS [1, 2, 35, 36, 37] [.ptr 0 0, .any, .lst (.int .i64) b, .int .i64 b.length, .int .i64 (b.length : Int)] [some (.box 26 [.lst (.int .i64) b])]) else r := by
  induction d with
  | zero =>
    intro n i x hd hi hx hn
    subst hx
    rw [lpAt_def]
    conv => lhs; whnf
    refine br_f (df (by omega)) ?_
    conv => lhs; whnf
    have : i = b.length := by omega
    rw [this]
    rfl
  | succ d ih =>
    intro n i x hd hi hx hn
    obtain ⟨n, rfl⟩ : ∃ m, n = m + 1 := ⟨n - 1, by omega⟩
    subst hx
    have hs := ordA_set hA (show i < b.length by omega)
    have hr := pairBad_row hb hA (show i < b.length by omega)
    have hlen : (elemsF (b.getD i 0)).length ≤ 8 := elemsL_length _ _ _
    rw [lpAt_def]
    conv => lhs; whnf
    refine br_t (dt (by omega)) ?_
    conv => lhs; whnf
    refine br_t (dt2 (by omega) (by omega)) ?_
    conv => lhs; whnf
    conv => lhs; arg 1; whnf
    refine bnd_g (by exact True.intro) ?_
    conv => lhs; whnf
    refine (lq_implIsOrder b hb i (by omega) (b.getD i 0) (elemsF (b.getD i 0)) hlen (fun x hx => elemsF_lt hs hx) _ _ rfl (elemsF (b.getD i 0)).length _ 0 0 rfl (by omega) rfl (by omega)).trans ?_
    rw [List.drop_zero, hr]
    split
    · rename_i h
      conv => lhs; whnf
      have e : ordRow b i = false := bnt h
      rw [if_neg (by rw [allB, e]; exact Bool.false_ne_true)]
      exact hk _
    · rename_i h
      conv => lhs; whnf
      rw [ih n (i + 1) _ (by omega) (by omega) (by rw [wrap64 (by omega) (by omega)]; simp) (by omega)]
      have e : ordRow b i = true := by
        rw [Bool.not_eq_true] at h
        exact bnf h
      rw [allB, e, Bool.true_and]
theorem ev_implIsOrder (b : List Int) (hp : b.length < 4611686018427387904) : evF E_implIsOrder (20) Tryz.f22 [.agg [.lst (.int .i64) b]] [] = some (.bool (isOrd b), []) := by
  conv => lhs; whnf
  refine br_c (fun h => ?_) (fun h => ?_)
  · conv => lhs; whnf
    have h := ofd h
    refine okB ?_
    unfold isOrd
    rw [df (by omega)]
    rfl
  · conv => lhs; whnf
    have h := ofn h
    have hb : b.length ≤ 6 := by omega
    refine (lp_implIsOrder b hb _ _ rfl b.length _ 0 0 rfl (by omega) rfl (by change b.length < 19; omega)).trans ?_
    split
    · rename_i hA
      conv => lhs; whnf
      refine (lo_implIsOrder b hb hA _ _ (fun _ => rfl) b.length _ 0 0 rfl (by omega) rfl (by change b.length + 10 < 19; omega)).trans ?_
      split
      · rename_i hB
        conv => lhs; whnf
        refine okB ?_
        unfold isOrd
        rw [hA, hB, dt hb]
        rfl
      · rename_i hB
        conv => lhs; whnf
        refine okB ?_
        unfold isOrd
        rw [Bool.not_eq_true] at hB
        rw [hB, Bool.and_false, Bool.and_false]
    · rename_i hA
      conv => lhs; whnf
      refine okB ?_
      unfold isOrd
      rw [Bool.not_eq_true] at hA
      rw [hA, Bool.false_and, Bool.and_false]
theorem ok_implIsOrder : FnOk Tryz.prog 22 K_implIsOrder := by
  refine fn_ok (fn := Tryz.f22) (k := Tryz.f22.ntmps) (E := E_implIsOrder) (facts_of (List.forall_mem_cons.2 ⟨ok_implIsSet, List.forall_mem_cons.2 ⟨ok_hasElement, List.forall_mem_cons.2 ⟨ok_elementsOf, List.forall_mem_cons.2 ⟨ok_inSet, List.forall_mem_nil _⟩⟩⟩⟩)) (by kernel_rfl) rfl (by decide +kernel) (by decide +kernel) ?_
  intro avs hin r h
  unfold K_implIsOrder at h
  split at h
  · obtain ⟨hp, rfl⟩ := gd_o h
    exact ⟨_, ev_implIsOrder _ hp, rfl⟩
  · cases h

/- impl.ContextOfOrder$1 -/
def K_ctxOrd1 : List AV → List Ob → Option (AV × List Ob)
  | [.int .i64 g, .int .i64 m, .vptr [.lst (.int .i64) b] 0], [] => gd (0 ≤ m ∧ m < b.length) (.bool (ordHas b g m), [])
  | _, _ => none
@[reducible] def E_ctxOrd1 : Env := mkE (tb [(45, K_hasElement)]) (fun f => false) (fun r => ([], []))
theorem ev_ctxOrd1 (g m : Int) (b : List Int) (hp : 0 ≤ m ∧ m < b.length) : evF E_ctxOrd1 (1) Tryz.f44 [.int .i64 g, .int .i64 m, .vptr [.lst (.int .i64) b] 0] [] = some (.bool (ordHas b g m), []) := by
  conv => lhs; whnf
  refine br_t (dt2 hp.1 hp.2) ?_
  conv => lhs; whnf
  conv => lhs; arg 1; whnf
  refine bnd_g (by exact True.intro) ?_
  conv => lhs; whnf
  rfl
theorem ok_ctxOrd1 : FnOk Tryz.prog 44 K_ctxOrd1 := by
  refine fn_ok (fn := Tryz.f44) (k := Tryz.f44.ntmps) (E := E_ctxOrd1) (facts_of (List.forall_mem_cons.2 ⟨ok_hasElement, List.forall_mem_nil _⟩)) (by kernel_rfl) rfl (by decide +kernel) (by decide +kernel) ?_
  intro avs hin r h
  unfold K_ctxOrd1 at h
  split at h
  · obtain ⟨hp, rfl⟩ := gd_o h
    exact ⟨_, ev_ctxOrd1 _ _ _ hp, rfl⟩
  · cases h

/- impl.orderContext$1 -/
def K_ordCtx1 : List AV → List Ob → Option (AV × List Ob)
  | [.int .i64 m, .vptr [.clo 44 [.vptr [.lst (.int .i64) b] 0]] 0, .vptr [.int .i64 g] 0], [] => gd (0 ≤ m ∧ m < b.length) (.bool (ordHas b g m), [])
  | _, _ => none
@[reducible] def E_ordCtx1 : Env := mkE (tb [(44, K_ctxOrd1)]) (fun f => false) (fun r => ([], []))
theorem ev_ordCtx1 (m g : Int) (b : List Int) (hp : 0 ≤ m ∧ m < b.length) : evF E_ordCtx1 (1) Tryz.f92 [.int .i64 m, .vptr [.clo 44 [.vptr [.lst (.int .i64) b] 0]] 0, .vptr [.int .i64 g] 0] [] = some (.bool (ordHas b g m), []) := by
  conv => lhs; whnf
  conv => lhs; arg 1; whnf
  refine bnd_g (by exact hp) ?_
  conv => lhs; whnf
theorem ok_ordCtx1 : FnOk Tryz.prog 92 K_ordCtx1 := by
  refine fn_ok (fn := Tryz.f92) (k := Tryz.f92.ntmps) (E := E_ordCtx1) (facts_of (List.forall_mem_cons.2 ⟨ok_ctxOrd1, List.forall_mem_nil _⟩)) (by kernel_rfl) rfl (by decide +kernel) (by decide +kernel) ?_
  intro avs hin r h
  unfold K_ordCtx1 at h
  split at h
  · obtain ⟨hp, rfl⟩ := gd_o h
    exact ⟨_, ev_ordCtx1 _ _ _ hp, rfl⟩
  · cases h

/- impl.accepted -/
def K_acc_ordCtx1 : List AV → List Ob → Option (AV × List Ob)
  | [.int .i64 N, .clo 92 [.vptr [.clo 44 [.vptr [.lst (.int .i64) b] 0]] 0, .vptr [.int .i64 g] 0]], [] => gd ((0 ≤ N ∧ N ≤ 8) ∧ N = (b.length : Int)) (.int .i64 (orF (ordHas b g) N.toNat 0 0), [])
  | _, _ => none
@[reducible] def E_acc_ordCtx1 : Env := mkE (tb [(92, K_ordCtx1)]) (fun f => false) (fun r => bif r == 3 then ([1, 5, 7, 8], [5]) else ([], []))
theorem lp_acc_ordCtx1 (N : Nat) (g : Int) (b : List Int) (ht : N = b.length) (hN : N ≤ 8) (k : AX → S → Option (AV × List Ob)) (d : Nat) : ∀ (n i : Nat) (x q : Int), N - i = d → i ≤ N → x = i → d < n →
    lpAt E_acc_ordCtx1 (lp E_acc_ordCtx1 0 n) 0 (loopAt Tryz.f91 0) (mkS [1, 5, 7, 8] [.clo 92 [.vptr [.clo 44 [.vptr [.lst (.int .i64) b] 0]] 0, .vptr [.int .i64 g] 0], .int .i64 q, .int .i64 N, .int .i64 x] []) k =
      k (.exit 0) (mkS [5] [.int .i64 (orF (ordHas b g) d i q)] []) := by
  induction d with
  | zero =>
    intro n i x q hd hI hx hn
    subst hx
    rw [lpAt_def]
    conv => lhs; whnf
    refine br_f (df (by omega)) ?_
    conv => lhs; whnf
    rfl
  | succ d ih =>
    intro n i x q hd hI hx hn
    obtain ⟨n, rfl⟩ : ∃ m, n = m + 1 := ⟨n - 1, by omega⟩
    subst hx
    rw [lpAt_def]
    conv => lhs; whnf
    refine br_t (dt (by omega)) ?_
    conv => lhs; whnf
    conv => lhs; arg 1; whnf
    refine bnd_g (by exact ⟨by omega, by omega⟩) ?_
    conv => lhs; whnf
    refine br_c (fun h => ?_) (fun h => ?_)
    · have h' : (ordHas b g) (i : Int) = true := h
      conv => lhs; whnf
      refine br_f (df (by omega)) ?_
      conv => lhs; whnf
      rw [shl1 (by omega)]
      rw [ih n (i + 1) _ _ (by omega) (by omega) (by rw [wrap64 (by omega) (by omega)]; simp) (by omega)]
      rw [orF, h', cond_true]
      rfl
    · have h' : (ordHas b g) (i : Int) = false := h
      conv => lhs; whnf
      rw [ih n (i + 1) _ _ (by omega) (by omega) (by rw [wrap64 (by omega) (by omega)]; simp) (by omega)]
      rw [orF, h', cond_false]
theorem ev_acc_ordCtx1 (N : Int) (g : Int) (b : List Int) (hp : (0 ≤ N ∧ N ≤ 8) ∧ N = (b.length : Int)) : evF E_acc_ordCtx1 (20) Tryz.f91 [.int .i64 N, .clo 92 [.vptr [.clo 44 [.vptr [.lst (.int .i64) b] 0]] 0, .vptr [.int .i64 g] 0]] [] = some (.int .i64 (orF (ordHas b g) N.toNat 0 0), []) := by
  obtain ⟨M, rfl⟩ : ∃ M : Nat, N = M := ⟨N.toNat, by omega⟩
  rw [Int.toNat_natCast]
  conv => lhs; whnf
  refine (lp_acc_ordCtx1 M g b (by omega) (by omega) _ M _ 0 0 _ rfl (by omega) rfl (by change M < 19; omega)).trans ?_
  conv => lhs; whnf
theorem ok_acc_ordCtx1 : FnOk Tryz.prog 91 K_acc_ordCtx1 := by
  refine fn_ok (fn := Tryz.f91) (k := Tryz.f91.ntmps) (E := E_acc_ordCtx1) (facts_of (List.forall_mem_cons.2 ⟨ok_ordCtx1, List.forall_mem_nil _⟩)) (by kernel_rfl) rfl (by decide +kernel) (by decide +kernel) ?_
  intro avs hin r h
  unfold K_acc_ordCtx1 at h
  split at h
  · obtain ⟨hp, rfl⟩ := gd_o h
    exact ⟨_, ev_acc_ordCtx1 _ _ _ hp, rfl⟩
  · cases h

/- impl.orderContext -/
def K_orderContext : List AV → List Ob → Option (AV × List Ob)
  | [.agg [.lst (.int .i64) b], .clo 44 [.vptr [.lst (.int .i64) b'] 0]], [] => gd (b.length ≤ 1048576 ∧ b' = b) (.tup [.agg [.int .i64 (ctxOrd b).1, .own 0], .bool (ctxOrd b).2.2], [.row 3 (.int .i64) (ctxOrd b).2.1])
  | _, _ => none
@[reducible] def E_orderContext : Env := mkE (tb [(22, K_implIsOrder), (91, K_acc_ordCtx1)]) (fun f => false) (fun r => bif r == 6 then ([3, 4, 6, 7, 18, 19], [4, 7]) else ([], []))
theorem lp_orderContext (b : List Int) (hb : b.length ≤ 6) (k : AX → S → Option (AV × List Ob)) (d : Nat) : ∀ (n i : Nat) (x : Int) (zs : List Int), b.length - i = d → i ≤ b.length → x = i → d + 10 < n → zs.length ≤ i →
    lpAt E_orderContext (lp E_orderContext 0 n) 0 (loopAt Tryz.f43 0) (mkS [3, 4, 6, 7, 18, 19] [.ptr 0 0, .ptr 1 0, .int .i64 (b.length : Int), .ptr 3 0, .int .i64 (b.length : Int), .int .i64 x] [some (.box 41 [.clo 44 [.vptr [.lst (.int .i64) b] 0]]), some (.box 29 [.int .i64 0, .own 2]), some (.row 3 (.int .i64) []), some (.box 29 [.int .i64 b.length, .own 4]), some (.row 3 (.int .i64) zs)]) k =
      k (.exit 0) (mkS [4, 7] [.ptr 0 0, .ptr 2 0] [some (.box 29 [.int .i64 0, .own 1]), some (.row 3 (.int .i64) []), some (.box 29 [.int .i64 b.length, .own 3]), some (.row 3 (.int .i64) (zs ++ rowsL b d i))]) := by
  induction d with
  | zero =>
    intro n i x zs hd hi hx hn hz
    subst hx
    rw [lpAt_def]
    conv => lhs; whnf
    refine br_f (df (by omega)) ?_
    conv => lhs; whnf
    rw [rowsL, List.append_nil]
  | succ d ih =>
    intro n i x zs hd hi hx hn hz
    obtain ⟨n, rfl⟩ : ∃ m, n = m + 1 := ⟨n - 1, by omega⟩
    subst hx
    rw [lpAt_def]
    conv => lhs; whnf
    refine br_t (dt (by omega)) ?_
    conv => lhs; whnf
    conv => lhs; arg 1; whnf
    refine bnd_g (by exact ⟨by omega, rfl⟩) ?_
    conv => lhs; whnf
    refine br_t (dt (by simp [room]; omega)) ?_
    conv => lhs; whnf
    repeat ((first | with_reducible apply br_tt | with_reducible apply br_ff | with_reducible apply br_nf | with_reducible apply br_nt | with_reducible refine br_d ?_ (by kernel_rfl)); conv => lhs; whnf)
    rw [ih n (i + 1) _ _ (by omega) (by omega) (by rw [wrap64 (by omega) (by omega)]; simp) (by omega) (by simp; omega)]
    rw [rowsL]
    simp
theorem ev_orderContext (b b' : List Int) (hp : b.length ≤ 1048576 ∧ b' = b) : evF E_orderContext (40) Tryz.f43 [.agg [.lst (.int .i64) b], .clo 44 [.vptr [.lst (.int .i64) b'] 0]] [] = some (.tup [.agg [.int .i64 (ctxOrd b).1, .own 0], .bool (ctxOrd b).2.2], [.row 3 (.int .i64) (ctxOrd b).2.1]) := by
  obtain ⟨hp, rfl⟩ := hp
  conv => lhs; whnf
  conv => lhs; arg 1; whnf
  refine bnd_g (by omega) ?_
  conv => lhs; whnf
  refine br_c (fun h => ?_) (fun h => ?_)
  · have hf : ctxOrd b' = (0, [], false) := by
      unfold ctxOrd
      rw [bnt h]
      rfl
    rw [hf]
    conv => lhs; whnf
  · have hl := isOrd_parts (bnf h)
    have hf : ctxOrd b' = ((b'.length : Int), rowsL b' b'.length 0, true) := by
      unfold ctxOrd
      rw [bnf h]
      rfl
    rw [hf]
    conv => lhs; whnf
    refine (lp_orderContext b' hl.1 _ b'.length _ 0 0 _ rfl (by omega) rfl (by change _ < 39; omega) (by simp)).trans ?_
    conv => lhs; whnf
    rfl
theorem ok_orderContext : FnOk Tryz.prog 43 K_orderContext := by
  refine fn_ok (fn := Tryz.f43) (k := Tryz.f43.ntmps) (E := E_orderContext) (facts_of (List.forall_mem_cons.2 ⟨ok_implIsOrder, List.forall_mem_cons.2 ⟨ok_acc_ordCtx1, List.forall_mem_nil _⟩⟩)) (by kernel_rfl) rfl (by decide +kernel) (by decide +kernel) ?_
  intro avs hin r h
  unfold K_orderContext at h
  split at h
  · obtain ⟨hp, rfl⟩ := gd_o h
    exact ⟨_, ev_orderContext _ _ hp, rfl⟩
  · cases h

/- impl.ContextOfOrder -/
def K_implContextOfOrder : List AV → List Ob → Option (AV × List Ob)
  | [.agg [.lst (.int .i64) b]], [] => gd (b.length ≤ 1048576) (.tup [.agg [.int .i64 (ctxOrd b).1, .own 0], .bool (ctxOrd b).2.2], [.row 3 (.int .i64) (ctxOrd b).2.1])
  | _, _ => none
@[reducible] def E_implContextOfOrder : Env := mkE (tb [(43, K_orderContext)]) (fun f => false) (fun r => ([], []))
theorem ev_implContextOfOrder (b : List Int) (hp : b.length ≤ 1048576) : evF E_implContextOfOrder (1) Tryz.f7 [.agg [.lst (.int .i64) b]] [] = some (.tup [.agg [.int .i64 (ctxOrd b).1, .own 0], .bool (ctxOrd b).2.2], [.row 3 (.int .i64) (ctxOrd b).2.1]) := by
  conv => lhs; whnf
  conv => lhs; arg 1; whnf
  refine bnd_g (by exact ⟨hp, rfl⟩) ?_
  conv => lhs; whnf
theorem ok_implContextOfOrder : FnOk Tryz.prog 7 K_implContextOfOrder := by
  refine fn_ok (fn := Tryz.f7) (k := Tryz.f7.ntmps) (E := E_implContextOfOrder) (facts_of (List.forall_mem_cons.2 ⟨ok_orderContext, List.forall_mem_nil _⟩)) (by kernel_rfl) rfl (by decide +kernel) (by decide +kernel) ?_
  intro avs hin r h
  unfold K_implContextOfOrder at h
  split at h
  · obtain ⟨hp, rfl⟩ := gd_o h
    exact ⟨_, ev_implContextOfOrder _ hp, rfl⟩
  · cases h

/- spec.IsOrder -/
def K_specIsOrder : List AV → List Ob → Option (AV × List Ob)
  | [.agg [.lst (.int .i64) b]], [] => gd (b.length < 4611686018427387904) (.bool (isOrd b), [])
  | _, _ => none
@[reducible] def E_specIsOrder : Env := mkE (tb [(65, K_specIsSet), (55, K_l2Has)]) (fun f => false) (fun r => bif r == 5 then ([1, 3, 4], [1, 2, 3]) else bif r == 10 then ([1, 3, 5], [1, 2, 3, 5]) else bif r == 13 then ([1, 3, 5, 6], [1, 2, 3, 5]) else ([], []))
theorem lp_specIsOrder (b : List Int) (hb : b.length ≤ 6) (k : AX → S → Option (AV × List Ob)) (r : Option (AV × List Ob)) (hk : k .ret (mkS [1, 2, 3] [.ptr 0 0, .bool false, .int .i64 b.length] [some (.box 26 [.lst (.int .i64) b])]) = r) (d : Nat) : ∀ (n i : Nat) (x : Int), b.length - i = d → i ≤ b.length → x = i → d < n →
    lpAt E_specIsOrder (lp E_specIsOrder 0 n) 0 (loopAt Tryz.f23 0) (mkS [1, 3, 4] [.ptr 0 0, .int .i64 b.length, .int .i64 x] [some (.box 26 [.lst (.int .i64) b])]) k =
      if allB (ordA b) d i then k (.exit 0) (mkS [1, 2, 3] [.ptr 0 0, .any, .int .i64 b.length] [some (.box 26 [.lst (.int .i64) b])]) else r := by
  induction d with
  | zero =>
    intro n i x hd hi hx hn
    subst hx
    rw [lpAt_def]
    conv => lhs; whnf
    refine br_f (df (by omega)) ?_
    conv => lhs; whnf
    rfl
  | succ d ih =>
    intro n i x hd hi hx hn
    obtain ⟨n, rfl⟩ : ∃ m, n = m + 1 := ⟨n - 1, by omega⟩
    subst hx
    rw [lpAt_def]
    conv => lhs; whnf
    refine br_t (dt (by omega)) ?_
    conv => lhs; whnf
    refine br_t (dt2 (by omega) (by omega)) ?_
    conv => lhs; whnf
    conv => lhs; arg 1; whnf
    refine bnd_g (by exact True.intro) ?_
    conv => lhs; whnf
    refine br_c (fun h => ?_) (fun h => ?_)
    · have h' : isSet b.length (b.getD i 0) = false := bnt h
      conv => lhs; whnf
      repeat ((first | with_reducible apply br_tt | with_reducible apply br_ff | with_reducible apply br_nf | with_reducible apply br_nt | with_reducible refine br_d ?_ (by kernel_rfl) | with_reducible apply br_t h | with_reducible apply br_f h | with_reducible refine br_t (dt2 (by omega) (by omega)) ?_); conv => lhs; whnf)
      have e : ordA b i = false := by
        unfold ordA
        rw [h']
        rfl
      rw [if_neg (by rw [allB, e]; exact Bool.false_ne_true)]
      exact hk
    · have h' : isSet b.length (b.getD i 0) = true := bnf h
      have hl := isSet_le h'
      conv => lhs; whnf
      repeat ((first | with_reducible apply br_tt | with_reducible apply br_ff | with_reducible apply br_nf | with_reducible apply br_nt | with_reducible refine br_d ?_ (by kernel_rfl) | with_reducible apply br_t h | with_reducible apply br_f h | with_reducible refine br_t (dt2 (by omega) (by omega)) ?_); conv => lhs; whnf)
      conv => lhs; arg 1; whnf
      refine bnd_g (by exact ⟨⟨hl.2.2.1, hl.2.2.2⟩, by omega, by omega⟩) ?_
      conv => lhs; whnf
      repeat ((first | with_reducible apply br_tt | with_reducible apply br_ff | with_reducible apply br_nf | with_reducible apply br_nt | with_reducible refine br_d ?_ (by kernel_rfl) | with_reducible apply br_t h | with_reducible apply br_f h | with_reducible refine br_t (dt2 (by omega) (by omega)) ?_); conv => lhs; whnf)
      refine br_c (fun h2 => ?_) (fun h2 => ?_)
      · conv => lhs; whnf
        have e : ordA b i = false := by
          unfold ordA
          rw [show bitI (b.getD i 0) i = false from bnt h2, Bool.and_false]
        rw [if_neg (by rw [allB, e]; exact Bool.false_ne_true)]
        exact hk
      · conv => lhs; whnf
        rw [ih n (i + 1) _ (by omega) (by omega) (by rw [wrap64 (by omega) (by omega)]; simp) (by omega)]
        have e : ordA b i = true := by
          unfold ordA
          rw [h', show bitI (b.getD i 0) i = true from bnf h2]
          rfl
        rw [allB, e, Bool.true_and]

theorem lq_specIsOrder (b : List Int) (hb : b.length ≤ 6) (hA : allB (ordA b) b.length 0 = true) (a : Nat) (ha : a < b.length) (k : AX → S → Option (AV × List Ob)) (r : Option (AV × List Ob)) (hk : k .ret (mkS [1, 2, 3, 5] [.ptr 0 0, .bool false, .int .i64 b.length, .int .i64 (a : Int)] [some (.box 26 [.lst (.int .i64) b])]) = r) (d : Nat) : ∀ (n i : Nat) (x : Int), b.length - i = d → i ≤ b.length → x = i → d < n →
    lpAt E_specIsOrder (lp E_specIsOrder 0 n) 0 (loopAt Tryz.f23 2) (mkS [1, 3, 5, 6] [.ptr 0 0, .int .i64 b.length, .int .i64 (a : Int), .int .i64 x] [some (.box 26 [.lst (.int .i64) b])]) k =
      if allB (fun c => !ordBad b a c) d i then k (.exit 4) (mkS [1, 2, 3, 5] [.ptr 0 0, .any, .int .i64 b.length, .int .i64 (a : Int)] [some (.box 26 [.lst (.int .i64) b])]) else r := by
  have hsa := isSet_le (ordA_set hA ha)
  induction d with
  | zero =>
    intro n i x hd hi hx hn
    subst hx
    rw [lpAt_def]
    conv => lhs; whnf
    refine br_f (df (by omega)) ?_
    conv => lhs; whnf
    rfl
  | succ d ih =>
    intro n i x hd hi hx hn
    obtain ⟨n, rfl⟩ : ∃ m, n = m + 1 := ⟨n - 1, by omega⟩
    subst hx
    have hsi := isSet_le (ordA_set hA (show i < b.length by omega))
    have bad : ordBad b a i = true → (if allB (fun c => !ordBad b a c) (d + 1) i then k (.exit 4) (mkS [1, 2, 3, 5] [.ptr 0 0, .any, .int .i64 b.length, .int .i64 (a : Int)] [some (.box 26 [.lst (.int .i64) b])]) else r) = r := by
      intro h
      rw [allB, h]
      rfl
    have good : ordBad b a i = false → allB (fun c => !ordBad b a c) (d + 1) i = allB (fun c => !ordBad b a c) d (i + 1) := by
      intro h
      rw [allB, h]
      rfl
    rw [lpAt_def]
    conv => lhs; whnf
    refine br_t (dt (by omega)) ?_
    conv => lhs; whnf
    repeat ((first | with_reducible apply br_tt | with_reducible apply br_ff | with_reducible apply br_nf | with_reducible apply br_nt | with_reducible refine br_d ?_ (by kernel_rfl) | with_reducible refine br_t (dt2 (by omega) (by omega)) ?_); conv => lhs; whnf)
    conv => lhs; arg 1; whnf
    refine bnd_g (by exact ⟨⟨hsa.2.2.1, hsa.2.2.2⟩, by omega, by omega⟩) ?_
    conv => lhs; whnf
    refine br_c (fun h => ?_) (fun h => ?_)
    · conv => lhs; whnf
      repeat ((first | with_reducible apply br_tt | with_reducible apply br_ff | with_reducible apply br_nf | with_reducible apply br_nt | with_reducible refine br_d ?_ (by kernel_rfl) | with_reducible apply br_t h | with_reducible apply br_f h | with_reducible refine br_t (dt2 (by omega) (by omega)) ?_); conv => lhs; whnf)
      refine br_c (fun h2 => ?_) (fun h2 => ?_)
      · conv => lhs; whnf
        repeat ((first | with_reducible apply br_tt | with_reducible apply br_ff | with_reducible apply br_nf | with_reducible apply br_nt | with_reducible refine br_d ?_ (by kernel_rfl) | with_reducible apply br_t h | with_reducible apply br_f h | with_reducible apply br_t h2 | with_reducible apply br_f h2 | with_reducible refine br_t (dt2 (by omega) (by omega)) ?_); conv => lhs; whnf)
        rw [bad (by unfold ordBad; rw [show bitI (b.getD a 0) i = true from h, show (band (b.getD i 0) (b.getD a 0) != b.getD i 0) = true from h2]; rfl)]
        exact hk
      · conv => lhs; whnf
        repeat ((first | with_reducible apply br_tt | with_reducible apply br_ff | with_reducible apply br_nf | with_reducible apply br_nt | with_reducible refine br_d ?_ (by kernel_rfl) | with_reducible apply br_t h | with_reducible apply br_f h | with_reducible apply br_t h2 | with_reducible apply br_f h2 | with_reducible refine br_t (dt2 (by omega) (by omega)) ?_); conv => lhs; whnf)
        refine br_c (fun h3 => ?_) (fun h3 => ?_)
        · conv => lhs; whnf
          repeat ((first | with_reducible apply br_tt | with_reducible apply br_ff | with_reducible apply br_nf | with_reducible apply br_nt | with_reducible refine br_d ?_ (by kernel_rfl) | with_reducible apply br_t h | with_reducible apply br_f h | with_reducible apply br_t h2 | with_reducible apply br_f h2 | with_reducible apply br_t h3 | with_reducible apply br_f h3 | with_reducible refine br_t (dt2 (by omega) (by omega)) ?_); conv => lhs; whnf)
          conv => lhs; arg 1; whnf
          refine bnd_g (by exact ⟨⟨hsi.2.2.1, hsi.2.2.2⟩, by omega, by omega⟩) ?_
          conv => lhs; whnf
          repeat ((first | with_reducible apply br_tt | with_reducible apply br_ff | with_reducible apply br_nf | with_reducible apply br_nt | with_reducible refine br_d ?_ (by kernel_rfl) | with_reducible apply br_t h | with_reducible apply br_f h | with_reducible apply br_t h2 | with_reducible apply br_f h2 | with_reducible apply br_t h3 | with_reducible apply br_f h3 | with_reducible refine br_t (dt2 (by omega) (by omega)) ?_); conv => lhs; whnf)
          have e3 : decide ((a : Int) ≠ (i : Int)) = true := by simpa using h3
          refine br_c (fun h4 => ?_) (fun h4 => ?_)
          · conv => lhs; whnf
            rw [bad (by unfold ordBad; rw [show bitI (b.getD a 0) i = true from h, show (band (b.getD i 0) (b.getD a 0) != b.getD i 0) = false from h2, e3, show bitI (b.getD i 0) a = true from h4]; rfl)]
            exact hk
          · conv => lhs; whnf
            rw [ih n (i + 1) _ (by omega) (by omega) (by rw [wrap64 (by omega) (by omega)]; simp) (by omega)]
            rw [good (by unfold ordBad; rw [show bitI (b.getD a 0) i = true from h, show (band (b.getD i 0) (b.getD a 0) != b.getD i 0) = false from h2, e3, show bitI (b.getD i 0) a = false from h4]; rfl)]
        · conv => lhs; whnf
          repeat ((first | with_reducible apply br_tt | with_reducible apply br_ff | with_reducible apply br_nf | with_reducible apply br_nt | with_reducible refine br_d ?_ (by kernel_rfl) | with_reducible apply br_t h | with_reducible apply br_f h | with_reducible apply br_t h2 | with_reducible apply br_f h2 | with_reducible apply br_t h3 | with_reducible apply br_f h3 | with_reducible refine br_t (dt2 (by omega) (by omega)) ?_); conv => lhs; whnf)
          have e3 : decide ((a : Int) ≠ (i : Int)) = false := by simpa using h3
          rw [ih n (i + 1) _ (by omega) (by omega) (by rw [wrap64 (by omega) (by omega)]; simp) (by omega)]
          rw [good (by unfold ordBad; rw [show bitI (b.getD a 0) i = true from h, show (band (b.getD i 0) (b.getD a 0) != b.getD i 0) = false from h2, e3]; rfl)]
    · conv => lhs; whnf
      repeat ((first | with_reducible apply br_tt | with_reducible apply br_ff | with_reducible apply br_nf | with_reducible apply br_nt | with_reducible refine br_d ?_ (by kernel_rfl) | with_reducible apply br_t h | with_reducible apply br_f h | with_reducible refine br_t (dt2 (by omega) (by omega)) ?_); conv => lhs; whnf)
      rw [ih n (i + 1) _ (by omega) (by omega) (by rw [wrap64 (by omega) (by omega)]; simp) (by omega)]
      rw [good (by unfold ordBad; rw [show bitI (b.getD a 0) i = false from h]; rfl)]

theorem lo_specIsOrder (b : List Int) (hb : b.length ≤ 6) (hA : allB (ordA b) b.length 0 = true) (k : AX → S → Option (AV × List Ob)) (r : Option (AV × List Ob)) (hk : ∀ a : Int, k .ret (mkS [1, 2, 3, 5] [.ptr 0 0, .bool false, .int .i64 b.length, .int .i64 a] [some (.box 26 [.lst (.int .i64) b])]) = r) (d : Nat) : ∀ (n i : Nat) (x : Int), b.length - i = d → i ≤ b.length → x = i → d + 10 < n →
    lpAt E_specIsOrder (lp E_specIsOrder 0 n) 0 (loopAt Tryz.f23 1) (mkS [1, 3, 5] [.ptr 0 0, .int .i64 b.length, .int .i64 x] [some (.box 26 [.lst (.int .i64) b])]) k =
      if allB (ordRow b) d i then k (.exit 2) (mkS [1, 2, 3, 5] [.ptr 0 0, .any, .int .i64 b.length, .int .i64 (b.length : Int)] [some (.box 26 [.lst (.int .i64) b])]) else r := by
  induction d with
  | zero =>
    intro n i x hd hi hx hn
    subst hx
    rw [lpAt_def]
    conv => lhs; whnf
    refine br_f (df (by omega)) ?_
    conv => lhs; whnf
    have : i = b.length := by omega
    rw [this]
    rfl
  | succ d ih =>
    intro n i x hd hi hx hn
    obtain ⟨n, rfl⟩ : ∃ m, n = m + 1 := ⟨n - 1, by omega⟩
    subst hx
    rw [lpAt_def]
    conv => lhs; whnf
    refine br_t (dt (by omega)) ?_
    conv => lhs; whnf
    refine (lq_specIsOrder b hb hA i (by omega) _ _ rfl b.length _ 0 0 rfl (by omega) rfl (by omega)).trans ?_
    split
    · rename_i h
      conv => lhs; whnf
      rw [ih n (i + 1) _ (by omega) (by omega) (by rw [wrap64 (by omega) (by omega)]; simp) (by omega)]
      have e : ordRow b i = true := h
      rw [allB, e, Bool.true_and]
    · rename_i h
      conv => lhs; whnf
      have e : ordRow b i = false := by
        unfold ordRow
        exact Bool.not_eq_true _ ▸ h
      rw [if_neg (by rw [allB, e]; exact Bool.false_ne_true)]
      exact hk _
theorem ev_specIsOrder (b : List Int) (hp : b.length < 4611686018427387904) : evF E_specIsOrder (20) Tryz.f23 [.agg [.lst (.int .i64) b]] [] = some (.bool (isOrd b), []) := by
  conv => lhs; whnf
  refine br_c (fun h => ?_) (fun h => ?_)
  · conv => lhs; whnf
    have h := ofd h
    refine okB ?_
    unfold isOrd
    rw [df (by omega)]
    rfl
  · conv => lhs; whnf
    have h := ofn h
    have hb : b.length ≤ 6 := by omega
    refine (lp_specIsOrder b hb _ _ rfl b.length _ 0 0 rfl (by omega) rfl (by change b.length < 19; omega)).trans ?_
    split
    · rename_i hA
      conv => lhs; whnf
      refine (lo_specIsOrder b hb hA _ _ (fun _ => rfl) b.length _ 0 0 rfl (by omega) rfl (by change b.length + 10 < 19; omega)).trans ?_
      split
      · rename_i hB
        conv => lhs; whnf
        refine okB ?_
        unfold isOrd
        rw [hA, hB, dt hb]
        rfl
      · rename_i hB
        conv => lhs; whnf
        refine okB ?_
        unfold isOrd
        rw [Bool.not_eq_true] at hB
        rw [hB, Bool.and_false, Bool.and_false]
    · rename_i hA
      conv => lhs; whnf
      refine okB ?_
      unfold isOrd
      rw [Bool.not_eq_true] at hA
      rw [hA, Bool.false_and, Bool.and_false]
theorem ok_specIsOrder : FnOk Tryz.prog 23 K_specIsOrder := by
  refine fn_ok (fn := Tryz.f23) (k := Tryz.f23.ntmps) (E := E_specIsOrder) (facts_of (List.forall_mem_cons.2 ⟨ok_specIsSet, List.forall_mem_cons.2 ⟨ok_l2Has, List.forall_mem_nil _⟩⟩)) (by kernel_rfl) rfl (by decide +kernel) (by decide +kernel) ?_
  intro avs hin r h
  unfold K_specIsOrder at h
  split at h
  · obtain ⟨hp, rfl⟩ := gd_o h
    exact ⟨_, ev_specIsOrder _ hp, rfl⟩
  · cases h

/- spec.l22Context -/
def K_l22Context : List AV → List Ob → Option (AV × List Ob)
  | [.agg [.lst (.int .i64) b], .bool false], [] => gd (b.length ≤ 1048576) (.tup [.agg [.int .i64 (ctxOrd b).1, .own 0], .bool (ctxOrd b).2.2], [.row 3 (.int .i64) (ctxOrd b).2.1])
  | _, _ => none
@[reducible] def E_l22Context : Env := mkE (tb [(23, K_specIsOrder), (55, K_l2Has)]) (fun f => false) (fun r => bif r == 6 then ([1, 2, 4, 6, 7, 8], [1, 2, 4, 6, 7, 8, 9]) else bif r == 10 then ([1, 2, 4, 6, 7, 8, 9, 10], [1, 2, 4, 6, 7, 8, 9]) else ([], []))
theorem lq_l22Context (b : List Int) (ho : isOrd b = true) (g : Nat) (hg : g < b.length) (zs : List Int) (k : AX → S → Option (AV × List Ob)) (d : Nat) : ∀ (n i : Nat) (x q : Int), b.length - i = d → i ≤ b.length → x = i → d < n →
    lpAt E_l22Context (lp E_l22Context 0 n) 0 (loopAt Tryz.f46 1) (mkS [1, 2, 4, 6, 7, 8, 9, 10] [.bool false, .ptr 0 0, .ptr 1 0, .int .i64 (b.length : Int), .ptr 3 0, .int .i64 (g : Int), .int .i64 q, .int .i64 x] [some (.box 26 [.lst (.int .i64) b]), some (.box 29 [.int .i64 0, .own 2]), some (.row 3 (.int .i64) []), some (.box 29 [.int .i64 b.length, .own 4]), some (.row 3 (.int .i64) zs)]) k =
      k (.exit 2) (mkS [1, 2, 4, 6, 7, 8, 9] [.bool false, .ptr 0 0, .ptr 1 0, .int .i64 (b.length : Int), .ptr 3 0, .int .i64 (g : Int), .int .i64 (orF (ordHas b g) d i q)] [some (.box 26 [.lst (.int .i64) b]), some (.box 29 [.int .i64 0, .own 2]), some (.row 3 (.int .i64) []), some (.box 29 [.int .i64 b.length, .own 4]), some (.row 3 (.int .i64) zs)]) := by
  obtain ⟨hl, hA⟩ := isOrd_parts ho
  induction d with
  | zero =>
    intro n i x q hd hi hx hn
    subst hx
    rw [lpAt_def]
    conv => lhs; whnf
    refine br_f (df (by omega)) ?_
    conv => lhs; whnf
    rfl
  | succ d ih =>
    intro n i x q hd hi hx hn
    obtain ⟨n, rfl⟩ : ∃ m, n = m + 1 := ⟨n - 1, by omega⟩
    subst hx
    have hs := ordA_set hA (show i < b.length by omega)
    have hr := isSet_le hs
    have hE : ordHas b g i = bitI (b.getD i 0) g := by
      unfold ordHas
      rw [Int.toNat_natCast, hasE_bit (isSet_8 hs) (by omega) (by omega)]
    rw [lpAt_def]
    conv => lhs; whnf
    refine br_t (dt (by omega)) ?_
    conv => lhs; whnf
    repeat ((first | with_reducible apply br_tt | with_reducible apply br_ff | with_reducible apply br_nf | with_reducible apply br_nt | with_reducible refine br_d ?_ (by kernel_rfl) | with_reducible refine br_t (dt2 (by omega) (by omega)) ?_); conv => lhs; whnf)
    conv => lhs; arg 1; whnf
    refine bnd_g (by exact ⟨⟨hr.2.2.1, hr.2.2.2⟩, by omega, by omega⟩) ?_
    conv => lhs; whnf
    repeat ((first | with_reducible apply br_tt | with_reducible apply br_ff | with_reducible apply br_nf | with_reducible apply br_nt | with_reducible refine br_d ?_ (by kernel_rfl) | with_reducible refine br_t (dt2 (by omega) (by omega)) ?_); conv => lhs; whnf)
    refine br_c (fun h => ?_) (fun h => ?_)
    · have h' : bitI (b.getD i 0) g = true := h
      conv => lhs; whnf
      repeat ((first | with_reducible apply br_tt | with_reducible apply br_ff | with_reducible apply br_nf | with_reducible apply br_nt | with_reducible refine br_d ?_ (by kernel_rfl) | with_reducible apply br_t h | with_reducible apply br_f h | with_reducible refine br_t (dt2 (by omega) (by omega)) ?_); conv => lhs; whnf)
      refine br_f (by (rw [wrapu (n := (i : Int)) (by omega) (by omega)]; exact df (by omega))) ?_
      conv => lhs; whnf
      rw [shl1u (by omega)]
      rw [ih n (i + 1) _ _ (by omega) (by omega) (by rw [wrap64 (by omega) (by omega)]; simp) (by omega)]
      rw [orF, hE, h', cond_true]
      rfl
    · have h' : bitI (b.getD i 0) g = false := h
      conv => lhs; whnf
      repeat ((first | with_reducible apply br_tt | with_reducible apply br_ff | with_reducible apply br_nf | with_reducible apply br_nt | with_reducible refine br_d ?_ (by kernel_rfl) | with_reducible apply br_t h | with_reducible apply br_f h | with_reducible refine br_t (dt2 (by omega) (by omega)) ?_); conv => lhs; whnf)
      rw [ih n (i + 1) _ _ (by omega) (by omega) (by rw [wrap64 (by omega) (by omega)]; simp) (by omega)]
      rw [orF, hE, h', cond_false]

theorem lp_l22Context (b : List Int) (ho : isOrd b = true) (k : AX → S → Option (AV × List Ob)) (d : Nat) : ∀ (n i : Nat) (x : Int) (zs : List Int), b.length - i = d → i ≤ b.length → x = i → d + 10 < n → zs.length ≤ i →
    lpAt E_l22Context (lp E_l22Context 0 n) 0 (loopAt Tryz.f46 0) (mkS [1, 2, 4, 6, 7, 8] [.bool false, .ptr 0 0, .ptr 1 0, .int .i64 (b.length : Int), .ptr 3 0, .int .i64 x] [some (.box 26 [.lst (.int .i64) b]), some (.box 29 [.int .i64 0, .own 2]), some (.row 3 (.int .i64) []), some (.box 29 [.int .i64 b.length, .own 4]), some (.row 3 (.int .i64) zs)]) k =
      k (.exit 0) (mkS [1, 2, 4, 6, 7, 8, 9] [.bool false, .ptr 0 0, .ptr 1 0, .int .i64 (b.length : Int), .ptr 3 0, .int .i64 (b.length : Int), .any] [some (.box 26 [.lst (.int .i64) b]), some (.box 29 [.int .i64 0, .own 2]), some (.row 3 (.int .i64) []), some (.box 29 [.int .i64 b.length, .own 4]), some (.row 3 (.int .i64) (zs ++ rowsL b d i))]) := by
  obtain ⟨hl, hA⟩ := isOrd_parts ho
  induction d with
  | zero =>
    intro n i x zs hd hi hx hn hz
    subst hx
    rw [lpAt_def]
    conv => lhs; whnf
    refine br_f (df (by omega)) ?_
    conv => lhs; whnf
    have : i = b.length := by omega
    rw [rowsL, List.append_nil, this]
  | succ d ih =>
    intro n i x zs hd hi hx hn hz
    obtain ⟨n, rfl⟩ : ∃ m, n = m + 1 := ⟨n - 1, by omega⟩
    subst hx
    rw [lpAt_def]
    conv => lhs; whnf
    refine br_t (dt (by omega)) ?_
    conv => lhs; whnf
    refine (lq_l22Context b ho i (by omega) zs _ b.length _ 0 0 0 rfl (by omega) rfl (by omega)).trans ?_
    conv => lhs; whnf
    refine br_t (dt (by simp [room]; omega)) ?_
    conv => lhs; whnf
    rw [ih n (i + 1) _ _ (by omega) (by omega) (by rw [wrap64 (by omega) (by omega)]; simp) (by omega) (by simp; omega)]
    rw [rowsL]
    simp
theorem ev_l22Context (b : List Int) (hp : b.length ≤ 1048576) : evF E_l22Context (40) Tryz.f46 [.agg [.lst (.int .i64) b], .bool false] [] = some (.tup [.agg [.int .i64 (ctxOrd b).1, .own 0], .bool (ctxOrd b).2.2], [.row 3 (.int .i64) (ctxOrd b).2.1]) := by
  conv => lhs; whnf
  conv => lhs; arg 1; whnf
  refine bnd_g (by omega) ?_
  conv => lhs; whnf
  refine br_c (fun h => ?_) (fun h => ?_)
  · have hf : ctxOrd b = (0, [], false) := by
      unfold ctxOrd
      rw [bnt h]
      rfl
    rw [hf]
    conv => lhs; whnf
  · have hl := isOrd_parts (bnf h)
    have hf : ctxOrd b = ((b.length : Int), rowsL b b.length 0, true) := by
      unfold ctxOrd
      rw [bnf h]
      rfl
    rw [hf]
    conv => lhs; whnf
    refine (lp_l22Context b (bnf h) _ b.length _ 0 0 _ rfl (by omega) rfl (by change _ < 39; omega) (by simp)).trans ?_
    conv => lhs; whnf
    rfl
theorem ok_l22Context : FnOk Tryz.prog 46 K_l22Context := by
  refine fn_ok (fn := Tryz.f46) (k := Tryz.f46.ntmps) (E := E_l22Context) (facts_of (List.forall_mem_cons.2 ⟨ok_specIsOrder, List.forall_mem_cons.2 ⟨ok_l2Has, List.forall_mem_nil _⟩⟩)) (by kernel_rfl) rfl (by decide +kernel) (by decide +kernel) ?_
  intro avs hin r h
  unfold K_l22Context at h
  split at h
  · obtain ⟨hp, rfl⟩ := gd_o h
    exact ⟨_, ev_l22Context _ hp, rfl⟩
  · cases h

/- spec.ContextOfOrder -/
def K_specContextOfOrder : List AV → List Ob → Option (AV × List Ob)
  | [.agg [.lst (.int .i64) b]], [] => gd (b.length ≤ 1048576) (.tup [.agg [.int .i64 (ctxOrd b).1, .own 0], .bool (ctxOrd b).2.2], [.row 3 (.int .i64) (ctxOrd b).2.1])
  | _, _ => none
@[reducible] def E_specContextOfOrder : Env := mkE (tb [(46, K_l22Context)]) (fun f => false) (fun r => ([], []))
theorem ev_specContextOfOrder (b : List Int) (hp : b.length ≤ 1048576) : evF E_specContextOfOrder (1) Tryz.f8 [.agg [.lst (.int .i64) b]] [] = some (.tup [.agg [.int .i64 (ctxOrd b).1, .own 0], .bool (ctxOrd b).2.2], [.row 3 (.int .i64) (ctxOrd b).2.1]) := by
  conv => lhs; whnf
  conv => lhs; arg 1; whnf
  refine bnd_g (by exact hp) ?_
  conv => lhs; whnf
theorem ok_specContextOfOrder : FnOk Tryz.prog 8 K_specContextOfOrder := by
  refine fn_ok (fn := Tryz.f8) (k := Tryz.f8.ntmps) (E := E_specContextOfOrder) (facts_of (List.forall_mem_cons.2 ⟨ok_l22Context, List.forall_mem_nil _⟩)) (by kernel_rfl) rfl (by decide +kernel) (by decide +kernel) ?_
  intro avs hin r h
  unfold K_specContextOfOrder at h
  split at h
  · obtain ⟨hp, rfl⟩ := gd_o h
    exact ⟨_, ev_specContextOfOrder _ hp, rfl⟩
  · cases h

/- impl.IdealContext$1 -/
def K_ctxIdl1 : List AV → List Ob → Option (AV × List Ob)
  | [.int .i64 g, .int .i64 m, .vptr [.lst (.int .i64) b] 0], [] => gd (0 ≤ g ∧ g < b.length) (.bool (idlHas b g m), [])
  | _, _ => none
@[reducible] def E_ctxIdl1 : Env := mkE (tb [(45, K_hasElement)]) (fun f => false) (fun r => ([], []))
theorem ev_ctxIdl1 (g m : Int) (b : List Int) (hp : 0 ≤ g ∧ g < b.length) : evF E_ctxIdl1 (1) Tryz.f47 [.int .i64 g, .int .i64 m, .vptr [.lst (.int .i64) b] 0] [] = some (.bool (idlHas b g m), []) := by
  conv => lhs; whnf
  refine br_t (dt2 hp.1 hp.2) ?_
  conv => lhs; whnf
  conv => lhs; arg 1; whnf
  refine bnd_g (by exact True.intro) ?_
  conv => lhs; whnf
  rfl
theorem ok_ctxIdl1 : FnOk Tryz.prog 47 K_ctxIdl1 := by
  refine fn_ok (fn := Tryz.f47) (k := Tryz.f47.ntmps) (E := E_ctxIdl1) (facts_of (List.forall_mem_cons.2 ⟨ok_hasElement, List.forall_mem_nil _⟩)) (by kernel_rfl) rfl (by decide +kernel) (by decide +kernel) ?_
  intro avs hin r h
  unfold K_ctxIdl1 at h
  split at h
  · obtain ⟨hp, rfl⟩ := gd_o h
    exact ⟨_, ev_ctxIdl1 _ _ _ hp, rfl⟩
  · cases h

/- impl.orderContext$1 -/
def K_idlCtx1 : List AV → List Ob → Option (AV × List Ob)
  | [.int .i64 m, .vptr [.clo 47 [.vptr [.lst (.int .i64) b] 0]] 0, .vptr [.int .i64 g] 0], [] => gd (0 ≤ g ∧ g < b.length) (.bool (idlHas b g m), [])
  | _, _ => none
@[reducible] def E_idlCtx1 : Env := mkE (tb [(47, K_ctxIdl1)]) (fun f => false) (fun r => ([], []))
theorem ev_idlCtx1 (m g : Int) (b : List Int) (hp : 0 ≤ g ∧ g < b.length) : evF E_idlCtx1 (1) Tryz.f92 [.int .i64 m, .vptr [.clo 47 [.vptr [.lst (.int .i64) b] 0]] 0, .vptr [.int .i64 g] 0] [] = some (.bool (idlHas b g m), []) := by
  conv => lhs; whnf
  conv => lhs; arg 1; whnf
  refine bnd_g (by exact hp) ?_
  conv => lhs; whnf
theorem ok_idlCtx1 : FnOk Tryz.prog 92 K_idlCtx1 := by
  refine fn_ok (fn := Tryz.f92) (k := Tryz.f92.ntmps) (E := E_idlCtx1) (facts_of (List.forall_mem_cons.2 ⟨ok_ctxIdl1, List.forall_mem_nil _⟩)) (by kernel_rfl) rfl (by decide +kernel) (by decide +kernel) ?_
  intro avs hin r h
  unfold K_idlCtx1 at h
  split at h
  · obtain ⟨hp, rfl⟩ := gd_o h
    exact ⟨_, ev_idlCtx1 _ _ _ hp, rfl⟩
  · cases h

/- impl.accepted -/
def K_acc_idlCtx1 : List AV → List Ob → Option (AV × List Ob)
  | [.int .i64 N, .clo 92 [.vptr [.clo 47 [.vptr [.lst (.int .i64) b] 0]] 0, .vptr [.int .i64 g] 0]], [] => gd ((0 ≤ N ∧ N ≤ 8) ∧ (0 ≤ g ∧ g < (b.length : Int))) (.int .i64 (orF (idlHas b g) N.toNat 0 0), [])
  | _, _ => none
@[reducible] def E_acc_idlCtx1 : Env := mkE (tb [(92, K_idlCtx1)]) (fun f => false) (fun r => bif r == 3 then ([1, 5, 7, 8], [5]) else ([], []))
theorem lp_acc_idlCtx1 (N : Nat) (g : Int) (b : List Int) (ht : 0 ≤ g ∧ g < (b.length : Int)) (hN : N ≤ 8) (k : AX → S → Option (AV × List Ob)) (d : Nat) : ∀ (n i : Nat) (x q : Int), N - i = d → i ≤ N → x = i → d < n →
    lpAt E_acc_idlCtx1 (lp E_acc_idlCtx1 0 n) 0 (loopAt Tryz.f91 0) (mkS [1, 5, 7, 8] [.clo 92 [.vptr [.clo 47 [.vptr [.lst (.int .i64) b] 0]] 0, .vptr [.int .i64 g] 0], .int .i64 q, .int .i64 N, .int .i64 x] []) k =
      k (.exit 0) (mkS [5] [.int .i64 (orF (idlHas b g) d i q)] []) := by
  induction d with
  | zero =>
    intro n i x q hd hI hx hn
    subst hx
    rw [lpAt_def]
    conv => lhs; whnf
    refine br_f (df (by omega)) ?_
    conv => lhs; whnf
    rfl
  | succ d ih =>
    intro n i x q hd hI hx hn
    obtain ⟨n, rfl⟩ : ∃ m, n = m + 1 := ⟨n - 1, by omega⟩
    subst hx
    rw [lpAt_def]
    conv => lhs; whnf
    refine br_t (dt (by omega)) ?_
    conv => lhs; whnf
    conv => lhs; arg 1; whnf
    refine bnd_g (by exact ht) ?_
    conv => lhs; whnf
    refine br_c (fun h => ?_) (fun h => ?_)
    · have h' : (idlHas b g) (i : Int) = true := h
      conv => lhs; whnf
      refine br_f (df (by omega)) ?_
      conv => lhs; whnf
      rw [shl1 (by omega)]
      rw [ih n (i + 1) _ _ (by omega) (by omega) (by rw [wrap64 (by omega) (by omega)]; simp) (by omega)]
      rw [orF, h', cond_true]
      rfl
    · have h' : (idlHas b g) (i : Int) = false := h
      conv => lhs; whnf
      rw [ih n (i + 1) _ _ (by omega) (by omega) (by rw [wrap64 (by omega) (by omega)]; simp) (by omega)]
      rw [orF, h', cond_false]
theorem ev_acc_idlCtx1 (N : Int) (g : Int) (b : List Int) (hp : (0 ≤ N ∧ N ≤ 8) ∧ (0 ≤ g ∧ g < (b.length : Int))) : evF E_acc_idlCtx1 (20) Tryz.f91 [.int .i64 N, .clo 92 [.vptr [.clo 47 [.vptr [.lst (.int .i64) b] 0]] 0, .vptr [.int .i64 g] 0]] [] = some (.int .i64 (orF (idlHas b g) N.toNat 0 0), []) := by
  obtain ⟨M, rfl⟩ : ∃ M : Nat, N = M := ⟨N.toNat, by omega⟩
  rw [Int.toNat_natCast]
  conv => lhs; whnf
  refine (lp_acc_idlCtx1 M g b hp.2 (by omega) _ M _ 0 0 _ rfl (by omega) rfl (by change M < 19; omega)).trans ?_
  conv => lhs; whnf
theorem ok_acc_idlCtx1 : FnOk Tryz.prog 91 K_acc_idlCtx1 := by
  refine fn_ok (fn := Tryz.f91) (k := Tryz.f91.ntmps) (E := E_acc_idlCtx1) (facts_of (List.forall_mem_cons.2 ⟨ok_idlCtx1, List.forall_mem_nil _⟩)) (by kernel_rfl) rfl (by decide +kernel) (by decide +kernel) ?_
  intro avs hin r h
  unfold K_acc_idlCtx1 at h
  split at h
  · obtain ⟨hp, rfl⟩ := gd_o h
    exact ⟨_, ev_acc_idlCtx1 _ _ _ hp, rfl⟩
  · cases h

/- impl.orderContext -/
def K_orderContextI : List AV → List Ob → Option (AV × List Ob)
  | [.agg [.lst (.int .i64) b], .clo 47 [.vptr [.lst (.int .i64) b'] 0]], [] => gd (b.length ≤ 1048576 ∧ b' = b) (.tup [.agg [.int .i64 (ctxIdl b).1, .own 0], .bool (ctxIdl b).2.2], [.row 3 (.int .i64) (ctxIdl b).2.1])
  | _, _ => none
@[reducible] def E_orderContextI : Env := mkE (tb [(22, K_implIsOrder), (91, K_acc_idlCtx1)]) (fun f => false) (fun r => bif r == 6 then ([3, 4, 6, 7, 18, 19], [4, 7]) else ([], []))
theorem lp_orderContextI (b : List Int) (hb : b.length ≤ 6) (k : AX → S → Option (AV × List Ob)) (d : Nat) : ∀ (n i : Nat) (x : Int) (zs : List Int), b.length - i = d → i ≤ b.length → x = i → d + 10 < n → zs.length ≤ i →
    lpAt E_orderContextI (lp E_orderContextI 0 n) 0 (loopAt Tryz.f43 0) (mkS [3, 4, 6, 7, 18, 19] [.ptr 0 0, .ptr 1 0, .int .i64 (b.length : Int), .ptr 3 0, .int .i64 (b.length : Int), .int .i64 x] [some (.box 41 [.clo 47 [.vptr [.lst (.int .i64) b] 0]]), some (.box 29 [.int .i64 0, .own 2]), some (.row 3 (.int .i64) []), some (.box 29 [.int .i64 b.length, .own 4]), some (.row 3 (.int .i64) zs)]) k =
      k (.exit 0) (mkS [4, 7] [.ptr 0 0, .ptr 2 0] [some (.box 29 [.int .i64 0, .own 1]), some (.row 3 (.int .i64) []), some (.box 29 [.int .i64 b.length, .own 3]), some (.row 3 (.int .i64) (zs ++ rowsI b d i))]) := by
  induction d with
  | zero =>
    intro n i x zs hd hi hx hn hz
    subst hx
    rw [lpAt_def]
    conv => lhs; whnf
    refine br_f (df (by omega)) ?_
    conv => lhs; whnf
    rw [rowsI, List.append_nil]
  | succ d ih =>
    intro n i x zs hd hi hx hn hz
    obtain ⟨n, rfl⟩ : ∃ m, n = m + 1 := ⟨n - 1, by omega⟩
    subst hx
    rw [lpAt_def]
    conv => lhs; whnf
    refine br_t (dt (by omega)) ?_
    conv => lhs; whnf
    conv => lhs; arg 1; whnf
    refine bnd_g (by exact ⟨by omega, by omega, by omega⟩) ?_
    conv => lhs; whnf
    refine br_t (dt (by simp [room]; omega)) ?_
    conv => lhs; whnf
    repeat ((first | with_reducible apply br_tt | with_reducible apply br_ff | with_reducible apply br_nf | with_reducible apply br_nt | with_reducible refine br_d ?_ (by kernel_rfl)); conv => lhs; whnf)
    rw [ih n (i + 1) _ _ (by omega) (by omega) (by rw [wrap64 (by omega) (by omega)]; simp) (by omega) (by simp; omega)]
    rw [rowsI]
    simp
theorem ev_orderContextI (b b' : List Int) (hp : b.length ≤ 1048576 ∧ b' = b) : evF E_orderContextI (40) Tryz.f43 [.agg [.lst (.int .i64) b], .clo 47 [.vptr [.lst (.int .i64) b'] 0]] [] = some (.tup [.agg [.int .i64 (ctxIdl b).1, .own 0], .bool (ctxIdl b).2.2], [.row 3 (.int .i64) (ctxIdl b).2.1]) := by
  obtain ⟨hp, rfl⟩ := hp
  conv => lhs; whnf
  conv => lhs; arg 1; whnf
  refine bnd_g (by omega) ?_
  conv => lhs; whnf
  refine br_c (fun h => ?_) (fun h => ?_)
  · have hf : ctxIdl b' = (0, [], false) := by
      unfold ctxIdl
      rw [bnt h]
      rfl
    rw [hf]
    conv => lhs; whnf
  · have hl := isOrd_parts (bnf h)
    have hf : ctxIdl b' = ((b'.length : Int), rowsI b' b'.length 0, true) := by
      unfold ctxIdl
      rw [bnf h]
      rfl
    rw [hf]
    conv => lhs; whnf
    refine (lp_orderContextI b' hl.1 _ b'.length _ 0 0 _ rfl (by omega) rfl (by change _ < 39; omega) (by simp)).trans ?_
    conv => lhs; whnf
    rfl
theorem ok_orderContextI : FnOk Tryz.prog 43 K_orderContextI := by
  refine fn_ok (fn := Tryz.f43) (k := Tryz.f43.ntmps) (E := E_orderContextI) (facts_of (List.forall_mem_cons.2 ⟨ok_implIsOrder, List.forall_mem_cons.2 ⟨ok_acc_idlCtx1, List.forall_mem_nil _⟩⟩)) (by kernel_rfl) rfl (by decide +kernel) (by decide +kernel) ?_
  intro avs hin r h
  unfold K_orderContextI at h
  split at h
  · obtain ⟨hp, rfl⟩ := gd_o h
    exact ⟨_, ev_orderContextI _ _ hp, rfl⟩
  · cases h

/- impl.IdealContext -/
def K_implIdealContext : List AV → List Ob → Option (AV × List Ob)
  | [.agg [.lst (.int .i64) b]], [] => gd (b.length ≤ 1048576) (.tup [.agg [.int .i64 (ctxIdl b).1, .own 0], .bool (ctxIdl b).2.2], [.row 3 (.int .i64) (ctxIdl b).2.1])
  | _, _ => none
@[reducible] def E_implIdealContext : Env := mkE (tb [(43, K_orderContextI)]) (fun f => false) (fun r => ([], []))
theorem ev_implIdealContext (b : List Int) (hp : b.length ≤ 1048576) : evF E_implIdealContext (1) Tryz.f9 [.agg [.lst (.int .i64) b]] [] = some (.tup [.agg [.int .i64 (ctxIdl b).1, .own 0], .bool (ctxIdl b).2.2], [.row 3 (.int .i64) (ctxIdl b).2.1]) := by
  conv => lhs; whnf
  conv => lhs; arg 1; whnf
  refine bnd_g (by exact ⟨hp, rfl⟩) ?_
  conv => lhs; whnf
theorem ok_implIdealContext : FnOk Tryz.prog 9 K_implIdealContext := by
  refine fn_ok (fn := Tryz.f9) (k := Tryz.f9.ntmps) (E := E_implIdealContext) (facts_of (List.forall_mem_cons.2 ⟨ok_orderContextI, List.forall_mem_nil _⟩)) (by kernel_rfl) rfl (by decide +kernel) (by decide +kernel) ?_
  intro avs hin r h
  unfold K_implIdealContext at h
  split at h
  · obtain ⟨hp, rfl⟩ := gd_o h
    exact ⟨_, ev_implIdealContext _ hp, rfl⟩
  · cases h

/- spec.l22Context -/
def K_l22ContextI : List AV → List Ob → Option (AV × List Ob)
  | [.agg [.lst (.int .i64) b], .bool true], [] => gd (b.length ≤ 1048576) (.tup [.agg [.int .i64 (ctxIdl b).1, .own 0], .bool (ctxIdl b).2.2], [.row 3 (.int .i64) (ctxIdl b).2.1])
  | _, _ => none
@[reducible] def E_l22ContextI : Env := mkE (tb [(23, K_specIsOrder), (55, K_l2Has)]) (fun f => false) (fun r => bif r == 6 then ([1, 2, 4, 6, 7, 8], [1, 2, 4, 6, 7, 8, 9]) else bif r == 10 then ([1, 2, 4, 6, 7, 8, 9, 10], [1, 2, 4, 6, 7, 8, 9]) else ([], []))
theorem lq_l22ContextI (b : List Int) (ho : isOrd b = true) (g : Nat) (hg : g < b.length) (zs : List Int) (k : AX → S → Option (AV × List Ob)) (d : Nat) : ∀ (n i : Nat) (x q : Int), b.length - i = d → i ≤ b.length → x = i → d < n →
    lpAt E_l22ContextI (lp E_l22ContextI 0 n) 0 (loopAt Tryz.f46 1) (mkS [1, 2, 4, 6, 7, 8, 9, 10] [.bool true, .ptr 0 0, .ptr 1 0, .int .i64 (b.length : Int), .ptr 3 0, .int .i64 (g : Int), .int .i64 q, .int .i64 x] [some (.box 26 [.lst (.int .i64) b]), some (.box 29 [.int .i64 0, .own 2]), some (.row 3 (.int .i64) []), some (.box 29 [.int .i64 b.length, .own 4]), some (.row 3 (.int .i64) zs)]) k =
      k (.exit 2) (mkS [1, 2, 4, 6, 7, 8, 9] [.bool true, .ptr 0 0, .ptr 1 0, .int .i64 (b.length : Int), .ptr 3 0, .int .i64 (g : Int), .int .i64 (orF (idlHas b g) d i q)] [some (.box 26 [.lst (.int .i64) b]), some (.box 29 [.int .i64 0, .own 2]), some (.row 3 (.int .i64) []), some (.box 29 [.int .i64 b.length, .own 4]), some (.row 3 (.int .i64) zs)]) := by
  obtain ⟨hl, hA⟩ := isOrd_parts ho
  induction d with
  | zero =>
    intro n i x q hd hi hx hn
    subst hx
    rw [lpAt_def]
    conv => lhs; whnf
    refine br_f (df (by omega)) ?_
    conv => lhs; whnf
    rfl
  | succ d ih =>
    intro n i x q hd hi hx hn
    obtain ⟨n, rfl⟩ : ∃ m, n = m + 1 := ⟨n - 1, by omega⟩
    subst hx
    have hs := ordA_set hA (show g < b.length by omega)
    have hr := isSet_le hs
    have hE : idlHas b g i = !bitI (b.getD g 0) i := by
      unfold idlHas
      rw [Int.toNat_natCast, hasE_bit (isSet_8 hs) (by omega) (by omega)]
    rw [lpAt_def]
    conv => lhs; whnf
    refine br_t (dt (by omega)) ?_
    conv => lhs; whnf
    repeat ((first | with_reducible apply br_tt | with_reducible apply br_ff | with_reducible apply br_nf | with_reducible apply br_nt | with_reducible refine br_d ?_ (by kernel_rfl) | with_reducible refine br_t (dt2 (by omega) (by omega)) ?_); conv => lhs; whnf)
    conv => lhs; arg 1; whnf
    refine bnd_g (by exact ⟨⟨hr.2.2.1, hr.2.2.2⟩, by omega, by omega⟩) ?_
    conv => lhs; whnf
    repeat ((first | with_reducible apply br_tt | with_reducible apply br_ff | with_reducible apply br_nf | with_reducible apply br_nt | with_reducible refine br_d ?_ (by kernel_rfl) | with_reducible refine br_t (dt2 (by omega) (by omega)) ?_); conv => lhs; whnf)
    refine br_c (fun h => ?_) (fun h => ?_)
    · have h' : (!bitI (b.getD g 0) i) = true := h
      conv => lhs; whnf
      repeat ((first | with_reducible apply br_tt | with_reducible apply br_ff | with_reducible apply br_nf | with_reducible apply br_nt | with_reducible refine br_d ?_ (by kernel_rfl) | with_reducible apply br_t h | with_reducible apply br_f h | with_reducible refine br_t (dt2 (by omega) (by omega)) ?_); conv => lhs; whnf)
      refine br_f (by (rw [wrapu (n := (i : Int)) (by omega) (by omega)]; exact df (by omega))) ?_
      conv => lhs; whnf
      rw [shl1u (by omega)]
      rw [ih n (i + 1) _ _ (by omega) (by omega) (by rw [wrap64 (by omega) (by omega)]; simp) (by omega)]
      rw [orF, hE, h', cond_true]
      rfl
    · have h' : (!bitI (b.getD g 0) i) = false := h
      conv => lhs; whnf
      repeat ((first | with_reducible apply br_tt | with_reducible apply br_ff | with_reducible apply br_nf | with_reducible apply br_nt | with_reducible refine br_d ?_ (by kernel_rfl) | with_reducible apply br_t h | with_reducible apply br_f h | with_reducible refine br_t (dt2 (by omega) (by omega)) ?_); conv => lhs; whnf)
      rw [ih n (i + 1) _ _ (by omega) (by omega) (by rw [wrap64 (by omega) (by omega)]; simp) (by omega)]
      rw [orF, hE, h', cond_false]

theorem lp_l22ContextI (b : List Int) (ho : isOrd b = true) (k : AX → S → Option (AV × List Ob)) (d : Nat) : ∀ (n i : Nat) (x : Int) (zs : List Int), b.length - i = d → i ≤ b.length → x = i → d + 10 < n → zs.length ≤ i →
    lpAt E_l22ContextI (lp E_l22ContextI 0 n) 0 (loopAt Tryz.f46 0) (mkS [1, 2, 4, 6, 7, 8] [.bool true, .ptr 0 0, .ptr 1 0, .int .i64 (b.length : Int), .ptr 3 0, .int .i64 x] [some (.box 26 [.lst (.int .i64) b]), some (.box 29 [.int .i64 0, .own 2]), some (.row 3 (.int .i64) []), some (.box 29 [.int .i64 b.length, .own 4]), some (.row 3 (.int .i64) zs)]) k =
      k (.exit 0) (mkS [1, 2, 4, 6, 7, 8, 9] [.bool true, .ptr 0 0, .ptr 1 0, .int .i64 (b.length : Int), .ptr 3 0, .int .i64 (b.length : Int), .any] [some (.box 26 [.lst (.int .i64) b]), some (.box 29 [.int .i64 0, .own 2]), some (.row 3 (.int .i64) []), some (.box 29 [.int .i64 b.length, .own 4]), some (.row 3 (.int .i64) (zs ++ rowsI b d i))]) := by
  obtain ⟨hl, hA⟩ := isOrd_parts ho
  induction d with
  | zero =>
    intro n i x zs hd hi hx hn hz
    subst hx
    rw [lpAt_def]
    conv => lhs; whnf
    refine br_f (df (by omega)) ?_
    conv => lhs; whnf
    have : i = b.length := by omega
    rw [rowsI, List.append_nil, this]
  | succ d ih =>
    intro n i x zs hd hi hx hn hz
    obtain ⟨n, rfl⟩ : ∃ m, n = m + 1 := ⟨n - 1, by omega⟩
    subst hx
    rw [lpAt_def]
    conv => lhs; whnf
    refine br_t (dt (by omega)) ?_
    conv => lhs; whnf
    refine (lq_l22ContextI b ho i (by omega) zs _ b.length _ 0 0 0 rfl (by omega) rfl (by omega)).trans ?_
    conv => lhs; whnf
    refine br_t (dt (by simp [room]; omega)) ?_
    conv => lhs; whnf
    rw [ih n (i + 1) _ _ (by omega) (by omega) (by rw [wrap64 (by omega) (by omega)]; simp) (by omega) (by simp; omega)]
    rw [rowsI]
    simp
theorem ev_l22ContextI (b : List Int) (hp : b.length ≤ 1048576) : evF E_l22ContextI (40) Tryz.f46 [.agg [.lst (.int .i64) b], .bool true] [] = some (.tup [.agg [.int .i64 (ctxIdl b).1, .own 0], .bool (ctxIdl b).2.2], [.row 3 (.int .i64) (ctxIdl b).2.1]) := by
  conv => lhs; whnf
  conv => lhs; arg 1; whnf
  refine bnd_g (by omega) ?_
  conv => lhs; whnf
  refine br_c (fun h => ?_) (fun h => ?_)
  · have hf : ctxIdl b = (0, [], false) := by
      unfold ctxIdl
      rw [bnt h]
      rfl
    rw [hf]
    conv => lhs; whnf
  · have hl := isOrd_parts (bnf h)
    have hf : ctxIdl b = ((b.length : Int), rowsI b b.length 0, true) := by
      unfold ctxIdl
      rw [bnf h]
      rfl
    rw [hf]
    conv => lhs; whnf
    refine (lp_l22ContextI b (bnf h) _ b.length _ 0 0 _ rfl (by omega) rfl (by change _ < 39; omega) (by simp)).trans ?_
    conv => lhs; whnf
    rfl
theorem ok_l22ContextI : FnOk Tryz.prog 46 K_l22ContextI := by
  refine fn_ok (fn := Tryz.f46) (k := Tryz.f46.ntmps) (E := E_l22ContextI) (facts_of (List.forall_mem_cons.2 ⟨ok_specIsOrder, List.forall_mem_cons.2 ⟨ok_l2Has, List.forall_mem_nil _⟩⟩)) (by kernel_rfl) rfl (by decide +kernel) (by decide +kernel) ?_
  intro avs hin r h
  unfold K_l22ContextI at h
  split at h
  · obtain ⟨hp, rfl⟩ := gd_o h
    exact ⟨_, ev_l22ContextI _ hp, rfl⟩
  · cases h

/- spec.IdealContext -/
def K_specIdealContext : List AV → List Ob → Option (AV × List Ob)
  | [.agg [.lst (.int .i64) b]], [] => gd (b.length ≤ 1048576) (.tup [.agg [.int .i64 (ctxIdl b).1, .own 0], .bool (ctxIdl b).2.2], [.row 3 (.int .i64) (ctxIdl b).2.1])
  | _, _ => none
@[reducible] def E_specIdealContext : Env := mkE (tb [(46, K_l22ContextI)]) (fun f => false) (fun r => ([], []))
theorem ev_specIdealContext (b : List Int) (hp : b.length ≤ 1048576) : evF E_specIdealContext (1) Tryz.f10 [.agg [.lst (.int .i64) b]] [] = some (.tup [.agg [.int .i64 (ctxIdl b).1, .own 0], .bool (ctxIdl b).2.2], [.row 3 (.int .i64) (ctxIdl b).2.1]) := by
  conv => lhs; whnf
  conv => lhs; arg 1; whnf
  refine bnd_g (by exact hp) ?_
  conv => lhs; whnf
theorem ok_specIdealContext : FnOk Tryz.prog 10 K_specIdealContext := by
  refine fn_ok (fn := Tryz.f10) (k := Tryz.f10.ntmps) (E := E_specIdealContext) (facts_of (List.forall_mem_cons.2 ⟨ok_l22ContextI, List.forall_mem_nil _⟩)) (by kernel_rfl) rfl (by decide +kernel) (by decide +kernel) ?_
  intro avs hin r h
  unfold K_specIdealContext at h
  split at h
  · obtain ⟨hp, rfl⟩ := gd_o h
    exact ⟨_, ev_specIdealContext _ hp, rfl⟩
  · cases h

/- impl.IdealsOf$1 -/
def K_idealsOf1 : List AV → List Ob → Option (AV × List Ob)
  | [.int .i64 x, .vptr [.lst (.int .i64) b] 0, .vptr [.int .i64 s] 0], [] => gd (0 ≤ x ∧ x < b.length) (.bool (notIn b s x), [])
  | _, _ => none
@[reducible] def E_idealsOf1 : Env := mkE (tb [(51, K_inSet)]) (fun f => false) (fun r => ([], []))
theorem ev_idealsOf1 (x s : Int) (b : List Int) (hp : 0 ≤ x ∧ x < b.length) : evF E_idealsOf1 (1) Tryz.f50 [.int .i64 x, .vptr [.lst (.int .i64) b] 0, .vptr [.int .i64 s] 0] [] = some (.bool (notIn b s x), []) := by
  conv => lhs; whnf
  refine br_t (dt2 hp.1 hp.2) ?_
  conv => lhs; whnf
  conv => lhs; arg 1; whnf
  refine bnd_g (by exact True.intro) ?_
  conv => lhs; whnf
  repeat ((first | with_reducible apply br_tt | with_reducible apply br_ff | with_reducible apply br_nf | with_reducible apply br_nt | with_reducible refine br_d ?_ (by kernel_rfl)); conv => lhs; whnf)
  rfl
theorem ok_idealsOf1 : FnOk Tryz.prog 50 K_idealsOf1 := by
  refine fn_ok (fn := Tryz.f50) (k := Tryz.f50.ntmps) (E := E_idealsOf1) (facts_of (List.forall_mem_cons.2 ⟨ok_inSet, List.forall_mem_nil _⟩)) (by kernel_rfl) rfl (by decide +kernel) (by decide +kernel) ?_
  intro avs hin r h
  unfold K_idealsOf1 at h
  split at h
  · obtain ⟨hp, rfl⟩ := gd_o h
    exact ⟨_, ev_idealsOf1 _ _ _ hp, rfl⟩
  · cases h

/- slices.IndexFunc[[]int,int] -/
def K_idx_idealsOf1 : List AV → List Ob → Option (AV × List Ob)
  | [.lst (.int .i64) a, .clo 50 [.vptr [.lst (.int .i64) b] 0, .vptr [.int .i64 s] 0]], [] => gd (a.length < 4611686018427387904 ∧ ∀ x ∈ a, 0 ≤ x ∧ x < (b.length : Int)) (.int .i64 (firstI (notIn b s) a 0), [])
  | _, _ => none
@[reducible] def E_idx_idealsOf1 : Env := mkE (tb [(50, K_idealsOf1)]) (fun f => false) (fun r => bif r == 2 then ([0, 1, 7, 8], [4]) else ([], []))
theorem lp_idx_idealsOf1 (a : List Int) (s : Int) (b : List Int) (ht : ∀ x ∈ a, 0 ≤ x ∧ x < (b.length : Int)) (ha : a.length < 4611686018427387904) (k : AX → S → Option (AV × List Ob)) (d : Nat) : ∀ (n i : Nat) (x : Int), a.length - i = d → i ≤ a.length → x = i → d < n →
    lpAt E_idx_idealsOf1 (lp E_idx_idealsOf1 0 n) 0 (loopAt Tryz.f94 0) (mkS [0, 1, 7, 8] [.lst (.int .i64) a, .clo 50 [.vptr [.lst (.int .i64) b] 0, .vptr [.int .i64 s] 0], .int .i64 a.length, .int .i64 x] []) k =
      if (a.drop i).any (notIn b s) then k .ret (mkS [4] [.int .i64 (firstI (notIn b s) (a.drop i) i)] []) else k (.exit 0) (mkS [4] [.any] []) := by
  induction d with
  | zero =>
    intro n i x hd hi hx hn
    subst hx
    rw [lpAt_def]
    conv => lhs; whnf
    refine br_f (df (by omega)) ?_
    conv => lhs; whnf
    rw [List.drop_of_length_le (by omega)]
    simp
  | succ d ih =>
    intro n i x hd hi hx hn
    obtain ⟨n, rfl⟩ : ∃ m, n = m + 1 := ⟨n - 1, by omega⟩
    subst hx
    rw [lpAt_def]
    conv => lhs; whnf
    refine br_t (dt (by omega)) ?_
    conv => lhs; whnf
    refine br_t (dt2 (by omega) (by omega)) ?_
    conv => lhs; whnf
    conv => lhs; arg 1; whnf
    refine bnd_g (by exact ht _ (mem_getD (by omega))) ?_
    conv => lhs; whnf
    rw [getD_drop (l := a) (i := i) (d := 0) (by omega)]
    refine br_c (fun h => ?_) (fun h => ?_)
    · have h' : (notIn b s) (a.getD i 0) = true := h
      conv => lhs; whnf
      rw [if_pos (by rw [List.any_cons, h', Bool.true_or])]
      rw [firstI, h', cond_true]
    · have h' : (notIn b s) (a.getD i 0) = false := h
      conv => lhs; whnf
      rw [ih n (i + 1) _ (by omega) (by omega) (by rw [wrap64 (by omega) (by omega)]; simp) (by omega)]
      rw [List.any_cons, h', Bool.false_or, firstI, h', cond_false]
      rfl
theorem ev_idx_idealsOf1 (a : List Int) (s : Int) (b : List Int) (hp : a.length < 4611686018427387904 ∧ ∀ x ∈ a, 0 ≤ x ∧ x < (b.length : Int)) : evF E_idx_idealsOf1 (a.length + 2) Tryz.f94 [.lst (.int .i64) a, .clo 50 [.vptr [.lst (.int .i64) b] 0, .vptr [.int .i64 s] 0]] [] = some (.int .i64 (firstI (notIn b s) a 0), []) := by
  conv => lhs; whnf
  refine (lp_idx_idealsOf1 a s b hp.2 hp.1 _ a.length _ 0 0 rfl (by omega) rfl (by omega)).trans ?_
  simp only [List.drop_zero]
  split
  · conv => lhs; whnf
    rfl
  · rename_i he
    conv => lhs; whnf
    have : firstI (notIn b s) a 0 = -1 := firstI_none (notIn b s) a 0 (by simpa using he)
    rw [this]
theorem ok_idx_idealsOf1 : FnOk Tryz.prog 94 K_idx_idealsOf1 := by
  refine fn_ok (fn := Tryz.f94) (k := Tryz.f94.ntmps) (E := E_idx_idealsOf1) (facts_of (List.forall_mem_cons.2 ⟨ok_idealsOf1, List.forall_mem_nil _⟩)) (by kernel_rfl) rfl (by decide +kernel) (by decide +kernel) ?_
  intro avs hin r h
  unfold K_idx_idealsOf1 at h
  split at h
  · obtain ⟨hp, rfl⟩ := gd_o h
    exact ⟨_, ev_idx_idealsOf1 _ _ _ hp, rfl⟩
  · cases h

/- slices.ContainsFunc[[]int,int] -/
def K_has_idealsOf1 : List AV → List Ob → Option (AV × List Ob)
  | [.lst (.int .i64) a, .clo 50 [.vptr [.lst (.int .i64) b] 0, .vptr [.int .i64 s] 0]], [] => gd (a.length < 4611686018427387904 ∧ ∀ x ∈ a, 0 ≤ x ∧ x < (b.length : Int)) (.bool (a.any (notIn b s)), [])
  | _, _ => none
@[reducible] def E_has_idealsOf1 : Env := mkE (tb [(94, K_idx_idealsOf1)]) (fun f => false) (fun r => ([], []))
theorem ev_has_idealsOf1 (a : List Int) (s : Int) (b : List Int) (hp : a.length < 4611686018427387904 ∧ ∀ x ∈ a, 0 ≤ x ∧ x < (b.length : Int)) : evF E_has_idealsOf1 (1) Tryz.f48 [.lst (.int .i64) a, .clo 50 [.vptr [.lst (.int .i64) b] 0, .vptr [.int .i64 s] 0]] [] = some (.bool (a.any (notIn b s)), []) := by
  conv => lhs; whnf
  conv => lhs; arg 1; whnf
  refine bnd_g (by exact hp) ?_
  conv => lhs; whnf
  refine okB ?_
  exact firstI_iff (notIn b s) a 0 (by omega)
theorem ok_has_idealsOf1 : FnOk Tryz.prog 48 K_has_idealsOf1 := by
  refine fn_ok (fn := Tryz.f48) (k := Tryz.f48.ntmps) (E := E_has_idealsOf1) (facts_of (List.forall_mem_cons.2 ⟨ok_idx_idealsOf1, List.forall_mem_nil _⟩)) (by kernel_rfl) rfl (by decide +kernel) (by decide +kernel) ?_
  intro avs hin r h
  unfold K_has_idealsOf1 at h
  split at h
  · obtain ⟨hp, rfl⟩ := gd_o h
    exact ⟨_, ev_has_idealsOf1 _ _ _ hp, rfl⟩
  · cases h

/- impl.IdealsOf -/
def K_implIdealsOf : List AV → List Ob → Option (AV × List Ob)
  | [.agg [.lst (.int .i64) b]], [] => gd (b.length ≤ 1048576) (.own 0, [.row 3 (.int .i64) (idealsF b)])
  | _, _ => none
@[reducible] def E_implIdealsOf : Env := mkE (tb [(22, K_implIsOrder), (49, K_elementsOf), (48, K_has_idealsOf1)]) (fun f => false) (fun r => bif r == 5 then ([1, 3, 12, 13], [3]) else ([], []))
theorem lp_implIdealsOf (b : List Int) (ho : isOrd b = true) (k : AX → S → Option (AV × List Ob)) (d : Nat) : ∀ (n i : Nat) (x : Int) (zs : List Int), 2 ^ b.length - i = d → i ≤ 2 ^ b.length → x = i → d < n → zs.length ≤ i →
    lpAt E_implIdealsOf (lp E_implIdealsOf 0 n) 0 (loopAt Tryz.f11 0) (mkS [1, 3, 12, 13] [.ptr 0 0, .own 1, .int .i64 ((2 ^ b.length : Nat) : Int), .int .i64 x] [some (.box 26 [.lst (.int .i64) b]), some (.row 3 (.int .i64) zs)]) k =
      k (.exit 0) (mkS [3] [.own 0] [some (.row 3 (.int .i64) (zs ++ idealsL b d i))]) := by
  obtain ⟨hl, hA⟩ := isOrd_parts ho
  have hp := pow_le64 hl
  induction d with
  | zero =>
    intro n i x zs hd hi hx hn hz
    subst hx
    rw [lpAt_def]
    conv => lhs; whnf
    refine br_f (df (by omega)) ?_
    conv => lhs; whnf
    rw [idealsL, List.append_nil]
  | succ d ih =>
    intro n i x zs hd hi hx hn hz
    obtain ⟨n, rfl⟩ : ∃ m, n = m + 1 := ⟨n - 1, by omega⟩
    subst hx
    have hs : isSet (b.length : Int) (i : Int) = true := isSet_nat hl (by omega)
    have hel : (elemsF i).length ≤ 8 := elemsL_length _ _ _
    rw [lpAt_def]
    conv => lhs; whnf
    refine br_t (dt (by omega)) ?_
    conv => lhs; whnf
    conv => lhs; arg 1; whnf
    refine bnd_g (by exact True.intro) ?_
    conv => lhs; whnf
    conv => lhs; arg 1; whnf
    refine bnd_g (by exact ⟨by omega, fun x hx => ⟨(elemsF_lt hs hx).1, (elemsF_lt hs hx).2.1⟩⟩) ?_
    conv => lhs; whnf
    refine br_c (fun h => ?_) (fun h => ?_)
    · have e : ideal b i = true := by
        have h' : (elemsF i).any (notIn b i) = false := bnt h
        rw [ideal_any ho (by omega)] at h'
        exact bnf h'
      conv => lhs; whnf
      refine br_t (dt (by simp [room]; omega)) ?_
      conv => lhs; whnf
      rw [ih n (i + 1) _ _ (by omega) (by omega) (by rw [wrap64 (by omega) (by omega)]; simp) (by omega) (by simp; omega)]
      rw [idealsL, e, cond_true]
      simp
    · have e : ideal b i = false := by
        have h' : (elemsF i).any (notIn b i) = true := bnf h
        rw [ideal_any ho (by omega)] at h'
        exact bnt h'
      conv => lhs; whnf
      rw [ih n (i + 1) _ _ (by omega) (by omega) (by rw [wrap64 (by omega) (by omega)]; simp) (by omega) (by omega)]
      rw [idealsL, e, cond_false]
theorem ev_implIdealsOf (b : List Int) (hp : b.length ≤ 1048576) : evF E_implIdealsOf (200) Tryz.f11 [.agg [.lst (.int .i64) b]] [] = some (.own 0, [.row 3 (.int .i64) (idealsF b)]) := by
  conv => lhs; whnf
  conv => lhs; arg 1; whnf
  refine bnd_g (by omega) ?_
  conv => lhs; whnf
  refine br_c (fun h => ?_) (fun h => ?_)
  · conv => lhs; whnf
    unfold idealsF
    rw [bnt h]
    rfl
  · conv => lhs; whnf
    have hl := isOrd_parts (bnf h)
    have hp := pow_le64 hl.1
    refine br_f (df (by omega)) ?_
    conv => lhs; whnf
    have e : IntKind.i64.wrap (1 * 2 ^ min (b.length : Int).toNat IntKind.i64.bits) = ((2 ^ b.length : Nat) : Int) := by
      have h : b.length = 0 ∨ b.length = 1 ∨ b.length = 2 ∨ b.length = 3 ∨ b.length = 4 ∨ b.length = 5 ∨ b.length = 6 := by omega
      rcases h with h | h | h | h | h | h | h <;> rw [h] <;> decide
    rw [e]
    refine (lp_implIdealsOf b (bnf h) _ (2 ^ b.length) _ 0 0 _ rfl (by omega) rfl (by change _ < 199; omega) (by simp)).trans ?_
    conv => lhs; whnf
    unfold idealsF
    rw [bnf h]
    rfl
theorem ok_implIdealsOf : FnOk Tryz.prog 11 K_implIdealsOf := by
  refine fn_ok (fn := Tryz.f11) (k := Tryz.f11.ntmps) (E := E_implIdealsOf) (facts_of (List.forall_mem_cons.2 ⟨ok_implIsOrder, List.forall_mem_cons.2 ⟨ok_elementsOf, List.forall_mem_cons.2 ⟨ok_has_idealsOf1, List.forall_mem_nil _⟩⟩⟩)) (by kernel_rfl) rfl (by decide +kernel) (by decide +kernel) ?_
  intro avs hin r h
  unfold K_implIdealsOf at h
  split at h
  · obtain ⟨hp, rfl⟩ := gd_o h
    exact ⟨_, ev_implIdealsOf _ hp, rfl⟩
  · cases h

/- spec.IdealsOf -/
def K_specIdealsOf : List AV → List Ob → Option (AV × List Ob)
  | [.agg [.lst (.int .i64) b]], [] => gd (b.length ≤ 1048576) (.own 0, [.row 3 (.int .i64) (idealsF b)])
  | _, _ => none
@[reducible] def E_specIdealsOf : Env := mkE (tb [(23, K_specIsOrder), (54, K_specFullSet), (55, K_l2Has)]) (fun f => false) (fun r => bif r == 5 then ([1, 3, 4], [1, 3, 4, 5]) else bif r == 9 then ([1, 3, 4, 5, 6], [1, 3, 4, 5]) else ([], []))
theorem lq_specIdealsOf (b : List Int) (ho : isOrd b = true) (s : Nat) (hs : s < 64) (zs : List Int) (k : AX → S → Option (AV × List Ob)) (d : Nat) : ∀ (n i : Nat) (x : Int) (f : Bool), b.length - i = d → i ≤ b.length → x = i → d < n →
    lpAt E_specIdealsOf (lp E_specIdealsOf 0 n) 0 (loopAt Tryz.f15 1) (mkS [1, 3, 4, 5, 6] [.ptr 0 0, .own 1, .int .i64 (s : Int), .bool f, .int .i64 x] [some (.box 26 [.lst (.int .i64) b]), some (.row 3 (.int .i64) zs)]) k =
      k (.exit 2) (mkS [1, 3, 4, 5] [.ptr 0 0, .own 1, .int .i64 (s : Int), .bool (f && allB (idealAt b s) d i)] [some (.box 26 [.lst (.int .i64) b]), some (.row 3 (.int .i64) zs)]) := by
  obtain ⟨hl, hA⟩ := isOrd_parts ho
  induction d with
  | zero =>
    intro n i x f hd hi hx hn
    subst hx
    rw [lpAt_def]
    conv => lhs; whnf
    refine br_f (df (by omega)) ?_
    conv => lhs; whnf
    rw [allB, Bool.and_true]
  | succ d ih =>
    intro n i x f hd hi hx hn
    obtain ⟨n, rfl⟩ : ∃ m, n = m + 1 := ⟨n - 1, by omega⟩
    subst hx
    rw [lpAt_def]
    conv => lhs; whnf
    refine br_t (dt (by omega)) ?_
    conv => lhs; whnf
    refine br_c (fun h => ?_) (fun h => ?_)
    · conv => lhs; whnf
      repeat ((first | with_reducible apply br_tt | with_reducible apply br_ff | with_reducible apply br_nf | with_reducible apply br_nt | with_reducible refine br_d ?_ (by kernel_rfl) | with_reducible apply br_t h | with_reducible apply br_f h); conv => lhs; whnf)
      conv => lhs; arg 1; whnf
      refine bnd_g (by exact ⟨⟨by omega, by omega⟩, by omega, by omega⟩) ?_
      conv => lhs; whnf
      repeat ((first | with_reducible apply br_tt | with_reducible apply br_ff | with_reducible apply br_nf | with_reducible apply br_nt | with_reducible refine br_d ?_ (by kernel_rfl) | with_reducible apply br_t h | with_reducible apply br_f h); conv => lhs; whnf)
      refine br_c (fun h2 => ?_) (fun h2 => ?_)
      · conv => lhs; whnf
        repeat ((first | with_reducible apply br_tt | with_reducible apply br_ff | with_reducible apply br_nf | with_reducible apply br_nt | with_reducible refine br_d ?_ (by kernel_rfl) | with_reducible apply br_t h | with_reducible apply br_f h | with_reducible apply br_t h2 | with_reducible apply br_f h2); conv => lhs; whnf)
        rw [ih n (i + 1) _ _ (by omega) (by omega) (by rw [wrap64 (by omega) (by omega)]; simp) (by omega)]
        rw [h, allB]
        have e : idealAt b s i = true := by
          unfold idealAt
          rw [show bitI s i = false from bnt h2]
          rfl
        simp only [e, Bool.true_and]
      · conv => lhs; whnf
        repeat ((first | with_reducible apply br_tt | with_reducible apply br_ff | with_reducible apply br_nf | with_reducible apply br_nt | with_reducible refine br_d ?_ (by kernel_rfl) | with_reducible apply br_t h | with_reducible apply br_f h | with_reducible apply br_t h2 | with_reducible apply br_f h2 | with_reducible refine br_t (dt2 (by omega) (by omega)) ?_); conv => lhs; whnf)
        rw [ih n (i + 1) _ _ (by omega) (by omega) (by rw [wrap64 (by omega) (by omega)]; simp) (by omega)]
        rw [h, allB]
        have e : idealAt b s i = (band (b.getD i 0) s == b.getD i 0) := by
          unfold idealAt
          rw [show bitI s i = true from bnf h2]
          rfl
        rw [e, Bool.true_and]
        rfl
    · conv => lhs; whnf
      repeat ((first | with_reducible apply br_tt | with_reducible apply br_ff | with_reducible apply br_nf | with_reducible apply br_nt | with_reducible refine br_d ?_ (by kernel_rfl) | with_reducible apply br_t h | with_reducible apply br_f h); conv => lhs; whnf)
      rw [ih n (i + 1) _ _ (by omega) (by omega) (by rw [wrap64 (by omega) (by omega)]; simp) (by omega)]
      simp only [h, Bool.false_and]

theorem lp_specIdealsOf (b : List Int) (ho : isOrd b = true) (k : AX → S → Option (AV × List Ob)) (d : Nat) : ∀ (n i : Nat) (x : Int) (zs : List Int), 2 ^ b.length - i = d → i ≤ 2 ^ b.length → x = i → d + 10 < n → zs.length ≤ i →
    lpAt E_specIdealsOf (lp E_specIdealsOf 0 n) 0 (loopAt Tryz.f15 0) (mkS [1, 3, 4] [.ptr 0 0, .own 1, .int .i64 x] [some (.box 26 [.lst (.int .i64) b]), some (.row 3 (.int .i64) zs)]) k =
      k (.exit 0) (mkS [1, 3, 4, 5] [.ptr 0 0, .own 1, .int .i64 (2 ^ b.length : Nat), .any] [some (.box 26 [.lst (.int .i64) b]), some (.row 3 (.int .i64) (zs ++ idealsL b d i))]) := by
  obtain ⟨hl, hA⟩ := isOrd_parts ho
  have hp := pow_le64 hl
  have hf := fullSet_nat hl
  induction d with
  | zero =>
    intro n i x zs hd hi hx hn hz
    subst hx
    rw [lpAt_def]
    conv => lhs; whnf
    conv => lhs; arg 1; whnf
    refine bnd_g (by exact True.intro) ?_
    conv => lhs; whnf
    rw [hf]
    refine br_f (df (by omega)) ?_
    conv => lhs; whnf
    have : i = 2 ^ b.length := by omega
    rw [this, idealsL, List.append_nil]
  | succ d ih =>
    intro n i x zs hd hi hx hn hz
    obtain ⟨n, rfl⟩ : ∃ m, n = m + 1 := ⟨n - 1, by omega⟩
    subst hx
    rw [lpAt_def]
    conv => lhs; whnf
    conv => lhs; arg 1; whnf
    refine bnd_g (by exact True.intro) ?_
    conv => lhs; whnf
    rw [hf]
    refine br_t (dt (by omega)) ?_
    conv => lhs; whnf
    refine (lq_specIdealsOf b ho i (by omega) zs _ b.length _ 0 0 _ rfl (by omega) rfl (by omega)).trans ?_
    rw [Bool.true_and]
    conv => lhs; whnf
    refine br_c (fun h => ?_) (fun h => ?_)
    · conv => lhs; whnf
      refine br_t (dt (by simp [room]; omega)) ?_
      conv => lhs; whnf
      rw [ih n (i + 1) _ _ (by omega) (by omega) (by rw [wrap64 (by omega) (by omega)]; simp) (by omega) (by simp; omega)]
      have e : ideal b i = true := h
      rw [idealsL, e, cond_true]
      simp
    · conv => lhs; whnf
      rw [ih n (i + 1) _ _ (by omega) (by omega) (by rw [wrap64 (by omega) (by omega)]; simp) (by omega) (by omega)]
      have e : ideal b i = false := h
      rw [idealsL, e, cond_false]
theorem ev_specIdealsOf (b : List Int) (hp : b.length ≤ 1048576) : evF E_specIdealsOf (200) Tryz.f15 [.agg [.lst (.int .i64) b]] [] = some (.own 0, [.row 3 (.int .i64) (idealsF b)]) := by
  conv => lhs; whnf
  conv => lhs; arg 1; whnf
  refine bnd_g (by omega) ?_
  conv => lhs; whnf
  refine br_c (fun h => ?_) (fun h => ?_)
  · conv => lhs; whnf
    unfold idealsF
    rw [bnt h]
    rfl
  · conv => lhs; whnf
    have hl := isOrd_parts (bnf h)
    have hp := pow_le64 hl.1
    refine (lp_specIdealsOf b (bnf h) _ (2 ^ b.length) _ 0 0 _ rfl (by omega) rfl (by change _ < 199; omega) (by simp)).trans ?_
    conv => lhs; whnf
    unfold idealsF
    rw [bnf h]
    rfl
theorem ok_specIdealsOf : FnOk Tryz.prog 15 K_specIdealsOf := by
  refine fn_ok (fn := Tryz.f15) (k := Tryz.f15.ntmps) (E := E_specIdealsOf) (facts_of (List.forall_mem_cons.2 ⟨ok_specIsOrder, List.forall_mem_cons.2 ⟨ok_specFullSet, List.forall_mem_cons.2 ⟨ok_l2Has, List.forall_mem_nil _⟩⟩⟩)) (by kernel_rfl) rfl (by decide +kernel) (by decide +kernel) ?_
  intro avs hin r h
  unfold K_specIdealsOf at h
  split at h
  · obtain ⟨hp, rfl⟩ := gd_o h
    exact ⟨_, ev_specIdealsOf _ hp, rfl⟩
  · cases h

/- spec.l2Same -/
def K_l2Same : List AV → List Ob → Option (AV × List Ob)
  | [.lst (.int .i64) a, .lst (.int .i64) b], [] => gd (a.length < 4611686018427387904 ∧ b.length < 4611686018427387904) (.bool (decide (a = b)), [])
  | _, _ => none
@[reducible] def E_l2Same : Env := mkE (tb []) (fun f => false) (fun r => bif r == 4 then ([0, 1, 5], [4]) else ([], []))
theorem lp_l2Same (a b : List Int) (hl : a.length = b.length) (ha : a.length < 4611686018427387904) (k : AX → S → Option (AV × List Ob)) (d : Nat) : ∀ (n i : Nat) (x : Int), a.length - i = d → i ≤ a.length → x = i → d < n →
    lpAt E_l2Same (lp E_l2Same 0 n) 0 (loopAt Tryz.f53 0) (mkS [0, 1, 5] [.lst (.int .i64) a, .lst (.int .i64) b, .int .i64 x] []) k =
      if a.drop i = b.drop i then k (.exit 0) (mkS [4] [.any] []) else k .ret (mkS [4] [.bool false] []) := by
  induction d with
  | zero =>
    intro n i x hd hi hx hn
    subst hx
    rw [lpAt_def]
    conv => lhs; whnf
    refine br_f (df (by omega)) ?_
    conv => lhs; whnf
    rw [if_pos (by rw [List.drop_of_length_le (by omega), List.drop_of_length_le (by omega)])]
  | succ d ih =>
    intro n i x hd hi hx hn
    obtain ⟨n, rfl⟩ : ∃ m, n = m + 1 := ⟨n - 1, by omega⟩
    subst hx
    rw [lpAt_def]
    conv => lhs; whnf
    refine br_t (dt (by omega)) ?_
    conv => lhs; whnf
    refine br_t (dt2 (by omega) (by omega)) ?_
    conv => lhs; whnf
    refine br_t (dt2 (by omega) (by omega)) ?_
    conv => lhs; whnf
    rw [getD_drop (l := a) (i := i) (d := 0) (by omega), getD_drop (l := b) (i := i) (d := 0) (by omega)]
    refine br_t (by kernel_rfl) ?_
    conv => lhs; whnf
    refine br_c (fun h => ?_) (fun h => ?_)
    · conv => lhs; whnf
      rw [if_neg]
      intro he
      have := (List.cons.inj he).1
      simp at h
      exact h this
    · conv => lhs; whnf
      rw [ih n (i + 1) _ (by omega) (by omega) (by rw [wrap64 (by omega) (by omega)]; simp) (by omega)]
      simp at h
      simp [h]
theorem ev_l2Same (a b : List Int) (hp : a.length < 4611686018427387904 ∧ b.length < 4611686018427387904) : evF E_l2Same (a.length + 2) Tryz.f53 [.lst (.int .i64) a, .lst (.int .i64) b] [] = some (.bool (decide (a = b)), []) := by
  conv => lhs; whnf
  refine br_c (fun h => ?_) (fun h => ?_)
  · conv => lhs; whnf
    have : a ≠ b := by
      rintro rfl
      simp at h
    simp [this]
  · conv => lhs; whnf
    have hl : a.length = b.length := by simp at h; omega
    refine (lp_l2Same a b hl hp.1 _ _ _ 0 0 rfl (by omega) rfl (by omega)).trans ?_
    simp only [List.drop_zero]
    split
    · rename_i he
      conv => lhs; whnf
      simp [he]
    · rename_i he
      conv => lhs; whnf
      simp [he]
theorem ok_l2Same : FnOk Tryz.prog 53 K_l2Same := by
  refine fn_ok (fn := Tryz.f53) (k := Tryz.f53.ntmps) (E := E_l2Same) (facts_of (List.forall_mem_nil _)) (by kernel_rfl) rfl (by decide +kernel) (by decide +kernel) ?_
  intro avs hin r h
  unfold K_l2Same at h
  split at h
  · obtain ⟨hp, rfl⟩ := gd_o h
    exact ⟨_, ev_l2Same _ _ hp, rfl⟩
  · cases h

/- spec.EqualContext -/
def K_specEqualContext : List AV → List Ob → Option (AV × List Ob)
  | [.agg [.int .i64 m, .lst (.int .i64) a], .agg [.int .i64 m', .lst (.int .i64) a']], [] => gd (a.length < 4611686018427387904 ∧ a'.length < 4611686018427387904) (.bool (decide (m = m' ∧ a = a')), [])
  | _, _ => none
@[reducible] def E_specEqualContext : Env := mkE (tb [(53, K_l2Same)]) (fun f => false) (fun r => ([], []))
theorem ev_specEqualContext (m : Int) (a : List Int) (m' : Int) (a' : List Int) (hp : a.length < 4611686018427387904 ∧ a'.length < 4611686018427387904) : evF E_specEqualContext (1) Tryz.f13 [.agg [.int .i64 m, .lst (.int .i64) a], .agg [.int .i64 m', .lst (.int .i64) a']] [] = some (.bool (decide (m = m' ∧ a = a')), []) := by
  conv => lhs; whnf
  refine br_c (fun h => ?_) (fun h => ?_)
  · conv => lhs; whnf
    repeat ((first | with_reducible apply br_tt | with_reducible apply br_ff | with_reducible apply br_nf | with_reducible apply br_nt | with_reducible refine br_d ?_ (by kernel_rfl) | with_reducible apply br_t h | with_reducible apply br_f h); conv => lhs; whnf)
    conv => lhs; arg 1; whnf
    refine bnd_g (by exact ⟨hp.1, hp.2⟩) ?_
    conv => lhs; whnf
    repeat ((first | with_reducible apply br_tt | with_reducible apply br_ff | with_reducible apply br_nf | with_reducible apply br_nt | with_reducible refine br_d ?_ (by kernel_rfl) | with_reducible apply br_t h | with_reducible apply br_f h); conv => lhs; whnf)
    simp at h
    simp [h]
  · conv => lhs; whnf
    repeat ((first | with_reducible apply br_tt | with_reducible apply br_ff | with_reducible apply br_nf | with_reducible apply br_nt | with_reducible refine br_d ?_ (by kernel_rfl) | with_reducible apply br_t h | with_reducible apply br_f h); conv => lhs; whnf)
    simp at h
    simp [h]
theorem ok_specEqualContext : FnOk Tryz.prog 13 K_specEqualContext := by
  refine fn_ok (fn := Tryz.f13) (k := Tryz.f13.ntmps) (E := E_specEqualContext) (facts_of (List.forall_mem_cons.2 ⟨ok_l2Same, List.forall_mem_nil _⟩)) (by kernel_rfl) rfl (by decide +kernel) (by decide +kernel) ?_
  intro avs hin r h
  unfold K_specEqualContext at h
  split at h
  · obtain ⟨hp, rfl⟩ := gd_o h
    exact ⟨_, ev_specEqualContext _ _ _ _ hp, rfl⟩
  · cases h

/- laws.sameInts -/
def K_sameInts : List AV → List Ob → Option (AV × List Ob)
  | [.lst (.int .i64) a, .lst (.int .i64) b], [] => gd (a.length < 4611686018427387904 ∧ b.length < 4611686018427387904) (.bool (decide (a = b)), [])
  | _, _ => none
@[reducible] def E_sameInts : Env := mkE (tb []) (fun f => false) (fun r => bif r == 4 then ([0, 1, 5], [4]) else ([], []))
theorem lp_sameInts (a b : List Int) (hl : a.length = b.length) (ha : a.length < 4611686018427387904) (k : AX → S → Option (AV × List Ob)) (d : Nat) : ∀ (n i : Nat) (x : Int), a.length - i = d → i ≤ a.length → x = i → d < n →
    lpAt E_sameInts (lp E_sameInts 0 n) 0 (loopAt Tryz.f14 0) (mkS [0, 1, 5] [.lst (.int .i64) a, .lst (.int .i64) b, .int .i64 x] []) k =
      if a.drop i = b.drop i then k (.exit 0) (mkS [4] [.any] []) else k .ret (mkS [4] [.bool false] []) := by
  induction d with
  | zero =>
    intro n i x hd hi hx hn
    subst hx
    rw [lpAt_def]
    conv => lhs; whnf
    refine br_f (df (by omega)) ?_
    conv => lhs; whnf
    rw [if_pos (by rw [List.drop_of_length_le (by omega), List.drop_of_length_le (by omega)])]
  | succ d ih =>
    intro n i x hd hi hx hn
    obtain ⟨n, rfl⟩ : ∃ m, n = m + 1 := ⟨n - 1, by omega⟩
    subst hx
    rw [lpAt_def]
    conv => lhs; whnf
    refine br_t (dt (by omega)) ?_
    conv => lhs; whnf
    refine br_t (dt2 (by omega) (by omega)) ?_
    conv => lhs; whnf
    refine br_t (dt2 (by omega) (by omega)) ?_
    conv => lhs; whnf
    rw [getD_drop (l := a) (i := i) (d := 0) (by omega), getD_drop (l := b) (i := i) (d := 0) (by omega)]
    refine br_t (by kernel_rfl) ?_
    conv => lhs; whnf
    refine br_c (fun h => ?_) (fun h => ?_)
    · conv => lhs; whnf
      rw [if_neg]
      intro he
      have := (List.cons.inj he).1
      simp at h
      exact h this
    · conv => lhs; whnf
      rw [ih n (i + 1) _ (by omega) (by omega) (by rw [wrap64 (by omega) (by omega)]; simp) (by omega)]
      simp at h
      rw [List.getD_eq_getElem?_getD, List.getD_eq_getElem?_getD, h]
      simp
theorem ev_sameInts (a b : List Int) (hp : a.length < 4611686018427387904 ∧ b.length < 4611686018427387904) : evF E_sameInts (a.length + 2) Tryz.f14 [.lst (.int .i64) a, .lst (.int .i64) b] [] = some (.bool (decide (a = b)), []) := by
  conv => lhs; whnf
  refine br_c (fun h => ?_) (fun h => ?_)
  · conv => lhs; whnf
    have : a ≠ b := by
      rintro rfl
      simp at h
    simp [this]
  · conv => lhs; whnf
    have hl : a.length = b.length := by simp at h; omega
    refine (lp_sameInts a b hl hp.1 _ _ _ 0 0 rfl (by omega) rfl (by omega)).trans ?_
    simp only [List.drop_zero]
    split
    · rename_i he
      conv => lhs; whnf
      simp [he]
    · rename_i he
      conv => lhs; whnf
      simp [he]
theorem ok_sameInts : FnOk Tryz.prog 14 K_sameInts := by
  refine fn_ok (fn := Tryz.f14) (k := Tryz.f14.ntmps) (E := E_sameInts) (facts_of (List.forall_mem_nil _)) (by kernel_rfl) rfl (by decide +kernel) (by decide +kernel) ?_
  intro avs hin r h
  unfold K_sameInts at h
  split at h
  · obtain ⟨hp, rfl⟩ := gd_o h
    exact ⟨_, ev_sameInts _ _ hp, rfl⟩
  · cases h

end Go.Sym
