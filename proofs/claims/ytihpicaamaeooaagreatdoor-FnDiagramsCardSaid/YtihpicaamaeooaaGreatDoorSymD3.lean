/- Functions of the program, each told as a plain equation. -/
import Derived.Test.YtihpicaamaeooaaGreatDoorSymD2
namespace Go.Sym
open Go.Proofs
set_option linter.unusedVariables false
set_option linter.unusedSimpArgs false
set_option maxRecDepth 100000
set_option maxHeartbeats 4000000

/- laws.FnDiagrams -/
def K_lawDiagrams : List AV → List Ob → Option (AV × List Ob)
  | [.lst (.int .u8) b], [] => gd (b.length ≤ maxLen) (.bool true, [])
  | _, _ => none
@[reducible] def E_lawDiagrams : Env := mkE (tb [(5, K_bigL), (29, K_drawSpotOf), (30, K_implSpotOf), (31, K_specSpotOf), (32, K_drawAttributeVector), (33, K_implAttributeVector), (34, K_specAttributeVector), (35, K_drawDiagramLines), (36, K_sameTexts), (37, K_implDiagramLines), (38, K_specDiagramLines), (39, K_implHasCrowd), (40, K_specHasCrowd), (26, K_specConcepts), (25, K_specIsBelow)]) (fun f => false) (fun r => bif r == 14 then ([3, 4, 5, 6, 16, 17], [2]) else ([], []))
theorem lp_lawDiagrams (m : Int) (a : List Int) (ha : a.length ≤ 9) (kk s1 : Int) (k : AX → S → Option (AV × List Ob)) (d : Nat) : ∀ (n i : Nat) (x : Int), (concF m a).length - i = d → i ≤ (concF m a).length → x = i → d < n →
    lpAt E_lawDiagrams (lp E_lawDiagrams 0 n) 0 (loopAt Tryz.f4 0) (mkS [3, 4, 5, 6, 16, 17] [.ptr 0 0, .int .i64 kk, .ptr 2 0, .bool (inC (concF m a) kk), .int .i64 ((concF m a).length : Int), .int .i64 x] [some (.box 29 [.int .i64 m, .own 1]), some (.row 3 (.int .i64) a), some (.box 52 [.int .i64 s1, .int .i64 (spotF m a kk).2])]) k =
      k (.exit 0) (mkS [2] [.any] []) := by
  have hl := concF_len m a
  induction d with
  | zero =>
    intro n i x hd hi hx hn
    subst hx
    rw [lpAt_def]
    conv => lhs; whnf
    refine br_f (df (by omega)) ?_
    conv => lhs; whnf
  | succ d ih =>
    intro n i x hd hi hx hn
    obtain ⟨n, rfl⟩ : ∃ m, n = m + 1 := ⟨n - 1, by omega⟩
    subst hx
    rw [lpAt_def]
    conv => lhs; whnf
    refine br_t (dt (by omega)) ?_
    conv => lhs; whnf
    conv => lhs; arg 1; whnf
    refine bnd_g (by omega) ?_
    conv => lhs; whnf
    refine br_c (fun h1 => ?_) (fun h1 => ?_)
    · have hk := inC_iff.1 h1
      have ek : (kk.toNat : Int) = kk := by omega
      conv => lhs; whnf
      repeat ((first | with_reducible apply br_tt | with_reducible apply br_ff | with_reducible apply br_nf | with_reducible apply br_nt | with_reducible refine br_d ?_ (by kernel_rfl) | with_reducible apply br_t h1 | with_reducible apply br_f h1); conv => lhs; whnf)
      refine br_c (fun h2 => ?_) (fun h2 => ?_)
      · have hne : (i : Int) ≠ kk := by
          have h2' : ((i : Int) != kk) = true := h2
          simpa using h2'
        have hA : belowB (concF m a) kk (i : Int) = true → decide ((spotF m a (i : Int)).2 ≥ (spotF m a kk).2) = false := fun h3 => df (by
          have := diag_lt (m := m) (b := a) (x := kk.toNat) (y := i) (by omega) (by omega) (by omega) (by rw [ek]; exact h3)
          rw [ek] at this
          omega)
        have hB : belowB (concF m a) (i : Int) kk = true → decide ((spotF m a (i : Int)).2 ≤ (spotF m a kk).2) = false := fun h3 => df (by
          have := diag_lt (m := m) (b := a) (x := i) (y := kk.toNat) (by omega) (by omega) (by omega) (by rw [ek]; exact h3)
          rw [ek] at this
          omega)
        conv => lhs; whnf
        repeat ((first | with_reducible apply br_tt | with_reducible apply br_ff | with_reducible apply br_nf | with_reducible apply br_nt | with_reducible refine br_d ?_ (by kernel_rfl) | with_reducible apply br_t h1 | with_reducible apply br_f h1 | with_reducible apply br_t h2 | with_reducible apply br_f h2); conv => lhs; whnf)
        conv => lhs; arg 1; whnf
        refine bnd_g (by omega) ?_
        conv => lhs; whnf
        repeat ((first | with_reducible apply br_tt | with_reducible apply br_ff | with_reducible apply br_nf | with_reducible apply br_nt | with_reducible refine br_d ?_ (by kernel_rfl) | with_reducible apply br_t h1 | with_reducible apply br_f h1 | with_reducible apply br_t h2 | with_reducible apply br_f h2); conv => lhs; whnf)
        refine br_c (fun h3 => ?_) (fun h3 => ?_)
        · have hlt := hA h3
          conv => lhs; whnf
          repeat ((first | with_reducible apply br_tt | with_reducible apply br_ff | with_reducible apply br_nf | with_reducible apply br_nt | with_reducible refine br_d ?_ (by kernel_rfl) | with_reducible apply br_t h1 | with_reducible apply br_f h1 | with_reducible apply br_t h2 | with_reducible apply br_f h2 | with_reducible apply br_t h3 | with_reducible apply br_f h3 | with_reducible apply br_t hlt | with_reducible apply br_f hlt); conv => lhs; whnf)
          conv => lhs; arg 1; whnf
          refine bnd_g (by omega) ?_
          conv => lhs; whnf
          repeat ((first | with_reducible apply br_tt | with_reducible apply br_ff | with_reducible apply br_nf | with_reducible apply br_nt | with_reducible refine br_d ?_ (by kernel_rfl) | with_reducible apply br_t h1 | with_reducible apply br_f h1 | with_reducible apply br_t h2 | with_reducible apply br_f h2 | with_reducible apply br_t h3 | with_reducible apply br_f h3 | with_reducible apply br_t hlt | with_reducible apply br_f hlt); conv => lhs; whnf)
          refine br_c (fun h4 => ?_) (fun h4 => ?_)
          · have hlt2 := hB h4
            conv => lhs; whnf
            repeat ((first | with_reducible apply br_tt | with_reducible apply br_ff | with_reducible apply br_nf | with_reducible apply br_nt | with_reducible refine br_d ?_ (by kernel_rfl) | with_reducible apply br_t h1 | with_reducible apply br_f h1 | with_reducible apply br_t h2 | with_reducible apply br_f h2 | with_reducible apply br_t h3 | with_reducible apply br_f h3 | with_reducible apply br_t hlt | with_reducible apply br_f hlt | with_reducible apply br_t h4 | with_reducible apply br_f h4 | with_reducible apply br_t hlt2 | with_reducible apply br_f hlt2); conv => lhs; whnf)
            exact ih n (i + 1) (IntKind.i64.wrap ((i : Int) + 1)) (by omega) (by omega) (by rw [wrap64 (by omega) (by omega)]; simp) (by omega)
          · conv => lhs; whnf
            repeat ((first | with_reducible apply br_tt | with_reducible apply br_ff | with_reducible apply br_nf | with_reducible apply br_nt | with_reducible refine br_d ?_ (by kernel_rfl) | with_reducible apply br_t h1 | with_reducible apply br_f h1 | with_reducible apply br_t h2 | with_reducible apply br_f h2 | with_reducible apply br_t h3 | with_reducible apply br_f h3 | with_reducible apply br_t hlt | with_reducible apply br_f hlt | with_reducible apply br_t h4 | with_reducible apply br_f h4); conv => lhs; whnf)
            exact ih n (i + 1) (IntKind.i64.wrap ((i : Int) + 1)) (by omega) (by omega) (by rw [wrap64 (by omega) (by omega)]; simp) (by omega)
        · conv => lhs; whnf
          repeat ((first | with_reducible apply br_tt | with_reducible apply br_ff | with_reducible apply br_nf | with_reducible apply br_nt | with_reducible refine br_d ?_ (by kernel_rfl) | with_reducible apply br_t h1 | with_reducible apply br_f h1 | with_reducible apply br_t h2 | with_reducible apply br_f h2 | with_reducible apply br_t h3 | with_reducible apply br_f h3); conv => lhs; whnf)
          conv => lhs; arg 1; whnf
          refine bnd_g (by omega) ?_
          conv => lhs; whnf
          repeat ((first | with_reducible apply br_tt | with_reducible apply br_ff | with_reducible apply br_nf | with_reducible apply br_nt | with_reducible refine br_d ?_ (by kernel_rfl) | with_reducible apply br_t h1 | with_reducible apply br_f h1 | with_reducible apply br_t h2 | with_reducible apply br_f h2 | with_reducible apply br_t h3 | with_reducible apply br_f h3); conv => lhs; whnf)
          refine br_c (fun h4 => ?_) (fun h4 => ?_)
          · have hlt2 := hB h4
            conv => lhs; whnf
            repeat ((first | with_reducible apply br_tt | with_reducible apply br_ff | with_reducible apply br_nf | with_reducible apply br_nt | with_reducible refine br_d ?_ (by kernel_rfl) | with_reducible apply br_t h1 | with_reducible apply br_f h1 | with_reducible apply br_t h2 | with_reducible apply br_f h2 | with_reducible apply br_t h3 | with_reducible apply br_f h3 | with_reducible apply br_t h4 | with_reducible apply br_f h4 | with_reducible apply br_t hlt2 | with_reducible apply br_f hlt2); conv => lhs; whnf)
            exact ih n (i + 1) (IntKind.i64.wrap ((i : Int) + 1)) (by omega) (by omega) (by rw [wrap64 (by omega) (by omega)]; simp) (by omega)
          · conv => lhs; whnf
            repeat ((first | with_reducible apply br_tt | with_reducible apply br_ff | with_reducible apply br_nf | with_reducible apply br_nt | with_reducible refine br_d ?_ (by kernel_rfl) | with_reducible apply br_t h1 | with_reducible apply br_f h1 | with_reducible apply br_t h2 | with_reducible apply br_f h2 | with_reducible apply br_t h3 | with_reducible apply br_f h3 | with_reducible apply br_t h4 | with_reducible apply br_f h4); conv => lhs; whnf)
            exact ih n (i + 1) (IntKind.i64.wrap ((i : Int) + 1)) (by omega) (by omega) (by rw [wrap64 (by omega) (by omega)]; simp) (by omega)
      · conv => lhs; whnf
        repeat ((first | with_reducible apply br_tt | with_reducible apply br_ff | with_reducible apply br_nf | with_reducible apply br_nt | with_reducible refine br_d ?_ (by kernel_rfl) | with_reducible apply br_t h1 | with_reducible apply br_f h1 | with_reducible apply br_t h2 | with_reducible apply br_f h2); conv => lhs; whnf)
        exact ih n (i + 1) (IntKind.i64.wrap ((i : Int) + 1)) (by omega) (by omega) (by rw [wrap64 (by omega) (by omega)]; simp) (by omega)
    · conv => lhs; whnf
      repeat ((first | with_reducible apply br_tt | with_reducible apply br_ff | with_reducible apply br_nf | with_reducible apply br_nt | with_reducible refine br_d ?_ (by kernel_rfl) | with_reducible apply br_t h1 | with_reducible apply br_f h1); conv => lhs; whnf)
      exact ih n (i + 1) (IntKind.i64.wrap ((i : Int) + 1)) (by omega) (by omega) (by rw [wrap64 (by omega) (by omega)]; simp) (by omega)
theorem ev_lawDiagrams (b : List Int) (hp : b.length ≤ maxLen) : evF E_lawDiagrams (400) Tryz.f4 [.lst (.int .u8) b] [] = some (.bool true, []) := by
  conv => lhs; whnf
  conv => lhs; arg 1; whnf
  refine bnd_g (by exact True.intro) ?_
  conv => lhs; whnf
  refine br_c (fun g => ?_) (fun g => ?_)
  · conv => lhs; whnf
  · have hb : b.length ≤ 1048576 := by have := ofn g; omega
    have n0 := newC_ok hb
    have l3 := (bent3_ok n0).1
    have hcl := concF_len (bent3 b (newC b)).1 (bent3 b (newC b)).2.1
    have hdg := dgF_len (bent3 b (newC b)).1 (bent3 b (newC b)).2.1
    conv => lhs; whnf
    conv => lhs; arg 1; whnf
    refine bnd_g (by exact hb) ?_
    conv => lhs; whnf
    conv => lhs; arg 1; whnf
    refine bnd_g (by omega) ?_
    conv => lhs; whnf
    conv => lhs; arg 1; whnf
    refine bnd_g (by omega) ?_
    conv => lhs; whnf
    conv => lhs; arg 1; whnf
    refine bnd_g (by exact hb) ?_
    conv => lhs; whnf
    conv => lhs; arg 1; whnf
    refine bnd_g (by omega) ?_
    conv => lhs; whnf
    conv => lhs; arg 1; whnf
    refine bnd_g (by omega) ?_
    conv => lhs; whnf
    conv => lhs; arg 1; whnf
    refine bnd_g (by exact hb) ?_
    conv => lhs; whnf
    repeat ((first | with_reducible apply br_tt | with_reducible apply br_ff | with_reducible apply br_nf | with_reducible apply br_nt | with_reducible refine br_d ?_ (by kernel_rfl) | with_reducible refine br_f (by simp; done) ?_); conv => lhs; whnf)
    conv => lhs; arg 1; whnf
    refine bnd_g (by omega) ?_
    conv => lhs; whnf
    repeat ((first | with_reducible apply br_tt | with_reducible apply br_ff | with_reducible apply br_nf | with_reducible apply br_nt | with_reducible refine br_d ?_ (by kernel_rfl) | with_reducible refine br_f (by simp; done) ?_); conv => lhs; whnf)
    conv => lhs; arg 1; whnf
    refine bnd_g (by omega) ?_
    conv => lhs; whnf
    repeat ((first | with_reducible apply br_tt | with_reducible apply br_ff | with_reducible apply br_nf | with_reducible apply br_nt | with_reducible refine br_d ?_ (by kernel_rfl) | with_reducible refine br_f (by simp; done) ?_); conv => lhs; whnf)
    conv => lhs; arg 1; whnf
    refine bnd_g (by exact ⟨by omega, rfl⟩) ?_
    conv => lhs; whnf
    repeat ((first | with_reducible apply br_tt | with_reducible apply br_ff | with_reducible apply br_nf | with_reducible apply br_nt | with_reducible refine br_d ?_ (by kernel_rfl) | with_reducible refine br_f (by simp; done) ?_); conv => lhs; whnf)
    conv => lhs; arg 1; whnf
    refine bnd_g (by omega) ?_
    conv => lhs; whnf
    repeat ((first | with_reducible apply br_tt | with_reducible apply br_ff | with_reducible apply br_nf | with_reducible apply br_nt | with_reducible refine br_d ?_ (by kernel_rfl) | with_reducible refine br_f (by simp; done) ?_); conv => lhs; whnf)
    conv => lhs; arg 1; whnf
    refine bnd_g (by omega) ?_
    conv => lhs; whnf
    repeat ((first | with_reducible apply br_tt | with_reducible apply br_ff | with_reducible apply br_nf | with_reducible apply br_nt | with_reducible refine br_d ?_ (by kernel_rfl) | with_reducible refine br_f (by simp; done) ?_); conv => lhs; whnf)
    conv => lhs; arg 1; whnf
    refine bnd_g (by omega) ?_
    conv => lhs; whnf
    refine (lp_lawDiagrams (bent3 b (newC b)).1 (bent3 b (newC b)).2.1 l3 (two6a b (newC b)) _ _ (concF (bent3 b (newC b)).1 (bent3 b (newC b)).2.1).length _ 0 0 rfl (by omega) rfl (by change _ < 399; omega)).trans ?_
    conv => lhs; whnf
theorem ok_lawDiagrams : FnOk Tryz.prog 4 K_lawDiagrams := by
  refine fn_ok (fn := Tryz.f4) (k := Tryz.f4.ntmps) (E := E_lawDiagrams) (facts_of (List.forall_mem_cons.2 ⟨(FnOk.soft (fun h => False.elim h) ok_bigL), List.forall_mem_cons.2 ⟨(FnOk.soft (fun h => False.elim h) ok_drawSpotOf), List.forall_mem_cons.2 ⟨(FnOk.soft (fun h => False.elim h) ok_implSpotOf), List.forall_mem_cons.2 ⟨(FnOk.soft (fun h => False.elim h) ok_specSpotOf), List.forall_mem_cons.2 ⟨(FnOk.soft (fun h => False.elim h) ok_drawAttributeVector), List.forall_mem_cons.2 ⟨(FnOk.soft (fun h => False.elim h) ok_implAttributeVector), List.forall_mem_cons.2 ⟨(FnOk.soft (fun h => False.elim h) ok_specAttributeVector), List.forall_mem_cons.2 ⟨(FnOk.soft (fun h => False.elim h) ok_drawDiagramLines), List.forall_mem_cons.2 ⟨ok_sameTexts, List.forall_mem_cons.2 ⟨ok_implDiagramLines, List.forall_mem_cons.2 ⟨ok_specDiagramLines, List.forall_mem_cons.2 ⟨(FnOk.soft (fun h => False.elim h) ok_implHasCrowd), List.forall_mem_cons.2 ⟨(FnOk.soft (fun h => False.elim h) ok_specHasCrowd), List.forall_mem_cons.2 ⟨(FnOk.soft (fun h => False.elim h) ok_specConcepts), List.forall_mem_cons.2 ⟨(FnOk.soft (fun h => False.elim h) ok_specIsBelow), List.forall_mem_nil _⟩⟩⟩⟩⟩⟩⟩⟩⟩⟩⟩⟩⟩⟩⟩)) (by kernel_rfl) rfl (by decide +kernel) (by decide +kernel) ?_
  intro avs hin r h
  unfold K_lawDiagrams at h
  split at h
  · obtain ⟨hp, rfl⟩ := gd_o h
    exact ⟨_, ev_lawDiagrams _ hp, rfl⟩
  · cases h

end Go.Sym
