/- Functions of the program, each told as a plain equation. -/
import Derived.Test.YtdkcdkjdljflbaaDoorSymPC
namespace Go.Sym
open Go.Proofs
set_option linter.unusedVariables false
set_option linter.unusedSimpArgs false
set_option maxRecDepth 100000
set_option maxHeartbeats 4000000

/- laws.FnPatterns -/
def K_lawPatterns : List AV → List Ob → Option (AV × List Ob)
  | [.lst (.int .u8) b], [] => gd (b.length ≤ maxLen) (.bool true, [])
  | _, _ => none
@[reducible] def E_lawPatterns : Env := mkE (tb [(5, K_bigL), (6, K_drawHullOf), (7, K_implHullOf), (8, K_specHullOf), (9, K_drawFittingPoints), (10, K_implFittingPoints), (16, K_specFittingPoints), (11, K_drawIsWider), (17, K_implIsWider), (18, K_specIsWider), (12, K_drawPatternExtents), (13, K_implPatternExtents), (20, K_specPatternExtents), (14, K_drawPatternText), (21, K_implPatternText), (22, K_specPatternText), (15, K_samePattern), (19, K_sameInts), (23, K_implArePoints), (24, K_specArePoints), (25, K_specIsSubset), (26, K_hasIntL)]) (fun f => false) (fun r => bif r == 21 then ([15, 19], [2, 15, 19]) else bif r == 24 then ([15, 19, 20], [2, 15, 19]) else ([], []))
theorem lq_lawPatterns (ls : List Int) (hl : ls.length ≤ 256) (j : Nat) (hj : j < ls.length) (hh : ∀ s ∈ ls, ∀ t ∈ ls, ls.any (fun y => y == band s t) = true) (k : AX → S → Option (AV × List Ob)) (d : Nat) : ∀ (n i : Nat) (x : Int), j - i = d → i ≤ j → x = i → d < n →
    lpAt E_lawPatterns (lp E_lawPatterns 0 n) 0 (loopAt Tryd.f3 1) (mkS [15, 19, 20] [.own 0, .int .i64 (j : Int), .int .i64 x] [some (.row 3 (.int .i64) ls)]) k =
      k (.exit 2) (mkS [2, 15, 19] [.any, .own 0, .int .i64 (j : Int)] [some (.row 3 (.int .i64) ls)]) := by
  induction d with
  | zero =>
    intro n i x hd hi hx hn
    subst hx
    rw [lpAt_def]
    conv => lhs; whnf
    refine br_f (df (by omega)) ?_
    conv => lhs; whnf
  | succ d ih =>
    intro n i x hd hi hx hn
    obtain ⟨n, rfl⟩ : ∃ m, n = m + 1 := ⟨n - 1, by omega⟩
    subst hx
    have hv := hh _ (mem_getD (d := 0) hj) _ (mem_getD (d := 0) (show i < ls.length by omega))
    rw [lpAt_def]
    conv => lhs; whnf
    refine br_t (dt (by omega)) ?_
    conv => lhs; whnf
    repeat ((first | with_reducible apply br_tt | with_reducible apply br_ff | with_reducible apply br_nf | with_reducible apply br_nt | with_reducible refine br_d ?_ (by kernel_rfl) | with_reducible refine br_t (dt2 (by omega) (by omega)) ?_ | with_reducible refine br_t (dt (by omega)) ?_); conv => lhs; whnf)
    conv => lhs; arg 1; whnf
    refine bnd_g (by omega) ?_
    conv => lhs; whnf
    repeat ((first | with_reducible apply br_tt | with_reducible apply br_ff | with_reducible apply br_nf | with_reducible apply br_nt | with_reducible refine br_d ?_ (by kernel_rfl) | with_reducible refine br_t (dt2 (by omega) (by omega)) ?_ | with_reducible refine br_t (dt (by omega)) ?_); conv => lhs; whnf)
    refine br_f (by change (!ls.any (fun y => y == band (ls.getD j 0) (ls.getD i 0))) = false; rw [hv]; rfl) ?_
    conv => lhs; whnf
    exact ih n (i + 1) (IntKind.i64.wrap ((i : Int) + 1)) (by omega) (by omega) (by rw [wrap64 (by omega) (by omega)]; simp) (by omega)
theorem lp_lawPatterns (ls : List Int) (hl : ls.length ≤ 256) (hh : ∀ s ∈ ls, ∀ t ∈ ls, ls.any (fun y => y == band s t) = true) (k : AX → S → Option (AV × List Ob)) (d : Nat) : ∀ (n i : Nat) (x : Int), ls.length - i = d → i ≤ ls.length → x = i → d + 300 < n →
    lpAt E_lawPatterns (lp E_lawPatterns 0 n) 0 (loopAt Tryd.f3 0) (mkS [15, 19] [.own 0, .int .i64 x] [some (.row 3 (.int .i64) ls)]) k =
      k (.exit 0) (mkS [2, 15, 19] [.any, .own 0, .int .i64 (ls.length : Int)] [some (.row 3 (.int .i64) ls)]) := by
  induction d with
  | zero =>
    intro n i x hd hi hx hn
    subst hx
    rw [lpAt_def]
    conv => lhs; whnf
    refine br_f (df (by omega)) ?_
    conv => lhs; whnf
    have : i = ls.length := by omega
    rw [this]
  | succ d ih =>
    intro n i x hd hi hx hn
    obtain ⟨n, rfl⟩ : ∃ m, n = m + 1 := ⟨n - 1, by omega⟩
    subst hx
    rw [lpAt_def]
    conv => lhs; whnf
    refine br_t (dt (by omega)) ?_
    conv => lhs; whnf
    refine (lq_lawPatterns ls hl i (by omega) hh _ i _ 0 0 rfl (by omega) rfl (by omega)).trans ?_
    conv => lhs; whnf
    exact ih n (i + 1) (IntKind.i64.wrap ((i : Int) + 1)) (by omega) (by omega) (by rw [wrap64 (by omega) (by omega)]; simp) (by omega)
theorem ev_lawPatterns (b : List Int) (hp : b.length ≤ maxLen) : evF E_lawPatterns (700) Tryd.f3 [.lst (.int .u8) b] [] = some (.bool true, []) := by
  conv => lhs; whnf
  conv => lhs; arg 1; whnf
  refine bnd_g (by exact True.intro) ?_
  conv => lhs; whnf
  refine br_c (fun g => ?_) (fun g => ?_)
  · conv => lhs; whnf
  · have hb : b.length ≤ 1048576 := by have := ofn g; omega
    have hd := PH_ok hb
    have hlen := hd.1.1
    have hrows : ∀ r ∈ (PH b).1, r.length ≤ 1048576 := fun r hr => by have := (hd.1.2 r hr).1; omega
    have hm : (PH b).1.length ≤ 1048576 ∧ ∀ r ∈ (PH b).1, r.length ≤ 1048576 := ⟨by omega, hrows⟩
    have x1 := hullF_len (a := (PH b).1) (hullS b)
    have x2 := hullF_len (a := (PH b).1) (be b (PH b).2 (NP b))
    have x3 := hullF_len (a := (PH b).1) (be b (nx b (PH b).2) (NP b))
    have xa : (fitX b).1.length ≤ 3 := x2.1
    have xb : (fitX b).2.1.length ≤ 3 := x2.2
    have xc : (widY b).1.length ≤ 3 := x3.1
    have xd : (widY b).2.1.length ≤ 3 := x3.2
    have xe : (fitHi b).length ≤ 3 := by
      unfold fitHi
      cases (decide (((fitX b).1.length : Int) > 0) && (be b (nx b (PH b).2) 3 == 0))
      · exact xb
      · rw [cond_true, List.length_set]; exact xb
    have xf : (txtLo b).length ≤ 4 := by
      unfold txtLo
      cases (be b (newC b) 8 == 0)
      · rw [cond_false]; omega
      · rw [cond_true, List.length_append, List.length_singleton]; omega
    have hvals := hullF_vals (fun r hr => (hd.1.2 r hr).2) (be b (PH b).2 (NP b))
    have xg : rngB (txtLo b) = true := by
      refine rngB_small fun x hx => ?_
      unfold txtLo at hx
      cases hq : (be b (newC b) 8 == 0)
      · rw [hq, cond_false] at hx
        exact hvals.1 x hx
      · rw [hq, cond_true] at hx
        rcases List.mem_append.1 hx with hx | hx
        · exact hvals.1 x hx
        · rw [List.mem_singleton.1 hx]; omega
    have xh : rngB (fitX b).2.1 = true := rngB_small hvals.2
    have pl := patE_len (PH b).1
    conv => lhs; whnf
    conv => lhs; arg 1; whnf
    refine bnd_g (by exact hb) ?_
    conv => lhs; whnf
    conv => lhs; arg 1; whnf
    refine bnd_g (by exact hm) ?_
    conv => lhs; whnf
    conv => lhs; arg 1; whnf
    refine bnd_g (by exact hm) ?_
    conv => lhs; whnf
    conv => lhs; arg 1; whnf
    refine bnd_g (by exact hb) ?_
    conv => lhs; whnf
    conv => lhs; arg 1; whnf
    refine bnd_g (by exact ⟨hm, by omega, by omega⟩) ?_
    conv => lhs; whnf
    conv => lhs; arg 1; whnf
    refine bnd_g (by exact hb) ?_
    conv => lhs; whnf
    conv => lhs; arg 1; whnf
    refine bnd_g (by exact hb) ?_
    conv => lhs; whnf
    conv => lhs; arg 1; whnf
    refine bnd_g (by exact hm) ?_
    conv => lhs; whnf
    conv => lhs; arg 1; whnf
    refine bnd_g (by exact hb) ?_
    conv => lhs; whnf
    repeat ((first | with_reducible apply br_tt | with_reducible apply br_ff | with_reducible apply br_nf | with_reducible apply br_nt | with_reducible refine br_d ?_ (by kernel_rfl) | with_reducible refine br_f (by simp; done) ?_); conv => lhs; whnf)
    conv => lhs; arg 1; whnf
    refine bnd_g (by exact ⟨⟨by omega, by omega⟩, rfl, rfl⟩) ?_
    conv => lhs; whnf
    repeat ((first | with_reducible apply br_tt | with_reducible apply br_ff | with_reducible apply br_nf | with_reducible apply br_nt | with_reducible refine br_d ?_ (by kernel_rfl) | with_reducible refine br_f (by simp; done) ?_); conv => lhs; whnf)
    conv => lhs; arg 1; whnf
    refine bnd_g (by exact ⟨hm, by omega, by omega⟩) ?_
    conv => lhs; whnf
    repeat ((first | with_reducible apply br_tt | with_reducible apply br_ff | with_reducible apply br_nf | with_reducible apply br_nt | with_reducible refine br_d ?_ (by kernel_rfl) | with_reducible refine br_f (by simp; done) ?_); conv => lhs; whnf)
    conv => lhs; arg 1; whnf
    refine bnd_g (by exact ⟨by omega, by omega, by omega, by omega⟩) ?_
    conv => lhs; whnf
    repeat ((first | with_reducible apply br_tt | with_reducible apply br_ff | with_reducible apply br_nf | with_reducible apply br_nt | with_reducible refine br_d ?_ (by kernel_rfl) | with_reducible refine br_f (by simp; done) ?_); conv => lhs; whnf)
    conv => lhs; arg 1; whnf
    refine bnd_g (by exact ⟨by omega, by omega, by omega, by omega⟩) ?_
    conv => lhs; whnf
    repeat ((first | with_reducible apply br_tt | with_reducible apply br_ff | with_reducible apply br_nf | with_reducible apply br_nt | with_reducible refine br_d ?_ (by kernel_rfl) | with_reducible refine br_f (by simp; done) ?_); conv => lhs; whnf)
    conv => lhs; arg 1; whnf
    refine bnd_g (by exact hm) ?_
    conv => lhs; whnf
    repeat ((first | with_reducible apply br_tt | with_reducible apply br_ff | with_reducible apply br_nf | with_reducible apply br_nt | with_reducible refine br_d ?_ (by kernel_rfl) | with_reducible refine br_f (by simp; done) ?_); conv => lhs; whnf)
    conv => lhs; arg 1; whnf
    refine bnd_g (by exact ⟨by omega, by omega⟩) ?_
    conv => lhs; whnf
    repeat ((first | with_reducible apply br_tt | with_reducible apply br_ff | with_reducible apply br_nf | with_reducible apply br_nt | with_reducible refine br_d ?_ (by kernel_rfl) | with_reducible refine br_f (by simp; done) ?_); conv => lhs; whnf)
    conv => lhs; arg 1; whnf
    refine bnd_g (by exact ⟨⟨by omega, by omega⟩, xg, xh⟩) ?_
    conv => lhs; whnf
    repeat ((first | with_reducible apply br_tt | with_reducible apply br_ff | with_reducible apply br_nf | with_reducible apply br_nt | with_reducible refine br_d ?_ (by kernel_rfl) | with_reducible refine br_f (by simp; done) ?_); conv => lhs; whnf)
    conv => lhs; arg 1; whnf
    refine bnd_g (by exact ⟨⟨by omega, by omega⟩, xg, xh⟩) ?_
    conv => lhs; whnf
    repeat ((first | with_reducible apply br_tt | with_reducible apply br_ff | with_reducible apply br_nf | with_reducible apply br_nt | with_reducible refine br_d ?_ (by kernel_rfl) | with_reducible refine br_f (by simp; done) ?_); conv => lhs; whnf)
    conv => lhs; arg 1; whnf
    refine bnd_g (by exact hm) ?_
    conv => lhs; whnf
    repeat ((first | with_reducible apply br_tt | with_reducible apply br_ff | with_reducible apply br_nf | with_reducible apply br_nt | with_reducible refine br_d ?_ (by kernel_rfl) | with_reducible refine br_f (by simp; done) ?_); conv => lhs; whnf)
    conv => lhs; arg 1; whnf
    refine bnd_g (by exact hm) ?_
    conv => lhs; whnf
    refine br_f (by simp) ?_
    conv => lhs; whnf
    refine br_f (by simp) ?_
    conv => lhs; whnf
    refine br_t (by kernel_rfl) ?_
    conv => lhs; whnf
    refine br_f (by simp) ?_
    conv => lhs; whnf
    refine br_c (fun hok => ?_) (fun hok => ?_)
    · have hok1 := hullF_ok hok
      have s1 := hok1.1
      have s2 := hok1.2
      have hn1 : (!subB (hullS b) (fitF (PH b).1 (hullF (PH b).1 (hullS b)).1 (hullF (PH b).1 (hullS b)).2.1)) = false := by rw [s1]; rfl
      have hn2 : (!isWider (hullF (PH b).1 (hullS b)).1 (hullF (PH b).1 (hullS b)).2.1 (hullF (PH b).1 (hullS b)).1 (hullF (PH b).1 (hullS b)).2.1) = false := by rw [s2]; rfl
      conv => lhs; whnf
      repeat ((first | with_reducible apply br_tt | with_reducible apply br_ff | with_reducible apply br_nf | with_reducible apply br_nt | with_reducible refine br_d ?_ (by kernel_rfl) | with_reducible apply br_t hok | with_reducible apply br_f hok); conv => lhs; whnf)
      conv => lhs; arg 1; whnf
      refine bnd_g (by exact ⟨hm, by omega, by omega⟩) ?_
      conv => lhs; whnf
      repeat ((first | with_reducible apply br_tt | with_reducible apply br_ff | with_reducible apply br_nf | with_reducible apply br_nt | with_reducible refine br_d ?_ (by kernel_rfl) | with_reducible apply br_t hok | with_reducible apply br_f hok); conv => lhs; whnf)
      conv => lhs; arg 1; whnf
      refine bnd_g (by exact True.intro) ?_
      conv => lhs; whnf
      repeat ((first | with_reducible apply br_tt | with_reducible apply br_ff | with_reducible apply br_nf | with_reducible apply br_nt | with_reducible refine br_d ?_ (by kernel_rfl) | with_reducible apply br_t hok | with_reducible apply br_f hok | with_reducible apply br_t hn1 | with_reducible apply br_f hn1); conv => lhs; whnf)
      conv => lhs; arg 1; whnf
      refine bnd_g (by exact ⟨by omega, by omega, by omega, by omega⟩) ?_
      conv => lhs; whnf
      repeat ((first | with_reducible apply br_tt | with_reducible apply br_ff | with_reducible apply br_nf | with_reducible apply br_nt | with_reducible refine br_d ?_ (by kernel_rfl) | with_reducible apply br_t hok | with_reducible apply br_f hok | with_reducible apply br_t hn1 | with_reducible apply br_f hn1 | with_reducible apply br_t hn2 | with_reducible apply br_f hn2); conv => lhs; whnf)
      refine br_c (fun hf => ?_) (fun hf => ?_)
      · have hf' : (fitF (PH b).1 (fitX b).1 (fitHi b)) ≠ 0 := by
          intro e
          rw [e] at hf
          cases hf
        have q := hullF_fit hf'
        have q1 := q.1
        have q2 := q.2.1
        have q3 := q.2.2
        have xl := hullF_len (a := (PH b).1) (fitF (PH b).1 (fitX b).1 (fitHi b))
        have hn3 : (!(hullF (PH b).1 (fitF (PH b).1 (fitX b).1 (fitHi b))).2.2) = false := by rw [q1]; rfl
        have hn4 : (!isWider (fitX b).1 (fitHi b) (hullF (PH b).1 (fitF (PH b).1 (fitX b).1 (fitHi b))).1 (hullF (PH b).1 (fitF (PH b).1 (fitX b).1 (fitHi b))).2.1) = false := by rw [q2]; rfl
        have hn5 : (fitF (PH b).1 (hullF (PH b).1 (fitF (PH b).1 (fitX b).1 (fitHi b))).1 (hullF (PH b).1 (fitF (PH b).1 (fitX b).1 (fitHi b))).2.1 != (fitF (PH b).1 (fitX b).1 (fitHi b))) = false := by rw [q3]; exact bne_self_eq_false _
        conv => lhs; whnf
        conv => lhs; arg 1; whnf
        refine bnd_g (by exact hm) ?_
        conv => lhs; whnf
        repeat ((first | with_reducible apply br_tt | with_reducible apply br_ff | with_reducible apply br_nf | with_reducible apply br_nt | with_reducible refine br_d ?_ (by kernel_rfl) | with_reducible apply br_t hn3 | with_reducible apply br_f hn3); conv => lhs; whnf)
        conv => lhs; arg 1; whnf
        refine bnd_g (by exact ⟨by omega, by omega, by omega, by omega⟩) ?_
        conv => lhs; whnf
        repeat ((first | with_reducible apply br_tt | with_reducible apply br_ff | with_reducible apply br_nf | with_reducible apply br_nt | with_reducible refine br_d ?_ (by kernel_rfl) | with_reducible apply br_t hn3 | with_reducible apply br_f hn3 | with_reducible apply br_t hn4 | with_reducible apply br_f hn4); conv => lhs; whnf)
        conv => lhs; arg 1; whnf
        refine bnd_g (by exact ⟨hm, by omega, by omega⟩) ?_
        conv => lhs; whnf
        repeat ((first | with_reducible apply br_tt | with_reducible apply br_ff | with_reducible apply br_nf | with_reducible apply br_nt | with_reducible refine br_d ?_ (by kernel_rfl) | with_reducible apply br_t hn3 | with_reducible apply br_f hn3 | with_reducible apply br_t hn4 | with_reducible apply br_f hn4 | with_reducible apply br_t hn5 | with_reducible apply br_f hn5); conv => lhs; whnf)
        refine (lp_lawPatterns (patE (PH b).1) pl (fun s hs t ht => pat_meet hs ht) _ (patE (PH b).1).length _ 0 0 rfl (by omega) rfl (by change _ < 699; omega)).trans ?_
        conv => lhs; whnf
      · conv => lhs; whnf
        refine (lp_lawPatterns (patE (PH b).1) pl (fun s hs t ht => pat_meet hs ht) _ (patE (PH b).1).length _ 0 0 rfl (by omega) rfl (by change _ < 699; omega)).trans ?_
        conv => lhs; whnf
    · conv => lhs; whnf
      repeat ((first | with_reducible apply br_tt | with_reducible apply br_ff | with_reducible apply br_nf | with_reducible apply br_nt | with_reducible refine br_d ?_ (by kernel_rfl) | with_reducible apply br_t hok | with_reducible apply br_f hok); conv => lhs; whnf)
      refine br_c (fun hf => ?_) (fun hf => ?_)
      · have hf' : (fitF (PH b).1 (fitX b).1 (fitHi b)) ≠ 0 := by
          intro e
          rw [e] at hf
          cases hf
        have q := hullF_fit hf'
        have q1 := q.1
        have q2 := q.2.1
        have q3 := q.2.2
        have xl := hullF_len (a := (PH b).1) (fitF (PH b).1 (fitX b).1 (fitHi b))
        have hn3 : (!(hullF (PH b).1 (fitF (PH b).1 (fitX b).1 (fitHi b))).2.2) = false := by rw [q1]; rfl
        have hn4 : (!isWider (fitX b).1 (fitHi b) (hullF (PH b).1 (fitF (PH b).1 (fitX b).1 (fitHi b))).1 (hullF (PH b).1 (fitF (PH b).1 (fitX b).1 (fitHi b))).2.1) = false := by rw [q2]; rfl
        have hn5 : (fitF (PH b).1 (hullF (PH b).1 (fitF (PH b).1 (fitX b).1 (fitHi b))).1 (hullF (PH b).1 (fitF (PH b).1 (fitX b).1 (fitHi b))).2.1 != (fitF (PH b).1 (fitX b).1 (fitHi b))) = false := by rw [q3]; exact bne_self_eq_false _
        conv => lhs; whnf
        conv => lhs; arg 1; whnf
        refine bnd_g (by exact hm) ?_
        conv => lhs; whnf
        repeat ((first | with_reducible apply br_tt | with_reducible apply br_ff | with_reducible apply br_nf | with_reducible apply br_nt | with_reducible refine br_d ?_ (by kernel_rfl) | with_reducible apply br_t hn3 | with_reducible apply br_f hn3); conv => lhs; whnf)
        conv => lhs; arg 1; whnf
        refine bnd_g (by exact ⟨by omega, by omega, by omega, by omega⟩) ?_
        conv => lhs; whnf
        repeat ((first | with_reducible apply br_tt | with_reducible apply br_ff | with_reducible apply br_nf | with_reducible apply br_nt | with_reducible refine br_d ?_ (by kernel_rfl) | with_reducible apply br_t hn3 | with_reducible apply br_f hn3 | with_reducible apply br_t hn4 | with_reducible apply br_f hn4); conv => lhs; whnf)
        conv => lhs; arg 1; whnf
        refine bnd_g (by exact ⟨hm, by omega, by omega⟩) ?_
        conv => lhs; whnf
        repeat ((first | with_reducible apply br_tt | with_reducible apply br_ff | with_reducible apply br_nf | with_reducible apply br_nt | with_reducible refine br_d ?_ (by kernel_rfl) | with_reducible apply br_t hn3 | with_reducible apply br_f hn3 | with_reducible apply br_t hn4 | with_reducible apply br_f hn4 | with_reducible apply br_t hn5 | with_reducible apply br_f hn5); conv => lhs; whnf)
        refine (lp_lawPatterns (patE (PH b).1) pl (fun s hs t ht => pat_meet hs ht) _ (patE (PH b).1).length _ 0 0 rfl (by omega) rfl (by change _ < 699; omega)).trans ?_
        conv => lhs; whnf
      · conv => lhs; whnf
        refine (lp_lawPatterns (patE (PH b).1) pl (fun s hs t ht => pat_meet hs ht) _ (patE (PH b).1).length _ 0 0 rfl (by omega) rfl (by change _ < 699; omega)).trans ?_
        conv => lhs; whnf
theorem ok_lawPatterns : FnOk Tryd.prog 3 K_lawPatterns := by
  refine fn_ok (fn := Tryd.f3) (k := Tryd.f3.ntmps) (E := E_lawPatterns) (facts_of (List.forall_mem_cons.2 ⟨ok_bigL, List.forall_mem_cons.2 ⟨ok_drawHullOf, List.forall_mem_cons.2 ⟨ok_implHullOf, List.forall_mem_cons.2 ⟨ok_specHullOf, List.forall_mem_cons.2 ⟨ok_drawFittingPoints, List.forall_mem_cons.2 ⟨ok_implFittingPoints, List.forall_mem_cons.2 ⟨ok_specFittingPoints, List.forall_mem_cons.2 ⟨ok_drawIsWider, List.forall_mem_cons.2 ⟨ok_implIsWider, List.forall_mem_cons.2 ⟨ok_specIsWider, List.forall_mem_cons.2 ⟨ok_drawPatternExtents, List.forall_mem_cons.2 ⟨ok_implPatternExtents, List.forall_mem_cons.2 ⟨ok_specPatternExtents, List.forall_mem_cons.2 ⟨ok_drawPatternText, List.forall_mem_cons.2 ⟨ok_implPatternText, List.forall_mem_cons.2 ⟨ok_specPatternText, List.forall_mem_cons.2 ⟨ok_samePattern, List.forall_mem_cons.2 ⟨ok_sameInts, List.forall_mem_cons.2 ⟨ok_implArePoints, List.forall_mem_cons.2 ⟨ok_specArePoints, List.forall_mem_cons.2 ⟨ok_specIsSubset, List.forall_mem_cons.2 ⟨ok_hasIntL, List.forall_mem_nil _⟩⟩⟩⟩⟩⟩⟩⟩⟩⟩⟩⟩⟩⟩⟩⟩⟩⟩⟩⟩⟩⟩)) (by kernel_rfl) rfl (by decide +kernel) (by decide +kernel) ?_
  intro avs hin r h
  unfold K_lawPatterns at h
  split at h
  · obtain ⟨hp, rfl⟩ := gd_o h
    exact ⟨_, ev_lawPatterns _ hp, rfl⟩
  · cases h

end Go.Sym
