/- Functions of the program, each told as a plain equation. -/
import Derived.Test.YtiihfodcocihjaaDoorSymFStabilityOf
namespace Go.Sym
open Go.Proofs
set_option linter.unusedVariables false
set_option linter.unusedSimpArgs false
set_option maxRecDepth 100000
set_option maxHeartbeats 4000000

def posI (ys : List Int) (x : Int) : Nat → Nat
  | 0 => 0
  | p + 1 => bif decide (ys.getD p 0 > x) then posI ys x p else p + 1
def insI (ys : List Int) (x : Int) : List Int := ys.take (posI ys x ys.length) ++ x :: ys.drop (posI ys x ys.length)
def sortS : List Int → List Int → List Int
  | [], acc => acc
  | x :: r, acc => sortS r (insI acc x)
theorem posI_le (ys : List Int) (x : Int) : ∀ p, posI ys x p ≤ p
  | 0 => Nat.le_refl 0
  | p + 1 => by
    have := posI_le ys x p
    rw [posI]
    cases decide (ys.getD p 0 > x)
    · exact Nat.le_refl _
    · rw [cond_true]; omega
theorem posI_gt (ys : List Int) (x : Int) : ∀ p j, posI ys x p ≤ j → j < p → ys.getD j 0 > x
  | 0, j, _, h => by omega
  | p + 1, j, h1, h2 => by
    rw [posI] at h1
    cases hd : decide (ys.getD p 0 > x)
    · rw [hd, cond_false] at h1; omega
    · rw [hd, cond_true] at h1
      rcases Nat.lt_or_ge j p with h3 | h3
      · exact posI_gt ys x p j h1 h3
      · have : j = p := by omega
        subst this
        exact of_decide_eq_true hd
theorem posI_last (ys : List Int) (x : Int) : ∀ p, 0 < posI ys x p → ys.getD (posI ys x p - 1) 0 ≤ x
  | 0, h => by simp [posI] at h
  | p + 1, h => by
    rw [posI] at h ⊢
    cases hd : decide (ys.getD p 0 > x)
    · rw [cond_false, Nat.add_sub_cancel]
      have := of_decide_eq_false hd
      omega
    · rw [hd, cond_true] at h
      rw [cond_true]
      exact posI_last ys x p h
theorem insI_perm (ys : List Int) (x : Int) : (insI ys x).Perm (x :: ys) := by
  unfold insI
  refine List.perm_middle.trans ?_
  rw [List.take_append_drop]
theorem insI_sorted {ys : List Int} (h : ys.Pairwise (· ≤ ·)) (x : Int) : (insI ys x).Pairwise (· ≤ ·) := by
  have hp := posI_le ys x ys.length
  have hg := posI_gt ys x ys.length
  have hl := posI_last ys x ys.length
  unfold insI
  generalize posI ys x ys.length = p at hp hg hl
  rw [List.pairwise_append]
  have hle : ∀ a ∈ ys.take p, a ≤ x := by
    intro a ha
    obtain ⟨i, hi, rfl⟩ := List.mem_iff_getElem.1 ha
    rw [List.length_take] at hi
    have h0 := hl (by omega)
    rw [List.getElem_take]
    have e : ys.getD (p - 1) 0 = ys[p - 1] := by simp [List.getD, show p - 1 < ys.length by omega]
    rw [e] at h0
    rcases Nat.lt_or_ge i (p - 1) with h3 | h3
    · exact Int.le_trans (List.pairwise_iff_getElem.1 h i (p - 1) (by omega) (by omega) h3) h0
    · have : i = p - 1 := by omega
      subst this; exact h0
  have hge : ∀ b ∈ ys.drop p, x ≤ b := by
    intro b hb
    obtain ⟨i, hi, rfl⟩ := List.mem_iff_getElem.1 hb
    rw [List.length_drop] at hi
    have := hg (p + i) (by omega) (by omega)
    rw [List.getElem_drop]
    have e : ys.getD (p + i) 0 = ys[p + i] := by simp [List.getD, show p + i < ys.length by omega]
    omega
  refine ⟨h.sublist (List.take_sublist _ _), ?_, ?_⟩
  · rw [List.pairwise_cons]
    exact ⟨hge, h.sublist (List.drop_sublist _ _)⟩
  · intro a ha b hb
    rcases List.mem_cons.1 hb with rfl | hb
    · exact hle a ha
    · exact Int.le_trans (hle a ha) (hge b hb)
theorem sortS_sorted : ∀ (ys acc : List Int), acc.Pairwise (· ≤ ·) → (sortS ys acc).Pairwise (· ≤ ·) ∧ (sortS ys acc).Perm (ys ++ acc)
  | [], acc, h => ⟨h, List.Perm.refl _⟩
  | x :: r, acc, h => by
    obtain ⟨h1, h2⟩ := sortS_sorted r (insI acc x) (insI_sorted h x)
    refine ⟨h1, h2.trans ?_⟩
    refine ((insI_perm acc x).append_left r).trans ?_
    rw [List.cons_append]
    exact List.perm_middle
theorem sortS_eq (ys : List Int) : sortS ys [] = sortI ys := by
  obtain ⟨h1, h2⟩ := sortS_sorted ys [] List.Pairwise.nil
  rw [List.append_nil] at h2
  have h3 : (sortI ys).Pairwise (fun a b => decide (a ≤ b) = true) := List.pairwise_mergeSort (fun a b c h g => by simp at *; omega) (fun a b => by simp; omega) ys
  have h3 : (sortI ys).Pairwise (· ≤ ·) := h3.imp fun h => of_decide_eq_true h
  exact List.Perm.eq_of_pairwise (le := (· ≤ ·)) (fun a b _ _ h g => Int.le_antisymm h g) h1 h3 (h2.trans (List.mergeSort_perm ys _).symm)
theorem sortS_len (ys acc : List Int) (h : acc.Pairwise (· ≤ ·)) : (sortS ys acc).length = ys.length + acc.length := by
  rw [(sortS_sorted ys acc h).2.length_eq, List.length_append]
theorem insI_len (ys : List Int) (x : Int) : (insI ys x).length = ys.length + 1 := by
  rw [(insI_perm ys x).length_eq, List.length_cons]
def undB (l : List (Int × Int)) (x a : Nat) : Bool := band (l.getD x (0, 0)).1 (l.getD a (0, 0)).1 == (l.getD x (0, 0)).1
def blwB (l : List (Int × Int)) (x a : Nat) : Bool := bnot (l.getD x (0, 0)).1 (l.getD a (0, 0)).1 == 0
def markR (f g : Nat → Bool) : Nat → Nat → Int → Int
  | 0, _, q => q
  | d + 1, i, q => markR f g d (i + 1) (q + 100 * (bif f i then 1 else 0) + (bif g i then 1 else 0))
theorem sumB_add (f : Nat → Bool) : ∀ (d i : Nat) (q : Int), sumB f d i q = q + sumB f d i 0
  | 0, i, q => by simp [sumB]
  | d + 1, i, q => by
    rw [sumB, sumB, sumB_add f d (i + 1) (q + bif f i then 1 else 0), sumB_add f d (i + 1) (0 + bif f i then 1 else 0)]
    omega
theorem markR_eq (f g : Nat → Bool) : ∀ (d i : Nat) (q : Int), markR f g d i q = q + 100 * sumB f d i 0 + sumB g d i 0
  | 0, i, q => by simp [markR, sumB]
  | d + 1, i, q => by
    rw [markR, markR_eq f g d (i + 1), sumB, sumB, sumB_add f d (i + 1) (0 + bif f i then 1 else 0), sumB_add g d (i + 1) (0 + bif g i then 1 else 0)]
    omega
def markAt (l : List (Int × Int)) (a : Nat) : Int := 100 * sumB (fun x => undB l x a) l.length 0 0 + sumB (fun x => undB l a x) l.length 0 0
def marksL (l : List (Int × Int)) : Nat → Nat → List Int
  | 0, _ => []
  | d + 1, a => markAt l a :: marksL l d (a + 1)
theorem marksL_len (l : List (Int × Int)) : ∀ (d a : Nat), (marksL l d a).length = d
  | 0, _ => rfl
  | d + 1, a => by rw [marksL, List.length_cons, marksL_len l d]
def chsF (f : Nat → Bool) : Nat → Nat → List Int
  | 0, _ => []
  | d + 1, i => bif f i then (i : Int) :: chsF f d (i + 1) else chsF f d (i + 1)
theorem chsF_len (f : Nat → Bool) : ∀ (d i : Nat), ((chsF f d i).length : Int) = sumB f d i 0
  | 0, i => rfl
  | d + 1, i => by
    have := chsF_len f d (i + 1)
    rw [chsF, sumB, sumB_add f d (i + 1)]
    cases f i
    · rw [cond_false, cond_false, this]; omega
    · rw [cond_true, cond_true, List.length_cons]; push_cast; omega
theorem chsF_le (f : Nat → Bool) : ∀ (d i : Nat), (chsF f d i).length ≤ d
  | 0, i => Nat.le_refl 0
  | d + 1, i => by
    have := chsF_le f d (i + 1)
    rw [chsF]
    cases f i
    · rw [cond_false]; omega
    · rw [cond_true, List.length_cons]; omega
def extsB (l : List (Int × Int)) : Bool := l.all (fun p => isSet 8 p.1)
theorem blw_und {l : List (Int × Int)} (h : extsB l = true) {x : Nat} (hx : x < l.length) (a : Nat) : blwB l x a = undB l x a := by
  unfold blwB undB
  have hs : isSet 8 (l.getD x (0, 0)).1 = true := List.all_eq_true.1 h _ (mem_getD hx)
  have hl := isSet_le hs
  have hn : (l.getD x (0, 0)).1 = (((l.getD x (0, 0)).1.toNat : Nat) : Int) := by omega
  rw [hn]
  exact bnot_sub (by omega)
def profF (m : Int) (b : List Int) : List Int := bif decide ((concF m b).length > 24) then [] else sortI (marksL (concF m b) (concF m b).length 0)
theorem profF_len (m : Int) (b : List Int) : (profF m b).length ≤ 64 := by
  have h := concF_len m b
  unfold profF
  cases decide ((concF m b).length > 24)
  · rw [cond_false, sortI_len, marksL_len]; exact h
  · exact Nat.zero_le _
theorem conc_exts (m : Int) (b : List Int) : extsB (concF m b) = true := by
  unfold extsB
  rw [List.all_eq_true]
  intro p hp
  obtain ⟨h1, h2, h3, h4, h5⟩ := concF_mem hp
  have := isSet_le h3
  rw [isSet8]
  exact dt ⟨by omega, by omega⟩
/- spec.l6Under -/
def K_l6Under : List AV → List Ob → Option (AV × List Ob)
  | [.agg [.int .i64 p, .int .i64 q], .agg [.int .i64 x, .int .i64 y]], [] => gd (True) (.bool (band p x == p), [])
  | _, _ => none
@[reducible] def E_l6Under : Env := mkE (tb []) (fun f => false) (fun r => ([], []))
theorem ev_l6Under (p q : Int) (x y : Int) (hp : True) : evF E_l6Under (1) Tryd.f159 [.agg [.int .i64 p, .int .i64 q], .agg [.int .i64 x, .int .i64 y]] [] = some (.bool (band p x == p), []) := by
  conv => lhs; whnf
  rfl
theorem ok_l6Under : FnOk Tryd.prog 159 K_l6Under := by
  refine fn_ok (fn := Tryd.f159) (k := Tryd.f159.ntmps) (E := E_l6Under) (facts_of (List.forall_mem_nil _)) (by kernel_rfl) rfl (by decide +kernel) (by decide +kernel) ?_
  intro avs hin r h
  unfold K_l6Under at h
  split at h
  · obtain ⟨hp, rfl⟩ := gd_o h
    exact ⟨_, ev_l6Under _ _ _ _ hp, rfl⟩
  · cases h

/- spec.l23Marks -/
def K_l23Marks : List AV → List Ob → Option (AV × List Ob)
  | [.lst (.pair (.int .i64) (.int .i64)) l], [] => gd (l.length ≤ 64) (.own 0, [.row 3 (.int .i64) (marksL l l.length 0)])
  | _, _ => none
@[reducible] def E_l23Marks : Env := mkE (tb [(159, K_l6Under), (90, K_l1Bit)]) (fun f => false) (fun r => bif r == 3 then ([0, 3, 4], [0, 3, 4, 5]) else bif r == 7 then ([0, 3, 4, 5, 6], [0, 3, 4, 5]) else ([], []))
theorem lq_l23Marks (l : List (Int × Int)) (hl : l.length ≤ 64) (a : Nat) (ha : a < l.length) (zs : List Int) (k : AX → S → Option (AV × List Ob)) (d : Nat) : ∀ (n i : Nat) (x q : Int), l.length - i = d → i ≤ l.length → x = i → d < n → 0 ≤ q → q ≤ 101 * i →
    lpAt E_l23Marks (lp E_l23Marks 0 n) 0 (loopAt Tryd.f114 1) (mkS [0, 3, 4, 5, 6] [.lst (.pair (.int .i64) (.int .i64)) l, .own 0, .int .i64 (a : Int), .int .i64 q, .int .i64 x] [some (.row 3 (.int .i64) zs)]) k =
      k (.exit 2) (mkS [0, 3, 4, 5] [.lst (.pair (.int .i64) (.int .i64)) l, .own 0, .int .i64 (a : Int), .int .i64 (markR (fun x => undB l x a) (fun x => undB l a x) d i q)] [some (.row 3 (.int .i64) zs)]) := by
  induction d with
  | zero =>
    intro n i x q hd hi hx hn hq hq'
    subst hx
    rw [lpAt_def]
    conv => lhs; whnf
    refine br_f (df (by omega)) ?_
    conv => lhs; whnf
    rfl
  | succ d ih =>
    intro n i x q hd hi hx hn hq hq'
    obtain ⟨n, rfl⟩ : ∃ m, n = m + 1 := ⟨n - 1, by omega⟩
    subst hx
    have hb : ∀ y z : Bool, IntKind.i64.wrap (IntKind.i64.wrap (q + IntKind.i64.wrap (100 * (bif y then 1 else 0))) + (bif z then 1 else 0)) = q + 100 * (bif y then 1 else 0) + (bif z then 1 else 0) ∧ 0 ≤ q + 100 * (bif y then 1 else 0) + (bif z then 1 else 0) ∧ q + 100 * (bif y then 1 else 0) + (bif z then 1 else 0) ≤ 101 * ((i + 1 : Nat) : Int) := by
      intro y z
      have h1 : (0 : Int) ≤ bif y then 1 else 0 := by cases y <;> decide
      have h2 : (bif y then 1 else 0 : Int) ≤ 1 := by cases y <;> decide
      have h3 : (0 : Int) ≤ bif z then 1 else 0 := by cases z <;> decide
      have h4 : (bif z then 1 else 0 : Int) ≤ 1 := by cases z <;> decide
      generalize (bif y then 1 else 0 : Int) = u at *
      generalize (bif z then 1 else 0 : Int) = v at *
      rw [wrap64 (n := 100 * u) (by omega) (by omega), wrap64 (n := q + 100 * u) (by omega) (by omega), wrap64 (by omega) (by omega)]
      exact ⟨rfl, by omega, by push_cast; omega⟩
    rw [lpAt_def]
    conv => lhs; whnf
    refine br_t (dt (by omega)) ?_
    conv => lhs; whnf
    refine br_t (dt2 (by omega) (by omega)) ?_
    conv => lhs; whnf
    refine br_t (dt2 (by omega) (by omega)) ?_
    conv => lhs; whnf
    conv => lhs; arg 1; whnf
    refine bnd_g (by exact True.intro) ?_
    conv => lhs; whnf
    conv => lhs; arg 1; whnf
    refine bnd_g (by exact True.intro) ?_
    conv => lhs; whnf
    refine br_t (dt2 (by omega) (by omega)) ?_
    conv => lhs; whnf
    refine br_t (dt2 (by omega) (by omega)) ?_
    conv => lhs; whnf
    conv => lhs; arg 1; whnf
    refine bnd_g (by exact True.intro) ?_
    conv => lhs; whnf
    conv => lhs; arg 1; whnf
    refine bnd_g (by exact True.intro) ?_
    conv => lhs; whnf
    repeat ((first | with_reducible apply br_tt | with_reducible apply br_ff | with_reducible apply br_nf | with_reducible apply br_nt | with_reducible refine br_d ?_ (by kernel_rfl)); conv => lhs; whnf)
    have e := hb (undB l i a) (undB l a i)
    refine Eq.trans (ih n (i + 1) _ _ (by omega) (by omega) (by rw [wrap64 (n := (i : Int) + 1) (by omega) (by omega)]; simp) (by omega) (by have h1 := e.2.1; rw [← e.1] at h1; exact h1) (by have h1 := e.2.2; rw [← e.1] at h1; exact h1)) ?_
    have e2 : markR (fun x => undB l x a) (fun x => undB l a x) (d + 1) i q = markR (fun x => undB l x a) (fun x => undB l a x) d (i + 1) (IntKind.i64.wrap (IntKind.i64.wrap (q + IntKind.i64.wrap (100 * (bif undB l i a then 1 else 0))) + (bif undB l a i then 1 else 0))) := by rw [markR, e.1]
    rw [e2]
    rfl

theorem lp_l23Marks (l : List (Int × Int)) (hl : l.length ≤ 64) (k : AX → S → Option (AV × List Ob)) (d : Nat) : ∀ (n i : Nat) (x : Int) (zs : List Int), l.length - i = d → i ≤ l.length → x = i → d + 70 < n → zs.length ≤ i →
    lpAt E_l23Marks (lp E_l23Marks 0 n) 0 (loopAt Tryd.f114 0) (mkS [0, 3, 4] [.lst (.pair (.int .i64) (.int .i64)) l, .own 0, .int .i64 x] [some (.row 3 (.int .i64) zs)]) k =
      k (.exit 0) (mkS [0, 3, 4, 5] [.lst (.pair (.int .i64) (.int .i64)) l, .own 0, .int .i64 l.length, .any] [some (.row 3 (.int .i64) (zs ++ marksL l d i))]) := by
  induction d with
  | zero =>
    intro n i x zs hd hi hx hn hz
    subst hx
    rw [lpAt_def]
    conv => lhs; whnf
    refine br_f (df (by omega)) ?_
    conv => lhs; whnf
    have : i = l.length := by omega
    rw [this, marksL, List.append_nil]
  | succ d ih =>
    intro n i x zs hd hi hx hn hz
    obtain ⟨n, rfl⟩ : ∃ m, n = m + 1 := ⟨n - 1, by omega⟩
    subst hx
    rw [lpAt_def]
    conv => lhs; whnf
    refine br_t (dt (by omega)) ?_
    conv => lhs; whnf
    refine (lq_l23Marks l hl i (by omega) zs _ l.length _ 0 0 0 rfl (Nat.zero_le _) rfl (by omega) (by omega) (by omega)).trans ?_
    conv => lhs; whnf
    refine br_t (dt (by simp [room]; omega)) ?_
    conv => lhs; whnf
    refine Eq.trans (ih n (i + 1) _ _ (by omega) (by omega) (by rw [wrap64 (n := (i : Int) + 1) (by omega) (by omega)]; simp) (by omega) (by simp; omega)) ?_
    have e : markR (fun x => undB l x i) (fun x => undB l i x) l.length 0 0 = markAt l i := by
      rw [markR_eq]
      unfold markAt
      omega
    rw [e, marksL]
    simp only [List.append_assoc]
    rfl
theorem ev_l23Marks (l : List (Int × Int)) (hp : l.length ≤ 64) : evF E_l23Marks (200) Tryd.f114 [.lst (.pair (.int .i64) (.int .i64)) l] [] = some (.own 0, [.row 3 (.int .i64) (marksL l l.length 0)]) := by
  conv => lhs; whnf
  refine (lp_l23Marks l hp _ l.length _ 0 0 [] rfl (Nat.zero_le _) rfl (by change _ < 199; omega) (Nat.le_refl _)).trans ?_
  conv => lhs; whnf
  rfl
theorem ok_l23Marks : FnOk Tryd.prog 114 K_l23Marks := by
  refine fn_ok (fn := Tryd.f114) (k := Tryd.f114.ntmps) (E := E_l23Marks) (facts_of (List.forall_mem_cons.2 ⟨ok_l6Under, List.forall_mem_cons.2 ⟨ok_l1Bit, List.forall_mem_nil _⟩⟩)) (by kernel_rfl) rfl (by decide +kernel) (by decide +kernel) ?_
  intro avs hin r h
  unfold K_l23Marks at h
  split at h
  · obtain ⟨hp, rfl⟩ := gd_o h
    exact ⟨_, ev_l23Marks _ hp, rfl⟩
  · cases h

/- spec.l23Sorted -/
def K_l23Sorted : List AV → List Ob → Option (AV × List Ob)
  | [.lst (.int .i64) l], [] => gd (l.length ≤ 64) (.own 0, [.row 3 (.int .i64) (sortI l)])
  | _, _ => none
@[reducible] def E_l23Sorted : Env := mkE (tb []) (fun f => false) (fun r => bif r == 3 then ([0, 3, 4], [0, 3, 4, 5]) else bif r == 6 then ([0, 3, 4, 5], [0, 3, 4, 5]) else ([], []))
theorem lq_l23Sorted (l : List Int) (hl : l.length ≤ 64) (a : Nat) (ha : a < l.length) (zs : List Int) (hz : zs.length ≤ 64) (k : AX → S → Option (AV × List Ob)) (p : Nat) : ∀ (n : Nat) (x : Int), p ≤ zs.length → x = p → p < n →
    lpAt E_l23Sorted (lp E_l23Sorted 0 n) 0 (loopAt Tryd.f113 1) (mkS [0, 3, 4, 5] [.lst (.int .i64) l, .own 0, .int .i64 (a : Int), .int .i64 x] [some (.row 3 (.int .i64) zs)]) k =
      k (.exit 2) (mkS [0, 3, 4, 5] [.lst (.int .i64) l, .own 0, .int .i64 (a : Int), .int .i64 (posI zs (l.getD a 0) p : Nat)] [some (.row 3 (.int .i64) zs)]) := by
  induction p with
  | zero =>
    intro n x hp hx hn
    obtain ⟨n, rfl⟩ : ∃ m, n = m + 1 := ⟨n - 1, by omega⟩
    subst hx
    rw [lpAt_def]
    conv => lhs; whnf
    refine br_c (fun h => ?_) (fun h => ?_)
    · exact absurd (ofd h) (by omega)
    · conv => lhs; whnf
      repeat ((first | with_reducible apply br_tt | with_reducible apply br_ff | with_reducible apply br_nf | with_reducible apply br_nt | with_reducible refine br_d ?_ (by kernel_rfl) | with_reducible apply br_t h | with_reducible apply br_f h | with_reducible refine br_t (dt2 (by omega) (by omega)) ?_ | with_reducible refine br_t (dt (by omega)) ?_); conv => lhs; whnf)
      rfl
  | succ p ih =>
    intro n x hp hx hn
    obtain ⟨n, rfl⟩ : ∃ m, n = m + 1 := ⟨n - 1, by omega⟩
    subst hx
    have hw : IntKind.i64.wrap (((p + 1 : Nat) : Int) - 1) = (p : Int) := by rw [wrap64 (by omega) (by omega)]; omega
    rw [lpAt_def]
    conv => lhs; whnf
    refine br_c (fun h => ?_) (fun h => ?_)
    · conv => lhs; whnf
      repeat ((first | with_reducible apply br_tt | with_reducible apply br_ff | with_reducible apply br_nf | with_reducible apply br_nt | with_reducible refine br_d ?_ (by kernel_rfl) | with_reducible apply br_t h | with_reducible apply br_f h | with_reducible refine br_t (dt2 (by omega) (by omega)) ?_ | with_reducible refine br_t (dt (by omega)) ?_); conv => lhs; whnf)
      rw [hw]
      repeat ((first | with_reducible apply br_tt | with_reducible apply br_ff | with_reducible apply br_nf | with_reducible apply br_nt | with_reducible refine br_d ?_ (by kernel_rfl) | with_reducible apply br_t h | with_reducible apply br_f h | with_reducible refine br_t (dt2 (by omega) (by omega)) ?_ | with_reducible refine br_t (dt (by omega)) ?_); conv => lhs; whnf)
      refine br_c (fun h2 => ?_) (fun h2 => ?_)
      · have h2' : decide (zs.getD p 0 > l.getD a 0) = true := h2
        conv => lhs; whnf
        refine Eq.trans (ih n _ (by omega) hw (by omega)) ?_
        rw [posI, h2', cond_true]
      · have h2' : decide (zs.getD p 0 > l.getD a 0) = false := h2
        conv => lhs; whnf
        rw [posI, h2', cond_false]
    · exact absurd (ofn h) (by omega)

theorem lp_l23Sorted (l : List Int) (hl : l.length ≤ 64) (k : AX → S → Option (AV × List Ob)) (d : Nat) : ∀ (n i : Nat) (x : Int) (zs : List Int), l.length - i = d → i ≤ l.length → x = i → d + 70 < n → zs.length ≤ i →
    lpAt E_l23Sorted (lp E_l23Sorted 0 n) 0 (loopAt Tryd.f113 0) (mkS [0, 3, 4] [.lst (.int .i64) l, .own 0, .int .i64 x] [some (.row 3 (.int .i64) zs)]) k =
      k (.exit 0) (mkS [0, 3, 4, 5] [.lst (.int .i64) l, .own 0, .int .i64 l.length, .any] [some (.row 3 (.int .i64) (sortS (l.drop i) zs))]) := by
  induction d with
  | zero =>
    intro n i x zs hd hi hx hn hz
    subst hx
    rw [lpAt_def]
    conv => lhs; whnf
    refine br_f (df (by omega)) ?_
    conv => lhs; whnf
    have : i = l.length := by omega
    rw [List.drop_of_length_le (by omega), this, sortS]
  | succ d ih =>
    intro n i x zs hd hi hx hn hz
    obtain ⟨n, rfl⟩ : ∃ m, n = m + 1 := ⟨n - 1, by omega⟩
    subst hx
    have hpl := posI_le zs (l.getD i 0) zs.length
    rw [lpAt_def]
    conv => lhs; whnf
    refine br_t (dt (by omega)) ?_
    conv => lhs; whnf
    refine (lq_l23Sorted l hl i (by omega) zs (by omega) _ zs.length _ _ (Nat.le_refl _) rfl (by omega)).trans ?_
    conv => lhs; whnf
    refine br_t (dt2 (by omega) (by omega)) ?_
    conv => lhs; whnf
    refine br_t (dt (by simp [room]; omega)) ?_
    conv => lhs; whnf
    refine br_t (dt2 (by omega) (by omega)) ?_
    conv => lhs; whnf
    refine br_t (dt2 (by omega) (by omega)) ?_
    conv => lhs; whnf
    refine br_t (dt (by simp [room]; omega)) ?_
    conv => lhs; whnf
    refine br_t (dt (by simp [room]; omega)) ?_
    conv => lhs; whnf
    repeat ((first | with_reducible apply br_tt | with_reducible apply br_ff | with_reducible apply br_nf | with_reducible apply br_nt | with_reducible refine br_d ?_ (by kernel_rfl)); conv => lhs; whnf)
    have e : (zs.take (posI zs (l.getD i 0) zs.length) ++ [l.getD i 0]) ++ zs.drop (posI zs (l.getD i 0) zs.length) = insI zs (l.getD i 0) := by
      unfold insI
      rw [List.append_assoc]
      rfl
    refine Eq.trans (ih n (i + 1) _ _ (by omega) (by omega) (by rw [wrap64 (n := (i : Int) + 1) (by omega) (by omega)]; simp) (by omega) (show ((zs.take (posI zs (l.getD i 0) zs.length) ++ [l.getD i 0]) ++ zs.drop (posI zs (l.getD i 0) zs.length)).length ≤ i + 1 by rw [e, insI_len]; omega)) ?_
    rw [getD_drop (l := l) (i := i) (d := 0) (by omega), sortS, ← e]
    rfl
theorem ev_l23Sorted (l : List Int) (hp : l.length ≤ 64) : evF E_l23Sorted (200) Tryd.f113 [.lst (.int .i64) l] [] = some (.own 0, [.row 3 (.int .i64) (sortI l)]) := by
  conv => lhs; whnf
  refine (lp_l23Sorted l hp _ l.length _ 0 0 [] rfl (Nat.zero_le _) rfl (by change _ < 199; omega) (Nat.le_refl _)).trans ?_
  rw [List.drop_zero, sortS_eq]
  conv => lhs; whnf
theorem ok_l23Sorted : FnOk Tryd.prog 113 K_l23Sorted := by
  refine fn_ok (fn := Tryd.f113) (k := Tryd.f113.ntmps) (E := E_l23Sorted) (facts_of (List.forall_mem_nil _)) (by kernel_rfl) rfl (by decide +kernel) (by decide +kernel) ?_
  intro avs hin r h
  unfold K_l23Sorted at h
  split at h
  · obtain ⟨hp, rfl⟩ := gd_o h
    exact ⟨_, ev_l23Sorted _ hp, rfl⟩
  · cases h

/- spec.ProfileOf -/
def K_specProfileOf : List AV → List Ob → Option (AV × List Ob)
  | [.agg [.int .i64 m, .lst (.int .i64) b]], [] => gd (b.length ≤ 1048576) (.own 0, [.row 3 (.int .i64) (profF m b)])
  | _, _ => none
@[reducible] def E_specProfileOf : Env := mkE (tb [(74, K_specConcepts), (114, K_l23Marks), (113, K_l23Sorted)]) (fun f => false) (fun r => ([], []))
theorem ev_specProfileOf (m : Int) (b : List Int) (hp : b.length ≤ 1048576) : evF E_specProfileOf (1) Tryd.f61 [.agg [.int .i64 m, .lst (.int .i64) b]] [] = some (.own 0, [.row 3 (.int .i64) (profF m b)]) := by
  have hl := concF_len m b
  have hm := marksL_len (concF m b) (concF m b).length 0
  conv => lhs; whnf
  conv => lhs; arg 1; whnf
  refine bnd_g (by exact hp) ?_
  conv => lhs; whnf
  refine br_c (fun h => ?_) (fun h => ?_)
  · have h' := ofd h
    conv => lhs; whnf
    unfold profF
    rw [dt (show (concF m b).length > 24 by omega)]
    rfl
  · have h' := ofn h
    conv => lhs; whnf
    conv => lhs; arg 1; whnf
    refine bnd_g (by exact hl) ?_
    conv => lhs; whnf
    conv => lhs; arg 1; whnf
    refine bnd_g (by omega) ?_
    conv => lhs; whnf
    unfold profF
    rw [df (show ¬ (concF m b).length > 24 by omega)]
    rfl
theorem ok_specProfileOf : FnOk Tryd.prog 61 K_specProfileOf := by
  refine fn_ok (fn := Tryd.f61) (k := Tryd.f61.ntmps) (E := E_specProfileOf) (facts_of (List.forall_mem_cons.2 ⟨ok_specConcepts, List.forall_mem_cons.2 ⟨ok_l23Marks, List.forall_mem_cons.2 ⟨ok_l23Sorted, List.forall_mem_nil _⟩⟩⟩)) (by kernel_rfl) rfl (by decide +kernel) (by decide +kernel) ?_
  intro avs hin r h
  unfold K_specProfileOf at h
  split at h
  · obtain ⟨hp, rfl⟩ := gd_o h
    exact ⟨_, ev_specProfileOf _ _ hp, rfl⟩
  · cases h

/- (impl.lattice).below -/
def K_latBelow : List AV → List Ob → Option (AV × List Ob)
  | [.lst (.pair (.int .i64) (.int .i64)) l, .int .i64 x, .int .i64 y], [] => gd ((0 ≤ x ∧ x < l.length) ∧ (0 ≤ y ∧ y < l.length)) (.bool (blwB l x.toNat y.toNat), [])
  | _, _ => none
@[reducible] def E_latBelow : Env := mkE (tb [(92, K_inSet)]) (fun f => false) (fun r => ([], []))
theorem ev_latBelow (l : List (Int × Int)) (x y : Int) (hp : (0 ≤ x ∧ x < l.length) ∧ (0 ≤ y ∧ y < l.length)) : evF E_latBelow (1) Tryd.f162 [.lst (.pair (.int .i64) (.int .i64)) l, .int .i64 x, .int .i64 y] [] = some (.bool (blwB l x.toNat y.toNat), []) := by
  conv => lhs; whnf
  refine br_t (by exact dt2 hp.1.1 hp.1.2) ?_
  conv => lhs; whnf
  refine br_t (by exact dt2 hp.2.1 hp.2.2) ?_
  conv => lhs; whnf
  conv => lhs; arg 1; whnf
  refine bnd_g (by exact True.intro) ?_
  conv => lhs; whnf
  repeat ((first | with_reducible apply br_tt | with_reducible apply br_ff | with_reducible apply br_nf | with_reducible apply br_nt | with_reducible refine br_d ?_ (by kernel_rfl)); conv => lhs; whnf)
  rfl
theorem ok_latBelow : FnOk Tryd.prog 162 K_latBelow := by
  refine fn_ok (fn := Tryd.f162) (k := Tryd.f162.ntmps) (E := E_latBelow) (facts_of (List.forall_mem_cons.2 ⟨ok_inSet, List.forall_mem_nil _⟩)) (by kernel_rfl) rfl (by decide +kernel) (by decide +kernel) ?_
  intro avs hin r h
  unfold K_latBelow at h
  split at h
  · obtain ⟨hp, rfl⟩ := gd_o h
    exact ⟨_, ev_latBelow _ _ _ hp, rfl⟩
  · cases h

/- impl.profiles$1 -/
def K_prof1 : List AV → List Ob → Option (AV × List Ob)
  | [.int .i64 x, .vptr [.lst (.pair (.int .i64) (.int .i64)) l] 0, .vptr [.int .i64 a] 0], [] => gd ((0 ≤ x ∧ x < l.length) ∧ (0 ≤ a ∧ a < l.length)) (.bool (blwB l x.toNat a.toNat), [])
  | _, _ => none
@[reducible] def E_prof1 : Env := mkE (tb [(162, K_latBelow)]) (fun f => false) (fun r => ([], []))
theorem ev_prof1 (x a : Int) (l : List (Int × Int)) (hp : (0 ≤ x ∧ x < l.length) ∧ (0 ≤ a ∧ a < l.length)) : evF E_prof1 (1) Tryd.f161 [.int .i64 x, .vptr [.lst (.pair (.int .i64) (.int .i64)) l] 0, .vptr [.int .i64 a] 0] [] = some (.bool (blwB l x.toNat a.toNat), []) := by
  conv => lhs; whnf
  conv => lhs; arg 1; whnf
  refine bnd_g (by exact hp) ?_
  conv => lhs; whnf
theorem ok_prof1 : FnOk Tryd.prog 161 K_prof1 := by
  refine fn_ok (fn := Tryd.f161) (k := Tryd.f161.ntmps) (E := E_prof1) (facts_of (List.forall_mem_cons.2 ⟨ok_latBelow, List.forall_mem_nil _⟩)) (by kernel_rfl) rfl (by decide +kernel) (by decide +kernel) ?_
  intro avs hin r h
  unfold K_prof1 at h
  split at h
  · obtain ⟨hp, rfl⟩ := gd_o h
    exact ⟨_, ev_prof1 _ _ _ hp, rfl⟩
  · cases h

/- impl.profiles$2 -/
def K_prof2 : List AV → List Ob → Option (AV × List Ob)
  | [.int .i64 x, .vptr [.lst (.pair (.int .i64) (.int .i64)) l] 0, .vptr [.int .i64 a] 0], [] => gd ((0 ≤ x ∧ x < l.length) ∧ (0 ≤ a ∧ a < l.length)) (.bool (blwB l a.toNat x.toNat), [])
  | _, _ => none
@[reducible] def E_prof2 : Env := mkE (tb [(162, K_latBelow)]) (fun f => false) (fun r => ([], []))
theorem ev_prof2 (x a : Int) (l : List (Int × Int)) (hp : (0 ≤ x ∧ x < l.length) ∧ (0 ≤ a ∧ a < l.length)) : evF E_prof2 (1) Tryd.f163 [.int .i64 x, .vptr [.lst (.pair (.int .i64) (.int .i64)) l] 0, .vptr [.int .i64 a] 0] [] = some (.bool (blwB l a.toNat x.toNat), []) := by
  conv => lhs; whnf
  conv => lhs; arg 1; whnf
  refine bnd_g (by exact ⟨hp.2, hp.1⟩) ?_
  conv => lhs; whnf
theorem ok_prof2 : FnOk Tryd.prog 163 K_prof2 := by
  refine fn_ok (fn := Tryd.f163) (k := Tryd.f163.ntmps) (E := E_prof2) (facts_of (List.forall_mem_cons.2 ⟨ok_latBelow, List.forall_mem_nil _⟩)) (by kernel_rfl) rfl (by decide +kernel) (by decide +kernel) ?_
  intro avs hin r h
  unfold K_prof2 at h
  split at h
  · obtain ⟨hp, rfl⟩ := gd_o h
    exact ⟨_, ev_prof2 _ _ _ hp, rfl⟩
  · cases h

/- (impl.lattice).chosen -/
def K_chs_prof : List AV → List Ob → Option (AV × List Ob)
  | [.lst (.pair (.int .i64) (.int .i64)) l, .clo 161 [.vptr [.lst (.pair (.int .i64) (.int .i64)) l'] 0, .vptr [.int .i64 a] 0]], [] => gd ((l' = l ∧ l.length ≤ 64) ∧ (0 ≤ a ∧ a < l.length)) (.own 0, [.row 3 (.int .i64) (chsF (fun x => blwB l x a.toNat) l.length 0)])
  | [.lst (.pair (.int .i64) (.int .i64)) l, .clo 163 [.vptr [.lst (.pair (.int .i64) (.int .i64)) l'] 0, .vptr [.int .i64 a] 0]], [] => gd ((l' = l ∧ l.length ≤ 64) ∧ (0 ≤ a ∧ a < l.length)) (.own 0, [.row 3 (.int .i64) (chsF (fun x => blwB l a.toNat x) l.length 0)])
  | _, _ => none
@[reducible] def E_chs_prof : Env := mkE (tb [(161, K_prof1), (163, K_prof2)]) (fun f => false) (fun r => bif r == 3 then ([1, 5, 9, 10], [5]) else ([], []))
theorem lp1_chs_prof (l : List (Int × Int)) (hl : l.length ≤ 64) (a : Nat) (ha : a < l.length) (k : AX → S → Option (AV × List Ob)) (d : Nat) : ∀ (n i : Nat) (x : Int) (zs : List Int), l.length - i = d → i ≤ l.length → x = i → d < n → zs.length ≤ i →
    lpAt E_chs_prof (lp E_chs_prof 0 n) 0 (loopAt Tryd.f160 0) (mkS [1, 5, 9, 10] [.clo 161 [.vptr [.lst (.pair (.int .i64) (.int .i64)) l] 0, .vptr [.int .i64 (a : Int)] 0], .own 0, .int .i64 l.length, .int .i64 x] [some (.row 3 (.int .i64) zs)]) k =
      k (.exit 0) (mkS [5] [.own 0] [some (.row 3 (.int .i64) (zs ++ chsF (fun x => blwB l x a) d i))]) := by
  induction d with
  | zero =>
    intro n i x zs hd hi hx hn hz
    subst hx
    rw [lpAt_def]
    conv => lhs; whnf
    refine br_f (df (by omega)) ?_
    conv => lhs; whnf
    rw [chsF, List.append_nil]
  | succ d ih =>
    intro n i x zs hd hi hx hn hz
    obtain ⟨n, rfl⟩ : ∃ m, n = m + 1 := ⟨n - 1, by omega⟩
    subst hx
    rw [lpAt_def]
    conv => lhs; whnf
    refine br_t (dt (by omega)) ?_
    conv => lhs; whnf
    conv => lhs; arg 1; whnf
    refine bnd_g (by exact ⟨⟨by omega, by omega⟩, by omega, by omega⟩) ?_
    conv => lhs; whnf
    refine br_c (fun h => ?_) (fun h => ?_)
    · have h' : blwB l i a = true := h
      conv => lhs; whnf
      refine br_t (dt (by simp [room]; omega)) ?_
      conv => lhs; whnf
      refine Eq.trans (ih n (i + 1) _ _ (by omega) (by omega) (by rw [wrap64 (n := (i : Int) + 1) (by omega) (by omega)]; simp) (by omega) (by simp; omega)) ?_
      rw [chsF, h', cond_true]
      simp only [List.append_assoc]
      rfl
    · have h' : blwB l i a = false := h
      conv => lhs; whnf
      refine Eq.trans (ih n (i + 1) _ _ (by omega) (by omega) (by rw [wrap64 (n := (i : Int) + 1) (by omega) (by omega)]; simp) (by omega) (by omega)) ?_
      rw [chsF, h', cond_false]

theorem lp2_chs_prof (l : List (Int × Int)) (hl : l.length ≤ 64) (a : Nat) (ha : a < l.length) (k : AX → S → Option (AV × List Ob)) (d : Nat) : ∀ (n i : Nat) (x : Int) (zs : List Int), l.length - i = d → i ≤ l.length → x = i → d < n → zs.length ≤ i →
    lpAt E_chs_prof (lp E_chs_prof 0 n) 0 (loopAt Tryd.f160 0) (mkS [1, 5, 9, 10] [.clo 163 [.vptr [.lst (.pair (.int .i64) (.int .i64)) l] 0, .vptr [.int .i64 (a : Int)] 0], .own 0, .int .i64 l.length, .int .i64 x] [some (.row 3 (.int .i64) zs)]) k =
      k (.exit 0) (mkS [5] [.own 0] [some (.row 3 (.int .i64) (zs ++ chsF (fun x => blwB l a x) d i))]) := by
  induction d with
  | zero =>
    intro n i x zs hd hi hx hn hz
    subst hx
    rw [lpAt_def]
    conv => lhs; whnf
    refine br_f (df (by omega)) ?_
    conv => lhs; whnf
    rw [chsF, List.append_nil]
  | succ d ih =>
    intro n i x zs hd hi hx hn hz
    obtain ⟨n, rfl⟩ : ∃ m, n = m + 1 := ⟨n - 1, by omega⟩
    subst hx
    rw [lpAt_def]
    conv => lhs; whnf
    refine br_t (dt (by omega)) ?_
    conv => lhs; whnf
    conv => lhs; arg 1; whnf
    refine bnd_g (by exact ⟨⟨by omega, by omega⟩, by omega, by omega⟩) ?_
    conv => lhs; whnf
    refine br_c (fun h => ?_) (fun h => ?_)
    · have h' : blwB l a i = true := h
      conv => lhs; whnf
      refine br_t (dt (by simp [room]; omega)) ?_
      conv => lhs; whnf
      refine Eq.trans (ih n (i + 1) _ _ (by omega) (by omega) (by rw [wrap64 (n := (i : Int) + 1) (by omega) (by omega)]; simp) (by omega) (by simp; omega)) ?_
      rw [chsF, h', cond_true]
      simp only [List.append_assoc]
      rfl
    · have h' : blwB l a i = false := h
      conv => lhs; whnf
      refine Eq.trans (ih n (i + 1) _ _ (by omega) (by omega) (by rw [wrap64 (n := (i : Int) + 1) (by omega) (by omega)]; simp) (by omega) (by omega)) ?_
      rw [chsF, h', cond_false]
theorem ev_chs_prof (l : List (Int × Int)) (a : Int) (l' : List (Int × Int)) (hp : (l' = l ∧ l.length ≤ 64) ∧ (0 ≤ a ∧ a < l.length)) : evF E_chs_prof (100) Tryd.f160 [.lst (.pair (.int .i64) (.int .i64)) l, .clo 161 [.vptr [.lst (.pair (.int .i64) (.int .i64)) l'] 0, .vptr [.int .i64 a] 0]] [] = some (.own 0, [.row 3 (.int .i64) (chsF (fun x => blwB l x a.toNat) l.length 0)]) := by
  obtain ⟨⟨rfl, hl⟩, ha⟩ := hp
  obtain ⟨j, rfl⟩ : ∃ j : Nat, a = j := ⟨a.toNat, by omega⟩

  conv => lhs; whnf
  refine (lp1_chs_prof l' hl j (by omega) _ l'.length _ 0 0 [] rfl (Nat.zero_le _) rfl (by change _ < 99; omega) (Nat.le_refl _)).trans ?_
  conv => lhs; whnf
  rfl
theorem ev_chs_prof' (l : List (Int × Int)) (a : Int) (l' : List (Int × Int)) (hp : (l' = l ∧ l.length ≤ 64) ∧ (0 ≤ a ∧ a < l.length)) : evF E_chs_prof (100) Tryd.f160 [.lst (.pair (.int .i64) (.int .i64)) l, .clo 163 [.vptr [.lst (.pair (.int .i64) (.int .i64)) l'] 0, .vptr [.int .i64 a] 0]] [] = some (.own 0, [.row 3 (.int .i64) (chsF (fun x => blwB l a.toNat x) l.length 0)]) := by
  obtain ⟨⟨rfl, hl⟩, ha⟩ := hp
  obtain ⟨j, rfl⟩ : ∃ j : Nat, a = j := ⟨a.toNat, by omega⟩

  conv => lhs; whnf
  refine (lp2_chs_prof l' hl j (by omega) _ l'.length _ 0 0 [] rfl (Nat.zero_le _) rfl (by change _ < 99; omega) (Nat.le_refl _)).trans ?_
  conv => lhs; whnf
  rfl
theorem ok_chs_prof : FnOk Tryd.prog 160 K_chs_prof := by
  refine fn_ok (fn := Tryd.f160) (k := Tryd.f160.ntmps) (E := E_chs_prof) (facts_of (List.forall_mem_cons.2 ⟨ok_prof1, List.forall_mem_cons.2 ⟨ok_prof2, List.forall_mem_nil _⟩⟩)) (by kernel_rfl) rfl (by decide +kernel) (by decide +kernel) ?_
  intro avs hin r h
  unfold K_chs_prof at h
  split at h
  · obtain ⟨hp, rfl⟩ := gd_o h
    exact ⟨_, ev_chs_prof _ _ _ hp, rfl⟩
  · obtain ⟨hp, rfl⟩ := gd_o h
    exact ⟨_, ev_chs_prof' _ _ _ hp, rfl⟩
  · cases h

/- impl.profiles -/
def K_profiles : List AV → List Ob → Option (AV × List Ob)
  | [.lst (.pair (.int .i64) (.int .i64)) l], [] => gd (l.length ≤ 64 ∧ extsB l = true) (.own 0, [.row 3 (.int .i64) (marksL l l.length 0)])
  | _, _ => none
@[reducible] def E_profiles : Env := mkE (tb [(160, K_chs_prof)]) (fun f => false) (fun r => bif r == 3 then ([1, 3, 9, 10], [3]) else ([], []))
theorem lp_profiles (l : List (Int × Int)) (hl : l.length ≤ 64) (he : extsB l = true) (k : AX → S → Option (AV × List Ob)) (d : Nat) : ∀ (n i : Nat) (x : Int) (zs : List Int), l.length - i = d → i ≤ l.length → x = i → d < n → zs.length ≤ i →
    lpAt E_profiles (lp E_profiles 0 n) 0 (loopAt Tryd.f115 0) (mkS [1, 3, 9, 10] [.ptr 0 0, .own 1, .int .i64 l.length, .int .i64 x] [some (.box 98 [.lst (.pair (.int .i64) (.int .i64)) l]), some (.row 3 (.int .i64) zs)]) k =
      k (.exit 0) (mkS [3] [.own 0] [some (.row 3 (.int .i64) (zs ++ marksL l d i))]) := by
  induction d with
  | zero =>
    intro n i x zs hd hi hx hn hz
    subst hx
    rw [lpAt_def]
    conv => lhs; whnf
    refine br_f (df (by omega)) ?_
    conv => lhs; whnf
    rw [marksL, List.append_nil]
  | succ d ih =>
    intro n i x zs hd hi hx hn hz
    obtain ⟨n, rfl⟩ : ∃ m, n = m + 1 := ⟨n - 1, by omega⟩
    subst hx
    have c1 := chsF_le (fun x => blwB l x i) l.length 0
    have c2 := chsF_le (fun x => blwB l i x) l.length 0
    have e1 : ((chsF (fun x => blwB l x i) l.length 0).length : Int) = sumB (fun x => undB l x i) l.length 0 0 := by
      rw [chsF_len]
      exact sumB_congr _ _ _ fun j _ hj => blw_und he (by omega) i
    have e2 : ((chsF (fun x => blwB l i x) l.length 0).length : Int) = sumB (fun x => undB l i x) l.length 0 0 := by
      rw [chsF_len]
      exact sumB_congr _ _ _ fun j _ hj => blw_und he (by omega) j
    have hw : IntKind.i64.wrap (IntKind.i64.wrap (100 * ((chsF (fun x => blwB l x i) l.length 0).length : Int)) + ((chsF (fun x => blwB l i x) l.length 0).length : Int)) = markAt l i := by
      rw [wrap64 (n := 100 * ((chsF (fun x => blwB l x i) l.length 0).length : Int)) (by omega) (by omega), wrap64 (by omega) (by omega), e1, e2]
      rfl
    rw [lpAt_def]
    conv => lhs; whnf
    refine br_t (dt (by omega)) ?_
    conv => lhs; whnf
    conv => lhs; arg 1; whnf
    refine bnd_g (by exact ⟨⟨rfl, hl⟩, by omega, by omega⟩) ?_
    conv => lhs; whnf
    conv => lhs; arg 1; whnf
    refine bnd_g (by exact ⟨⟨rfl, hl⟩, by omega, by omega⟩) ?_
    conv => lhs; whnf
    refine br_t (dt (by simp [room]; omega)) ?_
    conv => lhs; whnf
    refine Eq.trans (ih n (i + 1) _ _ (by omega) (by omega) (by rw [wrap64 (n := (i : Int) + 1) (by omega) (by omega)]; simp) (by omega) (by simp; omega)) ?_
    have hw' := congrArg (fun z => zs ++ z :: marksL l d (i + 1)) hw
    rw [marksL, ← hw', List.append_assoc]
    rfl
theorem ev_profiles (l : List (Int × Int)) (hp : l.length ≤ 64 ∧ extsB l = true) : evF E_profiles (100) Tryd.f115 [.lst (.pair (.int .i64) (.int .i64)) l] [] = some (.own 0, [.row 3 (.int .i64) (marksL l l.length 0)]) := by
  conv => lhs; whnf
  refine (lp_profiles l hp.1 hp.2 _ l.length _ 0 0 [] rfl (Nat.zero_le _) rfl (by change _ < 99; omega) (Nat.le_refl _)).trans ?_
  conv => lhs; whnf
  rfl
theorem ok_profiles : FnOk Tryd.prog 115 K_profiles := by
  refine fn_ok (fn := Tryd.f115) (k := Tryd.f115.ntmps) (E := E_profiles) (facts_of (List.forall_mem_cons.2 ⟨ok_chs_prof, List.forall_mem_nil _⟩)) (by kernel_rfl) rfl (by decide +kernel) (by decide +kernel) ?_
  intro avs hin r h
  unfold K_profiles at h
  split at h
  · obtain ⟨hp, rfl⟩ := gd_o h
    exact ⟨_, ev_profiles _ hp, rfl⟩
  · cases h

def K_sortInts : List AV → List Ob → Option (AV × List Ob)
  | [.own 0], [.row 3 (.int .i64) ys] => gd (ys.length < 4611686018427387904) (.tup [], [.row 3 (.int .i64) (sortI ys)])
  | _, _ => none
theorem ok_sortInts : FnOk Tryd.prog 116 K_sortInts := by
  refine ⟨⟨Tryd.f116, by kernel_rfl, by kernel_rfl, by kernel_rfl⟩, fun avs hin r hout hk C L vs hH hm hA => ?_⟩
  unfold K_sortInts at hk
  split at hk
  · obtain ⟨h1, he⟩ := gd_o hk
    cases he
    exact sorti_calls Tryd.layInts h1 hH hA
  · cases hk

/- impl.ProfileOf -/
def K_implProfileOf : List AV → List Ob → Option (AV × List Ob)
  | [.agg [.int .i64 m, .lst (.int .i64) b]], [] => gd (b.length ≤ 1048576) (.own 0, [.row 3 (.int .i64) (profF m b)])
  | _, _ => none
@[reducible] def E_implProfileOf : Env := mkE (tb [(100, K_implConcepts), (115, K_profiles), (116, K_sortInts)]) (fun f => [116].contains f) (fun r => ([], []))
theorem ev_implProfileOf (m : Int) (b : List Int) (hp : b.length ≤ 1048576) : evF E_implProfileOf (1) Tryd.f62 [.agg [.int .i64 m, .lst (.int .i64) b]] [] = some (.own 0, [.row 3 (.int .i64) (profF m b)]) := by
  have hl := concF_len m b
  have hm := marksL_len (concF m b) (concF m b).length 0
  conv => lhs; whnf
  conv => lhs; arg 1; whnf
  refine bnd_g (by exact hp) ?_
  conv => lhs; whnf
  refine br_c (fun h => ?_) (fun h => ?_)
  · have h' := ofd h
    conv => lhs; whnf
    unfold profF
    rw [dt (show (concF m b).length > 24 by omega)]
    rfl
  · have h' := ofn h
    conv => lhs; whnf
    conv => lhs; arg 1; whnf
    refine bnd_g (by exact ⟨hl, conc_exts m b⟩) ?_
    conv => lhs; whnf
    conv => lhs; arg 1; whnf
    refine bnd_g (by omega) ?_
    conv => lhs; whnf
    unfold profF
    rw [df (show ¬ (concF m b).length > 24 by omega)]
    rfl
theorem ok_implProfileOf : FnOk Tryd.prog 62 K_implProfileOf := by
  refine fn_ok (fn := Tryd.f62) (k := Tryd.f62.ntmps) (E := E_implProfileOf) (facts_of (List.forall_mem_cons.2 ⟨ok_implConcepts, List.forall_mem_cons.2 ⟨ok_profiles, List.forall_mem_cons.2 ⟨ok_sortInts, List.forall_mem_nil _⟩⟩⟩)) (by kernel_rfl) rfl (by decide +kernel) (by decide +kernel) ?_
  intro avs hin r h
  unfold K_implProfileOf at h
  split at h
  · obtain ⟨hp, rfl⟩ := gd_o h
    exact ⟨_, ev_implProfileOf _ _ hp, rfl⟩
  · cases h

def iotaI : Int → Nat → List Int
  | _, 0 => []
  | k, n + 1 => k :: iotaI (k + 1) n
@[simp] theorem iotaI_length : ∀ (n : Nat) (k : Int), (iotaI k n).length = n
  | 0, _ => rfl
  | n + 1, k => by simp [iotaI, iotaI_length n]
def held (a : List Int) (k : Int) : Int := if a = iotaI k a.length then k + a.length else -1
theorem held_iota (k : Int) (n : Nat) : held (iotaI k n) k = k + n := by simp [held]
theorem take_set_succ {α : Type} {ys : List α} {i : Nat} {v : α} (h : i < ys.length) : (ys.set i v).take (i + 1) = ys.take i ++ [v] := by
  rw [List.take_succ_eq_append_getElem (by simpa using h), List.take_set_of_le (by omega)]
  simp
theorem getD_set_self {α : Type} {ys : List α} {i : Nat} {v d : α} (h : i < ys.length) : (ys.set i v).getD i d = v := by
  simp [List.getD, h]
/- laws.heldIntS -/
def K_heldIntS : List AV → List Ob → Option (AV × List Ob)
  | [.lst (.int .i64) a, .int .i64 q], [] => gd (a.length ≤ 16777216 ∧ 0 ≤ q ∧ q ≤ 1152921504606846976) (.int .i64 (held a q), [])
  | _, _ => none
@[reducible] def E_heldIntS : Env := mkE (tb []) (fun f => false) (fun r => bif r == 2 then ([0, 1, 5], [1, 4]) else ([], []))
theorem lp_heldIntS (a : List Int) (ha : a.length ≤ 16777216) (k : AX → S → Option (AV × List Ob)) (r : Option (AV × List Ob)) (hk : ∀ q, k .ret (mkS [1, 4] [.int .i64 q, .int .i64 (-1)] []) = r) (d : Nat) : ∀ (n i : Nat) (x q : Int), a.length - i = d → i ≤ a.length → 0 ≤ q → q ≤ 1152921504606846976 + i → x = i → d < n →
    lpAt E_heldIntS (lp E_heldIntS 0 n) 0 (loopAt Tryd.f31 0) (mkS [0, 1, 5] [.lst (.int .i64) a, .int .i64 q, .int .i64 x] []) k =
      if a.drop i = iotaI q d then k (.exit 0) (mkS [1, 4] [.int .i64 (q + d), .any] []) else r := by
  induction d with
  | zero =>
    intro n i x q hd hi hq hq' hx hn
    subst hx
    rw [lpAt_def]
    conv => lhs; whnf
    refine br_f (df (by omega)) ?_
    conv => lhs; whnf
    rw [if_pos (by rw [List.drop_of_length_le (by omega)]; rfl)]
    simp
  | succ d ih =>
    intro n i x q hd hi hq hq' hx hn
    obtain ⟨n, rfl⟩ : ∃ m, n = m + 1 := ⟨n - 1, by omega⟩
    subst hx
    rw [lpAt_def]
    conv => lhs; whnf
    refine br_t (dt (by omega)) ?_
    conv => lhs; whnf
    refine br_t (dt2 (by omega) (by omega)) ?_
    conv => lhs; whnf
    rw [getD_drop (l := a) (i := i) (d := 0) (by omega)]
    refine br_c (fun h => ?_) (fun h => ?_)
    · conv => lhs; whnf
      rw [if_neg]
      · exact hk _
      · intro he
        have := (List.cons.inj he).1
        simp at h
        exact h this
    · conv => lhs; whnf
      rw [wrap64 (n := q + 1) (by omega) (by omega)]
      rw [ih n (i + 1) _ (q + 1) (by omega) (by omega) (by omega) (by omega) (by rw [wrap64 (by omega) (by omega)]; simp) (by omega)]
      have e1 : q + 1 + (d : Int) = q + ((d + 1 : Nat) : Int) := by push_cast; omega
      rw [e1]
      simp at h
      simp [h, iotaI]
theorem ev_heldIntS (a : List Int) (q : Int) (hp : a.length ≤ 16777216 ∧ 0 ≤ q ∧ q ≤ 1152921504606846976) : evF E_heldIntS (a.length + 2) Tryd.f31 [.lst (.int .i64) a, .int .i64 q] [] = some (.int .i64 (held a q), []) := by
  conv => lhs; whnf
  refine (lp_heldIntS a hp.1 _ _ (fun _ => by conv => lhs; whnf; rfl) a.length _ 0 0 q rfl (by omega) hp.2.1 (by omega) rfl (by omega)).trans ?_
  simp only [List.drop_zero]
  unfold held
  split
  · rename_i he
    conv => lhs; whnf
  · rename_i he
    rfl
theorem ok_heldIntS : FnOk Tryd.prog 31 K_heldIntS := by
  refine fn_ok (fn := Tryd.f31) (k := Tryd.f31.ntmps) (E := E_heldIntS) (facts_of (List.forall_mem_nil _)) (by kernel_rfl) rfl (by decide +kernel) (by decide +kernel) ?_
  intro avs hin r h
  unfold K_heldIntS at h
  split at h
  · obtain ⟨hp, rfl⟩ := gd_o h
    exact ⟨_, ev_heldIntS _ _ hp, rfl⟩
  · cases h

/- laws.markIntS -/
def K_markIntS : List AV → List Ob → Option (AV × List Ob)
  | [.own 0, .int .i64 q], [.row 3 (.int .i64) a] => gd (a.length ≤ 16777216 ∧ 0 ≤ q ∧ q ≤ 1152921504606846976) (.int .i64 (q + a.length), [.row 3 (.int .i64) (iotaI q a.length)])
  | _, _ => none
@[reducible] def E_markIntS : Env := mkE (tb []) (fun f => false) (fun r => bif r == 2 then ([0, 1, 5], [1]) else ([], []))
theorem lp_markIntS (k : AX → S → Option (AV × List Ob)) (d : Nat) : ∀ (n i : Nat) (x q : Int) (ys : List Int), ys.length - i = d → i ≤ ys.length → ys.length ≤ 16777216 → 0 ≤ q → q ≤ 1152921504606846976 + i → x = i → d < n →
    lpAt E_markIntS (lp E_markIntS 1 n) 1 (loopAt Tryd.f30 0) (mkS [0, 1, 5] [.own 0, .int .i64 q, .int .i64 x] [some (.row 3 (.int .i64) ys)]) k =
      k (.exit 0) (mkS [1] [.int .i64 (q + d)] [some (.row 3 (.int .i64) (ys.take i ++ iotaI q d))]) := by
  induction d with
  | zero =>
    intro n i x q ys hd hi hl hq hq' hx hn
    subst hx
    rw [lpAt_def]
    conv => lhs; whnf
    refine br_f (df (by omega)) ?_
    conv => lhs; whnf
    simp only [iotaI, List.append_nil, List.take_of_length_le (show ys.length ≤ i by omega)]
    simp
  | succ d ih =>
    intro n i x q ys hd hi hl hq hq' hx hn
    obtain ⟨n, rfl⟩ : ∃ m, n = m + 1 := ⟨n - 1, by omega⟩
    subst hx
    rw [lpAt_def]
    conv => lhs; whnf
    refine br_t (dt (by omega)) ?_
    conv => lhs; whnf
    refine br_t (dt2 (by omega) (by omega)) ?_
    conv => lhs; whnf
    refine br_t (dt (by omega)) ?_
    conv => lhs; whnf
    rw [wrap64 (n := q + 1) (by omega) (by omega)]
    rw [ih n (i + 1) _ (q + 1) _ (by simp; omega) (by simp; omega) (by simp; omega) (by omega) (by omega) (by rw [wrap64 (by omega) (by omega)]; simp) (by omega)]
    simp only [Int.toNat_natCast]
    rw [take_set_succ (by omega)]
    have e1 : q + 1 + (d : Int) = q + ((d + 1 : Nat) : Int) := by push_cast; omega
    rw [e1]
    simp [iotaI]
theorem ev_markIntS (a : List Int) (q : Int) (hp : a.length ≤ 16777216 ∧ 0 ≤ q ∧ q ≤ 1152921504606846976) : evF E_markIntS (a.length + 2) Tryd.f30 [.own 0, .int .i64 q] [.row 3 (.int .i64) a] = some (.int .i64 (q + a.length), [.row 3 (.int .i64) (iotaI q a.length)]) := by
  conv => lhs; whnf
  refine (lp_markIntS _ a.length _ 0 0 q a rfl (by omega) hp.1 hp.2.1 (by omega) rfl (by omega)).trans ?_
  conv => lhs; whnf
  simp
theorem ok_markIntS : FnOk Tryd.prog 30 K_markIntS := by
  refine fn_ok (fn := Tryd.f30) (k := Tryd.f30.ntmps) (E := E_markIntS) (facts_of (List.forall_mem_nil _)) (by kernel_rfl) rfl (by decide +kernel) (by decide +kernel) ?_
  intro avs hin r h
  unfold K_markIntS at h
  split at h
  · obtain ⟨hp, rfl⟩ := gd_o h
    exact ⟨_, ev_markIntS _ _ hp, rfl⟩
  · cases h

/- laws.markContext -/
def K_markContext : List AV → List Ob → Option (AV × List Ob)
  | [.agg [.int .i64 m, .own 0], .int .i64 q], [.row 3 (.int .i64) a] => gd (a.length ≤ 16777216 ∧ 0 ≤ q ∧ q ≤ 1152921504606846976) (.int .i64 (q + a.length), [.row 3 (.int .i64) (iotaI q a.length)])
  | _, _ => none
@[reducible] def E_markContext : Env := mkE (tb [(30, K_markIntS)]) (fun f => [30].contains f) (fun r => ([], []))
theorem ev_markContext (m : Int) (a : List Int) (q : Int) (hp : a.length ≤ 16777216 ∧ 0 ≤ q ∧ q ≤ 1152921504606846976) : evF E_markContext (1) Tryd.f29 [.agg [.int .i64 m, .own 0], .int .i64 q] [.row 3 (.int .i64) a] = some (.int .i64 (q + a.length), [.row 3 (.int .i64) (iotaI q a.length)]) := by
  conv => lhs; whnf
  conv => lhs; arg 1; whnf
  refine bnd_g (by exact hp) ?_
  conv => lhs; whnf
theorem ok_markContext : FnOk Tryd.prog 29 K_markContext := by
  refine fn_ok (fn := Tryd.f29) (k := Tryd.f29.ntmps) (E := E_markContext) (facts_of (List.forall_mem_cons.2 ⟨ok_markIntS, List.forall_mem_nil _⟩)) (by kernel_rfl) rfl (by decide +kernel) (by decide +kernel) ?_
  intro avs hin r h
  unfold K_markContext at h
  split at h
  · obtain ⟨hp, rfl⟩ := gd_o h
    exact ⟨_, ev_markContext _ _ _ hp, rfl⟩
  · cases h

/- laws.FnExactProfileOf -/
def K_lawProfileOf : List AV → List Ob → Option (AV × List Ob)
  | [.agg [.int .i64 m, .lst (.int .i64) a]], [] => gd (a.length ≤ maxLen) (.bool true, [])
  | _, _ => none
@[reducible] def E_lawProfileOf : Env := mkE (tb [(23, K_szContext), (25, K_toContext), (61, K_specProfileOf), (62, K_implProfileOf), (27, K_eqIntS), (28, K_eqContext), (31, K_heldIntS), (29, K_markContext), (30, K_markIntS)]) (fun f => [29, 30].contains f) (fun r => ([], []))
theorem ev_lawProfileOf (m : Int) (a : List Int) (hp : a.length ≤ maxLen) : evF E_lawProfileOf (1) Tryd.f16 [.agg [.int .i64 m, .lst (.int .i64) a]] [] = some (.bool true, []) := by
  conv => lhs; whnf
  conv => lhs; arg 1; whnf
  refine bnd_g (by exact ⟨by omega, by omega, hp⟩) ?_
  conv => lhs; whnf
  refine br_c (fun h1 => ?_) (fun h1 => ?_)
  · conv => lhs; whnf
  · conv => lhs; whnf
    obtain ⟨e1, l1⟩ := szI_ok (ofn h1)
    have hb := profF_len m a
    conv => lhs; arg 1; whnf
    refine bnd_g (by omega) ?_
    conv => lhs; whnf
    conv => lhs; arg 1; whnf
    refine bnd_g (by omega) ?_
    conv => lhs; whnf
    conv => lhs; arg 1; whnf
    refine bnd_g (by omega) ?_
    conv => lhs; whnf
    conv => lhs; arg 1; whnf
    refine bnd_g (by omega) ?_
    conv => lhs; whnf
    conv => lhs; arg 1; whnf
    refine bnd_g (by exact ⟨by omega, by omega⟩) ?_
    conv => lhs; whnf
    repeat ((first | with_reducible apply br_tt | with_reducible apply br_ff | with_reducible apply br_nf | with_reducible apply br_nt | with_reducible refine br_d ?_ (by kernel_rfl) | with_reducible refine br_f (by simp; done) ?_); conv => lhs; whnf)
    conv => lhs; arg 1; whnf
    refine bnd_g (by omega) ?_
    conv => lhs; whnf
    conv => lhs; arg 1; whnf
    refine bnd_g (by exact ⟨by omega, by omega⟩) ?_
    conv => lhs; whnf
    repeat ((first | with_reducible apply br_tt | with_reducible apply br_ff | with_reducible apply br_nf | with_reducible apply br_nt | with_reducible refine br_d ?_ (by kernel_rfl) | with_reducible refine br_f (by simp; done) ?_); conv => lhs; whnf)
    conv => lhs; arg 1; whnf
    refine bnd_g (by exact ⟨by omega, by omega, by omega⟩) ?_
    conv => lhs; whnf
    have hk : decide ((1 : Int) + (a.length : Int) < 0) = false := df (by omega)
    repeat ((first | with_reducible apply br_tt | with_reducible apply br_ff | with_reducible apply br_nf | with_reducible apply br_nt | with_reducible refine br_d ?_ (by kernel_rfl) | with_reducible apply br_t hk | with_reducible apply br_f hk); conv => lhs; whnf)
    conv => lhs; arg 1; whnf
    refine bnd_g (by exact ⟨by omega, by omega⟩) ?_
    conv => lhs; whnf
    repeat ((first | with_reducible apply br_tt | with_reducible apply br_ff | with_reducible apply br_nf | with_reducible apply br_nt | with_reducible refine br_d ?_ (by kernel_rfl) | with_reducible apply br_t hk | with_reducible apply br_f hk | with_reducible refine br_f (by simp; done) ?_); conv => lhs; whnf)
    conv => lhs; arg 1; whnf
    refine bnd_g (by exact ⟨by omega, by omega, by omega⟩) ?_
    conv => lhs; whnf
    conv => lhs; arg 1; whnf
    refine bnd_g (by exact ⟨by simp; omega, by omega, by omega⟩) ?_
    conv => lhs; whnf
    refine br_f (by (apply decide_eq_false; rw [held_iota]; omega)) ?_
    conv => lhs; whnf
    refine br_f (by (rw [held_iota]; simp)) ?_
    conv => lhs; whnf
    conv => lhs; arg 1; whnf
    refine bnd_g (by omega) ?_
    conv => lhs; whnf
    conv => lhs; arg 1; whnf
    refine bnd_g (by omega) ?_
    conv => lhs; whnf
    conv => lhs; arg 1; whnf
    refine bnd_g (by exact ⟨by omega, by omega⟩) ?_
    conv => lhs; whnf
    repeat ((first | with_reducible apply br_tt | with_reducible apply br_ff | with_reducible apply br_nf | with_reducible apply br_nt | with_reducible refine br_d ?_ (by kernel_rfl) | with_reducible refine br_f (by simp; done) ?_); conv => lhs; whnf)
    conv => lhs; arg 1; whnf
    refine bnd_g (by exact ⟨by simp; omega, by omega, by omega⟩) ?_
    conv => lhs; whnf
    refine br_f (by (apply decide_eq_false; rw [held_iota]; omega)) ?_
    conv => lhs; whnf
    refine br_f (by (rw [held_iota]; simp)) ?_
    conv => lhs; whnf
theorem ok_lawProfileOf : FnOk Tryd.prog 16 K_lawProfileOf := by
  refine fn_ok (fn := Tryd.f16) (k := Tryd.f16.ntmps) (E := E_lawProfileOf) (facts_of (List.forall_mem_cons.2 ⟨ok_szContext, List.forall_mem_cons.2 ⟨ok_toContext, List.forall_mem_cons.2 ⟨ok_specProfileOf, List.forall_mem_cons.2 ⟨ok_implProfileOf, List.forall_mem_cons.2 ⟨ok_eqIntS, List.forall_mem_cons.2 ⟨ok_eqContext, List.forall_mem_cons.2 ⟨ok_heldIntS, List.forall_mem_cons.2 ⟨ok_markContext, List.forall_mem_cons.2 ⟨ok_markIntS, List.forall_mem_nil _⟩⟩⟩⟩⟩⟩⟩⟩⟩)) (by kernel_rfl) rfl (by decide +kernel) (by decide +kernel) ?_
  intro avs hin r h
  unfold K_lawProfileOf at h
  split at h
  · obtain ⟨hp, rfl⟩ := gd_o h
    exact ⟨_, ev_lawProfileOf _ _ hp, rfl⟩
  · cases h

end Go.Sym
