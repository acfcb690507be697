/- The symbolic machine and the model: code, loops. -/
import Derived.Test.YtmphbdhjdalgnaaGreatDoorSymS
namespace Go.Sym
set_option linter.unusedVariables false
set_option linter.unusedSimpArgs false
set_option linter.unusedSectionVars false
variable [Globs] [Dm]

section
variable {R : Type} {P : Program} {E : Env} {C : Ctx} {n B : Nat} {L : Fr} {s : S} {a : Act} {r : R} {o : Oper} {ops : Array Oper}

theorem named_nodup (m : Nat) (l : List Nat) : (List.range m ++ (dedup [] l).filter (m ≤ ·)).Nodup := by
  rw [List.nodup_append]
  refine ⟨List.nodup_range, (dedup_spec l []).1.filter _, fun x hx y hy => ?_⟩
  rw [List.mem_range] at hx
  have := (List.mem_filter.1 hy).2
  simp only [decide_eq_true_eq] at this
  omega

theorem lookup_zip_map {f : Nat → AV} : ∀ (l : List Nat) (t : Nat) (v : AV), (l.zip (l.map f)).lookup t = some v → v = f t
  | [], t, v, h => by simp at h
  | x :: l, t, v, h => by
    simp only [List.map_cons, List.zip_cons_cons, List.lookup_cons] at h
    split at h
    · rename_i he
      simp only [beq_iff_eq] at he
      subst he
      exact (Option.some.inj h).symm
    · exact lookup_zip_map l t v h

theorem named_fr {hp : Nat → Option Ob} (hH : Heap C B L hp) {l : List Nat} : HF (C.named (List.range L.m ++ l)) B L := by
  have hget : ∀ i, i < L.m → (List.range L.m ++ l)[i]? = some i := fun i hi => by rw [List.getElem?_append_left (by simpa using hi), List.getElem?_range hi]
  refine ⟨hH.fr.fro, fun i pv hi h => ?_, fun i hi => ?_⟩
  · simp only [Ctx.named] at h
    rw [hget i hi] at h
    exact hH.fr.old i pv hi h
  · simp only [Ctx.named, List.length_append, List.length_range]; omega

theorem norm_rel (hR : Rel n B L C s a) (lv : List Nat) {m : Nat} (hm : L.m = m) : Rel n B L (C.named (normL lv m s)) (norm lv m s) a := by
  subst hm
  refine ⟨hR.defers, hR.size, fun t => ?_, named_heap hR.heap (named_nodup _ _) (named_mine hR.heap) (named_fr hR.heap), hR.base⟩
  simp only [norm, mkS]
  split
  · rename_i v hv
    rw [List.map_map] at hv
    have := lookup_zip_map (f := fun t => (s.tm t).ren (idx (normL lv L.m s)) 8) lv t v hv
    subst this
    exact ren_rep (C := C) (C' := C.named _) rfl named_ren 8 _ _ (fun _ b hb => hb) (hR.tm t)
  · unfold Rep; trivial

theorem closeS_rel (ids : List Nat) (hR : Rel n B L C s a) : ∃ C', C'.w = C.w ∧ Rel n B L C' (closeS ids s) a := by
  obtain ⟨C', h1, h2, _, h4⟩ := closeAll_ok ids C s.hp hR.heap
  exact ⟨C', h1, hR.defers, hR.size, fun t => Rep_mono h2 _ _ (hR.tm t), h4, by rw [h1]; exact hR.base⟩

theorem closeNorm_rel (ids : List Nat) (lv : List Nat) {m : Nat} (hm : L.m = m) (hR : Rel n B L C s a) : ∃ C', C'.w = C.w ∧ Rel n B L C' (norm lv m (closeS ids s)) a := by
  obtain ⟨C', h1, h2⟩ := closeS_rel ids hR
  exact ⟨C'.named _, h1, norm_rel h2 lv hm⟩

def AX.ex : AX → Exit
  | .normal => .normal
  | .exit i => .exit i
  | .ret => .ret

/-- Code does in the model what its reckoning says. -/
def CodeP (P : Program) (n B : Nat) (L : Fr) (R : Type) (c : Code) (f : S → (AX → S → Option R) → Option R) : Prop :=
  ∀ (C : Ctx) (s : S) (a : Act) (k : AX → S → Option R) (r : R) (Q : Exit → Act → World → Prop), Rel n B L C s a → f s k = some r →
    (∀ x C' s' a', Rel n B L C' s' a' → Gr B L C.w C'.w → k x s' = some r → Q x.ex a' C'.w) → c.wp P Q a C.w

theorem evC_ok (hE : Facts P E) {lpf : Code → S → (AX → S → Option R) → Option R} (hlp : ∀ b, codeOk n b = true → CodeP P n B L R (.loop b) (lpf b)) :
    ∀ c, codeOk n c = true → CodeP P n B L R c (evC E lpf c)
  | .skip, _, C, s, a, k, r, Q, hR, h, hQ => wp_skip (hQ .normal C s a hR (Gr.refl _ _ _) h)
  | .exit id, _, C, s, a, k, r, Q, hR, h, hQ => wp_exit (hQ (.exit id) C s a hR (Gr.refl _ _ _) h)
  | .ret, _, C, s, a, k, r, Q, hR, h, hQ => wp_ret (hQ .ret C s a hR (Gr.refl _ _ _) h)
  | .region id ops d, hc, C, s, a, k, r, Q, hR, h, hQ => by
    simp only [evC, enterK_eq] at h
    exact region_ok hE hc hR h (fun C' s' a' q1 q2 q3 => hQ .normal C' s' a' q1 q2 q3)
  | .seq x y, hc, C, s, a, k, r, Q, hR, h, hQ => by
    simp only [codeOk, Bool.and_eq_true] at hc
    simp only [evC] at h
    refine wp_seq (evC_ok hE hlp x hc.1 C s a _ r _ hR h (fun x' C' s' a' q1 q2 q3 => ?_))
    cases x' with
    | normal => exact evC_ok hE hlp y hc.2 C' s' a' k r Q q1 q3 (fun x2 C2 s2 a2 p1 p2 p3 => hQ x2 C2 s2 a2 p1 (q2.trans p2) p3)
    | exit i => exact hQ (.exit i) C' s' a' q1 q2 q3
    | ret => exact hQ .ret C' s' a' q1 q2 q3
  | .cond c x y, hc, C, s, a, k, r, Q, hR, h, hQ => by
    simp only [codeOk, Bool.and_eq_true] at hc
    simp only [evC] at h
    have hev := hR.eval c
    split at h
    · rename_i b hb
      rw [hb] at hev
      unfold Rep at hev
      rcases sat_br h with ⟨h1, h2⟩ | ⟨h1, h2⟩
      · subst h1
        exact wp_cond_true hev (evC_ok hE hlp x hc.1 C s a k r Q hR h2 hQ)
      · subst h1
        exact wp_cond_false hev (evC_ok hE hlp y hc.2 C s a k r Q hR h2 hQ)
    · rename_i hv
      rw [hv] at hev
      unfold Rep at hev
      obtain ⟨b, hev⟩ := hev
      obtain ⟨g1, g2⟩ := both_iff.1 h
      cases b with
      | true => exact wp_cond_true hev (evC_ok hE hlp x hc.1 C s a k r Q hR g1 hQ)
      | false => exact wp_cond_false hev (evC_ok hE hlp y hc.2 C s a k r Q hR g2 hQ)
    · cases h
  | .block id b, hc, C, s, a, k, r, Q, hR, h, hQ => by
    simp only [codeOk] at hc
    simp only [evC] at h
    refine wp_block (evC_ok hE hlp b hc C s a _ r _ hR h (fun x' C' s' a' q1 q2 q3 => ?_))
    cases x' with
    | normal => exact hQ .normal C' s' a' q1 q2 q3
    | exit i =>
      simp only at q3
      simp only [AX.ex, Exit.inBlock]
      split
      · rename_i he; rw [if_pos he] at q3; exact hQ .normal C' s' a' q1 q2 q3
      · rename_i he; rw [if_neg he] at q3; exact hQ (.exit i) C' s' a' q1 q2 q3
    | ret => exact hQ .ret C' s' a' q1 q2 q3
  | .loop b, hc, C, s, a, k, r, Q, hR, h, hQ => by
    simp only [codeOk] at hc
    simp only [evC] at h
    exact hlp b hc C s a k r Q hR h hQ

theorem lp_ok (hE : Facts P E) {m : Nat} (hm : L.m = m) : ∀ (N : Nat) (b : Code), codeOk n b = true → CodeP P n B L R (.loop b) (lp E m N b) := by
  intro N
  induction N using Nat.strongRecOn with
  | _ N ih =>
    intro b hb C s a k r Q hR h hQ
    refine wp_loop_ghost (fun j a' w' => j ≤ N ∧ ∃ C' s', C'.w = w' ∧ Rel n B L C' s' a' ∧ Gr B L C.w w' ∧ lp E m j b s' k = some r) N ⟨Nat.le_refl _, C, s, rfl, hR, Gr.refl _ _ _, h⟩ ?_
    rintro j a' w' ⟨hj, C', s', rfl, hR', hgr, h'⟩
    cases j with
    | zero => simp [lp] at h'
    | succ j =>
      simp only [lp, normK_eq, closeK_eq] at h'
      obtain ⟨C1, hw, hR1⟩ := closeNorm_rel (ownsOf ((E.live (firstRegion b)).1.map s'.tm)) (E.live (firstRegion b)).1 hm hR'
      rw [lpAt_def] at h'
      unfold lpRound at h'
      rw [← hw] at hgr ⊢
      refine evC_ok hE (fun b' hb' => ih j (by omega) b' hb') b hb _ _ a' _ r _ hR1 h' (fun x C2 s2 a2 q1 q2 q3 => ?_)
      cases x with
      | normal => exact ⟨j, by omega, by omega, C2, s2, rfl, q1, hgr.trans q2, q3⟩
      | exit i =>
        simp only [normK_eq, closeK_eq] at q3
        obtain ⟨C3, w3, r3⟩ := closeNorm_rel (ownsOf ((E.live (firstRegion b)).2.map s2.tm)) (E.live (firstRegion b)).2 hm q1
        rw [← w3]
        exact hQ (.exit i) C3 _ a2 r3 (by rw [w3]; exact hgr.trans q2) q3
      | ret =>
        simp only [normK_eq, closeK_eq] at q3
        obtain ⟨C3, w3, r3⟩ := closeNorm_rel (ownsOf ((E.live (firstRegion b)).2.map s2.tm)) (E.live (firstRegion b)).2 hm q1
        rw [← w3]
        exact hQ .ret C3 _ a2 r3 (by rw [w3]; exact hgr.trans q2) q3

end
end Go.Sym
