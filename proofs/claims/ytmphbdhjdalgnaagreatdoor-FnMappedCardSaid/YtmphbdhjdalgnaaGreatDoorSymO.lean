/- The symbolic machine and the model: a state; an operation; a region in the text's order. -/
import Derived.Test.YtmphbdhjdalgnaaGreatDoorSymN
namespace Go.Sym
set_option linter.unusedVariables false
set_option linter.unusedSimpArgs false
set_option linter.unusedSectionVars false
variable [Globs] [Dm]

structure Rel (n B : Nat) (L : Fr) (C : Ctx) (s : S) (a : Act) : Prop where
  defers : a.defers = []
  size : a.tmps.size = n
  tm : ∀ t, Rep C (s.tm t) (a.tmps.getD t undef)
  heap : Heap C B L s.hp
  base : B ≤ C.w.heap.size

section
variable {R : Type} {P : Program} {E : Env} {C : Ctx} {n B : Nat} {L : Fr} {s : S} {a : Act} {r : R} {o : Oper}

theorem cval_rep (v : Value) : Rep C (cval v) v := by
  unfold cval
  split <;> (unfold Rep; first | rfl | trivial)

theorem Rel.eval (h : Rel n B L C s a) (x : Operand) : Rep C (getv s.tm x) (a.eval x) := by
  cases x with
  | tmp t =>
    have := h.tm t
    simpa [getv, Act.eval, Array.getD_eq_getD_getElem?] using this
  | const v => exact cval_rep v
  | global g => unfold getv Rep; trivial
  | func f => unfold getv Rep; exact ⟨#[], rfl, RepL_nil⟩

theorem Rel.put {C' : Ctx} {d : Nat} {v : AV} {u : Sets} {v' : Value} (h : Rel n B L C s a) {M : Prop} (hP : Post C B L s.hp d M v u v' C') (hd : ∀ d, o.dst = some d → d < n) : Rel n B L C' (put o s v u) (a.put o.dst v') := by
  refine ⟨?_, ?_, fun t => ?_, hP.heap, Nat.le_trans h.base hP.gr.size⟩
  · cases hdst : o.dst <;> simp [Act.put, h.defers]
  · cases hdst : o.dst <;> simp [Act.put, h.size]
  · have ht := Rep_mono hP.le _ _ (h.tm t)
    cases hdst : o.dst with
    | none => simpa [Go.Sym.put, hdst, Act.put] using ht
    | some d' =>
      have hlt := hd d' hdst
      simp only [Go.Sym.put, hdst, Act.put, setTm]
      by_cases he : t = d'
      · subst he
        have : (a.tmps.setIfInBounds t v').getD t undef = v' := by
          simp [Array.getD_eq_getD_getElem?, h.size, hlt]
        rw [if_pos rfl, this]
        exact hP.rep
      · have : (a.tmps.setIfInBounds d' v').getD t undef = a.tmps.getD t undef := by
          simp [Array.getD_eq_getD_getElem?, Array.getElem?_setIfInBounds_ne (fun e => he e.symm)]
        rw [if_neg he, this]
        exact ht

/-- What an operation does to the state, or that its guard shuts it out. -/
noncomputable def effO (E : Env) (ops : Array Oper) (o : Oper) (s : S) : Option (AV × Sets) :=
  match wanted? ops o s with
  | some true => aopN E s.hp (getv s.tm) o (o.dst.getD 0) pr
  | some false => some (.tup [], [])
  | none => none

theorem step_eff (ops : Array Oper) (k : S → Option R) : step E ops o s k = (effO E ops o s).bind fun p => k (put o s p.1 p.2) := by
  unfold step effO wanted?
  have hgo : (aopN E s.hp (getv s.tm) o (o.dst.getD 0) fun v u => putK o s v u k) = (aopN E s.hp (getv s.tm) o (o.dst.getD 0) pr).bind fun p => k (put o s p.1 p.2) := by
    rw [aopN_bind]
    simp only [putK_eq]
  simp only [hgo]
  simp only [putK_eq]
  cases hg : o.guard with
  | none => rfl
  | some gw =>
    obtain ⟨g, want⟩ := gw
    simp only
    cases ht : (ops[g]?).bind (·.dst) with
    | none => rfl
    | some t =>
      simp only
      cases hv : s.tm t <;> try rfl
      rename_i b
      cases b <;> cases want <;> simp [br_def]

theorem stepE_eff (ops : Array Oper) (k : S → Ent → Option R) : stepE E ops o s k = (effO E ops o s).bind fun p => k (put o s p.1 p.2) (entOf ops o s p.2) := by
  have hgo : ∀ rd rs, (aopN E s.hp (getv s.tm) o (o.dst.getD 0) fun v u => k (put o s v u) ⟨u.map (·.1), rd, wrS (getv s.tm) o u, rs⟩) = (aopN E s.hp (getv s.tm) o (o.dst.getD 0) pr).bind fun p => k (put o s p.1 p.2) ⟨p.2.map (·.1), rd, wrS (getv s.tm) o p.2, rs⟩ :=
    fun rd rs => aopN_bind (fun v u => k (put o s v u) ⟨u.map (·.1), rd, wrS (getv s.tm) o u, rs⟩)
  have hnil : wrS (getv s.tm) o [] = [] := by
    unfold wrS
    split
    · split <;> rfl
    · split <;> rfl
    · rfl
  unfold stepE effO entOf
  simp only [fNs_eq, putK_eq, hgo]
  unfold wanted?
  cases hg : o.guard with
  | none => rfl
  | some gw =>
    obtain ⟨g, want⟩ := gw
    simp only
    cases ht : (ops[g]?).bind (·.dst) with
    | none => rfl
    | some t =>
      simp only
      cases hv : s.tm t <;> try (first | rfl | (simp [hnil]; done))
      rename_i b
      cases b <;> cases want <;> simp [br_def, hnil]

theorem Rel.wanted {ops : Array Oper} (h : Rel n B L C s a) {b : Bool} (hw : wanted? ops o s = some b) : Region.wanted o (yielded ops a.tmps) = b := by
  unfold wanted? at hw
  unfold Region.wanted
  cases hg : o.guard with
  | none => rw [hg] at hw; cases hw; rfl
  | some gw =>
    obtain ⟨g, want⟩ := gw
    rw [hg] at hw
    simp only at hw ⊢
    cases ht : (ops[g]?).bind (·.dst) with
    | none => rw [ht] at hw; cases hw
    | some t =>
      rw [ht] at hw
      simp only at hw
      have hr := h.tm t
      rw [Array.getD_eq_getD_getElem?] at hr
      cases hv : s.tm t <;> rw [hv] at hw hr <;> try (cases hw; done)
      · rename_i c
        cases hw
        unfold Rep at hr
        have hy : yielded ops a.tmps g = some c := by
          unfold yielded
          rw [ht]
          simp only [Option.bind_some]
          cases hq : a.tmps[t]? with
          | none => rw [hq] at hr; simp [undef] at hr
          | some u => rw [hq] at hr; simp at hr; subst hr; rfl
        rw [hy]
        simp
      · cases hw
        unfold Rep at hr
        obtain ⟨vs, hr, -⟩ := hr
        have hy : yielded ops a.tmps g = none := by
          unfold yielded
          rw [ht]
          simp only [Option.bind_some]
          cases hq : a.tmps[t]? with
          | none => rfl
          | some u => rw [hq] at hr; simp at hr; subst hr; rfl
        rw [hy]
        rfl

structure Facts (P : Program) (E : Env) : Prop where
  ty : TyOk P E
  fns : ∀ f, (∃ avs hin, E.fns f avs hin ≠ none) → FnOk P f (E.fns f)
  mixed : P.follows .mixedOrders = true

/-- An operation of a region, in the model. -/
theorem eff_ok (hE : Facts P E) (hR : Rel n B L C s a) {ops : Array Oper} {i : Nat} (hi : ops[i]? = some o) (hd : ∀ d, o.dst = some d → d < n) (hf : makes o = true → Free C (o.dst.getD 0)) {v : AV} {u : Sets} (he : effO E ops o s = some (v, u))
    {K : Act → World → Prop} {Q : Exit → Act → World → Prop} (hK : ∀ C' a', Rel n B L C' (put o s v u) a' → (∀ id, C'.A id → C.A id ∨ (makes o = true ∧ id / 1000 = o.dst.getD 0 + 1)) → Gr B L C.w C'.w → K a' C'.w) : wpOp P ops Q i K a C.w := by
  unfold wpOp
  rw [hi]
  simp only
  unfold effO at he
  split at he
  · rename_i hw
    rw [hR.wanted hw]
    simp only [if_true]
    refine .inl ?_
    refine aopN_ok (k := pr) (r := (v, u)) hE.ty hE.fns hR.heap hR.base hR.eval hf he K Q (fun v0 u0 v' C' h0 hP => ?_)
    cases h0
    exact hK C' _ (hR.put hP hd) hP.new hP.gr
  · rename_i hw
    rw [hR.wanted hw]
    cases he
    simp only [Bool.false_eq_true, if_false]
    exact hK C (a.put o.dst undef) (hR.put (d := o.dst.getD 0) (M := True) (Post.pure hR.heap (by unfold Rep; exact ⟨#[], rfl, by unfold RepL; rfl⟩)) hd) (fun id h => .inl h) (Gr.refl _ _ _)
  · cases he

theorem runOps_ok (hE : Facts P E) {ops : Array Oper} {k : S → Option R} {Q : Exit → Act → World → Prop} : ∀ (l : List Oper) (i : Nat) (C : Ctx) (s : S) (a : Act), Rel n B L C s a → ops.toList.drop i = l →
    (∀ o ∈ l, ∀ d, o.dst = some d → d < n) → (l.filterMap fun o => if makes o then some (o.dst.getD 0 + 1) else none).Nodup → (∀ o ∈ l, makes o = true → Free C (o.dst.getD 0)) → runOps E ops l s k = some r →
    (∀ C' s' a', Rel n B L C' s' a' → Gr B L C.w C'.w → k s' = some r → Q .normal a' C'.w) → wpOps P ops Q (List.range' i l.length) a C.w
  | [], i, C, s, a, hR, hl, hd, hn, hf, h, hQ => by
    simp only [List.length_nil, List.range'_zero, wpOps]
    exact hQ C s a hR (Gr.refl _ _ _) h
  | o :: l, i, C, s, a, hR, hl, hd, hn, hf, h, hQ => by
    have hi : ops[i]? = some o := by
      have : ops.toList[i]? = some o := by
        have := congrArg List.head? hl
        simpa [List.head?_drop] using this
      simpa using this
    have hl' : ops.toList.drop (i + 1) = l := by
      have := congrArg List.tail hl
      simpa [List.tail_drop] using this
    simp only [runOps] at h
    rw [step_eff] at h
    obtain ⟨⟨v, u⟩, he, h⟩ := Option.bind_eq_some_iff.1 h
    rw [List.length_cons, List.range'_succ, wpOps_cons]
    refine eff_ok hE hR hi (hd o (by simp)) (hf o (by simp)) he (fun C' a' hR' hA hgr => ?_)
    have hn' : (l.filterMap fun o => if makes o then some (o.dst.getD 0 + 1) else none).Nodup := by
      simp only [List.filterMap_cons] at hn
      split at hn
      · exact hn
      · exact (List.nodup_cons.1 hn).2
    refine runOps_ok hE l (i + 1) C' _ a' hR' hl' (fun o' ho' => hd o' (by simp [ho'])) hn' (fun o' ho' hm id hid hAid => ?_) h (fun C2 s2 a2 h1 h2 h3 => hQ C2 s2 a2 h1 (hgr.trans h2) h3)
    rcases hA id hAid with hA | hA
    · exact hf o' (by simp [ho']) hm id hid hA
    · -- the same place twice
      simp only [List.filterMap_cons, hA.1, if_true] at hn
      refine (List.nodup_cons.1 hn).1 ?_
      rw [List.mem_filterMap]
      exact ⟨o', ho', by rw [if_pos hm, ← hid, hA.2]⟩

end
end Go.Sym
