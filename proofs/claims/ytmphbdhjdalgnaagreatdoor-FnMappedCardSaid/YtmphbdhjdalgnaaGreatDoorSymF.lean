/- The symbolic machine and the model: loads and stores. -/
import Derived.Test.YtmphbdhjdalgnaaGreatDoorSymE
namespace Go.Sym
set_option linter.unusedVariables false
set_option linter.unusedSimpArgs false
set_option linter.unusedSectionVars false
variable [Globs] [Dm]

section
variable {R : Type} {P : Program} {E : Env} {C : Ctx} {B : Nat} {L : Fr} {hp : Nat → Option Ob} {k : AV → Sets → Option R} {r : R}

theorem avs_rep : ∀ (e : ET) (x : e.T) (cs : List Value), RepT C.F C.w e x cs → RepL C (e.avs x) cs
  | .int _, _, _, h => by simp only [RepT] at h; subst h; exact RepL_cons (by unfold Rep; rfl) RepL_nil
  | .bool, _, _, h => by simp only [RepT] at h; subst h; exact RepL_cons (by unfold Rep; rfl) RepL_nil
  | .str, _, _, h => by simp only [RepT] at h; subst h; exact RepL_cons (by unfold Rep; rfl) RepL_nil
  | .pair a b, p, cs, h => by obtain ⟨c1, c2, rfl, h1, h2⟩ := h; exact RepL_append _ _ _ _ (avs_rep a _ _ h1) (avs_rep b _ _ h2)
  | .lst e, ys, cs, h => by
    have h' := h
    obtain ⟨a, c, rfl, _⟩ := h
    exact RepL_cons (by unfold Rep; exact h') RepL_nil

theorem RepL_one {c : AV} {vs : List Value} (h : RepL C [c] vs) : ∃ v, vs = [v] ∧ Rep C c v := by
  unfold RepL at h
  obtain ⟨v, r, rfl, h1, h2⟩ := h
  unfold RepL at h2
  subst h2
  exact ⟨v, rfl, h1⟩

theorem un_rep : ∀ (e : ET) (cs : List AV) (y : e.T) (vs : List Value), e.un cs = some y → RepL C cs vs → RepT C.F C.w e y vs
  | .int k, cs, y, vs, h, hr => by
    simp only [ET.un] at h
    split at h <;> simp_all
    obtain ⟨rfl, rfl⟩ := h
    obtain ⟨v, rfl, hv⟩ := RepL_one hr
    unfold Rep at hv; subst hv; simp [RepT]
  | .bool, cs, y, vs, h, hr => by
    simp only [ET.un] at h
    split at h <;> simp_all
    obtain ⟨v, rfl, hv⟩ := RepL_one hr
    unfold Rep at hv; subst hv; simp [RepT]
  | .str, cs, y, vs, h, hr => by
    simp only [ET.un] at h
    split at h <;> simp_all
    obtain ⟨v, rfl, hv⟩ := RepL_one hr
    unfold Rep at hv; subst hv; simp [RepT]
  | .pair a b, cs, y, vs, h, hr => by
    simp only [ET.un] at h
    split at h
    · rename_i x1 x2 h1 h2
      cases h
      have r1 := un_rep a _ x1 _ h1 (RepL_take a.sz _ _ hr)
      have r2 := un_rep b _ x2 _ h2 (RepL_drop a.sz _ _ hr)
      exact ⟨_, _, (List.take_append_drop a.sz vs).symm, r1, r2⟩
    · cases h
  | .lst e, cs, y, vs, h, hr => by
    simp only [ET.un] at h
    split at h <;> simp_all
    · obtain ⟨he, rfl⟩ := h
      subst he
      obtain ⟨v, rfl, hv⟩ := RepL_one hr
      unfold Rep at hv; exact hv
    · obtain ⟨he, rfl⟩ := h
      obtain ⟨v, rfl, hv⟩ := RepL_one hr
      unfold Rep at hv
      subst hv
      exact ⟨none, 0, rfl, Nat.le_refl _, .inl rfl⟩

theorem run_isAgg' {t : TypeId} {ti : TI} (hT : TyRow P t ti) (w : World) : (isAgg t).run P w = .ok ti.td.isStrct w := by
  obtain ⟨d, hd, ha⟩ := hT.agg
  unfold isAgg
  rw [Sem.run_bind, run_underlying hd w]
  unfold aggB at ha
  rw [hd] at ha
  cases d <;> simp_all

theorem run_size' {t : TypeId} {ti : TI} (hT : TyRow P t ti) (w : World) : (sizeOf t).run P w = .ok ti.size w := by
  obtain ⟨i, z, hi, hs, _⟩ := hT.get
  simp [sizeOf, typeInfo, hi, hs]

theorem run_zero' {t : TypeId} {ti : TI} (hT : TyRow P t ti) (w : World) : ∃ z, (zeroValue t).run P w = .ok z w ∧ z.cells = (ti.zero.map vz).toArray := by
  obtain ⟨i, z, hi, _, _, hz, hc⟩ := hT.get
  exact ⟨z, by simp [zeroValue, typeInfo, hi, hz], hc⟩

theorem Addr.add' (b o j : Nat) : (⟨b, o, none⟩ : Addr).add j = ⟨b, o + j, none⟩ := by unfold Addr.add; split <;> simp_all

theorem run_loadVar' {t : TypeId} {ti : TI} (hT : TyRow P t ti) {w : World} {b o : Nat} {vs : List Value} (hc : CellsAt w b o vs) (off : Nat) :
    (ti.td.isStrct = true → off + ti.size ≤ vs.length → (loadVar t ⟨b, o + off, none⟩).run P w = .ok (.agg ((vs.drop off).take ti.size).toArray) w) ∧
    (ti.td.isStrct = false → ∀ v, vs[off]? = some v → (loadVar t ⟨b, o + off, none⟩).run P w = .ok v w) := by
  refine ⟨fun ha hl => ?_, fun ha v hv => ?_⟩
  · have hlen : ((vs.drop off).take ti.size).length = ti.size := by simp; omega
    have hr : (loadCells ⟨b, o + off, none⟩ ti.size).run P w = .ok ((vs.drop off).take ti.size).toArray w := by
      have := run_loadCells_list (P := P) w ⟨b, o + off, none⟩ ((vs.drop off).take ti.size) (fun j v hj => by
        rw [Addr.add', Nat.add_assoc]
        refine hc _ _ ?_
        rw [List.getElem?_take] at hj
        split at hj
        · simpa using hj
        · cases hj)
      rwa [hlen] at this
    unfold loadVar
    simp [run_isAgg' hT, ha, run_size' hT, hr]
  · unfold loadVar
    simp [run_isAgg' hT, ha, hc off v hv]

theorem readCells_ok {o : Oper} {a : Act} (hH : Heap C B L hp) {t : TypeId} {ti : TI} (hT : TyRow P t ti) {cs : List AV} {vs : List Value} {b p off : Nat}
    (hr : RepL C cs vs) (hc : CellsAt C.w b p vs) (ho : ∀ v, (loadVar t ⟨b, p + off, none⟩).run P C.w = .ok v C.w → (execOp a.eval o).run P C.w = .ok (.value v) C.w)
    (h : readCells k ti cs off = some r) : OpOK P o a C B L hp k r := by
  have hl := run_loadVar' hT hc off
  unfold readCells at h
  split at h
  · rename_i fs hs
    split at h
    · rename_i hle
      have hlen := RepL_len _ _ hr
      refine OpOK.pure hH (ho _ (hl.1 (by simp [hs, TD.isStrct]) (by omega))) h ?_
      unfold Rep
      exact ⟨_, rfl, by simpa using RepL_take _ _ _ (RepL_drop off _ _ hr)⟩
    · cases h
  · cases h
  · rename_i hs hs2
    split at h
    · rename_i c hc'
      obtain ⟨v, hv, hrv⟩ := RepL_get _ _ hr off c hc'
      refine OpOK.pure hH (ho _ (hl.2 ?_ v hv)) h hrv
      cases hd : ti.td <;> first | rfl | exact absurd hd (hs _) | exact absurd hd (hs2 _ _)
    · cases h

theorem flatten_get {F : Nat → Prop} {w : World} {e : ET} : ∀ (ys : List e.T) (css : List (List Value)), All2 (RepT F w e) ys css → ∀ (i : Nat) (y : e.T), ys[i]? = some y →
    ∃ cs, css[i]? = some cs ∧ RepT F w e y cs ∧ ∀ j v, cs[j]? = some v → css.flatten[i * e.sz + j]? = some v
  | [], _, _, i, y, h => by simp at h
  | x :: xs, [], h, _, _, _ => h.elim
  | x :: xs, c :: css, ⟨h1, h2⟩, i, y, hy => by
    have hl := RepT_len _ _ _ h1
    cases i with
    | zero =>
      simp at hy; subst hy
      refine ⟨c, rfl, h1, fun j v hv => ?_⟩
      have : j < c.length := by rw [List.getElem?_eq_some_iff] at hv; exact hv.1
      simp [List.getElem?_append_left this, hv]
    | succ i =>
      simp at hy
      obtain ⟨cs, hcs, hr, hg⟩ := flatten_get xs css h2 i y hy
      refine ⟨cs, by simpa using hcs, hr, fun j v hv => ?_⟩
      have := hg j v hv
      rw [List.flatten_cons, List.getElem?_append_right (by rw [hl, Nat.add_mul]; omega), hl]
      rw [show (i + 1) * e.sz + j - e.sz = i * e.sz + j by rw [Nat.add_mul]; omega]
      exact this

theorem flatten_len {F : Nat → Prop} {w : World} {e : ET} : ∀ (ys : List e.T) (css : List (List Value)), All2 (RepT F w e) ys css → css.flatten.length = ys.length * e.sz
  | [], [], _ => by simp
  | [], _ :: _, h => h.elim
  | _ :: _, [], h => h.elim
  | x :: xs, c :: css, ⟨h1, h2⟩ => by
    rw [List.flatten_cons, List.length_append, flatten_len xs css h2, RepT_len _ _ _ h1, List.length_cons, Nat.add_mul]; omega

/-- An element of a row of the call's own, in memory. -/
theorem row_elem {t : TypeId} {e : ET} {ys : List e.T} {g n c : Nat} (h : RowRep C t e ys (.slice (some ⟨g, 0, none⟩) n c)) {i : Nat} {y : e.T} (hy : ys[i]? = some y) :
    ∃ cs, RepT C.F C.w e y cs ∧ CellsAt C.w g (i * e.sz) cs := by
  rcases h with ⟨rfl, _⟩ | ⟨g', cap, cur, css, e1, h0, hg, h1, h2, h3, h4, h5⟩
  · simp at hy
  · simp at e1
    obtain ⟨rfl, _, _⟩ := e1
    obtain ⟨cs, hcs, hr, hf⟩ := flatten_get ys css h4 i y hy
    refine ⟨cs, hr, fun j v hv => ?_⟩
    have := hf j v hv
    rw [← h5, List.getElem?_take] at this
    split at this
    · rw [cell_of_row C.w g _ cur t (0, 0) hg]; simpa using this
    · cases this

theorem sat_br {α : Type} {b : Bool} {x y r : Option α} : br b x y = r → (b = true ∧ x = r) ∨ (b = false ∧ y = r) := by
  rw [br_def]; cases b <;> simp

theorem some_none {α : Type} {x : α} {P : Prop} (h : none = some x) : P := by cases h

theorem getD_get {α : Type} {l : List α} {i : Nat} {d : α} (h : i < l.length) : l[i]? = some (l.getD i d) := by
  simp [List.getD, List.getElem?_eq_getElem h]

theorem aload_ok {o : Oper} {a : Act} (hT : TyOk P E) (hH : Heap C B L hp) {t : TypeId} {x : Operand} {v : AV} (ho : o.op = .load t x) (hv : Rep C v (a.eval x)) (h : aload E hp k t v = some r) :
    OpOK P o a C B L hp k r := by
  unfold aload at h
  split at h
  · cases h
  rename_i ti hti
  have hR := hT.row hti
  have hrun : ∀ b p, a.eval x = .pointer (some ⟨b, p, none⟩) → ∀ u, (loadVar t ⟨b, p, none⟩).run P C.w = .ok u C.w → (execOp a.eval o).run P C.w = .ok (.value u) C.w := by
    intro b p hx u hu
    simp [execOp, ho, Instr.loadAt, Instr.sureAddr, hx, hu]
  split at h
  · rename_i cs off
    unfold Rep at hv
    obtain ⟨b, p, vs, hx, _, hr, hc⟩ := hv
    exact readCells_ok hH hR hr hc (hrun _ _ hx) h
  · rename_i g off
    unfold Rep at hv
    split at h
    · rename_i kd ns hg
      split at h
      · cases h
      · rename_i hst
        rcases sat_br h with ⟨hlt, h⟩ | ⟨_, h⟩
        · have hlt := of_decide_eq_true hlt
          obtain ⟨_, hcell, _⟩ := hH.glob.1 _ (lookup_mem _ _ _ hg)
          have hcs : CellsAt C.w g 0 (ns.map (Value.int kd)) := by
            intro i v hi
            rw [List.getElem?_map] at hi
            obtain ⟨x, hx, rfl⟩ := Option.map_eq_some_iff.1 hi
            have hil : i < ns.length := (List.getElem?_eq_some_iff.1 hx).1
            rw [Nat.zero_add, hcell i hil]
            simp [List.getD, hx]
          have hl := (run_loadVar' hR hcs off).2 (by simpa using hst) (.int kd (ns.getD off 0)) (by rw [List.getElem?_map, getD_get (d := 0) hlt]; rfl)
          rw [Nat.zero_add] at hl
          exact OpOK.pure hH (hrun _ _ hv _ hl) h (by unfold Rep; rfl)
        · cases h
    · cases h
  · rename_i id off
    unfold Rep at hv
    split at h
    · rename_i bt cs hb
      obtain ⟨pv, hρ, b, vs, e1, hg, hr⟩ := hH.som id _ hb
      obtain ⟨_, b', hx, e2⟩ := hv
      have e2 := e2 pv hρ
      rw [e1] at e2; simp at e2; subst e2
      refine readCells_ok (p := 0) hH hR hr (fun i v hi => ?_) (by simpa using hrun _ _ hx) h
      rw [Nat.zero_add, cell_of_row C.w b i vs bt (0, 0) hg]; simpa using hi
    · cases h
  · rename_i id i sz off
    unfold Rep at hv
    split at h
    · rename_i bt e ys hb
      split at h
      · rename_i hsz
        rcases sat_br h with ⟨hlt, h⟩ | ⟨_, h⟩
        · have hlt := of_decide_eq_true hlt
          obtain ⟨pv, hρ, hob⟩ := hH.som id _ hb
          have hex : ∃ g n c, pv = .slice (some ⟨g, 0, none⟩) n c := by
            rcases hob with ⟨rfl, _⟩ | ⟨g, cap, _, _, e1, _⟩
            · simp at hlt
            · exact ⟨_, _, _, e1⟩
          obtain ⟨g, n, c, rfl⟩ := hex
          obtain ⟨_, b', hx, e2⟩ := hv
          obtain ⟨n', c', e2⟩ := e2 _ hρ
          simp at e2
          obtain ⟨rfl, rfl, rfl⟩ := e2
          obtain ⟨cs, hr, hc⟩ := row_elem hob (getD_get (d := e.dft) hlt)
          subst hsz
          exact readCells_ok hH hR (avs_rep _ _ _ hr) hc (hrun _ _ hx) h
        · cases h
      · cases h
    · cases h
  · cases h

end
end Go.Sym
