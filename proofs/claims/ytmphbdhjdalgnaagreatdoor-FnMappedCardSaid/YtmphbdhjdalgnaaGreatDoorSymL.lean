/- The symbolic machine and the model: calls. -/
import Derived.Test.YtmphbdhjdalgnaaGreatDoorSymK
namespace Go.Sym
set_option linter.unusedVariables false
set_option linter.unusedSimpArgs false
set_option linter.unusedSectionVars false
variable [Globs] [Dm]

def ofL (obs : List Ob) : Nat → Option Ob := fun i => obs[i]?

/-- What the table says of a function is so: whatever it is handed, to read or to write, it returns what the table says. -/
structure FnOk (P : Program) (g : FuncId) (f : List AV → List Ob → Option (AV × List Ob)) : Prop where
  enter : ∃ fn, P.funcs[g]? = some fn ∧ (fn.name == "runtime.NumGoroutine") = false ∧ fn.body.isNone = false
  calls : ∀ avs hin r hout, f avs hin = some (r, hout) → ∀ (C : Ctx) (L : Fr) (vs : List Value), Heap C C.w.heap.size L (ofL hin) → L.m = hin.length → RepL C avs vs →
    Calls P g vs.toArray C.w fun e w' => ∃ v C', e = .returned v ∧ C'.w = w' ∧ Rep C' r v ∧ Heap C' C.w.heap.size L (ofL hout) ∧ Gr C.w.heap.size L C.w w'

section
variable {R : Type} {P : Program} {E : Env} {C : Ctx} {B : Nat} {L : Fr} {hp : Nat → Option Ob} {k : AV → Sets → Option R} {r : R} {o : Oper} {a : Act}

theorem RepL_map {C C' : Ctx} {f : AV → AV} : ∀ (cs : List AV) (vs : List Value), (∀ c v, c ∈ cs → Rep C c v → Rep C' (f c) v) → RepL C cs vs → RepL C' (cs.map f) vs
  | [], vs, _, h => by unfold RepL at h; subst h; exact RepL_nil
  | c :: cs, vs, hf, h => by
    unfold RepL at h
    obtain ⟨v, r, rfl, h1, h2⟩ := h
    exact RepL_cons (hf c v (by simp) h1) (RepL_map cs r (fun c v hc => hf c v (by simp [hc])) h2)

theorem All2_of {α β : Type} {R : α → β → Prop} : ∀ {l : List α} {m : List β}, l.length = m.length → (∀ (i : Nat) a b, l[i]? = some a → m[i]? = some b → R a b) → All2 R l m
  | [], [], _, _ => trivial
  | [], _ :: _, h, _ => by simp at h
  | _ :: _, [], h, _ => by simp at h
  | a :: l, b :: m, h, g => ⟨g 0 a b rfl rfl, All2_of (by simpa using h) fun i x y q1 q2 => g (i + 1) x y (by simpa using q1) (by simpa using q2)⟩

/-- What a callee that only reads sees. -/
theorem imm_rep (hH : Heap C B L hp) {F' : Nat → Prop} (hF : ∀ b, C.F b → F' b) : ∀ (n : Nat) (c : AV) (v : Value), (c.owns n = true → ∀ i b, C.own i b → F' b) → Rep C c v →
    Rep ⟨fun _ => False, F', fun _ => none, C.w, fun _ _ => False⟩ (c.imm hp n) v
  | 0, c, v, _, _ => by unfold AV.imm Rep; trivial
  | n + 1, c, v, ho, h => by
    have hF0 : ∀ (e : ET) (x : e.T) cs, RepT C.F C.w e x cs → RepT F' C.w e x cs := fun e x cs h => RepT_mono hF (fun _ _ => rfl) e x cs h
    cases c with
    | own id =>
      have hb := ho (by simp [AV.owns])
      simp only [AV.imm]
      split
      · rename_i t e ys hl
        obtain ⟨pv, hρ, hob⟩ := hH.som id _ hl
        unfold Rep at h
        have hv := h.2.2 pv hρ
        unfold Rep
        rcases hob with ⟨rfl, a, rfl⟩ | ⟨g, cap, cur, css, rfl, h0, hg, h1, h2, h3, h4, h5⟩
        · exact ⟨a, 0, by rw [hv]; rfl, Nat.le_refl _, .inl rfl⟩
        · refine ⟨_, cap, by rw [hv], h1, .inr ⟨g, 0, css, rfl, hb id g (.inl (by rw [hρ]; simp [blk, h0])), All2.imp (fun x cs h => hF0 e x cs h) _ _ h4, fun j u hj => ?_⟩⟩
          rw [Nat.zero_add, cell_of_row C.w g _ cur t (0, 0) hg]
          rw [← h5, List.getElem?_take] at hj
          split at hj
          · simpa using hj
          · cases hj
      · rename_i t el e yss hl
        obtain ⟨pv, hρ, hob⟩ := hH.som id _ hl
        unfold Rep at h
        have hv := h.2.2 pv hρ
        unfold Rep
        rcases hob with ⟨rfl, _, a, rfl⟩ | ⟨g, cap, cur, vs, rfl, h0, hg, h1, h2, h3, h4, h5, h6⟩
        · exact ⟨a, 0, by rw [hv]; rfl, Nat.le_refl _, .inl rfl⟩
        · have hcss : All2 (RepT F' C.w (.lst e)) yss (vs.map fun v => [v]) := by
            refine All2_of (by rw [List.length_map, h6.len]) fun i ys cs q1 q2 => ?_
            rw [List.getElem?_map] at q2
            obtain ⟨v, q3, rfl⟩ := Option.map_eq_some_iff.1 q2
            obtain ⟨r1, r2⟩ := h6.rows i ys v q1 q3 (fun n e => by cases e)
            rcases r1 with ⟨rfl, a, rfl⟩ | ⟨g', cap', cur', css', rfl, k0, kg, k1, k2, k3, k4, k5⟩
            · exact ⟨a, 0, rfl, Nat.le_refl _, .inl rfl⟩
            · refine ⟨_, cap', rfl, k1, .inr ⟨g', 0, css', rfl, hb id g' (.inr (r2 g' (by simp [blk, k0]))), All2.imp (fun x cs h => hF0 e x cs h) _ _ k4, fun j u hj => ?_⟩⟩
              rw [Nat.zero_add, cell_of_row C.w g' _ cur' el (0, 0) kg]
              rw [← k5, List.getElem?_take] at hj
              split at hj
              · simpa using hj
              · cases hj
          refine ⟨_, cap, by rw [hv], h1, .inr ⟨g, 0, _, rfl, hb id g (.inl (by rw [hρ]; simp [blk, h0])), hcss, fun j u hj => ?_⟩⟩
          rw [Nat.zero_add, cell_of_row C.w g _ cur t (0, 0) hg]
          have hfl : (vs.map fun v => [v]).flatten = vs := by
            clear hcss h6 h4 hj
            induction vs with
            | nil => rfl
            | cons x xs ih => simp [ih]
          rw [hfl, ← h4, List.getElem?_take] at hj
          split at hj
          · simpa using hj
          · cases hj
      · unfold Rep; trivial
    | ptr id off =>
      have hb := ho (by simp [AV.owns])
      simp only [AV.imm]
      split
      · rename_i t cs hl
        obtain ⟨pv, hρ, b, vs, e1, hg, hr⟩ := hH.som id _ hl
        unfold Rep at h
        obtain ⟨_, b', hv, e2⟩ := h
        have e2 := e2 pv hρ
        rw [e1] at e2; simp at e2; subst e2
        unfold Rep
        refine ⟨b, 0, vs.toList, by simpa using hv, hb id b (.inl (by rw [hρ, e1]; simp [blk])), RepL_map cs vs.toList (fun c v _ hc => imm_rep hH hF n c v (fun _ => hb) hc) hr, fun i u hi => ?_⟩
        rw [Nat.zero_add, cell_of_row C.w b i vs t (0, 0) hg]; simpa using hi
      · unfold Rep; trivial
    | rptr id i sz off => simp only [AV.imm]; unfold Rep; trivial
    | sub id lo sz => simp only [AV.imm]; unfold Rep; trivial
    | mp id => simp only [AV.imm]; unfold Rep; trivial
    | clo f caps =>
      simp only [AV.imm]
      unfold Rep at h ⊢
      obtain ⟨vs, e, h⟩ := h
      exact ⟨vs, e, RepL_map caps vs.toList (fun c v hm hc => imm_rep hH hF n c v (fun h1 => ho (by simp only [AV.owns, List.any_eq_true]; exact ⟨c, hm, h1⟩)) hc) h⟩
    | agg caps =>
      simp only [AV.imm]
      unfold Rep at h ⊢
      obtain ⟨vs, e, h⟩ := h
      exact ⟨vs, e, RepL_map caps vs.toList (fun c v hm hc => imm_rep hH hF n c v (fun h1 => ho (by simp only [AV.owns, List.any_eq_true]; exact ⟨c, hm, h1⟩)) hc) h⟩
    | tup caps =>
      simp only [AV.imm]
      unfold Rep at h ⊢
      obtain ⟨vs, e, h⟩ := h
      exact ⟨vs, e, RepL_map caps vs.toList (fun c v hm hc => imm_rep hH hF n c v (fun h1 => ho (by simp only [AV.owns, List.any_eq_true]; exact ⟨c, hm, h1⟩)) hc) h⟩
    | vptr caps off =>
      simp only [AV.imm]
      unfold Rep at h ⊢
      obtain ⟨b, p, vs, e, hb, h, hc⟩ := h
      exact ⟨b, p, vs, e, hF b hb, RepL_map caps vs (fun c v hm hc => imm_rep hH hF n c v (fun h1 => ho (by simp only [AV.owns, List.any_eq_true]; exact ⟨c, hm, h1⟩)) hc) h, hc⟩
    | zc t e =>
      simp only [AV.imm]
      unfold Rep at h ⊢
      subst h
      exact ⟨none, 0, rfl, Nat.le_refl _, .inl rfl⟩
    | lst e ys => simp only [AV.imm]; unfold Rep at h ⊢; exact hF0 (.lst e) ys [v] h
    | any => simp only [AV.imm]; unfold Rep; trivial
    | bool _ => simp only [AV.imm]; unfold Rep at h ⊢; exact h
    | int _ _ => simp only [AV.imm]; unfold Rep at h ⊢; exact h
    | str _ => simp only [AV.imm]; unfold Rep at h ⊢; exact h
    | nils => simp only [AV.imm]; unfold Rep at h ⊢; exact h
    | nilp => simp only [AV.imm]; unfold Rep at h ⊢; exact h
    | nilf => simp only [AV.imm]; unfold Rep at h ⊢; exact h
    | nili => simp only [AV.imm]; unfold Rep at h ⊢; exact h
    | nilm => simp only [AV.imm]; unfold Rep at h ⊢; exact h
    | ifn => simp only [AV.imm]; unfold Rep at h ⊢; exact h
    | ub => simp only [AV.imm]; unfold Rep at h ⊢; exact h
    | gp g o => simp only [AV.imm]; unfold Rep at h ⊢; exact h

/-- The same value under other names. -/
theorem ren_rep {C C' : Ctx} {f : Nat → Option Nat} (hw : C'.w = C.w) (hρ : ∀ id j, f id = some j → C.A id → C'.A j ∧ C'.ρ j = C.ρ id) : ∀ (n : Nat) (c : AV) (v : Value), (c.looksOut n = true → ∀ b, C.F b → C'.F b) → Rep C c v → Rep C' (c.ren f n) v
  | 0, c, v, _, _ => by unfold AV.ren Rep; trivial
  | n + 1, c, v, ho, h => by
    cases c with
    | own id =>
      simp only [AV.ren]
      split
      · rename_i j hj
        unfold Rep at h ⊢
        obtain ⟨h1, h2⟩ := hρ id j hj h.1
        exact ⟨h1, h.2.1, fun pv hp => h.2.2 pv (by rw [← h2]; exact hp)⟩
      · unfold Rep; trivial
    | ptr id off =>
      simp only [AV.ren]
      split
      · rename_i j hj
        unfold Rep at h ⊢
        obtain ⟨h0, b, q1, q2⟩ := h
        obtain ⟨h1, h2⟩ := hρ id j hj h0
        exact ⟨h1, b, q1, fun pv hp => q2 pv (by rw [← h2]; exact hp)⟩
      · unfold Rep; trivial
    | rptr id i sz off =>
      simp only [AV.ren]
      split
      · rename_i j hj
        unfold Rep at h ⊢
        obtain ⟨h0, b, q1, q2⟩ := h
        obtain ⟨h1, h2⟩ := hρ id j hj h0
        exact ⟨h1, b, q1, fun pv hp => q2 pv (by rw [← h2]; exact hp)⟩
      · unfold Rep; trivial
    | mp id =>
      simp only [AV.ren]
      split
      · rename_i j hj
        unfold Rep at h ⊢
        obtain ⟨h1, h2⟩ := hρ id j hj h.1
        exact ⟨h1, h.2.1, fun pv hp => h.2.2 pv (by rw [← h2]; exact hp)⟩
      · unfold Rep; trivial
    | sub id lo sz =>
      simp only [AV.ren]
      split
      · rename_i j hj
        unfold Rep at h ⊢
        obtain ⟨h0, q1, q2⟩ := h
        obtain ⟨h1, h2⟩ := hρ id j hj h0
        exact ⟨h1, q1, fun pv hp => q2 pv (by rw [← h2]; exact hp)⟩
      · unfold Rep; trivial
    | clo g caps =>
      simp only [AV.ren]
      unfold Rep at h ⊢
      obtain ⟨vs, e, h⟩ := h
      exact ⟨vs, e, RepL_map caps vs.toList (fun c v hm hc => ren_rep hw hρ n c v (fun h1 => ho (by simp only [AV.looksOut, List.any_eq_true]; exact ⟨c, hm, h1⟩)) hc) h⟩
    | agg caps =>
      simp only [AV.ren]
      unfold Rep at h ⊢
      obtain ⟨vs, e, h⟩ := h
      exact ⟨vs, e, RepL_map caps vs.toList (fun c v hm hc => ren_rep hw hρ n c v (fun h1 => ho (by simp only [AV.looksOut, List.any_eq_true]; exact ⟨c, hm, h1⟩)) hc) h⟩
    | tup caps =>
      simp only [AV.ren]
      unfold Rep at h ⊢
      obtain ⟨vs, e, h⟩ := h
      exact ⟨vs, e, RepL_map caps vs.toList (fun c v hm hc => ren_rep hw hρ n c v (fun h1 => ho (by simp only [AV.looksOut, List.any_eq_true]; exact ⟨c, hm, h1⟩)) hc) h⟩
    | vptr caps off =>
      have hF := ho (by simp [AV.looksOut])
      simp only [AV.ren]
      unfold Rep at h ⊢
      obtain ⟨b, p, vs, e, hb, h, hc⟩ := h
      exact ⟨b, p, vs, e, hF b hb, RepL_map caps vs (fun c v hm hc => ren_rep hw hρ n c v (fun _ => hF) hc) h, by rw [hw]; exact hc⟩
    | lst e ys =>
      have hF := ho (by simp [AV.looksOut])
      simp only [AV.ren]; unfold Rep at h ⊢
      exact RepT_mono hF (fun _ _ => by rw [hw]) (.lst e) ys [v] h
    | any => simp only [AV.ren]; unfold Rep; trivial
    | bool _ => simp only [AV.ren]; unfold Rep at h ⊢; exact h
    | int _ _ => simp only [AV.ren]; unfold Rep at h ⊢; exact h
    | str _ => simp only [AV.ren]; unfold Rep at h ⊢; exact h
    | nils => simp only [AV.ren]; unfold Rep at h ⊢; exact h
    | zc _ _ => simp only [AV.ren]; unfold Rep at h ⊢; exact h
    | nilp => simp only [AV.ren]; unfold Rep at h ⊢; exact h
    | nilf => simp only [AV.ren]; unfold Rep at h ⊢; exact h
    | nili => simp only [AV.ren]; unfold Rep at h ⊢; exact h
    | nilm => simp only [AV.ren]; unfold Rep at h ⊢; exact h
    | ifn => simp only [AV.ren]; unfold Rep at h ⊢; exact h
    | ub => simp only [AV.ren]; unfold Rep at h ⊢; exact h
    | gp g o => simp only [AV.ren]; unfold Rep at h ⊢; exact h

theorem ren_row {C C' : Ctx} (hw : C'.w = C.w) {t : TypeId} {e : ET} {ys : List e.T} {pv : Value} (ho : e.flat = false → ∀ b, C.F b → C'.F b) (h : RowRep C t e ys pv) : RowRep C' t e ys pv := by
  rcases h with h | ⟨g, cap, cur, css, e1, h0, hg, h1, h2, h3, h4, h5⟩
  · exact .inl h
  · refine .inr ⟨g, cap, cur, css, e1, h0, by rw [hw]; exact hg, h1, h2, h3, All2.imp (fun x cs hx => ?_) _ _ h4, h5⟩
    cases hf : e.flat with
    | true => exact RepT_flat e hf x cs hx
    | false => exact RepT_mono (ho hf) (fun _ _ => by rw [hw]) e x cs hx

theorem ren_ob {C C' : Ctx} {f : Nat → Option Nat} (hw : C'.w = C.w) (hρ : ∀ id j, f id = some j → C.A id → C'.A j ∧ C'.ρ j = C.ρ id) {id j : Nat} (hin : ∀ b, C'.inn j b ↔ C.inn id b) {ob : Ob} {pv : Value} (ho : ob.looksOut = true → ∀ b, C.F b → C'.F b) (h : ObRep C id ob pv) : ObRep C' j (ob.ren f) pv := by
  cases ob with
  | box t cs =>
    obtain ⟨b, vs, e, hg, hr⟩ := h
    exact ⟨b, vs, e, by rw [hw]; exact hg, RepL_map cs vs.toList (fun c v hm hc => ren_rep hw hρ 8 c v (fun h1 => ho (by simp only [Ob.looksOut, List.any_eq_true]; exact ⟨c, hm, h1⟩)) hc) hr⟩
  | row t e ys => exact ren_row hw (fun hf => ho (by simp [Ob.looksOut, hf])) h
  | map m ps =>
    obtain ⟨b, es, ck, e, hg, hr⟩ := h
    exact ⟨b, es, ck, e, by rw [hw]; exact hg, hr⟩
  | nest t el e yss hl =>
    rcases h with ⟨h1, h2, h3⟩ | ⟨g, cap, cur, vs, e1, h0, hg, h1, h2, h3, h4, h5, h6⟩
    · exact .inl ⟨h1, by rw [h2]; rfl, h3⟩
    · have hno : ∀ i, (∀ n, Option.map (fun (p : Nat × Option Nat) => (p.1, (none : Option Nat))) hl ≠ some (i, n)) → ∀ n, hl ≠ some (i, n) := by
        rintro i h n rfl
        exact h none rfl
      refine .inr ⟨g, cap, cur, vs, e1, h0, by rw [hw]; exact hg, h1, h2, h3, h4, fun q => h5 ((hin g).1 q), ⟨h6.len, h6.slc, fun i ys v q1 q2 q3 => ?_, fun i j v v' b hij q1 q2 q3 q4 => h6.sep i j v v' b hij q1 q2 (hno i q3) (hno j q4), fun i n q => ?_⟩⟩
      · obtain ⟨r1, r2⟩ := h6.rows i ys v q1 q2 (hno i q3)
        exact ⟨ren_row hw (fun hf => ho (by simp [Ob.looksOut, hf])) r1, fun b hb => (hin b).2 (r2 b hb)⟩
      · obtain ⟨⟨i', n'⟩, q1, q2⟩ := Option.map_eq_some_iff.1 q
        cases q2
        exact ⟨(h6.hole _ n' q1).1, fun tn e => by cases e⟩

theorem dedup_spec : ∀ (l seen : List Nat), (dedup seen l).Nodup ∧ ∀ x ∈ dedup seen l, x ∉ seen
  | [], seen => by simp [dedup]
  | x :: l, seen => by
    unfold dedup
    split
    · exact dedup_spec l seen
    · rename_i h
      obtain ⟨h1, h2⟩ := dedup_spec l (x :: seen)
      refine ⟨List.nodup_cons.2 ⟨fun hm => h2 x hm (by simp), h1⟩, fun y hy => ?_⟩
      rcases List.mem_cons.1 hy with rfl | hy
      · simpa using h
      · exact fun hs => h2 y hy (by simp [hs])

theorem idx_get {l : List Nat} {id j : Nat} (h : idx l id = some j) : l[j]? = some id := by
  unfold idx at h
  rw [List.findIdx?_eq_some_iff_getElem] at h
  obtain ⟨h1, h2, _⟩ := h
  simp only [beq_iff_eq] at h2
  rw [List.getElem?_eq_getElem h1, h2]

theorem nodup_inj {l : List Nat} (h : l.Nodup) {i j : Nat} {x : Nat} (hi : l[i]? = some x) (hj : l[j]? = some x) : i = j := by
  rcases Nat.lt_trichotomy i j with hlt | he | hlt
  · exact absurd (hi.trans hj.symm) (fun e => by
      obtain ⟨h1, e1⟩ := List.getElem?_eq_some_iff.1 hi
      obtain ⟨h2, e2⟩ := List.getElem?_eq_some_iff.1 hj
      exact List.pairwise_iff_getElem.1 h i j h1 h2 hlt (e1.trans e2.symm))
  · exact he
  · exact absurd (hi.trans hj.symm) (fun e => by
      obtain ⟨h1, e1⟩ := List.getElem?_eq_some_iff.1 hi
      obtain ⟨h2, e2⟩ := List.getElem?_eq_some_iff.1 hj
      exact List.pairwise_iff_getElem.1 h j i h2 h1 hlt (e2.trans e1.symm))

/-- The memory named by a list. -/
def Ctx.named (C : Ctx) (l : List Nat) : Ctx :=
  { A := fun j => j < l.length, F := C.F, ρ := fun j => (l[j]?).bind C.ρ, w := C.w, inn := fun j b => ∃ id, l[j]? = some id ∧ C.inn id b }

theorem named_ren {l : List Nat} : ∀ id j, idx l id = some j → C.A id → (C.named l).A j ∧ (C.named l).ρ j = C.ρ id := by
  intro id j h _
  have := idx_get h
  refine ⟨(List.getElem?_eq_some_iff.1 this).1, ?_⟩
  simp [Ctx.named, this]

theorem named_own {l : List Nat} {i b : Nat} (h : (C.named l).own i b) : ∃ id, l[i]? = some id ∧ C.own id b := by
  rcases h with h | ⟨id, h1, h2⟩
  · simp only [Ctx.named] at h
    cases hl : l[i]? with
    | none => rw [hl] at h; simp [blk] at h
    | some id => rw [hl] at h; exact ⟨id, rfl, .inl h⟩
  · exact ⟨id, h1, .inr h2⟩

theorem named_mine {hp : Nat → Option Ob} (hH : Heap C B L hp) {l : List Nat} : ∀ i b, (C.named l).own i b → B ≤ b ∨ L.lent b := by
  intro i b h
  obtain ⟨x, q1, q2⟩ := named_own h
  exact hH.mine x b q2

theorem named_heap {hp : Nat → Option Ob} (hH : Heap C B L hp) {l : List Nat} (hn : l.Nodup) {B' : Nat} {L' : Fr} (hm : ∀ i b, (C.named l).own i b → B' ≤ b ∨ L'.lent b) (hfr : HF (C.named l) B' L') : Heap (C.named l) B' L' (fun (j : Nat) => ((l.map fun id => (hp id).map (Ob.ren (idx l)))[j]?).join) := by
  have hget : ∀ (j : Nat), ((l.map fun id => (hp id).map (Ob.ren (idx l)))[j]?).join = (l[j]?).bind fun id => (hp id).map (Ob.ren (idx l)) := by
    intro j
    rw [List.getElem?_map]
    cases l[j]? <;> rfl
  have hb := fun i b => named_own (C := C) (l := l) (i := i) (b := b)
  refine ⟨fun i h => ?_, fun i ob h => ?_, fun i h => ?_, fun i j b h1 h2 => ?_, fun i b h => ?_, hm, fun i b h => ?_, fun b h => hH.inb b h, hfr, hH.glob.mono (fun _ h => h) (fun _ _ => rfl)⟩
  · rw [hget] at h
    simp only [Ctx.named]
    cases hl : l[i]? with
    | none => rfl
    | some id =>
      rw [hl] at h
      simp only [Option.bind_some, Option.map_eq_none_iff] at h
      simp only [Option.bind_some]
      exact hH.non id h
  · rw [hget] at h
    obtain ⟨id, h1, h2⟩ := Option.bind_eq_some_iff.1 h
    obtain ⟨ob', h3, rfl⟩ := Option.map_eq_some_iff.1 h2
    obtain ⟨pv, h4, h5⟩ := hH.som id ob' h3
    refine ⟨pv, by simp [Ctx.named, h1, h4], ren_ob (C := C) (C' := C.named l) rfl named_ren (fun b => ⟨fun q => ?_, fun q => ⟨id, h1, q⟩⟩) (fun _ b hb => hb) h5⟩
    obtain ⟨id', q1, q2⟩ := q
    rw [h1] at q1
    cases q1
    exact q2
  · rw [hget] at h
    simp only [Ctx.named]
    cases hl : l[i]? with
    | none => rw [hl] at h; exact absurd rfl h
    | some id => exact (List.getElem?_eq_some_iff.1 hl).1
  · obtain ⟨x, q1, q2⟩ := hb i b h1
    obtain ⟨y, q3, q4⟩ := hb j b h2
    have := hH.sep x y b q2 q4
    subst this
    exact nodup_inj hn q1 q3
  · obtain ⟨x, q1, q2⟩ := hb i b h; exact hH.apart x b q2
  · obtain ⟨x, q1, q2⟩ := hb i b h; exact hH.lto x b q2

theorem gather_spec {look : Nat → Option Ob} {f : Nat → Option Nat} : ∀ (l : List Nat) (obs : List Ob), gather look f l = some obs → obs.length = l.length ∧ ∀ i : Nat, obs[i]? = ((l.map fun id => (look id).map (Ob.ren f))[i]?).join
  | [], obs, h => by
    simp only [gather, Option.some.injEq] at h
    subst h
    simp
  | id :: l, obs, h => by
    simp only [gather] at h
    split at h
    · rename_i o os h1 h2
      cases h
      obtain ⟨g1, g2⟩ := gather_spec l os h2
      refine ⟨by simp [g1], fun i => ?_⟩
      cases i with
      | zero => simp [h1]
      | succ i => simpa using g2 i
    · cases h

theorem newSets_get (d : Nat) (l : List Nat) (m : Nat) (hl : ∀ id ∈ l, id / 1000 ≠ d + 1) (hn : l.Nodup) : ∀ (obs : List Ob) (j : Nat) (hp : Nat → Option Ob) (id : Nat), j + obs.length ≤ 1000 → setHp hp (newSets d l m j obs) id =
    match idx l id with
    | some i => if j ≤ i ∧ i < j + obs.length then (obs[i - j]?).map (Ob.ren (back d l m)) else hp id
    | none => if ns d (max j l.length) ≤ id ∧ id < ns d (j + obs.length) then (obs[id - ns d j]?).map (Ob.ren (back d l m)) else hp id
  | [], j, hp, id, _ => by
    simp only [newSets, setHp, List.length_nil, Nat.add_zero]
    split
    · rw [if_neg (by omega)]
    · rw [if_neg]; unfold ns; omega
  | ob :: obs, j, hp, id, hj => by
    have ih := newSets_get d l m hl hn obs (j + 1) hp id (by simp only [List.length_cons] at hj; omega)
    simp only [newSets, setHp]
    simp only [List.length_cons] at hj ⊢
    by_cases hjl : j < l.length
    · have hname : l.getD j (ns d j) = l[j] := by simp [List.getD, hjl]
      rw [hname]
      by_cases h : id = l[j]
      · subst h
        rw [if_pos rfl]
        have hi : idx l l[j] = some j := by
          unfold idx
          rw [List.findIdx?_eq_some_iff_getElem]
          refine ⟨hjl, by simp, fun k hk => ?_⟩
          simp only [beq_iff_eq]
          intro e
          have := List.pairwise_iff_getElem.1 hn k j (by omega) hjl hk
          exact this e
        rw [hi]
        simp only [Nat.le_refl, true_and]
        rw [if_pos (by omega)]
        simp
      · rw [if_neg h, ih]
        cases hi : idx l id with
        | some i =>
          have hg := idx_get hi
          have hne : i ≠ j := by
            rintro rfl
            rw [List.getElem?_eq_getElem hjl] at hg
            exact h (Option.some.inj hg).symm
          simp only
          by_cases hc : j + 1 ≤ i ∧ i < j + 1 + obs.length
          · rw [if_pos hc, if_pos (by omega)]
            rw [show i - j = (i - (j + 1)) + 1 by omega]; simp
          · rw [if_neg hc, if_neg (by omega)]
        | none =>
          simp only
          have e1 : max (j + 1) l.length = max j l.length := by omega
          rw [e1, show j + 1 + obs.length = j + (obs.length + 1) by omega]
          by_cases hc : ns d (max j l.length) ≤ id ∧ id < ns d (j + (obs.length + 1))
          · rw [if_pos hc, if_pos hc]
            rw [show id - ns d j = (id - ns d (j + 1)) + 1 by unfold ns at *; omega]; simp
          · rw [if_neg hc, if_neg hc]
    · have hname : l.getD j (ns d j) = ns d j := by simp [List.getD, hjl]
      rw [hname]
      have hns : idx l (ns d j) = none := by
        cases hi : idx l (ns d j) with
        | none => rfl
        | some i => exact absurd (ns_div d j (by omega)) (hl _ (List.mem_of_getElem? (idx_get hi)))
      by_cases h : id = ns d j
      · subst h
        rw [if_pos rfl, hns]
        simp only
        rw [if_pos (by unfold ns; omega)]
        simp
      · rw [if_neg h, ih]
        cases hi : idx l id with
        | some i =>
          have := (List.getElem?_eq_some_iff.1 (idx_get hi)).1
          simp only
          rw [if_neg (by omega), if_neg (by omega)]
        | none =>
          simp only
          have e1 : max (j + 1) l.length = j + 1 := by omega
          have e2 : max j l.length = j := by omega
          rw [e1, e2, show j + 1 + obs.length = j + (obs.length + 1) by omega]
          by_cases hc : ns d (j + 1) ≤ id ∧ id < ns d (j + (obs.length + 1))
          · rw [if_pos hc, if_pos (by unfold ns at *; omega)]
            rw [show id - ns d j = (id - ns d (j + 1)) + 1 by unfold ns at *; omega]; simp
          · rw [if_neg hc, if_neg (by unfold ns at *; omega)]

end
end Go.Sym
