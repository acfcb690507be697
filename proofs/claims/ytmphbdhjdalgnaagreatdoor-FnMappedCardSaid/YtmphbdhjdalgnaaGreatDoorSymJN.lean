/- The symbolic machine and the model: slices of slices that own their rows; stores. -/
import Derived.Test.YtmphbdhjdalgnaaGreatDoorSymJ
namespace Go.Sym
set_option linter.unusedVariables false
set_option linter.unusedSimpArgs false
set_option linter.unusedSectionVars false
variable [Globs] [Dm]

section
variable {R : Type} {P : Program} {E : Env} {C : Ctx} {B : Nat} {L : Fr} {hp : Nat → Option Ob} {k : AV → Sets → Option R} {r : R} {o : Oper} {a : Act}

/-- What a name leads to, told otherwise. -/
theorem Heap.reob (hH : Heap C B L hp) {id : Nat} (hA : C.A id) {pv : Value} (hρ : C.ρ id = some pv) {o' : Ob} (ho : ObRep C id o' pv) : Heap C B L (setHp hp [(id, some o')]) := by
  refine ⟨fun i h => ?_, fun i o h => ?_, fun i h => ?_, hH.sep, hH.apart, hH.mine, hH.lto, hH.inb, hH.fr, hH.glob⟩
  · simp only [setHp] at h
    split at h
    · cases h
    · exact hH.non i h
  · simp only [setHp] at h
    split at h
    · rename_i he
      cases h; subst he
      exact ⟨pv, hρ, ho⟩
    · exact hH.som i o h
  · simp only [setHp] at h
    split at h
    · subst_vars; exact hA
    · exact hH.inA i h

/-- A row is handed to a slice of slices. -/
def Ctx.give (C : Ctx) (id id2 : Nat) : Ctx :=
  { C with ρ := fun i => if i = id2 then none else C.ρ i, inn := fun i b => (i = id ∧ (C.inn id b ∨ blk (C.ρ id2) b)) ∨ (i ≠ id ∧ i ≠ id2 ∧ C.inn i b) }

theorem give_own {id id2 : Nat} (hne : id2 ≠ id) {i b : Nat} (h : (C.give id id2).own i b) : (i ≠ id2 ∧ C.own i b) ∨ (i = id ∧ C.own id2 b) := by
  rcases h with h | h
  · simp only [Ctx.give] at h
    split at h
    · simp [blk] at h
    · exact .inl ⟨by assumption, .inl h⟩
  · rcases h with ⟨rfl, h | h⟩ | ⟨_, h2, h3⟩
    · exact .inl ⟨fun e => hne e.symm, .inr h⟩
    · exact .inr ⟨rfl, .inl h⟩
    · exact .inl ⟨h2, .inr h3⟩

theorem give_le (C : Ctx) (id id2 : Nat) : Le C (C.give id id2) := by
  refine ⟨fun _ h => h, fun _ h => h, fun i pv hA h => ?_, fun _ _ => rfl⟩
  simp only [Ctx.give] at h
  split at h
  · cases h
  · exact h

theorem Heap.give (hH : Heap C B L hp) {id id2 : Nat} (hne : id2 ≠ id) : Heap (C.give id id2) B L (setHp hp [(id2, none)]) := by
  have hle := give_le C id id2
  have ho := fun i b => give_own (C := C) (b := b) (i := i) hne
  refine ⟨fun i h => ?_, fun i o h => ?_, fun i h => ?_, fun i j b h1 h2 => ?_, fun i b h => ?_, fun i b h => ?_, fun i b h => ?_, hH.inb, ⟨hH.fr.fro, fun i pv hi h => hH.fr.old i pv hi (hle.ρ i pv (hH.fr.low i hi) h), hH.fr.low⟩, hH.glob.mono hle.F hle.w⟩
  · simp only [setHp, Ctx.give] at h ⊢
    split
    · rfl
    · rename_i he; rw [if_neg he] at h; exact hH.non i h
  · simp only [setHp] at h
    split at h
    · cases h
    · rename_i he
      obtain ⟨pv, h1, h2⟩ := hH.som i o h
      refine ⟨pv, by simp [Ctx.give, he, h1], ?_⟩
      by_cases hi : i = id
      · subst hi
        have hin : ∀ b, C.inn i b → (C.give i id2).inn i b := fun b q => .inl ⟨rfl, .inl q⟩
        cases o with
        | box t cs =>
          obtain ⟨b, vs, e, hg, hr⟩ := h2
          exact ⟨b, vs, e, hg, RepL_mono hle cs _ hr⟩
        | row t e ys => exact RowRep.mono hle (fun _ _ => rfl) h2
        | map m ps => exact h2
        | nest t el e yss hl =>
          rcases h2 with h2 | ⟨g, cap, cur, vs, e1, h0, hg, q1, q2, q3, q4, q5, q6⟩
          · exact .inl h2
          · subst e1
            refine .inr ⟨g, cap, cur, vs, rfl, h0, hg, q1, q2, q3, q4, fun q => ?_, q6.mono hle hin fun _ _ => rfl⟩
            rcases q with ⟨_, q | q⟩ | ⟨q, _⟩
            · exact q5 q
            · exact hne (hH.sep id2 i g (.inl q) (.inl (by rw [h1]; simp [blk, h0])))
            · exact q rfl
      · exact h2.mono hle (fun b => ⟨fun q => by rcases q with ⟨q, _⟩ | ⟨_, _, q⟩; exact absurd q hi; exact q, fun q => .inr ⟨hi, he, q⟩⟩) fun _ _ => rfl
  · simp only [setHp] at h
    split at h
    · exact absurd rfl h
    · exact hH.inA i h
  · rcases ho i b h1 with ⟨q1, q2⟩ | ⟨q1, q2⟩ <;> rcases ho j b h2 with ⟨q3, q4⟩ | ⟨q3, q4⟩
    · exact hH.sep i j b q2 q4
    · exact absurd (hH.sep i id2 b q2 q4) q1
    · exact absurd (hH.sep j id2 b q4 q2) q3
    · rw [q1, q3]
  · rcases ho i b h with ⟨_, q⟩ | ⟨_, q⟩ <;> exact hH.apart _ b q
  · rcases ho i b h with ⟨_, q⟩ | ⟨_, q⟩ <;> exact hH.mine _ b q
  · rcases ho i b h with ⟨_, q⟩ | ⟨_, q⟩ <;> exact hH.lto _ b q

/-- With a row in its hole, a slice of slices is whole. -/
theorem NestIn.fill {C' : Ctx} (hH : Heap C B L hp) {id id2 : Nat} (hne : id2 ≠ id) {el : TypeId} {e : ET} {yss : List (List e.T)} {i : Nat} {tn : Option Nat} {vs : List Value} {ys2 : List e.T} {pv2 : Value} (hi : i < yss.length)
    (g : NestIn C id el e yss (some (i, tn)) vs) (hρ2 : C.ρ id2 = some pv2) (h2 : RowRep C el e ys2 pv2) (hle : Le C C') (hin : ∀ b, C'.inn id b ↔ (C.inn id b ∨ blk (some pv2) b)) (hw : ∀ b, C.inn id b ∨ blk (some pv2) b → C'.w.heap[b]? = C.w.heap[b]?) :
    NestIn C' id el e (yss.set i ys2) none (vs.set i pv2) := by
  have hsl : ∃ p n c, pv2 = Value.slice p n c := by
    rcases h2 with ⟨_, a, rfl⟩ | ⟨g, cap, _, _, rfl, _⟩
    · exact ⟨_, _, _, rfl⟩
    · exact ⟨_, _, _, rfl⟩
  have hlen := g.len
  have hnh : ∀ j : Nat, j ≠ i → ∀ n, some (i, tn) ≠ some (j, n) := fun j hj n e => hj (by cases e; rfl)
  refine ⟨by simp [hlen], fun v hv => ?_, fun j ys v q1 q2 _ => ?_, fun j l v v' b hjl q1 q2 _ _ hb hb' => ?_, fun j n q => by cases q⟩
  · rcases List.mem_or_eq_of_mem_set hv with hv | rfl
    · exact g.slc v hv
    · exact hsl
  · by_cases hj : j = i
    · subst hj
      rw [List.getElem?_set_self (by omega)] at q1
      rw [List.getElem?_set_self (by omega)] at q2
      cases q1; cases q2
      exact ⟨h2.mono hle fun b hb => hw b (.inr hb), fun b hb => (hin b).2 (.inr hb)⟩
    · rw [List.getElem?_set_ne (fun e => hj e.symm)] at q1 q2
      obtain ⟨r1, r2⟩ := g.rows j ys v q1 q2 (hnh j hj)
      exact ⟨r1.mono hle fun b hb => hw b (.inl (r2 b hb)), fun b hb => (hin b).2 (.inl (r2 b hb))⟩
  · have key : ∀ (j : Nat) (v : Value), j ≠ i → (vs.set i pv2)[j]? = some v → blk (some v) b → C.inn id b := by
      intro j v hj q hb
      rw [List.getElem?_set_ne (fun e => hj e.symm)] at q
      have hjl' : j < yss.length := by rw [← hlen]; exact (List.getElem?_eq_some_iff.1 q).1
      exact (g.rows j _ v (List.getElem?_eq_getElem hjl') q (hnh j hj)).2 b hb
    by_cases hj : j = i
    · subst hj
      rw [List.getElem?_set_self (by omega)] at q1
      cases q1
      exact hne (hH.sep id2 id b (.inl (by rw [hρ2]; exact hb)) (.inr (key l v' (fun e => hjl e.symm) q2 hb')))
    · by_cases hl : l = i
      · subst hl
        rw [List.getElem?_set_self (by omega)] at q2
        cases q2
        exact hne (hH.sep id2 id b (.inl (by rw [hρ2]; exact hb')) (.inr (key j v hj q1 hb)))
      · rw [List.getElem?_set_ne (fun e => hj e.symm)] at q1
        rw [List.getElem?_set_ne (fun e => hl e.symm)] at q2
        exact g.sep j l v v' b hjl q1 q2 (hnh j hj) (hnh l hl) hb hb'

theorem give_inn {id id2 : Nat} {pv2 : Value} (hρ2 : C.ρ id2 = some pv2) (b : Nat) : (C.give id id2).inn id b ↔ (C.inn id b ∨ blk (some pv2) b) := by
  simp only [Ctx.give, hρ2]
  constructor
  · rintro (⟨_, h⟩ | ⟨h, _⟩)
    · exact h
    · exact absurd rfl h
  · exact fun h => .inl ⟨trivial, h⟩

/-- A row that was taken out is put back. -/
theorem close_ok (hH : Heap C B L hp) (id : Nat) : ∃ C', C'.w = C.w ∧ Le C C' ∧ (∀ i, C'.A i ↔ C.A i) ∧ Heap C' B L (setHp hp (closeSets hp id)) := by
  have hno : ∃ C', C'.w = C.w ∧ Le C C' ∧ (∀ i, C'.A i ↔ C.A i) ∧ Heap C' B L (setHp hp []) := ⟨C, rfl, Le.refl C, fun _ => Iff.rfl, hH⟩
  unfold closeSets
  split
  case h_2 => exact hno
  rename_i t el e yss i n hid
  split
  case h_2 => exact hno
  rename_i el2 e2 ys2 hn
  split
  case isFalse => exact hno
  rename_i hc
  obtain ⟨⟨rfl, rfl⟩, hne⟩ := hc
  obtain ⟨pv, hρ, hob⟩ := hH.som id _ hid
  obtain ⟨pv2, hρ2, hob2⟩ := hH.som n _ hn
  rcases hob with ⟨_, hh, _⟩ | ⟨g, cap, cur, vs, e1, h0, hg, q1, q2, q3, q4, q5, q6⟩
  · cases hh
  obtain ⟨r1, r2⟩ := q6.hole i (some n) rfl
  obtain ⟨r2, r3⟩ := r2 n rfl
  have r3 := r3 pv2 hρ2
  have hle := give_le C id n
  have hH1 := hH.give hne
  have hset : vs.set i pv2 = vs := by
    apply List.ext_getElem?
    intro j
    by_cases hj : j = i
    · subst hj
      rw [List.getElem?_set_self (List.getElem?_eq_some_iff.1 r3).1, r3]
    · rw [List.getElem?_set_ne (fun e => hj e.symm)]
  have hfill := q6.fill (C' := C.give id n) hH hne r1 hρ2 hob2 hle (give_inn hρ2) (fun _ _ => rfl)
  rw [hset] at hfill
  have hob' : ObRep (C.give id n) id (.nest t el2 e2 (yss.set i ys2) none) pv := by
    subst e1
    refine .inr ⟨g, cap, cur, vs, by simp, h0, hg, by simpa using q1, q2, q3, by simpa using q4, fun q => ?_, hfill⟩
    rcases (give_inn hρ2 g).1 q with q | q
    · exact q5 q
    · exact hne (hH.sep n id g (.inl (by rw [hρ2]; exact q)) (.inl (by rw [hρ]; simp [blk, h0])))
  refine ⟨C.give id n, rfl, hle, fun _ => Iff.rfl, ?_⟩
  have := hH1.reob (id := id) (hH.inA id (by rw [hid]; simp)) (pv := pv) (by simp only [Ctx.give]; rw [if_neg (fun e => hne e.symm)]; exact hρ) hob'
  exact this

theorem closeAll_ok : ∀ (ids : List Nat) (C : Ctx) (hp : Nat → Option Ob), Heap C B L hp → ∃ C', C'.w = C.w ∧ Le C C' ∧ (∀ i, C'.A i ↔ C.A i) ∧ Heap C' B L (setHp hp (closeAll ids hp))
  | [], C, hp, hH => ⟨C, rfl, Le.refl C, fun _ => Iff.rfl, hH⟩
  | id :: ids, C, hp, hH => by
    obtain ⟨C1, w1, l1, a1, h1⟩ := close_ok hH id
    obtain ⟨C2, w2, l2, a2, h2⟩ := closeAll_ok ids C1 _ h1
    refine ⟨C2, w2.trans w1, l1.trans l2, fun i => (a2 i).trans (a1 i), ?_⟩
    rw [closeAll, setHp_append]
    exact h2

def dropSets (id id2 : Nat) : Option Nat → Sets
  | some n => if n = id ∨ n = id2 then [] else [(n, none)]
  | none => []

/-- A row is written into the hole. -/
theorem fill_ok (hH : Heap C B L hp) {t : TypeId} {ti : TI} (hR : TyRow P t ti) {x y : Operand} {id i id2 : Nat} {el : TypeId} {e : ET} {bt : TypeId} {yss : List (List e.T)} {tn : Option Nat} {ys2 : List e.T} (ho : o.op = .store t x y)
    (hv : Rep C (.rptr id i 1 0) (a.eval x)) (hu : Rep C (.own id2) (a.eval y)) (hsz : (1 : Nat) = ti.size) (hb : hp id = some (.nest bt el e yss (some (i, tn)))) (hb2 : hp id2 = some (.row el e ys2)) (hne : id2 ≠ id)
    (h : k .any ((id, some (.nest bt el e (yss.set i ys2) none)) :: (id2, none) :: fillSets id tn) = some r) : OpOK P o a C B L hp k r := by
  -- what stood in the hole is given up
  have hdrop : ∃ C0, C0.w = C.w ∧ Le C C0 ∧ (∀ i, C0.A i ↔ C.A i) ∧ Heap C0 B L (setHp hp (dropSets id id2 tn)) ∧ C0.ρ id = C.ρ id ∧ C0.ρ id2 = C.ρ id2 := by
    have hno : ∃ C0, C0.w = C.w ∧ Le C C0 ∧ (∀ i, C0.A i ↔ C.A i) ∧ Heap C0 B L (setHp hp []) ∧ C0.ρ id = C.ρ id ∧ C0.ρ id2 = C.ρ id2 := ⟨C, rfl, Le.refl C, fun _ => Iff.rfl, hH, rfl, rfl⟩
    cases tn with
    | none => exact hno
    | some n =>
      simp only [dropSets]
      split
      · exact hno
      · rename_i hh
        obtain ⟨h1, h2⟩ := hH.drop n
        refine ⟨C.drop n, rfl, h1, fun _ => Iff.rfl, h2, ?_, ?_⟩
        · simp only [Ctx.drop]; rw [if_neg (fun e => hh (.inl e.symm))]
        · simp only [Ctx.drop]; rw [if_neg (fun e => hh (.inr e.symm))]
  obtain ⟨C0, w0, l0, a0, hH0, e0, e2⟩ := hdrop
  generalize hu0 : dropSets id id2 tn = u0 at hH0
  have hkeep : ∀ j, j = id ∨ j = id2 → setHp hp u0 j = hp j := by
    intro j hj
    subst hu0
    cases tn with
    | none => rfl
    | some n =>
      simp only [dropSets]
      split
      · rfl
      · rename_i hh
        simp only [setHp]
        rw [if_neg]
        rintro rfl
        exact hh hj
  have hid : setHp hp u0 id = some (.nest bt el e yss (some (i, tn))) := (hkeep id (.inl rfl)).trans hb
  have hid2 : setHp hp u0 id2 = some (.row el e ys2) := (hkeep id2 (.inr rfl)).trans hb2
  obtain ⟨pv, hρ, hob⟩ := hH0.som id _ hid
  obtain ⟨pv2, hρ2, hob2⟩ := hH0.som id2 _ hid2
  rcases hob with ⟨_, hh, _⟩ | ⟨g, cap, cur, vs, e1, h0, hg, q1, q2, q3, q4, q5, q6⟩
  · cases hh
  subst e1
  obtain ⟨r1, _⟩ := q6.hole i tn rfl
  unfold Rep at hv hu
  obtain ⟨hA, b', hx, hv2⟩ := hv
  obtain ⟨n', c', hv2⟩ := hv2 _ (by rw [← e0]; exact hρ)
  simp at hv2
  obtain ⟨rfl, rfl, rfl⟩ := hv2
  have hy := hu.2.2 pv2 (by rw [← e2]; exact hρ2)
  have hsl : ∃ p n c, pv2 = Value.slice p n c := by
    rcases hob2 with ⟨_, a, rfl⟩ | ⟨g, cap, _, _, rfl, _⟩
    · exact ⟨_, _, _, rfl⟩
    · exact ⟨_, _, _, rfl⟩
  have hH1 := hH0.give hne
  have l1 := give_le C0 id id2
  have hcells : (a.eval y).cells = #[pv2] := by
    obtain ⟨p, n, c, hp'⟩ := hsl
    rw [hy, hp']; rfl
  have hnlen : vs.length = yss.length := q6.len
  have hst := run_storeAt hR (w := C.w) (g := g) (o := i) (x := a.eval y) (by rw [hcells]; simp [hsz]) (cur := cur) (bt := bt) (by rw [← w0]; exact hg) (by rw [hcells]; simp; omega)
    (fun v hv => by rw [hcells] at hv; simp at hv; subst hv; obtain ⟨p, n, c, rfl⟩ := hsl; rfl)
  have hnew : cur.toList.take i ++ (a.eval y).cells.toList ++ cur.toList.drop (i + (a.eval y).cells.toList.length) = cur.toList.set i pv2 := by
    rw [hcells]
    rw [List.set_eq_take_append_cons_drop, if_pos (by simp; omega)]
    simp
  rw [hnew] at hst
  have hρ1 : (C0.give id id2).ρ id = some (.slice (some ⟨g, 0, none⟩) yss.length cap) := by
    simp only [Ctx.give]; rw [if_neg (fun e => hne e.symm)]; exact hρ
  obtain ⟨hle', hgr, hup⟩ := hH1.upd hρ1 (g := g) (by simp [blk, h0]) (w := C0.w.setRow g (cur.toList.set i pv2).toArray)
    (by simp [Ctx.give]) (fun k hk => setRow_other C0.w g k _ hk) rfl rfl rfl (Nat.le_refl _)
  have hgne : ∀ b, C0.inn id b ∨ blk (some pv2) b → b ≠ g := by
    rintro b (hb' | hb') rfl
    · exact q5 hb'
    · exact hne (hH0.sep id2 id b (.inl (by rw [hρ2]; exact hb')) (.inl (by rw [hρ]; simp [blk, h0])))
  have hfill := q6.fill (C' := (C0.give id id2).at (C0.w.setRow g (cur.toList.set i pv2).toArray)) hH0 hne r1 hρ2 hob2 (l1.trans hle') (give_inn hρ2) (fun b hb' => setRow_other C0.w g b _ (hgne b hb'))
  have hfin := hup (by rw [show (C0.give id id2).A id ↔ C.A id from a0 id]; exact hA) (.nest bt el e (yss.set i ys2) none) (.inr ⟨g, cap, (cur.toList.set i pv2).toArray, vs.set i pv2, by simp, h0, setRow_heap C0.w g cur _ bt _ hg, by simpa using q1, q2, by simpa using q3, by
      simp only [List.length_set]
      rw [List.take_set, q4], fun q => by
      rcases (give_inn hρ2 g).1 q with q | q
      · exact q5 q
      · exact hgne g (.inr q) rfl, hfill⟩)
  refine OpOK.skip (C' := (C0.give id id2).at _) (by simp [execOp, ho, hx, hst, w0]; rfl) h ⟨l0.trans (l1.trans hle'), fun _ h => .inl ((a0 _).1 h), ?_, by unfold Rep; trivial, by rw [← w0]; exact hgr⟩
  have hsets : setHp hp ((id, some (.nest bt el e (yss.set i ys2) none)) :: (id2, none) :: fillSets id tn) = setHp (setHp (setHp hp u0) [(id2, none)]) [(id, some (.nest bt el e (yss.set i ys2) none))] := by
    funext q
    subst hu0
    cases tn with
    | none => simp only [dropSets, fillSets, setHp]
    | some n =>
      simp only [dropSets, fillSets]
      by_cases hn1 : n = id
      · simp [setHp, hn1]
      · by_cases hn2 : n = id2
        · subst hn2
          simp only [setHp, if_neg hn1, or_true, if_true]
          by_cases h1 : q = id <;> by_cases h2 : q = n <;> simp [h1, h2]
        · simp [setHp, hn1, hn2]
  rw [hsets]
  exact hfin

open Classical in
/-- A row is written over what stood there. -/
theorem fill0_ok (hH : Heap C B L hp) {t : TypeId} {ti : TI} (hR : TyRow P t ti) {x y : Operand} {id i id2 : Nat} {el : TypeId} {e : ET} {bt : TypeId} {yss : List (List e.T)} {ys2 : List e.T} (ho : o.op = .store t x y)
    (hv : Rep C (.rptr id i 1 0) (a.eval x)) (hu : Rep C (.own id2) (a.eval y)) (hsz : (1 : Nat) = ti.size) (hb : hp id = some (.nest bt el e yss none)) (hb2 : hp id2 = some (.row el e ys2)) (hne : id2 ≠ id) (hi : i < yss.length)
    (h : k .any [(id, some (.nest bt el e (yss.set i ys2) none)), (id2, none)] = some r) : OpOK P o a C B L hp k r := by
  obtain ⟨pv, hρ, hob⟩ := hH.som id _ hb
  have hA := hH.inA id (by rw [hb]; simp)
  have hob' : ObRep C id (.nest bt el e yss (some (i, none))) pv := by
    rcases hob with ⟨rfl, _⟩ | ⟨g, cap, cur, vs, e1, h0, hg, q1, q2, q3, q4, q5, q6⟩
    · simp at hi
    · refine .inr ⟨g, cap, cur, vs, e1, h0, hg, q1, q2, q3, q4, q5, q6.len, q6.slc, fun j ys v s1 s2 _ => q6.rows j ys v s1 s2 (fun n e => by cases e), fun j l v v' b hjl s1 s2 _ _ => q6.sep j l v v' b hjl s1 s2 (fun n e => by cases e) (fun n e => by cases e), fun j n hh => ?_⟩
      cases hh
      exact ⟨hi, fun tn e => by cases e⟩
  have hH' := hH.reob hA hρ hob'
  have hb' : setHp hp [(id, some (.nest bt el e yss (some (i, none))))] id = some (.nest bt el e yss (some (i, none))) := by simp [setHp]
  have hb2' : setHp hp [(id, some (.nest bt el e yss (some (i, none))))] id2 = some (.row el e ys2) := by simp [setHp, hne, hb2]
  have h' : (fun v u => if v = .any ∧ u = [(id, some (Ob.nest bt el e (yss.set i ys2) none)), (id2, none)] then k v u else none) .any ((id, some (.nest bt el e (yss.set i ys2) none)) :: (id2, none) :: fillSets id none) = some r := by
    simp [fillSets, h]
  have hf := fill_ok (k := fun v u => if v = .any ∧ u = [(id, some (Ob.nest bt el e (yss.set i ys2) none)), (id2, none)] then k v u else none) hH' hR ho hv hu hsz hb' hb2' hne h'
  intro next Q hn
  refine hf next Q fun v u v' C' hk hP => ?_
  simp only at hk
  split at hk
  · rename_i hc
    obtain ⟨rfl, rfl⟩ := hc
    refine hn _ _ v' C' hk ⟨hP.le, hP.new, ?_, hP.rep, hP.gr⟩
    have e : setHp (setHp hp [(id, some (Ob.nest bt el e yss (some (i, none))))]) [(id, some (.nest bt el e (yss.set i ys2) none)), (id2, none)] = setHp hp [(id, some (.nest bt el e (yss.set i ys2) none)), (id2, none)] := by
      funext q
      simp only [setHp]
      by_cases h1 : q = id
      · simp [h1]
      · simp [h1]
    rw [← e]
    exact hP.heap
  · cases hk

theorem astore_ok {o : Oper} {a : Act} (hT : TyOk P E) (hH : Heap C B L hp) {t : TypeId} {x y : Operand} {v u : AV} (ho : o.op = .store t x y) (hv : Rep C v (a.eval x)) (hu : Rep C u (a.eval y))
    (h : astore E hp k t v u = some r) : OpOK P o a C B L hp k r := by
  unfold astore at h
  split at h
  case h_2 => cases h
  rename_i ti cs hti hcs
  have hR := hT.row hti
  split at h
  case isFalse => cases h
  rename_i hsz
  obtain ⟨hsz, hok⟩ := hsz
  have hrc := cells_rep hcs hu
  have hlen := RepL_len _ _ hrc
  have h1 := okCells_one _ _ hrc hok
  have hxs : (a.eval y).cells.size = ti.size := by simpa [hsz] using hlen.symm
  split at h
  · rename_i id off
    unfold Rep at hv
    split at h
    case h_2 => cases h
    rename_i bt old hb
    split at h
    case isFalse => cases h
    rename_i hle
    obtain ⟨pv, hρ, b, vs, e1, hg, hr⟩ := hH.som id _ hb
    obtain ⟨hA, b', hx, e2⟩ := hv
    have e2 := e2 pv hρ
    rw [e1] at e2; simp at e2; subst e2
    have hlo := RepL_len _ _ hr
    have hst := run_storeAt hR hxs hg (o := off) (by simp at hlo hlen; omega) h1
    obtain ⟨hle', hgr, hup⟩ := hH.upd hρ (g := b) (by rw [e1]; simp [blk]) (w := C.w.setRow b (vs.toList.take off ++ (a.eval y).cells.toList ++ vs.toList.drop (off + (a.eval y).cells.toList.length)).toArray)
      (by simp) (fun k hk => setRow_other C.w b k _ hk) rfl rfl rfl (Nat.le_refl _)
    refine OpOK.skip (C' := C.at _) (by simp [execOp, ho, hx, hst]; rfl) h ⟨hle', fun _ h => .inl h, hup hA _ ?_, by unfold Rep; trivial, hgr⟩
    refine ⟨b, _, e1, setRow_heap C.w b vs _ bt _ hg, ?_⟩
    simpa using RepL_mono hle' _ _ (RepL_splice off hr hrc)
  · rename_i id i sz off
    split at h
    case h_4 => cases h
    case h_2 =>
      rename_i bt el e yss hb
      split at h
      case h_2 => cases h
      rename_i id2
      split at h
      case h_2 => cases h
      rename_i el2 e2 ys2 hb2
      split at h
      case isFalse => cases h
      rename_i hc
      obtain ⟨⟨rfl, rfl⟩, ⟨rfl, rfl⟩, hne, _⟩ := hc
      rcases sat_br h with ⟨he, hk⟩ | ⟨_, h⟩
      case inr => cases h
      have he := of_decide_eq_true he
      exact fill0_ok hH hR ho hv hu (by cases hcs; exact hsz) hb hb2 hne he hk
    case h_3 =>
      rename_i bt el e yss hi tn hb
      split at h
      case h_2 => cases h
      rename_i id2
      split at h
      case h_2 => cases h
      rename_i el2 e2 ys2 hb2
      split at h
      case isFalse => cases h
      rename_i hc
      obtain ⟨⟨rfl, rfl⟩, ⟨rfl, rfl⟩, hne, _⟩ := hc
      rcases sat_br h with ⟨he, hk⟩ | ⟨_, h⟩
      case inr => cases h
      have he := of_decide_eq_true he
      subst he
      exact fill_ok hH hR ho hv hu (by cases hcs; exact hsz) hb hb2 hne hk
    unfold Rep at hv
    rename_i bt e ys hb
    split at h
    case isFalse => cases h
    rename_i hle
    obtain ⟨rfl, hle⟩ := hle
    rcases sat_br h with ⟨hlt, h⟩ | ⟨_, h⟩
    case inr => cases h
    have hlt := of_decide_eq_true hlt
    split at h
    case h_2 => cases h
    rename_i y' hun
    obtain ⟨pv, hρ, hob⟩ := hH.som id _ hb
    rcases hob with ⟨rfl, _⟩ | ⟨g, cap, cur, css, e1, h0, hg, hc1, hc2, hc3, hc4, hc5⟩
    · simp at hlt
    subst e1
    obtain ⟨hA, b', hx, e2⟩ := hv
    obtain ⟨n', c', e2⟩ := e2 _ hρ
    simp at e2
    obtain ⟨rfl, rfl, rfl⟩ := e2
    obtain ⟨c0, hc0, hr0, _⟩ := flatten_get ys css hc4 i _ (getD_get (d := e.dft) hlt)
    have hlcss := All2.length _ _ hc4
    have hflen := flatten_len _ _ hc4
    obtain ⟨A, b0, rest, q1, q2, q3, q4, q5⟩ := flatten_set css i (c0.take off ++ (a.eval y).cells.toList ++ c0.drop (off + (a.eval y).cells.toList.length)) (All2.lens _ _ hc4) (by omega)
    rw [hc0] at q3; cases q3
    have hxl : off + (a.eval y).cells.toList.length ≤ e.sz := by omega
    have hcur : cur.toList = css.flatten ++ cur.toList.drop (ys.length * e.sz) := by rw [← hc5]; exact (List.take_append_drop _ _).symm
    have hfit : i * e.sz + e.sz ≤ ys.length * e.sz := by rw [← Nat.succ_mul]; exact Nat.mul_le_mul_right _ hlt
    have hcs3 : ys.length * e.sz ≤ cur.size := by rw [hc3]; exact Nat.mul_le_mul_right _ hc1
    have hst := run_storeAt hR hxs hg (o := i * e.sz + off) (by simp at hxl; omega) h1
    obtain ⟨hle', hgr, hup⟩ := hH.upd hρ (g := g) (by simp [blk, h0]) (w := C.w.setRow g (cur.toList.take (i * e.sz + off) ++ (a.eval y).cells.toList ++ cur.toList.drop (i * e.sz + off + (a.eval y).cells.toList.length)).toArray)
      (by simp) (fun k hk => setRow_other C.w g k _ hk) rfl rfl rfl (Nat.le_refl _)
    refine OpOK.skip (C' := C.at _) (by simp [execOp, ho, hx, hst]; rfl) h ⟨hle', fun _ h => .inl h, hup hA _ ?_, by unfold Rep; trivial, hgr⟩
    have hnew : cur.toList.take (i * e.sz + off) ++ (a.eval y).cells.toList ++ cur.toList.drop (i * e.sz + off + (a.eval y).cells.toList.length) =
        (css.set i (c0.take off ++ (a.eval y).cells.toList ++ c0.drop (off + (a.eval y).cells.toList.length))).flatten ++ cur.toList.drop (ys.length * e.sz) := by
      rw [q5]
      conv => lhs; rw [hcur, q1]
      have hd : ∀ l : List Value, (l ++ cur.toList.drop (ys.length * e.sz)) = l ++ cur.toList.drop (ys.length * e.sz) := fun _ => rfl
      rw [List.append_assoc A c0 rest, List.append_assoc A (c0 ++ rest), List.append_assoc c0 rest, ← List.append_assoc A c0]
      rw [set_splice (cur := cur.toList) q2 q4 hxl]
      simp [List.append_assoc]
    have hr' : RepT C.F C.w e y' (c0.take off ++ (a.eval y).cells.toList ++ c0.drop (off + (a.eval y).cells.toList.length)) :=
      un_rep e _ y' _ hun (RepL_splice off (avs_rep _ _ _ hr0) hrc)
    have hset : (css.set i (c0.take off ++ (a.eval y).cells.toList ++ c0.drop (off + (a.eval y).cells.toList.length))).flatten.length = ys.length * e.sz := by
      have := flatten_len _ _ (All2.set hr' ys css i hc4)
      simpa using this
    refine .inr ⟨g, cap, _, css.set i (c0.take off ++ (a.eval y).cells.toList ++ c0.drop (off + (a.eval y).cells.toList.length)), by simp, h0, setRow_heap C.w g cur _ bt _ hg, by simpa using hc1, hc2, ?_, ?_, ?_⟩
    · rw [hnew, List.size_toArray, List.length_append, hset, List.length_drop]; have hcl : cur.toList.length = cur.size := Array.length_toList; omega
    · exact All2.set (RepT_mono hle'.F hle'.w _ _ _ hr') _ _ i (All2.imp (RepT_mono hle'.F hle'.w e) _ _ hc4)
    · rw [hnew]
      simp only [List.length_set]
      rw [← hset]
      exact List.take_left
  · cases h


end
end Go.Sym
