/- The symbolic machine and the model: a region whose order is open. -/
import Derived.Test.YtmphbdhjdalgnaaGreatDoorSymP
namespace Go.Sym
set_option linter.unusedVariables false
set_option linter.unusedSimpArgs false
set_option linter.unusedSectionVars false
variable [Globs] [Dm]

section
variable {R : Type} {P : Program} {E : Env} {C : Ctx} {n B : Nat} {L : Fr} {s : S} {a : Act} {r : R} {o : Oper} {ops : Array Oper}

def rdO (ops : Array Oper) (o : Oper) (s : S) : List Nat :=
  match wanted? ops o s with
  | some true => readsN s.hp (getv s.tm) o
  | _ => []

/-- Names whose shape an operation reads. -/
def rsO (ops : Array Oper) (o : Oper) (s : S) : List Nat :=
  match wanted? ops o s with
  | some true => readsS (getv s.tm) o
  | _ => []

theorem readsS_slots {ρ ρ' : Operand → AV} (h : ∀ x ∈ o.op.operands, ρ' x = ρ x) : readsS ρ' o = readsS ρ o := by
  obtain ⟨dst, op, type, pos, after, guard⟩ := o
  cases op <;> try rfl
  rename_i t x ix
  simp only [readsS]
  rw [h x (by simp [Op.operands])]

theorem wrS_slots {ρ ρ' : Operand → AV} (h : ∀ x ∈ o.op.operands, ρ' x = ρ x) (u : Sets) : wrS ρ' o u = wrS ρ o u := by
  obtain ⟨dst, op, type, pos, after, guard⟩ := o
  cases op <;> try rfl
  · rename_i t x
    simp only [wrS]
    rw [h x (by simp [Op.operands])]
  · rename_i t x y
    simp only [wrS]
    rw [h x (by simp [Op.operands])]

theorem eff_agree {s s' : S} (ht : ∀ t ∈ slots ops o, s'.tm t = s.tm t) (hh : ∀ id ∈ rdO ops o s, s'.hp id = s.hp id) (hs : ∀ id ∈ rsO ops o s, shp (s'.hp id) = shp (s.hp id)) :
    effO E ops o s' = effO E ops o s ∧ rdO ops o s' = rdO ops o s ∧ (∀ u, wrS (getv s'.tm) o u = wrS (getv s.tm) o u) ∧ rsO ops o s' = rsO ops o s := by
  have hw : wanted? ops o s' = wanted? ops o s := by
    unfold wanted?
    cases hg : o.guard with
    | none => rfl
    | some gw =>
      obtain ⟨g, want⟩ := gw
      simp only
      cases hd : (ops[g]?).bind (·.dst) with
      | none => rfl
      | some t => simp only; rw [ht t (by simp [slots, hg, hd])]
  have hx : ∀ x ∈ o.op.operands, getv s'.tm x = getv s.tm x := by
    intro x hx
    cases x with
    | tmp t => exact ht t (by simp only [slots]; exact List.mem_append_left _ (List.mem_filterMap.2 ⟨.tmp t, by simpa using hx, rfl⟩))
    | _ => rfl
  have hws := fun u => wrS_slots (o := o) hx u
  have hrs := readsS_slots (o := o) hx
  unfold effO rdO rsO at *
  rw [hw]
  cases hwv : wanted? ops o s with
  | none => exact ⟨rfl, rfl, hws, rfl⟩
  | some b =>
    cases b with
    | false => exact ⟨rfl, rfl, hws, rfl⟩
    | true =>
      rw [hwv] at hh hs
      simp only at hh hs ⊢
      obtain ⟨h1, h2⟩ := aopN_slots (E := E) (look := s'.hp) (d := o.dst.getD 0) hx pr
      rw [h1, h2, aopN_look hh hs pr, readsN_look hh, hrs]
      exact ⟨rfl, rfl, hws, rfl⟩

theorem setHp_out (hp : Nat → Option Ob) : ∀ (u : Sets) (k : Nat), k ∉ u.map (·.1) → setHp hp u k = hp k
  | [], k, _ => rfl
  | (i, o) :: u, k, h => by
    simp only [List.map_cons, List.mem_cons, not_or] at h
    simp only [setHp]
    rw [if_neg h.1]
    exact setHp_out hp u k h.2

theorem setHp_in (hp hp' : Nat → Option Ob) : ∀ (u : Sets) (k : Nat), k ∈ u.map (·.1) → setHp hp u k = setHp hp' u k
  | [], k, h => by simp at h
  | (i, o) :: u, k, h => by
    simp only [setHp]
    by_cases he : k = i
    · rw [if_pos he, if_pos he]
    · rw [if_neg he, if_neg he]
      simp only [List.map_cons, List.mem_cons] at h
      exact setHp_in hp hp' u k (h.resolve_left he)

theorem setHp_comm (hp : Nat → Option Ob) (u u' : Sets) (h : ∀ x ∈ u.map (·.1), x ∉ u'.map (·.1)) : setHp (setHp hp u) u' = setHp (setHp hp u') u := by
  funext k
  by_cases h1 : k ∈ u.map (·.1)
  · rw [setHp_out _ u' k (h k h1)]
    exact setHp_in _ _ u k h1
  · rw [setHp_out (setHp hp u') u k h1]
    by_cases h2 : k ∈ u'.map (·.1)
    · exact setHp_in _ _ u' k h2
    · rw [setHp_out _ u' k h2, setHp_out _ u k h1, setHp_out _ u' k h2]

theorem clash_false {l m : List Nat} (h : clashL l m = false) : ∀ x ∈ l, x ∉ m := by
  intro x hx hm
  unfold clashL at h
  rw [List.any_eq_false] at h
  exact h x hx (by simpa using hm)

theorem rd_ent {u : Sets} : (entOf ops o s u).rd = rdO ops o s := by
  unfold entOf rdO
  rfl

theorem rs_ent {u : Sets} : (entOf ops o s u).rs = rsO ops o s := by
  unfold entOf rsO
  rfl

theorem ws_ent {u : Sets} : (entOf ops o s u).ws = wrS (getv s.tm) o u := rfl

theorem readCells_nil {E : Env} {look : Nat → Option Ob} {ti : TI} {cs : List AV} {off : Nat} {v : AV} {u : Sets} (h : readCells pr ti cs off = some (v, u)) : u = [] := by
  unfold readCells at h
  split at h
  · split at h
    · cases h; rfl
    · cases h
  · cases h
  · split at h
    · cases h; rfl
    · cases h

theorem aload_nil {t : TypeId} {look : Nat → Option Ob} {a v : AV} {u : Sets} (h : aload E look pr t a = some (v, u)) : u = [] := by
  unfold aload at h
  split at h
  · cases h
  · split at h
    · exact readCells_nil (E := E) (look := look) h
    · split at h
      · split at h
        · cases h
        · rcases sat_br h with ⟨_, h⟩ | ⟨_, h⟩
          · cases h; rfl
          · cases h
      · cases h
    · split at h
      · exact readCells_nil (E := E) (look := look) h
      · cases h
    · split at h
      · split at h
        · rcases sat_br h with ⟨_, h⟩ | ⟨_, h⟩
          · exact readCells_nil (E := E) (look := look) h
          · cases h
        · cases h
      · cases h
    · cases h

theorem shp_nest {t el : TypeId} {e : ET} {yss : List (List e.T)} {hl} : shp (some (.nest t el e yss hl)) = some (t, el, e, yss.length) := rfl

theorem load_shp {t : TypeId} {look : Nat → Option Ob} {id i sz off d : Nat} {v : AV} {u : Sets} (h : aloadX E look d pr t (.rptr id i sz off) = some (v, u)) : shp (setHp look u id) = shp (look id) := by
  unfold aloadX at h
  simp only at h
  split at h
  · rename_i bt el e yss hl hb
    unfold aloadN at h
    split at h
    · cases h
    · split at h
      · split at h
        · rcases sat_br h with ⟨_, h⟩ | ⟨_, h⟩
          · cases h
            simp only [setHp, if_true, hb, shp]
          · cases h
        · rcases sat_br h with ⟨_, h⟩ | ⟨_, h⟩
          · cases h; rfl
          · cases h
        · cases h
      · cases h
  · rw [aload_nil h]; rfl

theorem store_shp {t : TypeId} {look : Nat → Option Ob} {id i sz off : Nat} {v w : AV} {u : Sets} (h : astore E look pr t (.rptr id i sz off) w = some (v, u)) : shp (setHp look u id) = shp (look id) := by
  unfold astore at h
  split at h
  · split at h
    · simp only at h
      split at h
      · rename_i hb
        split at h
        · rcases sat_br h with ⟨_, h⟩ | ⟨_, h⟩
          · split at h
            · cases h
              simp only [setHp, if_true, hb, shp]
            · cases h
          · cases h
        · cases h
      · rename_i hb
        split at h
        · split at h
          · split at h
            · rcases sat_br h with ⟨_, h⟩ | ⟨_, h⟩
              · cases h
                simp only [setHp, if_true, hb, shp, List.length_set]
              · cases h
            · cases h
          · cases h
        · cases h
      · rename_i hb
        split at h
        · split at h
          · split at h
            · rcases sat_br h with ⟨_, h⟩ | ⟨_, h⟩
              · cases h
                simp only [setHp, if_true, hb, shp, List.length_set]
              · cases h
            · cases h
          · cases h
        · cases h
      · cases h
    · cases h
  · cases h

/-- The shape of a name stays, but of those that wrS tells. -/
theorem eff_shp {v : AV} {u : Sets} (h : effO E ops o s = some (v, u)) {id : Nat} (hi : id ∉ wrS (getv s.tm) o u) : shp (setHp s.hp u id) = shp (s.hp id) := by
  by_cases hm : id ∈ u.map (·.1)
  · unfold effO at h
    split at h
    · obtain ⟨dst, op, type, pos, after, guard⟩ := o
      cases op <;> try exact absurd hm hi
      · rename_i t x
        simp only [wrS] at hi
        split at hi
        · rename_i id' i sz off hx
          by_cases he : id = id'
          · subst he
            simp only [aopN, closers, closeAll, aop, hx] at h
            exact load_shp h
          · exact absurd (List.mem_filter.2 ⟨hm, by simpa using he⟩) hi
        · exact absurd hm hi
      · rename_i t x y
        simp only [wrS] at hi
        split at hi
        · rename_i id' i sz off hx
          by_cases he : id = id'
          · subst he
            simp only [aopN, closers, closeAll, aop, hx] at h
            exact store_shp h
          · exact absurd (List.mem_filter.2 ⟨hm, by simpa using he⟩) hi
        · exact absurd hm hi
    · cases h; simp at hm
    · cases h
  · rw [setHp_out _ _ _ hm]

theorem swap {x y : Oper} {s : S} {v1 v2 : AV} {u1 u2 : Sets} (h1 : effO E ops x s = some (v1, u1)) (h2 : effO E ops y (put x s v1 u1) = some (v2, u2))
    (hf : free2 ops x y (entOf ops x s u1) (entOf ops y (put x s v1 u1) u2) = true) :
    effO E ops y s = some (v2, u2) ∧ entOf ops y s u2 = entOf ops y (put x s v1 u1) u2 ∧ effO E ops x (put y s v2 u2) = some (v1, u1) ∧ entOf ops x (put y s v2 u2) u1 = entOf ops x s u1 ∧ put x (put y s v2 u2) v1 u1 = put y (put x s v1 u1) v2 u2 := by
  simp only [free2, Bool.and_eq_true, Bool.not_eq_true'] at hf
  obtain ⟨⟨⟨⟨⟨⟨f1, f2⟩, f3⟩, f4⟩, f5⟩, f6⟩, f7⟩ := hf
  have g3 := clash_false f3
  have g4 := clash_false f4
  have g5 := clash_false f5
  have g6 := clash_false f6
  have g7 := clash_false f7
  rw [rd_ent] at g3 g5
  rw [rs_ent, ws_ent] at g6 g7
  have tx : ∀ t ∈ slots ops y, (put x s v1 u1).tm t = s.tm t := by
    intro t ht
    simp only [put]
    cases hd : x.dst with
    | none => rfl
    | some d =>
      rw [hd] at f1
      simp only [Bool.and_eq_true, Bool.not_eq_true'] at f1
      have : t ≠ d := by rintro rfl; rw [List.contains_eq_mem] at f1; simp [ht] at f1
      simp [setTm, this]
  have ty : ∀ t ∈ slots ops x, (put y s v2 u2).tm t = s.tm t := by
    intro t ht
    simp only [put]
    cases hd : y.dst with
    | none => rfl
    | some d =>
      rw [hd] at f2
      simp only [Bool.not_eq_true'] at f2
      have : t ≠ d := by rintro rfl; rw [List.contains_eq_mem] at f2; simp [ht] at f2
      simp [setTm, this]
  have hx : ∀ id ∈ rdO ops y (put x s v1 u1), s.hp id = (put x s v1 u1).hp id := by
    intro id hid
    simp only [put]
    rw [setHp_out]
    intro hm
    exact g3 id (by simpa [entOf] using hm) hid
  have hy : ∀ id ∈ rdO ops x s, (put y s v2 u2).hp id = s.hp id := by
    intro id hid
    simp only [put]
    rw [setHp_out]
    intro hm
    exact g5 id (by simpa [entOf] using hm) hid
  have hxs : ∀ id ∈ rsO ops y (put x s v1 u1), shp (s.hp id) = shp ((put x s v1 u1).hp id) := by
    intro id hid
    simp only [put]
    exact (eff_shp h1 fun hm => g6 id hm hid).symm
  have h2' : effO E ops y s = some (v2, u2) ∧ rdO ops y s = rdO ops y (put x s v1 u1) ∧ (∀ u, wrS (getv s.tm) y u = wrS (getv (put x s v1 u1).tm) y u) ∧ rsO ops y s = rsO ops y (put x s v1 u1) := by
    rw [← h2]
    exact eff_agree (E := E) (o := y) (s := put x s v1 u1) (s' := s) (fun t ht => (tx t ht).symm) hx hxs
  obtain ⟨a1, a2, a3, a4⟩ := h2'
  have hys : ∀ id ∈ rsO ops x s, shp ((put y s v2 u2).hp id) = shp (s.hp id) := by
    intro id hid
    simp only [put]
    exact eff_shp a1 fun hm => g7 id (by rw [← a3]; exact hm) hid
  obtain ⟨b1, b2, b3, b4⟩ := eff_agree (E := E) (o := x) (s := s) (s' := put y s v2 u2) ty hy hys
  refine ⟨a1, ?_, by rw [b1, h1], ?_, ?_⟩
  · show (⟨u2.map (·.1), rdO ops y s, wrS (getv s.tm) y u2, rsO ops y s⟩ : Ent) = ⟨u2.map (·.1), rdO ops y (put x s v1 u1), wrS (getv (put x s v1 u1).tm) y u2, rsO ops y (put x s v1 u1)⟩
    rw [a2, a3, a4]
  · show (⟨u1.map (·.1), rdO ops x (put y s v2 u2), wrS (getv (put y s v2 u2).tm) x u1, rsO ops x (put y s v2 u2)⟩ : Ent) = ⟨u1.map (·.1), rdO ops x s, wrS (getv s.tm) x u1, rsO ops x s⟩
    rw [b2, b3, b4]
  · simp only [put]
    congr 1
    · cases hd : x.dst with
      | none => rfl
      | some d =>
        cases hd' : y.dst with
        | none => rfl
        | some d' =>
          rw [hd] at f1
          simp only [Bool.and_eq_true, hd', bne_iff_ne, ne_eq, Option.some.injEq] at f1
          funext t
          simp only [setTm]
          by_cases e1 : t = d
          · by_cases e2 : t = d'
            · exact absurd (e2 ▸ e1) f1.2
            · rw [if_pos e1, if_neg e2, if_pos e1]
          · rw [if_neg e1, if_neg e1]
    · exact setHp_comm _ _ _ fun x hx hm => g4 x (by simpa [entOf] using hm) (by simpa [entOf] using hx)

abbrev Item := Oper × AV × Sets × Ent

def Runs (E : Env) (ops : Array Oper) : List Item → S → S → Prop
  | [], s, s' => s' = s
  | (o, v, u, e) :: l, s, s' => effO E ops o s = some (v, u) ∧ e = entOf ops o s u ∧ Runs E ops l (put o s v u) s'

theorem Runs.front : ∀ (l1 : List Item) (x : Item) (l2 : List Item) (s s' : S), Runs E ops (l1 ++ x :: l2) s s' → (∀ y ∈ l1, free2 ops y.1 x.1 y.2.2.2 x.2.2.2 = true) → Runs E ops (x :: (l1 ++ l2)) s s'
  | [], x, l2, s, s', h, _ => h
  | (oy, vy, uy, ey) :: l1, (ox, vx, ux, ex), l2, s, s', h, hf => by
    obtain ⟨h1, h2, h3⟩ := h
    have ih := Runs.front l1 (ox, vx, ux, ex) l2 _ s' h3 (fun y hy => hf y (by simp [hy]))
    obtain ⟨g1, g2, g3⟩ := ih
    have hfy := hf (oy, vy, uy, ey) (by simp)
    simp only at hfy
    rw [h2, g2] at hfy
    obtain ⟨e1, e2, e3, e4, e5⟩ := swap h1 g1 hfy
    refine ⟨e1, by rw [g2, e2], e3, by rw [h2, e4], ?_⟩
    rw [e5]
    exact g3

theorem runDraw_runs {k : S → Option R} : ∀ (l : List Oper) (log : List Ent) (s : S), runDraw E ops l log s k = some r →
    ∃ T s', T.map (·.1) = l ∧ Runs E ops T s s' ∧ drawOk ops (log ++ T.map (·.2.2.2)) = true ∧ k s' = some r
  | [], log, s, h => by
    simp only [runDraw] at h
    rcases sat_br h with ⟨h1, h2⟩ | ⟨_, h2⟩
    · exact ⟨[], s, rfl, rfl, by simpa using h1, h2⟩
    · cases h2
  | o :: l, log, s, h => by
    simp only [runDraw] at h
    rw [stepE_eff] at h
    obtain ⟨⟨v, u⟩, he, h⟩ := Option.bind_eq_some_iff.1 h
    obtain ⟨T, s', h1, h2, h3, h4⟩ := runDraw_runs l _ _ h
    refine ⟨(o, v, u, entOf ops o s u) :: T, s', by simp [h1], ⟨he, rfl, h2⟩, ?_, h4⟩
    simpa using h3

end
end Go.Sym
