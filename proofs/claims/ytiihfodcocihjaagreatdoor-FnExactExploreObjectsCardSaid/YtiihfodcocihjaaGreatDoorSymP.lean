/- The symbolic machine and the model: a region whose order is open: operations that may change places. -/
import Derived.Test.YtiihfodcocihjaaGreatDoorSymO
namespace Go.Sym
set_option linter.unusedVariables false
set_option linter.unusedSimpArgs false
set_option linter.unusedSectionVars false
variable [Globs] [Dm]

section
variable {R : Type} {E : Env} {look look' : Nat → Option Ob} {ρ ρ' : Operand → AV} {o : Oper} {d : Nat}

theorem ids_local : ∀ (n : Nat) (v : AV), (∀ id ∈ v.ids look n, look' id = look id) → v.ids look' n = v.ids look n ∧ v.imm look' n = v.imm look n
  | 0, v, _ => ⟨rfl, rfl⟩
  | n + 1, v, h => by
    have hmap : ∀ cs : List AV, (∀ id ∈ cs.flatMap (AV.ids look n), look' id = look id) → cs.flatMap (AV.ids look' n) = cs.flatMap (AV.ids look n) ∧ cs.map (AV.imm look' n) = cs.map (AV.imm look n) := by
      intro cs hcs
      refine ⟨?_, List.map_congr_left fun c hc => (ids_local n c fun id hid => hcs id (List.mem_flatMap.2 ⟨c, hc, hid⟩)).2⟩
      rw [List.flatMap_def, List.flatMap_def]
      congr 1
      exact List.map_congr_left fun c hc => (ids_local n c fun id hid => hcs id (List.mem_flatMap.2 ⟨c, hc, hid⟩)).1
    cases v with
    | own id =>
      have := h id (by simp [AV.ids])
      simp [AV.ids, AV.imm, this]
    | rptr id i sz off => simp [AV.ids, AV.imm]
    | sub id lo sz => simp [AV.ids, AV.imm]
    | ptr id off =>
      have hid := h id (by simp [AV.ids])
      simp only [AV.ids, AV.imm, hid]
      cases hl : look id with
      | none => simp
      | some ob =>
        cases ob with
        | row t e ys => simp
        | box t cs =>
          obtain ⟨h1, h2⟩ := hmap cs fun id' hid' => h id' (by simp only [AV.ids, hl]; exact List.mem_cons_of_mem _ hid')
          simp [h1, h2]
    | clo f cs => obtain ⟨h1, h2⟩ := hmap cs (by simpa only [AV.ids] using h); simp only [AV.ids, AV.imm, h1, h2]; exact ⟨trivial, trivial⟩
    | agg cs => obtain ⟨h1, h2⟩ := hmap cs (by simpa only [AV.ids] using h); simp only [AV.ids, AV.imm, h1, h2]; exact ⟨trivial, trivial⟩
    | tup cs => obtain ⟨h1, h2⟩ := hmap cs (by simpa only [AV.ids] using h); simp only [AV.ids, AV.imm, h1, h2]; exact ⟨trivial, trivial⟩
    | vptr cs off => obtain ⟨h1, h2⟩ := hmap cs (by simpa only [AV.ids] using h); simp only [AV.ids, AV.imm, h1, h2]; exact ⟨trivial, trivial⟩
    | _ => simp [AV.ids, AV.imm]

theorem ids1_local {v : AV} (h : ∀ id ∈ ids1 v, look' id = look id) : (∀ k : AV → Sets → Option R, alen look' k v = alen look k v) ∧ (∀ e, asrc look' e v = asrc look e v) := by
  cases v <;> simp [ids1] at h <;> simp [alen, asrc, h]

theorem aload_local {t : TypeId} {v : AV} (h : ∀ id ∈ ids1 v, look' id = look id) (k : AV → Sets → Option R) : aload E look' k t v = aload E look k t v := by
  cases v <;> simp [ids1] at h <;> simp [aload, h]

theorem astore_local {t : TypeId} {v u : AV} (h : ∀ id ∈ ids1 v, look' id = look id) (k : AV → Sets → Option R) : astore E look' k t v u = astore E look k t v u := by
  unfold astore
  cases v <;> simp [ids1] at h <;> simp [h]

theorem acall_local {f : FuncId} {avs : List AV} (h : ∀ v ∈ avs, ∀ id ∈ v.ids look 8, look' id = look id) (k : AV → Sets → Option R) : acall E look' d k f avs = acall E look d k f avs := by
  unfold acall
  have : avs.map (AV.imm look' 8) = avs.map (AV.imm look 8) := List.map_congr_left fun v hv => (ids_local 8 v (h v hv)).2
  have h2 : lent look' avs = lent look avs := by
    unfold lent
    rw [List.flatMap_def, List.flatMap_def]
    congr 2
    exact List.map_congr_left fun v hv => (ids_local 8 v (h v hv)).1
  have hg : ∀ (f : Nat → Option Nat) (l : List Nat), (∀ id ∈ l, look' id = look id) → gather look' f l = gather look f l := by
    intro f l
    induction l with
    | nil => intro _; rfl
    | cons x l ih => intro hl; simp only [gather, hl x (by simp), ih fun id hid => hl id (by simp [hid])]
  have hmemd : ∀ (xs seen : List Nat) x, x ∈ dedup seen xs → x ∈ xs := by
    intro xs
    induction xs with
    | nil => intro seen x h; simp [dedup] at h
    | cons y ys ih =>
      intro seen x h
      unfold dedup at h
      split at h
      · exact List.mem_cons_of_mem _ (ih _ x h)
      · rcases List.mem_cons.1 h with rfl | h
        · simp
        · exact List.mem_cons_of_mem _ (ih _ x h)
  rw [this]
  simp only [h2, fNs_eq]
  rw [hg _ (lent look avs) fun id hid => by
    obtain ⟨v, hv, hid⟩ := List.mem_flatMap.1 (hmemd _ _ _ hid)
    exact h v hv id hid]

theorem typedArg_ids (t : TypeId) (v : AV) (n : Nat) : ∀ id ∈ (typedArg E t v).ids look n, id ∈ v.ids look n := by
  intro id h
  unfold typedArg at h
  split at h
  · split at h <;> (cases n <;> simp [AV.ids] at h)
  · exact h

theorem aappend_local {c : Call} (h : ∀ x ∈ c.args.toList, ∀ id ∈ ids1 (ρ x), look' id = look id) (k : AV → Sets → Option R) : aappend E look' ρ d k c = aappend E look ρ d k c := by
  unfold aappend
  split
  · rename_i s x hargs
    have hs := h s (by rw [hargs]; simp)
    have hx := h x (by rw [hargs]; simp)
    have hsrc := (ids1_local (R := R) hx).2
    have hsrcT : ∀ t0 t1 e, asrcT E look' t0 t1 e (ρ x) = asrcT E look t0 t1 e (ρ x) := fun t0 t1 e => by unfold asrcT; rw [hsrc]
    simp only [hsrcT]
    split
    · split
      · rfl
      · split
        · split
          · rfl
          · generalize ρ s = v at hs
            cases v <;> simp [ids1] at hs <;> simp [hs]
        · rfl
    · rfl
  · rfl

/-- An operation hangs on what it reads, and on nothing else of memory. -/
theorem aop_look (h : ∀ id ∈ reads look ρ o, look' id = look id) (k : AV → Sets → Option R) : aop E look' ρ o d k = aop E look ρ o d k := by
  obtain ⟨dst, op, type, pos, after, guard⟩ := o
  cases op <;> simp only [aop] <;> try rfl
  case load t x => exact aload_local (by simpa [reads] using h) k
  case store t x y => exact astore_local (by simpa [reads] using h) k
  case slice t x lo hi mx =>
    have hx : ∀ id ∈ ids1 (ρ x), look' id = look id := by simpa [reads] using h
    cases mx with
    | some m => rfl
    | none =>
      generalize ρ x = v at hx
      cases v <;> try rfl
      rename_i id
      have := hx id (by simp [ids1])
      simp only [asliceO, this]
  case convert s t x =>
    have hx := (ids1_local (R := R) (look := look) (look' := look') (v := ρ x) (by simpa [reads] using h)).2
    simp only [hx]
  case indexAddr t x ix =>
    have hx : ∀ id ∈ ids1 (ρ x), look' id = look id := by simpa [reads] using h
    generalize ρ x = v at hx
    cases v <;> simp [ids1] at hx <;> simp [hx]
  case call c =>
    simp only [reads] at h
    cases hc : c.callee with
    | invoke r m => rfl
    | builtin b =>
      rw [hc] at h
      simp only [List.mem_flatMap] at h
      cases b <;> try rfl
      case len =>
        cases hargs : c.args.toList with
        | nil => rfl
        | cons x r =>
          cases r with
          | nil =>
            have hx := (ids1_local (R := R) (look := look) (look' := look') (v := ρ x) fun id hid => h id ⟨x, by rw [hargs]; simp, hid⟩).1
            cases c.argTypes[0]?.bind E.ty with
            | none => rfl
            | some ti => simp only [hx]
          | cons _ _ => rfl
      case append => exact aappend_local (fun x hx id hid => h id ⟨x, hx, hid⟩) k
    | value f =>
      rw [hc] at h
      simp only [List.mem_append, List.mem_flatMap] at h
      simp only
      cases hf : ρ f <;> try rfl
      rename_i g caps
      show (if c.args.size = c.argTypes.size then _ else none) = (if c.args.size = c.argTypes.size then _ else none)
      by_cases hs : c.args.size = c.argTypes.size
      · rw [if_pos hs, if_pos hs]
        refine acall_local (fun v hv id hid => ?_) k
        rcases List.mem_append.1 hv with hv | hv
        · obtain ⟨q, hq, rfl⟩ := List.mem_map.1 hv
          obtain ⟨q1, q2⟩ := q
          exact h id (.inr ⟨q1, (List.of_mem_zip hq).1, typedArg_ids _ _ 8 id hid⟩)
        · refine h id (.inl ?_)
          rw [hf]
          simp only [AV.ids, List.mem_flatMap]
          exact ⟨v, hv, hid⟩
      · rw [if_neg hs, if_neg hs]

theorem reads_look (h : ∀ id ∈ reads look ρ o, look' id = look id) : reads look' ρ o = reads look ρ o := by
  obtain ⟨dst, op, type, pos, after, guard⟩ := o
  cases op <;> try rfl
  rename_i c
  simp only [reads] at h ⊢
  cases hc : c.callee with
  | invoke r m => rfl
  | builtin b => rfl
  | value f =>
    rw [hc] at h
    simp only [List.mem_append, List.mem_flatMap] at h
    simp only
    rw [(ids_local 9 (ρ f) fun id hid => h id (.inl hid)).1]
    congr 1
    rw [List.flatMap_def, List.flatMap_def]
    congr 1
    exact List.map_congr_left fun x hx => (ids_local 8 (ρ x) fun id hid => h id (.inr ⟨x, hx, hid⟩)).1

theorem parts_congr {parts : Array (Nat × Operand)} (h : ∀ x ∈ parts.map (·.2), ρ' x = ρ x) : (parts.toList.map fun q => (q.1, ρ' q.2)) = parts.toList.map fun q => (q.1, ρ q.2) :=
  List.map_congr_left fun q hq => by rw [h q.2 (by simp only [Array.mem_map]; exact ⟨q, by simpa using hq, rfl⟩)]

theorem mem_args {c : Call} {x : Operand} (h : x ∈ c.args) : x ∈ c.operands := by simp [Call.operands, h]

/-- An operation hangs on its operands, and on nothing else of the slots. -/
theorem aop_slots (h : ∀ x ∈ o.op.operands, ρ' x = ρ x) (k : AV → Sets → Option R) : aop E look ρ' o d k = aop E look ρ o d k ∧ reads look ρ' o = reads look ρ o := by
  obtain ⟨dst, op, type, pos, after, guard⟩ := o
  cases op <;> simp only [Op.operands] at h <;> try exact ⟨rfl, rfl⟩
  case build t parts =>
    refine ⟨?_, rfl⟩
    simp only [aop]
    rw [parts_congr fun x hx => h x (by simpa using hx)]
  case buildSlice t len parts =>
    refine ⟨?_, rfl⟩
    simp only [aop]
    rw [parts_congr fun x hx => h x (by simpa using hx)]
  case slice t x lo hi mx =>
    have hx : ρ' x = ρ x := h x (by simp)
    refine ⟨?_, by simp only [reads, hx]⟩
    simp only [aop]
    have hlo : lo.map ρ' = lo.map ρ := by
      cases lo with
      | none => rfl
      | some y => rw [Option.map_some, Option.map_some, h y (by simp)]
    have hhi : hi.map ρ' = hi.map ρ := by
      cases hi with
      | none => rfl
      | some y => rw [Option.map_some, Option.map_some, h y (by simp)]
    rw [hx, hlo, hhi]
  case makeFunc f first caps =>
    refine ⟨?_, rfl⟩
    simp only [aop]
    have : caps.toList.map ρ' = caps.toList.map ρ := List.map_congr_left fun x hx => h x (by simp at hx ⊢; exact .inr hx)
    rw [this]
  case call c =>
    have hargs : ∀ x ∈ c.args.toList, ρ' x = ρ x := fun x hx => h x (mem_args (by simpa using hx))
    cases hc : c.callee with
    | invoke r m => exact ⟨by simp only [aop, hc], by simp only [reads, hc]; rw [List.flatMap_def, List.flatMap_def]; congr 1; exact List.map_congr_left fun x hx => by rw [hargs x hx]⟩
    | builtin b =>
      refine ⟨?_, by simp only [reads, hc]; rw [List.flatMap_def, List.flatMap_def]; congr 1; exact List.map_congr_left fun x hx => by rw [hargs x hx]⟩
      cases b <;> simp only [aop, hc] <;> try rfl
      case len =>
        cases hl : c.args.toList with
        | nil => rfl
        | cons x r =>
          cases r with
          | nil =>
            have hx := hargs x (by rw [hl]; simp)
            cases c.argTypes[0]?.bind E.ty with
            | none => rfl
            | some ti => simp only [hx]
          | cons _ _ => rfl
      case append =>
        unfold aappend
        split
        · rename_i s x hl
          rw [hargs s (by rw [hl]; simp), hargs x (by rw [hl]; simp)]
        · rfl
      all_goals rw [show c.args.toList.map ρ' = c.args.toList.map ρ from List.map_congr_left hargs]
    | value f =>
      have hf : ρ' f = ρ f := h f (by simp [Call.operands, hc])
      refine ⟨?_, ?_⟩
      · simp only [aop, hc, hf]
        have : (c.args.toList.zip c.argTypes.toList).map (fun q => typedArg E q.2 (ρ' q.1)) = (c.args.toList.zip c.argTypes.toList).map (fun q => typedArg E q.2 (ρ q.1)) :=
          List.map_congr_left fun q hq => by obtain ⟨q1, q2⟩ := q; simp only; rw [hargs q1 (List.of_mem_zip hq).1]
        rw [this]
      · simp only [reads, hc, hf]
        congr 1
        rw [List.flatMap_def, List.flatMap_def]
        congr 1
        exact List.map_congr_left fun x hx => by rw [hargs x hx]
  all_goals first
    | (refine ⟨?_, ?_⟩ <;> simp only [aop, reads] <;> simp at h <;> simp [h]; done)
    | skip

end
end Go.Sym
