/- The symbolic machine and the model: a region whose order is open: operations that may change places. -/
import Derived.Test.YtmphbdhjdalgnaaGreatDoorSymO
namespace Go.Sym
set_option linter.unusedVariables false
set_option linter.unusedSimpArgs false
set_option linter.unusedSectionVars false
variable [Globs] [Dm]

section
variable {R : Type} {E : Env} {look look' : Nat → Option Ob} {ρ ρ' : Operand → AV} {o : Oper} {d : Nat}

theorem ids_local : ∀ (n : Nat) (v : AV), (∀ id ∈ v.ids look n, look' id = look id) → v.ids look' n = v.ids look n ∧ v.imm look' n = v.imm look n
  | 0, v, _ => ⟨rfl, rfl⟩
  | n + 1, v, h => by
    have hmap : ∀ cs : List AV, (∀ id ∈ cs.flatMap (AV.ids look n), look' id = look id) → cs.flatMap (AV.ids look' n) = cs.flatMap (AV.ids look n) ∧ cs.map (AV.imm look' n) = cs.map (AV.imm look n) := by
      intro cs hcs
      refine ⟨?_, List.map_congr_left fun c hc => (ids_local n c fun id hid => hcs id (List.mem_flatMap.2 ⟨c, hc, hid⟩)).2⟩
      rw [List.flatMap_def, List.flatMap_def]
      congr 1
      exact List.map_congr_left fun c hc => (ids_local n c fun id hid => hcs id (List.mem_flatMap.2 ⟨c, hc, hid⟩)).1
    cases v with
    | own id =>
      have := h id (by simp [AV.ids])
      simp [AV.ids, AV.imm, this]
    | rptr id i sz off => simp [AV.ids, AV.imm]
    | sub id lo sz => simp [AV.ids, AV.imm]
    | mp id => simp [AV.ids, AV.imm]
    | ptr id off =>
      have hid := h id (by simp [AV.ids])
      simp only [AV.ids, AV.imm, hid]
      cases hl : look id with
      | none => simp
      | some ob =>
        cases ob with
        | row t e ys => simp
        | nest t el e yss h => simp
        | map m ps => simp
        | box t cs =>
          obtain ⟨h1, h2⟩ := hmap cs fun id' hid' => h id' (by simp only [AV.ids, hl]; exact List.mem_cons_of_mem _ hid')
          simp [h1, h2]
    | clo f cs => obtain ⟨h1, h2⟩ := hmap cs (by simpa only [AV.ids] using h); simp only [AV.ids, AV.imm, h1, h2]; exact ⟨trivial, trivial⟩
    | agg cs => obtain ⟨h1, h2⟩ := hmap cs (by simpa only [AV.ids] using h); simp only [AV.ids, AV.imm, h1, h2]; exact ⟨trivial, trivial⟩
    | tup cs => obtain ⟨h1, h2⟩ := hmap cs (by simpa only [AV.ids] using h); simp only [AV.ids, AV.imm, h1, h2]; exact ⟨trivial, trivial⟩
    | vptr cs off => obtain ⟨h1, h2⟩ := hmap cs (by simpa only [AV.ids] using h); simp only [AV.ids, AV.imm, h1, h2]; exact ⟨trivial, trivial⟩
    | _ => simp [AV.ids, AV.imm]

theorem ids1_local {v : AV} (h : ∀ id ∈ ids1 v, look' id = look id) : (∀ k : AV → Sets → Option R, alen look' k v = alen look k v) ∧ (∀ e, asrc look' e v = asrc look e v) := by
  cases v <;> simp [ids1] at h <;> simp [alen, asrc, h]

theorem aload_local {t : TypeId} {v : AV} (h : ∀ id ∈ ids1 v, look' id = look id) (k : AV → Sets → Option R) : aload E look' k t v = aload E look k t v := by
  cases v <;> simp [ids1] at h <;> simp [aload, h]

theorem aloadX_local {t : TypeId} {v : AV} (h : ∀ id ∈ ids1 v, look' id = look id) (k : AV → Sets → Option R) : aloadX E look' d k t v = aloadX E look d k t v := by
  have hl := aload_local (E := E) (t := t) h k
  unfold aloadX
  split
  · rename_i id i sz off
    rw [h id (by simp [ids1])]
    split
    · rfl
    · exact hl
  · exact hl

theorem astore_local {t : TypeId} {v u : AV} (h : ∀ id ∈ ids1 v, look' id = look id) (h2 : Globs.nst.isEmpty = false → ∀ id ∈ ids1 u, look' id = look id) (k : AV → Sets → Option R) : astore E look' k t v u = astore E look k t v u := by
  unfold astore
  by_cases hn : Globs.nst.isEmpty = false
  · have h3 := h2 hn
    cases v <;> simp [ids1] at h <;> simp [h]
    rename_i id i sz off
    split
    · split
      · split
        · rfl
        · cases u <;> simp [ids1] at h3 <;> simp [h3]
        · cases u <;> simp [ids1] at h3 <;> simp [h3]
        · rfl
      · rfl
    · rfl
  · cases v <;> simp [ids1] at h <;> simp [h]
    rename_i id i sz off
    split
    · split
      · split
        · rfl
        · have hne : Globs.nst = [] := by simpa using hn
          cases u <;> try rfl
          rename_i id2 _
          dsimp only
          cases look' id2 with
          | none => cases look id2 with
            | none => rfl
            | some o => cases o <;> first | rfl | simp [hne]
          | some o => cases o <;> cases look id2 with
            | none => first | rfl | simp [hne]
            | some o => cases o <;> first | rfl | simp [hne]
        · have hne : Globs.nst = [] := by simpa using hn
          cases u <;> try rfl
          rename_i id2 _
          dsimp only
          cases look' id2 with
          | none => cases look id2 with
            | none => rfl
            | some o => cases o <;> first | rfl | simp [hne]
          | some o => cases o <;> cases look id2 with
            | none => first | rfl | simp [hne]
            | some o => cases o <;> first | rfl | simp [hne]
        · rfl
      · rfl
    · rfl

theorem acall_local {f : FuncId} {avs : List AV} (h : ∀ v ∈ avs, ∀ id ∈ v.ids look 8, look' id = look id) (k : AV → Sets → Option R) : acall E look' d k f avs = acall E look d k f avs := by
  unfold acall
  have : avs.map (AV.imm look' 8) = avs.map (AV.imm look 8) := List.map_congr_left fun v hv => (ids_local 8 v (h v hv)).2
  have h2 : lent look' avs = lent look avs := by
    unfold lent
    rw [List.flatMap_def, List.flatMap_def]
    congr 2
    exact List.map_congr_left fun v hv => (ids_local 8 v (h v hv)).1
  have hg : ∀ (f : Nat → Option Nat) (l : List Nat), (∀ id ∈ l, look' id = look id) → gather look' f l = gather look f l := by
    intro f l
    induction l with
    | nil => intro _; rfl
    | cons x l ih => intro hl; simp only [gather, hl x (by simp), ih fun id hid => hl id (by simp [hid])]
  have hmemd : ∀ (xs seen : List Nat) x, x ∈ dedup seen xs → x ∈ xs := by
    intro xs
    induction xs with
    | nil => intro seen x h; simp [dedup] at h
    | cons y ys ih =>
      intro seen x h
      unfold dedup at h
      split at h
      · exact List.mem_cons_of_mem _ (ih _ x h)
      · rcases List.mem_cons.1 h with rfl | h
        · simp
        · exact List.mem_cons_of_mem _ (ih _ x h)
  rw [this]
  simp only [h2, fNs_eq]
  rw [hg _ (lent look avs) fun id hid => by
    obtain ⟨v, hv, hid⟩ := List.mem_flatMap.1 (hmemd _ _ _ hid)
    exact h v hv id hid]

theorem typedArg_ids (t : TypeId) (v : AV) (n : Nat) : ∀ id ∈ (typedArg E t v).ids look n, id ∈ v.ids look n := by
  intro id h
  unfold typedArg at h
  split at h
  · split at h <;> (cases n <;> simp [AV.ids] at h)
  · exact h

theorem aappend_local {c : Call} (h : ∀ x ∈ c.args.toList, ∀ id ∈ ids1 (ρ x), look' id = look id) (k : AV → Sets → Option R) : aappend E look' ρ d k c = aappend E look ρ d k c := by
  unfold aappend
  split
  · rename_i s x hargs
    have hs := h s (by rw [hargs]; simp)
    have hx := h x (by rw [hargs]; simp)
    have hsrc := (ids1_local (R := R) hx).2
    have hsrcT : ∀ t0 t1 e, asrcT E look' t0 t1 e (ρ x) = asrcT E look t0 t1 e (ρ x) := fun t0 t1 e => by unfold asrcT; rw [hsrc]
    simp only [hsrcT]
    split
    · split
      · rfl
      · split
        · split
          · rfl
          · generalize ρ s = v at hs
            cases v <;> simp [ids1] at hs <;> simp [hs]
        · rfl
    · rfl
  · rfl

/-- An operation hangs on what it reads, and on nothing else of memory. -/
theorem readsN_sub {id : Nat} (h : id ∈ reads look ρ o) : id ∈ readsN look ρ o := by
  unfold readsN
  split
  · exact h
  · exact List.mem_append_left _ h

theorem readsN_hole {id n : Nat} (hn : Globs.nst.isEmpty = false) (h : id ∈ reads look ρ o) (h2 : n ∈ holeOf look id) : n ∈ readsN look ρ o := by
  unfold readsN
  rw [hn]
  exact List.mem_append_right _ (List.mem_flatMap.2 ⟨id, h, h2⟩)

theorem aop_look (hN : ∀ id ∈ readsN look ρ o, look' id = look id) (hS : ∀ id ∈ readsS ρ o, shp (look' id) = shp (look id)) (k : AV → Sets → Option R) : aop E look' ρ o d k = aop E look ρ o d k := by
  have h : ∀ id ∈ reads look ρ o, look' id = look id := fun id hid => hN id (readsN_sub hid)
  obtain ⟨dst, op, type, pos, after, guard⟩ := o
  cases op <;> simp only [aop] <;> try rfl
  case load t x => exact aloadX_local (by simpa [reads] using h) k
  case lookup t x i c =>
    have hx : ∀ id ∈ ids1 (ρ x), look' id = look id := by simpa [reads] using h
    split
    · rename_i m _ _ _ id ht hv
      rw [hx id (by rw [hv]; simp [ids1])]
    · rfl
  case mapUpdate t x i y =>
    have hx : ∀ id ∈ ids1 (ρ x), look' id = look id := by simpa [reads] using h
    split
    · rename_i m _ _ _ id ht hv
      rw [hx id (by rw [hv]; simp [ids1])]
    · rfl
  case store t x y =>
    refine astore_local (fun id hid => h id ?_) (fun hn id hid => h id ?_) k
    · simp only [reads]; exact List.mem_append_left _ hid
    · simp only [reads]; rw [hn]; exact List.mem_append_right _ hid
  case buildSlice t len parts =>
    split
    · rename_i hn
      have hx : ∀ q ∈ parts.toList, ∀ id ∈ ids1 (ρ q.2), look' id = look id := fun q hq id hid => h id (by simp only [reads]; rw [if_pos hn]; exact List.mem_flatMap.2 ⟨q, hq, hid⟩)
      unfold abuildN
      split
      · split
        · split
          · split
            · rfl
            · rename_i id2 hp
              have : look' id2 = look id2 := by
                cases hpl : parts.toList with
                | nil => rw [hpl] at hp; simp at hp
                | cons q r =>
                  rw [hpl] at hp
                  simp only [List.map_cons, List.cons.injEq, Prod.mk.injEq] at hp
                  exact hx q (by rw [hpl]; simp) id2 (by rw [hp.1.2]; simp [ids1])
              rw [this]
            · rfl
          · rfl
        · rfl
      · rfl
    · rfl
  case slice t x lo hi mx =>
    have hx : ∀ id ∈ ids1 (ρ x), look' id = look id := by simpa [reads] using h
    cases mx with
    | some m => rfl
    | none =>
      generalize ρ x = v at hx
      cases v <;> try rfl
      rename_i id
      have := hx id (by simp [ids1])
      simp only [asliceO, this]
  case convert s t x =>
    have hx := (ids1_local (R := R) (look := look) (look' := look') (v := ρ x) (by simpa [reads] using h)).2
    simp only [hx]
  case indexAddr t x ix =>
    have hx : Globs.nst.contains t = true ∨ ∀ id ∈ ids1 (ρ x), look' id = look id := by
      cases hc : Globs.nst.contains t with
      | true => exact .inl rfl
      | false => exact .inr fun id hid => h id (by simp only [reads]; rw [hc]; exact hid)
    have hx2 : Globs.nst.contains t = true → ∀ id ∈ ids1 (ρ x), shp (look' id) = shp (look id) := fun hc id hid => hS id (by simp only [readsS]; rw [if_pos hc]; exact hid)
    split
    · split
      · split
        · generalize ρ x = v at hx hx2
          cases v <;> try rfl
          rename_i id
          dsimp only
          split
          · rename_i hc
            rw [hx2 hc id (by simp [ids1])]
          · rename_i hc
            rcases hx with hx | hx
            · exact absurd hx hc
            · rw [hx id (by simp [ids1])]
        · rfl
      · rfl
    · rfl
    · rfl
  case call c =>
    simp only [reads] at h
    cases hc : c.callee with
    | invoke r m => rfl
    | builtin b =>
      rw [hc] at h
      simp only [List.mem_flatMap] at h
      cases b <;> try rfl
      case len =>
        cases hargs : c.args.toList with
        | nil => rfl
        | cons x r =>
          cases r with
          | nil =>
            have hx := (ids1_local (R := R) (look := look) (look' := look') (v := ρ x) fun id hid => h id ⟨x, by rw [hargs]; simp, hid⟩).1
            cases c.argTypes[0]?.bind E.ty with
            | none => rfl
            | some ti => simp only [hx]
          | cons _ _ => rfl
      case append =>
        have h1 := aappend_local (E := E) (d := d) (fun x hx id hid => h id ⟨x, hx, hid⟩) k
        dsimp only
        split
        · rename_i s x t t' hargs htys
          split
          · unfold anest
            have hs : ∀ id ∈ ids1 (ρ s), look' id = look id := fun id hid => h id ⟨s, by rw [hargs]; simp, hid⟩
            have hx : ∀ id ∈ ids1 (ρ x), look' id = look id := fun id hid => h id ⟨x, by rw [hargs]; simp, hid⟩
            split
            · split
              · split
                · rename_i id id3 q1 q2
                  rw [hs id (by rw [q1]; simp [ids1]), hx id3 (by rw [q2]; simp [ids1])]
                · rfl
              · rfl
            · rfl
          · exact h1
        · exact h1
    | value f =>
      rw [hc] at h
      simp only [List.mem_append, List.mem_flatMap] at h
      simp only
      cases hf : ρ f <;> try rfl
      rename_i g caps
      show (if c.args.size = c.argTypes.size then _ else none) = (if c.args.size = c.argTypes.size then _ else none)
      by_cases hs : c.args.size = c.argTypes.size
      · rw [if_pos hs, if_pos hs]
        refine acall_local (fun v hv id hid => ?_) k
        rcases List.mem_append.1 hv with hv | hv
        · obtain ⟨q, hq, rfl⟩ := List.mem_map.1 hv
          obtain ⟨q1, q2⟩ := q
          exact h id (.inr ⟨q1, (List.of_mem_zip hq).1, typedArg_ids _ _ 8 id hid⟩)
        · refine h id (.inl ?_)
          rw [hf]
          simp only [AV.ids, List.mem_flatMap]
          exact ⟨v, hv, hid⟩
      · rw [if_neg hs, if_neg hs]

theorem reads_look (h : ∀ id ∈ reads look ρ o, look' id = look id) : reads look' ρ o = reads look ρ o := by
  obtain ⟨dst, op, type, pos, after, guard⟩ := o
  cases op <;> try rfl
  rename_i c
  simp only [reads] at h ⊢
  cases hc : c.callee with
  | invoke r m => rfl
  | builtin b => rfl
  | value f =>
    rw [hc] at h
    simp only [List.mem_append, List.mem_flatMap] at h
    simp only
    rw [(ids_local 9 (ρ f) fun id hid => h id (.inl hid)).1]
    congr 1
    rw [List.flatMap_def, List.flatMap_def]
    congr 1
    exact List.map_congr_left fun x hx => (ids_local 8 (ρ x) fun id hid => h id (.inr ⟨x, hx, hid⟩)).1

theorem parts_congr {parts : Array (Nat × Operand)} (h : ∀ x ∈ parts.map (·.2), ρ' x = ρ x) : (parts.toList.map fun q => (q.1, ρ' q.2)) = parts.toList.map fun q => (q.1, ρ q.2) :=
  List.map_congr_left fun q hq => by rw [h q.2 (by simp only [Array.mem_map]; exact ⟨q, by simpa using hq, rfl⟩)]

theorem mem_args {c : Call} {x : Operand} (h : x ∈ c.args) : x ∈ c.operands := by simp [Call.operands, h]

/-- An operation hangs on its operands, and on nothing else of the slots. -/
theorem aop_slots (h : ∀ x ∈ o.op.operands, ρ' x = ρ x) (k : AV → Sets → Option R) : aop E look ρ' o d k = aop E look ρ o d k ∧ reads look ρ' o = reads look ρ o := by
  obtain ⟨dst, op, type, pos, after, guard⟩ := o
  cases op <;> simp only [Op.operands] at h <;> try exact ⟨rfl, rfl⟩
  case build t parts =>
    refine ⟨?_, rfl⟩
    simp only [aop]
    rw [parts_congr fun x hx => h x (by simpa using hx)]
  case buildSlice t len parts =>
    refine ⟨?_, ?_⟩
    · simp only [aop]
      rw [parts_congr fun x hx => h x (by simpa using hx)]
    · simp only [reads]
      have : (parts.toList.flatMap fun q => ids1 (ρ' q.2)) = parts.toList.flatMap fun q => ids1 (ρ q.2) := by
        rw [List.flatMap_def, List.flatMap_def]
        congr 1
        exact List.map_congr_left fun q hq => by rw [h q.2 (by simp only [List.mem_toArray, List.mem_map]; exact ⟨q, hq, rfl⟩)]
      rw [this]
  case slice t x lo hi mx =>
    have hx : ρ' x = ρ x := h x (by simp)
    refine ⟨?_, by simp only [reads, hx]⟩
    simp only [aop]
    have hlo : lo.map ρ' = lo.map ρ := by
      cases lo with
      | none => rfl
      | some y => rw [Option.map_some, Option.map_some, h y (by simp)]
    have hhi : hi.map ρ' = hi.map ρ := by
      cases hi with
      | none => rfl
      | some y => rw [Option.map_some, Option.map_some, h y (by simp)]
    rw [hx, hlo, hhi]
  case makeFunc f first caps =>
    refine ⟨?_, rfl⟩
    simp only [aop]
    have : caps.toList.map ρ' = caps.toList.map ρ := List.map_congr_left fun x hx => h x (by simp at hx ⊢; exact .inr hx)
    rw [this]
  case call c =>
    have hargs : ∀ x ∈ c.args.toList, ρ' x = ρ x := fun x hx => h x (mem_args (by simpa using hx))
    cases hc : c.callee with
    | invoke r m => exact ⟨by simp only [aop, hc], by simp only [reads, hc]; rw [List.flatMap_def, List.flatMap_def]; congr 1; exact List.map_congr_left fun x hx => by rw [hargs x hx]⟩
    | builtin b =>
      refine ⟨?_, by simp only [reads, hc]; rw [List.flatMap_def, List.flatMap_def]; congr 1; exact List.map_congr_left fun x hx => by rw [hargs x hx]⟩
      cases b <;> simp only [aop, hc] <;> try rfl
      case len =>
        cases hl : c.args.toList with
        | nil => rfl
        | cons x r =>
          cases r with
          | nil =>
            have hx := hargs x (by rw [hl]; simp)
            cases c.argTypes[0]?.bind E.ty with
            | none => rfl
            | some ti => simp only [hx]
          | cons _ _ => rfl
      case append =>
        have h1 : aappend E look ρ' d k c = aappend E look ρ d k c := by
          unfold aappend
          split
          · rename_i s x hl
            rw [hargs s (by rw [hl]; simp), hargs x (by rw [hl]; simp)]
          · rfl
        split
        · rename_i s x t t' hl _
          rw [hargs s (by rw [hl]; simp), hargs x (by rw [hl]; simp), h1]
        · exact h1
      all_goals rw [show c.args.toList.map ρ' = c.args.toList.map ρ from List.map_congr_left hargs]
    | value f =>
      have hf : ρ' f = ρ f := h f (by simp [Call.operands, hc])
      refine ⟨?_, ?_⟩
      · simp only [aop, hc, hf]
        have : (c.args.toList.zip c.argTypes.toList).map (fun q => typedArg E q.2 (ρ' q.1)) = (c.args.toList.zip c.argTypes.toList).map (fun q => typedArg E q.2 (ρ q.1)) :=
          List.map_congr_left fun q hq => by obtain ⟨q1, q2⟩ := q; simp only; rw [hargs q1 (List.of_mem_zip hq).1]
        rw [this]
      · simp only [reads, hc, hf]
        congr 1
        rw [List.flatMap_def, List.flatMap_def]
        congr 1
        exact List.map_congr_left fun x hx => by rw [hargs x hx]
  all_goals first
    | (refine ⟨?_, ?_⟩ <;> simp only [aop, reads] <;> simp at h <;> simp [h]; done)
    | skip

theorem closers_slots (h : ∀ x ∈ o.op.operands, ρ' x = ρ x) : closers ρ' o = closers ρ o := by
  obtain ⟨dst, op, type, pos, after, guard⟩ := o
  cases op <;> simp only [Op.operands] at h <;> try rfl
  case call c =>
    simp only [closers]
    have : ∀ x ∈ c.args.toList, (match ρ' x with | .own id => [id] | _ => []) = (match ρ x with | .own id => [id] | _ => []) := fun x hx => by rw [h x (mem_args (by simpa using hx))]
    split
    · rfl
    · rw [List.flatMap_def, List.flatMap_def]
      congr 1
      exact List.map_congr_left fun x hx => by rw [h x (mem_args (by simpa using hx))]

theorem aopN_slots (h : ∀ x ∈ o.op.operands, ρ' x = ρ x) (k : AV → Sets → Option R) : aopN E look ρ' o d k = aopN E look ρ o d k ∧ readsN look ρ' o = readsN look ρ o := by
  refine ⟨?_, by unfold readsN; rw [(aop_slots (E := E) (look := look) (d := d) h k).2]⟩
  unfold aopN
  rw [closers_slots h]
  split
  · exact (aop_slots h k).1
  · rename_i cs _
    exact (aop_slots h _).1

/-! What is put back before an operation hangs on what the operation reads. -/

theorem closers_reads (look : Nat → Option Ob) : ∀ id ∈ closers ρ o, id ∈ reads look ρ o := by
  intro id h
  obtain ⟨dst, op, type, pos, after, guard⟩ := o
  cases op <;> simp only [closers] at h <;> try (simp at h; done)
  case call c =>
    split at h
    · simp at h
    · obtain ⟨x, hx, h⟩ := List.mem_flatMap.1 h
      split at h
      · rename_i i q
        have h1 : id ∈ ids1 (ρ x) := by rw [q]; simpa [ids1] using h
        have h2 : id ∈ (ρ x).ids look 8 := by rw [q]; simpa [AV.ids] using h
        simp only [reads]
        split
        · exact List.mem_append_right _ (List.mem_flatMap.2 ⟨x, hx, h2⟩)
        · exact List.mem_flatMap.2 ⟨x, hx, h1⟩
      · simp at h

theorem closeSets_keys {id x : Nat} {look : Nat → Option Ob} : setHp look (closeSets look id) x = look x ∨ (holeOf (setHp look (closeSets look id)) x = [] ∧ (∀ t cs, setHp look (closeSets look id) x ≠ some (.box t cs)) ∧ ∀ t cs, look x ≠ some (.box t cs)) := by
  unfold closeSets
  split
  case h_2 => exact .inl rfl
  rename_i t el e yss i n hid
  split
  case h_2 => exact .inl rfl
  rename_i el2 e2 ys2 hn
  split
  case isFalse => exact .inl rfl
  simp only [setHp]
  by_cases h1 : x = id
  · refine .inr ⟨by simp [holeOf, h1], by simp [h1], by simp [h1, hid]⟩
  · by_cases h2 : x = n
    · refine .inr ⟨by simp [holeOf, h1, h2], by simp [h1, h2], by simp [h2, hn]⟩
    · exact .inl (by simp [h1, h2])

theorem hole_close {id x n : Nat} {look : Nat → Option Ob} (h : n ∈ holeOf (setHp look (closeSets look id)) x) : n ∈ holeOf look x := by
  rcases closeSets_keys (id := id) (x := x) (look := look) with h1 | h1
  · unfold holeOf at h ⊢
    rwa [h1] at h
  · rw [h1.1] at h
    simp at h

theorem ids_box {look look' : Nat → Option Ob} (hb : ∀ x, look' x = look x ∨ ((∀ t cs, look' x ≠ some (.box t cs)) ∧ ∀ t cs, look x ≠ some (.box t cs))) : ∀ (n : Nat) (v : AV), v.ids look' n = v.ids look n
  | 0, v => rfl
  | n + 1, v => by
    have hmap : ∀ cs : List AV, cs.flatMap (AV.ids look' n) = cs.flatMap (AV.ids look n) := fun cs => by
      rw [List.flatMap_def, List.flatMap_def]
      congr 1
      exact List.map_congr_left fun c _ => ids_box hb n c
    cases v with
    | ptr id off =>
      simp only [AV.ids]
      rcases hb id with h | ⟨h1, h2⟩
      · rw [h]
        split
        · rw [hmap]
        · rfl
      · split
        · rename_i q
          exact absurd q (h1 _ _)
        · first
            | rfl
            | (split
               · rename_i q
                 exact absurd q (h2 _ _)
               · rfl)
    | clo f cs => simp only [AV.ids, hmap]
    | agg cs => simp only [AV.ids, hmap]
    | tup cs => simp only [AV.ids, hmap]
    | vptr cs off => simp only [AV.ids, hmap]
    | _ => rfl

theorem reads_box {look look' : Nat → Option Ob} (hb : ∀ x, look' x = look x ∨ ((∀ t cs, look' x ≠ some (.box t cs)) ∧ ∀ t cs, look x ≠ some (.box t cs))) : reads look' ρ o = reads look ρ o := by
  unfold reads
  simp only [ids_box hb]

theorem close_box {id : Nat} {look : Nat → Option Ob} (x : Nat) : setHp look (closeSets look id) x = look x ∨ ((∀ t cs, setHp look (closeSets look id) x ≠ some (.box t cs)) ∧ ∀ t cs, look x ≠ some (.box t cs)) :=
  (closeSets_keys (id := id) (x := x) (look := look)).imp_right (·.2)

theorem closeSets_local {id : Nat} {look look' : Nat → Option Ob} (h1 : look' id = look id) (h2 : ∀ n ∈ holeOf look id, look' n = look n) : closeSets look' id = closeSets look id := by
  unfold closeSets
  rw [h1]
  split
  · rename_i n q
    rw [h2 n (by simp [holeOf, q])]
  · rfl

theorem setHp_same {look look' : Nat → Option Ob} {x : Nat} (h : look' x = look x) : ∀ u : Sets, setHp look' u x = setHp look u x
  | [] => h
  | (i, o) :: r => by
    simp only [setHp]
    rw [setHp_same h r]

theorem closeAll_local : ∀ (l : List Nat) (look look' : Nat → Option Ob), (∀ id ∈ l, look' id = look id ∧ ∀ n ∈ holeOf look id, look' n = look n) → closeAll l look' = closeAll l look ∧ (∀ x n, n ∈ holeOf (setHp look (closeAll l look)) x → n ∈ holeOf look x) ∧ reads (setHp look (closeAll l look)) ρ o = reads look ρ o
  | [], look, look', _ => ⟨rfl, fun _ _ h => h, rfl⟩
  | id :: l, look, look', h => by
    have h0 := h id (by simp)
    have e := closeSets_local h0.1 h0.2
    have ih := closeAll_local l (setHp look (closeSets look id)) (setHp look' (closeSets look id)) fun x hx =>
      ⟨setHp_same (h x (by simp [hx])).1 _, fun n hn => setHp_same ((h x (by simp [hx])).2 n (hole_close hn)) _⟩
    refine ⟨by rw [closeAll, closeAll, e, ih.1], ?_, ?_⟩
    · intro x n hn
      rw [closeAll, setHp_append] at hn
      exact hole_close (ih.2.1 x n hn)
    · rw [closeAll, setHp_append, ih.2.2]
      exact reads_box close_box

theorem readsN_closeAll {l : List Nat} {look : Nat → Option Ob} {id : Nat} (h : id ∈ readsN (setHp look (closeAll l look)) ρ o) : id ∈ readsN look ρ o := by
  have hc := closeAll_local (ρ := ρ) (o := o) l look look fun _ _ => ⟨rfl, fun _ _ => rfl⟩
  unfold readsN at h ⊢
  rw [hc.2.2] at h
  split
  · rename_i q
    rw [if_pos q] at h
    exact h
  · rename_i q
    rw [if_neg q] at h
    rcases List.mem_append.1 h with h | h
    · exact List.mem_append_left _ h
    · obtain ⟨x, hx, hn⟩ := List.mem_flatMap.1 h
      exact List.mem_append_right _ (List.mem_flatMap.2 ⟨x, hx, hc.2.1 x id hn⟩)

theorem closers_nil (h : Globs.nst.isEmpty = true) : closers ρ o = [] := by
  have hn : Globs.nst = [] := by simpa using h
  unfold closers
  split
  · simp [h]
  · rfl

/-- An operation with what it wants put back hangs on what it reads, and on nothing else of memory. -/
theorem shp_set {look look' : Nat → Option Ob} {x : Nat} (h : shp (look' x) = shp (look x)) : ∀ u : Sets, shp (setHp look' u x) = shp (setHp look u x)
  | [] => h
  | (i, o) :: r => by
    simp only [setHp]
    by_cases he : x = i
    · rw [if_pos he, if_pos he]
    · rw [if_neg he, if_neg he]
      exact shp_set h r

theorem aopN_look (hN : ∀ id ∈ readsN look ρ o, look' id = look id) (hS : ∀ id ∈ readsS ρ o, shp (look' id) = shp (look id)) (k : AV → Sets → Option R) : aopN E look' ρ o d k = aopN E look ρ o d k := by
  have hcl : closeAll (closers ρ o) look' = closeAll (closers ρ o) look := by
    cases hn : Globs.nst.isEmpty with
    | true => rw [closers_nil hn]; rfl
    | false => exact (closeAll_local (ρ := ρ) (o := o) _ _ _ fun id hid => ⟨hN id (readsN_sub (closers_reads look id hid)), fun n hn2 => hN n (readsN_hole hn (closers_reads look id hid) hn2)⟩).1
  unfold aopN
  rw [hcl]
  split
  · exact aop_look hN hS k
  · rename_i cs _
    refine aop_look (fun id hid => setHp_same (hN id ?_) _) (fun id hid => shp_set (hS id hid) _) _
    exact readsN_closeAll hid

theorem readsN_look (hN : ∀ id ∈ readsN look ρ o, look' id = look id) : readsN look' ρ o = readsN look ρ o := by
  have h := reads_look (look' := look') fun id hid => hN id (readsN_sub (look := look) (ρ := ρ) (o := o) hid)
  unfold readsN
  rw [h]
  split
  · rfl
  · rename_i hn
    congr 1
    rw [List.flatMap_def, List.flatMap_def]
    congr 1
    refine List.map_congr_left fun x hx => ?_
    unfold holeOf
    rw [hN x (readsN_sub hx)]

end
end Go.Sym
