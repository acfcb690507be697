/- The symbolic machine and the model: a region, its names made free; a loop's head. -/
import Derived.Test.YtmphbdhjdalgnaaGreatDoorSymR
import Derived.Deep.LoopGhost
namespace Go.Sym
set_option linter.unusedVariables false
set_option linter.unusedSimpArgs false
set_option linter.unusedSectionVars false
variable [Globs] [Dm]

def Ctx.kill (C : Ctx) (ds : List Nat) : Ctx :=
  { A := fun id => C.A id ∧ ds.contains (id / 1000) = false, F := C.F, ρ := fun id => if ds.contains (id / 1000) then none else C.ρ id, w := C.w, inn := fun id b => ds.contains (id / 1000) = false ∧ C.inn id b }

section
variable {R : Type} {P : Program} {E : Env} {C : Ctx} {n B : Nat} {L : Fr} {s : S} {a : Act} {r : R} {o : Oper} {ops : Array Oper}

theorem kill_rep (ds : List Nat) : ∀ (n : Nat) (c : AV) (v : Value), Rep C c v → Rep (C.kill ds) (c.kill ds n) v
  | 0, c, v, _ => by unfold AV.kill Rep; trivial
  | n + 1, c, v, h => by
    cases c with
    | own id =>
      simp only [AV.kill]
      split
      · unfold Rep; trivial
      · rename_i hk
        unfold Rep at h ⊢
        exact ⟨⟨h.1, by simpa using hk⟩, h.2.1, fun pv hp => h.2.2 pv (by simp only [Ctx.kill] at hp; rwa [if_neg hk] at hp)⟩
    | ptr id off =>
      simp only [AV.kill]
      split
      · unfold Rep; trivial
      · rename_i hk
        unfold Rep at h ⊢
        obtain ⟨h1, b, h2, h3⟩ := h
        exact ⟨⟨h1, by simpa using hk⟩, b, h2, fun pv hp => h3 pv (by simp only [Ctx.kill] at hp; rwa [if_neg hk] at hp)⟩
    | rptr id i sz off =>
      simp only [AV.kill]
      split
      · unfold Rep; trivial
      · rename_i hk
        unfold Rep at h ⊢
        obtain ⟨h1, b, h2, h3⟩ := h
        exact ⟨⟨h1, by simpa using hk⟩, b, h2, fun pv hp => h3 pv (by simp only [Ctx.kill] at hp; rwa [if_neg hk] at hp)⟩
    | mp id =>
      simp only [AV.kill]
      split
      · unfold Rep; trivial
      · rename_i hk
        unfold Rep at h ⊢
        exact ⟨⟨h.1, by simpa using hk⟩, h.2.1, fun pv hp => h.2.2 pv (by simp only [Ctx.kill] at hp; rwa [if_neg hk] at hp)⟩
    | sub id lo sz =>
      simp only [AV.kill]
      split
      · unfold Rep; trivial
      · rename_i hk
        unfold Rep at h ⊢
        exact ⟨⟨h.1, by simpa using hk⟩, h.2.1, fun pv hp => h.2.2 pv (by simp only [Ctx.kill] at hp; rwa [if_neg hk] at hp)⟩
    | clo g caps =>
      simp only [AV.kill]
      unfold Rep at h ⊢
      obtain ⟨vs, e, h⟩ := h
      exact ⟨vs, e, RepL_map caps vs.toList (fun c v _ hc => kill_rep ds n c v hc) h⟩
    | agg caps =>
      simp only [AV.kill]
      unfold Rep at h ⊢
      obtain ⟨vs, e, h⟩ := h
      exact ⟨vs, e, RepL_map caps vs.toList (fun c v _ hc => kill_rep ds n c v hc) h⟩
    | tup caps =>
      simp only [AV.kill]
      unfold Rep at h ⊢
      obtain ⟨vs, e, h⟩ := h
      exact ⟨vs, e, RepL_map caps vs.toList (fun c v _ hc => kill_rep ds n c v hc) h⟩
    | vptr caps off =>
      simp only [AV.kill]
      unfold Rep at h ⊢
      obtain ⟨b, p, vs, e, hb, h, hc⟩ := h
      exact ⟨b, p, vs, e, hb, RepL_map caps vs (fun c v _ hc => kill_rep ds n c v hc) h, hc⟩
    | lst e ys => simp only [AV.kill]; unfold Rep at h ⊢; exact h
    | any => simp only [AV.kill]; unfold Rep; trivial
    | bool _ => simp only [AV.kill]; unfold Rep at h ⊢; exact h
    | int _ _ => simp only [AV.kill]; unfold Rep at h ⊢; exact h
    | str _ => simp only [AV.kill]; unfold Rep at h ⊢; exact h
    | nils => simp only [AV.kill]; unfold Rep at h ⊢; exact h
    | zc _ _ => simp only [AV.kill]; unfold Rep at h ⊢; exact h
    | nilp => simp only [AV.kill]; unfold Rep at h ⊢; exact h
    | nilf => simp only [AV.kill]; unfold Rep at h ⊢; exact h
    | nili => simp only [AV.kill]; unfold Rep at h ⊢; exact h
    | nilm => simp only [AV.kill]; unfold Rep at h ⊢; exact h
    | ifn => simp only [AV.kill]; unfold Rep at h ⊢; exact h
    | ub => simp only [AV.kill]; unfold Rep at h ⊢; exact h
    | gp g o => simp only [AV.kill]; unfold Rep at h ⊢; exact h

theorem kill_row (ds : List Nat) {t : TypeId} {e : ET} {ys : List e.T} {pv : Value} (h : RowRep C t e ys pv) : RowRep (C.kill ds) t e ys pv := h

theorem kill_ob (ds : List Nat) {id : Nat} {ob : Ob} {pv : Value} (hk : ds.contains (id / 1000) = false) (h : ObRep C id ob pv) : ObRep (C.kill ds) id (ob.kill ds) pv := by
  cases ob with
  | box t cs =>
    obtain ⟨b, vs, e, hg, hr⟩ := h
    exact ⟨b, vs, e, hg, RepL_map cs vs.toList (fun c v _ hc => kill_rep ds 8 c v hc) hr⟩
  | row t e ys => exact h
  | map m ps => exact h
  | nest t el e yss ho =>
    simp only [Ob.kill]
    rcases h with ⟨h1, h2, h3⟩ | ⟨g, cap, cur, vs, h1, h2, h3, h4, h5, h6, h7, h8, hn⟩
    · exact .inl ⟨h1, by rw [h2]; rfl, h3⟩
    · have hh : ∀ i, (∀ n, (ho.map fun p => (p.1, p.2.filter fun n => !ds.contains (n / 1000))) ≠ some (i, n)) → ∀ n, ho ≠ some (i, n) := by
        intro i q n e
        exact q _ (by rw [e]; rfl)
      refine .inr ⟨g, cap, cur, vs, h1, h2, h3, h4, h5, h6, h7, fun q => h8 q.2, ⟨hn.len, hn.slc, fun i ys v q1 q2 q3 => ?_, fun i j v v' b q1 q2 q3 q4 q5 => hn.sep i j v v' b q1 q2 q3 (hh i q4) (hh j q5), fun i n e => ?_⟩⟩
      · have := hn.rows i ys v q1 q2 (hh i q3)
        exact ⟨this.1, fun b hb => ⟨hk, this.2 b hb⟩⟩
      · cases ho with
        | none => simp at e
        | some p =>
          obtain ⟨i', n'⟩ := p
          simp only [Option.map_some, Option.some.injEq, Prod.mk.injEq] at e
          obtain ⟨rfl, rfl⟩ := e
          have := hn.hole i' n' rfl
          refine ⟨this.1, fun tn ht => ?_⟩
          rw [Option.filter_eq_some_iff] at ht
          have h9 := this.2 tn ht.1
          have hk2 : ds.contains (tn / 1000) = false := by simpa using ht.2
          refine ⟨⟨h9.1, hk2⟩, fun pv' hp => h9.2 pv' ?_⟩
          simp only [Ctx.kill] at hp
          rwa [hk2] at hp

theorem kill_heap (ds : List Nat) (hds : ∀ i, i < 1000 → ds.contains (i / 1000) = false) (hH : Heap C B L s.hp) : Heap (C.kill ds) B L (killS ds s).hp := by
  have hb : ∀ i b, (C.kill ds).own i b → C.own i b := by
    intro i b h
    rcases h with h | h
    · simp only [Ctx.kill] at h
      split at h
      · simp [blk] at h
      · exact .inl h
    · exact .inr h.2
  refine ⟨fun i h => ?_, fun i ob h => ?_, fun i h => ?_, fun i j b h1 h2 => ?_, fun i b h => ?_, fun i b h => ?_, fun i b h => ?_, fun b h => hH.inb b h, ⟨hH.fr.fro, fun i pv hi h => ?_, fun i hi => ⟨hH.fr.low i hi, hds i (Nat.lt_of_lt_of_le hi L.hm)⟩⟩, hH.glob.mono (fun _ h => h) (fun _ _ => rfl)⟩
  · simp only [killS] at h
    simp only [Ctx.kill]
    split
    · rfl
    · rename_i hk
      rw [if_neg hk, Option.map_eq_none_iff] at h
      exact hH.non i h
  · simp only [killS] at h
    split at h
    · cases h
    · rename_i hk
      obtain ⟨ob', h1, rfl⟩ := Option.map_eq_some_iff.1 h
      obtain ⟨pv, h2, h3⟩ := hH.som i ob' h1
      refine ⟨pv, ?_, kill_ob ds (by simpa using hk) h3⟩
      simp only [Ctx.kill]; rw [if_neg hk]; exact h2
  · simp only [killS] at h
    split at h
    · exact absurd rfl h
    · rename_i hk
      refine ⟨hH.inA i fun hn => h (by rw [hn]; rfl), by simpa using hk⟩
  · exact hH.sep i j b (hb i b h1) (hb j b h2)
  · exact hH.apart i b (hb i b h)
  · exact hH.mine i b (hb i b h)
  · exact hH.lto i b (hb i b h)
  · simp only [Ctx.kill] at h
    split at h
    · cases h
    · exact hH.fr.old i pv hi h

theorem kill_rel (ds : List Nat) (hds : ∀ i, i < 1000 → ds.contains (i / 1000) = false) (hR : Rel n B L C s a) : Rel n B L (C.kill ds) (killS ds s) a :=
  ⟨hR.defers, hR.size, fun t => kill_rep ds 8 _ _ (hR.tm t), kill_heap ds hds hR.heap, hR.base⟩

theorem enter_rel (l : List Oper) (hR : Rel n B L C s a) : ∃ C', Rel n B L C' (enter l s) a ∧ C'.w = C.w ∧ ∀ o ∈ l, makes o = true → Free C' (o.dst.getD 0) := by
  unfold enter
  have hg : ∀ o ∈ l, makes o = true → o.dst.getD 0 + 1 ∈ given l := fun o ho hm => List.mem_filterMap.2 ⟨o, ho, by rw [if_pos hm]⟩
  split
  · rename_i h0
    exact ⟨C, hR, rfl, fun o ho hm => absurd (hg o ho hm) (by rw [h0]; simp)⟩
  · refine ⟨C.kill (given l), kill_rel _ (fun i hi => by
      rw [show i / 1000 = 0 by omega, List.contains_eq_mem]
      simp only [decide_eq_false_iff_not]
      intro hm
      obtain ⟨o, _, ho⟩ := List.mem_filterMap.1 hm
      split at ho <;> simp at ho) hR, rfl, fun o ho hm id hid hA => ?_⟩
    have := hg o ho hm
    have h2 := hA.2
    rw [hid, List.contains_eq_mem] at h2
    simp [this] at h2

/-- The text is of the form that the machine's words bear: every destination is a slot; no two operations of a region make memory at one place. -/
def codeOk (n : Nat) : Code → Bool
  | .region _ ops _ => ops.toList.all (fun o => match o.dst with
      | some d => decide (d < n)
      | none => true) && decide (given ops.toList).Nodup
  | .seq a b => codeOk n a && codeOk n b
  | .cond _ a b => codeOk n a && codeOk n b
  | .block _ b => codeOk n b
  | .loop b => codeOk n b
  | _ => true

theorem given_inj {l : List Oper} (h : (given l).Nodup) : ∀ (i j : Nat) o o', l[i]? = some o → l[j]? = some o' → makes o = true → makes o' = true → o.dst.getD 0 = o'.dst.getD 0 → i = j := by
  induction l with
  | nil => intro i j o o' h1; simp at h1
  | cons x l ih =>
    have hx : given (x :: l) = (if makes x then [x.dst.getD 0 + 1] else []) ++ given l := by
      unfold given
      rw [List.filterMap_cons]
      by_cases hm : makes x = true
      · simp [hm]
      · simp [hm]
    have hg : ∀ o ∈ l, makes o = true → o.dst.getD 0 + 1 ∈ given l := fun o ho hm => List.mem_filterMap.2 ⟨o, ho, by rw [if_pos hm]⟩
    rw [hx] at h
    have hl : (given l).Nodup := by
      split at h
      · exact (List.nodup_cons.1 h).2
      · exact h
    intro i j o o' h1 h2 m1 m2 e
    cases i with
    | zero =>
      cases j with
      | zero => rfl
      | succ j =>
        simp only [List.getElem?_cons_zero, Option.some.injEq] at h1
        simp only [List.getElem?_cons_succ] at h2
        subst h1
        rw [if_pos m1] at h
        exact absurd (by rw [e]; exact hg o' (List.mem_of_getElem? h2) m2) (List.nodup_cons.1 h).1
    | succ i =>
      cases j with
      | zero =>
        simp only [List.getElem?_cons_zero, Option.some.injEq] at h2
        simp only [List.getElem?_cons_succ] at h1
        subst h2
        rw [if_pos m2] at h
        exact absurd (by rw [← e]; exact hg o (List.mem_of_getElem? h1) m1) (List.nodup_cons.1 h).1
      | succ j =>
        simp only [List.getElem?_cons_succ] at h1 h2
        rw [ih hl i j o o' h1 h2 m1 m2 e]

theorem region_ok (hE : Facts P E) {id : Nat} {draw : Bool} {k : S → Option R} {Q : Exit → Act → World → Prop} (hc : codeOk n (.region id ops draw) = true) (hR : Rel n B L C s a)
    (h : (if draw then runDraw E ops ops.toList [] (enter ops.toList s) k else runOps E ops ops.toList (enter ops.toList s) k) = some r)
    (hQ : ∀ C' s' a', Rel n B L C' s' a' → Gr B L C.w C'.w → k s' = some r → Q .normal a' C'.w) : (Code.region id ops draw).wp P Q a C.w := by
  obtain ⟨C1, hR1, hw1, hfree⟩ := enter_rel ops.toList hR
  simp only [codeOk, Bool.and_eq_true, List.all_eq_true, decide_eq_true_eq] at hc
  have hd : ∀ o ∈ ops.toList, ∀ d, o.dst = some d → d < n := by
    intro o ho d hdo
    have := hc.1 o ho
    rw [hdo] at this
    simpa using this
  rw [← hw1]
  cases draw with
  | false =>
    simp only [Bool.false_eq_true, if_false] at h
    refine wp_region ?_
    have := runOps_ok hE (Q := Q) ops.toList 0 C1 _ a hR1 rfl hd hc.2 hfree h (fun C' s' a' q1 q2 q3 => hQ C' s' a' q1 (by rw [← hw1]; exact q2) q3)
    rw [List.range_eq_range']
    simpa using this
  | true =>
    simp only [if_true] at h
    refine wp_region_any hE.mixed ?_
    obtain ⟨T, s', h1, h2, h3, h4⟩ := runDraw_runs _ _ _ h
    let C2 : Ctx := { C1 with w := { C1.w with drawn := C1.w.drawn + 1 } }
    have hR2 : Rel n B L C2 (enter ops.toList s) a := by
      have hle : Le C1 C2 := ⟨fun _ h => h, fun _ h => h, fun _ _ _ h => h, fun _ _ => rfl⟩
      refine ⟨hR1.defers, hR1.size, fun t => Rep_mono hle _ _ (hR1.tm t), ?_, hR1.base⟩
      exact ⟨hR1.heap.non, fun i o ho => (hR1.heap.som i o ho).imp fun pv hp => ⟨hp.1, hp.2.mono hle (fun _ => Iff.rfl) fun _ _ => rfl⟩, hR1.heap.inA, hR1.heap.sep, hR1.heap.apart, hR1.heap.mine, hR1.heap.lto, hR1.heap.inb, ⟨hR1.heap.fr.fro, hR1.heap.fr.old, hR1.heap.fr.low⟩, hR1.heap.glob.mono hle.F hle.w⟩
    have hall : left T (Array.replicate ops.size false) = T.zipIdx := by
      unfold left
      apply List.filter_eq_self.2
      rintro ⟨x, i⟩ hx
      have : i < ops.size := by
        have hi := (List.mk_mem_zipIdx_iff_getElem?.1 hx)
        have := (List.getElem?_eq_some_iff.1 hi).1
        have hl : T.length = ops.size := by have := congrArg List.length h1; simpa using this
        omega
      simp [Array.getD_eq_getD_getElem?, this]
    have hl : T.length = ops.size := by have := congrArg List.length h1; simpa using this
    refine any_ok hE (Q := Q) (T := T) (s' := s') h1 (by simpa using h3) hd ?_ ops.size _ C2 _ a hR2 ?_ ?_ (by simp) ?_ ?_ (fun C' a' q1 q2 => hQ C' s' a' q1 (by rw [← hw1]; exact ⟨q2.os, q2.tape, q2.output, q2.size, q2.block, fun d => Nat.le_trans (Nat.le_succ _) (q2.drawn d)⟩) h4)
    · intro i j o o' q1 q2
      exact given_inj hc.2 i j o o' (by simpa using q1) (by simpa using q2)
    · rw [hall]; simp [hl]
    · rw [hall, List.zipIdx_map_fst]; exact h2
    · intro i o hi hli
      have := (Array.getElem?_eq_some_iff.1 hi).1
      simp [Array.getD_eq_getD_getElem?, this] at hli
    · intro i o hi _ hm
      exact hfree o (by have := Array.mem_of_getElem? hi; simpa using this) hm

end
end Go.Sym
