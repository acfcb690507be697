/- The symbolic machine and the model: operations that make memory. -/
import Derived.Test.YtmphbdhjdalgnaaGreatDoorSymH
import Derived.Laws.Tables
namespace Go.Sym
set_option linter.unusedVariables false
set_option linter.unusedSimpArgs false
set_option linter.unusedSectionVars false
variable [Globs] [Dm]

section
variable {R : Type} {P : Program} {E : Env} {C : Ctx} {B : Nat} {L : Fr} {hp : Nat → Option Ob} {k : AV → Sets → Option R} {r : R} {o : Oper} {a : Act}

theorem setHp_append (hp : Nat → Option Ob) : ∀ (u u' : Sets), setHp hp (u ++ u') = setHp (setHp hp u') u
  | [], _ => rfl
  | (i, o) :: u, u' => by simp only [List.cons_append, setHp, setHp_append hp u u']

theorem setHp_cons (hp : Nat → Option Ob) (p : Nat × Option Ob) (u : Sets) : setHp hp (p :: u) = setHp (setHp hp u) [p] := setHp_append hp [p] u

theorem alloc_old (w : World) (ob : Obj) (k : Nat) (h : k < w.heap.size) : (w.alloc ob).heap[k]? = w.heap[k]? := heap_alloc_old w ob k h

/-- A new block of cells gets a name. -/
theorem Heap.new (hH : Heap C B L hp) (hB : B ≤ C.w.heap.size) {id : Nat} (hid : ¬ C.A id) (t : TypeId) (vs : Array Value) {pv : Value} {o' : Ob} {w : World} (hw0 : w.heap = C.w.heap) (ho : w.os = C.w.os) (ht : w.tape = C.w.tape) (hu : w.output = C.w.output) (hdr : C.w.drawn ≤ w.drawn)
    (hob : Le C (C.add id pv (w.alloc (.cells vs t))) → ObRep (C.add id pv (w.alloc (.cells vs t))) id o' pv) (hbl : ∀ b, blk (some pv) b → b = C.w.heap.size) :
    Le C (C.add id pv (w.alloc (.cells vs t))) ∧ Heap (C.add id pv (w.alloc (.cells vs t))) B L (setHp hp [(id, some o')]) ∧ Gr B L C.w (w.alloc (.cells vs t)) := by
  have hold : ∀ k, k < C.w.heap.size → (w.alloc (.cells vs t)).heap[k]? = C.w.heap[k]? := fun k hk => by
    rw [alloc_old w _ k (by rw [hw0]; exact hk), hw0]
  have hle := Le.add hH hid pv hold
  have hs : C.w.heap.size ≤ (w.alloc (.cells vs t)).heap.size := by simp [hw0]
  exact ⟨hle, hH.add hB hid hold hs (hob hle) (fun b h => by rw [hbl b h]; exact ⟨Nat.le_refl _, by simp [hw0]⟩), Gr.grow hB ho ht hu hs hold hdr⟩

theorem box_new {M : Prop} (hM : M) (hH : Heap C B L hp) (hB : B ≤ C.w.heap.size) {d : Nat} (hf : Free C d) (t : TypeId) {cs : List AV} {vs : Array Value} (hr : RepL C cs vs.toList) :
    Post C B L hp d M (.ptr (ns d 0) 0) [(ns d 0, some (.box t cs))] (.pointer (some ⟨C.w.heap.size, 0, none⟩)) (C.add (ns d 0) (.pointer (some ⟨C.w.heap.size, 0, none⟩)) (C.w.alloc (.cells vs t))) := by
  have hid := hf (ns d 0) (ns_div d 0 (by omega))
  obtain ⟨h1, h2, h3⟩ := hH.new hB hid t vs (pv := .pointer (some ⟨C.w.heap.size, 0, none⟩)) (o' := .box t cs) (w := C.w) rfl rfl rfl rfl (Nat.le_refl _)
    (fun hle => ⟨C.w.heap.size, vs, rfl, heap_alloc_new C.w _, RepL_mono hle _ _ hr⟩) (fun b hb => by simpa [blk] using hb.symm)
  refine ⟨h1, fun id h => ?_, h2, ?_, h3⟩
  · rcases h with h | rfl
    · exact .inl h
    · exact .inr ⟨hM, ns_div d 0 (by omega)⟩
  · unfold Rep
    exact ⟨.inr rfl, _, rfl, fun pv hp => by simp [Ctx.add] at hp; exact hp.symm⟩

theorem box_ok (hH : Heap C B L hp) (hB : B ≤ C.w.heap.size) (hf : Free C (o.dst.getD 0)) {t : TypeId} {x : Operand} {v : AV} {cs : List AV} (ho : o.op = .box t x) (hv : Rep C v (a.eval x)) (hc : v.cells = some cs)
    (h : k (.ptr (ns (o.dst.getD 0) 0) 0) [(ns (o.dst.getD 0) 0, some (.box t cs))] = some r) : OpOK P o a C B L hp k r :=
  OpOK.val (v' := .pointer (some ⟨C.w.heap.size, 0, none⟩)) (C' := C.add _ _ (C.w.alloc (.cells (a.eval x).cells t)))
    (by simp [execOp, ho, Instr.box, newVar, newRow, Ctx.add]) h (box_new (by simp [makes, ho]) hH hB hf t (cells_rep hc hv))

theorem alloc_ok (hT : TyOk P E) (hH : Heap C B L hp) (hB : B ≤ C.w.heap.size) (hf : Free C (o.dst.getD 0)) {t : TypeId} {ti : TI} (ho : o.op = .alloc t) (ht : E.ty t = some ti)
    (h : k (.ptr (ns (o.dst.getD 0) 0) 0) ((ns (o.dst.getD 0) 0, some (.box t (fresh (o.dst.getD 0) 1 ti.zero).1)) :: (fresh (o.dst.getD 0) 1 ti.zero).2) = some r) : OpOK P o a C B L hp k r := by
  have hR := hT.row ht
  obtain ⟨z, hz, hzc⟩ := run_zero' hR C.w
  obtain ⟨C1, hw, hle, hnew, hH1, hr⟩ := fresh_ok ti.zero 1 (o.dst.getD 0) C hp hH hB hR.simp (by have := hR.small; omega) (fun i h1 h2 => hf _ (ns_div _ i h2))
  have hid : ¬ C1.A (ns (o.dst.getD 0) 0) := by
    intro hA
    rcases hnew _ hA with h | ⟨i, h1, _, h3⟩
    · exact hf _ (ns_div _ 0 (by omega)) h
    · unfold ns at h3; omega
  obtain ⟨h1, h2, h3⟩ := hH1.new (by rw [hw]; exact hB) hid t z.cells (pv := .pointer (some ⟨C1.w.heap.size, 0, none⟩)) (o' := .box t (fresh (o.dst.getD 0) 1 ti.zero).1) (w := C1.w) rfl rfl rfl rfl (Nat.le_refl _)
    (fun hle => ⟨C1.w.heap.size, z.cells, rfl, heap_alloc_new C1.w _, RepL_mono hle _ _ (by rw [hzc]; simpa using hr)⟩) (fun b hb => by simpa [blk] using hb.symm)
  refine OpOK.val (v' := .pointer (some ⟨C1.w.heap.size, 0, none⟩)) (C' := C1.add _ _ (C1.w.alloc (.cells z.cells t))) ?_ h ⟨hle.trans h1, fun id h => ?_, ?_, ?_, ?_⟩
  · simp [execOp, ho, Instr.alloc, hz, newVar, newRow, Ctx.add, hw]
  · rcases h with h | rfl
    · rcases hnew id h with h | ⟨i, q1, q2, rfl⟩
      · exact .inl h
      · exact .inr ⟨by simp [makes, ho], ns_div _ i (by have := hR.small; omega)⟩
    · exact .inr ⟨by simp [makes, ho], ns_div _ 0 (by omega)⟩
  · rw [setHp_cons]; exact h2
  · unfold Rep
    exact ⟨.inr rfl, _, rfl, fun pv hp => by simp [Ctx.add] at hp; exact hp.symm⟩
  · rw [← hw]; exact h3

/-- A new row gets a name. -/
theorem row_new (hH : Heap C B L hp) (hB : B ≤ C.w.heap.size) {id : Nat} (hid : ¬ C.A id) (t : TypeId) {e : ET} {ys : List e.T} {css : List (List Value)} {cur : Array Value} {cap : Nat} {w : World} (hw0 : w.heap = C.w.heap) (ho : w.os = C.w.os) (ht : w.tape = C.w.tape) (hu : w.output = C.w.output) (hdr : C.w.drawn ≤ w.drawn)
    (hr : All2 (RepT C.F C.w e) ys css) (hc1 : ys.length ≤ cap) (hc2 : cap ≤ maxLen) (hsz : cur.size = cap * e.sz) (htk : cur.toList.take (ys.length * e.sz) = css.flatten) :
    Le C (C.add id (.slice (some ⟨C.w.heap.size, 0, none⟩) ys.length cap) (w.alloc (.cells cur t))) ∧
    Heap (C.add id (.slice (some ⟨C.w.heap.size, 0, none⟩) ys.length cap) (w.alloc (.cells cur t))) B L (setHp hp [(id, some (.row t e ys))]) ∧ Gr B L C.w (w.alloc (.cells cur t)) := by
  have hnew : (w.alloc (.cells cur t)).heap[C.w.heap.size]? = some (.cells cur t (0, 0)) := by rw [← hw0]; exact heap_alloc_new w _
  refine hH.new hB hid t cur hw0 ho ht hu hdr (fun hle => ?_) (fun b hb => by simp [blk] at hb; exact hb.2.symm)
  by_cases h0 : cap = 0
  · subst h0
    have : ys = [] := List.eq_nil_of_length_eq_zero (by omega)
    subst this
    exact .inl ⟨rfl, _, rfl⟩
  · exact .inr ⟨C.w.heap.size, cap, cur, css, rfl, h0, hnew, hc1, hc2, hsz, All2.imp (RepT_mono hle.F hle.w e) _ _ hr, htk⟩

theorem fold_set : ∀ (l : List Value) (s off : Nat) (cs : Array Value), off + s + l.length ≤ cs.size →
    ((l.zipIdx s).foldl (fun cs p => cs.setIfInBounds (off + p.2) p.1) cs).toList = cs.toList.take (off + s) ++ l ++ cs.toList.drop (off + s + l.length)
  | [], s, off, cs, h => by simp
  | v :: l, s, off, cs, h => by
    simp only [List.length_cons] at h
    rw [List.zipIdx_cons, List.foldl_cons, fold_set l (s + 1) off _ (by simp; omega)]
    have e := list_seg_step cs.toList (off + s) v l (by simp; omega)
    simpa [Array.toList_setIfInBounds, Nat.add_assoc] using e

theorem fill_one {place : Nat → Option (Nat × Nat)} {cells : Array Value} {i off size : Nat} {v : Value} {rest : List (Nat × Value)} (hp : place i = some (off, size)) (hs : v.cells.size = size) (hl : off + v.cells.size ≤ cells.size) :
    ∃ cells', cells'.toList = cells.toList.take off ++ v.cells.toList ++ cells.toList.drop (off + v.cells.toList.length) ∧ cells'.size = cells.size ∧ Instr.fill place cells ((i, v) :: rest) = Instr.fill place cells' rest := by
  have hf := fold_set v.cells.toList 0 off cells (by simpa using hl)
  have hfe : (fun (cs : Array Value) (x : Value × Nat) => match x with | (c, j) => cs.setIfInBounds (off + j) c) = fun cs p => cs.setIfInBounds (off + p.2) p.1 := by funext cs ⟨c, j⟩; rfl
  refine ⟨(v.cells.toList.zipIdx 0).foldl (fun cs p => cs.setIfInBounds (off + p.2) p.1) cells, by simpa using hf, ?_, ?_⟩
  · have h := congrArg List.length hf
    simp only [Array.length_toList, List.length_append, List.length_take, List.length_drop, Nat.add_zero] at h
    omega
  · rw [Instr.fill, hp]
    simp only [hs, show ¬ (cells.size < off + size) by omega]
    rw [← Array.foldl_toList, Array.toList_zipIdx, hfe]
    simp

theorem apart_ok {fs : List FI} {place : Nat → Option (Nat × Nat)} (hpl : ∀ (i : Nat) (fi : FI), fs[i]? = some fi → place i = some (fi.off, fi.sz)) : ∀ (parts : List (Nat × AV)) (vals : List (Nat × Value)) (cs cs' : List AV) (cells : Array Value),
    All2 (fun p q => p.1 = q.1 ∧ Rep C p.2 q.2) parts vals → RepL C cs cells.toList → apart fs cs parts = some cs' → ∃ cells', Instr.fill place cells vals = some cells' ∧ RepL C cs' cells'.toList
  | [], [], cs, cs', cells, _, hr, h => by simp only [apart] at h; cases h; exact ⟨cells, rfl, hr⟩
  | [], _ :: _, _, _, _, h, _, _ => h.elim
  | _ :: _, [], _, _, _, h, _, _ => h.elim
  | (i, v) :: parts, (j, x) :: vals, cs, cs', cells, ⟨⟨h1, h2⟩, h3⟩, hr, h => by
    simp only at h1 h2; subst h1
    simp only [apart] at h
    split at h
    · rename_i fi vs hfi hvs
      split at h
      · rename_i hle
        have hrc := cells_rep hvs h2
        have hl1 := RepL_len _ _ hrc
        have hl2 := RepL_len _ _ hr
        simp only [Array.length_toList] at hl1 hl2
        obtain ⟨cells', e1, e2, e3⟩ := fill_one (rest := vals) (hpl i fi hfi) (v := x) (by omega) (cells := cells) (by omega)
        rw [e3]
        refine apart_ok hpl parts vals _ cs' cells' h3 ?_ h
        rw [e1]
        exact RepL_splice fi.off hr hrc
      · cases h
    · cases h

theorem places_fs : ∀ (fields : List Field) (fs : List FI), fiB P fields fs = true → fields.mapM (fun f => (P.info? f.type).map fun i => (f.offset, i.size)) = some (fs.map fun fi => (fi.off, fi.sz))
  | [], [], _ => rfl
  | f :: fields, g :: fs, h => by
    simp only [fiB, Bool.and_eq_true, beq_iff_eq] at h
    have ih := places_fs fields fs h.2
    cases hj : P.info? f.type with
    | none => simp [hj] at h
    | some j => simp [hj] at h; simp [List.mapM_cons, hj, ih, h.1.1.1.1, h.1.1.1.2]
  | [], _ :: _, h => by simp [fiB] at h
  | _ :: _, [], h => by simp [fiB] at h

theorem parts_rep : ∀ (ps : List (Nat × Operand)) (ρ : Operand → AV), (∀ x, Rep C (ρ x) (a.eval x)) → All2 (fun p q => p.1 = q.1 ∧ Rep C p.2 q.2) (ps.map fun q => (q.1, ρ q.2)) (ps.map fun q => (q.1, a.eval q.2))
  | [], _, _ => trivial
  | (i, x) :: ps, ρ, h => ⟨⟨rfl, h x⟩, parts_rep ps ρ h⟩

theorem build_ok (hT : TyOk P E) (hH : Heap C B L hp) (hB : B ≤ C.w.heap.size) (hf : Free C (o.dst.getD 0)) {t : TypeId} {fs : List FI} {s b : Nat} {z : List AV} {parts : Array (Nat × Operand)} {ρ : Operand → AV} (hρ : ∀ x, Rep C (ρ x) (a.eval x))
    (ho : o.op = .build t parts) (ht : E.ty t = some ⟨.strct fs, s, b, z⟩) {cs : List AV} (hc : apart fs (fresh (o.dst.getD 0) 0 z).1 (parts.toList.map fun q => (q.1, ρ q.2)) = some cs)
    (h : k (.agg cs) (fresh (o.dst.getD 0) 0 z).2 = some r) : OpOK P o a C B L hp k r := by
  have hR := hT.row ht
  obtain ⟨fields, hu, hfB⟩ := hR.strct
  obtain ⟨i, z', hi, _, _, hz, hzc⟩ := hR.get
  obtain ⟨C1, hw, hle, hnew, hH1, hr⟩ := fresh_ok z 0 (o.dst.getD 0) C hp hH hB hR.simp (by have := hR.small; simp at this; omega) (fun i h1 h2 => hf _ (ns_div _ i h2))
  have hρ1 : ∀ x, Rep C1 (ρ x) (a.eval x) := fun x => Rep_mono hle _ _ (hρ x)
  have hpl : ∀ (i : Nat) (fi : FI), fs[i]? = some fi → ((fs.map fun fi => (fi.off, fi.sz)).toArray[i]? : Option (Nat × Nat)) = some (fi.off, fi.sz) := fun i fi h => by simp [h]
  obtain ⟨cells', e1, e2⟩ := apart_ok (C := C1) hpl _ _ _ cs z'.cells (parts_rep parts.toList ρ hρ1) (by rw [hzc]; simpa using hr) hc
  refine OpOK.val (v' := .agg cells') (C' := C1) ?_ h ⟨hle, fun id h => ?_, hH1, by unfold Rep; exact ⟨_, rfl, e2⟩, by rw [hw]; exact Gr.refl _ _ _⟩
  · have hb := run_build (P := P) C.w t (parts.map fun (i, x) => (i, a.eval x)) cells' (by
      unfold Program.built
      simp only [hi, hu, hz, places_fs _ _ hfB]
      rw [Array.toList_map]
      exact e1)
    simp [execOp, ho, hb, hw]
  · rcases hnew id h with h | ⟨i, q1, q2, rfl⟩
    · exact .inl h
    · exact .inr ⟨by simp [makes, ho], ns_div _ i (by have := hR.small; simp at this; omega)⟩

end
end Go.Sym
