/- The symbolic machine and the model: slices of slices that own their rows, made; a row taken out. -/
import Derived.Test.YtmphbdhjdalgnaaGreatDoorSymJN
import Derived.Test.YtmphbdhjdalgnaaGreatDoorSymJM
namespace Go.Sym
set_option linter.unusedVariables false
set_option linter.unusedSimpArgs false
set_option linter.unusedSectionVars false
variable [Globs] [Dm]

section
variable {R : Type} {P : Program} {E : Env} {C : Ctx} {B : Nat} {L : Fr} {hp : Nat → Option Ob} {k : AV → Sets → Option R} {r : R} {o : Oper} {a : Act}

/-- A name more, with blocks inside. -/
def Ctx.addN (C : Ctx) (id : Nat) (pv : Value) (I : Nat → Prop) (w : World) : Ctx :=
  { A := fun i => C.A i ∨ i = id, F := C.F, ρ := fun i => if i = id then some pv else C.ρ i, w := w, inn := fun i b => (i = id ∧ I b) ∨ (i ≠ id ∧ C.inn i b) }

theorem addN_own {id : Nat} {pv : Value} {I : Nat → Prop} {w : World} {i b : Nat} (h : (C.addN id pv I w).own i b) : (i = id ∧ (blk (some pv) b ∨ I b)) ∨ (i ≠ id ∧ C.own i b) := by
  rcases h with h | h
  · simp only [Ctx.addN] at h
    split at h
    · exact .inl ⟨by assumption, .inl h⟩
    · exact .inr ⟨by assumption, .inl h⟩
  · rcases h with ⟨h1, h2⟩ | ⟨h1, h2⟩
    · exact .inl ⟨h1, .inr h2⟩
    · exact .inr ⟨h1, .inr h2⟩

theorem Heap.addN (hH : Heap C B L hp) {id : Nat} (hid : ¬ C.A id) {pv : Value} {I : Nat → Prop} {w : World} (hF : ∀ b, C.F b → w.heap[b]? = C.w.heap[b]?) (hB : ∀ i b, C.own i b → w.heap[b]? = C.w.heap[b]?)
    (hs : C.w.heap.size ≤ w.heap.size) {o : Ob} (ho : Le C (C.addN id pv I w) → ObRep (C.addN id pv I w) id o pv) (hb1 : ∀ i b, C.own i b → blk (some pv) b ∨ I b → False) (hb2 : ∀ b, blk (some pv) b ∨ I b → ¬ C.F b) (hb3 : ∀ b, blk (some pv) b ∨ I b → B ≤ b ∨ L.lent b) (hb4 : ∀ b, blk (some pv) b ∨ I b → b < w.heap.size) :
    Le C (C.addN id pv I w) ∧ Heap (C.addN id pv I w) B L (setHp hp [(id, some o)]) := by
  have hle : Le C (C.addN id pv I w) := by
    refine ⟨fun i h => .inl h, fun b h => h, fun i p hA hp' => ?_, fun b hb => hF b hb⟩
    simp only [Ctx.addN] at hp'
    split at hp'
    · subst_vars; exact absurd hA hid
    · exact hp'
  have hfr : HF (C.addN id pv I w) B L := by
    refine ⟨hH.fr.fro, fun i p hi hp => ?_, fun i hi => .inl (hH.fr.low i hi)⟩
    simp only [Ctx.addN] at hp
    split at hp
    · subst_vars; exact absurd (hH.fr.low _ hi) hid
    · exact hH.fr.old i p hi hp
  refine ⟨hle, fun i h => ?_, fun i o' h => ?_, fun i h => ?_, fun i j b h1 h2 => ?_, fun i b h => ?_, fun i b h => ?_, fun i b h => ?_, fun b h => ?_, hfr, hH.glob.mono hle.F hle.w⟩
  · simp only [setHp] at h
    split at h
    · cases h
    · simp only [Ctx.addN]; rw [if_neg (by assumption)]; exact hH.non i h
  · simp only [setHp] at h
    split at h
    · rename_i he
      cases h
      subst he
      exact ⟨pv, by simp [Ctx.addN], ho hle⟩
    · rename_i he
      obtain ⟨p, hp', hob⟩ := hH.som i o' h
      refine ⟨p, by simp [Ctx.addN, he, hp'], hob.mono hle (fun b => ⟨fun q => ?_, fun q => .inr ⟨he, q⟩⟩) fun b hb => hB i b (hb.imp (fun q => by rw [hp']; exact q) fun q => q)⟩
      rcases q with ⟨q, _⟩ | ⟨_, q⟩
      · exact absurd q he
      · exact q
  · simp only [setHp] at h
    split at h
    · exact .inr (by assumption)
    · exact .inl (hH.inA i h)
  · rcases addN_own h1 with ⟨e1, q1⟩ | ⟨e1, q1⟩ <;> rcases addN_own h2 with ⟨e2, q2⟩ | ⟨e2, q2⟩
    · rw [e1, e2]
    · exact (hb1 _ _ q2 q1).elim
    · exact (hb1 _ _ q1 q2).elim
    · exact hH.sep i j b q1 q2
  · rcases addN_own h with ⟨_, q⟩ | ⟨_, q⟩
    · exact hb2 b q
    · exact hH.apart i b q
  · rcases addN_own h with ⟨_, q⟩ | ⟨_, q⟩
    · exact hb3 b q
    · exact hH.mine i b q
  · rcases addN_own h with ⟨_, q⟩ | ⟨_, q⟩
    · exact hb4 b q
    · exact Nat.lt_of_lt_of_le (hH.lto i b q) hs
  · exact Nat.lt_of_lt_of_le (hH.inb b h) hs

/-- A row is taken out of a slice of slices. -/
def Ctx.take (C : Ctx) (id tn : Nat) (v : Value) : Ctx :=
  { C with A := fun i => C.A i ∨ i = tn, ρ := fun i => if i = tn then some v else C.ρ i, inn := fun i b => i ≠ tn ∧ C.inn i b ∧ (i = id → ¬ blk (some v) b) }

theorem take_ok (hH : Heap C B L hp) {id tn i : Nat} (htn : ¬ C.A tn) {t el : TypeId} {e : ET} {yss : List (List e.T)} (hid : hp id = some (.nest t el e yss none)) (hi : i < yss.length) :
    ∃ v g n c, (C.ρ id = some (.slice (some ⟨g, 0, none⟩) n c) ∧ CellsAt C.w g i [v] ∧ ∃ p m cc, v = Value.slice p m cc) ∧ Le C (C.take id tn v) ∧ Heap (C.take id tn v) B L (setHp hp [(id, some (.nest t el e yss (some (i, some tn)))), (tn, some (.row el e (yss.getD i [])))]) := by
  obtain ⟨pv, hρ, hob⟩ := hH.som id _ hid
  have hAid := hH.inA id (by rw [hid]; simp)
  have hne : id ≠ tn := fun e => htn (e ▸ hAid)
  rcases hob with ⟨rfl, _⟩ | ⟨g, cap, cur, vs, e1, h0, hg, q1, q2, q3, q4, q5, q6⟩
  · simp at hi
  subst e1
  have hlt : i < vs.length := by rw [q6.len]; exact hi
  have hvi : vs[i]? = some vs[i] := List.getElem?_eq_getElem hlt
  have hyi : yss[i]? = some (yss.getD i []) := getD_get hi
  obtain ⟨r1, r2⟩ := q6.rows i _ _ hyi hvi (fun n e => by cases e)
  have hle : Le C (C.take id tn vs[i]) := by
    refine ⟨fun i h => .inl h, fun b h => h, fun j p hA hp' => ?_, fun b hb => rfl⟩
    simp only [Ctx.take] at hp'
    split at hp'
    · subst_vars; exact absurd hA htn
    · exact hp'
  have hown : ∀ j b, (C.take id tn vs[i]).own j b → (j = tn ∧ blk (some vs[i]) b) ∨ (j ≠ tn ∧ C.own j b ∧ (j = id → ¬ blk (some vs[i]) b)) := by
    intro j b h
    rcases h with h | h
    · simp only [Ctx.take] at h
      split at h
      · exact .inl ⟨by assumption, h⟩
      · refine .inr ⟨by assumption, .inl h, fun e hb => ?_⟩
        subst e
        rw [hρ] at h
        simp [blk, h0] at h
        subst h
        exact q5 (r2 _ hb)
    · exact .inr ⟨h.1, .inr h.2.1, h.2.2⟩
  have hcell : CellsAt C.w g i [vs[i]] := by
    intro j v hj
    have hj0 : j = 0 := by
      cases j with
      | zero => rfl
      | succ j => simp at hj
    subst hj0
    simp at hj
    subst hj
    rw [Nat.add_zero, cell_of_row C.w g _ cur t (0, 0) hg]
    have key : ∀ v, vs[i]? = some v → cur.toList[i]? = some v := by
      intro v hv
      rw [← q4, List.getElem?_take, if_pos hi] at hv
      exact hv
    simpa using key _ hvi
  refine ⟨vs[i], g, _, _, ⟨hρ, hcell, q6.slc _ (List.getElem_mem hlt)⟩, hle, fun j h => ?_, fun j ob h => ?_, fun j h => ?_, fun j l b h1 h2 => ?_, fun j b h => ?_, fun j b h => ?_, fun j b h => ?_, hH.inb, ⟨hH.fr.fro, fun j p hj hp => ?_, fun j hj => .inl (hH.fr.low j hj)⟩, hH.glob.mono hle.F hle.w⟩
  · simp only [setHp] at h
    split at h
    · cases h
    · split at h
      · cases h
      · simp only [Ctx.take]; rw [if_neg (by assumption)]; exact hH.non j h
  · simp only [setHp] at h
    split at h
    · rename_i he
      subst he
      cases h
      refine ⟨.slice (some ⟨g, 0, none⟩) yss.length cap, by simp only [Ctx.take]; rw [if_neg hne]; exact hρ, .inr ⟨g, cap, cur, vs, rfl, h0, hg, q1, q2, q3, q4, fun q => q5 q.2.1, ?_⟩⟩
      refine ⟨q6.len, q6.slc, fun j ys v s1 s2 s3 => ?_, fun j l v v' b hjl s1 s2 s3 s4 => q6.sep j l v v' b hjl s1 s2 (fun n e => by cases e) (fun n e => by cases e), fun j n hh => ?_⟩
      · have hji : j ≠ i := fun e => s3 (some tn) (by rw [e])
        obtain ⟨t1, t2⟩ := q6.rows j ys v s1 s2 (fun n e => by cases e)
        refine ⟨t1.mono hle fun _ _ => rfl, fun b hb => ⟨hne, t2 b hb, fun _ hb' => ?_⟩⟩
        exact q6.sep j i v _ b hji s2 hvi (fun n e => by cases e) (fun n e => by cases e) hb hb'
      · cases hh
        refine ⟨hi, fun tn' e => ?_⟩
        cases e
        refine ⟨.inr rfl, fun pv' hp' => ?_⟩
        simp [Ctx.take] at hp'
        rw [hvi, hp']
    · rename_i he
      split at h
      · rename_i he2
        subst he2
        cases h
        exact ⟨vs[i], by simp [Ctx.take], r1.mono hle fun _ _ => rfl⟩
      · rename_i he2
        obtain ⟨p, hp', hob⟩ := hH.som j ob h
        exact ⟨p, by simp [Ctx.take, he2, hp'], hob.mono hle (fun b => ⟨fun q => q.2.1, fun q => ⟨he2, q, fun e => absurd e he⟩⟩) fun _ _ => rfl⟩
  · simp only [setHp] at h
    split at h
    · rename_i he; subst he; exact .inl hAid
    · split at h
      · exact .inr (by assumption)
      · exact .inl (hH.inA j h)
  · rcases hown j b h1 with ⟨e1, s1⟩ | ⟨e1, s1, s1'⟩ <;> rcases hown l b h2 with ⟨e2, s2⟩ | ⟨e2, s2, s2'⟩
    · rw [e1, e2]
    · have := hH.sep l id b s2 (.inr (r2 b s1))
      exact absurd s1 (s2' this)
    · have := hH.sep j id b s1 (.inr (r2 b s2))
      exact absurd s2 (s1' this)
    · exact hH.sep j l b s1 s2
  · rcases hown j b h with ⟨_, s⟩ | ⟨_, s, _⟩
    · exact hH.apart id b (.inr (r2 b s))
    · exact hH.apart j b s
  · rcases hown j b h with ⟨_, s⟩ | ⟨_, s, _⟩
    · exact hH.mine id b (.inr (r2 b s))
    · exact hH.mine j b s
  · rcases hown j b h with ⟨_, s⟩ | ⟨_, s, _⟩
    · exact hH.lto id b (.inr (r2 b s))
    · exact hH.lto j b s
  · simp only [Ctx.take] at hp
    split at hp
    · subst_vars; exact absurd (hH.fr.low _ hj) htn
    · exact hH.fr.old j p hj hp

theorem amakeN_ok (hT : TyOk P E) (hH : Heap C B L hp) (hB : B ≤ C.w.heap.size) (hf : Free C (o.dst.getD 0)) {t : TypeId} {x y : Operand} {l c : AV} (ho : o.op = .makeSlice t x y) (hl : Rep C l (a.eval x)) (hc : Rep C c (a.eval y))
    (h : amakeN E (o.dst.getD 0) k t l c = some r) : OpOK P o a C B L hp k r := by
  unfold amakeN at h
  split at h
  case h_2 => cases h
  rename_i el e s b z ht
  split at h
  case h_2 => cases h
  rename_i el' e' sz by_ zt ze n m hel
  split at h
  case isFalse => cases h
  rename_i hh
  obtain ⟨rfl, rfl, rfl⟩ := hh
  rcases sat_br h with ⟨hb, hk⟩ | ⟨_, h⟩
  case inr => cases h
  simp only [Bool.and_eq_true, decide_eq_true_eq] at hb
  obtain ⟨h0, rfl, hroom⟩ := hb
  unfold Rep at hl hc
  have hR := hT.row ht
  have hRe := hT.row hel
  obtain ⟨i, z', hi, hi1, hi2, hz1, hz2⟩ := hRe.get
  simp only at hi1 hi2
  have hid := hf (ns (o.dst.getD 0) 0) (ns_div _ 0 (by omega))
  have hn2 : n ≤ 140737488355328 := by unfold room at hroom; omega
  have hrun := run_make (P := P) C.w t el i z' hR.slc hi hz1 .i64 .i64 n n h0 (Int.le_refl _) (by rw [hi2]; unfold room at hroom; omega) (by omega)
  have hzc : z'.cells = #[Value.slice none 0 0] := by rw [hz2]; rfl
  have hcells : (madeCells z'.cells (n.toNat * i.size)).toList = List.replicate n.toNat (Value.slice none 0 0) := by
    have := madeCells_flat z'.cells n.toNat
    rw [hzc] at this ⊢
    rw [hi1]
    rw [show (#[Value.slice none 0 0] : Array Value).size = 1 from rfl] at this
    rw [this]
    simp
  obtain ⟨g1, g2, g3⟩ := hH.new hB hid el (madeCells z'.cells (n.toNat * i.size)) (pv := .slice (some ⟨C.w.heap.size, 0, none⟩) n.toNat n.toNat) (o' := .nest el el' e' (List.replicate n.toNat []) none) (w := C.w) rfl rfl rfl rfl (Nat.le_refl _)
    (fun hle => by
      by_cases hn0 : n.toNat = 0
      · rw [hn0]; exact .inl ⟨rfl, rfl, _, rfl⟩
      · refine .inr ⟨C.w.heap.size, n.toNat, _, List.replicate n.toNat (Value.slice none 0 0), by simp, hn0, heap_alloc_new C.w _, by simp, by unfold maxLen; omega, by rw [← Array.length_toList, hcells]; simp, by rw [hcells]; simp, fun q => q.1 rfl, ?_⟩
        refine ⟨by simp, fun v hv => ⟨none, 0, 0, (List.mem_replicate.1 hv).2⟩, fun j ys v s1 s2 _ => ?_, fun j l v v' b _ s1 s2 _ _ hb => ?_, fun j n hh => by cases hh⟩
        · have e1 := (List.mem_replicate.1 (List.mem_of_getElem? s1)).2
          have e2 := (List.mem_replicate.1 (List.mem_of_getElem? s2)).2
          subst e1 e2
          exact ⟨.inl ⟨rfl, none, rfl⟩, fun b hb => by simp [blk] at hb⟩
        · have e1 := (List.mem_replicate.1 (List.mem_of_getElem? s1)).2
          subst e1
          simp [blk] at hb)
    (fun b hb => by simp [blk] at hb; exact hb.2.symm)
  refine OpOK.val (v' := .slice (some ⟨C.w.heap.size, 0, none⟩) n.toNat n.toNat) (C' := C.add _ _ (C.w.alloc (.cells (madeCells z'.cells (n.toNat * i.size)) el))) ?_ hk ⟨g1, fun id h => ?_, g2, ?_, g3⟩
  · simp [execOp, ho, hl, hc, hrun]; rfl
  · rcases h with h | rfl
    · exact .inl h
    · exact .inr ⟨by simp [makes, ho], ns_div _ 0 (by omega)⟩
  · unfold Rep
    exact ⟨.inr rfl, ⟨_, _, _, rfl⟩, fun pv hp => by simp [Ctx.add] at hp; rw [← hp]⟩

theorem run_build_one {t el : TypeId} {ti : TI} (hR : P.underlying t = some (.slice el)) (hRe : TyRow P el ti) (hs : ti.size = 1) (w : World) {v : Value} (hv : v.cells = #[v]) :
    (Instr.buildSlice t 1 #[(0, v)]).run P w = .ok (.slice (some ⟨w.heap.size, 0, none⟩) 1 1) (w.alloc (.cells #[v] el)) := by
  obtain ⟨zv, hz, hzc⟩ := run_zero' hRe w
  have hzs : zv.cells.size = 1 := by rw [hzc]; simp [hRe.zlen, hs]
  have hfill : Instr.fill (fun i => some (i * 1, 1)) ((Array.range (1 * 1)).map (zv.cells[· % zv.cells.size]!)) [(0, v)] = some #[v] := by
    obtain ⟨cells1, e1, e2, e3⟩ := fill_one (place := fun i => some (i * 1, 1)) (i := 0) (v := v) (cells := (Array.range (1 * 1)).map (zv.cells[· % zv.cells.size]!)) (rest := []) (size := 1) (off := 0) rfl (by rw [hv]; rfl) (by simp [hv])
    rw [e3]
    simp only [Instr.fill]
    congr 1
    apply Array.ext'
    rw [e1, hv]
    simp
  unfold Instr.buildSlice
  simp only [Sem.run_bind, run_underlying hR, Result.andThen_ok, run_size' hRe, hs]
  simp only [show ¬ (1 * 1 > 2 ^ 24) by decide, if_false, Sem.run_bind, hz, Sem.run_pure, Result.andThen_ok, show ¬ (1 * 1 = 0) by decide]
  rw [hfill]
  rfl

theorem abuildN_ok (hT : TyOk P E) (hH : Heap C B L hp) (hB : B ≤ C.w.heap.size) (hf : Free C (o.dst.getD 0)) {t : TypeId} {len : Nat} {parts : Array (Nat × Operand)} {ρ : Operand → AV} (hρ : ∀ x, Rep C (ρ x) (a.eval x)) (ho : o.op = .buildSlice t len parts)
    (h : abuildN E hp (o.dst.getD 0) k t len (parts.toList.map fun q => (q.1, ρ q.2)) = some r) : OpOK P o a C B L hp k r := by
  unfold abuildN at h
  split at h
  case h_2 => cases h
  rename_i el e s b z ht
  split at h
  case h_2 => cases h
  rename_i el' e' sz by_ zz hel
  split at h
  case isFalse => cases h
  rename_i hh
  obtain ⟨rfl, rfl⟩ := hh
  have hR := hT.row ht
  have hRe := hT.row hel
  have hid := hf (ns (o.dst.getD 0) 0) (ns_div _ 0 (by omega))
  split at h
  case h_3 => cases h
  case h_1 hparts =>
    split at h
    case isFalse => cases h
    rename_i hlen
    subst hlen
    have hp0 : parts = #[] := by
      have := List.map_eq_nil_iff.1 hparts
      exact Array.toList_eq_nil_iff.1 this
    subst hp0
    have hrun : (Instr.buildSlice t 0 #[]).run P C.w = .ok (.slice (some ⟨C.w.heap.size, 0, none⟩) 0 0) (C.w.alloc (.cells #[] el)) := by
      unfold Instr.buildSlice
      simp only [Sem.run_bind, run_underlying hR.slc, Result.andThen_ok, run_size' hRe]
      have hf : ∀ (pl : Nat → Option (Nat × Nat)) (f : Nat → Value), Instr.fill pl ((Array.range 0).map f) [] = some #[] := fun pl f => by simp [Instr.fill]
      simp only [Nat.zero_mul, show ¬ (0 > 2 ^ 24) by omega, if_false, if_true, Sem.run_bind, Sem.run_pure, Result.andThen_ok, hf]
      rfl
    obtain ⟨g1, g2, g3⟩ := hH.new hB hid el #[] (pv := .slice (some ⟨C.w.heap.size, 0, none⟩) 0 0) (o' := .nest el el' e' [] none) (w := C.w) rfl rfl rfl rfl (Nat.le_refl _) (fun hle => .inl ⟨rfl, rfl, _, rfl⟩) (fun b hb => by simp [blk] at hb)
    refine OpOK.val (v' := .slice (some ⟨C.w.heap.size, 0, none⟩) 0 0) (C' := C.add _ _ (C.w.alloc (.cells #[] el))) ?_ h ⟨g1, fun id h => ?_, g2, ?_, g3⟩
    · simp [execOp, ho, hrun]; rfl
    · rcases h with h | rfl
      · exact .inl h
      · exact .inr ⟨by simp [makes, ho], ns_div _ 0 (by omega)⟩
    · unfold Rep
      exact ⟨.inr rfl, ⟨_, _, _, rfl⟩, fun pv hp => by simp [Ctx.add] at hp; rw [← hp]⟩
  case h_2 id2 hparts =>
    split at h
    case h_2 => cases h
    rename_i el2 e2 ys2 hb2
    split at h
    case isFalse => cases h
    rename_i hc
    obtain ⟨⟨rfl, rfl⟩, rfl⟩ := hc
    obtain ⟨q, hq1, hq2⟩ : ∃ q : Nat × Operand, parts = #[q] ∧ (q.1, ρ q.2) = (0, AV.own id2) := by
      have hlen := congrArg List.length hparts
      rw [List.length_map] at hlen
      obtain ⟨q, hq⟩ := List.length_eq_one_iff.1 hlen
      rw [hq] at hparts
      refine ⟨q, by apply Array.ext'; rw [hq], ?_⟩
      simpa using hparts
    obtain ⟨j, x⟩ := q
    simp only [Prod.mk.injEq] at hq2
    obtain ⟨rfl, hx⟩ := hq2
    subst hq1
    have hrx := hρ x
    rw [hx] at hrx
    unfold Rep at hrx
    obtain ⟨pv2, hρ2, hob2⟩ := hH.som id2 _ hb2
    have hev := hrx.2.2 pv2 hρ2
    subst hev
    obtain ⟨p, n, c, hsl⟩ := hrx.2.1
    have hrun := run_build_one (P := P) (w := C.w) hR.slc hRe rfl (v := a.eval x) (by rw [hsl]; rfl)
    obtain ⟨hle, hH1⟩ := hH.drop id2
    have hown2 : ∀ b, blk (some (a.eval x)) b → C.own id2 b := fun b hb => .inl (by rw [hρ2]; exact hb)
    have hg : (C.w.alloc (.cells #[a.eval x] el)).heap[C.w.heap.size]? = some (.cells #[a.eval x] el (0, 0)) := heap_alloc_new C.w _
    obtain ⟨g1, g2⟩ := hH1.addN (C := C.drop id2) (id := ns (o.dst.getD 0) 0) hid (pv := .slice (some ⟨C.w.heap.size, 0, none⟩) 1 1) (I := blk (some (a.eval x))) (w := C.w.alloc (.cells #[a.eval x] el))
      (fun b hb => alloc_old C.w _ b (hH.inb b hb)) (fun i b hb => alloc_old C.w _ b (hH.lto i b (drop_own hb).2)) (by simp [Ctx.drop]) (o := .nest el el2 e2 [ys2] none)
      (fun hle2 => .inr ⟨C.w.heap.size, 1, #[a.eval x], [a.eval x], rfl, by omega, hg, by simp, by unfold maxLen; omega, rfl, rfl, fun q => by
          rcases q with ⟨_, q⟩ | ⟨q, _⟩
          · have := hH.lto id2 _ (hown2 _ q); omega
          · exact q rfl,
        ⟨rfl, fun v hv => by rw [List.mem_singleton] at hv; subst hv; exact ⟨p, n, c, hsl⟩, fun i ys v s1 s2 _ => by
          have hi0 : i = 0 := by
            have := (List.getElem?_eq_some_iff.1 s1).1
            simp at this; omega
          subst hi0
          simp at s1 s2
          subst s1 s2
          refine ⟨RowRep.mono (hle.trans hle2) (fun b hb => alloc_old C.w _ b (hH.lto id2 b (hown2 b hb))) hob2, fun b hb => .inl ⟨rfl, hb⟩⟩, fun i j v v' b hij s1 s2 _ _ _ => by
          have h1 := (List.getElem?_eq_some_iff.1 s1).1
          have h2 := (List.getElem?_eq_some_iff.1 s2).1
          simp at h1 h2
          omega, fun i n hh => by cases hh⟩⟩)
      (fun i b h1 h2 => by
        obtain ⟨q1, q2⟩ := drop_own h1
        rcases h2 with h2 | h2
        · simp [blk] at h2
          have := hH.lto i b q2
          omega
        · exact q1 (hH.sep i id2 b q2 (hown2 b h2)))
      (fun b h2 hF => by
        rcases h2 with h2 | h2
        · simp [blk] at h2
          have := hH.inb b hF
          omega
        · exact hH.apart id2 b (hown2 b h2) hF)
      (fun b h2 => by
        rcases h2 with h2 | h2
        · simp [blk] at h2
          left; omega
        · exact hH.mine id2 b (hown2 b h2))
      (fun b h2 => by
        rcases h2 with h2 | h2
        · simp [blk] at h2
          simp; omega
        · have := hH.lto id2 b (hown2 b h2)
          simp; omega)
    have hgr : Gr B L C.w (C.w.alloc (.cells #[a.eval x] el)) := Gr.grow hB rfl rfl rfl (by simp) (fun k hk => alloc_old C.w _ k hk) (Nat.le_refl _)
    have hcomm : setHp hp [(id2, none), (ns (o.dst.getD 0) 0, some (.nest el el2 e2 [ys2] none))] = setHp (setHp hp [(id2, none)]) [(ns (o.dst.getD 0) 0, some (.nest el el2 e2 [ys2] none))] := by
      funext q
      simp only [setHp]
      by_cases h1 : q = id2
      · by_cases h2 : q = ns (o.dst.getD 0) 0
        · exact absurd (h2 ▸ h1 ▸ hrx.1) hid
        · simp [h1]; intro h3; exact absurd (h3 ▸ hrx.1) hid
      · simp [h1]
    refine OpOK.val (v' := .slice (some ⟨C.w.heap.size, 0, none⟩) 1 1) (C' := (C.drop id2).addN _ _ _ (C.w.alloc (.cells #[a.eval x] el))) ?_ h ⟨hle.trans g1, fun id h => ?_, by rw [hcomm]; exact g2, ?_, hgr⟩
    · simp [execOp, ho, hrun]; rfl
    · rcases h with h | rfl
      · exact .inl h
      · exact .inr ⟨by simp [makes, ho], ns_div _ 0 (by omega)⟩
    · unfold Rep
      exact ⟨.inr rfl, ⟨_, _, _, rfl⟩, fun pv hp => by simp [Ctx.addN] at hp; rw [← hp]⟩

theorem NestIn.app {C' : Ctx} (hH : Heap C B L hp) {id id3 nd : Nat} (hne : id ≠ id3) {el : TypeId} {e : ET} {yss zss : List (List e.T)} {vs ws : List Value} (g : NestIn C id el e yss none vs) (g3 : NestIn C id3 el e zss none ws) (hle : Le C C')
    (hin : ∀ b, C'.inn nd b ↔ (C.inn id b ∨ C.inn id3 b)) (hw : ∀ b, C.inn id b ∨ C.inn id3 b → C'.w.heap[b]? = C.w.heap[b]?) : NestIn C' nd el e (yss ++ zss) none (vs ++ ws) := by
  have hl := g.len
  have hl3 := g3.len
  have no : ∀ (i : Nat), ∀ n, (none : Option (Nat × Option Nat)) ≠ some (i, n) := fun i n e => by cases e
  have cell : ∀ (i : Nat) (v : Value), (vs ++ ws)[i]? = some v → (i < vs.length ∧ vs[i]? = some v) ∨ (vs.length ≤ i ∧ ws[i - vs.length]? = some v) := by
    intro i v h
    rcases Nat.lt_or_ge i vs.length with hi | hi
    · rw [List.getElem?_append_left hi] at h; exact .inl ⟨hi, h⟩
    · rw [List.getElem?_append_right hi] at h; exact .inr ⟨hi, h⟩
  have in1 : ∀ (i : Nat) (v : Value) b, vs[i]? = some v → blk (some v) b → C.inn id b := by
    intro i v b h hb
    have hi : i < yss.length := by rw [← hl]; exact (List.getElem?_eq_some_iff.1 h).1
    exact (g.rows i _ v (List.getElem?_eq_getElem hi) h (no i)).2 b hb
  have in3 : ∀ (i : Nat) (v : Value) b, ws[i]? = some v → blk (some v) b → C.inn id3 b := by
    intro i v b h hb
    have hi : i < zss.length := by rw [← hl3]; exact (List.getElem?_eq_some_iff.1 h).1
    exact (g3.rows i _ v (List.getElem?_eq_getElem hi) h (no i)).2 b hb
  refine ⟨by simp [hl, hl3], fun v hv => ?_, fun i ys v s1 s2 _ => ?_, fun i j v v' b hij s1 s2 _ _ hb hb' => ?_, fun i n h => by cases h⟩
  · rcases List.mem_append.1 hv with hv | hv
    · exact g.slc v hv
    · exact g3.slc v hv
  · rcases cell i v s2 with ⟨hi, q⟩ | ⟨hi, q⟩
    · rw [List.getElem?_append_left (by omega)] at s1
      obtain ⟨r1, r2⟩ := g.rows i ys v s1 q (no i)
      exact ⟨r1.mono hle fun b hb => hw b (.inl (r2 b hb)), fun b hb => (hin b).2 (.inl (r2 b hb))⟩
    · rw [List.getElem?_append_right (by omega), ← hl] at s1
      obtain ⟨r1, r2⟩ := g3.rows _ ys v s1 q (no _)
      exact ⟨r1.mono hle fun b hb => hw b (.inr (r2 b hb)), fun b hb => (hin b).2 (.inr (r2 b hb))⟩
  · rcases cell i v s1 with ⟨hi, q⟩ | ⟨hi, q⟩ <;> rcases cell j v' s2 with ⟨hj, q'⟩ | ⟨hj, q'⟩
    · exact g.sep i j v v' b hij q q' (no i) (no j) hb hb'
    · exact hne (hH.sep id id3 b (.inr (in1 i v b q hb)) (.inr (in3 _ v' b q' hb')))
    · exact hne (hH.sep id id3 b (.inr (in1 j v' b q' hb')) (.inr (in3 _ v b q hb)))
    · exact g3.sep _ _ v v' b (by omega) q q' (no _) (no _) hb hb'

theorem nest_cells {id : Nat} {t el : TypeId} {e : ET} {yss : List (List e.T)} {pv : Value} (h : ObRep C id (.nest t el e yss none) pv) :
    (yss = [] ∧ ∃ a, pv = .slice a 0 0) ∨ ∃ g cap cur vs, pv = .slice (some ⟨g, 0, none⟩) yss.length cap ∧ cap ≠ 0 ∧ C.w.heap[g]? = some (.cells cur t (0, 0)) ∧ yss.length ≤ cap ∧ cap ≤ maxLen ∧ cur.size = cap ∧ cur.toList.take yss.length = vs ∧ ¬ C.inn id g ∧ NestIn C id el e yss none vs := by
  rcases h with ⟨h1, _, h2⟩ | h
  · exact .inl ⟨h1, h2⟩
  · exact .inr h

theorem NestIn.nil {id : Nat} {el : TypeId} {e : ET} : NestIn C id el e [] none [] :=
  ⟨rfl, fun v hv => by simp at hv, fun i ys v s1 => by simp at s1, fun i j v v' b _ s1 => by simp at s1, fun i n h => by cases h⟩

theorem anest_ok (hT : TyOk P E) (hH : Heap C B L hp) (hB : B ≤ C.w.heap.size) (hf : Free C (o.dst.getD 0)) {c : Call} {s x : Operand} {tt : TypeId} {u v : AV} (ho : o.op = .call c) (hc : c.callee = .builtin .append) (hargs : c.args.toList = [s, x]) (htys : c.argTypes.toList = [tt, tt])
    (hs : Rep C u (a.eval s)) (hx : Rep C v (a.eval x)) (h : anest E hp (o.dst.getD 0) k tt u v = some r) : OpOK P o a C B L hp k r := by
  unfold anest at h
  split at h
  case h_2 => cases h
  rename_i t0 e0 _ _ _ ht
  split at h
  case h_2 => cases h
  rename_i el' e' sz by_ zt ze hel
  split at h
  case h_2 => cases h
  rename_i id id3
  split at h
  case h_2 => cases h
  rename_i t el e yss t3 el3 e3 zss hb hb3
  split at h
  case isFalse => cases h
  rename_i hh
  obtain ⟨⟨⟨rfl, rfl⟩, rfl⟩, hne, rfl, rfl, rfl⟩ := hh
  rcases sat_br h with ⟨hroom, hk⟩ | ⟨_, h⟩
  case inr => cases h
  have hroom := of_decide_eq_true hroom
  unfold Rep at hs hx
  obtain ⟨pv, hρ, hob⟩ := hH.som id _ hb
  obtain ⟨pv3, hρ3, hob3⟩ := hH.som id3 _ hb3
  have hsv := hs.2.2 pv hρ
  have hxv := hx.2.2 pv3 hρ3
  have hu := (hT.row ht).slc
  have hRe := hT.row hel
  obtain ⟨i, z', hi, hi1, hi2, hz1, hz2⟩ := hRe.get
  simp only at hi1 hi2
  have hnd := hf (ns (o.dst.getD 0) 0) (ns_div _ 0 (by omega))
  have ha : c.args = #[s, x] := by cases hq : c.args; rw [hq] at hargs; simp at hargs; rw [hargs]
  have hat : c.argTypes = #[tt, tt] := by cases hq : c.argTypes; rw [hq] at htys; simp at htys; rw [htys]
  have hzc : z'.cells = #[Value.slice none 0 0] := by rw [hz2]; rfl
  have hlen : yss.length + zss.length ≤ 140737488355328 := by unfold room at hroom; omega
  -- the end
  have last : ∀ (v' : Value) (w' : World), (Builtin.append_ #[tt, tt] o.type #[a.eval s, a.eval x]).run P C.w = .ok v' w' → (∃ p n c, v' = Value.slice p n c) → Gr B L C.w w' → (∀ b, C.F b → w'.heap[b]? = C.w.heap[b]?) → (∀ i b, i ≠ id → C.own i b → w'.heap[b]? = C.w.heap[b]?) → C.w.heap.size ≤ w'.heap.size →
      (∀ b, blk (some v') b → (C.own id b ∨ C.w.heap.size ≤ b) ∧ b < w'.heap.size) → (∀ C' : Ctx, Le C C' → C'.w = w' → (∀ b, C'.inn (ns (o.dst.getD 0) 0) b ↔ (C.inn id b ∨ C.inn id3 b)) → ObRep C' (ns (o.dst.getD 0) 0) (.nest t3 el3 e3 (yss ++ zss) none) v') → OpOK P o a C B L hp k r := by
    intro v' w' hrun hsl hgr hF hB' hsz hbl hob'
    obtain ⟨hle, hH1⟩ := hH.drop id
    obtain ⟨hle3, hH3⟩ := hH1.drop id3
    have hJ : ∀ b, blk (some v') b ∨ (C.inn id b ∨ C.inn id3 b) → C.own id b ∨ C.own id3 b ∨ C.w.heap.size ≤ b := by
      rintro b (hb | hb | hb)
      · rcases (hbl b hb).1 with q | q
        · exact .inl q
        · exact .inr (.inr q)
      · exact .inl (.inr hb)
      · exact .inr (.inl (.inr hb))
    have hI : ∀ b, ((C.drop id).drop id3).inn id b ∨ True := fun _ => .inr trivial
    obtain ⟨g1, g2⟩ := hH3.addN (C := (C.drop id).drop id3) (id := ns (o.dst.getD 0) 0) hnd (pv := v') (I := fun b => C.inn id b ∨ C.inn id3 b) (w := w') (fun b hb => hF b hb) (fun i b hb => hB' i b (drop_own (drop_own hb).2).1 (drop_own (drop_own hb).2).2) hsz (o := .nest t3 el3 e3 (yss ++ zss) none)
      (fun hle2 => hob' _ (hle.trans (hle3.trans hle2)) rfl fun b => ⟨fun q => by rcases q with ⟨_, q⟩ | ⟨q, _⟩; exact q; exact absurd rfl q, fun q => .inl ⟨rfl, q⟩⟩)
      (fun i b h1 h2 => by
        obtain ⟨q1, q2⟩ := drop_own h1
        obtain ⟨q3, q4⟩ := drop_own q2
        rcases hJ b h2 with q | q | q
        · exact q3 (hH.sep i id b q4 q)
        · exact q1 (hH.sep i id3 b q4 q)
        · have := hH.lto i b q4; omega)
      (fun b h2 hF' => by
        rcases hJ b h2 with q | q | q
        · exact hH.apart _ b q hF'
        · exact hH.apart _ b q hF'
        · have := hH.inb b hF'; omega)
      (fun b h2 => by
        rcases hJ b h2 with q | q | q
        · exact hH.mine _ b q
        · exact hH.mine _ b q
        · left; omega)
      (fun b h2 => by
        rcases h2 with h2 | h2
        · exact (hbl b h2).2
        · refine Nat.lt_of_lt_of_le ?_ hsz
          rcases h2 with h2 | h2
          · exact hH.lto id b (.inr h2)
          · exact hH.lto id3 b (.inr h2))
    have hcomm : setHp hp [(id, none), (id3, none), (ns (o.dst.getD 0) 0, some (.nest t3 el3 e3 (yss ++ zss) none))] = setHp (setHp (setHp hp [(id, none)]) [(id3, none)]) [(ns (o.dst.getD 0) 0, some (.nest t3 el3 e3 (yss ++ zss) none))] := by
      have n1 : ns (o.dst.getD 0) 0 ≠ id := fun e => hnd (e ▸ hs.1)
      have n3 : ns (o.dst.getD 0) 0 ≠ id3 := fun e => hnd (e ▸ hx.1)
      funext q
      simp only [setHp]
      by_cases h1 : q = id
      · subst h1; simp [n1.symm]
      · by_cases h2 : q = id3
        · subst h2; simp [n3.symm]
        · simp [h1, h2]
    refine OpOK.val (v' := v') (C' := ((C.drop id).drop id3).addN _ _ _ w') ?_ hk ⟨hle.trans (hle3.trans g1), fun id h => ?_, by rw [hcomm]; exact g2, ?_, hgr⟩
    · simp only [execOp, ho, resolve, hc, ha, hat, invoke, builtin, Sem.run_bind, Sem.run_pure, Result.andThen_ok, List.map_toArray, List.map_cons, List.map_nil]
      rw [hrun]
      rfl
    · rcases h with h | rfl
      · exact .inl h
      · exact .inr ⟨by simp only [makes, ho]; split <;> simp_all, ns_div _ 0 (by omega)⟩
    · unfold Rep
      exact ⟨.inr rfl, hsl, fun pv hp => by simp [Ctx.addN] at hp; exact hp⟩
  -- nothing behind it
  have zero : ∀ (a3 : Option Addr) (c3 : Nat), zss = [] → pv3 = .slice a3 0 c3 → OpOK P o a C B L hp k r := by
    intro a3 c3 hz hp3
    subst hz
    have hni : (match P.underlying tt with | some (.int _) => true | _ => false) = false := by rw [hu]
    have hsl : ∃ p n c, pv = Value.slice p n c ∧ n ≤ c := by
      rcases nest_cells hob with ⟨_, a, rfl⟩ | ⟨g, cap, _, _, rfl, _, _, q, _⟩
      · exact ⟨_, _, _, rfl, Nat.le_refl _⟩
      · exact ⟨_, _, _, rfl, q⟩
    obtain ⟨p, n, cc, rfl, hn⟩ := hsl
    refine last _ C.w (by rw [hsv, hxv, hp3]; exact run_append_zero hu hRe C.w hni hn) ⟨_, _, _, rfl⟩ (Gr.refl _ _ _) (fun _ _ => rfl) (fun _ _ _ _ => rfl) (Nat.le_refl _) (fun b hb => ⟨.inl (.inl (by rw [hρ]; exact hb)), hH.lto id b (.inl (by rw [hρ]; exact hb))⟩) (fun C' hle hw hin => ?_)
    rw [List.append_nil]
    rcases nest_cells hob with ⟨h1, a, h2⟩ | ⟨g, cap, cur, vs, e1, h0, hg, q1, q2, q3, q4, q5, q6⟩
    · exact .inl ⟨h1, rfl, a, h2⟩
    · refine .inr ⟨g, cap, cur, vs, e1, h0, by rw [hw]; exact hg, q1, q2, q3, q4, fun q => ?_, ?_⟩
      · rcases (hin g).1 q with q | q
        · exact q5 q
        · exact hne (hH.sep id id3 g (.inl (by rw [hρ, e1]; simp [blk, h0])) (.inr q))
      · have := q6.app (C' := C') (nd := ns (o.dst.getD 0) 0) hH hne (NestIn.nil (id := id3)) hle hin (fun _ _ => by rw [hw])
        simpa using this
  rcases nest_cells hob3 with ⟨hz, a3, hp3⟩ | ⟨g3, cap3, cur3, ws, e3', h03, hg3, s1, s2, s3, s4, s5, s6⟩
  · exact zero a3 0 hz hp3
  by_cases hz : zss = []
  · subst hz
    exact zero _ _ rfl e3'
  have hpos : 0 < zss.length := List.length_pos_iff.2 hz
  have hcell : ∀ j u, ws[j]? = some u → C.w.cell? ((⟨g3, 0, none⟩ : Addr).add j) = some u := by
    intro j u hj
    rw [Addr.add', Nat.zero_add, cell_of_row C.w g3 _ cur3 t3 (0, 0) hg3]
    rw [← s4, List.getElem?_take] at hj
    split at hj
    · simpa using hj
    · cases hj
  have hone : ∀ u ∈ ws, u.oneCell' = true := fun u hu' => by
    obtain ⟨p, n, c, rfl⟩ := s6.slc u hu'
    rfl
  have hwl : ws.length = zss.length * i.size := by rw [s6.len, hi1, Nat.mul_one]
  -- a new block
  have grown : ∀ (olds : List Value) (old : Nat), NestIn C id el3 e3 yss none olds → old < yss.length + zss.length →
      (Builtin.append_ #[tt, tt] o.type #[pv, .slice (some ⟨g3, 0, none⟩) zss.length cap3]).run P C.w = .ok (.slice (some ⟨C.w.heap.size, 0, none⟩) (yss.length + zss.length) (grownCap C.w (yss.length + zss.length) old t3))
        (C.w.drew.alloc (.cells (olds.toArray ++ ws.toArray ++ Builtin.zeroCells z'.cells (grownCap C.w (yss.length + zss.length) old t3 - (yss.length + zss.length))) t3)) → OpOK P o a C B L hp k r := by
    intro olds old hol hlt hrun
    have hge := grownCap_ge C.w (yss.length + zss.length) old t3
    have hcl := grownCap_le_maxLen C.w (yss.length + zss.length) old t3 (by unfold maxLen; omega)
    have hold : ∀ k, k < C.w.heap.size → (C.w.drew.alloc (.cells (olds.toArray ++ ws.toArray ++ Builtin.zeroCells z'.cells (grownCap C.w (yss.length + zss.length) old t3 - (yss.length + zss.length))) t3)).heap[k]? = C.w.heap[k]? := fun k hk => alloc_old C.w.drew _ k hk
    rw [← e3', ← hxv, ← hsv] at hrun
    refine last _ _ hrun ⟨_, _, _, rfl⟩ (Gr.grow hB rfl rfl rfl (by simp) hold (by simp)) (fun b hb => hold b (hH.inb b hb)) (fun i b _ hb => hold b (hH.lto i b hb)) (by simp) (fun b hb => ?_) (fun C' hle hw hin => ?_)
    · simp [blk] at hb
      obtain ⟨_, rfl⟩ := hb
      exact ⟨.inr (Nat.le_refl _), by simp⟩
    · refine .inr ⟨C.w.heap.size, _, _, olds ++ ws, by simp, by omega, by rw [hw]; exact heap_alloc_new C.w.drew _, by simpa using hge, hcl, ?_, ?_, fun q => ?_, ?_⟩
      · simp only [Array.size_append, List.size_toArray, size_zeroCells, hzc, hol.len, s6.len]
        simp only [List.length_singleton, Nat.mul_one]; omega
      · simp only [Array.toList_append, List.append_assoc, List.length_append]
        rw [← List.append_assoc, List.take_append_of_le_length (by simp [hol.len, s6.len]), List.take_of_length_le (by simp [hol.len, s6.len])]
      · rcases (hin _).1 q with q | q
        · have := hH.lto id _ (.inr q); omega
        · have := hH.lto id3 _ (.inr q); omega
      · exact hol.app hH hne s6 hle hin fun b hb => by
          rw [hw]
          exact hold b (hb.elim (fun q => hH.lto id b (.inr q)) fun q => hH.lto id3 b (.inr q))
  have hbound : (yss.length + zss.length) * i.bytes ≤ 140737488355328 := by rw [hi2]; unfold room at hroom; exact hroom
  rcases nest_cells hob with ⟨hy, pa, hp0⟩ | ⟨g, cap, cur, vs, e1, h0, hg, q1, q2, q3, q4, q5, q6⟩
  · subst hy
    subst hp0
    cases pa with
    | none =>
      refine grown [] 0 NestIn.nil (by simp; omega) ?_
      have := run_append_nil (P := P) C.w tt o.type t3 i z' hu hi hz1 ⟨g3, 0, none⟩ zss.length cap3 ws hwl hcell hpos (by omega) (by simp at hbound; omega)
      simpa using this
    | some pb =>
      refine grown [] 0 NestIn.nil (by simp; omega) ?_
      have := run_append_grow (P := P) C.w tt o.type t3 i z' hu hi hz1 pb 0 0 [] (by simp) (by simp) ⟨g3, 0, none⟩ zss.length cap3 ws hwl hcell (by omega) (by simp; omega) (growslice_fits (by omega) (by simpa using hbound))
      simpa using this
  · subst e1
    have hvl := q6.len
    have hvcell : ∀ j u, vs[j]? = some u → C.w.cell? ((⟨g, 0, none⟩ : Addr).add j) = some u := by
      intro j u hj
      rw [Addr.add', Nat.zero_add, cell_of_row C.w g _ cur t3 (0, 0) hg]
      rw [← q4, List.getElem?_take] at hj
      split at hj
      · simpa using hj
      · cases hj
    have hown : C.own id g := .inl (by rw [hρ]; simp [blk, h0])
    by_cases hroom' : yss.length + zss.length ≤ cap
    · have hrun := run_append_room (P := P) C.w tt o.type t3 i hu hi g yss.length cap cur hg ⟨g3, 0, none⟩ zss.length cap3 ws hwl hcell hone hroom' (by rw [hi1, Nat.mul_one, s6.len]; omega)
      have hw : ∀ k, k ≠ g → (C.w.setRow g (cur.toList.take (yss.length * i.size) ++ ws ++ cur.toList.drop (yss.length * i.size + ws.length)).toArray).heap[k]? = C.w.heap[k]? := fun k hk => setRow_other C.w g k _ hk
      rw [← e3', ← hxv, ← hsv] at hrun
      refine last _ _ hrun ⟨_, _, _, rfl⟩ ⟨rfl, rfl, rfl, by simp, fun k hk hL => hw k fun e => ?_, fun _ => Nat.le_refl _⟩ (fun b hb => hw b fun e => by subst e; exact hH.apart id b hown hb) (fun i b hi' hb => hw b fun e => by subst e; exact hi' (hH.sep i id b hb hown)) (by simp) (fun b hb => ?_) (fun C' hle hw' hin => ?_)
      · subst e
        rcases hH.mine id k hown with h | h
        · omega
        · exact hL h
      · simp [blk] at hb
        obtain ⟨_, rfl⟩ := hb
        exact ⟨.inl hown, by simpa using hH.lto id _ hown⟩
      · have hnin : ∀ b, C.inn id b ∨ C.inn id3 b → b ≠ g := by
          rintro b (hb | hb) rfl
          · exact q5 hb
          · exact hne (hH.sep id id3 b hown (.inr hb))
        refine .inr ⟨g, cap, _, vs ++ ws, by simp, h0, by rw [hw']; exact setRow_heap C.w g cur _ t3 _ hg, by simpa using hroom', q2, ?_, ?_, fun q => hnin g ((hin g).1 q) rfl, ?_⟩
        · have hcl : cur.toList.length = cur.size := Array.length_toList
          have := s6.len
          simp only [List.size_toArray, List.length_append, List.length_take, List.length_drop, hi1, Nat.mul_one]
          omega
        · simp only [List.length_append, hi1, Nat.mul_one]
          rw [q4, List.take_append_of_le_length (by simp [hvl, s6.len]), List.take_of_length_le (by simp [hvl, s6.len])]
        · exact q6.app hH hne s6 hle hin fun b hb => by rw [hw']; exact hw b (hnin b hb)
    · refine grown vs cap q6 (by omega) ?_
      exact run_append_grow (P := P) C.w tt o.type t3 i z' hu hi hz1 ⟨g, 0, none⟩ yss.length cap vs (by rw [hvl, hi1, Nat.mul_one]) hvcell ⟨g3, 0, none⟩ zss.length cap3 ws hwl hcell (by omega) (by omega) (growslice_fits (by omega) hbound)

theorem shp_some {o : Option Ob} {t el : TypeId} {e : ET} {n : Nat} (h : shp o = some (t, el, e, n)) : ∃ yss hl, o = some (.nest t el e yss hl) ∧ n = yss.length := by
  unfold shp at h
  split at h
  · cases h
    exact ⟨_, _, rfl, rfl⟩
  · cases h

/-- A row of a slice of slices is loaded: taken out, or what is out. -/
theorem aloadN_ok (hT : TyOk P E) (hH : Heap C B L hp) (hf : makes o = true → Free C (o.dst.getD 0)) {t : TypeId} {x : Operand} {id i sz off : Nat} {bt el : TypeId} {e : ET} {yss : List (List e.T)} {hl : Option (Nat × Option Nat)} (ho : o.op = .load t x)
    (hv : Rep C (.rptr id i sz off) (a.eval x)) (hb : hp id = some (.nest bt el e yss hl)) (h : aloadN E (o.dst.getD 0) k t id i sz off bt el e yss hl = some r) : OpOK P o a C B L hp k r := by
  unfold aloadN at h
  split at h
  · cases h
  rename_i ti hti
  have hR := hT.row hti
  have hrun : ∀ b p, a.eval x = .pointer (some ⟨b, p, none⟩) → ∀ u, (loadVar t ⟨b, p, none⟩).run P C.w = .ok u C.w → (execOp a.eval o).run P C.w = .ok (.value u) C.w := by
    intro b p hx u hu
    simp [execOp, ho, Instr.loadAt, Instr.sureAddr, hx, hu]
  split at h
  case isFalse => cases h
  rename_i hc
  obtain ⟨⟨rfl, rfl, hst⟩, hnsr⟩ := hc
  unfold Rep at hv
  have hmk : makes o = true := by
    obtain ⟨dst, op, type, pos, after, guard⟩ := o
    simp only at ho
    subst ho
    exact hnsr
  split at h
  · -- taken out
    rcases sat_br h with ⟨hlt, h⟩ | ⟨_, h⟩
    case inr => cases h
    have hlt := of_decide_eq_true hlt
    have htn := hf hmk (ns (o.dst.getD 0) 0) (ns_div _ 0 (by omega))
    obtain ⟨v, g, n, c, ⟨hρ', hcell, hsl⟩, hle, hH'⟩ := take_ok (i := i) hH htn hb hlt
    obtain ⟨hA, b', hx, e2⟩ := hv
    obtain ⟨n', c', e2⟩ := e2 _ hρ'
    simp at e2
    obtain ⟨rfl, rfl, rfl⟩ := e2
    have hl := (run_loadVar' hR hcell 0).2 hst v rfl
    rw [Nat.add_zero] at hl
    refine OpOK.val (v' := v) (C' := C.take id (ns (o.dst.getD 0) 0) v) (hrun _ _ (by simpa using hx) _ hl) h ⟨hle, fun j hj => ?_, hH', ?_, Gr.refl _ _ _⟩
    · rcases hj with hj | rfl
      · exact .inl hj
      · exact .inr ⟨hmk, ns_div _ 0 (by omega)⟩
    · unfold Rep
      refine ⟨.inr rfl, hsl, fun pv hp => ?_⟩
      simp [Ctx.take] at hp
      exact hp
  · rename_i hi tn
    rcases sat_br h with ⟨he, hkk⟩ | ⟨_, h⟩
    · have he := of_decide_eq_true he
      subst he
      obtain ⟨pv, hρ, hob⟩ := hH.som id _ hb
      rcases hob with ⟨_, hh, _⟩ | ⟨g, cap, cur, vs, e1, h0, hg, h1, h2, h3, h4, h5, h6⟩
      · cases hh
      subst e1
      obtain ⟨_, b', hx, e2⟩ := hv
      obtain ⟨n', c', e2⟩ := e2 _ hρ
      simp at e2
      obtain ⟨rfl, rfl, rfl⟩ := e2
      obtain ⟨q1, q2⟩ := h6.hole i (some tn) rfl
      obtain ⟨q2, q3⟩ := q2 tn rfl
      have hlt : i < vs.length := by rw [h6.len]; exact q1
      have hcs : CellsAt C.w g 0 vs := by
        intro j v hj
        rw [Nat.zero_add, cell_of_row C.w g _ cur bt (0, 0) hg]
        rw [← h4, List.getElem?_take] at hj
        split at hj
        · simpa using hj
        · cases hj
      have hl := (run_loadVar' hR hcs i).2 hst vs[i] (List.getElem?_eq_getElem hlt)
      rw [Nat.zero_add] at hl
      refine OpOK.pure hH (hrun _ _ (by simpa using hx) _ hl) hkk ?_
      unfold Rep
      refine ⟨q2, h6.slc _ (List.getElem_mem hlt), fun pv hp => ?_⟩
      have := q3 pv hp
      rw [List.getElem?_eq_getElem hlt] at this
      exact Option.some.inj this
    · cases h
  · cases h

end
end Go.Sym
