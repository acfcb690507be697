/- The symbolic machine and the model: the table of types, what a step leaves, memory that grows. -/
import Derived.Test.YtmphbdhjdalgnaaGreatDoorSymC
namespace Go.Sym
set_option linter.unusedVariables false
set_option linter.unusedSimpArgs false
set_option linter.unusedSectionVars false
variable [Globs] [Dm]

/-- The plain values that a zero value is made of. -/
def vz : AV → Value
  | .bool b => .bool b
  | .int k n => .int k n
  | .str s => .string s
  | .zc _ _ => .slice none 0 0
  | .nilp => .pointer none
  | .nili => .nilIface
  | .nilm => .map none
  | _ => .nilFunc

def simple : AV → Bool
  | .bool _ | .int .. | .str _ | .zc .. | .nilp | .nili | .nilf | .nilm => true
  | _ => false

def aggB (P : Program) (t : TypeId) : Bool :=
  match P.underlying t with
  | some (.struct _) | some (.array _ _) => true
  | _ => false

def fiB (P : Program) : List Field → List FI → Bool
  | [], [] => true
  | f :: fs, i :: is => (match P.info? f.type with | some j => j.size == i.sz | none => false) && f.offset == i.off && aggB P f.type == i.agg && (P.underlying f.type).isSome && fiB P fs is
  | _, _ => false

def i64B (P : Program) (t : TypeId) : Bool := match P.underlying t with
  | some (.int .i64) => true
  | _ => false
/-- Structs of two ints that may be compared. -/
def cmpB (P : Program) (t : TypeId) : Bool := match P.underlying t with
  | some (.struct fields) => match fields.toList with
    | [f, g] => (f.name != "_" && g.name != "_") && (f.offset == 0 && g.offset == 1) && (i64B P f.type && i64B P g.type) && !P.stoodInHeld t && !P.eqGuardType P.depth t
    | _ => false
  | _ => false

def boolB (P : Program) (t : TypeId) : Bool := match P.underlying t with
  | some .bool => true
  | _ => false
def quadB (P : Program) (t : TypeId) : Bool := match P.underlying t with
  | some (.struct fields) => match fields.toList with
    | [f, g, h] => ((f.name != "_" && g.name != "_") && h.name != "_") && ((f.offset == 0 && g.offset == 2) && h.offset == 3) && ((cmpB P f.type && (match P.info? f.type with | some i => i.size == 2 | none => false)) && (boolB P g.type && i64B P h.type)) && !P.stoodInHeld t && !P.eqGuardType P.depth t
    | _ => false
  | _ => false

def mapB (P : Program) (m : MK) (kt vt : TypeId) : Bool := match m with
  | .ii => i64B P kt && (match (P.info? vt).bind (·.zero) with | some (.int .i64 n) => n == 0 | _ => false)
  | .pb => cmpB P kt && (match (P.info? vt).bind (·.zero) with | some (.bool b) => !b | _ => false)

def tdB (P : Program) (td : TD) (d : Option TypeDesc) : Bool :=
  match td, d with
  | .int k, some (.int k') => k == k'
  | .bool, some .bool => true
  | .str, some .string => true
  | .slc t _, some (.slice t') => t == t'
  | .strct fs, some (.struct fields) => fiB P fields.toList fs
  | .arr n el, some (.array n' el') => n == n' && el == el'
  | .map m, some (.map kt vt) => mapB P m kt vt
  | .ifc, some (.interface _) => true
  | .other, some (.func ..) | .other, some (.pointer _) => true
  | _, _ => false

structure TyRow (P : Program) (t : TypeId) (ti : TI) : Prop where
  info : (P.info? t).map (fun i => (i.size, i.bytes, i.zero.map Value.cells)) = some (ti.size, ti.bytes, some (ti.zero.map vz).toArray)
  simp : ti.zero.all simple = true
  td : tdB P ti.td (P.underlying t) = true
  small : ti.zero.length ≤ 500
  zlen : ti.zero.length = ti.size
  pair : ((!ti.pair || cmpB P t) && (!ti.quad || quadB P t)) = true

def TyOk (P : Program) (E : Env) : Prop := ∀ p ∈ E.tab, TyRow P p.1 p.2

theorem lookup_mem {α : Type} : ∀ (l : List (Nat × α)) (t : Nat) (x : α), l.lookup t = some x → (t, x) ∈ l
  | [], _, _, h => by simp at h
  | (a, b) :: r, t, x, h => by
    rw [List.lookup_cons] at h
    split at h
    · rename_i he
      simp at he h
      subst he; subst h
      simp
    · exact List.mem_cons_of_mem _ (lookup_mem r t x h)

theorem TyOk.row {P : Program} {E : Env} (h : TyOk P E) {t : TypeId} {ti : TI} (ht : E.ty t = some ti) : TyRow P t ti :=
  h _ (lookup_mem _ _ _ ht)

/-- What the table says of a type, in the model's words. -/
theorem TyRow.get {P : Program} {t : TypeId} {ti : TI} (h : TyRow P t ti) :
    ∃ i z, P.info? t = some i ∧ i.size = ti.size ∧ i.bytes = ti.bytes ∧ i.zero = some z ∧ z.cells = (ti.zero.map vz).toArray := by
  obtain ⟨i, hi, he⟩ := Option.map_eq_some_iff.1 h.info
  simp only [Prod.mk.injEq] at he
  obtain ⟨h1, h2, h3⟩ := he
  obtain ⟨z, hz, hc⟩ := Option.map_eq_some_iff.1 h3
  exact ⟨i, z, hi, h1, h2, hz, hc⟩

theorem TyRow.slc {P : Program} {t el : TypeId} {e : ET} {a b : Nat} {z : List AV} (h : TyRow P t ⟨.slc el e, a, b, z⟩) : P.underlying t = some (.slice el) := by
  have := h.td
  simp only [tdB] at this
  split at this <;> simp_all

theorem TyRow.strct {P : Program} {t : TypeId} {fs : List FI} {a b : Nat} {z : List AV} (h : TyRow P t ⟨.strct fs, a, b, z⟩) :
    ∃ fields, P.underlying t = some (.struct fields) ∧ fiB P fields.toList fs = true := by
  have := h.td
  simp only [tdB] at this
  split at this <;> simp_all

theorem TyRow.arr {P : Program} {t : TypeId} {n : Nat} {el : TypeId} {a b : Nat} {z : List AV} (h : TyRow P t ⟨.arr n el, a, b, z⟩) : P.underlying t = some (.array n el) := by
  have := h.td
  simp only [tdB] at this
  split at this <;> simp_all

theorem TyRow.map {P : Program} {t : TypeId} {m : MK} {a b : Nat} {z : List AV} (h : TyRow P t ⟨.map m, a, b, z⟩) : ∃ kt vt, P.underlying t = some (.map kt vt) ∧ mapB P m kt vt = true := by
  have := h.td
  simp only [tdB] at this
  split at this <;> simp_all
  exact ⟨_, _, ⟨rfl, rfl⟩, this⟩

theorem TyRow.int {P : Program} {t : TypeId} {k : IntKind} {a b : Nat} {z : List AV} (h : TyRow P t ⟨.int k, a, b, z⟩) : P.underlying t = some (.int k) := by
  have := h.td
  simp only [tdB] at this
  split at this <;> simp_all

theorem TyRow.agg {P : Program} {t : TypeId} {ti : TI} (h : TyRow P t ti) : ∃ d, P.underlying t = some d ∧ aggB P t = ti.td.isStrct := by
  have := h.td
  unfold aggB
  cases hd : P.underlying t with
  | none => rw [hd] at this; cases hx : ti.td <;> simp [hx, tdB] at this
  | some d =>
    refine ⟨d, rfl, ?_⟩
    rw [hd] at this
    cases hx : ti.td <;> cases d <;> simp_all [tdB, TD.isStrct]

theorem fiB_get {P : Program} : ∀ (fields : List Field) (fs : List FI), fiB P fields fs = true → ∀ (i : Nat) fi, fs[i]? = some fi →
    ∃ f j, fields[i]? = some f ∧ f.offset = fi.off ∧ P.info? f.type = some j ∧ j.size = fi.sz ∧ aggB P f.type = fi.agg ∧ (P.underlying f.type).isSome = true
  | [], [], _, i, fi, h => by simp at h
  | f :: fields, g :: fs, h, i, fi, hi => by
    simp only [fiB, Bool.and_eq_true, beq_iff_eq] at h
    cases i with
    | zero =>
      simp at hi; subst hi
      cases hj : P.info? f.type with
      | none => simp [hj] at h
      | some j => simp [hj] at h; exact ⟨f, j, rfl, h.1.1.1.2, hj, h.1.1.1.1, h.1.1.2, h.1.2⟩
    | succ i => simp at hi; obtain ⟨f', j, h'⟩ := fiB_get fields fs h.2 i fi hi; exact ⟨f', j, by simpa using h'⟩
  | [], _ :: _, h, _, _, _ => by simp [fiB] at h
  | _ :: _, [], h, _, _, _ => by simp [fiB] at h

/-- What is left behind an operation. -/
structure Post (C : Ctx) (B : Nat) (L : Fr) (hp : Nat → Option Ob) (d : Nat) (M : Prop) (v : AV) (u : Sets) (v' : Value) (C' : Ctx) : Prop where
  le : Le C C'
  new : ∀ id, C'.A id → C.A id ∨ (M ∧ id / 1000 = d + 1)
  heap : Heap C' B L (setHp hp u)
  rep : Rep C' v v'
  gr : Gr B L C.w C'.w

def OpOK {R : Type} (P : Program) (o : Oper) (a : Act) (C : Ctx) (B : Nat) (L : Fr) (hp : Nat → Option Ob) (k : AV → Sets → Option R) (r : R) : Prop :=
  ∀ (next : Act → World → Prop) (Q : Exit → Act → World → Prop),
    (∀ v u v' C', k v u = some r → Post C B L hp (o.dst.getD 0) (makes o = true) v u v' C' → next (a.put o.dst v') C'.w) → o.wp P a C.w next Q

section
variable {R : Type} {P : Program} {o : Oper} {a : Act} {C : Ctx} {B : Nat} {L : Fr} {hp : Nat → Option Ob} {k : AV → Sets → Option R} {r : R}

theorem OpOK.val {v : AV} {u : Sets} {v' : Value} {C' : Ctx} (hr : (execOp a.eval o).run P C.w = .ok (.value v') C'.w) (hk : k v u = some r)
    (hP : Post C B L hp (o.dst.getD 0) (makes o = true) v u v' C') : OpOK P o a C B L hp k r := by
  intro next Q hn
  unfold Oper.wp
  rw [hr]
  exact hn v u v' C' hk hP

theorem OpOK.skip {v : AV} {u : Sets} {C' : Ctx} (hr : (execOp a.eval o).run P C.w = .ok .skip C'.w) (hk : k v u = some r)
    (hP : Post C B L hp (o.dst.getD 0) (makes o = true) v u undef C') : OpOK P o a C B L hp k r := by
  intro next Q hn
  unfold Oper.wp
  rw [hr]
  exact hn v u undef C' hk hP

theorem Post.pure {d : Nat} {M : Prop} {v : AV} {v' : Value} (hH : Heap C B L hp) (hv : Rep C v v') : Post C B L hp d M v [] v' C :=
  ⟨Le.refl C, fun _ h => .inl h, hH, hv, Gr.refl _ _ _⟩

/-- An operation that only computes. -/
theorem OpOK.pure {v : AV} {v' : Value} (hH : Heap C B L hp) (hr : (execOp a.eval o).run P C.w = .ok (.value v') C.w) (hk : k v [] = some r) (hv : Rep C v v') :
    OpOK P o a C B L hp k r := OpOK.val hr hk (Post.pure hH hv)
end

/-- A name more. -/
def Ctx.add (C : Ctx) (id : Nat) (pv : Value) (w : World) : Ctx :=
  { A := fun i => C.A i ∨ i = id, F := C.F, ρ := fun i => if i = id then some pv else C.ρ i, w := w, inn := fun i b => i ≠ id ∧ C.inn i b }

theorem HF.add {C : Ctx} {B : Nat} {L : Fr} (h : HF C B L) {id : Nat} (hid : ¬ C.A id) (pv : Value) (w : World) : HF (C.add id pv w) B L := by
  refine ⟨h.fro, fun i p hi hp => ?_, fun i hi => .inl (h.low i hi)⟩
  simp only [Ctx.add] at hp
  split at hp
  · subst_vars; exact absurd (h.low _ hi) hid
  · exact h.old i p hi hp

theorem Le.add {C : Ctx} {B : Nat} {L : Fr} {hp : Nat → Option Ob} (hH : Heap C B L hp) {id : Nat} (hid : ¬ C.A id) (pv : Value) {w : World} (hw : ∀ k, k < C.w.heap.size → w.heap[k]? = C.w.heap[k]?) : Le C (C.add id pv w) := by
  refine ⟨fun i h => .inl h, fun b h => h, fun i p hA hp' => ?_, fun b hb => hw b (hH.inb b hb)⟩
  simp only [Ctx.add] at hp'
  split at hp'
  · subst_vars; exact absurd hA hid
  · exact hp'

theorem RowRep.mono {C C' : Ctx} (h : Le C C') {t : TypeId} {e : ET} {ys : List e.T} {pv : Value} (hb : ∀ b, blk (some pv) b → C'.w.heap[b]? = C.w.heap[b]?) (g : RowRep C t e ys pv) : RowRep C' t e ys pv := by
  rcases g with g | ⟨g, cap, cur, css, e1, h0, hg, h1, h2, h3, h4, h5⟩
  · exact .inl g
  · subst e1
    exact .inr ⟨g, cap, cur, css, rfl, h0, by rw [hb g (by simp [blk, h0])]; exact hg, h1, h2, h3, All2.imp (RepT_mono h.F h.w e) _ _ h4, h5⟩

theorem NestIn.mono {C C' : Ctx} (h : Le C C') {id : Nat} {el : TypeId} {e : ET} {yss : List (List e.T)} {hl : Option (Nat × Option Nat)} {vs : List Value} (hi : ∀ b, C.inn id b → C'.inn id b) (hb : ∀ b, C.inn id b → C'.w.heap[b]? = C.w.heap[b]?) (g : NestIn C id el e yss hl vs) : NestIn C' id el e yss hl vs :=
  ⟨g.len, g.slc, fun i ys v h1 h2 h3 => ⟨((g.rows i ys v h1 h2 h3).1).mono h fun b hb' => hb b ((g.rows i ys v h1 h2 h3).2 b hb'), fun b hb' => hi b ((g.rows i ys v h1 h2 h3).2 b hb')⟩, g.sep,
    fun i n h1 => ⟨(g.hole i n h1).1, fun tn h2 => ⟨h.A _ ((g.hole i n h1).2 tn h2).1, fun pv hp => ((g.hole i n h1).2 tn h2).2 pv (h.ρ _ _ ((g.hole i n h1).2 tn h2).1 hp)⟩⟩⟩

theorem ObRep.mono {C C' : Ctx} (h : Le C C') {id : Nat} {o : Ob} {pv : Value} (hi : ∀ b, C'.inn id b ↔ C.inn id b) (hb : ∀ b, blk (some pv) b ∨ C.inn id b → C'.w.heap[b]? = C.w.heap[b]?) (g : ObRep C id o pv) : ObRep C' id o pv := by
  cases o with
  | box t cs =>
    obtain ⟨b, vs, e, hg, hr⟩ := g
    subst e
    exact ⟨b, vs, rfl, by rw [hb b (.inl (by simp [blk]))]; exact hg, RepL_mono h cs _ hr⟩
  | row t e ys => exact RowRep.mono h (fun b q => hb b (.inl q)) g
  | map m ps =>
    obtain ⟨b, es, ck, e, hg, hr⟩ := g
    subst e
    exact ⟨b, es, ck, rfl, by rw [hb b (.inl rfl)]; exact hg, hr⟩
  | nest t el e yss hl =>
    rcases g with g | ⟨g, cap, cur, vs, e1, h0, hg, h1, h2, h3, h4, h5, h6⟩
    · exact .inl g
    · subst e1
      exact .inr ⟨g, cap, cur, vs, rfl, h0, by rw [hb g (.inl (by simp [blk, h0]))]; exact hg, h1, h2, h3, h4, fun q => h5 ((hi g).1 q), h6.mono h (fun b q => (hi b).2 q) fun b q => hb b (.inr q)⟩

theorem Heap.lt {C : Ctx} {B : Nat} {L : Fr} {hp : Nat → Option Ob} (hH : Heap C B L hp) {i b : Nat} (hb : blk (C.ρ i) b) : b < C.w.heap.size := hH.lto i b (.inl hb)

theorem add_own {C : Ctx} {id : Nat} {pv : Value} {w : World} {i b : Nat} (h : (C.add id pv w).own i b) : (i = id ∧ blk (some pv) b) ∨ (i ≠ id ∧ C.own i b) := by
  rcases h with h | h
  · simp only [Ctx.add] at h
    split at h
    · exact .inl ⟨by assumption, h⟩
    · exact .inr ⟨by assumption, .inl h⟩
  · exact .inr ⟨h.1, .inr h.2⟩

theorem add_inn {C : Ctx} {id : Nat} {pv : Value} {w : World} {i : Nat} (h : i ≠ id) (b : Nat) : (C.add id pv w).inn i b ↔ C.inn i b := ⟨fun g => g.2, fun g => ⟨h, g⟩⟩

theorem Heap.add {C : Ctx} {B : Nat} {L : Fr} {hp : Nat → Option Ob} (hH : Heap C B L hp) (hB : B ≤ C.w.heap.size) {id : Nat} (hid : ¬ C.A id) {pv : Value} {w : World}
    (hw : ∀ k, k < C.w.heap.size → w.heap[k]? = C.w.heap[k]?) (hs : C.w.heap.size ≤ w.heap.size) {o : Ob} (ho : ObRep (C.add id pv w) id o pv)
    (hbl : ∀ b, blk (some pv) b → C.w.heap.size ≤ b ∧ b < w.heap.size) : Heap (C.add id pv w) B L (setHp hp [(id, some o)]) := by
  have hle := Le.add hH hid pv hw
  refine ⟨fun i h => ?_, fun i o' h => ?_, fun i h => ?_, fun i j b h1 h2 => ?_, fun i b h => ?_, fun i b h => ?_, fun i b h => ?_, fun b h => ?_, hH.fr.add hid pv w, hH.glob.mono hle.F hle.w⟩
  · simp only [setHp] at h
    split at h
    · cases h
    · simp only [Ctx.add]; rw [if_neg (by assumption)]; exact hH.non i h
  · simp only [setHp] at h
    split at h
    · rename_i he
      cases h
      subst he
      exact ⟨pv, by simp [Ctx.add], ho⟩
    · rename_i he
      obtain ⟨p, hp', hob⟩ := hH.som i o' h
      refine ⟨p, by simp [Ctx.add, he, hp'], hob.mono hle (add_inn he) fun b hb => hw b ?_⟩
      exact hH.lto i b (hb.imp (fun q => by rw [hp']; exact q) fun q => q)
  · simp only [setHp] at h
    split at h
    · exact .inr (by assumption)
    · exact .inl (hH.inA i h)
  · rcases add_own h1 with ⟨e1, q1⟩ | ⟨e1, q1⟩ <;> rcases add_own h2 with ⟨e2, q2⟩ | ⟨e2, q2⟩
    · rw [e1, e2]
    · have := (hbl b q1).1; have := hH.lto _ _ q2; omega
    · have := (hbl b q2).1; have := hH.lto _ _ q1; omega
    · exact hH.sep i j b q1 q2
  · rcases add_own h with ⟨_, q⟩ | ⟨_, q⟩
    · intro hF; have := (hbl b q).1; have := hH.inb b hF; omega
    · exact hH.apart i b q
  · rcases add_own h with ⟨_, q⟩ | ⟨_, q⟩
    · exact .inl (Nat.le_trans hB (hbl b q).1)
    · exact hH.mine i b q
  · rcases add_own h with ⟨_, q⟩ | ⟨_, q⟩
    · exact (hbl b q).2
    · exact Nat.lt_of_lt_of_le (hH.lto i b q) hs
  · exact Nat.lt_of_lt_of_le (hH.inb b h) hs

theorem Gr.grow {B : Nat} {L : Fr} {w w' : World} (hB : B ≤ w.heap.size) (ho : w'.os = w.os) (ht : w'.tape = w.tape) (hu : w'.output = w.output) (hs : w.heap.size ≤ w'.heap.size)
    (hw : ∀ k, k < w.heap.size → w'.heap[k]? = w.heap[k]?) (hd : w.drawn ≤ w'.drawn) : Gr B L w w' := ⟨ho, ht, hu, hs, fun k hk _ => hw k (by omega), fun _ => hd⟩

end Go.Sym
