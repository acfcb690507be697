/- The symbolic machine and the model: what an abstract value stands for; it stands so in every later world. -/
import Derived.Test.YtmphbdhjdalgnaaGreatDoorSymB
import Derived.Laws.Append
import Derived.Laws.Rows
import Derived.Laws.AppendOwn
import Derived.Laws.MakeOwn
import Derived.Laws.OwnMore
namespace Go.Sym
set_option linter.unusedVariables false
set_option linter.unusedSimpArgs false

def All2 {α β : Type} (R : α → β → Prop) : List α → List β → Prop
  | [], [] => True
  | a :: as, b :: bs => R a b ∧ All2 R as bs
  | _, _ => False

theorem All2.imp {α β : Type} {R R' : α → β → Prop} (h : ∀ a b, R a b → R' a b) : ∀ (l : List α) (m : List β), All2 R l m → All2 R' l m
  | [], [], _ => trivial
  | _ :: as, _ :: bs, ⟨h1, h2⟩ => ⟨h _ _ h1, All2.imp h as bs h2⟩
  | [], _ :: _, h => h.elim
  | _ :: _, [], h => h.elim

theorem All2.length {α β : Type} {R : α → β → Prop} : ∀ (l : List α) (m : List β), All2 R l m → l.length = m.length
  | [], [], _ => rfl
  | _ :: as, _ :: bs, ⟨_, h2⟩ => by simp [All2.length as bs h2]
  | [], _ :: _, h => h.elim
  | _ :: _, [], h => h.elim

theorem All2.get {α β : Type} {R : α → β → Prop} : ∀ (l : List α) (m : List β), All2 R l m → ∀ (i : Nat) a b, l[i]? = some a → m[i]? = some b → R a b
  | [], [], _, i, a, b, h, _ => by simp at h
  | x :: as, y :: bs, ⟨h1, h2⟩, i, a, b, ha, hb => by
    cases i with
    | zero => simp at ha hb; subst ha; subst hb; exact h1
    | succ i => simp at ha hb; exact All2.get as bs h2 i a b ha hb
  | [], _ :: _, h, _, _, _, _, _ => h.elim
  | _ :: _, [], h, _, _, _, _, _ => h.elim

theorem All2.append {α β : Type} {R : α → β → Prop} : ∀ (l : List α) (m : List β) (l' : List α) (m' : List β), All2 R l m → All2 R l' m' → All2 R (l ++ l') (m ++ m')
  | [], [], _, _, _, h => h
  | _ :: as, _ :: bs, l', m', ⟨h1, h2⟩, h => ⟨h1, All2.append as bs l' m' h2 h⟩
  | [], _ :: _, _, _, h, _ => h.elim
  | _ :: _, [], _, _, h, _ => h.elim

theorem All2.set {α β : Type} {R : α → β → Prop} {x : α} {y : β} (h : R x y) : ∀ (l : List α) (m : List β) (i : Nat), All2 R l m → All2 R (l.set i x) (m.set i y)
  | [], [], _, _ => trivial
  | _ :: as, _ :: bs, 0, ⟨_, h2⟩ => ⟨h, h2⟩
  | _ :: as, _ :: bs, i + 1, ⟨h1, h2⟩ => ⟨h1, All2.set h as bs i h2⟩
  | [], _ :: _, _, h => h.elim
  | _ :: _, [], _, h => h.elim

theorem All2.replicate {α β : Type} {R : α → β → Prop} {x : α} {y : β} (h : R x y) : ∀ n, All2 R (List.replicate n x) (List.replicate n y)
  | 0 => trivial
  | n + 1 => ⟨h, All2.replicate h n⟩

def CellsAt (w : World) (b o : Nat) (vs : List Value) : Prop := ∀ i v, vs[i]? = some v → w.cell? ⟨b, o + i, none⟩ = some v

/-- A typed element, laid in cells. -/
def RepT (F : Nat → Prop) (w : World) : (e : ET) → e.T → List Value → Prop
  | .int k, n, cs => cs = [.int k n]
  | .bool, b, cs => cs = [.bool b]
  | .str, s, cs => cs = [.string s]
  | .pair a b, p, cs => ∃ c1 c2, cs = c1 ++ c2 ∧ RepT F w a p.1 c1 ∧ RepT F w b p.2 c2
  | .lst e, ys, cs => ∃ a c, cs = [.slice a ys.length c] ∧ ys.length ≤ c ∧
      (ys = [] ∨ ∃ b o css, a = some ⟨b, o, none⟩ ∧ F b ∧ All2 (RepT F w e) ys css ∧ CellsAt w b o css.flatten)

theorem RepT_len {F : Nat → Prop} {w : World} : ∀ (e : ET) (x : e.T) (cs : List Value), RepT F w e x cs → cs.length = e.sz
  | .int _, _, _, h => by simp [RepT] at h; simp [h, ET.sz]
  | .bool, _, _, h => by simp [RepT] at h; simp [h, ET.sz]
  | .str, _, _, h => by simp [RepT] at h; simp [h, ET.sz]
  | .pair a b, p, cs, h => by
    obtain ⟨c1, c2, rfl, h1, h2⟩ := h
    simp [ET.sz, RepT_len a _ _ h1, RepT_len b _ _ h2]
  | .lst e, _, _, h => by obtain ⟨a, c, rfl, _⟩ := h; simp [ET.sz]

theorem CellsAt.mono {w w' : World} {b o : Nat} {vs : List Value} (h : CellsAt w b o vs) (hb : w'.heap[b]? = w.heap[b]?) : CellsAt w' b o vs := by
  intro i v hi
  rw [World.cell?_of_block (w := w) (by exact hb)]
  exact h i v hi

theorem RepT_mono {F F' : Nat → Prop} {w w' : World} (hF : ∀ b, F b → F' b) (hw : ∀ b, F b → w'.heap[b]? = w.heap[b]?) :
    ∀ (e : ET) (x : e.T) (cs : List Value), RepT F w e x cs → RepT F' w' e x cs
  | .int _, _, _, h => h
  | .bool, _, _, h => h
  | .str, _, _, h => h
  | .pair a b, p, cs, ⟨c1, c2, e, h1, h2⟩ => ⟨c1, c2, e, RepT_mono hF hw a _ _ h1, RepT_mono hF hw b _ _ h2⟩
  | .lst e, ys, cs, ⟨a, c, h1, h2, h3⟩ => ⟨a, c, h1, h2, h3.imp id fun ⟨b, o, css, ha, hb, hr, hc⟩ =>
      ⟨b, o, css, ha, hF b hb, All2.imp (RepT_mono hF hw e) _ _ hr, hc.mono (hw b hb)⟩⟩

/-- A flat element does not look into memory. -/
theorem RepT_flat {F F' : Nat → Prop} {w w' : World} : ∀ (e : ET) (_ : e.flat = true) (x : e.T) (cs : List Value), RepT F w e x cs → RepT F' w' e x cs
  | .int _, _, _, _, h => h
  | .bool, _, _, _, h => h
  | .str, _, _, _, h => h
  | .pair a b, hf, p, cs, ⟨c1, c2, e, h1, h2⟩ => by
    simp [ET.flat] at hf
    exact ⟨c1, c2, e, RepT_flat a hf.1 _ _ h1, RepT_flat b hf.2 _ _ h2⟩
  | .lst _, hf, _, _, _ => by simp [ET.flat] at hf

structure Ctx where
  A : Nat → Prop
  F : Nat → Prop
  ρ : Nat → Option Value
  w : World
  /-- Blocks of the rows inside a slice of slices. -/
  inn : Nat → Nat → Prop

mutual
def Rep (C : Ctx) : AV → Value → Prop
  | .any, _ => True
  | .bool b, v => v = .bool b
  | .int k n, v => v = .int k n
  | .str s, v => v = .string s
  | .lst e ys, v => RepT C.F C.w (.lst e) ys [v]
  | .nils, v => v = .slice none 0 0
  | .zc _ _, v => v = .slice none 0 0
  | .own id, v => C.A id ∧ (∃ a n c, v = .slice a n c) ∧ ∀ pv, C.ρ id = some pv → v = pv
  | .ptr id off, v => C.A id ∧ ∃ b, v = .pointer (some ⟨b, off, none⟩) ∧ ∀ pv, C.ρ id = some pv → pv = .pointer (some ⟨b, 0, none⟩)
  | .rptr id i sz off, v => C.A id ∧ ∃ b, v = .pointer (some ⟨b, i * sz + off, none⟩) ∧ ∀ pv, C.ρ id = some pv → ∃ n c, pv = .slice (some ⟨b, 0, none⟩) n c
  | .sub id lo sz, v => C.A id ∧ (∃ p N c, v = .slice (if c = lo then p else p.map (·.add (lo * sz))) (N - lo) (c - lo)) ∧ ∀ pv, C.ρ id = some pv → ∃ p N c, pv = .slice p N c ∧ v = .slice (if c = lo then p else p.map (·.add (lo * sz))) (N - lo) (c - lo)
  | .nilp, v => v = .pointer none
  | .nilf, v => v = .nilFunc
  | .nili, v => v = .nilIface
  | .nilm, v => v = .map none
  | .ifn, v => ∃ t p, v = .iface t p
  | .ub, v => ∃ b, v = .bool b
  | .gp g o, v => v = .pointer (some ⟨g, o, none⟩)
  | .mp id, v => C.A id ∧ (∃ b, v = .map (some b)) ∧ ∀ pv, C.ρ id = some pv → v = pv
  | .clo f caps, v => ∃ vs, v = .func (.func f) #[] vs ∧ RepL C caps vs.toList
  | .agg cs, v => ∃ vs, v = .agg vs ∧ RepL C cs vs.toList
  | .tup cs, v => ∃ vs, v = .tuple vs ∧ RepL C cs vs.toList
  | .vptr cs off, v => ∃ b o vs, v = .pointer (some ⟨b, o + off, none⟩) ∧ C.F b ∧ RepL C cs vs ∧ CellsAt C.w b o vs
def RepL (C : Ctx) : List AV → List Value → Prop
  | [], vs => vs = []
  | c :: cs, vs => ∃ v r, vs = v :: r ∧ Rep C c v ∧ RepL C cs r
end

/-- A later state of things. -/
structure Le (C C' : Ctx) : Prop where
  A : ∀ id, C.A id → C'.A id
  F : ∀ b, C.F b → C'.F b
  ρ : ∀ id pv, C.A id → C'.ρ id = some pv → C.ρ id = some pv
  w : ∀ b, C.F b → C'.w.heap[b]? = C.w.heap[b]?

theorem Le.refl (C : Ctx) : Le C C := ⟨fun _ h => h, fun _ h => h, fun _ _ _ h => h, fun _ _ => rfl⟩
theorem Le.trans {C C' C'' : Ctx} (h : Le C C') (h' : Le C' C'') : Le C C'' :=
  ⟨fun i hi => h'.A i (h.A i hi), fun b hb => h'.F b (h.F b hb), fun i pv hi hp => h.ρ i pv hi (h'.ρ i pv (h.A i hi) hp),
    fun b hb => (h'.w b (h.F b hb)).trans (h.w b hb)⟩

mutual
theorem Rep_mono {C C' : Ctx} (h : Le C C') : ∀ (a : AV) (v : Value), Rep C a v → Rep C' a v
  | .any, _, _ => by unfold Rep; trivial
  | .bool _, _, g => by unfold Rep at *; exact g
  | .int _ _, _, g => by unfold Rep at *; exact g
  | .str _, _, g => by unfold Rep at *; exact g
  | .lst e ys, _, g => by unfold Rep at *; exact RepT_mono h.F h.w _ _ _ g
  | .nils, _, g => by unfold Rep at *; exact g
  | .zc _ _, _, g => by unfold Rep at *; exact g
  | .own _, _, g => by unfold Rep at *; exact ⟨h.A _ g.1, g.2.1, fun pv hp => g.2.2 pv (h.ρ _ _ g.1 hp)⟩
  | .ptr _ _, _, g => by unfold Rep at *; obtain ⟨g1, b, g2, g3⟩ := g; exact ⟨h.A _ g1, b, g2, fun pv hp => g3 pv (h.ρ _ _ g1 hp)⟩
  | .rptr _ _ _ _, _, g => by unfold Rep at *; obtain ⟨g1, b, g2, g3⟩ := g; exact ⟨h.A _ g1, b, g2, fun pv hp => g3 pv (h.ρ _ _ g1 hp)⟩
  | .sub _ _ _, _, g => by unfold Rep at *; exact ⟨h.A _ g.1, g.2.1, fun pv hp => g.2.2 pv (h.ρ _ _ g.1 hp)⟩
  | .nilp, _, g => by unfold Rep at *; exact g
  | .nilf, _, g => by unfold Rep at *; exact g
  | .nili, _, g => by unfold Rep at *; exact g
  | .nilm, _, g => by unfold Rep at *; exact g
  | .ifn, _, g => by unfold Rep at *; exact g
  | .ub, _, g => by unfold Rep at *; exact g
  | .gp _ _, _, g => by unfold Rep at *; exact g
  | .mp _, _, g => by unfold Rep at *; exact ⟨h.A _ g.1, g.2.1, fun pv hp => g.2.2 pv (h.ρ _ _ g.1 hp)⟩
  | .clo _ caps, _, g => by unfold Rep at *; obtain ⟨vs, e, g⟩ := g; exact ⟨vs, e, RepL_mono h caps _ g⟩
  | .agg cs, _, g => by unfold Rep at *; obtain ⟨vs, e, g⟩ := g; exact ⟨vs, e, RepL_mono h cs _ g⟩
  | .tup cs, _, g => by unfold Rep at *; obtain ⟨vs, e, g⟩ := g; exact ⟨vs, e, RepL_mono h cs _ g⟩
  | .vptr cs _, _, g => by
    unfold Rep at *
    obtain ⟨b, o, vs, e, hF, g, hc⟩ := g
    exact ⟨b, o, vs, e, h.F b hF, RepL_mono h cs _ g, hc.mono (h.w b hF)⟩
theorem RepL_mono {C C' : Ctx} (h : Le C C') : ∀ (a : List AV) (v : List Value), RepL C a v → RepL C' a v
  | [], _, g => by unfold RepL at *; exact g
  | c :: cs, _, g => by unfold RepL at *; obtain ⟨v, r, e, h1, h2⟩ := g; exact ⟨v, r, e, Rep_mono h c v h1, RepL_mono h cs r h2⟩
end

/-- The block that a name's value leads to. -/
def blk : Option Value → Nat → Prop
  | some (.pointer (some a)), b => a.block = b
  | some (.slice (some a) _ c), b => c ≠ 0 ∧ a.block = b
  | some (.map (some g)), b => g = b
  | _, _ => False

/-- A row in memory. -/
def RowRep (C : Ctx) (t : TypeId) (e : ET) (ys : List e.T) (pv : Value) : Prop :=
  (ys = [] ∧ ∃ a, pv = .slice a 0 0) ∨
    ∃ g cap cur css, pv = .slice (some ⟨g, 0, none⟩) ys.length cap ∧ cap ≠ 0 ∧ C.w.heap[g]? = some (.cells cur t (0, 0)) ∧ ys.length ≤ cap ∧ cap ≤ maxLen ∧
      cur.size = cap * e.sz ∧ All2 (RepT C.F C.w e) ys css ∧ cur.toList.take (ys.length * e.sz) = css.flatten

/-- The rows of a slice of slices: each by itself, but for one that was taken out. -/
structure NestIn (C : Ctx) (id : Nat) (el : TypeId) (e : ET) (yss : List (List e.T)) (h : Option (Nat × Option Nat)) (vs : List Value) : Prop where
  len : vs.length = yss.length
  slc : ∀ v ∈ vs, ∃ p n c, v = Value.slice p n c
  rows : ∀ i ys v, yss[i]? = some ys → vs[i]? = some v → (∀ n, h ≠ some (i, n)) → RowRep C el e ys v ∧ ∀ b, blk (some v) b → C.inn id b
  sep : ∀ i j v v' b, i ≠ j → vs[i]? = some v → vs[j]? = some v' → (∀ n, h ≠ some (i, n)) → (∀ n, h ≠ some (j, n)) → blk (some v) b → ¬ blk (some v') b
  hole : ∀ i n, h = some (i, n) → i < yss.length ∧ ∀ tn, n = some tn → C.A tn ∧ ∀ pv, C.ρ tn = some pv → vs[i]? = some pv

def MK.kv : (m : MK) → m.K → Value
  | .ii, n => .int .i64 n
  | .pb, p => .agg #[.int .i64 p.1, .int .i64 p.2]
def MK.vv : (m : MK) → m.V → Value
  | .ii, n => .int .i64 n
  | .pb, b => .bool b
/-- A map's entries, in their order. -/
def EntRep (m : MK) : List (m.K × m.V) → List MapEntry → Prop
  | [], es => es = []
  | p :: r, es => ∃ e es', es = e :: es' ∧ e.key = m.kv p.1 ∧ e.val = m.vv p.2 ∧ EntRep m r es'

def ObRep (C : Ctx) (id : Nat) : Ob → Value → Prop
  | .box t cs, pv => ∃ b vs, pv = .pointer (some ⟨b, 0, none⟩) ∧ C.w.heap[b]? = some (.cells vs t (0, 0)) ∧ RepL C cs vs.toList
  | .row t e ys, pv => RowRep C t e ys pv
  | .nest t el e yss h, pv => (yss = [] ∧ h = none ∧ ∃ a, pv = .slice a 0 0) ∨
      ∃ g cap cur vs, pv = .slice (some ⟨g, 0, none⟩) yss.length cap ∧ cap ≠ 0 ∧ C.w.heap[g]? = some (.cells cur t (0, 0)) ∧ yss.length ≤ cap ∧ cap ≤ maxLen ∧
        cur.size = cap ∧ cur.toList.take yss.length = vs ∧ ¬ C.inn id g ∧ NestIn C id el e yss h vs
  | .map m ps, pv => ∃ b es ck, pv = .map (some b) ∧ C.w.heap[b]? = some (.map es ck) ∧ EntRep m ps es.toList

/-- The blocks that a name leads to. -/
def Ctx.own (C : Ctx) (i b : Nat) : Prop := blk (C.ρ i) b ∨ C.inn i b

/-- What a call is handed: memory that it may write, memory that it may read, the first names. -/
structure Fr where
  lent : Nat → Prop
  far : Nat → Prop
  old : Nat → Option Value
  m : Nat
  hm : m ≤ 1000

structure HF (C : Ctx) (B : Nat) (L : Fr) : Prop where
  fro : ∀ b, C.F b → B ≤ b ∨ L.far b
  old : ∀ i pv, i < L.m → C.ρ i = some pv → L.old i = some pv
  low : ∀ i, i < L.m → C.A i

/-- What an int variable holds, an error variable. -/
def isI (v : Value) : Prop := ∃ m : Int, v = .int .i64 m
def isE (v : Value) : Prop := v = .nilIface ∨ ∃ te pe, v = .iface te pe

def GlobOk [Globs] (C : Ctx) : Prop := (∀ p ∈ Globs.tab, C.F p.1 ∧ (∀ i, i < p.2.2.length → C.w.cell? ⟨p.1, i, none⟩ = some (.int p.2.1 (p.2.2.getD i 0))) ∧ ∃ e fr, C.w.heap[p.1]? = some (.cells (p.2.2.map (Value.int p.2.1)).toArray e fr)) ∧
  ∀ p ∈ Globs.held, C.F p.1 ∧ ∃ v, C.w.cell? ⟨p.1, 0, none⟩ = some v ∧ p.2 v

theorem GlobOk.mono [Globs] {C C' : Ctx} (h : GlobOk C) (hF : ∀ b, C.F b → C'.F b) (hw : ∀ b, C.F b → C'.w.heap[b]? = C.w.heap[b]?) : GlobOk C' := ⟨fun p hp =>
  ⟨hF _ (h.1 p hp).1, fun i hi => by rw [World.cell?_of_block (w := C.w) (by exact hw _ (h.1 p hp).1)]; exact (h.1 p hp).2.1 i hi, by rw [hw _ (h.1 p hp).1]; exact (h.1 p hp).2.2⟩,
  fun p hp => ⟨hF _ (h.2 p hp).1, by
    obtain ⟨v, h1, h2⟩ := (h.2 p hp).2
    exact ⟨v, by rw [World.cell?_of_block (w := C.w) (by exact hw _ (h.2 p hp).1)]; exact h1, h2⟩⟩⟩

/-- The memory of the call's own, and what is none of it. -/
structure Heap [Globs] (C : Ctx) (B : Nat) (L : Fr) (hp : Nat → Option Ob) : Prop where
  non : ∀ id, hp id = none → C.ρ id = none
  som : ∀ id o, hp id = some o → ∃ pv, C.ρ id = some pv ∧ ObRep C id o pv
  inA : ∀ id, hp id ≠ none → C.A id
  sep : ∀ i j b, C.own i b → C.own j b → i = j
  apart : ∀ i b, C.own i b → ¬ C.F b
  mine : ∀ i b, C.own i b → B ≤ b ∨ L.lent b
  lto : ∀ i b, C.own i b → b < C.w.heap.size
  inb : ∀ b, C.F b → b < C.w.heap.size
  fr : HF C B L
  glob : GlobOk C

/-- What was there when the call began, and was not lent, stands. -/
structure Gr [Dm] (B : Nat) (L : Fr) (w w' : World) : Prop where
  os : w'.os = w.os
  tape : w'.tape = w.tape
  output : w'.output = w.output
  size : w.heap.size ≤ w'.heap.size
  block : ∀ k, k < B → ¬ L.lent k → w'.heap[k]? = w.heap[k]?
  drawn : Dm.p → w.drawn ≤ w'.drawn

theorem Gr.refl [Dm] (B : Nat) (L : Fr) (w : World) : Gr B L w w := ⟨rfl, rfl, rfl, Nat.le_refl _, fun _ _ _ => rfl, fun _ => Nat.le_refl _⟩
theorem Gr.trans [Dm] {B : Nat} {L : Fr} {a b c : World} (h : Gr B L a b) (k : Gr B L b c) : Gr B L a c :=
  ⟨k.os.trans h.os, k.tape.trans h.tape, k.output.trans h.output, Nat.le_trans h.size k.size, fun i hi hl => (k.block i hi hl).trans (h.block i hi hl), fun d => Nat.le_trans (h.drawn d) (k.drawn d)⟩

end Go.Sym
