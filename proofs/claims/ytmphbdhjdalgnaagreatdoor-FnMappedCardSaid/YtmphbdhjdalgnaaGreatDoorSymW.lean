/- The symbolic machine and a statement's form: what an argument reads as is a list, a number, a struct of these; it reads so behind the call. -/
import Derived.Test.YtmphbdhjdalgnaaGreatDoorSymV
import Derived.ChangeArms
import Derived.ChangeOld
import Derived.Carry
import Derived.OpenShut
namespace Go.Sym
set_option linter.unusedVariables false
set_option linter.unusedSimpArgs false
set_option linter.unusedSectionVars false
variable [Globs] [Dm]

/-- A type of the program is of this form. -/
def etF (P : Program) (rec : ET → TypeId → Bool) : List Field → ET → Nat → Bool
  | [], _, _ => false
  | [f], e, off => (f.offset == off) && rec e f.type && (P.cellsOf f.type == e.sz)
  | f :: fs, .pair a b, off => (f.offset == off) && rec a f.type && (P.cellsOf f.type == a.sz) && etF P rec fs b (off + a.sz)
  | _ :: _ :: _, _, _ => false

def etB (P : Program) : Nat → ET → TypeId → Bool
  | 0, _, _ => false
  | n + 1, e, t => match P.underlying t with
    | some (.struct fs) => (P.cellsOf t == e.sz) && etF P (etB P n) fs.toList e 0
    | some (.int k) => decide (e = .int k)
    | some .bool => decide (e = .bool)
    | some .string => decide (e = .str)
    | some (.slice t') => match e with
      | .lst e' => etB P n e' t' && (P.cellsOf t' == e'.sz) && decide (0 < e'.sz)
      | _ => false
    | _ => false

/-- Numbers fit; lengths are lengths. -/
def Wf : (e : ET) → e.T → Prop
  | .int k, n => (Lit.int k n).wf = true
  | .bool, _ => True
  | .str, s => s.size ≤ maxLen
  | .pair a b, p => Wf a p.1 ∧ Wf b p.2
  | .lst e, ys => ys.length ≤ maxLen ∧ ∀ y ∈ ys, Wf e y

section
variable {H : Type} {enc : TypeId × Value → H} {P : Program} {w : World} {base : Nat} {spare : Nat → Bool} {held : Bool}

theorem All2.snoc {α β : Type} {R : α → β → Prop} {l : List α} {m : List β} {a : α} {b : β} (h : All2 R l m) (h' : R a b) : All2 R (l ++ [a]) (m ++ [b]) := All2.append l m [a] [b] h ⟨h', trivial⟩

theorem cell_lt {a : Addr} {v : Value} (h : w.cell? a = some v) : a.block < w.heap.size := by
  unfold World.cell? at h
  cases hb : w.heap[a.block]? with
  | none => rw [hb] at h; cases h
  | some o => exact (Array.getElem?_eq_some_iff.1 hb).1

theorem openT : ∀ (n : Nat) (e : ET) (t : TypeId) (fuel : Nat) (cs : List Value) (x : DataW H × List MemPlace), etB P n e t = true → DataW.trod enc P w base spare held fuel t cs = some x →
    ∃ y : e.T, RepT (fun b => b < w.heap.size) w e y cs ∧ Wf e y
  | 0, e, t, fuel, cs, x, hB, _ => by simp [etB] at hB
  | n + 1, e, t, fuel, cs, x, hB, h => by
    unfold etB at hB
    split at hB
    · rename_i fs ht
      simp only [Bool.and_eq_true, beq_iff_eq] at hB
      obtain ⟨xs, m, _, _, hl, hxl, hf⟩ := DataW.trod_struct ht h
      have hfl : ∀ f ∈ fs.toList, ∃ y, DataW.trod enc P w base spare held m f.type ((cs.drop f.offset).take (P.cellsOf f.type)) = some y := by
        intro f hfm
        obtain ⟨i, hi⟩ := List.mem_iff_getElem?.1 hfm
        have h1 := hf i f (by simpa using hi)
        have : i < xs.length := by rw [hxl]; have := (List.getElem?_eq_some_iff.1 hi).1; simpa using this
        rw [List.getElem?_eq_getElem this] at h1
        exact ⟨_, h1⟩
      have key : ∀ (l : List Field) (e : ET) (off : Nat), etF P (etB P n) l e off = true → (∀ f ∈ l, ∃ y, DataW.trod enc P w base spare held m f.type ((cs.drop f.offset).take (P.cellsOf f.type)) = some y) → cs.length = off + e.sz →
          ∃ y : e.T, RepT (fun b => b < w.heap.size) w e y (cs.drop off) ∧ Wf e y := by
        intro l
        induction l with
        | nil => intro e off h1; simp [etF] at h1
        | cons f l ih =>
          intro e off h1 h2 h3
          obtain ⟨y, hy⟩ := h2 f (by simp)
          cases l with
          | nil =>
            simp only [etF, Bool.and_eq_true, beq_iff_eq] at h1
            obtain ⟨⟨q1, q2⟩, q3⟩ := h1
            have := openT n e f.type m _ y q2 hy
            rw [q1, q3, List.take_of_length_le (by simp; omega)] at this
            exact this
          | cons g l =>
            cases e with
            | pair a b =>
              simp only [etF, Bool.and_eq_true, beq_iff_eq] at h1
              obtain ⟨⟨⟨q1, q2⟩, q3⟩, q4⟩ := h1
              simp only [ET.sz] at h3
              obtain ⟨y1, r1, w1⟩ := openT n a f.type m _ y q2 hy
              obtain ⟨y2, r2, w2⟩ := ih b (off + a.sz) q4 (fun f hf => h2 f (by simp only [List.mem_cons] at hf ⊢; exact .inr hf)) (by omega)
              rw [q1, q3] at r1
              refine ⟨(y1, y2), ⟨_, _, ?_, r1, r2⟩, w1, w2⟩
              rw [← List.drop_drop]
              exact (List.take_append_drop _ _).symm
            | int k => simp [etF] at h1
            | bool => simp [etF] at h1
            | str => simp [etF] at h1
            | lst e => simp [etF] at h1
      have := key fs.toList e 0 hB.2 hfl (by rw [hl, hB.1]; omega)
      simpa using this
    · rename_i k ht
      have he := of_decide_eq_true hB
      subst he
      obtain ⟨z, rfl, _, hw⟩ := DataW.trod_int ht h
      exact ⟨z, rfl, hw⟩
    · rename_i ht
      have he := of_decide_eq_true hB
      subst he
      obtain ⟨z, rfl, _⟩ := DataW.trod_bool ht h
      exact ⟨z, rfl, trivial⟩
    · rename_i ht
      have he := of_decide_eq_true hB
      subst he
      obtain ⟨z, rfl, _, hw⟩ := DataW.trod_string ht h
      exact ⟨z, rfl, hw⟩
    · rename_i t' ht
      cases e with
      | lst e =>
        simp only [Bool.and_eq_true, beq_iff_eq, decide_eq_true_eq] at hB
        obtain ⟨⟨q1, q2⟩, q3⟩ := hB
        rcases DataW.trod_slice ht h with ⟨rfl, _⟩ | ⟨a, len, cap, elems, rest, m, _, rfl, _, hb, hl, hm, hlen, hel, _, _⟩
        · exact ⟨[], ⟨none, 0, rfl, Nat.le_refl _, .inl rfl⟩, by simp, fun y hy => by cases hy⟩
        · rw [q2] at hel
          have each : ∀ i, i < len → ∃ (y : e.T) (c : List Value), RepT (fun b => b < w.heap.size) w e y c ∧ Wf e y ∧ ∀ j v, c[j]? = some v → w.cell? (a.add (i * e.sz + j)) = some v := by
            intro i hi
            have h1 := hel i hi
            rw [List.getElem?_eq_getElem (by omega), Option.bind_eq_some_iff] at h1
            obtain ⟨c, hc, hy⟩ := h1
            obtain ⟨y, hr, hw⟩ := openT n e t' m c _ q1 hy
            obtain ⟨_, hcl, hcc⟩ := World.cells?_some hc
            refine ⟨y, c, hr, hw, fun j v hj => ?_⟩
            have hjl := (List.getElem?_eq_some_iff.1 hj).1
            have := hcc j (by omega)
            rw [hj] at this
            rw [← this]
            congr 1
            unfold Addr.add
            by_cases e1 : i * e.sz = 0 <;> by_cases e2 : j = 0 <;> simp [e1, e2]
            omega
          have build : ∀ k, k ≤ len → ∃ (ys : List e.T) (css : List (List Value)), ys.length = k ∧ All2 (RepT (fun b => b < w.heap.size) w e) ys css ∧ (∀ y ∈ ys, Wf e y) ∧ (∀ j v, css.flatten[j]? = some v → w.cell? (a.add j) = some v) := by
            intro k
            induction k with
            | zero => intro _; exact ⟨[], [], rfl, trivial, by simp, by simp⟩
            | succ k ih =>
              intro hk
              obtain ⟨ys, css, h1, h2, h3, h4⟩ := ih (by omega)
              obtain ⟨y, c, p1, p2, p3⟩ := each k (by omega)
              refine ⟨ys ++ [y], css ++ [c], by simp [h1], h2.snoc p1, fun z hz => ?_, fun j v hj => ?_⟩
              · rcases List.mem_append.1 hz with hz | hz
                · exact h3 z hz
                · simp at hz; subst hz; exact p2
              · have hfl := flatten_len ys css h2
                rw [List.flatten_append, List.flatten_cons, List.flatten_nil, List.append_nil] at hj
                by_cases hjl : j < css.flatten.length
                · rw [List.getElem?_append_left hjl] at hj
                  exact h4 j v hj
                · rw [List.getElem?_append_right (by omega)] at hj
                  have := p3 _ v hj
                  rw [← this]
                  congr 2
                  rw [hfl, h1] at *
                  omega
          obtain ⟨ys, css, h1, h2, h3, h4⟩ := build len (Nat.le_refl _)
          refine ⟨ys, ⟨some a, cap, by rw [h1], by omega, ?_⟩, by rw [h1]; exact Nat.le_trans hl hm, h3⟩
          by_cases h0 : ys = []
          · exact .inl h0
          · right
            have hfl := flatten_len ys css h2
            have hpos : 0 < css.flatten.length := by
              rw [hfl]
              have : 0 < ys.length := List.length_pos_iff.2 h0
              exact Nat.mul_pos this q3
            have hc0 := h4 0 _ (List.getElem?_eq_getElem hpos)
            have hs : a.spot = none := by simpa [Addr.add] using World.cell?_spot hc0
            have hlt := cell_lt hc0
            obtain ⟨b, o, sp⟩ := a
            simp only at hs
            subst hs
            refine ⟨b, o, css, rfl, by simpa [Addr.add] using hlt, h2, fun j v hj => ?_⟩
            have := h4 j v hj
            rwa [Addr.add'] at this
      | int k => simp at hB
      | bool => simp at hB
      | str => simp at hB
      | pair a b => simp at hB
    · cases hB

/-- An argument that is no struct. -/
theorem openPlain {r : Reach} {b0 n : Nat} {e : ET} {t : TypeId} {v : Value} {d : DataW H} {ps : List MemPlace} (hB : etB P n e t = true) (hd : DataW.Trod enc P w base spare held t v d ps)
    (hs : aggB P t = false) (hval : Value.okWide P w r b0 t v) : ∃ y : e.T, Wf e y ∧ ∀ (C : Ctx) (c : AV), C.w = w → (∀ b, b < w.heap.size → C.F b) → e.avs y = [c] → Rep C c v := by
  obtain ⟨fuel, hd⟩ := hd
  obtain ⟨y, h1, h2⟩ := openT n e t fuel _ _ hB hd
  refine ⟨y, h2, fun C c hw hF hc => ?_⟩
  subst hw
  have := avs_rep (C := C) e y _ (RepT_mono hF (fun _ _ => rfl) e y _ h1)
  rw [hc] at this
  unfold RepL at this
  obtain ⟨u, r, he, hr, hn⟩ := this
  unfold RepL at hn
  subst hn
  have : v = u := by
    have hag : ∀ cs, v = .agg cs → False := by
      intro cs hcs
      subst hcs
      unfold Value.okWide at hval
      unfold aggB at hs
      cases hu : P.underlying t with
      | none => rw [hu] at hval; simp [Cell.okWide, hu, Cell.ok] at hval
      | some td => cases td <;> simp [hu] at hs <;> simp [hu, Cell.okWide, Cell.ok] at hval
    cases v <;> simp [Value.cells] at he <;> first | exact he | exact (hag _ rfl).elim
  rw [this]; exact hr

/-- An argument that is a struct. -/
theorem openStruct {r : Reach} {b0 n : Nat} {e : ET} {t : TypeId} {v : Value} {d : DataW H} {ps : List MemPlace} (hB : etB P n e t = true) (hd : DataW.Trod enc P w base spare held t v d ps)
    (hs : aggB P t = true) (hval : Value.okWide P w r b0 t v) : ∃ y : e.T, Wf e y ∧ ∀ (C : Ctx), C.w = w → (∀ b, b < w.heap.size → C.F b) → Rep C (.agg (e.avs y)) v := by
  obtain ⟨fuel, hd⟩ := hd
  obtain ⟨y, h1, h2⟩ := openT n e t fuel _ _ hB hd
  refine ⟨y, h2, fun C hw hF => ?_⟩
  subst hw
  have := avs_rep (C := C) e y _ (RepT_mono hF (fun _ _ => rfl) e y _ h1)
  have hag : ∃ cs, v = .agg cs := by
    unfold aggB at hs
    unfold Value.okWide at hval
    split at hs
    · rename_i hu; rw [hu] at hval; obtain ⟨cs, h, _⟩ := hval; exact ⟨cs, h⟩
    · rename_i hu; rw [hu] at hval; obtain ⟨cs, h, _⟩ := hval; exact ⟨cs, h⟩
    · cases hs
  obtain ⟨cs, rfl⟩ := hag
  unfold Rep
  exact ⟨cs, rfl, this⟩

theorem trodAll_below (hl : laidOutB P = true) {W W' : World} (hb : RowKit.Below W.heap.size W W') : ∀ (ts : List TypeId) (vs : List Value) (ds : List (DataW H)) (ps : List MemPlace), (ts.all fun t => P.readableRec t && decide (t < P.types.size)) = true →
    DataW.TrodAll enc P W 0 (fun _ => true) true ts vs ds ps → (∀ x ∈ ps, x.block < W.heap.size) → DataW.TrodAll enc P W' 0 (fun b => decide (b < W.heap.size)) true ts vs ds ps
  | [], [], [], ps, _, h, _ => h
  | t :: ts, v :: vs, d :: ds, ps, hc, ⟨p, q, h1, h2, e⟩, hlt => by
    subst e
    simp only [List.all_cons, Bool.and_eq_true, decide_eq_true_eq] at hc
    exact ⟨p, q, RowKit.Below.trod hl hc.1.1 hc.1.2 h1 hb (fun x hx => hlt x (by simp [hx])), trodAll_below hl hb ts vs ds q hc.2 h2 (fun x hx => hlt x (by simp [hx])), rfl⟩
  | [], _ :: _, _, _, _, h, _ => h.elim
  | [], [], _ :: _, _, _, h, _ => h.elim
  | _ :: _, [], _, _, _, h, _ => h.elim
  | _ :: _, _ :: _, [], _, _, h, _ => h.elim

theorem Gr.below {B : Nat} {L : Fr} {W W' : World} (h : Gr B L W W') (hL : ∀ k, ¬ L.lent k) : RowKit.Below B W W' := ⟨h.os, h.tape, h.output, h.size, fun k hk => h.block k hk (hL k)⟩

/-- What the program's statements are read in: all memory may be read, none written. -/
def inFr (W : World) : Fr := { lent := fun _ => False, far := fun b => b < W.heap.size, old := fun _ => none, m := 0, hm := by omega }
def inCtx (W : World) : Ctx := ⟨fun _ => False, fun b => b < W.heap.size, fun _ => none, W, fun _ _ => False⟩

theorem in_heap (W : World) (hg : GlobOk (inCtx W)) : Heap (inCtx W) W.heap.size (inFr W) (ofL []) :=
  ⟨fun _ _ => rfl, fun i o h => by simp [ofL] at h, fun i h => by simp [ofL] at h, fun i j b h => by simp [inCtx, Ctx.own, blk] at h, fun i b h => by simp [inCtx, Ctx.own, blk] at h, fun i b h => by simp [inCtx, Ctx.own, blk] at h, fun i b h => by simp [inCtx, Ctx.own, blk] at h, fun b h => h,
    ⟨fun b h => .inr h, fun i pv hi => by simp [inFr] at hi, fun i hi => by simp [inFr] at hi⟩, hg⟩

/-- A law that returns true and leaves its arguments as they were. -/
theorem law_calls {f : FuncId} {fn : Func} {s : ChangeSpec} {bt : TypeId} (hvars : s.vars = []) (hres : fn.resultTypes = #[bt]) (hbt : P.underlying bt = some .bool)
    (hspec : ∀ ds : List (DataW H), ds.length = fn.params.size → s.fn H ds = { results := [.lit (.bool true)], args := ds }) (hl : laidOutB P = true) (hpar : (fn.params.toList.all fun t => P.readableRec t && decide (t < P.types.size)) = true)
    {W : World} {args : Array Value} {ds gs : List (DataW H)} {before : List MemPlace} (hW : DataW.Whole enc P fn.params.toList s.vars false W args.toList ds gs before)
    {g : List AV → List Ob → Option (AV × List Ob)} (hfn : FnOk P f g) {avs : List AV} {hout : List Ob} (hr : g avs [] = some (.bool true, hout)) (hrep : RepL (inCtx W) avs args.toList) (hg : GlobOk (inCtx W)) :
    Calls P f args W fun e W' => ∃ v, e = .returned v ∧ s.post enc P fn false true false false W args v W' := by
  have hcall := hfn.calls avs [] _ hout hr (inCtx W) (inFr W) args.toList (in_heap W hg) rfl hrep
  rw [Array.toArray_toList] at hcall
  refine Calls.mono (w := W) hcall ?_
  rintro e W' ⟨v, C', rfl, hw, hv, hH, hgr⟩
  subst hw
  unfold Rep at hv
  subst hv
  refine ⟨_, rfl, ?_⟩
  have hb : RowKit.Below W.heap.size W C'.w := hgr.below (fun k h => h)
  have hlt := DataW.Whole.lt hW
  have hW' := hW
  obtain ⟨p, q, hA, hV, rfl, _, _⟩ := hW
  have hgs : gs = [] ∧ q = [] := by
    rw [hvars] at hV
    cases gs with
    | nil => exact ⟨rfl, hV⟩
    | cons _ _ => exact hV.elim
  obtain ⟨rfl, rfl⟩ := hgs
  have hlen : ∀ (ts : List TypeId) (vs : List Value) (ds : List (DataW H)) (ps : List MemPlace), DataW.TrodAll enc P W 0 (fun _ => true) true ts vs ds ps → ds.length = ts.length := by
    intro ts
    induction ts with
    | nil => intro vs ds ps h; cases vs <;> cases ds <;> first | rfl | exact h.elim
    | cons t ts ih =>
      intro vs ds ps h
      cases vs with
      | nil => exact h.elim
      | cons v vs =>
        cases ds with
        | nil => exact h.elim
        | cons d ds => obtain ⟨p, q, _, h2, _⟩ := h; simp [ih vs ds q h2]
  have hdl := hlen _ _ _ _ hA
  have hs := hspec ds (by simpa using hdl)
  have hA' := trodAll_below hl hb _ _ _ _ hpar hA (fun x hx => hlt x (by simp [hx]))
  refine ⟨ds, [], _, [], p, [], hW', ?_, ?_, ?_, hb.frame _, fun h => by cases h⟩
  · rw [hres, List.append_nil, hs]
    exact ⟨[], [], RowKit.shut_bool hbt true, rfl, rfl⟩
  · rw [List.append_nil, hs]; exact hA'
  · rw [List.append_nil, hs, hvars]
    show DataW.TrodVars enc P C'.w _ [] [] []
    rfl
end
end Go.Sym
