/- The symbolic machine and the model: stores; operations that only compute. -/
import Derived.Test.YtiihfodcocihjaaGreatDoorSymF
namespace Go.Sym
set_option linter.unusedVariables false
set_option linter.unusedSimpArgs false
set_option linter.unusedSectionVars false
variable [Globs] [Dm]

section
variable {R : Type} {P : Program} {E : Env} {C : Ctx} {B : Nat} {L : Fr} {hp : Nat → Option Ob} {k : AV → Sets → Option R} {r : R}

def Ctx.at (C : Ctx) (w : World) : Ctx := { C with w := w }

theorem Heap.upd (hH : Heap C B L hp) {id : Nat} {pv : Value} (hρ : C.ρ id = some pv) {g : Nat} (hb : blk (some pv) g) {w : World} (hs : w.heap.size = C.w.heap.size)
    (hw : ∀ k, k ≠ g → w.heap[k]? = C.w.heap[k]?) (ho : w.os = C.w.os) (ht : w.tape = C.w.tape) (hu : w.output = C.w.output) (hd : C.w.drawn ≤ w.drawn) :
    Le C (C.at w) ∧ Gr B L C.w w ∧ ∀ (_ : C.A id) o', ObRep (C.at w) o' pv → Heap (C.at w) B L (setHp hp [(id, some o')]) := by
  have hF : ∀ b, C.F b → b ≠ g := fun b h e => by subst e; exact hH.apart id b (by rw [hρ]; exact hb) h
  have hle : Le C (C.at w) := ⟨fun _ h => h, fun _ h => h, fun _ _ _ h => h, fun b h => hw b (hF b h)⟩
  refine ⟨hle, ⟨ho, ht, hu, by omega, fun k hk hL => hw k fun e => ?_, fun _ => hd⟩, fun hA o' hob => ?_⟩
  · subst e
    rcases hH.mine id k (by rw [hρ]; exact hb) with h | h
    · omega
    · exact hL h
  · refine ⟨fun i h => ?_, fun i o'' h => ?_, fun i h => ?_, fun i j b h1 h2 => hH.sep i j b h1 h2, fun i b h => hH.apart i b h, fun i b h => hH.mine i b h, fun b h => ?_, ⟨hH.fr.fro, hH.fr.old, hH.fr.low⟩, hH.glob.mono hle.F hle.w⟩
    · simp only [setHp] at h
      split at h
      · cases h
      · exact hH.non i h
    · simp only [setHp] at h
      split at h
      · rename_i he
        cases h; subst he
        exact ⟨pv, hρ, hob⟩
      · rename_i he
        obtain ⟨p, hp', hr⟩ := hH.som i o'' h
        refine ⟨p, hp', hr.mono hle fun b hb' => hw b fun e => ?_⟩
        subst e
        exact he (hH.sep i id b (by rw [hp']; exact hb') (by rw [hρ]; exact hb))
    · simp only [setHp] at h
      split at h
      · subst_vars; exact hA
      · exact hH.inA i h
    · have := hH.inb b h; simp [Ctx.at]; omega

theorem okCells_one : ∀ (cs : List AV) (vs : List Value), RepL C cs vs → cs.all AV.okCell = true → ∀ v ∈ vs, v.oneCell' = true
  | [], vs, h, _ => by unfold RepL at h; subst h; simp
  | c :: cs, vs, h, hk => by
    unfold RepL at h
    obtain ⟨v, r, rfl, h1, h2⟩ := h
    simp only [List.all_cons, Bool.and_eq_true] at hk
    intro u hu
    rcases List.mem_cons.1 hu with rfl | hu
    · exact okCell_one hk.1 h1
    · exact okCells_one cs r h2 hk.2 u hu

theorem run_storeAt {t : TypeId} {ti : TI} (hR : TyRow P t ti) {w : World} {g o : Nat} {x : Value} (hs : x.cells.size = ti.size) {cur : Array Value} {bt : TypeId} (hg : w.heap[g]? = some (.cells cur bt (0, 0)))
    (hl : o + x.cells.size ≤ cur.size) (h1 : ∀ v ∈ x.cells.toList, v.oneCell' = true) :
    (Instr.storeAt t (.pointer (some ⟨g, o, none⟩)) x).run P w = .ok () (w.setRow g (cur.toList.take o ++ x.cells.toList ++ cur.toList.drop (o + x.cells.toList.length)).toArray) := by
  have hst := run_storeCells_at P g o bt x.cells.toList 0 cur w hg (by simpa using hl) h1
  simp only [Nat.add_zero] at hst
  simp [Instr.storeAt, Instr.sureAddr, storeVar, run_size' hR, hs, hst]

theorem set_splice {cur a b : List Value} {i s off : Nat} {x : List Value} (ha : a.length = i) (hc : b.length = s) (hx : off + x.length ≤ s) (rest : List Value) :
    (a ++ b ++ rest).take (i + off) ++ x ++ (a ++ b ++ rest).drop (i + off + x.length) = a ++ (b.take off ++ x ++ b.drop (off + x.length)) ++ rest := by
  subst ha; subst hc
  have e1 : (a ++ b ++ rest).take (a.length + off) = a ++ b.take off := by
    rw [List.append_assoc, List.take_append, List.take_of_length_le (by omega), show a.length + off - a.length = off by omega, List.take_append_of_le_length (by omega)]
  have e2 : (a ++ b ++ rest).drop (a.length + off + x.length) = b.drop (off + x.length) ++ rest := by
    rw [List.append_assoc, List.drop_append, List.drop_eq_nil_of_le (by omega), List.nil_append, show a.length + off + x.length - a.length = off + x.length by omega, List.drop_append_of_le_length (by omega)]
  rw [e1, e2]
  simp

theorem flatten_set {s : Nat} : ∀ (css : List (List Value)) (i : Nat) (c : List Value), (∀ c ∈ css, c.length = s) → i < css.length →
    ∃ a b rest, css.flatten = a ++ b ++ rest ∧ a.length = i * s ∧ css[i]? = some b ∧ b.length = s ∧ (css.set i c).flatten = a ++ c ++ rest
  | [], i, c, _, h => by simp at h
  | x :: xs, 0, c, hs, _ => ⟨[], x, xs.flatten, by simp, by simp, rfl, hs x (by simp), by simp⟩
  | x :: xs, i + 1, c, hs, h => by
    obtain ⟨a, b, rest, h1, h2, h3, h4, h5⟩ := flatten_set xs i c (fun c hc => hs c (by simp [hc])) (by simpa using h)
    refine ⟨x ++ a, b, rest, by simp [h1], ?_, by simpa using h3, h4, by simp [h5]⟩
    rw [List.length_append, h2, hs x (by simp), Nat.add_mul]; omega

theorem All2.lens {F : Nat → Prop} {w : World} {e : ET} : ∀ (ys : List e.T) (css : List (List Value)), All2 (RepT F w e) ys css → ∀ c ∈ css, c.length = e.sz
  | [], [], _, c, h => by simp at h
  | [], _ :: _, h, _, _ => h.elim
  | _ :: _, [], h, _, _ => h.elim
  | x :: xs, c :: css, ⟨h1, h2⟩, c', h => by
    rcases List.mem_cons.1 h with rfl | h
    · exact RepT_len _ _ _ h1
    · exact All2.lens xs css h2 c' h

theorem astore_ok {o : Oper} {a : Act} (hT : TyOk P E) (hH : Heap C B L hp) {t : TypeId} {x y : Operand} {v u : AV} (ho : o.op = .store t x y) (hv : Rep C v (a.eval x)) (hu : Rep C u (a.eval y))
    (h : astore E hp k t v u = some r) : OpOK P o a C B L hp k r := by
  unfold astore at h
  split at h
  case h_2 => cases h
  rename_i ti cs hti hcs
  have hR := hT.row hti
  split at h
  case isFalse => cases h
  rename_i hsz
  obtain ⟨hsz, hok⟩ := hsz
  have hrc := cells_rep hcs hu
  have hlen := RepL_len _ _ hrc
  have h1 := okCells_one _ _ hrc hok
  have hxs : (a.eval y).cells.size = ti.size := by simpa [hsz] using hlen.symm
  split at h
  · rename_i id off
    unfold Rep at hv
    split at h
    case h_2 => cases h
    rename_i bt old hb
    split at h
    case isFalse => cases h
    rename_i hle
    obtain ⟨pv, hρ, b, vs, e1, hg, hr⟩ := hH.som id _ hb
    obtain ⟨hA, b', hx, e2⟩ := hv
    have e2 := e2 pv hρ
    rw [e1] at e2; simp at e2; subst e2
    have hlo := RepL_len _ _ hr
    have hst := run_storeAt hR hxs hg (o := off) (by simp at hlo hlen; omega) h1
    obtain ⟨hle', hgr, hup⟩ := hH.upd hρ (g := b) (by rw [e1]; simp [blk]) (w := C.w.setRow b (vs.toList.take off ++ (a.eval y).cells.toList ++ vs.toList.drop (off + (a.eval y).cells.toList.length)).toArray)
      (by simp) (fun k hk => setRow_other C.w b k _ hk) rfl rfl rfl (Nat.le_refl _)
    refine OpOK.skip (C' := C.at _) (by simp [execOp, ho, hx, hst]; rfl) h ⟨hle', fun _ h => .inl h, hup hA _ ?_, by unfold Rep; trivial, hgr⟩
    refine ⟨b, _, e1, setRow_heap C.w b vs _ bt _ hg, ?_⟩
    simpa using RepL_mono hle' _ _ (RepL_splice off hr hrc)
  · rename_i id i sz off
    unfold Rep at hv
    split at h
    case h_2 => cases h
    rename_i bt e ys hb
    split at h
    case isFalse => cases h
    rename_i hle
    obtain ⟨rfl, hle⟩ := hle
    rcases sat_br h with ⟨hlt, h⟩ | ⟨_, h⟩
    case inr => cases h
    have hlt := of_decide_eq_true hlt
    split at h
    case h_2 => cases h
    rename_i y' hun
    obtain ⟨pv, hρ, hob⟩ := hH.som id _ hb
    rcases hob with ⟨rfl, _⟩ | ⟨g, cap, cur, css, e1, h0, hg, hc1, hc2, hc3, hc4, hc5⟩
    · simp at hlt
    subst e1
    obtain ⟨hA, b', hx, e2⟩ := hv
    obtain ⟨n', c', e2⟩ := e2 _ hρ
    simp at e2
    obtain ⟨rfl, rfl, rfl⟩ := e2
    obtain ⟨c0, hc0, hr0, _⟩ := flatten_get ys css hc4 i _ (getD_get (d := e.dft) hlt)
    have hlcss := All2.length _ _ hc4
    have hflen := flatten_len _ _ hc4
    obtain ⟨A, b0, rest, q1, q2, q3, q4, q5⟩ := flatten_set css i (c0.take off ++ (a.eval y).cells.toList ++ c0.drop (off + (a.eval y).cells.toList.length)) (All2.lens _ _ hc4) (by omega)
    rw [hc0] at q3; cases q3
    have hxl : off + (a.eval y).cells.toList.length ≤ e.sz := by omega
    have hcur : cur.toList = css.flatten ++ cur.toList.drop (ys.length * e.sz) := by rw [← hc5]; exact (List.take_append_drop _ _).symm
    have hfit : i * e.sz + e.sz ≤ ys.length * e.sz := by rw [← Nat.succ_mul]; exact Nat.mul_le_mul_right _ hlt
    have hcs3 : ys.length * e.sz ≤ cur.size := by rw [hc3]; exact Nat.mul_le_mul_right _ hc1
    have hst := run_storeAt hR hxs hg (o := i * e.sz + off) (by simp at hxl; omega) h1
    obtain ⟨hle', hgr, hup⟩ := hH.upd hρ (g := g) (by simp [blk, h0]) (w := C.w.setRow g (cur.toList.take (i * e.sz + off) ++ (a.eval y).cells.toList ++ cur.toList.drop (i * e.sz + off + (a.eval y).cells.toList.length)).toArray)
      (by simp) (fun k hk => setRow_other C.w g k _ hk) rfl rfl rfl (Nat.le_refl _)
    refine OpOK.skip (C' := C.at _) (by simp [execOp, ho, hx, hst]; rfl) h ⟨hle', fun _ h => .inl h, hup hA _ ?_, by unfold Rep; trivial, hgr⟩
    have hnew : cur.toList.take (i * e.sz + off) ++ (a.eval y).cells.toList ++ cur.toList.drop (i * e.sz + off + (a.eval y).cells.toList.length) =
        (css.set i (c0.take off ++ (a.eval y).cells.toList ++ c0.drop (off + (a.eval y).cells.toList.length))).flatten ++ cur.toList.drop (ys.length * e.sz) := by
      rw [q5]
      conv => lhs; rw [hcur, q1]
      have hd : ∀ l : List Value, (l ++ cur.toList.drop (ys.length * e.sz)) = l ++ cur.toList.drop (ys.length * e.sz) := fun _ => rfl
      rw [List.append_assoc A c0 rest, List.append_assoc A (c0 ++ rest), List.append_assoc c0 rest, ← List.append_assoc A c0]
      rw [set_splice (cur := cur.toList) q2 q4 hxl]
      simp [List.append_assoc]
    have hr' : RepT C.F C.w e y' (c0.take off ++ (a.eval y).cells.toList ++ c0.drop (off + (a.eval y).cells.toList.length)) :=
      un_rep e _ y' _ hun (RepL_splice off (avs_rep _ _ _ hr0) hrc)
    have hset : (css.set i (c0.take off ++ (a.eval y).cells.toList ++ c0.drop (off + (a.eval y).cells.toList.length))).flatten.length = ys.length * e.sz := by
      have := flatten_len _ _ (All2.set hr' ys css i hc4)
      simpa using this
    refine .inr ⟨g, cap, _, css.set i (c0.take off ++ (a.eval y).cells.toList ++ c0.drop (off + (a.eval y).cells.toList.length)), by simp, h0, setRow_heap C.w g cur _ bt _ hg, by simpa using hc1, hc2, ?_, ?_, ?_⟩
    · rw [hnew, List.size_toArray, List.length_append, hset, List.length_drop]; have hcl : cur.toList.length = cur.size := Array.length_toList; omega
    · exact All2.set (RepT_mono hle'.F hle'.w _ _ _ hr') _ _ i (All2.imp (RepT_mono hle'.F hle'.w e) _ _ hc4)
    · rw [hnew]
      simp only [List.length_set]
      rw [← hset]
      exact List.take_left
  · cases h

end
end Go.Sym
