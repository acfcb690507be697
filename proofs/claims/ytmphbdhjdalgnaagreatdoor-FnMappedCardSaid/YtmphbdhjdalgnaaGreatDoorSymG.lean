/- The symbolic machine and the model: stores; operations that only compute. -/
import Derived.Test.YtmphbdhjdalgnaaGreatDoorSymF
namespace Go.Sym
set_option linter.unusedVariables false
set_option linter.unusedSimpArgs false
set_option linter.unusedSectionVars false
variable [Globs] [Dm]

section
variable {R : Type} {P : Program} {E : Env} {C : Ctx} {B : Nat} {L : Fr} {hp : Nat → Option Ob} {k : AV → Sets → Option R} {r : R}

def Ctx.at (C : Ctx) (w : World) : Ctx := { C with w := w }

theorem Heap.upd (hH : Heap C B L hp) {id : Nat} {pv : Value} (hρ : C.ρ id = some pv) {g : Nat} (hb : blk (some pv) g) {w : World} (hs : w.heap.size = C.w.heap.size)
    (hw : ∀ k, k ≠ g → w.heap[k]? = C.w.heap[k]?) (ho : w.os = C.w.os) (ht : w.tape = C.w.tape) (hu : w.output = C.w.output) (hd : C.w.drawn ≤ w.drawn) :
    Le C (C.at w) ∧ Gr B L C.w w ∧ ∀ (_ : C.A id) o', ObRep (C.at w) id o' pv → Heap (C.at w) B L (setHp hp [(id, some o')]) := by
  have hown : C.own id g := .inl (by rw [hρ]; exact hb)
  have hF : ∀ b, C.F b → b ≠ g := fun b h e => by subst e; exact hH.apart id b hown h
  have hle : Le C (C.at w) := ⟨fun _ h => h, fun _ h => h, fun _ _ _ h => h, fun b h => hw b (hF b h)⟩
  refine ⟨hle, ⟨ho, ht, hu, by omega, fun k hk hL => hw k fun e => ?_, fun _ => hd⟩, fun hA o' hob => ?_⟩
  · subst e
    rcases hH.mine id k hown with h | h
    · omega
    · exact hL h
  · refine ⟨fun i h => ?_, fun i o'' h => ?_, fun i h => ?_, fun i j b h1 h2 => hH.sep i j b h1 h2, fun i b h => hH.apart i b h, fun i b h => hH.mine i b h, fun i b h => ?_, fun b h => ?_, ⟨hH.fr.fro, hH.fr.old, hH.fr.low⟩, hH.glob.mono hle.F hle.w⟩
    · simp only [setHp] at h
      split at h
      · cases h
      · exact hH.non i h
    · simp only [setHp] at h
      split at h
      · rename_i he
        cases h; subst he
        exact ⟨pv, hρ, hob⟩
      · rename_i he
        obtain ⟨p, hp', hr⟩ := hH.som i o'' h
        refine ⟨p, hp', hr.mono hle (fun _ => Iff.rfl) fun b hb' => hw b fun e => ?_⟩
        subst e
        exact he (hH.sep i id b (hb'.imp (fun q => by rw [hp']; exact q) fun q => q) hown)
    · simp only [setHp] at h
      split at h
      · subst_vars; exact hA
      · exact hH.inA i h
    · have := hH.lto i b h; simp [Ctx.at]; omega
    · have := hH.inb b h; simp [Ctx.at]; omega

theorem okCells_one : ∀ (cs : List AV) (vs : List Value), RepL C cs vs → cs.all AV.okCell = true → ∀ v ∈ vs, v.oneCell' = true
  | [], vs, h, _ => by unfold RepL at h; subst h; simp
  | c :: cs, vs, h, hk => by
    unfold RepL at h
    obtain ⟨v, r, rfl, h1, h2⟩ := h
    simp only [List.all_cons, Bool.and_eq_true] at hk
    intro u hu
    rcases List.mem_cons.1 hu with rfl | hu
    · exact okCell_one hk.1 h1
    · exact okCells_one cs r h2 hk.2 u hu

theorem run_storeAt {t : TypeId} {ti : TI} (hR : TyRow P t ti) {w : World} {g o : Nat} {x : Value} (hs : x.cells.size = ti.size) {cur : Array Value} {bt : TypeId} (hg : w.heap[g]? = some (.cells cur bt (0, 0)))
    (hl : o + x.cells.size ≤ cur.size) (h1 : ∀ v ∈ x.cells.toList, v.oneCell' = true) :
    (Instr.storeAt t (.pointer (some ⟨g, o, none⟩)) x).run P w = .ok () (w.setRow g (cur.toList.take o ++ x.cells.toList ++ cur.toList.drop (o + x.cells.toList.length)).toArray) := by
  have hst := run_storeCells_at P g o bt x.cells.toList 0 cur w hg (by simpa using hl) h1
  simp only [Nat.add_zero] at hst
  simp [Instr.storeAt, Instr.sureAddr, storeVar, run_size' hR, hs, hst]

theorem set_splice {cur a b : List Value} {i s off : Nat} {x : List Value} (ha : a.length = i) (hc : b.length = s) (hx : off + x.length ≤ s) (rest : List Value) :
    (a ++ b ++ rest).take (i + off) ++ x ++ (a ++ b ++ rest).drop (i + off + x.length) = a ++ (b.take off ++ x ++ b.drop (off + x.length)) ++ rest := by
  subst ha; subst hc
  have e1 : (a ++ b ++ rest).take (a.length + off) = a ++ b.take off := by
    rw [List.append_assoc, List.take_append, List.take_of_length_le (by omega), show a.length + off - a.length = off by omega, List.take_append_of_le_length (by omega)]
  have e2 : (a ++ b ++ rest).drop (a.length + off + x.length) = b.drop (off + x.length) ++ rest := by
    rw [List.append_assoc, List.drop_append, List.drop_eq_nil_of_le (by omega), List.nil_append, show a.length + off + x.length - a.length = off + x.length by omega, List.drop_append_of_le_length (by omega)]
  rw [e1, e2]
  simp

theorem flatten_set {s : Nat} : ∀ (css : List (List Value)) (i : Nat) (c : List Value), (∀ c ∈ css, c.length = s) → i < css.length →
    ∃ a b rest, css.flatten = a ++ b ++ rest ∧ a.length = i * s ∧ css[i]? = some b ∧ b.length = s ∧ (css.set i c).flatten = a ++ c ++ rest
  | [], i, c, _, h => by simp at h
  | x :: xs, 0, c, hs, _ => ⟨[], x, xs.flatten, by simp, by simp, rfl, hs x (by simp), by simp⟩
  | x :: xs, i + 1, c, hs, h => by
    obtain ⟨a, b, rest, h1, h2, h3, h4, h5⟩ := flatten_set xs i c (fun c hc => hs c (by simp [hc])) (by simpa using h)
    refine ⟨x ++ a, b, rest, by simp [h1], ?_, by simpa using h3, h4, by simp [h5]⟩
    rw [List.length_append, h2, hs x (by simp), Nat.add_mul]; omega

theorem All2.lens {F : Nat → Prop} {w : World} {e : ET} : ∀ (ys : List e.T) (css : List (List Value)), All2 (RepT F w e) ys css → ∀ c ∈ css, c.length = e.sz
  | [], [], _, c, h => by simp at h
  | [], _ :: _, h, _, _ => h.elim
  | _ :: _, [], h, _, _ => h.elim
  | x :: xs, c :: css, ⟨h1, h2⟩, c', h => by
    rcases List.mem_cons.1 h with rfl | h
    · exact RepT_len _ _ _ h1
    · exact All2.lens xs css h2 c' h

end
end Go.Sym
