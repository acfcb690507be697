/- The symbolic machine and the model: operations that compute, make variables, read. -/
import Derived.Test.YtmphbdhjdalgnaaGreatDoorSymD
namespace Go.Sym
set_option linter.unusedVariables false
set_option linter.unusedSimpArgs false
set_option linter.unusedSectionVars false
variable [Globs] [Dm]

section
variable {R : Type} {P : Program} {E : Env} {C : Ctx} {B : Nat} {L : Fr} {hp : Nat → Option Ob} {k : AV → Sets → Option R} {r : R}

def Free (C : Ctx) (d : Nat) : Prop := ∀ id, id / 1000 = d + 1 → ¬ C.A id

theorem ns_div (d j : Nat) (h : j < 1000) : ns d j / 1000 = d + 1 := by unfold ns; omega

/-- A row of nothing gets a name. -/
theorem Heap.nilrow (hH : Heap C B L hp) (hB : B ≤ C.w.heap.size) {id : Nat} (hid : ¬ C.A id) (t : TypeId) (e : ET) :
    Heap (C.add id (.slice none 0 0) C.w) B L (setHp hp [(id, some (.row t e []))]) :=
  hH.add hB hid (fun _ _ => rfl) (Nat.le_refl _) (.inl ⟨rfl, none, rfl⟩) (fun b h => by simp [blk] at h)

theorem typed_ok (hH : Heap C B L hp) (hB : B ≤ C.w.heap.size) {d : Nat} {v : AV} (hf : v = .nils → Free C d) {M : Prop} (hM : v = .nils → M) (t : TypeId) {x : Value} (hv : Rep C v x) :
    ∃ C', C'.w = C.w ∧ Post C B L hp d M (typed E d t v).1 (typed E d t v).2 x C' := by
  cases v with
  | nils =>
    unfold typed
    simp only
    split
    · rename_i el e _ _ _ _
      have hid := hf rfl (ns d 0) (ns_div d 0 (by omega))
      refine ⟨C.add (ns d 0) (.slice none 0 0) C.w, rfl, Le.add hH hid _ (fun _ _ => rfl), fun id h => ?_, hH.nilrow hB hid el e, ?_, Gr.refl _ _ _⟩
      · rcases h with h | rfl
        · exact .inl h
        · exact .inr ⟨hM rfl, ns_div d 0 (by omega)⟩
      · unfold Rep at hv ⊢
        subst hv
        exact ⟨.inr rfl, ⟨_, _, _, rfl⟩, fun pv hp => by simp [Ctx.add] at hp; exact hp⟩
    · exact ⟨C, rfl, Post.pure hH (by unfold Rep; trivial)⟩
  | _ => exact ⟨C, rfl, Post.pure hH hv⟩

theorem RepL_cons {c : AV} {cs : List AV} {v : Value} {vs : List Value} (h : Rep C c v) (h' : RepL C cs vs) : RepL C (c :: cs) (v :: vs) := by
  unfold RepL; exact ⟨v, vs, rfl, h, h'⟩

theorem RepL_nil : RepL C [] [] := by unfold RepL; rfl

theorem RepL_len : ∀ (cs : List AV) (vs : List Value), RepL C cs vs → cs.length = vs.length
  | [], vs, h => by unfold RepL at h; subst h; rfl
  | c :: cs, vs, h => by unfold RepL at h; obtain ⟨v, r, rfl, _, h⟩ := h; simp [RepL_len cs r h]

theorem RepL_get : ∀ (cs : List AV) (vs : List Value), RepL C cs vs → ∀ (i : Nat) c, cs[i]? = some c → ∃ v, vs[i]? = some v ∧ Rep C c v
  | [], _, _, i, c, hc => by simp at hc
  | c :: cs, vs, h, i, c', hc => by
    unfold RepL at h
    obtain ⟨v, r, rfl, h1, h2⟩ := h
    cases i with
    | zero => simp at hc; subst hc; exact ⟨v, rfl, h1⟩
    | succ i => simp at hc; obtain ⟨v', h3, h4⟩ := RepL_get cs r h2 i c' hc; exact ⟨v', by simpa using h3, h4⟩

theorem RepL_append : ∀ (cs cs' : List AV) (vs vs' : List Value), RepL C cs vs → RepL C cs' vs' → RepL C (cs ++ cs') (vs ++ vs')
  | [], _, vs, _, h, h' => by unfold RepL at h; subst h; exact h'
  | c :: cs, cs', vs, vs', h, h' => by
    unfold RepL at h
    obtain ⟨v, r, rfl, h1, h2⟩ := h
    exact RepL_cons h1 (RepL_append cs cs' r vs' h2 h')

theorem RepL_drop : ∀ (n : Nat) (cs : List AV) (vs : List Value), RepL C cs vs → RepL C (cs.drop n) (vs.drop n)
  | 0, _, _, h => h
  | n + 1, [], vs, h => by unfold RepL at h; subst h; simp [RepL_nil]
  | n + 1, c :: cs, vs, h => by unfold RepL at h; obtain ⟨v, r, rfl, _, h⟩ := h; simpa using RepL_drop n cs r h

theorem RepL_take : ∀ (n : Nat) (cs : List AV) (vs : List Value), RepL C cs vs → RepL C (cs.take n) (vs.take n)
  | 0, _, _, _ => by simp [RepL_nil]
  | n + 1, [], vs, h => by unfold RepL at h; subst h; simp [RepL_nil]
  | n + 1, c :: cs, vs, h => by unfold RepL at h; obtain ⟨v, r, rfl, h1, h⟩ := h; simpa using RepL_cons h1 (RepL_take n cs r h)

theorem RepL_splice {cs cs' : List AV} {vs vs' : List Value} (off : Nat) (h : RepL C cs vs) (h' : RepL C cs' vs') :
    RepL C (splice cs off cs') (vs.take off ++ vs' ++ vs.drop (off + vs'.length)) := by
  unfold splice
  rw [RepL_len _ _ h']
  exact RepL_append _ _ _ _ (RepL_append _ _ _ _ (RepL_take _ _ _ h) h') (RepL_drop _ _ _ h)

/-- A value's cells. -/
theorem cells_rep {v : AV} {x : Value} {cs : List AV} (hc : v.cells = some cs) (h : Rep C v x) : RepL C cs x.cells.toList := by
  cases v <;> simp [AV.cells] at hc <;> subst hc <;> unfold Rep at h
  case agg => obtain ⟨vs, rfl, h⟩ := h; exact h
  case lst e ys => obtain ⟨a, c, h1, h2⟩ := h; simp at h1; subst h1; exact RepL_cons (by unfold Rep; exact ⟨a, c, rfl, h2⟩) RepL_nil
  case own id => obtain ⟨h1, ⟨a, n, c, rfl⟩, h2⟩ := h; exact RepL_cons (by unfold Rep; exact ⟨h1, ⟨a, n, c, rfl⟩, h2⟩) RepL_nil
  case ptr id off => obtain ⟨h1, b, rfl, h2⟩ := h; exact RepL_cons (by unfold Rep; exact ⟨h1, b, rfl, h2⟩) RepL_nil
  case rptr id i sz off => obtain ⟨h1, b, rfl, h2⟩ := h; exact RepL_cons (by unfold Rep; exact ⟨h1, b, rfl, h2⟩) RepL_nil
  case sub id lo sz => obtain ⟨h1, ⟨p, N, c, rfl⟩, h2⟩ := h; exact RepL_cons (by unfold Rep; exact ⟨h1, ⟨p, N, c, rfl⟩, h2⟩) RepL_nil
  case mp id => obtain ⟨h1, ⟨b, rfl⟩, h2⟩ := h; exact RepL_cons (by unfold Rep; exact ⟨h1, ⟨b, rfl⟩, h2⟩) RepL_nil
  case clo f caps => obtain ⟨vs, rfl, h⟩ := h; exact RepL_cons (by unfold Rep; exact ⟨vs, rfl, h⟩) RepL_nil
  case vptr cs off => obtain ⟨b, o, vs, rfl, h⟩ := h; exact RepL_cons (by unfold Rep; exact ⟨b, o, vs, rfl, h⟩) RepL_nil
  case ub => obtain ⟨b, rfl⟩ := h; exact RepL_cons (by unfold Rep; exact ⟨b, rfl⟩) RepL_nil
  case ifn => obtain ⟨t, p, rfl⟩ := h; exact RepL_cons (by unfold Rep; exact ⟨t, p, rfl⟩) RepL_nil
  all_goals subst h; exact RepL_cons (by unfold Rep; rfl) RepL_nil

theorem okCell_one {c : AV} {v : Value} (hc : c.okCell = true) (h : Rep C c v) : v.oneCell' = true := by
  cases c <;> simp [AV.okCell] at hc <;> unfold Rep at h
  case lst e ys => obtain ⟨a, c, h1, h2⟩ := h; simp at h1; subst h1; rfl
  case own id => obtain ⟨h1, ⟨a, n, c, rfl⟩, h2⟩ := h; rfl
  case ptr id off => obtain ⟨h1, b, rfl, h2⟩ := h; rfl
  case rptr id i sz off => obtain ⟨h1, b, rfl, h2⟩ := h; rfl
  case mp id => obtain ⟨h1, ⟨b, rfl⟩, h2⟩ := h; rfl
  case clo f caps => obtain ⟨vs, rfl, h⟩ := h; rfl
  case vptr cs off => obtain ⟨b, o, vs, rfl, h⟩ := h; rfl
  case ub => obtain ⟨b, rfl⟩ := h; rfl
  case ifn => obtain ⟨t, p, rfl⟩ := h; rfl
  all_goals subst h; rfl

theorem simple_rep {c : AV} (h : simple c = true) (hz : ∀ t e, c ≠ .zc t e) : Rep C c (vz c) := by
  cases c <;> simp [simple] at h <;> unfold Rep <;> first | rfl | exact absurd rfl (hz _ _)

/-- A zero value: its slices get names. -/
theorem fresh_ok : ∀ (zs : List AV) (j d : Nat) (C : Ctx) (hp : Nat → Option Ob), Heap C B L hp → B ≤ C.w.heap.size → zs.all simple = true → j + zs.length ≤ 1000 → (∀ i, j ≤ i → i < 1000 → ¬ C.A (ns d i)) →
    ∃ C', C'.w = C.w ∧ Le C C' ∧ (∀ id, C'.A id → C.A id ∨ ∃ i, j ≤ i ∧ i < j + zs.length ∧ id = ns d i) ∧ Heap C' B L (setHp hp (fresh d j zs).2) ∧ RepL C' (fresh d j zs).1 (zs.map vz)
  | [], j, d, C, hp, hH, hB, hs, hj, hf => ⟨C, rfl, Le.refl C, fun _ h => .inl h, hH, by simpa [fresh] using RepL_nil⟩
  | c :: zs, j, d, C, hp, hH, hB, hs, hj, hf => by
    simp only [List.all_cons, Bool.and_eq_true] at hs
    simp only [List.length_cons] at hj
    obtain ⟨C1, hw, hle, hnew, hH1, hR⟩ := fresh_ok zs (j + 1) d C hp hH hB hs.2 (by omega) (fun i h1 h2 => hf i (by omega) h2)
    by_cases hz : ∃ t e, c = .zc t e
    · obtain ⟨t, e, rfl⟩ := hz
      have hid : ¬ C1.A (ns d j) := by
        intro hA
        rcases hnew _ hA with h | ⟨i, h1, _, h3⟩
        · exact hf j (Nat.le_refl _) (by omega) h
        · unfold ns at h3; omega
      have hH2 := hH1.nilrow (by rw [hw]; exact hB) hid t e
      refine ⟨C1.add (ns d j) (.slice none 0 0) C1.w, hw, hle.trans (Le.add hH1 hid _ (fun _ _ => rfl)), fun id h => ?_, ?_, ?_⟩
      · rcases h with h | rfl
        · rcases hnew id h with h | ⟨i, h1, h2, h3⟩
          · exact .inl h
          · exact .inr ⟨i, by omega, by simp; omega, h3⟩
        · exact .inr ⟨j, Nat.le_refl _, by simp, rfl⟩
      · exact hH2
      · simp only [fresh, List.map_cons, vz]
        refine RepL_cons ?_ (RepL_mono (Le.add hH1 hid _ (fun _ _ => rfl)) _ _ hR)
        unfold Rep
        exact ⟨.inr rfl, ⟨_, _, _, rfl⟩, fun pv hp => by simp [Ctx.add] at hp; exact hp⟩
    · have hc : fresh d j (c :: zs) = (c :: (fresh d (j + 1) zs).1, (fresh d (j + 1) zs).2) := by
        cases c <;> first | rfl | exact absurd ⟨_, _, rfl⟩ hz
      rw [hc]
      refine ⟨C1, hw, hle, fun id h => ?_, hH1, ?_⟩
      · rcases hnew id h with h | ⟨i, h1, h2, h3⟩
        · exact .inl h
        · exact .inr ⟨i, by omega, by simp; omega, h3⟩
      · exact RepL_cons (simple_rep hs.1 fun t e h => hz ⟨t, e, h⟩) hR

end
end Go.Sym
