/- The symbolic machine: the library's Cut, Split of texts, Atoi. -/
import Derived.Test.YtonbmmjagdbgaaaGreatDoorSymJoin
import Derived.Shelf.Strings.Cut
import Derived.Shelf.Strings.Split
import Derived.Shelf.Strconv.AtoiAll
namespace Go.Sym
set_option linter.unusedVariables false
set_option linter.unusedSimpArgs false
set_option linter.unusedSectionVars false
variable [Globs] [Dm]
open Go.Proofs Go.Shelf Go.RowKit Go.Lib

/-- The two texts beside a separator. -/
def cutB (s sep : ByteArray) : ByteArray × ByteArray × Bool := (⟨(Lib.cut s.data.toList sep.data.toList).1.toArray⟩, ⟨(Lib.cut s.data.toList sep.data.toList).2.1.toArray⟩, (Lib.cut s.data.toList sep.data.toList).2.2)
def splitsB (s sep : ByteArray) : List ByteArray := Lib.splitB sep 0 (Lib.countB s sep) s

/-- A global variable that holds an int. -/
theorem glob_int {C : Ctx} {B : Nat} {L : Fr} {hp : Nat → Option Ob} (hH : Heap C B L hp) {g : Nat} (hg : (g, isI) ∈ Globs.held) : ∃ m : Int, C.w.cell? ⟨g, 0, none⟩ = some (.int .i64 m) := by
  obtain ⟨_, v, h1, m, rfl⟩ := hH.glob.2 _ hg
  exact ⟨m, h1⟩

theorem below_drew (w : World) (n : Nat) : RowKit.Below w.heap.size w (w.drewN n) := ⟨rfl, rfl, rfl, Nat.le_refl _, fun _ _ => rfl⟩

theorem cut_calls (hd : ¬ Dm.p) {P : Program} {ρ : Ren} (LL : Lays.n145 P ρ) (hg : (ρ.g 1, isI) ∈ Globs.held) {s sep : ByteArray} (hs : s.size < 4294967281)
    {C : Ctx} {L : Fr} {vs : List Value} (hH : Heap C C.w.heap.size L (ofL [])) (hA : RepL C [.str s, .str sep] vs) :
    Calls P (ρ.f 145) vs.toArray C.w fun e w' => ∃ v C', e = .returned v ∧ C'.w = w' ∧ Rep C' (.tup [.str (cutB s sep).1, .str (cutB s sep).2.1, .bool (cutB s sep).2.2]) v ∧ Heap C' C.w.heap.size L (ofL []) ∧ Gr C.w.heap.size L C.w w' := by
  unfold RepL at hA
  obtain ⟨v0, r0, rfl, hv0, hA⟩ := hA
  unfold RepL at hA
  obtain ⟨v1, r1, rfl, hv1, hA⟩ := hA
  unfold RepL at hA
  subst hA
  unfold Rep at hv0 hv1
  subst hv0 hv1
  obtain ⟨m, hm⟩ := glob_int hH hg
  refine (Any.strings_Cut LL s sep m C.w hs hm).mono ?_
  rintro e w' ⟨rfl, n, rfl⟩
  obtain ⟨h1, h2, h3⟩ := hH.below (Nat.le_refl _) (below_drew C.w n) fun d => absurd d hd
  refine ⟨_, C.at _, rfl, rfl, ?_, h3, h2⟩
  unfold Rep
  exact ⟨_, rfl, RepL_cons (by unfold Rep; rfl) (RepL_cons (by unfold Rep; rfl) (RepL_cons (by unfold Rep; rfl) RepL_nil))⟩

/-- A context that has nothing of its own. -/
def Ctx.bare (C : Ctx) : Ctx := ⟨fun _ => False, C.F, fun _ => none, C.w, fun _ _ => False⟩
theorem Heap.bare {C : Ctx} {B : Nat} {L : Fr} {hp : Nat → Option Ob} (hH : Heap C B L hp) (hm : L.m = 0) : Heap C.bare B L (ofL []) := by
  refine ⟨fun _ _ => rfl, fun i o h => by simp [ofL] at h, fun i h => absurd rfl h, fun i j b h => ?_, fun i b h => ?_, fun i b h => ?_, fun i b h => ?_, hH.inb, ⟨hH.fr.fro, fun i pv h => by omega, fun i h => by omega⟩, hH.glob⟩
  all_goals
    rcases h with h | h
    · simp [Ctx.bare, blk] at h
    · exact h.elim

theorem all2_strs' {F : Nat → Prop} {w : World} : ∀ (ys : List ByteArray), All2 (RepT F w .str) ys (ys.map fun y => [Value.string y])
  | [] => trivial
  | y :: r => ⟨rfl, all2_strs' r⟩

theorem split_calls (hd : ¬ Dm.p) {P : Program} {ρ : Ren} (LL : Lays.n146 P ρ) (hi9 : (P.info? (ρ.t 9)).map (fun i => (i.zero, i.size, i.bytes)) = some (some (.string ByteArray.empty), 1, 16)) (hg : (ρ.g 1, isI) ∈ Globs.held) {s sep : ByteArray} (hs : s.size < 4294967281) (h1 : 1 ≤ sep.size)
    {C : Ctx} {L : Fr} {vs : List Value} (hH : Heap C C.w.heap.size L (ofL [])) (hm : L.m = 0) (hA : RepL C [.str s, .str sep] vs) :
    Calls P (ρ.f 146) vs.toArray C.w fun e w' => ∃ v C', e = .returned v ∧ C'.w = w' ∧ Rep C' (.own 0) v ∧ Heap C' C.w.heap.size L (ofL [.row (ρ.t 9) .str (splitsB s sep)]) ∧ Gr C.w.heap.size L C.w w' := by
  unfold RepL at hA
  obtain ⟨v0, r0, rfl, hv0, hA⟩ := hA
  unfold RepL at hA
  obtain ⟨v1, r1, rfl, hv1, hA⟩ := hA
  unfold RepL at hA
  subst hA
  unfold Rep at hv0 hv1
  subst hv0 hv1
  have hlen := Lib.splitB_all sep h1 0 _ s rfl
  have hle := Lib.countB_le sep h1 s.size s (Nat.le_refl _)
  obtain ⟨m, hmx⟩ := glob_int hH hg
  refine (Any.strings_Split LL hi9 s sep m C.w hs hmx h1).mono ?_
  rintro e w' ⟨rfl, rfl⟩
  have hB := hH.bare hm
  have e1 : Lib.countB s sep + 1 = (splitsB s sep).length := hlen.symm
  rw [e1]
  obtain ⟨q1, q2, q3⟩ := row_new hB (Nat.le_refl _) (id := 0) (fun h => h) (ρ.t 9) (e := .str) (ys := splitsB s sep) (css := (splitsB s sep).map fun y => [Value.string y]) (cur := ((splitsB s sep).map Value.string).toArray) (cap := (splitsB s sep).length) (w := C.w) rfl rfl rfl rfl (Nat.le_refl _)
    (all2_strs' _) (Nat.le_refl _) (by rw [← e1]; unfold maxLen; omega) (by simp [ET.sz]) (by
      rw [List.take_of_length_le (by simp [ET.sz])]
      simp only []
      induction splitsB s sep with
      | nil => rfl
      | cons y r ih => simp at ih ⊢; exact ih)
  refine ⟨_, C.bare.add 0 (.slice (some ⟨C.w.heap.size, 0, none⟩) (splitsB s sep).length (splitsB s sep).length) (C.w.alloc (.cells ((splitsB s sep).map Value.string).toArray (ρ.t 9))), rfl, rfl, ?_, ?_, q3⟩
  · unfold Rep
    exact ⟨.inr rfl, ⟨_, _, _, rfl⟩, fun pv hp => by simp [Ctx.add] at hp; exact hp⟩
  · have : setHp (ofL []) [(0, some (Ob.row (ρ.t 9) .str (splitsB s sep)))] = ofL [Ob.row (ρ.t 9) .str (splitsB s sep)] := by
      funext i
      cases i with
      | zero => rfl
      | succ i => simp [setHp, ofL]
    rw [← this]
    exact q2

/-- Atoi at a text that spells an int. -/
theorem atoi_calls (hd : ¬ Dm.p) {P : Program} {ρ : Ren} (LL : LaysC.n172 P ρ) {s : ByteArray} (hs : s.size ≤ 9223372036854775806) {n : Int} (h : Lib.atoiAll s.data.toList = .ok n)
    {C : Ctx} {L : Fr} {vs : List Value} (hH : Heap C C.w.heap.size L (ofL [])) (hA : RepL C [.str s] vs) :
    Calls P (ρ.f 172) vs.toArray C.w fun e w' => ∃ v C', e = .returned v ∧ C'.w = w' ∧ Rep C' (.tup [.int .i64 n, .nili]) v ∧ Heap C' C.w.heap.size L (ofL []) ∧ Gr C.w.heap.size L C.w w' := by
  unfold RepL at hA
  obtain ⟨v0, r0, rfl, hv0, hA⟩ := hA
  unfold RepL at hA
  subst hA
  unfold Rep at hv0
  subst hv0
  have hr : ∀ C' : Ctx, Rep C' (.tup [.int .i64 n, .nili]) (.tuple #[.int .i64 n, .nilIface]) := fun C' => by
    unfold Rep
    exact ⟨_, rfl, RepL_cons (by unfold Rep; rfl) (RepL_cons (by unfold Rep; rfl) RepL_nil)⟩
  refine (Any.strconv_Atoi_ok LL s hs n h C.w).mono ?_
  rintro e w' ⟨rfl, hw⟩
  have hb : RowKit.Below C.w.heap.size C.w w' := by
    rcases hw with rfl | ⟨t, rfl⟩
    · exact Below.refl _ _
    · exact Lib.bytesWorld_below _ _ _
  obtain ⟨q1, q2, q3⟩ := hH.below (Nat.le_refl _) hb fun d => absurd d hd
  exact ⟨_, C.at _, rfl, rfl, hr _, q3, q2⟩

/-- Atoi at a text that spells none. -/
theorem atoi_bad (hd : ¬ Dm.p) {P : Program} {ρ : Ren} (LL : LaysC.n172 P ρ) (hg : (ρ.g 15, isE) ∈ Globs.held) {s : ByteArray} (hs : s.size ≤ 281474976710656) (h : Lib.atoiAll s.data.toList = Lib.atoiAll [])
    {C : Ctx} {L : Fr} {vs : List Value} (hH : Heap C C.w.heap.size L (ofL [])) (hA : RepL C [.str s] vs) :
    Calls P (ρ.f 172) vs.toArray C.w fun e w' => ∃ v C', e = .returned v ∧ C'.w = w' ∧ Rep C' (.tup [.int .i64 0, .ifn]) v ∧ Heap C' C.w.heap.size L (ofL []) ∧ Gr C.w.heap.size L C.w w' := by
  unfold RepL at hA
  obtain ⟨v0, r0, rfl, hv0, hA⟩ := hA
  unfold RepL at hA
  subst hA
  unfold Rep at hv0
  subst hv0
  obtain ⟨_, ev, h1, h2⟩ := hH.glob.2 _ hg
  refine (Any.strconv_Atoi_syntax LL s hs h ev C.w h1 h2).mono ?_
  rintro e w' ⟨N, rfl, _, _, hb⟩
  obtain ⟨q1, q2, q3⟩ := hH.below (Nat.le_refl _) hb fun d => absurd d hd
  refine ⟨_, C.at _, rfl, rfl, ?_, q3, q2⟩
  unfold Rep
  exact ⟨_, rfl, RepL_cons (by unfold Rep; rfl) (RepL_cons (by unfold Rep; exact ⟨_, _, rfl⟩) RepL_nil)⟩
end Go.Sym
