/- The symbolic machine: what a callee made may be frozen. -/
import Derived.Test.YtmphbdhjdalgnaaGreatDoorSymW
namespace Go.Sym
set_option linter.unusedVariables false
set_option linter.unusedSimpArgs false
set_option linter.unusedSectionVars false
/-- Where the count of draws need not be told, what was shown with it holds too. -/
theorem FnOk.soft [G : Globs] {d1 d2 : Dm} (hd : d2.p → d1.p) {P : Program} {g : FuncId} {K : List AV → List Ob → Option (AV × List Ob)} (h : @FnOk G d1 P g K) : @FnOk G d2 P g K := by
  refine ⟨@FnOk.enter G d1 P g K h, fun avs hin r hout hk C L vs hH hm hA => ?_⟩
  refine (@FnOk.calls G d1 P g K h avs hin r hout hk C L vs hH hm hA).mono ?_
  rintro e w' ⟨v, C1, rfl, hw, hr, hH1, hG⟩
  exact ⟨v, C1, rfl, hw, hr, hH1, ⟨@Gr.os d1 _ _ _ _ hG, @Gr.tape d1 _ _ _ _ hG, @Gr.output d1 _ _ _ _ hG, @Gr.size d1 _ _ _ _ hG, @Gr.block d1 _ _ _ _ hG, fun d => @Gr.drawn d1 _ _ _ _ hG (hd d)⟩⟩

variable [Globs] [Dm]

/-- What a function made is read only from here on. -/
def frz (K : List AV → List Ob → Option (AV × List Ob)) (avs : List AV) (hin : List Ob) : Option (AV × List Ob) :=
  match hin with
  | [] => (K avs []).map fun p => (p.1.imm (ofL p.2) 8, [])
  | _ => none

theorem FnOk.frz {P : Program} {g : FuncId} {K : List AV → List Ob → Option (AV × List Ob)} (h : FnOk P g K) : FnOk P g (frz K) := by
  refine ⟨h.enter, fun avs hin r hout hk C L vs hH hm hA => ?_⟩
  cases hin with
  | cons x l => cases hk
  | nil =>
    obtain ⟨p, hp, he⟩ := Option.map_eq_some_iff.1 hk
    cases he
    let L' : Fr := { L with lent := fun _ => False }
    let C0 : Ctx := { C with inn := fun _ _ => False }
    have hρ : ∀ i, C.ρ i = none := fun i => hH.non i (by simp [ofL])
    have hown : ∀ i b, ¬ C0.own i b := fun i b hb => by
      rcases hb with hb | hb
      · rw [show C0.ρ i = C.ρ i from rfl, hρ] at hb
        exact hb
      · exact hb
    have hle : Le C C0 := ⟨fun _ h => h, fun _ h => h, fun _ _ _ h => h, fun _ _ => rfl⟩
    have hH' : Heap C0 C.w.heap.size L' (ofL []) :=
      ⟨hH.non, fun id o ho => by simp [ofL] at ho, hH.inA, fun i j b hb => absurd hb (hown i b), fun i b hb => absurd hb (hown i b), fun i b hb => absurd hb (hown i b), fun i b hb => absurd hb (hown i b), hH.inb, ⟨hH.fr.fro, hH.fr.old, hH.fr.low⟩, hH.glob⟩
    refine (h.calls avs [] p.1 p.2 hp C0 L' vs hH' hm (RepL_mono hle _ _ hA)).mono ?_
    rintro e w' ⟨v, C1, rfl, hw, hr, hH1, hG⟩
    have hmine : ∀ i b, C1.own i b → C.w.heap.size ≤ b := fun i b hb => by
      rcases hH1.mine i b hb with h | h
      · exact h
      · exact h.elim
    refine ⟨v, ⟨fun _ => False, fun b => C1.F b ∨ ∃ i, C1.own i b, fun _ => none, C1.w, fun _ _ => False⟩, rfl, hw, ?_, ?_, ?_⟩
    · exact imm_rep hH1 (fun b hb => .inl hb) 8 p.1 v (fun _ i b hb => .inr ⟨i, hb⟩) hr
    · refine ⟨fun _ _ => rfl, fun id o ho => by simp [ofL] at ho, fun id ho => by simp [ofL] at ho, fun i j b hb => by simp [Ctx.own, blk] at hb, fun i b hb => by simp [Ctx.own, blk] at hb, fun i b hb => by simp [Ctx.own, blk] at hb, fun i b hb => by simp [Ctx.own, blk] at hb, ?_, ⟨?_, ?_, ?_⟩, hH1.glob.mono (fun _ h => .inl h) (fun _ _ => rfl)⟩
      · rintro b (hb | ⟨i, hb⟩)
        · exact hH1.inb b hb
        · exact hH1.lto i b hb
      · rintro b (hb | ⟨i, hb⟩)
        · exact hH1.fr.fro b hb
        · exact .inl (hmine i b hb)
      · intro i pv hi hq; cases hq
      · intro i hi
        rw [hm] at hi
        simp at hi
    · exact ⟨hG.os, hG.tape, hG.output, hG.size, fun k hk _ => hG.block k hk (fun h => h), hG.drawn⟩

theorem FnOk.le {P : Program} {g : FuncId} {K K' : List AV → List Ob → Option (AV × List Ob)} (h : FnOk P g K) (hle : ∀ avs hin p, K' avs hin = some p → K avs hin = some p) : FnOk P g K' :=
  ⟨h.enter, fun avs hin r hout hk => h.calls avs hin r hout (hle _ _ _ hk)⟩

theorem frz_s {K : List AV → List Ob → Option (AV × List Ob)} {avs : List AV} {p : AV × List Ob} (h : K avs [] = some p) : frz K avs [] = some (p.1.imm (ofL p.2) 8, []) := by
  unfold frz
  rw [h]
  rfl
end Go.Sym
