/- The symbolic machine and the model: a state, an operation in a region. -/
import Derived.Test.YtmphbdhjdalgnaaGreatDoorSymM
namespace Go.Sym
set_option linter.unusedVariables false
set_option linter.unusedSimpArgs false
set_option linter.unusedSectionVars false
variable [Globs] [Dm]

theorem br_bind {α β : Type} {b : Bool} {x y : Option α} {f : α → Option β} : (br b x y).bind f = br b (x.bind f) (y.bind f) := by
  simp only [br_def]; cases b <;> rfl
theorem br_bind' {α β : Type} {b : Bool} {x : Option α} {f : α → Option β} : (br b x none).bind f = br b (x.bind f) none := by
  simp only [br_def]; cases b <;> rfl
theorem br_bind'' {α β : Type} {b : Bool} {x : Option α} {f : α → Option β} : (br b none x).bind f = br b none (x.bind f) := by
  simp only [br_def]; cases b <;> rfl
theorem bnd_bind {α β γ : Type} {x : Option α} {k : α → Option β} {f : β → Option γ} : (bnd x k).bind f = bnd x fun a => (k a).bind f := by
  simp only [bnd_def]; cases x <;> rfl

section
variable {R : Type} {E : Env} {look : Nat → Option Ob} {ρ : Operand → AV} {o : Oper} {d : Nat}

def pr (v : AV) (u : Sets) : Option (AV × Sets) := some (v, u)

theorem readCells_bind (k : AV → Sets → Option R) (ti : TI) (cs : List AV) (off : Nat) : readCells k ti cs off = (readCells pr ti cs off).bind fun p => k p.1 p.2 := by
  unfold readCells pr
  split
  · split <;> rfl
  · rfl
  · split <;> rfl

theorem aload_bind (k : AV → Sets → Option R) (t : TypeId) (v : AV) : aload E look k t v = (aload E look pr t v).bind fun p => k p.1 p.2 := by
  unfold aload
  split
  · rfl
  split
  · exact readCells_bind k _ _ _
  · split
    · split
      · rfl
      · rw [br_bind']; rfl
    · rfl
  · split
    · exact readCells_bind k _ _ _
    · rfl
  · split
    · split
      · rw [br_bind', ← readCells_bind k]
      · rfl
    · rfl
  · rfl

theorem aloadX_bind (k : AV → Sets → Option R) (t : TypeId) (v : AV) : aloadX E look d k t v = (aloadX E look d pr t v).bind fun p => k p.1 p.2 := by
  unfold aloadX
  split
  · split
    · unfold aloadN
      split
      · rfl
      · split
        · split
          · rw [br_bind']; rfl
          · rw [br_bind']; rfl
          · rfl
        · rfl
    · exact aload_bind k _ _
  · exact aload_bind k _ _

theorem astore_bind (k : AV → Sets → Option R) (t : TypeId) (u v : AV) : astore E look k t u v = (astore E look pr t u v).bind fun p => k p.1 p.2 := by
  unfold astore
  split
  · split
    · split
      · split
        · split <;> rfl
        · rfl
      · split
        · split
          · rw [br_bind']
            congr 1
            split <;> rfl
          · rfl
        · split
          · split
            · split
              · rw [br_bind']; rfl
              · rfl
            · rfl
          · rfl
        · split
          · split
            · split
              · rw [br_bind']; rfl
              · rfl
            · rfl
          · rfl
        · rfl
      · rfl
    · rfl
  · rfl

theorem anil_bind (k : AV → Sets → Option R) (eq : Bool) (v : AV) : anil k eq v = (anil pr eq v).bind fun p => k p.1 p.2 := by
  unfold anil
  split
  · rw [br_def, br_def]; cases decide (0 < _) <;> rfl
  · rfl
  · rfl
  · rfl

theorem apair_bind (k : AV → Sets → Option R) (op : BinOp) (t : TypeId) (us vs : List AV) : apair E k op t us vs = (apair E pr op t us vs).bind fun p => k p.1 p.2 := by
  unfold apair
  split
  · split
    · split
      · split <;> rfl
      · rfl
    · rfl
  · split
    · split
      · split <;> rfl
      · rfl
    · rfl
  · rfl

theorem abin_bind (k : AV → Sets → Option R) (op : BinOp) (t : TypeId) (u v : AV) : abin E k op t u v = (abin E pr op t u v).bind fun p => k p.1 p.2 := by
  unfold abin
  split
  · split
    · exact anil_bind k _ _
    · exact anil_bind k _ _
    · rfl
  · split
    · rw [br_bind'']; rfl
    · rw [br_bind'']; rfl
    · split
      · unfold aint; split <;> first | rfl | (rw [br_bind'']; rfl)
      · rfl
  · split
    · split <;> rfl
    · rfl
  · split
    · rfl
    · rfl
    · rw [br_bind']; rfl
    · rfl
  · exact apair_bind k _ _ _ _
  · rfl

theorem asliceO_bind (k : AV → Sets → Option R) (t : TypeId) (id : Nat) (lo hi : Option AV) : asliceO E look d k t id lo hi = (asliceO E look d pr t id lo hi).bind fun p => k p.1 p.2 := by
  unfold asliceO
  split
  · split
    · split
      · split
        · rw [br_bind']; rfl
        · rw [br_bind']; rfl
        · rfl
      · rfl
    · rfl
  · rfl

theorem aslice_bind (k : AV → Sets → Option R) (t : TypeId) (v : AV) (lo hi : Option AV) : aslice E k t v lo hi = (aslice E pr t v lo hi).bind fun p => k p.1 p.2 := by
  have hb : ∀ (b : Bool) (v : AV), br b (k v []) none = (br b (pr v []) none).bind fun p => k p.1 p.2 := fun b v => by
    rw [br_def, br_def]; cases b <;> rfl
  unfold aslice
  split
  · split
    · split
      · split
        · exact hb _ _
        · exact hb _ _
        · exact hb _ _
        · rfl
      · rfl
    · rfl
  · split
    · exact hb _ _
    · exact hb _ _
    · exact hb _ _
    · rfl
  · rfl

theorem aappend_bind (k : AV → Sets → Option R) (c : Call) : aappend E look ρ d k c = (aappend E look ρ d pr c).bind fun p => k p.1 p.2 := by
  unfold aappend
  split
  · split
    · split
      · rfl
      · split
        · split
          · rfl
          · split
            · rw [br_bind']; rfl
            · rw [br_bind']; rfl
            · split
              · split
                · rw [br_bind']; rfl
                · rfl
              · rfl
            · rfl
        · rfl
    · rfl
  · rfl

theorem amm_bind (k : AV → Sets → Option R) (mx : Bool) (vs : List AV) : amm k mx vs = (amm pr mx vs).bind fun p => k p.1 p.2 := by
  unfold amm
  split
  · split <;> rfl
  · rfl

theorem alen_bind (k : AV → Sets → Option R) (v : AV) : alen look k v = (alen look pr v).bind fun p => k p.1 p.2 := by
  unfold alen
  split <;> try rfl
  split <;> rfl

theorem acall_bind (k : AV → Sets → Option R) (f : FuncId) (avs : List AV) : acall E look d k f avs = (acall E look d pr f avs).bind fun p => k p.1 p.2 := by
  unfold acall
  split
  · rw [fNs_eq, fNs_eq]
    split
    · rfl
    · rw [fL_eq fA_eq, fL_eq fA_eq, fBs_eq, fBs_eq, bnd_bind]
      congr 1
      funext p
      split <;> rfl
  · rw [fL_eq fA_eq, fL_eq fA_eq, bnd_bind]
    congr 1
    funext p
    split <;> rfl

theorem amakeN_bind (k : AV → Sets → Option R) (t : TypeId) (l c : AV) : amakeN E d k t l c = (amakeN E d pr t l c).bind fun p => k p.1 p.2 := by
  unfold amakeN
  split
  · split
    · split
      · rw [br_bind']; rfl
      · rfl
    · rfl
  · rfl

theorem abuildN_bind (k : AV → Sets → Option R) (t : TypeId) (len : Nat) (parts : List (Nat × AV)) : abuildN E look d k t len parts = (abuildN E look d pr t len parts).bind fun p => k p.1 p.2 := by
  unfold abuildN
  split
  · split
    · split
      · split
        · split <;> rfl
        · split
          · split <;> rfl
          · rfl
        · rfl
      · rfl
    · rfl
  · rfl

theorem anest_bind (k : AV → Sets → Option R) (t : TypeId) (u v : AV) : anest E look d k t u v = (anest E look d pr t u v).bind fun p => k p.1 p.2 := by
  unfold anest
  split
  · split
    · split
      · split
        · split
          · rw [br_bind']; rfl
          · rfl
        · rfl
      · rfl
    · rfl
  · rfl

theorem aop_bind (k : AV → Sets → Option R) : aop E look ρ o d k = (aop E look ρ o d pr).bind fun p => k p.1 p.2 := by
  obtain ⟨dst, op, type, pos, after, guard⟩ := o
  cases op <;> simp only [aop] <;> try rfl
  case move x => split <;> rfl
  case assign x => split <;> rfl
  case pick c x y =>
    split
    · rw [br_bind]; rfl
    · rfl
  case alloc t => split <;> rfl
  case box t x => split <;> rfl
  case build t parts =>
    split
    · split <;> rfl
    · rfl
  case buildSlice t len parts =>
    split
    · exact abuildN_bind k _ _ _
    split
    · split
      · split <;> rfl
      · rfl
    · rfl
  case load t x => exact aloadX_bind k _ _
  case store t x y => exact astore_bind k _ _ _
  case nilCheck x => split <;> rfl
  case binOp op t x y t' =>
    split
    · unfold aifc
      split
      · split <;> rfl
      · rfl
    · exact abin_bind k _ _ _ _
  case unOp op t x => split <;> rfl
  case slice t x lo hi mx =>
    cases mx with
    | none =>
      simp only
      split
      · exact asliceO_bind k _ _ _ _
      · exact aslice_bind k _ _ _ _
    | some m => rfl
  case convert s t x =>
    split
    · rfl
    · split <;> rfl
    · rfl
  case makeFunc f first caps => split <;> rfl
  case makeSlice t x y =>
    split
    · exact amakeN_bind k _ _ _
    split
    · split
      · split
        · split
          · rw [br_bind']; rfl
          · rfl
        · rfl
      · rfl
    · rfl
  case fieldAddr t x f =>
    split
    · split
      · split
        · rfl
        · split <;> rfl
      · rfl
    · rfl
  case field t x f =>
    split
    · split
      · split
        · split <;> rfl
        · split <;> rfl
      · rfl
    · rfl
  case indexAddr t x ix =>
    split
    · split
      · split
        · split
          · split
            · rw [br_bind']; rfl
            · rfl
          · split
            · split
              · split
                · rw [br_bind']; rfl
                · rfl
              · rfl
            · split
              · split
                · rw [br_bind']; rfl
                · rfl
              · rfl
          · rfl
        · rfl
      · rfl
    · split
      · split
        · rw [br_bind']; rfl
        · rfl
      · rfl
    · rfl
  case index t x ix =>
    split
    · rw [br_bind']; rfl
    · rfl
  case makeMap t rv => split <;> rfl
  case lookup t x i c =>
    split
    · split
      · split
        · split
          · split <;> rfl
          · rfl
        · rfl
      · rfl
    · rfl
  case mapUpdate t x i v =>
    split
    · split
      · split
        · split <;> rfl
        · rfl
      · rfl
    · rfl
  case extract x i =>
    split
    · split <;> rfl
    · rfl
  case call c =>
    split
    · split
      · split
        · exact alen_bind k _
        · rfl
      · rfl
    · split
      · split
        · exact anest_bind k _ _ _
        · exact aappend_bind k _
      · exact aappend_bind k _
    · exact amm_bind k _ _
    · exact amm_bind k _ _
    · split
      · split
        · exact acall_bind k _ _
        · rfl
      · rfl
    · rfl

theorem aopN_bind (k : AV → Sets → Option R) : aopN E look ρ o d k = (aopN E look ρ o d pr).bind fun p => k p.1 p.2 := by
  unfold aopN
  split
  · exact aop_bind k
  · rw [aop_bind, aop_bind (fun v u => pr v (u ++ _)), Option.bind_assoc]
    rfl

end
end Go.Sym
