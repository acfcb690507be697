/- The symbolic machine and the model: operations that only compute. -/
import Derived.Test.YtiihfodcocihjaaSymG
namespace Go.Sym
set_option linter.unusedVariables false
set_option linter.unusedSimpArgs false

section
variable {R : Type} {P : Program} {E : Env} {C : Ctx} {B : Nat} {L : Fr} {hp : Nat → Option Ob} {k : AV → Sets → Option R} {r : R} {o : Oper} {a : Act}

theorem TyRow.bool {P : Program} {t : TypeId} {a b : Nat} {z : List AV} (h : TyRow P t ⟨.bool, a, b, z⟩) : P.underlying t = some .bool := by
  have := h.td
  simp only [tdB] at this
  split at this <;> simp_all

theorem run_equalIn_bool {t : TypeId} (h : P.underlying t = some .bool) (p q : Bool) (w : World) (d : Nat) : (Op.equalIn (d + 1) t (.bool p) (.bool q)).run P w = .ok (p == q) w := by
  simp [Op.equalIn, run_underlying h]

theorem run_equal_bool {t : TypeId} (h : P.underlying t = some .bool) (p q : Bool) (w : World) : (Op.equal t (.bool p) (.bool q)).run P w = .ok (p == q) w :=
  run_equalIn_bool h p q w 9999

theorem aint_ok (hH : Heap C B L hp) {op : BinOp} {kd : IntKind} {m n : Int} {t t' : TypeId} {x y : Operand} (ho : o.op = .binOp op t x y t') (hx : a.eval x = .int kd m) (hy : a.eval y = .int kd n)
    (h : aint k op kd m n = some r) : OpOK P o a C B L hp k r := by
  cases op <;> simp only [aint] at h <;> first
    | cases h
    | exact OpOK.pure hH (by simp [execOp, ho, hx, hy, eqGuard, binOp, Op.intArith, Op.intBits, Op.intCmp]; rfl) h (by unfold Rep; simp)

theorem run_equalIn_nil {t el : TypeId} (h : P.underlying t = some (.slice el)) (a : Option Addr) (n c : Nat) (w : World) (d : Nat) : (Op.equalIn (d + 1) t (.slice a n c) (.slice none 0 0)).run P w = .ok a.isNone w := by
  cases a <;> simp [Op.equalIn, run_underlying h]
theorem run_equal_nil {t el : TypeId} (h : P.underlying t = some (.slice el)) (a : Option Addr) (n c : Nat) (w : World) : (Op.equal t (.slice a n c) (.slice none 0 0)).run P w = .ok a.isNone w :=
  run_equalIn_nil h a n c w 9999

theorem anil_ok (hH : Heap C B L hp) {op : BinOp} {t t' el : TypeId} {x y : Operand} {v : AV} {eq : Bool} (ho : o.op = .binOp op t x y t') (he : op = (if eq then .eql else .neq)) (hu : Rep C v (a.eval x)) (hv : a.eval y = .slice none 0 0)
    (ht : P.underlying t = some (.slice el)) (h : anil k eq v = some r) : OpOK P o a C B L hp k r := by
  have run : ∀ q n c, a.eval x = .slice q n c → ∀ w, (execOp a.eval o).run P w = .ok (.value (.bool (q.isNone == eq))) w := by
    intro q n c hq w
    subst he
    cases eq <;> simp [execOp, ho, hq, hv, eqGuard, binOp, run_equal_nil ht]
  unfold anil at h
  split at h
  · rename_i e ys
    unfold Rep at hu
    obtain ⟨q, c, hq, hc, hd⟩ := hu
    simp at hq
    rcases sat_br h with ⟨hn, h⟩ | ⟨hn, h⟩
    · have hn := of_decide_eq_true hn
      rcases hd with hd | ⟨b, off, css, rfl, -⟩
      · rw [hd] at hn; simp at hn
      · refine OpOK.pure hH (run _ _ _ hq _) h ?_
        unfold Rep
        cases eq <;> rfl
    · exact OpOK.pure hH (run _ _ _ hq _) h (by unfold Rep; exact ⟨_, rfl⟩)
  · unfold Rep at hu
    refine OpOK.pure hH (run _ _ _ hu _) h ?_
    unfold Rep
    cases eq <;> rfl
  · unfold Rep at hu
    refine OpOK.pure hH (run _ _ _ hu _) h ?_
    unfold Rep
    cases eq <;> rfl
  · cases h

theorem abin_ok (hT : TyOk P E) (hH : Heap C B L hp) {op : BinOp} {t t' : TypeId} {x y : Operand} {u v : AV} (ho : o.op = .binOp op t x y t') (hu : Rep C u (a.eval x)) (hv : Rep C v (a.eval y))
    (h : abin E k op t u v = some r) : OpOK P o a C B L hp k r := by
  unfold abin at h
  split at h
  · unfold Rep at hv
    split at h
    · rename_i ht
      exact anil_ok hH ho rfl hu hv (hT.row ht).slc h
    · rename_i ht
      exact anil_ok hH ho rfl hu hv (hT.row ht).slc h
    · cases h
  · rename_i kd m kd' n
    unfold Rep at hu hv
    split at h
    · rcases sat_br h with ⟨_, h⟩ | ⟨hn, h⟩
      · cases h
      · have hn : ¬ n < 0 := of_decide_eq_false hn
        exact OpOK.pure hH (by simp [execOp, ho, hu, hv, eqGuard, binOp, Op.shift, hn]; rfl) h (by unfold Rep; rfl)
    · rcases sat_br h with ⟨_, h⟩ | ⟨hn, h⟩
      · cases h
      · have hn : ¬ n < 0 := of_decide_eq_false hn
        exact OpOK.pure hH (by simp [execOp, ho, hu, hv, eqGuard, binOp, Op.shift, hn]; rfl) h (by unfold Rep; rfl)
    · split at h
      · rename_i he; subst he
        exact aint_ok hH ho hu hv h
      · cases h
  · rename_i p q
    unfold Rep at hu hv
    split at h
    · rename_i ht
      have hR := (hT.row ht).bool
      split at h
      · refine OpOK.pure hH ?_ h (by unfold Rep; rfl)
        simp [execOp, ho, hu, hv, eqGuard, binOp, run_equal_bool hR]
      · refine OpOK.pure hH ?_ h (by unfold Rep; rfl)
        simp [execOp, ho, hu, hv, eqGuard, binOp, run_equal_bool hR]
      · cases h
    · cases h
  · rename_i p q
    unfold Rep at hu hv
    split at h
    · exact OpOK.pure hH (by simp [execOp, ho, hu, hv, eqGuard, binOp, Op.stringOp]; rfl) h (by unfold Rep; rfl)
    · exact OpOK.pure hH (by simp [execOp, ho, hu, hv, eqGuard, binOp, Op.stringOp]; rfl) h (by unfold Rep; rfl)
    · rcases sat_br h with ⟨hn, h⟩ | ⟨hn, h⟩
      · have hn := of_decide_eq_true hn
        refine OpOK.pure hH ?_ h (by unfold Rep; rfl)
        simp [execOp, ho, hu, hv, eqGuard, binOp, Op.stringOp, IntKind.max, IntKind.signed, IntKind.bits]
        omega
      · cases h
    · cases h
  · cases h

theorem fieldAt_run {t : TypeId} {fs : List FI} {s b : Nat} {z : List AV} (hR : TyRow P t ⟨.strct fs, s, b, z⟩) {f : Nat} {fi : FI} (hf : fs[f]? = some fi) (hz : fi.sz ≠ 0) (w : World) (g off : Nat) :
    (Instr.fieldAt t (.pointer (some ⟨g, off, none⟩)) f).run P w = .ok (.pointer (some ⟨g, off + fi.off, none⟩)) w := by
  obtain ⟨fields, hu, hB⟩ := hR.strct
  obtain ⟨fd, j, h1, h2, h3, h4, h5, h6⟩ := fiB_get _ _ hB f fi hf
  have h1' : fields[f]? = some fd := by simpa using h1
  simp [Instr.fieldAt, run_underlying hu, h1', Instr.sureAddr, fieldPlace, sizeOf, typeInfo, h3, h4, hz, Addr.add', h2]

theorem part_run {fields : Array Field} {fs : List FI} (hB : fiB P fields.toList fs = true) {f : Nat} {fi : FI} (hf : fs[f]? = some fi) :
    ∃ fd, fields[f]? = some fd ∧ fd.offset = fi.off ∧ ∀ (w : World) (cs : Array Value),
      (fi.agg = true → (part fd.type cs fi.off).run P w = .ok (.agg (cs.extract fi.off (fi.off + fi.sz))) w) ∧
      (fi.agg = false → ∀ v, cs[fi.off]? = some v → (part fd.type cs fi.off).run P w = .ok v w) := by
  obtain ⟨fd, j, h1, h2, h3, h4, h5, h6⟩ := fiB_get _ _ hB f fi hf
  obtain ⟨d, hd⟩ := Option.isSome_iff_exists.1 h6
  have hag : ∀ w, (isAgg fd.type).run P w = .ok fi.agg w := by
    intro w
    unfold isAgg
    rw [Sem.run_bind, run_underlying hd w]
    unfold aggB at h5
    rw [hd] at h5
    cases d <;> simp_all
  refine ⟨fd, by simpa using h1, h2, fun w cs => ⟨fun ha => ?_, fun ha v hv => ?_⟩⟩
  · simp [part, hag, ha, sizeOf, typeInfo, h3, h4]
  · simp [part, hag, ha, hv]

theorem index_run {t el : TypeId} {e : ET} {s b : Nat} {z : List AV} (hR : TyRow P t ⟨.slc el e, s, b, z⟩) {ti : TI} (hE : TyRow P el ti) {w : World} {g off n c : Nat} {kd : IntKind} {i : Int} (h0 : 0 ≤ i) (h1 : i < n) :
    (Instr.indexAt t (.slice (some ⟨g, off, none⟩) n c) (.int kd i)).run P w = .ok (.pointer (some ⟨g, off + i.toNat * ti.size, none⟩)) w := by
  simp [Instr.indexAt, asIntOf, run_underlying hR.slc, run_size' hE, h0, h1, Addr.add']

theorem rep_list : ∀ (xs : List Operand) (ρ : Operand → AV), (∀ x, Rep C (ρ x) (a.eval x)) → RepL C (xs.map ρ) (xs.map a.eval)
  | [], _, _ => RepL_nil
  | x :: xs, ρ, h => RepL_cons (h x) (rep_list xs ρ h)

end
end Go.Sym
