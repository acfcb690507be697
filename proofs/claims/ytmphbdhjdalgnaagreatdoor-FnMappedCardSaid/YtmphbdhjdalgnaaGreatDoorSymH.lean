/- The symbolic machine and the model: operations that only compute. -/
import Derived.Test.YtmphbdhjdalgnaaGreatDoorSymG
import Derived.Laws.Slices
import Derived.Laws.Strings2
import Derived.Laws.StructEq
namespace Go.Sym
set_option linter.unusedVariables false
set_option linter.unusedSimpArgs false
set_option linter.unusedSectionVars false
variable [Globs] [Dm]

section
variable {R : Type} {P : Program} {E : Env} {C : Ctx} {B : Nat} {L : Fr} {hp : Nat → Option Ob} {k : AV → Sets → Option R} {r : R} {o : Oper} {a : Act}

theorem TyRow.bool {P : Program} {t : TypeId} {a b : Nat} {z : List AV} (h : TyRow P t ⟨.bool, a, b, z⟩) : P.underlying t = some .bool := by
  have := h.td
  simp only [tdB] at this
  split at this <;> simp_all

theorem TyRow.str {P : Program} {t : TypeId} {a b : Nat} {z : List AV} (h : TyRow P t ⟨.str, a, b, z⟩) : P.underlying t = some .string := by
  have := h.td
  simp only [tdB] at this
  split at this <;> simp_all

theorem run_equalIn_bool {t : TypeId} (h : P.underlying t = some .bool) (p q : Bool) (w : World) (d : Nat) : (Op.equalIn (d + 1) t (.bool p) (.bool q)).run P w = .ok (p == q) w := by
  simp [Op.equalIn, run_underlying h]

theorem run_equal_bool {t : TypeId} (h : P.underlying t = some .bool) (p q : Bool) (w : World) : (Op.equal t (.bool p) (.bool q)).run P w = .ok (p == q) w :=
  run_equalIn_bool h p q w 9999

theorem aint_ok (hH : Heap C B L hp) {op : BinOp} {kd : IntKind} {m n : Int} {t t' : TypeId} {x y : Operand} (ho : o.op = .binOp op t x y t') (hx : a.eval x = .int kd m) (hy : a.eval y = .int kd n)
    (h : aint k op kd m n = some r) : OpOK P o a C B L hp k r := by
  cases op <;> simp only [aint] at h <;> first
    | cases h
    | exact OpOK.pure hH (by simp [execOp, ho, hx, hy, eqGuard, binOp, Op.intArith, Op.intBits, Op.intCmp]; rfl) h (by unfold Rep; simp)
    | (rcases sat_br h with ⟨_, h⟩ | ⟨hn, h⟩
       · cases h
       · have hn : ¬ n = 0 := of_decide_eq_false hn
         exact OpOK.pure hH (by simp [execOp, ho, hx, hy, eqGuard, binOp, Op.intDiv, hn]; rfl) h (by unfold Rep; rfl))

theorem run_equalIn_nil {t el : TypeId} (h : P.underlying t = some (.slice el)) (a : Option Addr) (n c : Nat) (w : World) (d : Nat) : (Op.equalIn (d + 1) t (.slice a n c) (.slice none 0 0)).run P w = .ok a.isNone w := by
  cases a <;> simp [Op.equalIn, run_underlying h]
theorem run_equal_nil {t el : TypeId} (h : P.underlying t = some (.slice el)) (a : Option Addr) (n c : Nat) (w : World) : (Op.equal t (.slice a n c) (.slice none 0 0)).run P w = .ok a.isNone w :=
  run_equalIn_nil h a n c w 9999

theorem anil_ok (hH : Heap C B L hp) {op : BinOp} {t t' el : TypeId} {x y : Operand} {v : AV} {eq : Bool} (ho : o.op = .binOp op t x y t') (he : op = (if eq then .eql else .neq)) (hu : Rep C v (a.eval x)) (hv : a.eval y = .slice none 0 0)
    (ht : P.underlying t = some (.slice el)) (h : anil k eq v = some r) : OpOK P o a C B L hp k r := by
  have run : ∀ q n c, a.eval x = .slice q n c → ∀ w, (execOp a.eval o).run P w = .ok (.value (.bool (q.isNone == eq))) w := by
    intro q n c hq w
    subst he
    cases eq <;> simp [execOp, ho, hq, hv, eqGuard, binOp, run_equal_nil ht]
  unfold anil at h
  split at h
  · rename_i e ys
    unfold Rep at hu
    obtain ⟨q, c, hq, hc, hd⟩ := hu
    simp at hq
    rcases sat_br h with ⟨hn, h⟩ | ⟨hn, h⟩
    · have hn := of_decide_eq_true hn
      rcases hd with hd | ⟨b, off, css, rfl, -⟩
      · rw [hd] at hn; simp at hn
      · refine OpOK.pure hH (run _ _ _ hq _) h ?_
        unfold Rep
        cases eq <;> rfl
    · exact OpOK.pure hH (run _ _ _ hq _) h (by unfold Rep; exact ⟨_, rfl⟩)
  · unfold Rep at hu
    refine OpOK.pure hH (run _ _ _ hu _) h ?_
    unfold Rep
    cases eq <;> rfl
  · unfold Rep at hu
    refine OpOK.pure hH (run _ _ _ hu _) h ?_
    unfold Rep
    cases eq <;> rfl
  · cases h

theorem i64B_ok {P : Program} {t : TypeId} (h : i64B P t = true) : P.underlying t = some (.int .i64) := by
  unfold i64B at h
  split at h
  · assumption
  · cases h
theorem part_i64 {P : Program} {t : TypeId} (h : i64B P t = true) {cs : Array Value} {off : Nat} {v : Value} (hv : cs[off]? = some v) (w : World) : (part t cs off).run P w = .ok v w := by
  have hd := i64B_ok h
  have hag : (isAgg t).run P w = .ok false w := by
    unfold isAgg
    rw [Sem.run_bind, run_underlying hd w]
    rfl
  simp [part, hag, hv]
theorem eq_i64 {P : Program} {t : TypeId} (h : i64B P t = true) (a b : Int) (d : Nat) (w : World) : (Op.equalIn (d + 1) t (.int .i64 a) (.int .i64 b)).run P w = .ok (a == b) w := by
  simp [Op.equalIn, run_underlying (i64B_ok h)]
theorem part_bool {P : Program} {t : TypeId} (h : boolB P t = true) {cs : Array Value} {off : Nat} {v : Value} (hv : cs[off]? = some v) (w : World) : (part t cs off).run P w = .ok v w ∧ P.underlying t = some .bool := by
  have hd : P.underlying t = some .bool := by
    unfold boolB at h
    split at h
    · assumption
    · cases h
  have hag : (isAgg t).run P w = .ok false w := by
    unfold isAgg
    rw [Sem.run_bind, run_underlying hd w]
    rfl
  exact ⟨by simp [part, hag, hv], hd⟩
theorem pair_runIn {P : Program} {t : TypeId} (h : cmpB P t = true) (w : World) (d0 : Nat) (a b c d : Int) : (Op.equalIn (d0 + 2) t (.agg #[.int .i64 a, .int .i64 b]) (.agg #[.int .i64 c, .int .i64 d])).run P w = .ok (a == c && b == d) w := by
  unfold cmpB at h
  split at h
  · rename_i fields hu
    split at h
    · rename_i f g hl
      simp only [Bool.and_eq_true, bne_iff_ne, beq_iff_eq, Bool.not_eq_true'] at h
      obtain ⟨⟨⟨⟨⟨n1, n2⟩, o1, o2⟩, k1, k2⟩, hs⟩, hg⟩ := h
      have hf : P.fieldsOf t = fields := by simp [Program.fieldsOf, hu]
      show (Op.equalIn ((d0 + 1) + 1) t _ _).run P w = _
      rw [run_equalIn_struct w (d0 + 1) t _ _ (by rw [hf]; exact hu) hs, hf, hl]
      simp only [Op.eqFields, n1, n2, ne_eq, not_false_eq_true, if_true, Sem.run_bind, o1, o2]
      rw [part_i64 k1 (v := .int .i64 a) rfl]
      simp only [Result.andThen_ok]
      rw [part_i64 k1 (v := .int .i64 c) rfl]
      simp only [Result.andThen_ok]
      rw [eq_i64 k1 a c d0 w]
      simp only [Result.andThen_ok]
      cases hac : (a == c)
      · simp
      · simp only [Bool.not_true, Bool.false_eq_true, if_false, Sem.run_bind]
        rw [part_i64 k2 (v := .int .i64 b) rfl]
        simp only [Result.andThen_ok]
        rw [part_i64 k2 (v := .int .i64 d) rfl]
        simp only [Result.andThen_ok]
        rw [eq_i64 k2 b d d0 w]
        simp only [Result.andThen_ok]
        cases hbd : (b == d) <;> simp
    · cases h
  · cases h
theorem cmpB_agg {P : Program} {t : TypeId} (h : cmpB P t = true) (w : World) : (isAgg t).run P w = .ok true w ∧ P.eqGuardType P.depth t = false := by
  unfold cmpB at h
  split at h
  · rename_i fields hu
    split at h
    · simp only [Bool.and_eq_true, Bool.not_eq_true'] at h
      refine ⟨?_, h.2⟩
      unfold isAgg
      rw [Sem.run_bind, run_underlying hu w]
      rfl
    · cases h
  · cases h
theorem pair_run {P : Program} {t : TypeId} (h : cmpB P t = true) (w : World) (a b c d : Int) : (Op.equal t (.agg #[.int .i64 a, .int .i64 b]) (.agg #[.int .i64 c, .int .i64 d])).run P w = .ok (a == c && b == d) w ∧ P.eqGuardType P.depth t = false :=
  ⟨pair_runIn h w 9998 a b c d, (cmpB_agg h w).2⟩
theorem quad_run {P : Program} {t : TypeId} (h : quadB P t = true) (w : World) (a b c d e f : Int) (p q : Bool) : (Op.equal t (.agg #[.int .i64 a, .int .i64 b, .bool p, .int .i64 e]) (.agg #[.int .i64 c, .int .i64 d, .bool q, .int .i64 f])).run P w = .ok ((a == c && b == d) && (p == q && e == f)) w ∧ P.eqGuardType P.depth t = false := by
  unfold quadB at h
  split at h
  · rename_i fields hu
    split at h
    · rename_i f1 f2 f3 hl
      simp only [Bool.and_eq_true, bne_iff_ne, beq_iff_eq, Bool.not_eq_true'] at h
      obtain ⟨⟨⟨⟨⟨⟨n1, n2⟩, n3⟩, ⟨o1, o2⟩, o3⟩, ⟨k1, kz⟩, k2, k3⟩, hs⟩, hg⟩ := h
      refine ⟨?_, hg⟩
      have hf : P.fieldsOf t = fields := by simp [Program.fieldsOf, hu]
      have hpart : ∀ (x y : Int) (z u : Value), (part f1.type #[.int .i64 x, .int .i64 y, z, u] 0).run P w = .ok (.agg #[.int .i64 x, .int .i64 y]) w := by
        intro x y z u
        split at kz
        · rename_i i hi
          have hz : i.size = 2 := eq_of_beq kz
          simp [part, (cmpB_agg k1 w).1, sizeOf, typeInfo, hi, hz]
        · cases kz
      show (Op.equalIn (9999 + 1) t _ _).run P w = _
      rw [run_equalIn_struct w 9999 t _ _ (by rw [hf]; exact hu) hs, hf, hl]
      simp only [Op.eqFields, n1, n2, n3, ne_eq, not_false_eq_true, if_true, Sem.run_bind, o1, o2, o3]
      rw [hpart]
      simp only [Result.andThen_ok]
      rw [hpart]
      simp only [Result.andThen_ok]
      rw [pair_runIn k1 w 9997 a b c d]
      simp only [Result.andThen_ok]
      cases hac : (a == c && b == d)
      · simp
      · simp only [Bool.not_true, Bool.false_eq_true, if_false, Sem.run_bind, Bool.true_and]
        rw [(part_bool k2 (v := .bool p) rfl w).1]
        simp only [Result.andThen_ok]
        rw [(part_bool k2 (v := .bool q) rfl w).1]
        simp only [Result.andThen_ok]
        rw [run_equalIn_bool (part_bool k2 (cs := #[.bool p]) (off := 0) (v := .bool p) rfl w).2 p q w 9998]
        simp only [Result.andThen_ok]
        cases hpq : (p == q)
        · simp
        · simp only [Bool.not_true, Bool.false_eq_true, if_false, Sem.run_bind, Bool.true_and]
          rw [part_i64 k3 (v := .int .i64 e) rfl]
          simp only [Result.andThen_ok]
          rw [part_i64 k3 (v := .int .i64 f) rfl]
          simp only [Result.andThen_ok]
          rw [eq_i64 k3 e f 9998 w]
          simp only [Result.andThen_ok]
          cases hef : (e == f) <;> simp
    · cases h
  · cases h

theorem apair_ok (hT : TyOk P E) (hH : Heap C B L hp) {op : BinOp} {t t' : TypeId} {x y : Operand} {us vs : List AV} (ho : o.op = .binOp op t x y t') (hu : Rep C (.agg us) (a.eval x)) (hv : Rep C (.agg vs) (a.eval y))
    (h : apair E k op t us vs = some r) : OpOK P o a C B L hp k r := by
  unfold apair at h
  split at h
  · rename_i a1 b1 c1 d1
    split at h
    · rename_i ti ht
      split at h
      · rename_i hp'
        have hc : cmpB P t = true := by
          have := (Bool.and_eq_true_iff.1 (hT.row ht).pair).1
          rw [hp'] at this
          simpa using this
        unfold Rep at hu hv
        obtain ⟨us, hu, hul⟩ := hu
        obtain ⟨vs, hv, hvl⟩ := hv
        unfold RepL at hul hvl
        obtain ⟨u1, ur, e1, f1, hul⟩ := hul
        obtain ⟨v1, vr, e2, f2, hvl⟩ := hvl
        unfold RepL at hul hvl
        obtain ⟨u2, ur2, rfl, f3, hul⟩ := hul
        obtain ⟨v2, vr2, rfl, f4, hvl⟩ := hvl
        unfold RepL at hul hvl
        unfold Rep at f1 f2 f3 f4
        subst f1 f2 f3 f4 hul hvl
        have e1 : us = #[.int .i64 a1, .int .i64 b1] := Array.toList_inj.1 e1
        have e2 : vs = #[.int .i64 c1, .int .i64 d1] := Array.toList_inj.1 e2
        subst e1 e2
        split at h
        · refine OpOK.pure hH ?_ h (by unfold Rep; rfl)
          obtain ⟨q1, q2⟩ := pair_run hc C.w a1 b1 c1 d1
          simp [execOp, ho, hu, hv, eqGuard, binOp, q1, q2]
        · refine OpOK.pure hH ?_ h (by unfold Rep; rfl)
          obtain ⟨q1, q2⟩ := pair_run hc C.w a1 b1 c1 d1
          simp [execOp, ho, hu, hv, eqGuard, binOp, q1, q2]
        · cases h
      · cases h
    · cases h
  · rename_i a1 b1 p1 e1' c1 d1 q1 f1'
    split at h
    · rename_i ti ht
      split at h
      · rename_i hp'
        have hc : quadB P t = true := by
          have := (Bool.and_eq_true_iff.1 (hT.row ht).pair).2
          rw [hp'] at this
          simpa using this
        unfold Rep at hu hv
        obtain ⟨us, hu, hul⟩ := hu
        obtain ⟨vs, hv, hvl⟩ := hv
        unfold RepL at hul hvl
        obtain ⟨u1, ur, e1, g1, hul⟩ := hul
        obtain ⟨v1, vr, e2, g2, hvl⟩ := hvl
        unfold RepL at hul hvl
        obtain ⟨u2, ur2, rfl, g3, hul⟩ := hul
        obtain ⟨v2, vr2, rfl, g4, hvl⟩ := hvl
        unfold RepL at hul hvl
        obtain ⟨u3, ur3, rfl, g5, hul⟩ := hul
        obtain ⟨v3, vr3, rfl, g6, hvl⟩ := hvl
        unfold RepL at hul hvl
        obtain ⟨u4, ur4, rfl, g7, hul⟩ := hul
        obtain ⟨v4, vr4, rfl, g8, hvl⟩ := hvl
        unfold RepL at hul hvl
        unfold Rep at g1 g2 g3 g4 g5 g6 g7 g8
        subst g1 g2 g3 g4 g5 g6 g7 g8 hul hvl
        have e1 : us = #[.int .i64 a1, .int .i64 b1, .bool p1, .int .i64 e1'] := Array.toList_inj.1 e1
        have e2 : vs = #[.int .i64 c1, .int .i64 d1, .bool q1, .int .i64 f1'] := Array.toList_inj.1 e2
        subst e1 e2
        split at h
        · refine OpOK.pure hH ?_ h (by unfold Rep; rfl)
          obtain ⟨r1, r2⟩ := quad_run hc C.w a1 b1 c1 d1 e1' f1' p1 q1
          simp [execOp, ho, hu, hv, eqGuard, binOp, r1, r2]
        · refine OpOK.pure hH ?_ h (by unfold Rep; rfl)
          obtain ⟨r1, r2⟩ := quad_run hc C.w a1 b1 c1 d1 e1' f1' p1 q1
          simp [execOp, ho, hu, hv, eqGuard, binOp, r1, r2]
        · cases h
      · cases h
    · cases h
  · cases h

theorem abin_ok (hT : TyOk P E) (hH : Heap C B L hp) {op : BinOp} {t t' : TypeId} {x y : Operand} {u v : AV} (ho : o.op = .binOp op t x y t') (hu : Rep C u (a.eval x)) (hv : Rep C v (a.eval y))
    (h : abin E k op t u v = some r) : OpOK P o a C B L hp k r := by
  unfold abin at h
  split at h
  · unfold Rep at hv
    split at h
    · rename_i ht
      exact anil_ok hH ho rfl hu hv (hT.row ht).slc h
    · rename_i ht
      exact anil_ok hH ho rfl hu hv (hT.row ht).slc h
    · cases h
  · rename_i kd m kd' n
    unfold Rep at hu hv
    split at h
    · rcases sat_br h with ⟨_, h⟩ | ⟨hn, h⟩
      · cases h
      · have hn : ¬ n < 0 := of_decide_eq_false hn
        exact OpOK.pure hH (by simp [execOp, ho, hu, hv, eqGuard, binOp, Op.shift, hn]; rfl) h (by unfold Rep; rfl)
    · rcases sat_br h with ⟨_, h⟩ | ⟨hn, h⟩
      · cases h
      · have hn : ¬ n < 0 := of_decide_eq_false hn
        exact OpOK.pure hH (by simp [execOp, ho, hu, hv, eqGuard, binOp, Op.shift, hn]; rfl) h (by unfold Rep; rfl)
    · split at h
      · rename_i he; subst he
        exact aint_ok hH ho hu hv h
      · cases h
  · rename_i p q
    unfold Rep at hu hv
    split at h
    · rename_i ht
      have hR := (hT.row ht).bool
      split at h
      · refine OpOK.pure hH ?_ h (by unfold Rep; rfl)
        simp [execOp, ho, hu, hv, eqGuard, binOp, run_equal_bool hR]
      · refine OpOK.pure hH ?_ h (by unfold Rep; rfl)
        simp [execOp, ho, hu, hv, eqGuard, binOp, run_equal_bool hR]
      · cases h
    · cases h
  · rename_i p q
    unfold Rep at hu hv
    split at h
    · exact OpOK.pure hH (by simp [execOp, ho, hu, hv, eqGuard, binOp, Op.stringOp]; rfl) h (by unfold Rep; rfl)
    · exact OpOK.pure hH (by simp [execOp, ho, hu, hv, eqGuard, binOp, Op.stringOp]; rfl) h (by unfold Rep; rfl)
    · rcases sat_br h with ⟨hn, h⟩ | ⟨hn, h⟩
      · have hn := of_decide_eq_true hn
        refine OpOK.pure hH ?_ h (by unfold Rep; rfl)
        simp [execOp, ho, hu, hv, eqGuard, binOp, Op.stringOp, IntKind.max, IntKind.signed, IntKind.bits]
        omega
      · cases h
    · cases h
  · exact apair_ok hT hH ho hu hv h
  · cases h

theorem TyRow.ifc {P : Program} {t : TypeId} {s b : Nat} {z : List AV} (h : TyRow P t ⟨.ifc, s, b, z⟩) : ∃ ms, P.underlying t = some (.interface ms) := by
  have := h.td
  simp only [tdB] at this
  split at this <;> simp_all
theorem run_equalIn_ifc0 {t : TypeId} {ms} (h : P.underlying t = some (.interface ms)) (w : World) (d : Nat) : (Op.equalIn (d + 1) t .nilIface .nilIface).run P w = .ok true w := by
  simp [Op.equalIn, run_underlying h]
theorem run_equal_ifc0 {t : TypeId} {ms} (h : P.underlying t = some (.interface ms)) (w : World) : (Op.equal t .nilIface .nilIface).run P w = .ok true w := run_equalIn_ifc0 h w 9999
theorem run_equalIn_ifn {t : TypeId} {ms} (h : P.underlying t = some (.interface ms)) (a b) (w : World) (d : Nat) : (Op.equalIn (d + 1) t (.iface a b) .nilIface).run P w = .ok false w := by
  simp [Op.equalIn, run_underlying h]
theorem run_equal_ifn {t : TypeId} {ms} (h : P.underlying t = some (.interface ms)) (a b) (w : World) : (Op.equal t (.iface a b) .nilIface).run P w = .ok false w := run_equalIn_ifn h a b w 9999
theorem aifc_ok (hT : TyOk P E) (hH : Heap C B L hp) {op : BinOp} {t t' : TypeId} {x : Operand} {u : AV} (ho : o.op = .binOp op t x (.const .nilIface) t') (hu : Rep C u (a.eval x))
    (h : aifc E k op t u = some r) : OpOK P o a C B L hp k r := by
  have he : a.eval (.const .nilIface) = .nilIface := rfl
  unfold aifc at h
  split at h
  · rename_i ht
    obtain ⟨ms, hI⟩ := (hT.row ht).ifc
    split at h
    · unfold Rep at hu
      exact OpOK.pure hH (by simp [execOp, ho, hu, he, eqGuard, binOp, run_equal_ifc0 hI]; rfl) h (by unfold Rep; rfl)
    · unfold Rep at hu
      exact OpOK.pure hH (by simp [execOp, ho, hu, he, eqGuard, binOp, run_equal_ifc0 hI]; rfl) h (by unfold Rep; rfl)
    · unfold Rep at hu
      obtain ⟨d, v, hu⟩ := hu
      exact OpOK.pure hH (by simp [execOp, ho, hu, he, eqGuard, binOp, run_equal_ifn hI]; rfl) h (by unfold Rep; rfl)
    · unfold Rep at hu
      obtain ⟨d, v, hu⟩ := hu
      exact OpOK.pure hH (by simp [execOp, ho, hu, he, eqGuard, binOp, run_equal_ifn hI]; rfl) h (by unfold Rep; rfl)
    · cases h
  · cases h

theorem fieldAt_run {t : TypeId} {fs : List FI} {s b : Nat} {z : List AV} (hR : TyRow P t ⟨.strct fs, s, b, z⟩) {f : Nat} {fi : FI} (hf : fs[f]? = some fi) (hz : fi.sz ≠ 0) (w : World) (g off : Nat) :
    (Instr.fieldAt t (.pointer (some ⟨g, off, none⟩)) f).run P w = .ok (.pointer (some ⟨g, off + fi.off, none⟩)) w := by
  obtain ⟨fields, hu, hB⟩ := hR.strct
  obtain ⟨fd, j, h1, h2, h3, h4, h5, h6⟩ := fiB_get _ _ hB f fi hf
  have h1' : fields[f]? = some fd := by simpa using h1
  simp [Instr.fieldAt, run_underlying hu, h1', Instr.sureAddr, fieldPlace, sizeOf, typeInfo, h3, h4, hz, Addr.add', h2]

theorem part_run {fields : Array Field} {fs : List FI} (hB : fiB P fields.toList fs = true) {f : Nat} {fi : FI} (hf : fs[f]? = some fi) :
    ∃ fd, fields[f]? = some fd ∧ fd.offset = fi.off ∧ ∀ (w : World) (cs : Array Value),
      (fi.agg = true → (part fd.type cs fi.off).run P w = .ok (.agg (cs.extract fi.off (fi.off + fi.sz))) w) ∧
      (fi.agg = false → ∀ v, cs[fi.off]? = some v → (part fd.type cs fi.off).run P w = .ok v w) := by
  obtain ⟨fd, j, h1, h2, h3, h4, h5, h6⟩ := fiB_get _ _ hB f fi hf
  obtain ⟨d, hd⟩ := Option.isSome_iff_exists.1 h6
  have hag : ∀ w, (isAgg fd.type).run P w = .ok fi.agg w := by
    intro w
    unfold isAgg
    rw [Sem.run_bind, run_underlying hd w]
    unfold aggB at h5
    rw [hd] at h5
    cases d <;> simp_all
  refine ⟨fd, by simpa using h1, h2, fun w cs => ⟨fun ha => ?_, fun ha v hv => ?_⟩⟩
  · simp [part, hag, ha, sizeOf, typeInfo, h3, h4]
  · simp [part, hag, ha, hv]

theorem index_run {t el : TypeId} {e : ET} {s b : Nat} {z : List AV} (hR : TyRow P t ⟨.slc el e, s, b, z⟩) {ti : TI} (hE : TyRow P el ti) {w : World} {g off n c : Nat} {kd : IntKind} {i : Int} (h0 : 0 ≤ i) (h1 : i < n) :
    (Instr.indexAt t (.slice (some ⟨g, off, none⟩) n c) (.int kd i)).run P w = .ok (.pointer (some ⟨g, off + i.toNat * ti.size, none⟩)) w := by
  simp [Instr.indexAt, asIntOf, run_underlying hR.slc, run_size' hE, h0, h1, Addr.add']

theorem All2_take {α β : Type} {R : α → β → Prop} : ∀ (l : List α) (m : List β) (i : Nat), All2 R l m → All2 R (l.take i) (m.take i)
  | _, _, 0, _ => by simp [All2]
  | [], [], i + 1, _ => trivial
  | _ :: as, _ :: bs, i + 1, ⟨h1, h2⟩ => ⟨h1, All2_take as bs i h2⟩
  | [], _ :: _, _ + 1, h => h.elim
  | _ :: _, [], _ + 1, h => h.elim
theorem All2_drop {α β : Type} {R : α → β → Prop} : ∀ (l : List α) (m : List β) (i : Nat), All2 R l m → All2 R (l.drop i) (m.drop i)
  | _, _, 0, h => h
  | [], [], i + 1, _ => trivial
  | _ :: as, _ :: bs, i + 1, ⟨h1, h2⟩ => All2_drop as bs i h2
  | [], _ :: _, _ + 1, h => h.elim
  | _ :: _, [], _ + 1, h => h.elim
theorem flatten_dropn {s : Nat} : ∀ (css : List (List Value)) (i : Nat), (∀ c ∈ css, c.length = s) → i ≤ css.length → (css.drop i).flatten = css.flatten.drop (i * s)
  | css, 0, _, _ => by simp
  | [], i + 1, _, h => by simp at h
  | c :: css, i + 1, h, hi => by
    have hc := h c (by simp)
    rw [List.drop_succ_cons, flatten_dropn css i (fun c hc => h c (by simp [hc])) (by simpa using hi), List.flatten_cons, Nat.add_mul, Nat.one_mul, Nat.add_comm (i * s) s, ← hc, List.drop_append, List.drop_of_length_le (l := c) (by omega), List.nil_append, Nat.add_sub_cancel_left]
theorem flatten_taken {s : Nat} : ∀ (css : List (List Value)) (i : Nat), (∀ c ∈ css, c.length = s) → i ≤ css.length → (css.take i).flatten = css.flatten.take (i * s)
  | css, 0, _, _ => by simp
  | [], i + 1, _, h => by simp at h
  | c :: css, i + 1, h, hi => by
    have hc := h c (by simp)
    rw [List.take_succ_cons, List.flatten_cons, flatten_taken css i (fun c hc => h c (by simp [hc])) (by simpa using hi), List.flatten_cons, Nat.add_mul, Nat.one_mul, Nat.add_comm (i * s) s, ← hc, List.take_length_add_append]

/-- A piece of a row. -/
theorem slice_rep {e : ET} {ys : List e.T} {p : Option Addr} {c l h : Nat} (hc : ys.length ≤ c) (hlh : l ≤ h) (hh : h ≤ ys.length)
    (hd : ys = [] ∨ ∃ b o css, p = some ⟨b, o, none⟩ ∧ C.F b ∧ All2 (RepT C.F C.w e) ys css ∧ CellsAt C.w b o css.flatten) {zs : List e.T} (hz : zs = (ys.take h).drop l) :
    Rep C (.lst e zs) (sliced p l h c e.sz) := by
  subst hz
  unfold Rep
  have hlen : ((ys.take h).drop l).length = h - l := by simp; omega
  refine ⟨_, c - l, by rw [hlen]; rfl, by rw [hlen]; omega, ?_⟩
  by_cases he : h = l
  · left
    apply List.eq_nil_of_length_eq_zero
    omega
  rcases hd with rfl | ⟨b, o, css, rfl, hF, hr, hcs⟩
  · left; simp
  right
  have hl2 := All2.length _ _ hr
  have hcl := All2.lens _ _ hr
  refine ⟨b, o + l * e.sz, (css.take h).drop l, ?_, hF, All2_drop _ _ _ (All2_take _ _ _ hr), ?_⟩
  · rw [if_neg (by omega)]
    simp [Addr.add]
  · rw [flatten_dropn _ _ (fun c hc => hcl c (List.mem_of_mem_take hc)) (by simp; omega), flatten_taken _ _ hcl (by omega)]
    intro i v hi
    rw [List.getElem?_drop, List.getElem?_take] at hi
    split at hi
    · have := hcs _ _ hi
      rw [Nat.add_assoc]
      exact this
    · cases hi

theorem aslice_ok (hT : TyOk P E) (hH : Heap C B L hp) {t : TypeId} {x : Operand} {lo hi : Option Operand} {u : AV} {ρ : Operand → AV} (ho : o.op = .slice t x lo hi none) (hu : Rep C u (a.eval x)) (hρ : ∀ y, Rep C (ρ y) (a.eval y))
    (h : aslice E k t u (lo.map ρ) (hi.map ρ) = some r) : OpOK P o a C B L hp k r := by
  unfold aslice at h
  split at h
  · rename_i e ys el _ _ _ _ ht
    have hR := (hT.row ht).slc
    have hel : P.elem t = el := by simp [Program.elem, hR]
    have hR' : P.underlying t = some (.slice (P.elem t)) := by rw [hel]; exact hR
    split at h
    · rename_i ti hti
      have hsz : ∀ w, (sizeOf (P.elem t)).run P w = .ok ti.size w := fun w => by rw [hel]; exact run_size' (hT.row hti) w
      split at h
      · rename_i hse
        unfold Rep at hu
        obtain ⟨p, c, hq, hc, hd⟩ := hu
        simp at hq
        split at h
        · rename_i kd hv hlo hhi
          cases hi with
          | none => cases hhi
          | some hi =>
          cases lo with
          | some lo => cases hlo
          | none =>
          have hy := hρ hi
          rw [Option.map_some, Option.some.injEq] at hhi
          rw [hhi] at hy; unfold Rep at hy
          rcases sat_br h with ⟨hb, h⟩ | ⟨_, h⟩
          · simp only [Bool.and_eq_true, decide_eq_true_eq] at hb
            refine OpOK.pure hH (v' := sliced p 0 hv.toNat c e.sz) ?_ h (slice_rep hc (by omega) (by omega) hd (by simp))
            simp [execOp, ho, hq, hy, run_sliceAt_slice C.w t _ _ _ _ hR', run_slice_h C.w t p ys.length c hR' kd hv hb.1 (by omega), hsz, hse, Result.andThen]
          · cases h
        · rename_i kd lv hlo hhi
          cases hi with
          | some hi => cases hhi
          | none =>
          cases lo with
          | none => cases hlo
          | some lo =>
          have hy := hρ lo
          rw [Option.map_some, Option.some.injEq] at hlo
          rw [hlo] at hy; unfold Rep at hy
          rcases sat_br h with ⟨hb, h⟩ | ⟨_, h⟩
          · simp only [Bool.and_eq_true, decide_eq_true_eq] at hb
            refine OpOK.pure hH (v' := sliced p lv.toNat ys.length c e.sz) ?_ h (slice_rep hc (by omega) (by omega) hd (by simp))
            simp [execOp, ho, hq, hy, run_sliceAt_slice C.w t _ _ _ _ hR', run_slice_l C.w t p ys.length c hR' kd lv hb.1 (by omega), hsz, hse, Result.andThen]
          · cases h
        · rename_i kl lv kh hv hlo hhi
          cases hi with
          | none => cases hhi
          | some hi =>
          cases lo with
          | none => cases hlo
          | some lo =>
          have hy := hρ lo
          have hz := hρ hi
          rw [Option.map_some, Option.some.injEq] at hlo hhi
          rw [hlo] at hy; unfold Rep at hy
          rw [hhi] at hz; unfold Rep at hz
          rcases sat_br h with ⟨hb, h⟩ | ⟨_, h⟩
          · simp only [Bool.and_eq_true, decide_eq_true_eq] at hb
            refine OpOK.pure hH (v' := sliced p lv.toNat hv.toNat c e.sz) ?_ h (slice_rep hc (by omega) (by omega) hd rfl)
            simp [execOp, ho, hq, hy, hz, run_sliceAt_slice C.w t _ _ _ _ hR', run_slice_lh C.w t p ys.length c hR' kl kh lv hv hb.1 (by omega) (by omega), hsz, hse, Result.andThen]
          · cases h
        · cases h
      · cases h
    · cases h
  · rename_i s _ _ _ ht
    have hR := (hT.row ht).str
    unfold Rep at hu
    split at h
    · rename_i kd hv hlo hhi
      cases hi with
      | none => cases hhi
      | some hi =>
      cases lo with
      | some lo => cases hlo
      | none =>
      have hy := hρ hi
      rw [Option.map_some, Option.some.injEq] at hhi
      rw [hhi] at hy; unfold Rep at hy
      rcases sat_br h with ⟨hb, h⟩ | ⟨_, h⟩
      · simp only [Bool.and_eq_true, decide_eq_true_eq] at hb
        refine OpOK.pure hH (v' := .string (s.extract 0 hv.toNat)) ?_ h (by unfold Rep; rfl)
        simp [execOp, ho, hu, hy, run_sliceAt_string C.w t _ _ _ _ hR, run_slice_string_h C.w t s hR kd hv hb.1 (by omega), Result.andThen]
      · cases h
    · rename_i kd lv hlo hhi
      cases hi with
      | some hi => cases hhi
      | none =>
      cases lo with
      | none => cases hlo
      | some lo =>
      have hy := hρ lo
      rw [Option.map_some, Option.some.injEq] at hlo
      rw [hlo] at hy; unfold Rep at hy
      rcases sat_br h with ⟨hb, h⟩ | ⟨_, h⟩
      · simp only [Bool.and_eq_true, decide_eq_true_eq] at hb
        refine OpOK.pure hH (v' := .string (s.extract lv.toNat s.size)) ?_ h (by unfold Rep; rfl)
        simp [execOp, ho, hu, hy, run_sliceAt_string C.w t _ _ _ _ hR, run_slice_string_l C.w t s hR kd lv hb.1 (by omega), Result.andThen]
      · cases h
    · rename_i kl lv kh hv hlo hhi
      cases hi with
      | none => cases hhi
      | some hi =>
      cases lo with
      | none => cases hlo
      | some lo =>
      have hy := hρ lo
      have hz := hρ hi
      rw [Option.map_some, Option.some.injEq] at hlo hhi
      rw [hlo] at hy; unfold Rep at hy
      rw [hhi] at hz; unfold Rep at hz
      rcases sat_br h with ⟨hb, h⟩ | ⟨_, h⟩
      · simp only [Bool.and_eq_true, decide_eq_true_eq] at hb
        refine OpOK.pure hH (v' := .string (s.extract lv.toNat hv.toNat)) ?_ h (by unfold Rep; rfl)
        simp [execOp, ho, hu, hy, hz, run_sliceAt_string C.w t _ _ _ _ hR, run_slice_string C.w t s kl kh lv hv hR hb.1 (by omega) (by omega), Result.andThen]
      · cases h
    · cases h
  · cases h

theorem rep_list : ∀ (xs : List Operand) (ρ : Operand → AV), (∀ x, Rep C (ρ x) (a.eval x)) → RepL C (xs.map ρ) (xs.map a.eval)
  | [], _, _ => RepL_nil
  | x :: xs, ρ, h => RepL_cons (h x) (rep_list xs ρ h)

end
end Go.Sym
