/- The symbolic machine and the model: any operation. -/
import Derived.Test.YtmphbdhjdalgnaaGreatDoorSymLM
import Derived.Laws.BytesString
namespace Go.Sym
set_option linter.unusedVariables false
set_option linter.unusedSimpArgs false
set_option linter.unusedSectionVars false
variable [Globs] [Dm]

section
variable {R : Type} {P : Program} {E : Env} {C : Ctx} {B : Nat} {L : Fr} {hp : Nat → Option Ob} {k : AV → Sets → Option R} {r : R} {o : Oper} {a : Act} {ρ : Operand → AV}

theorem args_rep (E : Env) (hρ : ∀ x, Rep C (ρ x) (a.eval x)) : ∀ (xs : List Operand) (ts : List TypeId), xs.length = ts.length → RepL C ((xs.zip ts).map fun q => typedArg E q.2 (ρ q.1)) (xs.map a.eval)
  | [], _, _ => RepL_nil
  | x :: xs, [], h => by simp at h
  | x :: xs, t :: ts, h => by
    refine RepL_cons ?_ (args_rep E hρ xs ts (by simpa using h))
    have hx := hρ x
    simp only
    generalize ρ x = v at hx
    cases v with
    | nils =>
      unfold Rep at hx
      unfold typedArg
      simp only
      split
      · unfold Rep
        rw [hx]
        exact ⟨none, 0, rfl, Nat.le_refl _, .inl rfl⟩
      · unfold Rep; trivial
    | _ => exact hx

theorem foldl_bytes : ∀ (ys : List Int) (s : List UInt8), (ys.foldl (fun (r : ByteArray) n => r.push (UInt8.ofNat n.toNat)) ⟨s.toArray⟩) = ⟨(s ++ ys.map fun n => UInt8.ofNat n.toNat).toArray⟩
  | [], s => by simp
  | y :: ys, s => by
    rw [List.foldl_cons]
    have : (⟨s.toArray⟩ : ByteArray).push (UInt8.ofNat y.toNat) = ⟨(s ++ [UInt8.ofNat y.toNat]).toArray⟩ := by
      simp [ByteArray.push]
    rw [this, foldl_bytes ys]
    simp

/-- A slice's bytes, made a string. -/
theorem bytes_run {ys : List Int} {x : Value} (h : Src C (.int .u8) ys x) : ∃ q n c, x = .slice q n c ∧ (Conv.bytesToString (.slice q n c)).run P C.w = .ok (.string (intsStr ys)) C.w := by
  have e0 : (ys.foldl (fun (r : ByteArray) n => r.push (UInt8.ofNat n.toNat)) ByteArray.empty) = intsStr ys := foldl_bytes ys []
  rcases h with ⟨rfl, q, c, rfl⟩ | ⟨ad, c, css, rfl, h1, h2⟩
  · refine ⟨q, 0, c, rfl, ?_⟩
    cases q with
    | none => rfl
    | some q =>
      rw [run_bytesToString (P := P) C.w q 0 c [] (by simp [loadCells, loadCellsFrom])]
      rfl
  · refine ⟨some ad, ys.length, c, rfl, ?_⟩
    have hf : css.flatten = ys.map (Value.int .u8) := by
      clear h2 e0
      induction ys generalizing css with
      | nil => cases css with
        | nil => rfl
        | cons _ _ => exact h1.elim
      | cons y ys ih => cases css with
        | nil => exact h1.elim
        | cons d css =>
          obtain ⟨g1, g2⟩ := h1
          have g1 : d = [.int .u8 y] := g1
          rw [List.flatten_cons, g1, ih _ g2]
          rfl
    have hl := run_loadCells_list (P := P) C.w ad css.flatten h2
    rw [hf, List.length_map] at hl
    rw [run_bytesToString (P := P) C.w ad ys.length c ys hl, e0]

/-- The greater, the less. -/
theorem amm_ok (hH : Heap C B L hp) {c : Call} (ho : o.op = .call c) {mx : Bool} (hc : c.callee = .builtin (if mx then .max else .min)) {ρ : Operand → AV} (hρ : ∀ x, Rep C (ρ x) (a.eval x))
    (h : amm k mx (c.args.toList.map ρ) = some r) : OpOK P o a C B L hp k r := by
  unfold amm at h
  split at h
  case h_2 => cases h
  rename_i kd m kd' n hl
  split at h
  case isFalse => cases h
  rename_i hk
  subst hk
  obtain ⟨x, y, ha⟩ : ∃ x y, c.args = #[x, y] := by
    have hlen := congrArg List.length hl
    rw [List.length_map, Array.length_toList] at hlen
    have hlen : c.args.size = 2 := hlen
    refine ⟨c.args[0]'(by omega), c.args[1]'(by omega), ?_⟩
    apply Array.ext
    · exact hlen
    · intro i h1 h2
      have h2 : i < 2 := by simpa using h2
      match i, h2 with
      | 0, _ => rfl
      | 1, _ => rfl
  rw [ha] at hl
  simp only [List.map_cons, List.map_nil, List.cons.injEq, and_true] at hl
  have hx := hρ x
  have hy := hρ y
  rw [hl.1] at hx
  rw [hl.2] at hy
  unfold Rep at hx hy
  refine OpOK.pure hH (v' := .int kd (if mx then max m n else min m n)) ?_ h (by unfold Rep; rfl)
  have e1 : (if m < n then n else m) = max m n := by rw [Int.max_def]; split <;> split <;> omega
  have e2 : (if n < m then n else m) = min m n := by rw [Int.min_def]; split <;> split <;> omega
  cases mx
  · simp [execOp, ho, resolve, hc, ha, invoke, builtin, hx, hy, Builtin.min_, Builtin.min2, e2]
  · simp [execOp, ho, resolve, hc, ha, invoke, builtin, hx, hy, Builtin.max_, Builtin.max2, e1]

theorem alen_ok (hT : TyOk P E) (hH : Heap C B L hp) {c : Call} (ho : o.op = .call c) (hc : c.callee = .builtin .len) {x : Operand} (hx : c.args.toList = [x]) {t : TypeId} {ti : TI} (ht : c.argTypes[0]? = some t) (hti : E.ty t = some ti) {v : AV} (hv : Rep C v (a.eval x))
    (htd : lenFits ti.td v = true)
    (h : alen hp k v = some r) : OpOK P o a C B L hp k r := by
  have ha : c.args = #[x] := by cases hq : c.args; rw [hq] at hx; simp at hx; rw [hx]
  have hR := hT.row hti
  have hrun : ∀ y, (Builtin.len_ c.argTypes o.type #[a.eval x]).run P C.w = .ok y C.w → (execOp a.eval o).run P C.w = .ok (.value y) C.w := by
    intro y hy
    simp only [execOp, ho, resolve, hc, ha, invoke, builtin, Sem.run_bind, Sem.run_pure, Result.andThen_ok, List.map_toArray, List.map_cons, List.map_nil]
    rw [hy]; rfl
  have hstr : ∀ s, ti.td = .str → a.eval x = .string s → (Builtin.len_ c.argTypes o.type #[a.eval x]).run P C.w = .ok (.int .i64 s.size) C.w := by
    intro s htd hs
    have hu : P.underlying t = some .string := by
      have := hR.td
      rw [htd] at this
      simp only [tdB] at this
      split at this <;> simp_all
    simp [Builtin.len_, ht, hs, run_underlying hu, goInt]
  have hslc : ∀ p n cp el e, ti.td = .slc el e → a.eval x = .slice p n cp → (Builtin.len_ c.argTypes o.type #[a.eval x]).run P C.w = .ok (.int .i64 n) C.w := by
    intro p n cp el e htd hs
    have hu : P.underlying t = some (.slice el) := by
      have := hR.td
      rw [htd] at this
      simp only [tdB] at this
      split at this <;> simp_all
    simp [Builtin.len_, ht, hs, run_underlying hu, goInt]
  unfold alen at h
  split at h
  · rename_i s
    unfold Rep at hv
    cases hd : ti.td <;> simp [hd, lenFits] at htd
    exact OpOK.pure hH (hrun _ (hstr s hd hv)) h (by unfold Rep; rfl)
  · rename_i e ys
    unfold Rep at hv
    obtain ⟨p, cp, h1, _⟩ := hv
    simp at h1
    cases hd : ti.td <;> simp [hd, lenFits] at htd
    exact OpOK.pure hH (hrun _ (hslc _ _ _ _ _ hd h1)) h (by unfold Rep; rfl)
  · unfold Rep at hv
    cases hd : ti.td <;> simp [hd, lenFits] at htd
    exact OpOK.pure hH (hrun _ (hslc _ _ _ _ _ hd hv)) h (by unfold Rep; rfl)
  · unfold Rep at hv
    cases hd : ti.td <;> simp [hd, lenFits] at htd
    exact OpOK.pure hH (hrun _ (hslc _ _ _ _ _ hd hv)) h (by unfold Rep; rfl)
  · rename_i id
    split at h
    · rename_i t' e ys hb
      obtain ⟨pv, hρ, hob⟩ := hH.som id _ hb
      unfold Rep at hv
      have hxv := hv.2.2 pv hρ
      cases hd : ti.td <;> simp [hd, lenFits] at htd
      have : ∃ p cp, pv = .slice p ys.length cp := by
        rcases hob with ⟨rfl, a, rfl⟩ | ⟨g, cap, _, _, rfl, _⟩
        · exact ⟨a, 0, rfl⟩
        · exact ⟨_, _, rfl⟩
      obtain ⟨p, cp, rfl⟩ := this
      exact OpOK.pure hH (hrun _ (hslc _ _ _ _ _ hd hxv)) h (by unfold Rep; rfl)
    · rename_i t' el' e yss hl hb
      obtain ⟨pv, hρ, hob⟩ := hH.som id _ hb
      unfold Rep at hv
      have hxv := hv.2.2 pv hρ
      cases hd : ti.td <;> simp [hd, lenFits] at htd
      have : ∃ p cp, pv = .slice p yss.length cp := by
        rcases hob with ⟨rfl, _, a, rfl⟩ | ⟨g, cap, _, _, rfl, _⟩
        · exact ⟨a, 0, rfl⟩
        · exact ⟨_, _, rfl⟩
      obtain ⟨p, cp, rfl⟩ := this
      exact OpOK.pure hH (hrun _ (hslc _ _ _ _ _ hd hxv)) h (by unfold Rep; rfl)
    · cases h
  · cases h

theorem RepL_vals : ∀ (caps : List Operand), (∀ x, Rep C (ρ x) (a.eval x)) → RepL C (caps.map ρ) (caps.map a.eval)
  | [], _ => RepL_nil
  | x :: xs, h => RepL_cons (h x) (RepL_vals xs h)

theorem move_ok (hH : Heap C B L hp) (hB : B ≤ C.w.heap.size) {x : Operand} (hv : Rep C (ρ x) (a.eval x)) (hf : ρ x = .nils → Free C (o.dst.getD 0)) (hM : ρ x = .nils → makes o = true) (ho : (execOp a.eval o).run P C.w = .ok (.value (a.eval x)) C.w)
    (h : k (typed E (o.dst.getD 0) o.type (ρ x)).1 (typed E (o.dst.getD 0) o.type (ρ x)).2 = some r) : OpOK P o a C B L hp k r := by
  obtain ⟨C', hw, hP⟩ := typed_ok (E := E) hH hB hf hM o.type hv
  exact OpOK.val (by rw [ho, hw]) h hP

theorem aop_ok (hT : TyOk P E) (hΓ : ∀ f, (∃ avs hin, E.fns f avs hin ≠ none) → FnOk P f (E.fns f)) (hH : Heap C B L hp) (hB : B ≤ C.w.heap.size) (hρ : ∀ x, Rep C (ρ x) (a.eval x))
    (hf : makes o = true → Free C (o.dst.getD 0)) (h : aop E hp ρ o (o.dst.getD 0) k = some r) : OpOK P o a C B L hp k r := by
  obtain ⟨dst, op, type, pos, after, guard⟩ := o
  cases op <;> simp only [aop] at h <;> try (cases h; done)
  case move x =>
    split at h
    · exact move_ok hH hB (hρ _) (fun _ => hf rfl) (fun _ => rfl) (by simp [execOp]) h
    · exact OpOK.pure hH (v' := a.eval x) (by simp [execOp]) h (hρ x)
  case assign x =>
    split at h
    · exact move_ok hH hB (hρ _) (fun _ => hf rfl) (fun _ => rfl) (by simp [execOp]) h
    · exact OpOK.pure hH (v' := a.eval x) (by simp [execOp]) h (hρ x)
  case pick c x y =>
    split at h
    case h_2 => cases h
    rename_i t hc
    have hcv := hρ c
    rw [hc] at hcv
    unfold Rep at hcv
    rcases sat_br h with ⟨ht, h'⟩ | ⟨ht, h'⟩
    · subst ht; exact OpOK.pure hH (v' := a.eval x) (by simp [execOp, hcv, asBool]) h' (hρ x)
    · subst ht; exact OpOK.pure hH (v' := a.eval y) (by simp [execOp, hcv, asBool]) h' (hρ y)
  case alloc t =>
    split at h
    · rename_i ti ht; exact alloc_ok hT hH hB (hf rfl) rfl ht h
    · cases h
  case box t x =>
    split at h
    · rename_i cs ht hc; exact box_ok hH hB (hf rfl) rfl (hρ x) hc h
    · cases h
  case build t parts =>
    split at h
    · rename_i fs _ _ z ht
      split at h
      · rename_i cs hc; exact build_ok hT hH hB (hf rfl) hρ rfl ht hc h
      · cases h
    · cases h
  case buildSlice t len parts =>
    split at h
    · exact abuildN_ok hT hH hB (hf rfl) hρ rfl h
    split at h
    · rename_i el e _ _ _ ht
      split at h
      · rename_i ti ys hel hys
        split at h
        · rename_i hh
          exact buildSlice_ok hT hH hB (hf rfl) hρ rfl ht hel hh.1 hys hh.2.1 hh.2.2.1 hh.2.2.2 h
        · cases h
      · cases h
    · cases h
  case load t x =>
    unfold aloadX at h
    split at h
    · rename_i id i sz off hv
      have hx := hρ x
      rw [hv] at hx
      split at h
      · rename_i bt el e yss hl hb
        exact aloadN_ok hT hH hf rfl hx hb h
      · exact aload_ok hT hH rfl hx h
    · exact aload_ok hT hH rfl (hρ x) h
  case store t x y => exact astore_ok hT hH rfl (hρ x) (hρ y) h
  case nilCheck x =>
    have hx := hρ x
    split at h
    · rename_i id off hv
      rw [hv] at hx
      have hx' := hx
      unfold Rep at hx
      obtain ⟨_, b, hp', _⟩ := hx
      exact OpOK.pure hH (v' := a.eval x) (by simp [execOp, hp']) h hx'
    · rename_i cs off hv
      rw [hv] at hx
      have hx' := hx
      unfold Rep at hx
      obtain ⟨b, p, vs, hp', _⟩ := hx
      exact OpOK.pure hH (v' := a.eval x) (by simp [execOp, hp']) h hx'
    · rename_i id i sz off hv
      rw [hv] at hx
      have hx' := hx
      unfold Rep at hx
      obtain ⟨_, b, hp', _⟩ := hx
      exact OpOK.pure hH (v' := a.eval x) (by simp [execOp, hp']) h hx'
    · cases h
  case binOp op t x y t' =>
    split at h
    · exact aifc_ok hT hH rfl (hρ x) h
    · exact abin_ok hT hH rfl (hρ x) (hρ y) h
  case unOp op t x =>
    have hx := hρ x
    split at h
    · rename_i b hv; rw [hv] at hx; unfold Rep at hx
      exact OpOK.pure hH (by simp [execOp, hx, Op.unary]; rfl) h (by unfold Rep; rfl)
    · rename_i hv; rw [hv] at hx; unfold Rep at hx
      obtain ⟨b, hx⟩ := hx
      exact OpOK.pure hH (by simp [execOp, hx, Op.unary]; rfl) h (by unfold Rep; exact ⟨_, rfl⟩)
    · rename_i kd n hv; rw [hv] at hx; unfold Rep at hx
      exact OpOK.pure hH (by simp [execOp, hx, Op.unary, Op.intArith]; rfl) h (by unfold Rep; rfl)
    · cases h
  case convert s t x =>
    have hx := hρ x
    split at h
    · rename_i tis kd _ _ _ _ n hs ht hv
      rw [hv] at hx; unfold Rep at hx
      obtain ⟨ds, hds, _⟩ := (hT.row hs).agg
      have hti := (hT.row ht).int
      refine OpOK.pure hH (v' := .int kd (kd.wrap n)) ?_ h (by unfold Rep; rfl)
      simp [execOp, hx, convert, run_underlying hds, run_underlying hti, Conv.intToInt]
    · rename_i el _ _ _ _ _ _ hs ht
      split at h
      · rename_i ys he hys
        have hsrc := asrc_ok hH hys (hρ x)
        have hds := (hT.row hs).slc
        have hel := (hT.row he).int
        have hdt : P.underlying t = some .string := by
          have := (hT.row ht).td
          simp only [tdB] at this
          split at this <;> simp_all
        refine OpOK.pure hH (v' := .string (intsStr ys)) ?_ h (by unfold Rep; rfl)
        obtain ⟨q, n, c, hq, hb⟩ := bytes_run (P := P) hsrc
        simp only [execOp, Sem.run_bind]
        rw [hq, run_convert_bytes_string C.w s t el q n c hds hel hdt, hb]
        rfl
      · cases h
    · cases h
  case makeFunc f first caps =>
    split at h
    · rename_i g hfirst
      have hfe : first = #[] := by cases first; simp_all
      subst hfe
      refine OpOK.pure hH (v' := .func (.func g) #[] (caps.map a.eval)) (by simp [execOp, Instr.makeFunc]) h ?_
      unfold Rep
      exact ⟨_, rfl, by simpa using RepL_vals caps.toList hρ⟩
    · cases h
  case makeSlice t x y =>
    split at h
    · exact amakeN_ok hT hH hB (hf rfl) rfl (hρ x) (hρ y) h
    split at h
    · rename_i el e _ _ _ ht
      split at h
      · rename_i ti n m hel hx hy
        have hxv := hρ x
        have hyv := hρ y
        rw [hx] at hxv; rw [hy] at hyv
        unfold Rep at hxv hyv
        split at h
        · rename_i z hz
          split at h
          · rename_i hh
            rcases sat_br h with ⟨hb, h⟩ | ⟨_, h⟩
            · simp only [Bool.and_eq_true, decide_eq_true_eq] at hb
              exact makeSlice_ok hT hH hB (hf rfl) rfl ht hel hxv hyv hz hh.1 hh.2 hb.1 hb.2.1 hb.2.2 h
            · cases h
          · cases h
        · cases h
      · cases h
    · cases h
  case fieldAddr t x f =>
    split at h
    · rename_i fs _ _ _ ht
      split at h
      · rename_i fi hfi
        split at h
        · cases h
        rename_i hz
        have hx := hρ x
        have hRt := hT.row ht
        split at h
        · rename_i id off hv
          rw [hv] at hx; unfold Rep at hx
          obtain ⟨q0, b, hp', q2⟩ := hx
          refine OpOK.pure hH (v' := .pointer (some ⟨b, off + fi.off, none⟩)) ?_ h ?_
          · simp [execOp, hp', fieldAt_run hRt hfi hz]
          · unfold Rep; exact ⟨q0, b, rfl, q2⟩
        · rename_i cs off hv
          rw [hv] at hx; unfold Rep at hx
          obtain ⟨b, p, vs, hp', hF, hr, hc⟩ := hx
          refine OpOK.pure hH (v' := .pointer (some ⟨b, p + off + fi.off, none⟩)) ?_ h ?_
          · simp [execOp, hp', fieldAt_run hRt hfi hz]
          · unfold Rep; exact ⟨b, p, vs, by rw [Nat.add_assoc], hF, hr, hc⟩
        · rename_i id i sz off hv
          rw [hv] at hx; unfold Rep at hx
          obtain ⟨q0, b, hp', q2⟩ := hx
          refine OpOK.pure hH (v' := .pointer (some ⟨b, i * sz + off + fi.off, none⟩)) ?_ h ?_
          · simp [execOp, hp', fieldAt_run hRt hfi hz]
          · unfold Rep; exact ⟨q0, b, by rw [Nat.add_assoc], q2⟩
        · cases h
      · cases h
    · cases h
  case field t x f =>
    split at h
    · rename_i fs _ _ _ cs ht hv
      have hx := hρ x
      rw [hv] at hx; unfold Rep at hx
      obtain ⟨vs, hxv, hr⟩ := hx
      obtain ⟨fields, hu, hfB⟩ := (hT.row ht).strct
      have hl := RepL_len _ _ hr
      split at h
      · rename_i fi hfi
        obtain ⟨fd, h1, h2, h3⟩ := part_run hfB hfi
        obtain ⟨h4, h5⟩ := h3 C.w vs
        split at h
        · rename_i hag
          split at h
          · rename_i hle
            refine OpOK.pure hH (v' := .agg (vs.extract fi.off (fi.off + fi.sz))) ?_ h ?_
            · simp [execOp, Instr.field, run_underlying hu, h1, hxv, asAgg, h2, h4 hag]
            · unfold Rep
              refine ⟨_, rfl, ?_⟩
              have : (vs.extract fi.off (fi.off + fi.sz)).toList = (vs.toList.drop fi.off).take fi.sz := by simp [Array.toList_extract, List.extract]
              rw [this]
              exact RepL_take _ _ _ (RepL_drop _ _ _ hr)
          · cases h
        · rename_i hag
          split at h
          · rename_i c hc
            obtain ⟨v, hv1, hv2⟩ := RepL_get _ _ hr _ c hc
            refine OpOK.pure hH (v' := v) ?_ h hv2
            simp [execOp, Instr.field, run_underlying hu, h1, hxv, asAgg, h2, h5 (by simpa using hag) v (by simpa using hv1)]
          · cases h
      · cases h
    · cases h
  case slice t x lo hi mx =>
    cases mx with
    | none =>
      simp only at h
      split at h
      · rename_i id hv
        exact asliceO_ok hT hH hB (hf rfl) rfl (by rw [← hv]; exact hρ x) hρ h
      · exact aslice_ok hT hH rfl (hρ x) hρ h
    | some m => cases h
  case indexAddr t x ix =>
    split at h
    · rename_i el e _ _ _ kd i ht hi
      have hiv := hρ ix
      rw [hi] at hiv; unfold Rep at hiv
      have hRt := hT.row ht
      split at h
      · rename_i ti hel
        have hRe := hT.row hel
        split at h
        · rename_i hsz
          have hx := hρ x
          split at h
          · rename_i e' ys hv
            rw [hv] at hx; unfold Rep at hx
            split at h
            · rename_i he
              subst he
              rcases sat_br h with ⟨hb, h⟩ | ⟨_, h⟩
              · simp only [Bool.and_eq_true, decide_eq_true_eq] at hb
                obtain ⟨h0, h1⟩ := hb
                obtain ⟨p, cp, e1, e2, e3⟩ := hx
                simp at e1
                rcases e3 with rfl | ⟨b, off, css, rfl, hF, hr, hc⟩
                · simp at h1; omega
                have hlt : i.toNat < ys.length := by omega
                obtain ⟨cs, q1, q2, q3⟩ := flatten_get ys css hr i.toNat _ (getD_get (d := e'.dft) hlt)
                refine OpOK.pure hH (v' := .pointer (some ⟨b, off + i.toNat * ti.size, none⟩)) ?_ h ?_
                · simp [execOp, hiv, e1, index_run hRt hRe h0 h1]
                · unfold Rep
                  refine ⟨b, off + i.toNat * ti.size, cs, rfl, hF, avs_rep _ _ _ q2, fun j u hj => ?_⟩
                  rw [Nat.add_assoc, hsz]
                  exact hc _ _ (q3 j u hj)
              · cases h
            · cases h
          · rename_i id hv
            rw [hv] at hx; unfold Rep at hx
            split at h
            · -- a slice of slices
              split at h
              case h_2 => cases h
              rename_i bt el' e' nn hsh
              split at h
              case isFalse => cases h
              rename_i he
              subst he
              obtain ⟨yss, hl, hb, rfl⟩ := shp_some hsh
              have hsz1 : ti.size = 1 := hsz
              rcases sat_br h with ⟨hb', h⟩ | ⟨_, h⟩
              case inr => cases h
              simp only [Bool.and_eq_true, decide_eq_true_eq] at hb'
              obtain ⟨h0, h1⟩ := hb'
              obtain ⟨pv, hρ', hob⟩ := hH.som id _ hb
              have hxv := hx.2.2 pv hρ'
              rcases hob with ⟨rfl, _⟩ | ⟨g, cap, cur, vs, rfl, q0, hg, q1, q2, q3, q4, q5, q6⟩
              · simp at h1; omega
              refine OpOK.pure hH (v' := .pointer (some ⟨g, i.toNat * 1, none⟩)) ?_ h ?_
              · simp [execOp, hiv, hxv, index_run hRt hRe h0 h1, hsz1]
              · unfold Rep
                refine ⟨hx.1, g, rfl, fun pv hp => ?_⟩
                rw [hρ'] at hp; cases hp; exact ⟨_, _, rfl⟩
            split at h
            · rename_i t' e' ys hb
              split at h
              · rename_i he
                subst he
                rcases sat_br h with ⟨hb', h⟩ | ⟨_, h⟩
                · simp only [Bool.and_eq_true, decide_eq_true_eq] at hb'
                  obtain ⟨h0, h1⟩ := hb'
                  obtain ⟨pv, hρ', hob⟩ := hH.som id _ hb
                  have hxv := hx.2.2 pv hρ'
                  rcases hob with ⟨rfl, _⟩ | ⟨g, cap, cur, css, rfl, q0, hg, q1, q2, q3, q4, q5⟩
                  · simp at h1; omega
                  refine OpOK.pure hH (v' := .pointer (some ⟨g, i.toNat * e'.sz, none⟩)) ?_ h ?_
                  · simp [execOp, hiv, hxv, index_run hRt hRe h0 h1, hsz]
                  · unfold Rep
                    refine ⟨hx.1, g, rfl, fun pv hp => ?_⟩
                    rw [hρ'] at hp; cases hp; exact ⟨_, _, rfl⟩
                · cases h
              · cases h
            · cases h
          · cases h
        · cases h
      · cases h
    · rename_i n el _ _ _ kd i ht hi
      have hiv := hρ ix
      rw [hi] at hiv; unfold Rep at hiv
      have hRt := (hT.row ht).arr
      split at h
      · rename_i ti g off hel hv
        have hRe := hT.row hel
        split at h
        · rename_i hc
          rcases sat_br h with ⟨hb, h⟩ | ⟨_, h⟩
          · simp only [Bool.and_eq_true, decide_eq_true_eq] at hb
            have hx := hρ x
            rw [hv] at hx; unfold Rep at hx
            refine OpOK.pure hH (v' := .pointer (some ⟨g, off + i.toNat, none⟩)) ?_ h (by unfold Rep; rfl)
            simp [execOp, Instr.indexAt, asIntOf, hiv, hx, run_underlying hRt, Instr.sureAddr, run_size' hRe, hb.1, hb.2, hc.1, Addr.add']
          · cases h
        · cases h
      · cases h
    · cases h
  case index t x ix =>
    split at h
    · rename_i s kd i ht hx hi
      have hxv := hρ x
      have hiv := hρ ix
      rw [hx] at hxv; rw [hi] at hiv
      unfold Rep at hxv hiv
      rcases sat_br h with ⟨hb, h⟩ | ⟨_, h⟩
      · simp only [Bool.and_eq_true, decide_eq_true_eq] at hb
        refine OpOK.pure hH (v' := .int .u8 ((s.data.toList.getD i.toNat 0).toNat : Int)) ?_ h (by unfold Rep; rfl)
        have hlt : i.toNat < s.size := by omega
        have hg : (s[i.toNat]? : Option UInt8) = some (s.data.toList.getD i.toNat 0) := by
          rw [getElem?_pos s i.toNat hlt]
          have : i.toNat < s.data.toList.length := by simpa using hlt
          simp [List.getD, List.getElem?_eq_getElem this]
          rfl
        simp [execOp, hxv, hiv, Instr.index, asIntOf, run_underlying (hT.row ht).str, hb.1, hg]
      · cases h
    · cases h
  case makeMap t rv =>
    split at h
    · rename_i m _ _ _ ht
      exact makeMap_ok hT hH hB (hf (by simp [makes])) rfl h
    · cases h
  case lookup t x i c =>
    split at h
    · rename_i m _ _ _ id ht hx
      have hxv := hρ x
      rw [hx] at hxv
      split at h
      · rename_i m' ps hb
        split at h
        · rename_i hm
          subst hm
          split at h
          · rename_i q hq
            exact lookup_ok hT hH rfl ht hxv (hρ i) hb hq h
          · cases h
        · cases h
      · cases h
    · cases h
  case mapUpdate t x i y =>
    split at h
    · rename_i m _ _ _ id ht hx
      have hxv := hρ x
      rw [hx] at hxv
      split at h
      · rename_i m' ps hb
        split at h
        · rename_i hm
          subst hm
          split at h
          · rename_i q yv hq hyv
            exact mapUpdate_ok hT hH rfl ht hxv (hρ i) (hρ y) hb hq hyv h
          · cases h
        · cases h
      · cases h
    · cases h
  case extract x i =>
    split at h
    · rename_i vs hv
      have hx := hρ x
      rw [hv] at hx; unfold Rep at hx
      obtain ⟨us, hxv, hr⟩ := hx
      split at h
      · rename_i v hvi
        obtain ⟨u, hu1, hu2⟩ := RepL_get _ _ hr i v hvi
        exact OpOK.pure hH (v' := u) (by simp [execOp, Instr.extract, hxv, show us[i]? = some u by simpa using hu1]) h hu2
      · cases h
    · cases h
  case call c =>
    split at h
    · rename_i hc
      split at h
      · rename_i x ti hx hti
        split at h
        · rename_i hfit
          obtain ⟨t, ht0, ht1⟩ := Option.bind_eq_some_iff.1 hti
          exact alen_ok hT hH rfl hc hx ht0 ht1 (hρ x) hfit h
        · cases h
      · cases h
    · rename_i hc
      have happ := fun h => aappend_ok (k := k) (r := r) (o := { dst := dst, op := .call c, type := type, pos := pos, after := after, guard := guard }) hT hH hB (hf (by simp only [makes]; split <;> simp_all)) hρ rfl hc h
      split at h
      · rename_i s x t t' hargs htys
        split at h
        · rename_i hn
          simp only [Bool.and_eq_true, beq_iff_eq] at hn
          obtain ⟨_, rfl⟩ := hn
          exact anest_ok hT hH hB (hf (by simp only [makes]; split <;> simp_all)) rfl hc hargs htys (hρ s) (hρ x) h
        · exact happ h
      · exact happ h
    · rename_i hc
      exact amm_ok hH rfl (mx := true) hc hρ h
    · rename_i hc
      exact amm_ok hH rfl (mx := false) hc hρ h
    · rename_i fo hc
      split at h
      · rename_i g caps hv
        split at h
        · rename_i hsz
          have hfv := hρ fo
          rw [hv] at hfv
          exact acall_ok hH hB (hf (by simp only [makes]; split <;> simp_all)) hΓ rfl hc hfv (args_rep E hρ _ _ (by simpa using hsz)) h
        · cases h
      · cases h
    · cases h

theorem aopN_ok (hT : TyOk P E) (hΓ : ∀ f, (∃ avs hin, E.fns f avs hin ≠ none) → FnOk P f (E.fns f)) (hH : Heap C B L hp) (hB : B ≤ C.w.heap.size) (hρ : ∀ x, Rep C (ρ x) (a.eval x))
    (hf : makes o = true → Free C (o.dst.getD 0)) (h : aopN E hp ρ o (o.dst.getD 0) k = some r) : OpOK P o a C B L hp k r := by
  unfold aopN at h
  split at h
  · exact aop_ok hT hΓ hH hB hρ hf h
  · rename_i cs hcs
    obtain ⟨C', w', l', a', h'⟩ := closeAll_ok (closers ρ o) C hp hH
    have hok := aop_ok hT hΓ h' (by rw [w']; exact hB) (fun x => Rep_mono l' _ _ (hρ x)) (fun hm id hid hA => hf hm id hid ((a' id).1 hA)) h
    intro next Q hn
    have := hok next Q fun v u v' C'' hk hP => hn v _ v' C'' hk
      ⟨l'.trans hP.le, fun id hA => (hP.new id hA).imp (fun q => (a' id).1 q) fun q => q, by rw [setHp_append]; exact hP.heap, hP.rep, by rw [← w']; exact hP.gr⟩
    rw [w'] at this
    exact this

end
end Go.Sym
