/- The symbolic machine and the model: results; a function. -/
import Derived.Test.YtmphbdhjdalgnaaGreatDoorSymU
namespace Go.Sym
set_option linter.unusedVariables false
set_option linter.unusedSimpArgs false
set_option linter.unusedSectionVars false
variable [Globs] [Dm]

section
variable {R : Type} {P : Program} {E : Env} {C : Ctx} {n B : Nat} {L : Fr} {hp : Nat → Option Ob} {s : S} {a : Act} {r : R} {k : AV → Sets → Option R}

theorem readCells_val {t : TypeId} {ti : TI} (hT : TyRow P t ti) {cs : List AV} {vs : List Value} {b p off : Nat} (hr : RepL C cs vs) (hc : CellsAt C.w b p vs) (h : readCells k ti cs off = some r) :
    ∃ u v, (loadVar t ⟨b, p + off, none⟩).run P C.w = .ok u C.w ∧ k v [] = some r ∧ Rep C v u := by
  have hl := run_loadVar' hT hc off
  unfold readCells at h
  split at h
  · rename_i fs hs
    split at h
    · rename_i hle
      have hlen := RepL_len _ _ hr
      refine ⟨_, _, hl.1 (by simp [hs, TD.isStrct]) (by omega), h, ?_⟩
      unfold Rep
      exact ⟨_, rfl, by simpa using RepL_take _ _ _ (RepL_drop off _ _ hr)⟩
    · cases h
  · cases h
  · rename_i hs hs2
    split at h
    · rename_i c hc'
      obtain ⟨v, hv, hrv⟩ := RepL_get _ _ hr off c hc'
      refine ⟨v, c, hl.2 ?_ v hv, h, hrv⟩
      cases hd : ti.td <;> first | rfl | exact absurd hd (hs _) | exact absurd hd (hs2 _ _)
    · cases h

/-- What a cell holds. -/
theorem aload_val (hT : TyOk P E) (hH : Heap C B L hp) {t : TypeId} {x : Value} {v : AV} (hv : Rep C v x) (h : aload E hp k t v = some r) :
    ∃ ad u v', x = .pointer (some ad) ∧ (loadVar t ad).run P C.w = .ok u C.w ∧ k v' [] = some r ∧ Rep C v' u := by
  unfold aload at h
  split at h
  · cases h
  rename_i ti hti
  have hR := hT.row hti
  split at h
  · rename_i cs off
    unfold Rep at hv
    obtain ⟨b, p, vs, hx, _, hr, hc⟩ := hv
    obtain ⟨u, v', h1, h2, h3⟩ := readCells_val hR hr hc h
    exact ⟨_, u, v', hx, h1, h2, h3⟩
  · rename_i g off
    unfold Rep at hv
    split at h
    · rename_i kd ns hg
      split at h
      · cases h
      · rename_i hst
        rcases sat_br h with ⟨hlt, h⟩ | ⟨_, h⟩
        · have hlt := of_decide_eq_true hlt
          obtain ⟨_, hcell, _⟩ := hH.glob.1 _ (lookup_mem _ _ _ hg)
          have hcs : CellsAt C.w g 0 (ns.map (Value.int kd)) := by
            intro i v hi
            rw [List.getElem?_map] at hi
            obtain ⟨x, hx, rfl⟩ := Option.map_eq_some_iff.1 hi
            have hil : i < ns.length := (List.getElem?_eq_some_iff.1 hx).1
            rw [Nat.zero_add, hcell i hil]
            simp [List.getD, hx]
          have hl := (run_loadVar' hR hcs off).2 (by simpa using hst) (.int kd (ns.getD off 0)) (by rw [List.getElem?_map, getD_get (d := 0) hlt]; rfl)
          rw [Nat.zero_add] at hl
          exact ⟨_, _, _, hv, hl, h, by unfold Rep; rfl⟩
        · cases h
    · cases h
  · rename_i id off
    unfold Rep at hv
    split at h
    · rename_i bt cs hb
      obtain ⟨pv, hρ, b, vs, e1, hg, hr⟩ := hH.som id _ hb
      obtain ⟨_, b', hx, e2⟩ := hv
      have e2 := e2 pv hρ
      rw [e1] at e2; simp at e2; subst e2
      obtain ⟨u, v', h1, h2, h3⟩ := readCells_val (P := P) (b := b) (p := 0) hR hr (fun i v hi => by rw [Nat.zero_add, cell_of_row C.w b i vs bt (0, 0) hg]; simpa using hi) h
      exact ⟨_, u, v', hx, by simpa using h1, h2, h3⟩
    · cases h
  · rename_i id i sz off
    unfold Rep at hv
    split at h
    · rename_i bt e ys hb
      split at h
      · rename_i hsz
        rcases sat_br h with ⟨hlt, h⟩ | ⟨_, h⟩
        · have hlt := of_decide_eq_true hlt
          obtain ⟨pv, hρ, hob⟩ := hH.som id _ hb
          have hex : ∃ g n c, pv = .slice (some ⟨g, 0, none⟩) n c := by
            rcases hob with ⟨rfl, _⟩ | ⟨g, cap, _, _, e1, _⟩
            · simp at hlt
            · exact ⟨_, _, _, e1⟩
          obtain ⟨g, n, c, rfl⟩ := hex
          obtain ⟨_, b', hx, e2⟩ := hv
          obtain ⟨n', c', e2⟩ := e2 _ hρ
          simp at e2
          obtain ⟨rfl, rfl, rfl⟩ := e2
          obtain ⟨cs, hr, hc⟩ := row_elem hob (getD_get (d := e.dft) hlt)
          subst hsz
          obtain ⟨u, v', h1, h2, h3⟩ := readCells_val hR (avs_rep _ _ _ hr) hc h
          exact ⟨_, u, v', hx, h1, h2, h3⟩
        · cases h
      · cases h
    · cases h
  · cases h



def rvarOf (tmps : Array Value) : ResultVar → Sem Value
  | .tmp t => pure (tmps.getD t undef)
  | .cell ad t => asAddr (tmps.getD ad undef) >>= fun ad => loadVar t ad

theorem rvars_ok (hE : Facts P E) (hR : Rel n B L C s a) : ∀ (rs : List ResultVar) (vs : List AV), rvars E s rs = some vs →
    ∃ us : List Value, (rs.mapM (rvarOf a.tmps)).run P C.w = .ok us C.w ∧ RepL C vs us
  | [], vs, h => by
    simp only [rvars, Option.some.injEq] at h
    subst h
    exact ⟨[], by simp, RepL_nil⟩
  | .tmp t :: rs, vs, h => by
    simp only [rvars, Option.map_eq_some_iff] at h
    obtain ⟨vs', h1, rfl⟩ := h
    obtain ⟨us, h2, h3⟩ := rvars_ok hE hR rs vs' h1
    refine ⟨_ :: us, ?_, RepL_cons (hR.tm t) h3⟩
    rw [List.mapM_cons]
    simp [rvarOf, h2]
  | .cell ad t :: rs, vs, h => by
    simp only [rvars] at h
    split at h
    · rename_i v vs' hv hvs
      cases h
      obtain ⟨us, h2, h3⟩ := rvars_ok hE hR rs vs' hvs
      obtain ⟨ad', u, v', q1, q2, q3, q4⟩ := aload_val hE.ty hR.heap (hR.tm ad) hv
      cases q3
      refine ⟨u :: us, ?_, RepL_cons q4 h3⟩
      rw [List.mapM_cons]
      simp only [rvarOf, q1, asAddr]
      simp [q2, h2]
    · cases h

theorem results_ok (hE : Facts P E) (hR : Rel n B L C s a) {fn : Func} {vs : List AV} (h : rvars E s fn.results.toList = some vs) :
    ∃ v, (results fn a.tmps).run P C.w = .ok v C.w ∧ Rep C (one vs) v := by
  obtain ⟨us, h1, h2⟩ := rvars_ok hE hR _ vs h
  have hl := RepL_len _ _ h2
  refine ⟨if h : us.toArray.size = 1 then us.toArray[0] else .tuple us.toArray, ?_, ?_⟩
  · have he : results fn a.tmps = (do
        let vs ← fn.results.mapM (rvarOf a.tmps)
        pure (if h : vs.size = 1 then vs[0] else .tuple vs)) := by
      unfold results
      congr 2
    rw [he, Array.mapM_eq_mapM_toList]
    simp [h1]
  · cases vs with
    | nil =>
      unfold RepL at h2
      subst h2
      rw [dif_neg (by simp)]
      unfold one Rep
      exact ⟨_, rfl, by simpa using RepL_nil⟩
    | cons v vs =>
      cases vs with
      | nil =>
        unfold RepL at h2
        obtain ⟨u, r, rfl, h2, h3⟩ := h2
        unfold RepL at h3
        subst h3
        simpa [one] using h2
      | cons v' vs =>
        rw [dif_neg (by simp only [List.size_toArray, ← hl]; simp)]
        unfold one Rep
        exact ⟨_, rfl, by simpa using h2⟩

theorem pack_ok (hR : Rel n B L C s a) {m : Nat} (hm : L.m = m) {v : AV} {u : Value} (hv : Rep C v u) {r : AV} {hout : List Ob} (h : pack m s v = some (r, hout)) :
    ∃ C', C'.w = C.w ∧ Rep C' r u ∧ Heap C' B L (ofL hout) := by
  unfold pack at h
  simp only at h
  split at h
  · rename_i obs hg
    cases h
    subst hm
    obtain ⟨h1, h2⟩ := gather_spec _ _ hg
    have hH := named_heap hR.heap (named_nodup L.m (v.ids s.hp 8)) (named_mine hR.heap) (named_fr hR.heap)
    refine ⟨C.named _, rfl, ren_rep (C := C) (C' := C.named _) rfl named_ren 8 _ _ (fun _ b hb => hb) hv, ?_⟩
    have he : ofL hout = fun (j : Nat) => _ := funext h2
    rw [he]
    exact hH
  · cases h

/-- What the machine reckons of a function is so. -/
theorem fn_ok (hE : Facts P E) {g : FuncId} {fn : Func} {c : Code} (hf : P.funcs[g]? = some fn) (hb : fn.body = some c) (hname : (fn.name == "runtime.NumGoroutine") = false) {k : Nat} (hc : codeOk k c = true)
    {f : List AV → List Ob → Option (AV × List Ob)} (h : ∀ avs hin r, f avs hin = some r → ∃ N, evF E N fn avs hin = some r ∧ avs.length + (fn.ntmps - avs.length) = k) : FnOk P g f := by
  refine ⟨⟨fn, hf, hname, by rw [hb]; rfl⟩, fun avs hin r hout hfa C L vs hH hm hargs => ?_⟩
  obtain ⟨N, hev, hk⟩ := h avs hin _ hfa
  have hlen := RepL_len _ _ hargs
  refine calls_of_wp hf hb ?_
  unfold evF at hev
  rw [len0_eq] at hev
  rw [hb] at hev
  simp only at hev
  have hR : Rel k C.w.heap.size L C { tm := fun t => avs.getD t .any, hp := fun i => hin[i]? } { tmps := vs.toArray ++ Array.replicate (fn.ntmps - vs.toArray.size) undef, defers := [] } := by
    refine ⟨rfl, by simp [← hk, hlen], fun t => ?_, hH, Nat.le_refl _⟩
    cases hv : avs[t]? with
    | none => simp only [List.getD, hv, Option.getD_none]; unfold Rep; trivial
    | some v =>
      obtain ⟨u, h1, h2⟩ := RepL_get _ _ hargs t v hv
      have hlt := (List.getElem?_eq_some_iff.1 h1).1
      have : (vs.toArray ++ Array.replicate (fn.ntmps - vs.toArray.size) undef).getD t undef = u := by
        rw [Array.getD_eq_getD_getElem?, Array.getElem?_append_left (by simpa using hlt)]
        simp [h1]
      rw [this]
      simpa [List.getD, hv] using h2
  refine evC_ok hE (lpf := lp E hin.length N) (fun b hb => lp_ok hE hm N b hb) c hc C _ _ _ _ _ hR hev (fun x C' s' a' q1 q2 q3 => ?_)
  have hfin : (match rvars E s' fn.results.toList with
    | some vs => closeK (if Globs.nst.isEmpty then [] else (one vs).ids s'.hp 8) s' fun s => packK hin.length s (one vs)
    | none => none) = some (r, hout) → a'.defers = [] ∧ ∃ v, (results fn a'.tmps).run P C'.w = .ok v C'.w ∧
      ∃ v2 C2, Ending.returned v = .returned v2 ∧ C2.w = C'.w ∧ Rep C2 r v2 ∧ Heap C2 C.w.heap.size L (ofL hout) ∧ Gr C.w.heap.size L C.w C'.w := by
    intro h
    refine ⟨q1.defers, ?_⟩
    cases hrv : rvars E s' fn.results.toList with
    | none => rw [hrv] at h; cases h
    | some us =>
      rw [hrv] at h
      obtain ⟨v, h1, h2⟩ := results_ok hE q1 hrv
      refine ⟨v, h1, ?_⟩
      simp only [closeK_eq] at h
      obtain ⟨C3, w3, le3, _, h3⟩ := closeAll_ok (if Globs.nst.isEmpty then [] else (one us).ids s'.hp 8) C' s'.hp q1.heap
      have r3 : Rel k C.w.heap.size L C3 (closeS (if Globs.nst.isEmpty then [] else (one us).ids s'.hp 8) s') a' := ⟨q1.defers, q1.size, fun t => Rep_mono le3 _ _ (q1.tm t), h3, by rw [w3]; exact q1.base⟩
      obtain ⟨C2, e1, e2, e3⟩ := pack_ok r3 hm (Rep_mono le3 _ _ h2) (by rw [← packK_eq]; exact h)
      exact ⟨v, C2, rfl, e1.trans w3, e2, e3, q2⟩
  cases x with
  | normal => exact hfin q3
  | ret => exact hfin q3
  | exit i => simp [fin] at q3

end
end Go.Sym
