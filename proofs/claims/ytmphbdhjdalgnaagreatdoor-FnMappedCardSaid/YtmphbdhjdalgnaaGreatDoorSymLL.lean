/- The symbolic machine and the model: what a call leaves behind. -/
import Derived.Test.YtmphbdhjdalgnaaGreatDoorSymL
namespace Go.Sym
set_option linter.unusedVariables false
set_option linter.unusedSimpArgs false
set_option linter.unusedSectionVars false
variable [Globs] [Dm]

section
variable {R : Type} {P : Program} {E : Env} {C : Ctx} {B : Nat} {L : Fr} {hp : Nat → Option Ob} {k : AV → Sets → Option R} {r : R} {o : Oper} {a : Act}

/-- What a callee is lent, and may look at. -/
def callFr (C : Ctx) (l : List Nat) (ow : Bool) (hm : l.length ≤ 1000) : Fr :=
  { lent := fun b => ∃ i, (C.named l).own i b, far := fun b => C.F b ∨ (ow = true ∧ ∃ i, C.own i b), old := (C.named l).ρ, m := l.length, hm := hm }

theorem acall_core (hH : Heap C B L hp) (hB : B ≤ C.w.heap.size) {d : Nat} (hf : Free C d) {l : List Nat} (hn : l.Nodup) (hm : l.length ≤ 1000) (hA : ∀ id ∈ l, C.A id) {ow : Bool} (how : ow = true → l = []) {C1 : Ctx} {hout : List Ob} (h1000 : hout.length ≤ 1000)
    (hge : l.length ≤ hout.length) {rv : AV} {v : Value} (hrv : Rep C1 rv v) (hH1 : Heap C1 C.w.heap.size (callFr C l ow hm) (ofL hout)) (hgr : Gr C.w.heap.size (callFr C l ow hm) C.w C1.w) (hlook : ow = true → (rv.looksOut 8 || hout.any Ob.looksOut) = false) {M : Prop} (hM : M) :
    ∃ C2, C2.w = C1.w ∧ Post C B L hp d M (rv.ren (back d l hout.length) 8) (newSets d l hout.length 0 hout) v C2 := by
  have hdl : ∀ id ∈ l, id / 1000 ≠ d + 1 := fun id hid e => hf id e (hA id hid)
  let nw : Nat → Prop := fun i => ns d l.length ≤ i ∧ i < ns d hout.length
  let C2 : Ctx := { A := fun i => C.A i ∨ nw i, F := fun b => C.F b ∨ (C1.F b ∧ (ow = false ∨ C.w.heap.size ≤ b)), ρ := fun i => match idx l i with
      | some j => C1.ρ j
      | none => if ns d l.length ≤ i ∧ i < ns d hout.length then C1.ρ (i - ns d 0) else C.ρ i, w := C1.w, inn := fun i b => match idx l i with
      | some j => C1.inn j b
      | none => if ns d l.length ≤ i ∧ i < ns d hout.length then C1.inn (i - ns d 0) b else C.inn i b }
  have hnew : ∀ i, nw i → i / 1000 = d + 1 := by intro i hi; simp only [nw] at hi; unfold ns at hi; omega
  have hold : ∀ i, C.A i → ¬ nw i := fun i hA hi => hf i (hnew i hi) hA
  -- the blocks of the caller's other names stand
  have hlent : ∀ b, (callFr C l ow hm).lent b → ∃ id, id ∈ l ∧ C.own id b := by
    rintro b ⟨i, hi⟩
    obtain ⟨id, h1, h2⟩ := named_own hi
    exact ⟨id, List.mem_of_getElem? h1, h2⟩
  have hmem : ∀ k, k < C.w.heap.size → (∀ id ∈ l, ¬ C.own id k) → C1.w.heap[k]? = C.w.heap[k]? := fun k hk hno => hgr.block k hk fun hl => by
    obtain ⟨id, h1, h2⟩ := hlent k hl
    exact hno id h1 h2
  have hmF : ∀ b, C.F b → C1.w.heap[b]? = C.w.heap[b]? := fun b hb => hmem b (hH.inb b hb) fun id _ h => hH.apart id b h hb
  have hidx : ∀ i j, idx l i = some j → l[j]? = some i ∧ j < l.length := fun i j h => ⟨idx_get h, (List.getElem?_eq_some_iff.1 (idx_get h)).1⟩
  have hidn : ∀ i, idx l i = none → i ∉ l := by
    intro i h hm
    unfold idx at h
    rw [List.findIdx?_eq_none_iff] at h
    simpa using h i hm
  have hidN : ∀ i, nw i → idx l i = none := by
    intro i hi
    cases h : idx l i with
    | none => rfl
    | some j => exact absurd (hnew i hi) (hdl i (List.mem_of_getElem? (hidx i j h).1))
  have hle : Le C C2 := by
    refine ⟨fun i h => .inl h, fun b h => .inl h, fun i pv hAi h => ?_, hmF⟩
    simp only [C2] at h
    split at h
    · rename_i j hj
      obtain ⟨q1, q2⟩ := hidx i j hj
      have := hH1.fr.old j pv q2 h
      simpa [callFr, Ctx.named, q1] using this
    · rw [if_neg (hold i hAi)] at h
      exact h
  -- whose is a block
  have hin1 : ∀ i j, idx l i = some j → ∀ b, C2.inn i b ↔ C1.inn j b := fun i j hi b => by simp only [C2, hi]
  have hin2 : ∀ i, nw i → ∀ b, C2.inn i b ↔ C1.inn (i - ns d 0) b := fun i hni b => by simp only [C2, hidN i hni]; rw [if_pos hni]
  have hin3 : ∀ i, idx l i = none → ¬ nw i → ∀ b, C2.inn i b ↔ C.inn i b := fun i hi hni b => by simp only [C2, hi]; rw [if_neg hni]
  have hρ2 : ∀ i b, C2.own i b → (∃ j, C2.ρ i = C1.ρ j ∧ C1.own j b ∧ (idx l i = some j ∨ (idx l i = none ∧ nw i ∧ j = i - ns d 0)) ∧ (C.w.heap.size ≤ b ∨ ∃ id ∈ l, C.own id b)) ∨
      (idx l i = none ∧ ¬ nw i ∧ C.own i b ∧ b < C.w.heap.size ∧ ∀ id ∈ l, ¬ C.own id b) := by
    intro i b h
    have hmn : ∀ j, C1.own j b → (C.w.heap.size ≤ b ∨ ∃ id ∈ l, C.own id b) := by
      intro j hj
      rcases hH1.mine j b hj with h | h
      · exact .inl h
      · obtain ⟨id, h1, h2⟩ := hlent b h; exact .inr ⟨id, h1, h2⟩
    cases hi : idx l i with
    | some j =>
      have he : C2.ρ i = C1.ρ j := by simp only [C2, hi]
      have h' : C1.own j b := by
        rcases h with h | h
        · rw [he] at h; exact .inl h
        · exact .inr ((hin1 i j hi b).1 h)
      exact .inl ⟨j, he, h', .inl rfl, hmn j h'⟩
    | none =>
      by_cases hni : nw i
      · have he : C2.ρ i = C1.ρ (i - ns d 0) := by
          simp only [C2, hi]
          rw [if_pos hni]
        have h' : C1.own (i - ns d 0) b := by
          rcases h with h | h
          · rw [he] at h; exact .inl h
          · exact .inr ((hin2 i hni b).1 h)
        exact .inl ⟨_, he, h', .inr ⟨rfl, hni, rfl⟩, hmn _ h'⟩
      · have he : C2.ρ i = C.ρ i := by
          simp only [C2, hi]
          rw [if_neg hni]
        have h' : C.own i b := by
          rcases h with h | h
          · rw [he] at h; exact .inl h
          · exact .inr ((hin3 i hi hni b).1 h)
        refine .inr ⟨rfl, hni, h', hH.lto i b h', fun id hid hb => ?_⟩
        have := hH.sep i id b h' hb
        subst this
        exact hidn i hi hid
  have hren : ∀ id j, back d l hout.length id = some j → C1.A id → C2.A j ∧ C2.ρ j = C1.ρ id := by
    intro id j hj _
    unfold back at hj
    split at hj
    · rename_i x hx
      have hxj : x = j := by simpa using hj
      subst hxj
      have hi : idx l x = some id := by
        cases hq : idx l x with
        | none => exact absurd (List.mem_of_getElem? hx) (hidn x hq)
        | some q => rw [nodup_inj hn (hidx x q hq).1 hx]
      refine ⟨.inl (hA x (List.mem_of_getElem? hx)), ?_⟩
      simp only [C2, hi]
    · rename_i hx
      split at hj
      · cases hj
        rename_i hlt
        rw [List.getElem?_eq_none_iff] at hx
        have hi : nw (ns d id) := by simp only [nw]; unfold ns; omega
        refine ⟨.inr hi, ?_⟩
        simp only [C2, hidN _ hi]
        have hi' : ns d l.length ≤ ns d id ∧ ns d id < ns d hout.length := hi
        rw [if_pos hi', show ns d id - ns d 0 = id by unfold ns; omega]
      · cases hj
  have hFF : (rv.looksOut 8 || hout.any Ob.looksOut) = true → ∀ b, C1.F b → C2.F b := by
    intro hl b hb
    refine .inr ⟨hb, .inl ?_⟩
    cases hu : ow with
    | false => rfl
    | true => rw [hlook hu] at hl; cases hl
  have hget := fun i => newSets_get d l hout.length hdl hn hout 0 hp i (by omega)
  have hH2 : Heap C2 B L (setHp hp (newSets d l hout.length 0 hout)) := by
    refine ⟨fun i h => ?_, fun i ob h => ?_, fun i h => ?_, fun i j b h1 h2 => ?_, fun i b h => ?_, fun i b h => ?_, fun i b h => ?_, fun b h => ?_, ⟨fun b h => ?_, fun i pv hi h => hH.fr.old i pv hi (hle.ρ i pv (hH.fr.low i hi) h), fun i hi => .inl (hH.fr.low i hi)⟩, hH.glob.mono hle.F hle.w⟩
    · rw [hget] at h
      cases hi : idx l i with
      | some j =>
        rw [hi] at h
        obtain ⟨_, q2⟩ := hidx i j hi
        simp only at h
        rw [if_pos (by omega)] at h
        simp only [C2, hi]
        simp only [Nat.sub_zero, Option.map_eq_none_iff] at h
        exact hH1.non _ h
      | none =>
        rw [hi] at h
        simp only [Nat.zero_max, Nat.zero_add] at h
        simp only [C2, hi]
        by_cases hni : ns d l.length ≤ i ∧ i < ns d hout.length
        · rw [if_pos hni] at h ⊢
          simp only [Option.map_eq_none_iff] at h
          exact hH1.non _ h
        · rw [if_neg hni] at h ⊢
          exact hH.non i h
    · rw [hget] at h
      cases hi : idx l i with
      | some j =>
        rw [hi] at h
        obtain ⟨_, q2⟩ := hidx i j hi
        simp only at h
        rw [if_pos (by omega)] at h
        simp only [Nat.sub_zero] at h
        obtain ⟨ob', ho1, rfl⟩ := Option.map_eq_some_iff.1 h
        obtain ⟨pv, hp1, hp2⟩ := hH1.som _ ob' ho1
        refine ⟨pv, by simp only [C2, hi]; exact hp1, ren_ob (C := C1) (C' := C2) rfl hren (hin1 i j hi) (fun hl => hFF ?_) hp2⟩
        simp only [Bool.or_eq_true, List.any_eq_true]
        exact .inr ⟨ob', List.mem_of_getElem? ho1, hl⟩
      | none =>
        rw [hi] at h
        simp only [Nat.zero_max, Nat.zero_add] at h
        by_cases hni : ns d l.length ≤ i ∧ i < ns d hout.length
        · rw [if_pos hni] at h
          obtain ⟨ob', ho1, rfl⟩ := Option.map_eq_some_iff.1 h
          obtain ⟨pv, hp1, hp2⟩ := hH1.som _ ob' ho1
          refine ⟨pv, by simp only [C2, hi]; rw [if_pos hni]; exact hp1, ren_ob (C := C1) (C' := C2) rfl hren (hin2 i hni) (fun hl => hFF ?_) hp2⟩
          simp only [Bool.or_eq_true, List.any_eq_true]
          exact .inr ⟨ob', List.mem_of_getElem? ho1, hl⟩
        · rw [if_neg hni] at h
          obtain ⟨pv, hp1, hp2⟩ := hH.som i ob h
          refine ⟨pv, by simp only [C2, hi]; rw [if_neg hni]; exact hp1, hp2.mono hle (hin3 i hi hni) fun b hb => hmem b (hH.lto i b (hb.imp (fun q => by rw [hp1]; exact q) fun q => q)) fun id hid hb' => ?_⟩
          have := hH.sep i id b (hb.imp (fun q => by rw [hp1]; exact q) fun q => q) hb'
          subst this
          exact hidn i hi hid
    · rw [hget] at h
      cases hi : idx l i with
      | some j => exact .inl (hA i (List.mem_of_getElem? (hidx i j hi).1))
      | none =>
        rw [hi] at h
        simp only [Nat.zero_max, Nat.zero_add] at h
        by_cases hni : ns d l.length ≤ i ∧ i < ns d hout.length
        · exact .inr hni
        · rw [if_neg hni] at h
          exact .inl (hH.inA i h)
    · rcases hρ2 i b h1 with ⟨p, p1, p2, p3, p4⟩ | ⟨p1, p2, p3, p4, p5⟩ <;> rcases hρ2 j b h2 with ⟨q, q1, q2, q3, q4⟩ | ⟨q1, q2, q3, q4, q5⟩
      · have hpq := hH1.sep _ _ b p2 q2
        subst hpq
        rcases p3 with p3 | ⟨p3, p5, p6⟩ <;> rcases q3 with q3 | ⟨q3, q5, q6⟩
        · have e1 := (hidx i p p3).1; rw [(hidx j p q3).1] at e1; exact (Option.some.inj e1).symm
        · have := (hidx i p p3).2; simp only [nw] at q5; unfold ns at *; omega
        · have := (hidx j p q3).2; simp only [nw] at p5; unfold ns at *; omega
        · simp only [nw] at p5 q5; unfold ns at *; omega
      · rcases p4 with p4 | ⟨id, p4, p5⟩
        · omega
        · exact absurd p5 (q5 id p4)
      · rcases q4 with q4 | ⟨id, q4, q5⟩
        · omega
        · exact absurd q5 (p5 id q4)
      · exact hH.sep i j b p3 q3
    · rcases hρ2 i b h with ⟨p, p1, p2, p3, p4⟩ | ⟨p1, p2, p3, p4, p5⟩
      · rintro (hF | ⟨hF, _⟩)
        · rcases p4 with p4 | ⟨id, p4, p5⟩
          · have := hH.inb b hF; omega
          · exact hH.apart id b p5 hF
        · exact hH1.apart _ b p2 hF
      · rintro (hF | ⟨hF, hu⟩)
        · exact hH.apart i b p3 hF
        · rcases hu with hu | hu
          · rcases hH1.fr.fro b hF with h' | h' | ⟨h', _⟩
            · omega
            · exact hH.apart i b p3 h'
            · rw [hu] at h'; cases h'
          · omega
    · rcases hρ2 i b h with ⟨p, p1, p2, p3, p4⟩ | ⟨p1, p2, p3, p4, p5⟩
      · rcases p4 with p4 | ⟨id, p4, p5⟩
        · left; omega
        · exact hH.mine id b p5
      · exact hH.mine i b p3
    · rcases hρ2 i b h with ⟨p, p1, p2, p3, p4⟩ | ⟨p1, p2, p3, p4, p5⟩
      · exact hH1.lto p b p2
      · exact Nat.lt_of_lt_of_le p4 hgr.size
    · rcases h with h | ⟨h, _⟩
      · exact Nat.lt_of_lt_of_le (hH.inb b h) hgr.size
      · exact hH1.inb b h
    · rcases h with h | ⟨h, hu⟩
      · exact hH.fr.fro b h
      · rcases hH1.fr.fro b h with h' | h' | ⟨h', _⟩
        · left; omega
        · exact hH.fr.fro b h'
        · rcases hu with hu | hu
          · rw [hu] at h'; cases h'
          · left; omega
  refine ⟨C2, rfl, hle, fun i h => ?_, hH2, ren_rep (C := C1) (C' := C2) rfl hren 8 rv v (fun hl => hFF (by rw [hl]; rfl)) hrv, ⟨hgr.os, hgr.tape, hgr.output, hgr.size, fun k hk hL => hmem k (by omega) fun id _ hb => ?_, hgr.drawn⟩⟩
  · rcases h with h | h
    · exact .inl h
    · exact .inr ⟨hM, hnew i h⟩
  · rcases hH.mine id k hb with h | h
    · omega
    · exact hL h

theorem ids_A (hH : Heap C B L hp) : ∀ (n : Nat) (c : AV) (v : Value), Rep C c v → ∀ id ∈ c.ids hp n, C.A id
  | 0, c, v, _, id, h => by simp [AV.ids] at h
  | n + 1, c, v, hr, id, h => by
    have hL : ∀ (cs : List AV) (vs : List Value), RepL C cs vs → id ∈ cs.flatMap (AV.ids hp n) → C.A id := by
      intro cs vs hr h
      obtain ⟨c, hc, hid⟩ := List.mem_flatMap.1 h
      obtain ⟨i, hi⟩ := List.mem_iff_getElem?.1 hc
      obtain ⟨v, _, hv⟩ := RepL_get cs vs hr i c hi
      exact ids_A hH n c v hv id hid
    cases c with
    | own i =>
      simp only [AV.ids, List.mem_singleton] at h
      subst h
      unfold Rep at hr
      exact hr.1
    | rptr i j sz off =>
      simp only [AV.ids, List.mem_singleton] at h
      subst h
      unfold Rep at hr
      exact hr.1
    | sub i l sz =>
      simp only [AV.ids, List.mem_singleton] at h
      subst h
      unfold Rep at hr
      exact hr.1
    | mp i =>
      simp only [AV.ids, List.mem_singleton] at h
      subst h
      unfold Rep at hr
      exact hr.1
    | ptr i off =>
      simp only [AV.ids, List.mem_cons] at h
      rcases h with rfl | h
      · unfold Rep at hr
        exact hr.1
      · split at h
        · rename_i t cs hl
          obtain ⟨pv, _, b, vs, _, _, h2⟩ := hH.som i _ hl
          exact hL cs _ h2 h
        · simp at h
    | clo f cs => simp only [AV.ids] at h; unfold Rep at hr; obtain ⟨vs, _, hr⟩ := hr; exact hL cs _ hr h
    | agg cs => simp only [AV.ids] at h; unfold Rep at hr; obtain ⟨vs, _, hr⟩ := hr; exact hL cs _ hr h
    | tup cs => simp only [AV.ids] at h; unfold Rep at hr; obtain ⟨vs, _, hr⟩ := hr; exact hL cs _ hr h
    | vptr cs off => simp only [AV.ids] at h; unfold Rep at hr; obtain ⟨b, p, vs, _, _, hr, _⟩ := hr; exact hL cs _ hr h
    | any => simp [AV.ids] at h
    | bool _ => simp [AV.ids] at h
    | int _ _ => simp [AV.ids] at h
    | str _ => simp [AV.ids] at h
    | lst _ _ => simp [AV.ids] at h
    | nils => simp [AV.ids] at h
    | zc _ _ => simp [AV.ids] at h
    | nilp => simp [AV.ids] at h
    | nilf => simp [AV.ids] at h
    | nili => simp [AV.ids] at h
    | nilm => simp [AV.ids] at h
    | ifn => simp [AV.ids] at h
    | ub => simp [AV.ids] at h
    | gp g o => simp [AV.ids] at h

theorem acall_ok (hH : Heap C B L hp) (hB : B ≤ C.w.heap.size) (hf : Free C (o.dst.getD 0)) (hΓ : ∀ f, (∃ avs hin, E.fns f avs hin ≠ none) → FnOk P f (E.fns f)) {c : Call} (ho : o.op = .call c) {fo : Operand} (hc : c.callee = .value fo) {g : FuncId} {caps : List AV}
    (hfv : Rep C (.clo g caps) (a.eval fo)) {avs : List AV} (hargs : RepL C avs (c.args.toList.map a.eval))
    (h : acall E hp (o.dst.getD 0) k g (avs ++ caps) = some r) : OpOK P o a C B L hp k r := by
  unfold Rep at hfv
  obtain ⟨vcaps, hv, hrc⟩ := hfv
  have hall : RepL C (avs ++ caps) (c.args.toList.map a.eval ++ vcaps.toList) := RepL_append _ _ _ _ hargs hrc
  have harr : (c.args.toList.map a.eval ++ vcaps.toList).toArray = c.args.map a.eval ++ vcaps := by
    apply Array.ext'; simp
  have hex : FnOk P g (E.fns g) → (execOp a.eval o).run P C.w = .ok (.enter g (c.args.map a.eval ++ vcaps)) C.w := by
    intro hfn
    obtain ⟨fn, hfn1, hfn2, hfn3⟩ := hfn.enter
    simp only [execOp, ho, resolve, hc, hv, Deferred.ofValue, invoke, callFunc, Sem.run_bind, Sem.run_pure, Result.andThen_ok, run_program, hfn1]
    simp [hfn2, hfn3]
  have hmk : makes o = true := by simp only [makes, ho]; split <;> simp_all
  unfold acall at h
  split at h
  · -- lent
    rw [fNs_eq] at h
    split at h
    · cases h
    rename_i hin hg
    rw [fL_eq fA_eq, fBs_eq] at h
    rw [bnd_def] at h
    obtain ⟨⟨rv, hout⟩, hE, h⟩ := Option.bind_eq_some_iff.1 h
    simp only at h
    split at h
    · cases h
    rename_i hchk
    simp only [Bool.or_eq_true, decide_eq_true_eq, not_or, Nat.not_lt] at hchk
    obtain ⟨⟨hm1, hm2⟩, hm3⟩ := hchk
    generalize hl : lent hp (avs ++ caps) = l at *
    have hn : l.Nodup := by rw [← hl]; exact (dedup_spec _ _).1
    have hmemd : ∀ (xs seen : List Nat) x, x ∈ dedup seen xs → x ∈ xs := by
      intro xs
      induction xs with
      | nil => intro seen x h; simp [dedup] at h
      | cons y ys ih =>
        intro seen x h
        unfold dedup at h
        split at h
        · exact List.mem_cons_of_mem _ (ih _ x h)
        · rcases List.mem_cons.1 h with rfl | h
          · simp
          · exact List.mem_cons_of_mem _ (ih _ x h)
    have hA : ∀ id ∈ l, C.A id := by
      intro id hid
      rw [← hl] at hid
      obtain ⟨c, hcm, hid⟩ := List.mem_flatMap.1 (hmemd _ _ _ hid)
      obtain ⟨i, hi⟩ := List.mem_iff_getElem?.1 hcm
      obtain ⟨v, _, hv⟩ := RepL_get _ _ hall i c hi
      exact ids_A hH 8 c v hv id hid
    have hfn := hΓ g ⟨_, _, by rw [hE]; simp⟩
    obtain ⟨hlen, hgi⟩ := gather_spec l hin hg
    have hcl : Heap (C.named l) C.w.heap.size (callFr C l false hm3) (ofL hin) := by
      have := named_heap (l := l) hH hn (B' := C.w.heap.size) (L' := callFr C l false hm3) (fun i b hb => .inr ⟨i, hb⟩) ⟨fun b hb => .inr (.inl hb), fun i pv _ h => h, fun i hi => hi⟩
      have he : ofL hin = fun (j : Nat) => ((l.map fun id => (hp id).map (Ob.ren (idx l)))[j]?).join := by
        funext j; exact hgi j
      rw [he]; exact this
    have hca : RepL (C.named l) ((avs ++ caps).map (AV.ren (idx l) 8)) (c.args.toList.map a.eval ++ vcaps.toList) :=
      RepL_map _ _ (fun c v _ hcv => ren_rep (C := C) (C' := C.named l) rfl named_ren 8 c v (fun _ b hb => hb) hcv) hall
    have hcall := hfn.calls _ hin rv hout hE (C.named l) (callFr C l false hm3) _ hcl (by simp [callFr, hlen]) hca
    intro next Q hnx
    unfold Oper.wp
    rw [hex hfn]
    show Calls P g _ C.w _
    rw [harr] at hcall
    refine Calls.mono hcall ?_
    rintro e w' ⟨v, C1, rfl, hw, hrv, hH1, hgr⟩
    show next (a.put o.dst v) w'
    subst hw
    obtain ⟨C2, hw2, hP⟩ := acall_core (ow := false) (M := makes o = true) hH hB hf hn hm3 hA (fun h => by cases h) hm1 hm2 hrv hH1 hgr (fun h => by cases h) hmk
    rw [← hw2]
    exact hnx _ _ v C2 h hP
  · rw [fL_eq fA_eq] at h
    rw [bnd_def] at h
    obtain ⟨⟨rv, hout⟩, hE, h⟩ := Option.bind_eq_some_iff.1 h
    simp only at h
    split at h
    · cases h
    rename_i hchk
    simp only [Bool.or_eq_true, Bool.and_eq_true, decide_eq_true_eq, not_or, not_and, Nat.not_lt] at hchk
    obtain ⟨hlook, hm⟩ := hchk
    have hfn := hΓ g ⟨_, _, by rw [hE]; simp⟩
    have h0 : ([] : List Nat).length ≤ 1000 := by simp
    let C0 : Ctx := ⟨fun _ => False, fun b => C.F b ∨ ((avs ++ caps).any (AV.owns 8) = true ∧ ∃ i, C.own i b), fun _ => none, C.w, fun _ _ => False⟩
    have himm : RepL C0 ((avs ++ caps).map (AV.imm hp 8)) (c.args.toList.map a.eval ++ vcaps.toList) := by
      refine RepL_map _ _ (fun c v hcm hcv => imm_rep hH (fun b hb => .inl hb) 8 c v (fun h1 i b hb => .inr ⟨?_, i, hb⟩) hcv) hall
      simp only [List.any_eq_true]
      exact ⟨c, hcm, h1⟩
    have hcl : Heap C0 C.w.heap.size (callFr C [] ((avs ++ caps).any (AV.owns 8)) h0) (ofL []) := by
      refine ⟨fun _ _ => rfl, fun i o h => by simp [ofL] at h, fun i h => by simp [ofL] at h, fun i j b h => by simp [C0, Ctx.own, blk] at h, fun i b h => by simp [C0, Ctx.own, blk] at h, fun i b h => by simp [C0, Ctx.own, blk] at h, fun i b h => by simp [C0, Ctx.own, blk] at h, ?_, ⟨fun b h => .inr h, fun i pv hi => by simp [callFr] at hi, fun i hi => by simp [callFr] at hi⟩, hH.glob.mono (fun _ h => .inl h) (fun _ _ => rfl)⟩
      rintro b (hb | ⟨_, i, hb⟩)
      · exact hH.inb b hb
      · exact hH.lto _ _ hb
    have hcall := hfn.calls _ [] rv hout hE C0 _ _ hcl (by simp [callFr]) himm
    intro next Q hnx
    unfold Oper.wp
    rw [hex hfn]
    show Calls P g _ C.w _
    rw [harr] at hcall
    refine Calls.mono hcall ?_
    rintro e w' ⟨v, C1, rfl, hw, hrv, hH1, hgr⟩
    show next (a.put o.dst v) w'
    subst hw
    obtain ⟨C2, hw2, hP⟩ := acall_core (ow := (avs ++ caps).any (AV.owns 8)) (M := makes o = true) hH hB hf (l := []) (by simp) h0 (fun id h => by simp at h) (fun h => rfl) hm (by simp) hrv hH1 hgr (fun h => by simpa using hlook h) hmk
    rw [← hw2]
    exact hnx _ _ v C2 h hP

end
end Go.Sym
