/- The symbolic machine and the model: a region in whatever order. -/
import Derived.Test.YtmphbdhjdalgnaaGreatDoorSymQ
namespace Go.Sym
set_option linter.unusedVariables false
set_option linter.unusedSimpArgs false
set_option linter.unusedSectionVars false
variable [Globs] [Dm]

section
variable {R : Type} {P : Program} {E : Env} {C : Ctx} {n B : Nat} {L : Fr} {s : S} {a : Act} {r : R} {o : Oper} {ops : Array Oper}

theorem foldl_bits (f : Nat → Nat) : ∀ (l : List Nat) (z j : Nat), (l.foldl (fun s d => s ||| (2 ^ d ||| f d)) z).testBit j = true → z.testBit j = true ∨ ∃ d ∈ l, d = j ∨ (f d).testBit j = true
  | [], z, j, h => .inl h
  | d :: l, z, j, h => by
    rw [List.foldl_cons] at h
    rcases foldl_bits f l _ j h with h | ⟨d', h1, h2⟩
    · rw [Nat.testBit_or, Nat.testBit_or, Bool.or_eq_true, Bool.or_eq_true] at h
      rcases h with h | h | h
      · exact .inl h
      · exact .inr ⟨d, by simp, .inl (by simpa [Nat.testBit_two_pow] using h)⟩
      · exact .inr ⟨d, by simp, .inr h⟩
    · exact .inr ⟨d', by simp [h1], h2⟩

theorem aheads_get : ∀ (os : List Oper) (acc : List Nat) (q : Nat) (o : Oper) (m : Nat), os[q]? = some o → (aheads os acc)[q]? = some m →
    m = (direct o).foldl (fun s j => s ||| (2 ^ j ||| (acc ++ (aheads os acc).take q).getD j 0)) 0
  | [], acc, q, o, m, h, _ => by simp at h
  | x :: os, acc, 0, o, m, h, h' => by
    simp only [List.getElem?_cons_zero, Option.some.injEq] at h
    subst h
    simp only [aheads, List.getElem?_cons_zero, Option.some.injEq] at h'
    simp [aheads, ← h']
  | x :: os, acc, q + 1, o, m, h, h' => by
    simp only [List.getElem?_cons_succ] at h
    simp only [aheads, List.getElem?_cons_succ] at h'
    have := aheads_get os _ q o m h h'
    simp only [aheads, List.take_succ_cons]
    simpa [List.append_assoc] using this

theorem aheads_len : ∀ (os : List Oper) (acc : List Nat), (aheads os acc).length = os.length
  | [], _ => rfl
  | x :: os, acc => by simp [aheads, aheads_len os]

theorem pairs_get : ∀ (os : List Oper) (es : List Ent) (ms : List Nat) (j : Nat) (seen : List (Oper × Ent × Nat)), pairsOk ops os es ms j seen = true →
    ∀ (q : Nat) o e m, os[q]? = some o → es[q]? = some e → ms[q]? = some m →
      (∀ d ∈ direct o, d < j + q) ∧ (∀ x ∈ seen, pairOk ops o e m (j + q) x = true) ∧ (∀ p o' e', p < q → os[p]? = some o' → es[p]? = some e' → pairOk ops o e m (j + q) (o', e', j + p) = true)
  | [], es, ms, j, seen, h, q, o, e, m, h1, _, _ => by simp at h1
  | x :: os, [], ms, j, seen, h, q, o, e, m, _, h2, _ => by simp at h2
  | x :: os, y :: es, [], j, seen, h, q, o, e, m, _, _, h3 => by simp at h3
  | x :: os, y :: es, z :: ms, j, seen, h, 0, o, e, m, h1, h2, h3 => by
    simp only [List.getElem?_cons_zero, Option.some.injEq] at h1 h2 h3
    subst h1; subst h2; subst h3
    simp only [pairsOk, Bool.and_eq_true, List.all_eq_true, decide_eq_true_eq] at h
    exact ⟨by simpa using h.1.1, by simpa using h.1.2, fun p _ _ hp => by omega⟩
  | x :: os, y :: es, z :: ms, j, seen, h, q + 1, o, e, m, h1, h2, h3 => by
    simp only [List.getElem?_cons_succ] at h1 h2 h3
    simp only [pairsOk, Bool.and_eq_true] at h
    obtain ⟨g1, g2, g3⟩ := pairs_get os es ms (j + 1) _ h.2 q o e m h1 h2 h3
    have hj : j + 1 + q = j + (q + 1) := by omega
    rw [hj] at g1 g2 g3
    refine ⟨g1, fun x hx => g2 x (by simp [hx]), fun p o' e' hp h1' h2' => ?_⟩
    cases p with
    | zero =>
      simp only [List.getElem?_cons_zero, Option.some.injEq] at h1' h2'
      subst h1'; subst h2'
      exact g2 _ (by simp)
    | succ p =>
      simp only [List.getElem?_cons_succ] at h1' h2'
      have := g3 p o' e' (by omega) h1' h2'
      rwa [show j + 1 + p = j + (p + 1) by omega] at this

/-- The items that are not yet done, with their places. -/
def left (T : List Item) (listed : Array Bool) : List (Item × Nat) := T.zipIdx.filter fun p => !listed.getD p.2 true

theorem left_mem {T : List Item} {listed : Array Bool} {x : Item} {i : Nat} : (x, i) ∈ left T listed ↔ T[i]? = some x ∧ listed.getD i true = false := by
  unfold left
  rw [List.mem_filter, List.mk_mem_zipIdx_iff_getElem?]
  simp

theorem left_set {T : List Item} {listed : Array Bool} {l1 l2 : List (Item × Nat)} {x : Item} {i : Nat} (h : left T listed = l1 ++ (x, i) :: l2) : left T (listed.setIfInBounds i true) = l1 ++ l2 := by
  have hi : (x, i) ∈ left T listed := by rw [h]; simp
  obtain ⟨hx, hl⟩ := left_mem.1 hi
  have hlt : i < listed.size := by
    rw [Array.getD_eq_getD_getElem?] at hl
    cases hq : listed[i]? with
    | none => rw [hq] at hl; simp at hl
    | some b => exact (Array.getElem?_eq_some_iff.1 hq).1
  have hnew : left T (listed.setIfInBounds i true) = (left T listed).filter fun p => p.2 != i := by
    unfold left
    rw [List.filter_filter]
    apply List.filter_congr
    rintro ⟨y, j⟩ _
    simp only
    by_cases he : j = i
    · subst he
      simp [Array.getD_eq_getD_getElem?, hlt]
    · have : (listed.setIfInBounds i true).getD j true = listed.getD j true := by
        simp [Array.getD_eq_getD_getElem?, Array.getElem?_setIfInBounds_ne (fun e => he e.symm)]
      rw [this]
      simp [he]
  have hnd : ((left T listed).map (·.2)).Nodup := by
    unfold left
    refine List.Nodup.sublist (List.Sublist.map _ List.filter_sublist) ?_
    simp [List.zipIdx_map_snd, List.nodup_range']
  rw [hnew, h]
  rw [h] at hnd
  simp only [List.map_append, List.map_cons] at hnd
  rw [List.nodup_append] at hnd
  obtain ⟨n1, n2, n3⟩ := hnd
  rw [List.nodup_cons] at n2
  rw [List.filter_append, List.filter_cons]
  simp only [bne_self_eq_false, Bool.false_eq_true, if_false]
  congr 1
  · apply List.filter_eq_self.2
    rintro ⟨y, j⟩ hy
    simp only [bne_iff_ne]
    exact n3 j (List.mem_map.2 ⟨_, hy, rfl⟩) i (by simp)
  · apply List.filter_eq_self.2
    rintro ⟨y, j⟩ hy
    simp only [bne_iff_ne]
    rintro rfl
    exact n2.1 (List.mem_map.2 ⟨_, hy, rfl⟩)

theorem ready_iff {listed : Array Bool} {i : Nat} : i ∈ Region.ready .any ops listed ↔ ∃ o, ops[i]? = some o ∧ listed.getD i true = false ∧ ∀ d ∈ direct o, listed.getD d false = true := by
  unfold Region.ready
  rw [List.mem_filter, List.mem_range]
  constructor
  · rintro ⟨h1, h2⟩
    simp only [Bool.and_eq_true, Bool.not_eq_true'] at h2
    refine ⟨ops[i], by simp [h1], h2.1, fun d hd => ?_⟩
    have h3 := h2.2
    rw [Array.getElem?_eq_getElem h1] at h3
    simp only [Option.map_some, Option.getD_some] at h3
    unfold direct at hd
    obtain ⟨e, he, hed⟩ := List.mem_filterMap.1 hd
    split at hed
    · rename_i hb
      cases hed
      rw [Array.all_eq_true_iff_forall_mem] at h3
      have := h3 e (by simpa using he)
      simp only [Bool.or_eq_true, Bool.not_eq_true', hb, Bool.true_eq_false, false_or] at this
      exact this
    · cases hed
  · rintro ⟨o, h1, h2, h3⟩
    obtain ⟨hlt, ho⟩ := Array.getElem?_eq_some_iff.1 h1
    refine ⟨hlt, ?_⟩
    simp only [Bool.and_eq_true, Bool.not_eq_true']
    refine ⟨h2, ?_⟩
    rw [h1]
    simp only [Option.map_some, Option.getD_some]
    rw [Array.all_eq_true_iff_forall_mem]
    intro e he
    simp only [Bool.or_eq_true, Bool.not_eq_true']
    cases hb : Region.binds .any e with
    | false => exact .inl rfl
    | true => exact .inr (h3 e.on (List.mem_filterMap.2 ⟨e, by simpa using he, by rw [if_pos hb]⟩))

theorem keep_true {listed : Array Bool} {i q : Nat} (hq : listed.getD q false = true) : (listed.setIfInBounds i true).getD q false = true := by
  rw [Array.getD_eq_getD_getElem?] at hq ⊢
  by_cases h : i = q
  · subst h
    have hlt : i < listed.size := by
      cases hx : listed[i]? with
      | none => rw [hx] at hq; simp at hq
      | some b => exact (Array.getElem?_eq_some_iff.1 hx).1
    simp [hlt]
  · rw [Array.getElem?_setIfInBounds_ne h]; exact hq

/-- A region's items, in any order that its edges allow. -/
theorem any_ok (hE : Facts P E) {Q : Exit → Act → World → Prop} {T : List Item} {s' : S} (hT : T.map (·.1) = ops.toList) (hok : drawOk ops (T.map (·.2.2.2)) = true) (hd : ∀ o ∈ ops.toList, ∀ d, o.dst = some d → d < n)
    (hn : ∀ (i j : Nat) o o', ops[i]? = some o → ops[j]? = some o' → makes o = true → makes o' = true → o.dst.getD 0 = o'.dst.getD 0 → i = j) :
    ∀ (fuel : Nat) (listed : Array Bool) (C : Ctx) (s : S) (a : Act), Rel n B L C s a → (left T listed).length = fuel → Runs E ops ((left T listed).map (·.1)) s s' → listed.size = ops.size →
      (∀ (i : Nat) o, ops[i]? = some o → listed.getD i true = true → ∀ d ∈ direct o, listed.getD d false = true) → (∀ (i : Nat) o, ops[i]? = some o → listed.getD i true = false → makes o = true → Free C (o.dst.getD 0)) →
      (∀ C' a', Rel n B L C' s' a' → Gr B L C.w C'.w → Q .normal a' C'.w) → wpAny P .any ops Q fuel listed a C.w := by
  have hlen : T.length = ops.size := by have := congrArg List.length hT; simpa using this
  have hget : ∀ (i : Nat) x, T[i]? = some x → ops[i]? = some x.1 := by
    intro i x hx
    have : (T.map (·.1))[i]? = some x.1 := by simp [hx]
    rw [hT] at this
    simpa using this
  have hpairs := pairs_get _ _ _ 0 [] hok
  -- what stands ahead of an operation that is ready is done
  have hahead : ∀ (listed : Array Bool), (∀ (i : Nat) o, ops[i]? = some o → listed.getD i true = true → ∀ d ∈ direct o, listed.getD d false = true) → ∀ (i : Nat) (x : Item), T[i]? = some x → (∀ d ∈ direct x.1, listed.getD d false = true) →
      ∀ j m, (aheads ops.toList [])[i]? = some m → m.testBit j = true → listed.getD j false = true := by
    intro listed hdown i
    induction i using Nat.strongRecOn with
    | _ i ih =>
      intro x hx hdir j m hm hb
      have hox := hget i x hx
      have hm' := aheads_get ops.toList [] i x.1 m (by simpa using hox) hm
      rw [hm'] at hb
      rcases foldl_bits (fun j => (([] : List Nat) ++ (aheads ops.toList []).take i).getD j 0) _ 0 j hb with h | ⟨d, h1, h2⟩
      · simp at h
      · have hdl := hdir d h1
        rcases h2 with rfl | h2
        · exact hdl
        · have hdi : d < i := by
            have := (hpairs i x.1 x.2.2.2 m (by simpa using hox) (by simp [hx]) hm).1 d h1
            simpa using this
          have hdT : d < T.length := by have := (List.getElem?_eq_some_iff.1 hx).1; omega
          have hda : d < (aheads ops.toList []).length := by rw [aheads_len]; simp; omega
          have htrue : listed.getD d true = true := by
            rw [Array.getD_eq_getD_getElem?] at hdl ⊢
            cases hq : listed[d]? with
            | none => rw [hq] at hdl; simp at hdl
            | some b => rw [hq] at hdl; simpa using hdl
          have hf : (([] : List Nat) ++ (aheads ops.toList []).take i).getD d 0 = (aheads ops.toList [])[d] := by
            simp [List.getD, hdi, List.getElem?_eq_getElem hda]
          simp only [hf] at h2
          exact ih d hdi T[d] (by simp [hdT]) (hdown d T[d].1 (hget d _ (by simp [hdT])) htrue) j _ (by simp [hda]) h2
  intro fuel
  induction fuel with
  | zero =>
    intro listed C s a hR hfl hruns hsz hdown hfree hQ
    have h0 : left T listed = [] := List.eq_nil_of_length_eq_zero hfl
    rw [h0] at hruns
    simp only [List.map_nil, Runs] at hruns
    subst hruns
    refine ⟨?_, hQ C a hR (Gr.refl _ _ _)⟩
    apply List.eq_nil_iff_forall_not_mem.2
    intro i hi
    obtain ⟨o, h1, h2, _⟩ := ready_iff.1 hi
    have hlt : i < T.length := by rw [hlen]; exact (Array.getElem?_eq_some_iff.1 h1).1
    have : (T[i], i) ∈ left T listed := left_mem.2 ⟨by simp [hlt], h2⟩
    rw [h0] at this
    simp at this
  | succ fuel ih =>
    intro listed C s a hR hfl hruns hsz hdown hfree hQ
    refine ⟨fun hnil => ?_, fun i hi => ?_⟩
    · -- something is ready: the first that is not done
      exfalso
      cases hl : left T listed with
      | nil => rw [hl] at hfl; simp at hfl
      | cons p rest =>
        obtain ⟨x, i⟩ := p
        have hm : (x, i) ∈ left T listed := by rw [hl]; simp
        obtain ⟨h1, h2⟩ := left_mem.1 hm
        have hox := hget i x h1
        have hmin : ∀ j, j < i → listed.getD j true = true := by
          intro j hj
          cases hb : listed.getD j true with
          | true => rfl
          | false =>
            have hjT : j < T.length := by have := (List.getElem?_eq_some_iff.1 h1).1; omega
            have hmj : (T[j], j) ∈ left T listed := left_mem.2 ⟨by simp [hjT], hb⟩
            have hsorted : ((left T listed).map (·.2)).Pairwise (· < ·) := by
              unfold left
              refine List.Pairwise.sublist (List.Sublist.map _ List.filter_sublist) ?_
              simp [List.zipIdx_map_snd, List.pairwise_lt_range']
            rw [hl] at hmj hsorted
            rcases List.mem_cons.1 hmj with e | e
            · cases e; omega
            · simp only [List.map_cons, List.pairwise_cons] at hsorted
              have := hsorted.1 j (List.mem_map.2 ⟨_, e, rfl⟩)
              omega
        have hmA : ∃ m, (aheads ops.toList [])[i]? = some m := by
          have : i < (aheads ops.toList []).length := by rw [aheads_len]; have := (Array.getElem?_eq_some_iff.1 hox).1; simpa using this
          exact ⟨_, List.getElem?_eq_getElem this⟩
        obtain ⟨m, hm'⟩ := hmA
        have hready : i ∈ Region.ready .any ops listed := by
          refine ready_iff.2 ⟨x.1, hox, h2, fun d hd => ?_⟩
          have hdi := (hpairs i x.1 x.2.2.2 m (by simpa using hox) (by simp [h1]) hm').1 d hd
          have := hmin d (by simpa using hdi)
          have hds : d < listed.size := by rw [hsz, ← hlen]; have := (List.getElem?_eq_some_iff.1 h1).1; omega
          rw [Array.getD_eq_getD_getElem?] at this ⊢
          rw [Array.getElem?_eq_getElem hds] at this ⊢
          simpa using this
        rw [hnil] at hready
        simp at hready
    · obtain ⟨o, h1, h2, h3⟩ := ready_iff.1 hi
      have hiT : i < T.length := by rw [hlen]; exact (Array.getElem?_eq_some_iff.1 h1).1
      obtain ⟨xi, hxi⟩ : ∃ x, T[i]? = some x := ⟨T[i], by simp [hiT]⟩
      have hm : (xi, i) ∈ left T listed := left_mem.2 ⟨hxi, h2⟩
      obtain ⟨l1, l2, hl⟩ := List.append_of_mem hm
      have ho : xi.1 = o := by have := hget i xi hxi; rw [h1] at this; cases this; rfl
      have hmA : ∃ m, (aheads ops.toList [])[i]? = some m := by
        have : i < (aheads ops.toList []).length := by rw [aheads_len]; have := (Array.getElem?_eq_some_iff.1 h1).1; simpa using this
        exact ⟨_, List.getElem?_eq_getElem this⟩
      obtain ⟨m, hm'⟩ := hmA
      have hpi := hpairs i o xi.2.2.2 m (by simpa using h1) (by simp [hxi]) hm'
      have hsorted : ((left T listed).map (·.2)).Pairwise (· < ·) := by
        unfold left
        refine List.Pairwise.sublist (List.Sublist.map _ List.filter_sublist) ?_
        simp [List.zipIdx_map_snd, List.pairwise_lt_range']
      have hfront := hruns
      rw [hl] at hfront hsorted
      simp only [List.map_append, List.map_cons] at hfront hsorted
      have hrun2 := Runs.front (l1.map (·.1)) xi (l2.map (·.1)) s s' hfront (by
        intro y hy
        obtain ⟨⟨y', j⟩, hyj, rfl⟩ := List.mem_map.1 hy
        have hmy : (y', j) ∈ left T listed := by rw [hl]; simp [hyj]
        obtain ⟨q1, q2⟩ := left_mem.1 hmy
        have hji : j < i := by
          rw [List.pairwise_append] at hsorted
          exact hsorted.2.2 j (List.mem_map.2 ⟨_, hyj, rfl⟩) i (by simp)
        have hp := hpi.2.2 j y'.1 y'.2.2.2 hji (by simpa using hget j y' q1) (by simp [q1])
        simp only [pairOk, Bool.or_eq_true, Nat.zero_add] at hp
        rcases hp with hp | hp
        · exfalso
          have := hahead listed hdown i xi hxi (by rw [ho]; exact h3) j m hm' hp
          rw [Array.getD_eq_getD_getElem?] at this q2
          cases hq : listed[j]? with
          | none => rw [hq] at this; simp at this
          | some b => rw [hq] at this q2; simp at this q2; rw [this] at q2; cases q2
        · rw [ho]; exact hp)
      obtain ⟨he, hent, hrest⟩ := hrun2
      rw [ho] at he
      refine eff_ok hE hR h1 (hd o (by have := (Array.getElem?_eq_some_iff.1 h1); exact Array.mem_toList_iff.2 (Array.mem_of_getElem? h1))) (fun hmk => hfree i o h1 h2 hmk) he (fun C' a' hR' hA hgr => ?_)
      have hleft := left_set hl
      refine ih (listed.setIfInBounds i true) C' _ a' hR' ?_ ?_ (by simpa using hsz) ?_ ?_ (fun C2 a2 q1 q2 => hQ C2 a2 q1 (hgr.trans q2))
      · rw [hleft]; rw [hl] at hfl; simp at hfl ⊢; omega
      · rw [hleft, List.map_append]; rw [ho] at hrest; exact hrest
      · intro j o' hj hlj d hdm
        have hkeep : ∀ q, listed.getD q false = true → (listed.setIfInBounds i true).getD q false = true := fun q hq => keep_true hq
        by_cases he' : j = i
        · subst he'
          rw [h1] at hj; cases hj
          exact hkeep d (h3 d hdm)
        · have : listed.getD j true = true := by
            rw [Array.getD_eq_getD_getElem?] at hlj ⊢
            rwa [Array.getElem?_setIfInBounds_ne (fun e => he' e.symm)] at hlj
          exact hkeep d (hdown j o' hj this d hdm)
      · intro j o' hj hlj hmk id hid hAid
        have hji : j ≠ i := by
          rintro rfl
          have hlt : j < listed.size := by rw [hsz]; exact (Array.getElem?_eq_some_iff.1 h1).1
          simp [Array.getD_eq_getD_getElem?, hlt] at hlj
        have hlj' : listed.getD j true = false := by
          rw [Array.getD_eq_getD_getElem?] at hlj ⊢
          rwa [Array.getElem?_setIfInBounds_ne (fun e => hji e.symm)] at hlj
        rcases hA id hAid with hA | ⟨hA1, hA2⟩
        · exact hfree j o' hj hlj' hmk id hid hA
        · exact hji (hn j i o' o hj h1 hmk hA1 (Nat.add_right_cancel ((Eq.symm hid).trans hA2)))

end
end Go.Sym
