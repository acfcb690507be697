/- The symbolic machine and the model: append. -/
import Derived.Test.YtmphbdhjdalgnaaGreatDoorSymJO
import Derived.Lib.AppendStr
namespace Go.Sym
set_option linter.unusedVariables false
set_option linter.unusedSimpArgs false
set_option linter.unusedSectionVars false
variable [Globs] [Dm]

section
variable {R : Type} {P : Program} {E : Env} {C : Ctx} {B : Nat} {L : Fr} {hp : Nat → Option Ob} {k : AV → Sets → Option R} {r : R} {o : Oper} {a : Act}

/-- A source of elements: nothing, or a slice that leads to their cells. -/
def Src (C : Ctx) (e : ET) (zs : List e.T) (v : Value) : Prop :=
  (zs = [] ∧ ∃ a c, v = .slice a 0 c) ∨ ∃ ad c css, v = .slice (some ad) zs.length c ∧ All2 (RepT C.F C.w e) zs css ∧ ∀ j u, css.flatten[j]? = some u → C.w.cell? (ad.add j) = some u

theorem lst_src {e : ET} {ys : List e.T} {v : Value} (h : RepT C.F C.w (.lst e) ys [v]) : Src C e ys v := by
  obtain ⟨a, c, h1, h2, h3⟩ := h
  simp at h1; subst h1
  rcases h3 with rfl | ⟨b, o, css, rfl, _, h4, h5⟩
  · exact .inl ⟨rfl, a, c, rfl⟩
  · exact .inr ⟨_, c, css, rfl, h4, fun j u hj => by rw [Addr.add']; exact h5 j u hj⟩

theorem row_src {t : TypeId} {e : ET} {ys : List e.T} {pv : Value} (h : RowRep C t e ys pv) : Src C e ys pv := by
  rcases h with ⟨rfl, a, rfl⟩ | ⟨g, cap, cur, css, rfl, h0, hg, h1, h2, h3, h4, h5⟩
  · exact .inl ⟨rfl, a, 0, rfl⟩
  · refine .inr ⟨_, cap, css, rfl, h4, fun j u hj => ?_⟩
    rw [Addr.add', Nat.zero_add, cell_of_row C.w g _ cur t (0, 0) hg]
    rw [← h5, List.getElem?_take] at hj
    split at hj
    · simpa using hj
    · cases hj

theorem asrc_ok (hH : Heap C B L hp) {e : ET} {v : AV} {x : Value} {zs : List e.T} (h : asrc hp e v = some zs) (hv : Rep C v x) : Src C e zs x := by
  unfold asrc at h
  split at h
  · rename_i e' ys
    split at h
    · rename_i he
      subst he
      cases h
      unfold Rep at hv
      exact lst_src hv
    · cases h
  · rename_i id
    split at h
    · rename_i t e' ys hb
      split at h
      · rename_i he
        subst he
        cases h
        obtain ⟨pv, hρ, hob⟩ := hH.som id _ hb
        unfold Rep at hv
        rw [hv.2.2 pv hρ]
        exact row_src hob
      · cases h
    · cases h
  · rename_i id lo sz
    split at h
    · rename_i t e' ys hb
      split at h
      · rename_i he
        subst he
        split at h
        · rename_i hsz
          subst hsz
          cases h
          obtain ⟨pv, hρ, hob⟩ := hH.som id _ hb
          unfold Rep at hv
          obtain ⟨_, _, hv⟩ := hv
          obtain ⟨p, N, c, hpv, hx⟩ := hv pv hρ
          subst hpv
          rcases hob with ⟨hn, a', he⟩ | ⟨g, cap, cur, css, he, h0, hg, h1, h2, h3, h4, h5⟩
          · cases he
            rw [Nat.zero_sub] at hx
            exact .inl ⟨by rw [hn]; exact List.drop_nil, _, _, hx⟩
          · cases he
            by_cases hl : ys.length ≤ lo
            · rw [show ys.length - lo = 0 by omega] at hx
              exact .inl ⟨List.drop_of_length_le hl, _, _, hx⟩
            · have hcl := All2.lens _ _ h4
              have hll := All2.length _ _ h4
              refine .inr ⟨⟨g, lo * e'.sz, none⟩, c - lo, css.drop lo, ?_, All2_drop _ _ _ h4, fun j u hj => ?_⟩
              · rw [hx, if_neg (by omega), List.length_drop]
                simp [Addr.add]
                exact fun h => h.symm
              · rw [flatten_dropn _ _ hcl (by omega), ← h5, List.getElem?_drop, List.getElem?_take] at hj
                rw [Addr.add', cell_of_row C.w g _ cur t (0, 0) hg]
                split at hj
                · simpa using hj
                · cases hj
        · cases h
      · cases h
    · cases h
  · cases h; unfold Rep at hv; exact .inl ⟨rfl, none, 0, hv⟩
  · cases h; unfold Rep at hv; exact .inl ⟨rfl, none, 0, hv⟩
  · cases h

theorem flat_one {F : Nat → Prop} {w : World} : ∀ (e : ET) (x : e.T) (cs : List Value), RepT F w e x cs → ∀ v ∈ cs, v.oneCell' = true
  | .int _, _, _, h => by simp only [RepT] at h; subst h; simp [Value.oneCell']
  | .bool, _, _, h => by simp only [RepT] at h; subst h; simp [Value.oneCell']
  | .str, _, _, h => by simp only [RepT] at h; subst h; simp [Value.oneCell']
  | .pair a b, p, cs, h => by
    obtain ⟨c1, c2, rfl, h1, h2⟩ := h
    intro v hv
    rcases List.mem_append.1 hv with hv | hv
    · exact flat_one a _ _ h1 v hv
    · exact flat_one b _ _ h2 v hv
  | .lst e, _, _, h => by obtain ⟨a, c, rfl, _⟩ := h; simp [Value.oneCell']

theorem flats_one {F : Nat → Prop} {w : World} {e : ET} : ∀ (ys : List e.T) (css : List (List Value)), All2 (RepT F w e) ys css → ∀ v ∈ css.flatten, v.oneCell' = true
  | [], [], _ => by simp
  | [], _ :: _, h => h.elim
  | _ :: _, [], h => h.elim
  | x :: xs, c :: css, ⟨h1, h2⟩ => by
    intro v hv
    rw [List.flatten_cons] at hv
    rcases List.mem_append.1 hv with hv | hv
    · exact flat_one _ _ _ h1 v hv
    · exact flats_one xs css h2 v hv

theorem run_append_zero_str {t t2 ty el : TypeId} {ti : TI} (ht : P.underlying t = some (.slice el)) (hu : P.underlying t2 = some .string) (hE : TyRow P el ti) (w : World) {s : ByteArray} (hs : s.size = 0) {base : Option Addr} {n cap : Nat} (hn : n ≤ cap) :
    (Builtin.append_ #[t, t2] ty #[.slice base n cap, .string s]).run P w = .ok (.slice base n cap) w := by
  have hf := Lib.run_firstCells_string (P := P) w ti.size s
  have hc : Lib.strCells s = [] := List.eq_nil_of_length_eq_zero (by rw [Lib.strCells_length, hs])
  rw [hs, hc] at hf
  cases base <;> simp [Builtin.append_, run_underlying ht, run_underlying hu, run_size' hE, Builtin.lenOf, hs, hn, hf, storeCells]

theorem run_append_nil_str (w : World) (t t2 ty e : TypeId) (i : TypeInfo) (z : Value) (ht : P.underlying t = some (.slice e)) (hu : P.underlying t2 = some .string) (hi : P.info? e = some i) (hz : i.zero = some z)
    (s : ByteArray) (h0 : 0 < s.size) (h63 : (s.size : Int) ≤ 9223372036854775807) (h48 : s.size * i.bytes ≤ 281474976710656) :
    (Builtin.append_ #[t, t2] ty #[.slice none 0 0, .string s]).run P w =
      .ok (.slice (some ⟨w.heap.size, 0, none⟩) s.size (grownCap w s.size 0 e)) (w.drew.alloc (.cells ((Lib.strCells s).toArray ++ Builtin.zeroCells z.cells (grownCap w s.size 0 e - s.size)) e)) := by
  have hn : s.size ≠ 0 := by omega
  have h63' : ¬ (9223372036854775807 < (s.size : Int)) := by omega
  have h48' : ¬ (281474976710656 < Builtin.nextslicecap s.size 0 * i.bytes) := by rw [nextslicecap_zero h0]; omega
  have hf := Lib.run_firstCells_string (P := P) w.drew i.size s
  simp [Builtin.append_, run_underlying ht, run_underlying hu, sizeOf, typeInfo, zeroValue, hi, hz, Builtin.lenOf, hn, h63', h48', Question.forced, run_firstCells_none, hf, newRow, grownCap]

/-- What an append comes to: the old row is given up, the new one has a name of its own. -/
theorem append_post (hT : TyOk P E) (hH : Heap C B L hp) (hB : B ≤ C.w.heap.size) {nd : Nat} (hid : ¬ C.A nd) {t ty el : TypeId} {e : ET} {s b : Nat} {z : List AV} {ti : TI} (hR : TyRow P t ⟨.slc el e, s, b, z⟩) (hRe : TyRow P el ti) (hsz : ti.size = e.sz) (hby : 1 ≤ ti.bytes)
    {ys zs : List e.T} {pv x : Value} (hsrc : Src C e zs x) (hroom : (ys.length + zs.length) * ti.bytes ≤ room)
    (hpv : RowRep C el e ys pv) (hb1 : ∀ i b, C.own i b → blk (some pv) b → False) (hb2 : ∀ b, blk (some pv) b → ¬ C.F b) (hb3 : ∀ b, blk (some pv) b → B ≤ b ∨ L.lent b) (hb4 : ∀ b, blk (some pv) b → b < C.w.heap.size) :
    ∃ v' w', (Builtin.append_ #[t, t] ty #[pv, x]).run P C.w = .ok v' w' ∧ Le C (C.add nd v' w') ∧ Heap (C.add nd v' w') B L (setHp hp [(nd, some (.row el e (ys ++ zs)))]) ∧ Gr B L C.w w' ∧ ∃ p n c, v' = .slice p n c := by
  have hu := hR.slc
  have hni : (match P.underlying t with | some (.int _) => true | _ => false) = false := by rw [hu]
  obtain ⟨i, z', hi, hi1, hi2, hz1, hz2⟩ := hRe.get
  have hbound : (ys.length + zs.length) * i.bytes ≤ 140737488355328 := by rw [hi2]; exact hroom
  have hlen : ys.length + zs.length ≤ 140737488355328 := by
    have := Nat.mul_le_mul_left (ys.length + zs.length) hby
    unfold room at hroom; omega
  have hsi : i.size = e.sz := by rw [hi1, hsz]
  have hl0 : ti.zero.length = e.sz := by rw [hRe.zlen, hsz]
  have hzs : z'.cells.size = e.sz := by rw [hz2]; simp [hl0]
  rcases hsrc with ⟨rfl, ax, cx, rfl⟩ | ⟨ad, cx, css, rfl, hr, hcell⟩
  · -- nothing to append
    have hsl : ∃ base n cap, pv = .slice base n cap ∧ n ≤ cap := by
      rcases hpv with ⟨_, a, rfl⟩ | ⟨g, cap, cur, css, rfl, h0, hg, h1, _⟩
      · exact ⟨a, 0, 0, rfl, Nat.le_refl _⟩
      · exact ⟨_, _, cap, rfl, h1⟩
    obtain ⟨base, n, cap, rfl, hn⟩ := hsl
    refine ⟨_, C.w, run_append_zero hu hRe C.w hni hn, ?_⟩
    obtain ⟨g1, g2⟩ := hH.add' hid (w := C.w) (fun _ _ => rfl) (fun _ _ _ => rfl) (Nat.le_refl _) (o := .row el e (ys ++ [])) (pv := .slice base n cap)
      (fun hle => by rw [List.append_nil]; exact hpv.mono hle fun _ _ => rfl) hb1 hb2 hb3 hb4
    exact ⟨g1, g2, Gr.refl _ _ _, _, _, _, rfl⟩
  · by_cases hz0 : zs = []
    · subst hz0
      have hsl : ∃ base n cap, pv = .slice base n cap ∧ n ≤ cap := by
        rcases hpv with ⟨_, a, rfl⟩ | ⟨g, cap, cur, css, rfl, h0, hg, h1, _⟩
        · exact ⟨a, 0, 0, rfl, Nat.le_refl _⟩
        · exact ⟨_, _, cap, rfl, h1⟩
      obtain ⟨base, n, cap, rfl, hn⟩ := hsl
      refine ⟨_, C.w, run_append_zero hu hRe C.w hni hn, ?_⟩
      obtain ⟨g1, g2⟩ := hH.add' hid (w := C.w) (fun _ _ => rfl) (fun _ _ _ => rfl) (Nat.le_refl _) (o := .row el e (ys ++ [])) (pv := .slice base n cap)
        (fun hle => by rw [List.append_nil]; exact hpv.mono hle fun _ _ => rfl) hb1 hb2 hb3 hb4
      exact ⟨g1, g2, Gr.refl _ _ _, _, _, _, rfl⟩
    have hpos : 0 < zs.length := List.length_pos_iff.2 hz0
    have hnl : css.flatten.length = zs.length * i.size := by rw [flatten_len _ _ hr, hsi]
    -- a new block
    have grown : ∀ (oldc : List (List Value)) (old : Nat), All2 (RepT C.F C.w e) ys oldc → old < ys.length + zs.length →
        (Builtin.append_ #[t, t] ty #[pv, .slice (some ad) zs.length cx]).run P C.w = .ok (.slice (some ⟨C.w.heap.size, 0, none⟩) (ys.length + zs.length) (grownCap C.w (ys.length + zs.length) old el))
          (C.w.drew.alloc (.cells (oldc.flatten.toArray ++ css.flatten.toArray ++ Builtin.zeroCells z'.cells (grownCap C.w (ys.length + zs.length) old el - (ys.length + zs.length))) el)) →
        ∃ v' w', (Builtin.append_ #[t, t] ty #[pv, .slice (some ad) zs.length cx]).run P C.w = .ok v' w' ∧ Le C (C.add nd v' w') ∧ Heap (C.add nd v' w') B L (setHp hp [(nd, some (.row el e (ys ++ zs)))]) ∧ Gr B L C.w w' ∧ ∃ p n c, v' = .slice p n c := by
      intro oldc old ho hlt hrun
      have hge := grownCap_ge C.w (ys.length + zs.length) old el
      have hle := grownCap_le_maxLen C.w (ys.length + zs.length) old el (by unfold maxLen; omega)
      have hol := flatten_len _ _ ho
      have hnl' := flatten_len _ _ hr
      obtain ⟨g1, g2, g3⟩ := row_new hH hB hid el (ys := ys ++ zs) (css := oldc ++ css) (w := C.w.drew) (cap := grownCap C.w (ys.length + zs.length) old el)
        (cur := oldc.flatten.toArray ++ css.flatten.toArray ++ Builtin.zeroCells z'.cells (grownCap C.w (ys.length + zs.length) old el - (ys.length + zs.length))) rfl rfl rfl rfl (by simp)
        (All2.append _ _ _ _ ho hr) (by simpa using hge) hle
        (by simp only [Array.size_append, List.size_toArray, size_zeroCells, hzs, hol, hnl', ← Nat.add_mul]; congr 1; omega)
        (by
          simp only [Array.toList_append, List.append_assoc, List.length_append, List.flatten_append]
          rw [← List.append_assoc, List.take_append_of_le_length (by simp [hol, hnl', Nat.add_mul]), List.take_of_length_le (by simp [hol, hnl', Nat.add_mul])])
      simp only [List.length_append] at g1 g2
      exact ⟨_, _, hrun, g1, g2, g3, _, _, _, rfl⟩
    rcases hpv with ⟨rfl, pa, rfl⟩ | ⟨g, cap, cur, oldc, rfl, h0, hg, h1, h2, h3, h4, h5⟩
    · cases pa with
      | none =>
        refine grown [] 0 trivial (by simp; omega) ?_
        have := run_append_nil (P := P) C.w t ty el i z' hu hi hz1 ad zs.length cx css.flatten hnl hcell hpos (by omega) (by simp at hbound; omega)
        simpa using this
      | some pb =>
        refine grown [] 0 trivial (by simp; omega) ?_
        have := run_append_grow (P := P) C.w t ty el i z' hu hi hz1 pb 0 0 [] (by simp) (by simp) ad zs.length cx css.flatten hnl hcell (by omega) (by simp; omega) (growslice_fits (by omega) (by simpa using hbound))
        simpa using this
    · have hol := flatten_len _ _ h4
      by_cases hroom' : ys.length + zs.length ≤ cap
      · have hfit : ys.length * i.size + css.flatten.length ≤ cur.size := by rw [hnl, hsi, h3, ← Nat.add_mul]; exact Nat.mul_le_mul_right _ hroom'
        have hrun := run_append_room (P := P) C.w t ty el i hu hi g ys.length cap cur hg ad zs.length cx css.flatten hnl hcell (flats_one _ _ hr) hroom' hfit
        have hgF : ¬ C.F g := hb2 g (by simp [blk, h0])
        have hgρ : ∀ j b, C.own j b → b ≠ g := fun j b hb e => by subst e; exact hb1 j b hb (by simp [blk, h0])
        have hw : ∀ k, k ≠ g → (C.w.setRow g (cur.toList.take (ys.length * i.size) ++ css.flatten ++ cur.toList.drop (ys.length * i.size + css.flatten.length)).toArray).heap[k]? = C.w.heap[k]? := fun k hk => setRow_other C.w g k _ hk
        have hob : ∀ C' : Ctx, Le C C' → C'.w = C.w.setRow g (cur.toList.take (ys.length * i.size) ++ css.flatten ++ cur.toList.drop (ys.length * i.size + css.flatten.length)).toArray → RowRep C' el e (ys ++ zs) (.slice (some ⟨g, 0, none⟩) (ys.length + zs.length) cap) := by
          intro C' hle hCw
          refine .inr ⟨g, cap, _, oldc ++ css, by simp, h0, by rw [hCw]; exact setRow_heap C.w g cur _ el _ hg, by simpa using hroom', h2, ?_, ?_, ?_⟩
          · have hcl : cur.toList.length = cur.size := Array.length_toList
            simp only [List.size_toArray, List.length_append, List.length_take, List.length_drop]
            omega
          · exact All2.imp (RepT_mono hle.F hle.w e) _ _ (All2.append _ _ _ _ h4 hr)
          · simp only [List.length_append, List.flatten_append]
            rw [hsi, h5, List.take_append_of_le_length (by simp [hol, flatten_len _ _ hr, Nat.add_mul]), List.take_of_length_le (by simp [hol, flatten_len _ _ hr, Nat.add_mul])]
        obtain ⟨g1, g2⟩ := hH.add' hid (w := C.w.setRow g (cur.toList.take (ys.length * i.size) ++ css.flatten ++ cur.toList.drop (ys.length * i.size + css.flatten.length)).toArray)
          (fun b hb => hw b fun e => by subst e; exact hgF hb) (fun j b hb => hw b (hgρ j b hb)) (by simp) (o := .row el e (ys ++ zs)) (pv := .slice (some ⟨g, 0, none⟩) (ys.length + zs.length) cap)
          (fun hle => hob _ hle rfl) (fun j b hb hb' => hgρ j b hb (by simp [blk] at hb'; exact hb'.2.symm)) (fun b hb' => by simp [blk] at hb'; rw [← hb'.2]; exact hgF) (fun b hb' => hb3 b (by simp [blk, h0] at hb' ⊢; exact hb')) (fun b hb' => by simp [blk] at hb'; rw [← hb'.2]; simpa using hb4 g (by simp [blk, h0]))
        refine ⟨_, _, hrun, g1, g2, ⟨rfl, rfl, rfl, by simp, fun k hk hL => hw k fun e => ?_, fun _ => Nat.le_refl _⟩, _, _, _, rfl⟩
        subst e
        rcases hb3 k (by simp [blk, h0]) with h | h
        · omega
        · exact hL h
      · refine grown oldc cap h4 (by omega) ?_
        have hold : ∀ j v, oldc.flatten[j]? = some v → C.w.cell? ((⟨g, 0, none⟩ : Addr).add j) = some v := by
          intro j v hj
          rw [Addr.add', Nat.zero_add, cell_of_row C.w g _ cur el (0, 0) hg]
          rw [← h5, List.getElem?_take] at hj
          split at hj
          · simpa using hj
          · cases hj
        exact run_append_grow (P := P) C.w t ty el i z' hu hi hz1 ⟨g, 0, none⟩ ys.length cap oldc.flatten (by rw [hol, hsi]) hold ad zs.length cx css.flatten hnl hcell (by omega) (by omega) (growslice_fits (by omega) hbound)

/-- The same of a string's bytes. -/
theorem append_post_str (hT : TyOk P E) (hH : Heap C B L hp) (hB : B ≤ C.w.heap.size) {nd : Nat} (hid : ¬ C.A nd) {t t2 ty el : TypeId} (hstr : P.underlying t2 = some .string) {s b : Nat} {z : List AV} {ti : TI} (hR : TyRow P t ⟨.slc el (.int .u8), s, b, z⟩) (hRe : TyRow P el ti) (hsz : ti.size = (ET.int .u8).sz) (hby : 1 ≤ ti.bytes)
    {ys : List Int} {sv : ByteArray} {pv : Value} (hroom : (ys.length + (strInts sv).length) * ti.bytes ≤ room)
    (hpv : RowRep C el (.int .u8) ys pv) (hb1 : ∀ i b, C.own i b → blk (some pv) b → False) (hb2 : ∀ b, blk (some pv) b → ¬ C.F b) (hb3 : ∀ b, blk (some pv) b → B ≤ b ∨ L.lent b) (hb4 : ∀ b, blk (some pv) b → b < C.w.heap.size) :
    ∃ v' w', (Builtin.append_ #[t, t2] ty #[pv, .string sv]).run P C.w = .ok v' w' ∧ Le C (C.add nd v' w') ∧ Heap (C.add nd v' w') B L (setHp hp [(nd, some (.row el (.int .u8) (ys ++ strInts sv)))]) ∧ Gr B L C.w w' ∧ ∃ p n c, v' = .slice p n c := by
  have hu := hR.slc
  have hni : (match P.underlying t with | some (.int _) => true | _ => false) = false := by rw [hu]
  obtain ⟨i, z', hi, hi1, hi2, hz1, hz2⟩ := hRe.get
  have hbound : (ys.length + (strInts sv).length) * i.bytes ≤ 140737488355328 := by rw [hi2]; exact hroom
  have hlen : ys.length + (strInts sv).length ≤ 140737488355328 := by
    have := Nat.mul_le_mul_left (ys.length + (strInts sv).length) hby
    unfold room at hroom; omega
  have hsi : i.size = (ET.int .u8).sz := by rw [hi1, hsz]
  have hl0 : ti.zero.length = (ET.int .u8).sz := by rw [hRe.zlen, hsz]
  have hzs : z'.cells.size = (ET.int .u8).sz := by rw [hz2]; simp [hl0]
  obtain ⟨zs, hzsd⟩ : ∃ zs, zs = strInts sv := ⟨_, rfl⟩
  rw [← hzsd] at hroom hbound hlen ⊢
  have hzl : sv.size = zs.length := by rw [hzsd]; unfold strInts; rw [List.length_map, Array.length_toList]; rfl
  have hcss : (zs.map fun n => [Value.int .u8 n]).flatten = Lib.strCells sv := by
    rw [hzsd]
    unfold strInts Lib.strCells
    rw [List.map_map]
    generalize sv.data.toList = l
    induction l with
    | nil => rfl
    | cons x l ih => rw [List.map_cons, List.map_cons, List.flatten_cons, ih]; rfl
  have hr : All2 (RepT C.F C.w (.int .u8)) zs (zs.map fun n => [Value.int .u8 n]) := by
    clear hzsd hcss hzl hlen hbound hroom
    induction zs with
    | nil => trivial
    | cons x l ih => exact ⟨rfl, ih⟩
  obtain ⟨css, hcd⟩ : ∃ css, css = zs.map fun n => [Value.int .u8 n] := ⟨_, rfl⟩
  rw [← hcd] at hcss hr
  by_cases hz0 : zs = []
  · have hsl : ∃ base n cap, pv = .slice base n cap ∧ n ≤ cap := by
      rcases hpv with ⟨_, a, rfl⟩ | ⟨g, cap, cur, css, rfl, h0, hg, h1, _⟩
      · exact ⟨a, 0, 0, rfl, Nat.le_refl _⟩
      · exact ⟨_, _, cap, rfl, h1⟩
    obtain ⟨base, n, cap, rfl, hn⟩ := hsl
    have hs0 : sv.size = 0 := by rw [hzl, hz0]; rfl
    refine ⟨_, C.w, run_append_zero_str hu hstr hRe C.w hs0 hn, ?_⟩
    subst hz0
    obtain ⟨g1, g2⟩ := hH.add' hid (w := C.w) (fun _ _ => rfl) (fun _ _ _ => rfl) (Nat.le_refl _) (o := .row el (.int .u8) (ys ++ [])) (pv := .slice base n cap)
      (fun hle => by rw [List.append_nil]; exact hpv.mono hle fun _ _ => rfl) hb1 hb2 hb3 hb4
    exact ⟨g1, g2, Gr.refl _ _ _, _, _, _, rfl⟩
  · have hs1 : i.size = 1 := by rw [hi1, hsz]; rfl
    have hpos : 0 < zs.length := List.length_pos_iff.2 hz0
    have hnl : css.flatten.length = zs.length * i.size := by rw [flatten_len _ _ hr, hsi]
    -- a new block
    have grown : ∀ (oldc : List (List Value)) (old : Nat), All2 (RepT C.F C.w (.int .u8)) ys oldc → old < ys.length + zs.length →
        (Builtin.append_ #[t, t2] ty #[pv, .string sv]).run P C.w = .ok (.slice (some ⟨C.w.heap.size, 0, none⟩) (ys.length + zs.length) (grownCap C.w (ys.length + zs.length) old el))
          (C.w.drew.alloc (.cells (oldc.flatten.toArray ++ css.flatten.toArray ++ Builtin.zeroCells z'.cells (grownCap C.w (ys.length + zs.length) old el - (ys.length + zs.length))) el)) →
        ∃ v' w', (Builtin.append_ #[t, t2] ty #[pv, .string sv]).run P C.w = .ok v' w' ∧ Le C (C.add nd v' w') ∧ Heap (C.add nd v' w') B L (setHp hp [(nd, some (.row el (.int .u8) (ys ++ zs)))]) ∧ Gr B L C.w w' ∧ ∃ p n c, v' = .slice p n c := by
      intro oldc old ho hlt hrun
      have hge := grownCap_ge C.w (ys.length + zs.length) old el
      have hle := grownCap_le_maxLen C.w (ys.length + zs.length) old el (by unfold maxLen; omega)
      have hol := flatten_len _ _ ho
      have hnl' := flatten_len _ _ hr
      obtain ⟨g1, g2, g3⟩ := row_new hH hB hid el (e := .int .u8) (ys := (ys ++ zs : List Int)) (css := oldc ++ css) (w := C.w.drew) (cap := grownCap C.w (ys.length + zs.length) old el)
        (cur := oldc.flatten.toArray ++ css.flatten.toArray ++ Builtin.zeroCells z'.cells (grownCap C.w (ys.length + zs.length) old el - (ys.length + zs.length))) rfl rfl rfl rfl (by simp)
        (All2.append _ _ _ _ ho hr) (by simpa using hge) hle
        (by simp only [Array.size_append, List.size_toArray, size_zeroCells, hzs, hol, hnl', ← Nat.add_mul]; congr 1; omega)
        (by
          simp only [Array.toList_append, List.append_assoc, List.length_append, List.flatten_append]
          rw [← List.append_assoc, List.take_append_of_le_length (by simp [hol, hnl', Nat.add_mul]), List.take_of_length_le (by simp [hol, hnl', Nat.add_mul])])
      simp only [List.length_append] at g1 g2
      exact ⟨_, _, hrun, g1, g2, g3, _, _, _, rfl⟩
    rcases hpv with ⟨rfl, pa, rfl⟩ | ⟨g, cap, cur, oldc, rfl, h0, hg, h1, h2, h3, h4, h5⟩
    · cases pa with
      | none =>
        refine grown [] 0 trivial (by simp; omega) ?_
        have := run_append_nil_str (P := P) C.w t t2 ty el i z' hu hstr hi hz1 sv (by omega) (by omega) (by rw [hzl]; simp at hbound; omega)
        rw [hzl, ← hcss] at this
        simpa using this
      | some pb =>
        refine grown [] 0 trivial (by simp; omega) ?_
        have := Lib.run_append_grow_string (P := P) C.w t t2 ty el i z' hu hstr hi hz1 pb 0 0 [] (by simp) (by simp) sv (by omega) (by omega) (growslice_fits (by omega) (by rw [hzl]; simpa using hbound))
        rw [hzl, ← hcss] at this
        simpa using this
    · have hol := flatten_len _ _ h4
      by_cases hroom' : ys.length + zs.length ≤ cap
      · have hfit : ys.length * i.size + css.flatten.length ≤ cur.size := by rw [hnl, hsi, h3, ← Nat.add_mul]; exact Nat.mul_le_mul_right _ hroom'
        have hrun := Lib.run_append_room_string (P := P) C.w t t2 ty el i hu hstr hi hs1 g ys.length cap cur hg sv (by omega) (by rw [h3]; show _ ≤ cap * 1; omega)
        rw [hzl, ← hcss] at hrun
        have hrun : (Builtin.append_ #[t, t2] ty #[.slice (some ⟨g, 0, none⟩) ys.length cap, .string sv]).run P C.w = .ok (.slice (some ⟨g, 0, none⟩) (ys.length + zs.length) cap) (C.w.setRow g (cur.toList.take (ys.length * i.size) ++ css.flatten ++ cur.toList.drop (ys.length * i.size + css.flatten.length)).toArray) := by
          rw [hrun, hnl, hs1, Nat.mul_one, Nat.mul_one]
        have hgF : ¬ C.F g := hb2 g (by simp [blk, h0])
        have hgρ : ∀ j b, C.own j b → b ≠ g := fun j b hb e => by subst e; exact hb1 j b hb (by simp [blk, h0])
        have hw : ∀ k, k ≠ g → (C.w.setRow g (cur.toList.take (ys.length * i.size) ++ css.flatten ++ cur.toList.drop (ys.length * i.size + css.flatten.length)).toArray).heap[k]? = C.w.heap[k]? := fun k hk => setRow_other C.w g k _ hk
        have hob : ∀ C' : Ctx, Le C C' → C'.w = C.w.setRow g (cur.toList.take (ys.length * i.size) ++ css.flatten ++ cur.toList.drop (ys.length * i.size + css.flatten.length)).toArray → RowRep C' el (.int .u8) (ys ++ zs) (.slice (some ⟨g, 0, none⟩) (ys.length + zs.length) cap) := by
          intro C' hle hCw
          refine .inr ⟨g, cap, _, oldc ++ css, by simp, h0, by rw [hCw]; exact setRow_heap C.w g cur _ el _ hg, by simpa using hroom', h2, ?_, ?_, ?_⟩
          · have hcl : cur.toList.length = cur.size := Array.length_toList
            simp only [List.size_toArray, List.length_append, List.length_take, List.length_drop]
            omega
          · exact All2.imp (RepT_mono hle.F hle.w (.int .u8)) _ _ (All2.append _ _ _ _ h4 hr)
          · simp only [List.length_append, List.flatten_append]
            rw [hsi, h5, List.take_append_of_le_length (by simp [hol, flatten_len _ _ hr, Nat.add_mul]), List.take_of_length_le (by simp [hol, flatten_len _ _ hr, Nat.add_mul])]
        obtain ⟨g1, g2⟩ := hH.add' hid (w := C.w.setRow g (cur.toList.take (ys.length * i.size) ++ css.flatten ++ cur.toList.drop (ys.length * i.size + css.flatten.length)).toArray)
          (fun b hb => hw b fun e => by subst e; exact hgF hb) (fun j b hb => hw b (hgρ j b hb)) (by simp) (o := .row el (.int .u8) (ys ++ zs : List Int)) (pv := .slice (some ⟨g, 0, none⟩) (ys.length + zs.length) cap)
          (fun hle => hob _ hle rfl) (fun j b hb hb' => hgρ j b hb (by simp [blk] at hb'; exact hb'.2.symm)) (fun b hb' => by simp [blk] at hb'; rw [← hb'.2]; exact hgF) (fun b hb' => hb3 b (by simp [blk, h0] at hb' ⊢; exact hb')) (fun b hb' => by simp [blk] at hb'; rw [← hb'.2]; simpa using hb4 g (by simp [blk, h0]))
        refine ⟨_, _, hrun, g1, g2, ⟨rfl, rfl, rfl, by simp, fun k hk hL => hw k fun e => ?_, fun _ => Nat.le_refl _⟩, _, _, _, rfl⟩
        subst e
        rcases hb3 k (by simp [blk, h0]) with h | h
        · omega
        · exact hL h
      · refine grown oldc cap h4 (by omega) ?_
        have hold : ∀ j v, oldc.flatten[j]? = some v → C.w.cell? ((⟨g, 0, none⟩ : Addr).add j) = some v := by
          intro j v hj
          rw [Addr.add', Nat.zero_add, cell_of_row C.w g _ cur el (0, 0) hg]
          rw [← h5, List.getElem?_take] at hj
          split at hj
          · simpa using hj
          · cases hj
        have := Lib.run_append_grow_string (P := P) C.w t t2 ty el i z' hu hstr hi hz1 ⟨g, 0, none⟩ ys.length cap oldc.flatten (by rw [hol, hsi]) hold sv (by omega) (by omega) (growslice_fits (by omega) (by rw [hzl]; exact hbound))
        rw [hzl, ← hcss] at this
        exact this

/-- A source of elements, with its type. -/
def SrcT (P : Program) (C : Ctx) (t t2 : TypeId) (e : ET) (zs : List e.T) (x : Value) : Prop :=
  (t2 = t ∧ Src C e zs x) ∨ ∃ s, ∃ h : ET.int .u8 = e, P.underlying t2 = some .string ∧ x = .string s ∧ zs = (h ▸ strInts s : List e.T)

theorem append_post_gen (hT : TyOk P E) (hH : Heap C B L hp) (hB : B ≤ C.w.heap.size) {nd : Nat} (hid : ¬ C.A nd) {t t2 ty el : TypeId} {e : ET} {s b : Nat} {z : List AV} {ti : TI} (hR : TyRow P t ⟨.slc el e, s, b, z⟩) (hRe : TyRow P el ti) (hsz : ti.size = e.sz) (hby : 1 ≤ ti.bytes)
    {ys zs : List e.T} {pv x : Value} (hsrc : SrcT P C t t2 e zs x) (hroom : (ys.length + zs.length) * ti.bytes ≤ room)
    (hpv : RowRep C el e ys pv) (hb1 : ∀ i b, C.own i b → blk (some pv) b → False) (hb2 : ∀ b, blk (some pv) b → ¬ C.F b) (hb3 : ∀ b, blk (some pv) b → B ≤ b ∨ L.lent b) (hb4 : ∀ b, blk (some pv) b → b < C.w.heap.size) :
    ∃ v' w', (Builtin.append_ #[t, t2] ty #[pv, x]).run P C.w = .ok v' w' ∧ Le C (C.add nd v' w') ∧ Heap (C.add nd v' w') B L (setHp hp [(nd, some (.row el e (ys ++ zs)))]) ∧ Gr B L C.w w' ∧ ∃ p n c, v' = .slice p n c := by
  rcases hsrc with ⟨rfl, h⟩ | ⟨sv, rfl, h1, rfl, rfl⟩
  · exact append_post hT hH hB hid hR hRe hsz hby h hroom hpv hb1 hb2 hb3 hb4
  · exact append_post_str hT hH hB hid h1 hR hRe hsz hby hroom hpv hb1 hb2 hb3 hb4

theorem asrcT_ok (hT : TyOk P E) (hH : Heap C B L hp) {t : TypeId} {t1 : Option TypeId} {e : ET} {v : AV} {x : Value} {zs : List e.T} (h : asrcT E hp (some t) t1 e v = some zs) (hv : Rep C v x) : ∃ t2, t1 = some t2 ∧ SrcT P C t t2 e zs x := by
  unfold asrcT at h
  split at h
  · rename_i he
    have he : some t = t1 := by simpa using he
    subst he
    exact ⟨t, rfl, .inl ⟨rfl, asrc_ok hH h hv⟩⟩
  · split at h
    · rename_i hs
      obtain ⟨t2, h1, h2⟩ := Option.bind_eq_some_iff.1 hs
      subst h1
      refine ⟨t2, rfl, ?_⟩
      have hu : P.underlying t2 = some .string := by
        have := (hT.row h2).td
        simp only [tdB] at this
        split at this <;> simp_all
      unfold strSrc at h
      split at h
      · rename_i s
        cases h
        unfold Rep at hv
        exact .inr ⟨s, rfl, hu, hv, rfl⟩
      · cases h
    · cases h

/-- A piece of a row that the call owns. -/
theorem asliceO_ok (hT : TyOk P E) (hH : Heap C B L hp) (hB : B ≤ C.w.heap.size) (hf : Free C (o.dst.getD 0)) {t : TypeId} {x : Operand} {lo hi : Option Operand} {id : Nat} {ρ : Operand → AV} (ho : o.op = .slice t x lo hi none) (hx : Rep C (.own id) (a.eval x)) (hρ : ∀ y, Rep C (ρ y) (a.eval y))
    (h : asliceO E hp (o.dst.getD 0) k t id (lo.map ρ) (hi.map ρ) = some r) : OpOK P o a C B L hp k r := by
  unfold asliceO at h
  split at h
  case h_2 => cases h
  rename_i el _ _ _ _ el' e ys ht hl
  have hR := (hT.row ht).slc
  have hel : P.elem t = el := by simp [Program.elem, hR]
  have hR' : P.underlying t = some (.slice (P.elem t)) := by rw [hel]; exact hR
  split at h
  case h_2 => cases h
  rename_i ti hti
  have hsz : ∀ w, (sizeOf (P.elem t)).run P w = .ok ti.size w := fun w => by rw [hel]; exact run_size' (hT.row hti) w
  split at h
  case isFalse => cases h
  rename_i hh
  obtain ⟨hse, hel'⟩ := hh
  obtain ⟨pv, hpv, hob⟩ := hH.som id _ hl
  have hx0 := hx
  unfold Rep at hx
  have hq := hx.2.2 pv hpv
  have hob' := hob
  have hshape : ∃ p c, pv = .slice p ys.length c ∧ ys.length ≤ c := by
    rcases hob with ⟨rfl, a', he⟩ | ⟨g, cap, cur, css, he, h0, hg, h1, _⟩
    · exact ⟨a', 0, he, Nat.le_refl _⟩
    · exact ⟨_, cap, he, h1⟩
  obtain ⟨p, c, hpe, hc⟩ := hshape
  rw [hpe] at hq
  split at h
  · rename_i kd lv hlo hhi
    cases hi with
    | some hi => cases hhi
    | none =>
    cases lo with
    | none => cases hlo
    | some lo =>
    have hy := hρ lo
    rw [Option.map_some, Option.some.injEq] at hlo
    rw [hlo] at hy; unfold Rep at hy
    rcases sat_br h with ⟨hb, h⟩ | ⟨_, h⟩
    case inr => cases h
    simp only [Bool.and_eq_true, decide_eq_true_eq] at hb
    refine OpOK.pure hH (v' := sliced p lv.toNat ys.length c e.sz) ?_ h ?_
    · simp [execOp, ho, hq, hy, run_sliceAt_slice C.w t _ _ _ _ hR', run_slice_l C.w t p ys.length c hR' kd lv hb.1 (by omega), hsz, hse, Result.andThen]
    · unfold Rep
      refine ⟨hx.1, ⟨p, ys.length, c, rfl⟩, fun pv' hp' => ?_⟩
      rw [hpv] at hp'
      cases hp'
      exact ⟨p, ys.length, c, hpe, rfl⟩
  · rename_i kd hv hlo hhi
    cases lo with
    | some lo => cases hlo
    | none =>
    cases hi with
    | none => cases hhi
    | some hi =>
    have hy := hρ hi
    rw [Option.map_some, Option.some.injEq] at hhi
    rw [hhi] at hy; unfold Rep at hy
    rcases sat_br h with ⟨hb, h⟩ | ⟨_, h⟩
    case inr => cases h
    simp only [Bool.and_eq_true, decide_eq_true_eq] at hb
    have hid := hf (ns (o.dst.getD 0) 0) (ns_div _ 0 (by omega))
    obtain ⟨hle, hH1⟩ := hH.drop id
    have hbl : ∀ i b, (C.drop id).own i b → i ≠ id ∧ C.own i b := fun i b h => drop_own h
    have hsl : sliced p 0 hv.toNat c e.sz = .slice p hv.toNat c := by
      unfold sliced
      cases p with
      | none => simp
      | some q => simp [Addr.add]
    have hbk : ∀ b, blk (some (Value.slice p hv.toNat c)) b → blk (some pv) b := by
      intro b h
      rw [hpe]
      cases p with
      | none => simp [blk] at h
      | some q => simpa [blk] using h
    have hob2 : ∀ C' : Ctx, Le C C' → C'.w = C.w → RowRep C' el' e (ys.take hv.toNat) (.slice p hv.toNat c) := by
      intro C' hle' hw
      rcases hob' with ⟨hn, a', he⟩ | ⟨g, cap, cur, css, he, h0, hg, h1, h2, h3, h4, h5⟩
      · rw [hpe] at he
        simp only [Value.slice.injEq] at he
        obtain ⟨rfl, hz, rfl⟩ := he
        refine .inl ⟨by rw [hn]; exact List.take_nil, p, ?_⟩
        rw [show hv.toNat = 0 by omega]
      · rw [hpe] at he
        simp only [Value.slice.injEq, true_and] at he
        obtain ⟨rfl, rfl⟩ := he
        have hlen : (ys.take hv.toNat).length = hv.toNat := by rw [List.length_take]; omega
        refine .inr ⟨g, c, cur, css.take hv.toNat, by rw [hlen], h0, by rw [hw]; exact hg, by rw [hlen]; omega, h2, h3, All2.imp (RepT_mono hle'.F hle'.w e) _ _ (All2_take _ _ _ h4), ?_⟩
        have hcl := All2.lens _ _ h4
        have hll := All2.length _ _ h4
        rw [hlen, flatten_taken _ _ hcl (by omega), ← h5, List.take_take, Nat.min_eq_left (Nat.mul_le_mul_right _ (by omega))]
    obtain ⟨g1, g2⟩ := hH1.add' (C := C.drop id) (id := ns (o.dst.getD 0) 0) hid (w := C.w) (fun _ _ => rfl) (fun _ _ _ => rfl) (Nat.le_refl _) (o := .row el' e (ys.take hv.toNat)) (pv := .slice p hv.toNat c)
      (fun hle2 => hob2 _ (hle.trans hle2) rfl)
      (fun i b h1 h2 => by
        obtain ⟨q1, q2⟩ := hbl i b h1
        exact q1 (hH.sep i id b q2 (.inl (by rw [hpv]; exact hbk b h2))))
      (fun b h2 => hH.apart id b (.inl (by rw [hpv]; exact hbk b h2))) (fun b h2 => hH.mine id b (.inl (by rw [hpv]; exact hbk b h2))) (fun b h2 => hH.lto id b (.inl (by rw [hpv]; exact hbk b h2)))
    have hcomm : setHp hp [(id, none), (ns (o.dst.getD 0) 0, some (.row el' e (ys.take hv.toNat)))] = setHp (setHp hp [(id, none)]) [(ns (o.dst.getD 0) 0, some (.row el' e (ys.take hv.toNat)))] := by
      funext q
      simp only [setHp]
      by_cases h1 : q = id
      · by_cases h2 : q = ns (o.dst.getD 0) 0
        · exact absurd (h2 ▸ h1 ▸ hx.1) hid
        · simp [h1]; intro h3; exact absurd (h3 ▸ hx.1) hid
      · simp [h1]
    refine OpOK.val (v' := .slice p hv.toNat c) (C' := (C.drop id).add (ns (o.dst.getD 0) 0) (.slice p hv.toNat c) C.w) ?_ h ⟨hle.trans g1, fun i h => ?_, by rw [hcomm]; exact g2, ?_, Gr.refl _ _ _⟩
    · simp [execOp, ho, hq, hy, run_sliceAt_slice C.w t _ _ _ _ hR', run_slice_h C.w t p ys.length c hR' kd hv hb.1 (by omega), hsz, hse, Result.andThen, hsl]
      rfl
    · rcases h with h | rfl
      · exact .inl h
      · exact .inr ⟨by simp only [makes, ho], ns_div _ 0 (by omega)⟩
    · unfold Rep
      exact ⟨.inr rfl, ⟨_, _, _, rfl⟩, fun pv' hp' => by simp [Ctx.add] at hp'; exact hp'⟩
  · cases h

theorem rep_at0 {x : Operand} (hx : Rep C .nils (a.eval x)) : a.eval x = .slice none 0 0 := by unfold Rep at hx; exact hx

theorem aappend_ok (hT : TyOk P E) (hH : Heap C B L hp) (hB : B ≤ C.w.heap.size) (hf : Free C (o.dst.getD 0)) {ρ : Operand → AV} (hρ : ∀ x, Rep C (ρ x) (a.eval x)) {c : Call} (ho : o.op = .call c) (hc : c.callee = .builtin .append)
    (h : aappend E hp ρ (o.dst.getD 0) k c = some r) : OpOK P o a C B L hp k r := by
  unfold aappend at h
  split at h
  case h_2 => cases h
  rename_i s x hargs
  split at h
  case h_2 => cases h
  rename_i el e _ _ _ ht
  split at h
  case h_1 => cases h
  rename_i ti hti
  split at h
  case isFalse => cases h
  rename_i hsz
  obtain ⟨hsz, hby⟩ := hsz
  split at h
  case h_1 => cases h
  rename_i zs hzs
  have hRe := hT.row hti
  obtain ⟨t, ht0, ht1⟩ := Option.bind_eq_some_iff.1 ht
  have hR := hT.row ht1
  have hid := hf (ns (o.dst.getD 0) 0) (ns_div _ 0 (by omega))
  rw [ht0] at hzs
  obtain ⟨t2, ht2, hsrc⟩ := asrcT_ok hT hH hzs (hρ x)
  have ha : c.args = #[s, x] := by cases hq : c.args; rw [hq] at hargs; simp at hargs; rw [hargs]
  have hrun : ∀ v' w', (Builtin.append_ #[t, t2] o.type #[a.eval s, a.eval x]).run P C.w = .ok v' w' → (execOp a.eval o).run P C.w = .ok (.value v') w' := by
    intro v' w' hv
    have hat : ∀ u, Builtin.append_ c.argTypes o.type #[a.eval s, a.eval x] = Builtin.append_ #[t, t2] u #[a.eval s, a.eval x] := by
      intro u
      simp [Builtin.append_, ht0, ht2]
    simp only [execOp, ho, resolve, hc, ha, invoke, builtin, Sem.run_bind, Sem.run_pure, Result.andThen_ok, List.map_toArray, List.map_cons, List.map_nil]
    rw [hat o.type, hv]
    rfl
  have last : ∀ {C0 : Ctx} {hp0 : Nat → Option Ob} {ys : List e.T} {v' : Value} {w' : World} {u : Sets}, C0.w = C.w → Le C C0 → (∀ id, C0.A id → C.A id) → Le C0 (C0.add (ns (o.dst.getD 0) 0) v' w') →
      Heap (C0.add (ns (o.dst.getD 0) 0) v' w') B L (setHp hp u) → Gr B L C.w w' → (∃ p n c, v' = .slice p n c) → (Builtin.append_ #[t, t2] o.type #[a.eval s, a.eval x]).run P C.w = .ok v' w' →
      k (.own (ns (o.dst.getD 0) 0)) u = some r → OpOK P o a C B L hp k r := by
    intro C0 hp0 ys v' w' u hw hle hA hle2 hH2 hgr hsl hv hk
    refine OpOK.val (v' := v') (C' := C0.add _ v' w') (hrun _ _ hv) hk ⟨hle.trans hle2, fun id h => ?_, hH2, ?_, hgr⟩
    · rcases h with h | rfl
      · exact .inl (hA _ h)
      · exact .inr ⟨by simp only [makes, ho]; split <;> simp_all, ns_div _ 0 (by omega)⟩
    · unfold Rep
      exact ⟨.inr rfl, hsl, fun pv hp => by simp [Ctx.add] at hp; exact hp⟩
  have nil : a.eval s = .slice none 0 0 → br (decide (zs.length * ti.bytes ≤ room)) (k (.own (ns (o.dst.getD 0) 0)) [(ns (o.dst.getD 0) 0, some (.row el e zs))]) none = some r → OpOK P o a C B L hp k r := by
    intro hs0 h
    rcases sat_br h with ⟨hroom, h⟩ | ⟨_, h⟩
    case inr => cases h
    have hroom := of_decide_eq_true hroom
    obtain ⟨v', w', g1, g2, g3, g4, g5⟩ := append_post_gen (ty := o.type) hT hH hB hid hR hRe hsz hby hsrc (ys := []) (pv := .slice none 0 0) (by simpa using hroom) (.inl ⟨rfl, _, rfl⟩) (fun i b _ hb => by simp [blk] at hb) (fun b hb => by simp [blk] at hb) (fun b hb => by simp [blk] at hb) (fun b hb => by simp [blk] at hb)
    exact last (C0 := C) (hp0 := hp) (ys := []) rfl (Le.refl C) (fun _ h => h) g2 (by simpa using g3) g4 g5 (by rw [hs0]; exact g1) h
  split at h
  · rename_i hs; exact nil (rep_at0 (by rw [← hs]; exact hρ s)) h
  · rename_i t0 e0 hs
    have := hρ s
    rw [hs] at this
    unfold Rep at this
    exact nil this h
  · rename_i id hs
    split at h
    case h_2 => cases h
    rename_i el' e' ys hb
    split at h
    case isFalse => cases h
    rename_i hh
    obtain ⟨he, hel⟩ := hh
    subst he
    subst hel
    rcases sat_br h with ⟨hroom, h⟩ | ⟨_, h⟩
    case inr => cases h
    have hroom := of_decide_eq_true hroom
    have hrs := hρ s
    rw [hs] at hrs
    unfold Rep at hrs
    obtain ⟨pv, hpv, hob⟩ := hH.som id _ hb
    have hsv := hrs.2.2 pv hpv
    obtain ⟨hle, hH1⟩ := hH.drop id
    have hbl : ∀ i b, (C.drop id).own i b → i ≠ id ∧ C.own i b := fun i b h => drop_own h
    obtain ⟨v', w', g1, g2, g3, g4, g5⟩ := append_post_gen (ty := o.type) (C := C.drop id) hT hH1 hB hid hR hRe hsz hby (ys := ys) (pv := pv) (zs := zs) (x := a.eval x) (by
        rcases hsrc with ⟨h0, h | ⟨ad, c, css, h1, h2, h3⟩⟩ | h
        · exact .inl ⟨h0, .inl h⟩
        · exact .inl ⟨h0, .inr ⟨ad, c, css, h1, h2, h3⟩⟩
        · exact .inr h) hroom (RowRep.mono hle (fun _ _ => rfl) hob)
      (fun i b h1 h2 => by
        obtain ⟨q1, q2⟩ := hbl i b h1
        exact q1 (hH.sep i id b q2 (.inl (by rw [hpv]; exact h2))))
      (fun b h2 => hH.apart id b (.inl (by rw [hpv]; exact h2))) (fun b h2 => hH.mine id b (.inl (by rw [hpv]; exact h2))) (fun b h2 => hH.lto id b (.inl (by rw [hpv]; exact h2)))
    refine last (C0 := C.drop id) (hp0 := hp) (ys := ys) rfl hle (fun _ h => h) g2 ?_ g4 g5 (by rw [hsv]; exact g1) h
    have hcomm : setHp hp [(id, none), (ns (o.dst.getD 0) 0, some (.row el' e' (ys ++ zs)))] = setHp (setHp hp [(id, none)]) [(ns (o.dst.getD 0) 0, some (.row el' e' (ys ++ zs)))] := by
      funext q
      simp only [setHp]
      by_cases h1 : q = id
      · by_cases h2 : q = ns (o.dst.getD 0) 0
        · exact absurd (h2 ▸ h1 ▸ hrs.1) hid
        · simp [h1]; intro h3; exact absurd (h3 ▸ hrs.1) hid
      · simp [h1]
    rw [hcomm]
    exact g3
  · cases h

end
end Go.Sym
