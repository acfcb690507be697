/- The symbolic machine and the model: append, make, a slice's literal. -/
import Derived.Test.YtmphbdhjdalgnaaGreatDoorSymI
namespace Go.Sym
set_option linter.unusedVariables false
set_option linter.unusedSimpArgs false
set_option linter.unusedSectionVars false
variable [Globs] [Dm]

section
variable {R : Type} {P : Program} {E : Env} {C : Ctx} {B : Nat} {L : Fr} {hp : Nat → Option Ob} {k : AV → Sets → Option R} {r : R} {o : Oper} {a : Act}

theorem Heap.add' (hH : Heap C B L hp) {id : Nat} (hid : ¬ C.A id) {pv : Value} {w : World} (hF : ∀ b, C.F b → w.heap[b]? = C.w.heap[b]?) (hB : ∀ i b, C.own i b → w.heap[b]? = C.w.heap[b]?)
    (hs : C.w.heap.size ≤ w.heap.size) {o : Ob} (ho : Le C (C.add id pv w) → ObRep (C.add id pv w) id o pv) (hb1 : ∀ i b, C.own i b → blk (some pv) b → False) (hb2 : ∀ b, blk (some pv) b → ¬ C.F b) (hb3 : ∀ b, blk (some pv) b → B ≤ b ∨ L.lent b) (hb4 : ∀ b, blk (some pv) b → b < w.heap.size) :
    Le C (C.add id pv w) ∧ Heap (C.add id pv w) B L (setHp hp [(id, some o)]) := by
  have hle : Le C (C.add id pv w) := by
    refine ⟨fun i h => .inl h, fun b h => h, fun i p hA hp' => ?_, fun b hb => hF b hb⟩
    simp only [Ctx.add] at hp'
    split at hp'
    · subst_vars; exact absurd hA hid
    · exact hp'
  refine ⟨hle, fun i h => ?_, fun i o' h => ?_, fun i h => ?_, fun i j b h1 h2 => ?_, fun i b h => ?_, fun i b h => ?_, fun i b h => ?_, fun b h => ?_, hH.fr.add hid pv w, hH.glob.mono hle.F hle.w⟩
  · simp only [setHp] at h
    split at h
    · cases h
    · simp only [Ctx.add]; rw [if_neg (by assumption)]; exact hH.non i h
  · simp only [setHp] at h
    split at h
    · rename_i he
      cases h
      subst he
      exact ⟨pv, by simp [Ctx.add], ho hle⟩
    · rename_i he
      obtain ⟨p, hp', hob⟩ := hH.som i o' h
      exact ⟨p, by simp [Ctx.add, he, hp'], hob.mono hle (add_inn he) fun b hb => hB i b (hb.imp (fun q => by rw [hp']; exact q) fun q => q)⟩
  · simp only [setHp] at h
    split at h
    · exact .inr (by assumption)
    · exact .inl (hH.inA i h)
  · rcases add_own h1 with ⟨e1, q1⟩ | ⟨e1, q1⟩ <;> rcases add_own h2 with ⟨e2, q2⟩ | ⟨e2, q2⟩
    · rw [e1, e2]
    · exact (hb1 _ _ q2 q1).elim
    · exact (hb1 _ _ q1 q2).elim
    · exact hH.sep i j b q1 q2
  · rcases add_own h with ⟨_, q⟩ | ⟨_, q⟩
    · exact hb2 b q
    · exact hH.apart i b q
  · rcases add_own h with ⟨_, q⟩ | ⟨_, q⟩
    · exact hb3 b q
    · exact hH.mine i b q
  · rcases add_own h with ⟨_, q⟩ | ⟨_, q⟩
    · exact hb4 b q
    · exact Nat.lt_of_lt_of_le (hH.lto i b q) hs
  · exact Nat.lt_of_lt_of_le (hH.inb b h) hs

/-- A name that is given up. -/
def Ctx.drop (C : Ctx) (id : Nat) : Ctx := { C with ρ := fun i => if i = id then none else C.ρ i, inn := fun i b => i ≠ id ∧ C.inn i b }

theorem drop_own {id i b : Nat} (h : (C.drop id).own i b) : i ≠ id ∧ C.own i b := by
  rcases h with h | h
  · simp only [Ctx.drop] at h
    split at h
    · simp [blk] at h
    · exact ⟨by assumption, .inl h⟩
  · exact ⟨h.1, .inr h.2⟩

theorem Heap.drop (hH : Heap C B L hp) (id : Nat) : Le C (C.drop id) ∧ Heap (C.drop id) B L (setHp hp [(id, none)]) := by
  have hle : Le C (C.drop id) := by
    refine ⟨fun _ h => h, fun _ h => h, fun i pv hA h => ?_, fun _ _ => rfl⟩
    simp only [Ctx.drop] at h
    split at h
    · cases h
    · exact h
  refine ⟨hle, fun i h => ?_, fun i o h => ?_, fun i h => ?_, fun i j b h1 h2 => hH.sep i j b (drop_own h1).2 (drop_own h2).2, fun i b h => hH.apart i b (drop_own h).2, fun i b h => hH.mine i b (drop_own h).2, fun i b h => hH.lto i b (drop_own h).2, hH.inb, ⟨hH.fr.fro, fun i pv hi h => hH.fr.old i pv hi (hle.ρ i pv (hH.fr.low i hi) h), hH.fr.low⟩, hH.glob.mono hle.F hle.w⟩
  · simp only [setHp, Ctx.drop] at h ⊢
    split
    · rfl
    · rename_i he; rw [if_neg he] at h; exact hH.non i h
  · simp only [setHp] at h
    split at h
    · cases h
    · rename_i he
      obtain ⟨pv, h1, h2⟩ := hH.som i o h
      exact ⟨pv, by simp [Ctx.drop, he, h1], h2.mono hle (fun b => ⟨fun q => q.2, fun q => ⟨he, q⟩⟩) fun _ _ => rfl⟩
  · simp only [setHp] at h
    split at h
    · exact absurd rfl h
    · exact hH.inA i h

theorem madeCells_flat (z : Array Value) (n : Nat) : (madeCells z (n * z.size)).toList = (List.replicate n z.toList).flatten := by
  induction n with
  | zero => simp [madeCells, Array.range_zero']
  | succ n ih =>
    rw [List.replicate_succ', List.flatten_append, ← ih]
    simp only [madeCells, Array.toList_map, Array.toList_range]
    rw [Nat.succ_mul, List.range_add, List.map_append]
    congr 1
    simp only [List.map_map, List.flatten_cons, List.flatten_nil, List.append_nil]
    apply List.ext_getElem
    · simp
    · intro i h1 h2
      simp at h1
      have hm : (n * z.size + i) % z.size = i := by rw [Nat.add_comm, Nat.add_mul_mod_self_right, Nat.mod_eq_of_lt h1]
      simp [hm, h1]

theorem makeSlice_ok (hT : TyOk P E) (hH : Heap C B L hp) (hB : B ≤ C.w.heap.size) (hf : Free C (o.dst.getD 0)) {t el : TypeId} {e : ET} {s b : Nat} {z : List AV} {ti : TI} {x y : Operand} {n m : Int}
    (ho : o.op = .makeSlice t x y) (ht : E.ty t = some ⟨.slc el e, s, b, z⟩) (hel : E.ty el = some ti) (hx : a.eval x = .int .i64 n) (hy : a.eval y = .int .i64 m) {zr : e.T} (hz : e.un ti.zero = some zr) (hsz : ti.size = e.sz) (hby : 1 ≤ ti.bytes)
    (h0 : 0 ≤ n) (hnm : n = m) (hroom : n * ti.bytes ≤ room)
    (h : k (.own (ns (o.dst.getD 0) 0)) [(ns (o.dst.getD 0) 0, some (.row el e (List.replicate n.toNat zr)))] = some r) : OpOK P o a C B L hp k r := by
  subst hnm
  have hR := hT.row ht
  have hRe := hT.row hel
  obtain ⟨i, z', hi, hi1, hi2, hz1, hz2⟩ := hRe.get
  have hid := hf (ns (o.dst.getD 0) 0) (ns_div _ 0 (by omega))
  have hn1 : n * 1 ≤ n * ti.bytes := Int.mul_le_mul_of_nonneg_left (by omega) h0
  have hb1 : (i.bytes : Int) * n ≤ 281474976710656 := by rw [hi2, Int.mul_comm]; unfold room at hroom; omega
  have hn2 : n ≤ 140737488355328 := by unfold room at hroom; omega
  have hrun := run_make (P := P) C.w t el i z' hR.slc hi hz1 .i64 .i64 n n h0 (Int.le_refl _) hb1 (by omega)
  have hzs : z'.cells.size = i.size := by
    have hl : ti.zero.length = ti.size := by
      have := RepT_len (F := fun _ => True) (w := C.w) e zr _ (un_rep (C := ⟨fun _ => True, fun _ => True, fun _ => none, C.w, fun _ _ => False⟩) e ti.zero zr (ti.zero.map vz) hz ?_)
      · simpa [hsz] using this
      · clear hz hroom hn1 hrun h
        have hs := hRe.simp
        generalize ti.zero = zs at hs
        induction zs with
        | nil => exact RepL_nil
        | cons c zs ih =>
          simp only [List.all_cons, Bool.and_eq_true] at hs
          refine RepL_cons ?_ (ih hs.2)
          cases c <;> simp [simple] at hs <;> (unfold Rep; rfl)
    rw [hz2]; simp [hl, hi1]
  have hrep : RepT C.F C.w e zr z'.cells.toList := by
    refine un_rep e ti.zero zr _ hz ?_
    rw [hz2]
    have hs := hRe.simp
    clear hz hroom hn1 hrun h hz2 hzs
    simp only
    generalize ti.zero = zs at hs
    induction zs with
    | nil => exact RepL_nil
    | cons c zs ih =>
      simp only [List.all_cons, Bool.and_eq_true] at hs
      refine RepL_cons ?_ (ih hs.2)
      cases c <;> simp [simple] at hs <;> (unfold Rep; rfl)
  obtain ⟨g1, g2, g3⟩ := row_new hH hB hid el (w := C.w) (cur := madeCells z'.cells (n.toNat * i.size)) (cap := n.toNat) rfl rfl rfl rfl (Nat.le_refl _) (All2.replicate hrep n.toNat) (by simp) (by unfold maxLen; omega)
    (by rw [size_madeCells, hi1, hsz]) (by rw [← hzs, madeCells_flat, List.take_of_length_le]; rw [flatten_len _ _ (All2.replicate hrep n.toNat)]; exact Nat.le_refl _)
  refine OpOK.val (v' := .slice (some ⟨C.w.heap.size, 0, none⟩) n.toNat n.toNat) (C' := C.add _ _ (C.w.alloc (.cells (madeCells z'.cells (n.toNat * i.size)) el))) ?_ h ⟨g1, fun id h => ?_, g2, ?_, g3⟩
  · simp [execOp, ho, hx, hy, hrun]; rfl
  · rcases h with h | rfl
    · exact .inl h
    · exact .inr ⟨by simp [makes, ho], ns_div _ 0 (by omega)⟩
  · unfold Rep
    exact ⟨.inr rfl, ⟨_, _, _, rfl⟩, fun pv hp => by simp [Ctx.add] at hp; rw [← hp]⟩

/-- The elements of a slice's literal. -/
theorem elems_ok {e : ET} : ∀ (parts : List (Nat × AV)) (vals : List (Nat × Value)) (j : Nat) (ys : List e.T) (cells : Array Value),
    All2 (fun p q => p.1 = q.1 ∧ Rep C p.2 q.2) parts vals → elemsOf e j parts = some ys → (j + ys.length) * e.sz ≤ cells.size →
    ∃ cells' css, Instr.fill (fun i => some (i * e.sz, e.sz)) cells vals = some cells' ∧ cells'.size = cells.size ∧ All2 (RepT C.F C.w e) ys css ∧
      cells'.toList = cells.toList.take (j * e.sz) ++ css.flatten ++ cells.toList.drop ((j + ys.length) * e.sz)
  | [], [], j, ys, cells, _, h, _ => by
    simp only [elemsOf] at h; cases h
    exact ⟨cells, [], rfl, rfl, trivial, by simp⟩
  | [], _ :: _, _, _, _, h, _, _ => h.elim
  | _ :: _, [], _, _, _, h, _, _ => h.elim
  | (i, v) :: parts, (i', x) :: vals, j, ys, cells, ⟨⟨h1, h2⟩, h3⟩, h, hl => by
    simp only at h1 h2; subst h1
    simp only [elemsOf] at h
    split at h
    case isFalse => cases h
    rename_i hij
    subst hij
    split at h
    case h_2 => cases h
    rename_i cs hcs
    split at h
    case h_2 => cases h
    rename_i y ys' hy hys
    cases h
    have hrc := un_rep e cs y _ hy (cells_rep hcs h2)
    have hlc := RepT_len _ _ _ hrc
    simp only [Array.length_toList] at hlc
    simp only [List.length_cons] at hl
    have hmul : (i + (ys'.length + 1)) * e.sz = i * e.sz + e.sz + ys'.length * e.sz := by rw [Nat.add_mul, Nat.add_mul]; omega
    have hmul1 : (i + 1) * e.sz = i * e.sz + e.sz := by rw [Nat.add_mul]; omega
    have hmul2 : (i + 1 + ys'.length) * e.sz = i * e.sz + e.sz + ys'.length * e.sz := by rw [Nat.add_mul, Nat.add_mul]; omega
    rw [hmul] at hl
    obtain ⟨cells1, e1, e2, e3⟩ := fill_one (place := fun i => some (i * e.sz, e.sz)) (i := i) (v := x) (cells := cells) (rest := vals) rfl hlc (by omega)
    obtain ⟨cells', css, f1, f2, f3, f4⟩ := elems_ok parts vals (i + 1) ys' cells1 h3 hys (by rw [e2, hmul2]; exact hl)
    have hxl : x.cells.toList.length = e.sz := by simpa using hlc
    have htl : (cells.toList.take (i * e.sz)).length = i * e.sz := by simp; omega
    refine ⟨cells', x.cells.toList :: css, by rw [e3]; exact f1, by omega, ⟨hrc, f3⟩, ?_⟩
    rw [f4, e1, hmul1, hmul2, List.length_cons, hmul]
    have t1 : (cells.toList.take (i * e.sz) ++ x.cells.toList ++ cells.toList.drop (i * e.sz + x.cells.toList.length)).take (i * e.sz + e.sz) = cells.toList.take (i * e.sz) ++ x.cells.toList := by
      rw [List.take_append_of_le_length (by simp; omega), List.take_of_length_le (by simp; omega)]
    have t2 : (cells.toList.take (i * e.sz) ++ x.cells.toList ++ cells.toList.drop (i * e.sz + x.cells.toList.length)).drop (i * e.sz + e.sz + ys'.length * e.sz) = cells.toList.drop (i * e.sz + e.sz + ys'.length * e.sz) := by
      rw [List.drop_append, List.drop_eq_nil_of_le (by simp; omega), List.nil_append, List.drop_drop]
      congr 1
      simp only [List.length_append, htl, hxl]
      omega
    rw [t1, t2]
    simp [List.append_assoc]

theorem buildSlice_ok (hT : TyOk P E) (hH : Heap C B L hp) (hB : B ≤ C.w.heap.size) (hf : Free C (o.dst.getD 0)) {t el : TypeId} {e : ET} {s b : Nat} {z : List AV} {ti : TI} {len : Nat} {parts : Array (Nat × Operand)} {ρ : Operand → AV} (hρ : ∀ x, Rep C (ρ x) (a.eval x))
    (ho : o.op = .buildSlice t len parts) (ht : E.ty t = some ⟨.slc el e, s, b, z⟩) (hel : E.ty el = some ti) (hsz : ti.size = e.sz) {ys : List e.T} (hys : elemsOf e 0 (parts.toList.map fun q => (q.1, ρ q.2)) = some ys) (hlen : ys.length = len) (hl1 : len ≤ 1000) (hs1 : e.sz ≤ 1000)
    (h : k (.own (ns (o.dst.getD 0) 0)) [(ns (o.dst.getD 0) 0, some (.row el e ys))] = some r) : OpOK P o a C B L hp k r := by
  have hR := hT.row ht
  have hRe := hT.row hel
  have hid := hf (ns (o.dst.getD 0) 0) (ns_div _ 0 (by omega))
  obtain ⟨zv, hz, _⟩ := run_zero' hRe C.w
  have hbig : len * e.sz ≤ 1000 * 1000 := Nat.mul_le_mul hl1 hs1
  have hgen : ∀ zero : Array Value, ∃ cur : Array Value, ∃ css, Instr.fill (fun i => some (i * e.sz, e.sz)) ((Array.range (len * e.sz)).map (zero[· % zero.size]!)) (parts.toList.map fun q => (q.1, a.eval q.2)) = some cur ∧ cur.size = len * e.sz ∧
      All2 (RepT C.F C.w e) ys css ∧ cur.toList = css.flatten := by
    intro zero
    obtain ⟨cells', css, f1, f2, f3, f4⟩ := elems_ok (C := C) _ _ 0 ys ((Array.range (len * e.sz)).map (zero[· % zero.size]!)) (parts_rep parts.toList ρ hρ) hys (by simp [hlen])
    refine ⟨cells', css, f1, by simpa using f2, f3, ?_⟩
    rw [f4, hlen]
    simp
  have fin : ∀ (cur : Array Value) css, cur.size = len * e.sz → All2 (RepT C.F C.w e) ys css → cur.toList = css.flatten → (Instr.buildSlice t len (parts.map fun (i, x) => (i, a.eval x))).run P C.w = .ok (.slice (some ⟨C.w.heap.size, 0, none⟩) len len) (C.w.alloc (.cells cur el)) → OpOK P o a C B L hp k r := by
    intro cur css c1 c2 c3 hrun
    obtain ⟨g1, g2, g3⟩ := row_new hH hB hid el (w := C.w) (cur := cur) (cap := len) rfl rfl rfl rfl (Nat.le_refl _) c2 (by omega) (by unfold maxLen; omega) c1 (by rw [hlen, ← c1, c3, List.take_of_length_le (by rw [← c3]; simp)])
    rw [hlen] at g1 g2
    refine OpOK.val (v' := .slice (some ⟨C.w.heap.size, 0, none⟩) len len) (C' := C.add _ _ (C.w.alloc (.cells cur el))) ?_ h ⟨g1, fun id h => ?_, g2, ?_, g3⟩
    · simp [execOp, ho, hrun]; rfl
    · rcases h with h | rfl
      · exact .inl h
      · exact .inr ⟨by simp [makes, ho], ns_div _ 0 (by omega)⟩
    · unfold Rep
      exact ⟨.inr rfl, ⟨_, _, _, rfl⟩, fun pv hp => by simp [Ctx.add] at hp; rw [← hp]⟩
  by_cases h0 : len * e.sz = 0
  · obtain ⟨cur, css, q1, q2, q3, q4⟩ := hgen #[]
    refine fin cur css q2 q3 q4 ?_
    rw [h0] at q1
    unfold Instr.buildSlice
    simp only [Sem.run_bind, run_underlying hR.slc, Result.andThen_ok, run_size' hRe, hsz, h0, if_true, Array.toList_map]
    simp only [show ¬ (0 > 2 ^ 24) by omega, if_false]
    rw [Sem.run_bind, Sem.run_pure, Result.andThen_ok, q1]
    rfl
  · obtain ⟨cur, css, q1, q2, q3, q4⟩ := hgen zv.cells
    refine fin cur css q2 q3 q4 ?_
    have h24 : ¬ (2 ^ 24 < len * e.sz) := by omega
    unfold Instr.buildSlice
    simp only [Sem.run_bind, run_underlying hR.slc, Result.andThen_ok, run_size' hRe, hsz, h0, Array.toList_map]
    simp only [show ¬ (len * e.sz > 2 ^ 24) by omega, if_false, Sem.run_bind, hz, Sem.run_pure, Result.andThen_ok, q1]
    rfl

end
end Go.Sym
