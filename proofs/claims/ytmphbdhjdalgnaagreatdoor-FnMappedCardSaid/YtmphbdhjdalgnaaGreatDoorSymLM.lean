/- The symbolic machine and the model: maps that the call owns. -/
import Derived.Test.YtmphbdhjdalgnaaGreatDoorSymLL
import Derived.MapKept
import Derived.Laws.Entries
namespace Go.Sym
set_option linter.unusedVariables false
set_option linter.unusedSimpArgs false
set_option linter.unusedSectionVars false
variable [Globs] [Dm]

section
variable {R : Type} {P : Program} {E : Env} {C : Ctx} {B : Nat} {L : Fr} {hp : Nat → Option Ob} {k : AV → Sets → Option R} {r : R} {o : Oper} {a : Act}

theorem check_i64 {kt : TypeId} (h : i64B P kt = true) (e : Bool) (n : Nat) (x : Int) (w : World) : (Instr.checkKey e (n + 1) kt (.int .i64 x)).run P w = .ok () w := by
  simp [Instr.checkKey, run_underlying (i64B_ok h)]

theorem check_pair {kt : TypeId} (h : cmpB P kt = true) (e : Bool) (n : Nat) (x y : Int) (w : World) : (Instr.checkKey e (n + 2) kt (.agg #[.int .i64 x, .int .i64 y])).run P w = .ok () w := by
  unfold cmpB at h
  split at h
  · rename_i fields hu
    split at h
    · rename_i f g hl
      simp only [Bool.and_eq_true, bne_iff_ne, beq_iff_eq, Bool.not_eq_true'] at h
      obtain ⟨⟨⟨⟨⟨n1, n2⟩, o1, o2⟩, k1, k2⟩, hs⟩, hg⟩ := h
      have hf : fields = #[f, g] := Array.ext' hl
      subst hf
      show (Instr.checkKey e ((n + 1) + 1) kt _).run P w = _
      have hx : (part f.type #[.int .i64 x, .int .i64 y] 0).run P w = .ok (.int .i64 x) w := part_i64 k1 rfl w
      have hy : (part g.type #[.int .i64 x, .int .i64 y] 1).run P w = .ok (.int .i64 y) w := part_i64 k2 rfl w
      simp [Instr.checkKey, run_underlying hu, n1, n2, o1, o2, hx, hy, run_underlying (i64B_ok k1), run_underlying (i64B_ok k2)]
    · cases h
  · cases h

theorem check_key {m : MK} {kt vt : TypeId} (h : mapB P m kt vt = true) (e : Bool) (q : m.K) (w : World) : (Instr.checkKey e 10000 kt (m.kv q)).run P w = .ok () w := by
  cases m
  · simp only [mapB, Bool.and_eq_true] at h
    exact check_i64 h.1 e 9999 q w
  · simp only [mapB, Bool.and_eq_true] at h
    exact check_pair h.1 e 9998 q.1 q.2 w

theorem zero_val {m : MK} {kt vt : TypeId} (h : mapB P m kt vt = true) (w : World) : (zeroValue vt).run P w = .ok (m.vv m.z) w := by
  cases m
  · simp only [mapB, Bool.and_eq_true] at h
    have h := h.2
    split at h
    · rename_i n hn
      obtain ⟨i, hi, hz⟩ := Option.bind_eq_some_iff.1 hn
      have h := eq_of_beq h
      subst h
      simp [zeroValue, typeInfo, hi, hz, MK.vv, MK.z]
    · cases h
  · simp only [mapB, Bool.and_eq_true] at h
    have h := h.2
    split at h
    · rename_i b hn
      obtain ⟨i, hi, hz⟩ := Option.bind_eq_some_iff.1 hn
      cases b
      · simp [zeroValue, typeInfo, hi, hz, MK.vv, MK.z]
      · cases h
    · cases h

/-- Where a key lies. -/
def mfind (m : MK) (q : m.K) : List (m.K × m.V) → Nat → Option (Nat × m.V)
  | [], _ => none
  | p :: r, i => if m.eq q p.1 = true then some (i, p.2) else mfind m q r (i + 1)

theorem mfind_get (m : MK) (q : m.K) : ∀ (ps : List (m.K × m.V)) (i : Nat), (mfind m q ps i).map (·.2) = mget m q ps
  | [], _ => rfl
  | p :: r, i => by
    unfold mfind mget
    split
    · rfl
    · exact mfind_get m q r (i + 1)

def fres (m : MK) (x : Option (Nat × m.V)) : Option (Nat × Value) := x.map fun y => (y.1, m.vv y.2)

theorem find_ii {kt : TypeId} (h : i64B P kt = true) (q : Int) (w : World) : ∀ (ps : List (Int × Int)) (es : List MapEntry), EntRep .ii ps es → (Instr.findKey kt (.int .i64 q) es).run P w = .ok (fres .ii (mfind .ii q ps 0)) w := by
  have key : ∀ (ps : List (Int × Int)) (es : List MapEntry) (i : Nat), EntRep .ii ps es → Instr.findNow (.int .i64) (.int .i64 q) es i = some (fres .ii (mfind .ii q ps i)) := by
    intro ps
    induction ps with
    | nil => intro es i he; have he : es = [] := he; subst he; rfl
    | cons p r ih =>
      intro es i he
      obtain ⟨e, es', rfl, e1, e2, e3⟩ := he
      have e1 : e.key = .int .i64 p.1 := e1
      have e2 : e.val = .int .i64 p.2 := e2
      unfold Instr.findNow mfind MK.eq
      rw [e1, e2]
      simp only [Instr.sameNow, if_true]
      rcases Bool.eq_false_or_eq_true (q == p.1) with hq | hq
      · simp only [hq, if_true]
        rfl
      · simp only [hq, Bool.false_eq_true, if_false]
        exact ih es' (i + 1) e3
  intro ps es he
  simp [Instr.findKey, run_underlying (i64B_ok h), key ps es 0 he]

theorem find_pb {kt : TypeId} (h : cmpB P kt = true) (q : Int × Int) (w : World) : ∀ (ps : List ((Int × Int) × Bool)) (es : List MapEntry), EntRep .pb ps es → (Instr.findKey kt (.agg #[.int .i64 q.1, .int .i64 q.2]) es).run P w = .ok (fres .pb (mfind .pb q ps 0)) w := by
  have key : ∀ (ps : List ((Int × Int) × Bool)) (es : List MapEntry) (i : Nat), EntRep .pb ps es → (Instr.findAsking kt (.agg #[.int .i64 q.1, .int .i64 q.2]) es i).run P w = .ok (fres .pb (mfind .pb q ps i)) w := by
    intro ps
    induction ps with
    | nil => intro es i he; have he : es = [] := he; subst he; rfl
    | cons p r ih =>
      intro es i he
      obtain ⟨e, es', rfl, e1, e2, e3⟩ := he
      have e1 : e.key = .agg #[.int .i64 p.1.1, .int .i64 p.1.2] := e1
      have e2 : e.val = .bool p.2 := e2
      unfold Instr.findAsking mfind MK.eq
      rw [e1, Sem.run_bind, (pair_run h w q.1 q.2 p.1.1 p.1.2).1]
      simp only [Result.andThen_ok]
      rcases Bool.eq_false_or_eq_true (q.1 == p.1.1 && q.2 == p.1.2) with hq | hq
      · simp only [hq, if_true, e2]
        rfl
      · simp only [hq, Bool.false_eq_true, if_false]
        exact ih es' (i + 1) e3
  intro ps es he
  have hd : ∃ fields, P.underlying kt = some (.struct fields) := by
    unfold cmpB at h
    split at h
    · rename_i fields hu; exact ⟨_, hu⟩
    · cases h
  obtain ⟨fields, hd⟩ := hd
  unfold Instr.findKey
  rw [Sem.run_bind, run_underlying hd w]
  simp only [Result.andThen_ok]
  cases ps with
  | nil => have he : es = [] := he; subst he; rfl
  | cons p r =>
    obtain ⟨e, es', rfl, e1, e2, e3⟩ := he
    have : Instr.findNow (.struct fields) (.agg #[.int .i64 q.1, .int .i64 q.2]) (e :: es') 0 = none := by
      unfold Instr.findNow Instr.sameNow
      rfl
    rw [this]
    exact key (p :: r) (e :: es') 0 ⟨e, es', rfl, e1, e2, e3⟩

theorem find_key {m : MK} {kt vt : TypeId} (h : mapB P m kt vt = true) (q : m.K) (w : World) {ps : List (m.K × m.V)} {es : List MapEntry} (he : EntRep m ps es) : (Instr.findKey kt (m.kv q) es).run P w = .ok (fres m (mfind m q ps 0)) w := by
  cases m
  · simp only [mapB, Bool.and_eq_true] at h
    exact find_ii h.1 q w ps es he
  · simp only [mapB, Bool.and_eq_true] at h
    exact find_pb h.1 q w ps es he

theorem lookup_run {m : MK} {t kt vt : TypeId} (ht : P.underlying t = some (.map kt vt)) (h : mapB P m kt vt = true) (q : m.K) {w : World} {b : Nat} {es : Array MapEntry} {ck : Nat} (hb : w.heap[b]? = some (.map es ck)) {ps : List (m.K × m.V)} (he : EntRep m ps es.toList) (c : Bool) :
    (Instr.lookup t (.map (some b)) (m.kv q) c).run P w = .ok (if c then .tuple #[m.vv ((mget m q ps).getD m.z), .bool (mget m q ps).isSome] else m.vv ((mget m q ps).getD m.z)) w := by
  have hg := mfind_get m q ps 0
  unfold Instr.lookup
  simp only [Sem.run_bind, run_underlying ht w, Result.andThen_ok, MapKept.run_getObj_map hb, check_key h, Sem.run_pure]
  rw [find_key h q w he]
  cases hf : mfind m q ps 0 with
  | none =>
    rw [hf] at hg
    rw [← hg]
    simp [fres, zero_val h, Result.andThen]
    done
  | some x =>
    rw [hf] at hg
    rw [← hg]
    simp [fres, Result.andThen]

theorem same_bits (m : MK) {q q' : m.K} (h : m.eq q q' = true) : Instr.sameBits 10000 (m.kv q') (m.kv q) = true ∧ m.kv q' = m.kv q := by
  cases m
  · have h : q = q' := eq_of_beq h
    subst h
    refine ⟨?_, rfl⟩
    show Instr.sameBits (9999 + 1) (.int .i64 q) (.int .i64 q) = true
    simp [Instr.sameBits]
  · have h : (q.1 == q'.1 && q.2 == q'.2) = true := h
    rw [Bool.and_eq_true, beq_iff_eq, beq_iff_eq] at h
    have : q = q' := Prod.ext h.1 h.2
    subst this
    refine ⟨?_, rfl⟩
    show Instr.sameBits (9998 + 1 + 1) (.agg #[.int .i64 q.1, .int .i64 q.2]) (.agg #[.int .i64 q.1, .int .i64 q.2]) = true
    simp [Instr.sameBits]

theorem ent_none {m : MK} {q : m.K} (y : m.V) (ck : Nat) : ∀ {ps : List (m.K × m.V)} {es : List MapEntry} (i : Nat), EntRep m ps es → mfind m q ps i = none → EntRep m (mput m q y ps) (es ++ [{ key := m.kv q, val := m.vv y, born := ck }])
  | [], es, i, he, _ => by
    have he : es = [] := he
    subst he
    exact ⟨_, [], rfl, rfl, rfl, rfl⟩
  | p :: r, es, i, he, hf => by
    obtain ⟨e, es', rfl, e1, e2, e3⟩ := he
    unfold mfind at hf
    unfold mput
    split at hf
    · cases hf
    · rename_i hn
      rw [if_neg hn]
      exact ⟨e, _, rfl, e1, e2, ent_none y ck (i + 1) e3 hf⟩

theorem ent_some {m : MK} {q : m.K} (y : m.V) : ∀ {ps : List (m.K × m.V)} {es : List MapEntry} (i j : Nat) (v : m.V), EntRep m ps es → mfind m q ps i = some (j, v) → i ≤ j ∧ ∃ e, es[j - i]? = some e ∧ Instr.sameBits 10000 e.key (m.kv q) = true ∧ EntRep m (mput m q y ps) (es.modify (j - i) fun e => { e with key := m.kv q, val := m.vv y })
  | [], es, i, j, v, he, hf => by cases hf
  | p :: r, es, i, j, v, he, hf => by
    obtain ⟨e, es', rfl, e1, e2, e3⟩ := he
    unfold mfind at hf
    unfold mput
    split at hf
    · rename_i hq
      cases hf
      rw [if_pos hq, Nat.sub_self]
      refine ⟨Nat.le_refl _, e, rfl, by rw [e1]; exact (same_bits m hq).1, ?_⟩
      exact ⟨_, es', rfl, rfl, rfl, e3⟩
    · rename_i hn
      rw [if_neg hn]
      obtain ⟨h1, e', h2, h3, h4⟩ := ent_some y (i + 1) j v e3 hf
      obtain ⟨c, hc⟩ : ∃ c, j - i = c + 1 := ⟨j - i - 1, by omega⟩
      have hc' : j - (i + 1) = c := by omega
      rw [hc'] at h2 h4
      rw [hc]
      refine ⟨by omega, e', by simpa using h2, h3, ?_⟩
      exact ⟨e, _, rfl, e1, e2, h4⟩

theorem update_run {m : MK} {t kt vt : TypeId} (ht : P.underlying t = some (.map kt vt)) (h : mapB P m kt vt = true) (q : m.K) (y : m.V) {w : World} {b : Nat} {es : Array MapEntry} {ck : Nat} (hb : w.heap[b]? = some (.map es ck)) {ps : List (m.K × m.V)} (he : EntRep m ps es.toList) :
    ∃ es' ck', (Instr.mapUpdate t (.map (some b)) (m.kv q) (m.vv y)).run P w = .ok () { w with heap := w.heap.setIfInBounds b (.map es' ck') } ∧ EntRep m (mput m q y ps) es'.toList := by
  unfold Instr.mapUpdate
  simp only [Sem.run_bind, run_underlying ht w, Result.andThen_ok, MapKept.run_getObj_map hb, check_key h, find_key h q w he]
  cases hf : mfind m q ps 0 with
  | none =>
    refine ⟨es.push { key := m.kv q, val := m.vv y, born := ck }, ck + 1, ?_, ?_⟩
    · simp [fres, MapKept.run_setObj_map _ hb]
    · rw [Array.toList_push]
      exact ent_none y ck 0 he hf
  | some x =>
    obtain ⟨j, v⟩ := x
    obtain ⟨_, e, h1, h2, h3⟩ := ent_some y 0 j v he hf
    rw [Nat.sub_zero] at h1 h3
    refine ⟨es.modify j fun e => { e with key := m.kv q, val := m.vv y }, ck, ?_, ?_⟩
    · have h1' : es[j]? = some e := by simpa using h1
      simp [fres, Instr.keyThatStays, h1', h2, MapKept.run_setObj_map _ hb]
    · rw [Array.toList_modify]
      exact h3

theorem rk_val {m : MK} {v : AV} {q : m.K} {x : Value} (h : m.rk v = some q) (hr : Rep C v x) : x = m.kv q := by
  unfold MK.rk at h
  split at h
  · cases h
    unfold Rep at hr
    exact hr
  · cases h
    unfold Rep at hr
    obtain ⟨vs, rfl, g⟩ := hr
    unfold RepL at g
    obtain ⟨v1, r1, e1, g1, g⟩ := g
    unfold RepL at g
    obtain ⟨v2, r2, e2, g2, g⟩ := g
    unfold RepL at g
    unfold Rep at g1 g2
    subst g1 g2 g
    rw [e2] at e1
    show Value.agg vs = .agg #[_, _]
    congr 1
    exact Array.ext' e1
  · cases h

theorem rv_val {m : MK} {v : AV} {y : m.V} {x : Value} (h : m.rv v = some y) (hr : Rep C v x) : x = m.vv y := by
  unfold MK.rv at h
  split at h
  · cases h
    unfold Rep at hr
    exact hr
  · cases h
    unfold Rep at hr
    exact hr
  · cases h

theorem va_rep (m : MK) (y : m.V) : Rep C (m.va y) (m.vv y) := by
  cases m <;> (unfold MK.va MK.vv; unfold Rep; rfl)

theorem makeMap_ok (hT : TyOk P E) (hH : Heap C B L hp) (hB : B ≤ C.w.heap.size) (hf : Free C (o.dst.getD 0)) {t : TypeId} (ho : o.op = .makeMap t none) {m : MK}
    (h : k (.mp (ns (o.dst.getD 0) 0)) [(ns (o.dst.getD 0) 0, some (.map m []))] = some r) : OpOK P o a C B L hp k r := by
  have hid := hf (ns (o.dst.getD 0) 0) (ns_div (o.dst.getD 0) 0 (by omega))
  have hold : ∀ k, k < C.w.heap.size → (C.w.alloc (.map #[] 0)).heap[k]? = C.w.heap[k]? := fun k hk => alloc_old C.w _ k hk
  have hle := Le.add hH hid (.map (some C.w.heap.size)) hold
  have hs : C.w.heap.size ≤ (C.w.alloc (.map #[] 0)).heap.size := by simp
  refine OpOK.val (v' := .map (some C.w.heap.size)) (C' := C.add (ns (o.dst.getD 0) 0) (.map (some C.w.heap.size)) (C.w.alloc (.map #[] 0))) ?_ h ?_
  · simp [execOp, ho, Instr.makeMap, newObj, Ctx.add]
    rfl
  · refine ⟨hle, fun id h => ?_, hH.add hB hid hold hs ⟨C.w.heap.size, #[], 0, rfl, heap_alloc_new C.w _, rfl⟩ (fun b h => ?_), ?_, Gr.grow hB rfl rfl rfl hs hold (Nat.le_refl _)⟩
    · rcases h with h | rfl
      · exact .inl h
      · exact .inr ⟨by simp [makes, ho], ns_div (o.dst.getD 0) 0 (by omega)⟩
    · have h : C.w.heap.size = b := h
      subst h
      exact ⟨Nat.le_refl _, by simp⟩
    · unfold Rep
      exact ⟨.inr rfl, ⟨_, rfl⟩, fun pv hp => by simp [Ctx.add] at hp; exact hp⟩

theorem lookup_ok (hT : TyOk P E) (hH : Heap C B L hp) {t : TypeId} {x i : Operand} {c : Bool} (ho : o.op = .lookup t x i c) {m : MK} {s b : Nat} {z : List AV} (ht : E.ty t = some ⟨.map m, s, b, z⟩) {id : Nat} {v : AV} (hx : Rep C (.mp id) (a.eval x)) (hi : Rep C v (a.eval i)) {ps : List (m.K × m.V)} (hb : hp id = some (.map m ps)) {q : m.K} (hq : m.rk v = some q)
    (h : (if c then k (.tup [m.va ((mget m q ps).getD m.z), .bool (mget m q ps).isSome]) [] else k (m.va ((mget m q ps).getD m.z)) []) = some r) : OpOK P o a C B L hp k r := by
  obtain ⟨kt, vt, hu, hm⟩ := (hT.row ht).map
  obtain ⟨pv, hρ, bl, es, ck, rfl, hg, he⟩ := hH.som id _ hb
  unfold Rep at hx
  have hxv := hx.2.2 _ hρ
  have hiv := rk_val hq hi
  have hrun := lookup_run hu hm q hg he c
  cases c with
  | true =>
    refine OpOK.pure hH (v' := .tuple #[m.vv ((mget m q ps).getD m.z), .bool (mget m q ps).isSome]) ?_ h ?_
    · simp [execOp, ho, hxv, hiv, hrun]
    · unfold Rep
      refine ⟨_, rfl, ?_⟩
      exact RepL_cons (va_rep m _) (RepL_cons (by unfold Rep; rfl) RepL_nil)
  | false =>
    refine OpOK.pure hH (v' := m.vv ((mget m q ps).getD m.z)) ?_ h (va_rep m _)
    simp [execOp, ho, hxv, hiv, hrun]

theorem mapUpdate_ok (hT : TyOk P E) (hH : Heap C B L hp) {t : TypeId} {x i y : Operand} (ho : o.op = .mapUpdate t x i y) {m : MK} {s b : Nat} {z : List AV} (ht : E.ty t = some ⟨.map m, s, b, z⟩) {id : Nat} {v u : AV} (hx : Rep C (.mp id) (a.eval x)) (hi : Rep C v (a.eval i)) (hy : Rep C u (a.eval y)) {ps : List (m.K × m.V)} (hb : hp id = some (.map m ps)) {q : m.K} (hq : m.rk v = some q) {yv : m.V} (hyv : m.rv u = some yv)
    (h : k .any [(id, some (.map m (mput m q yv ps)))] = some r) : OpOK P o a C B L hp k r := by
  obtain ⟨kt, vt, hu, hm⟩ := (hT.row ht).map
  have hA : C.A id := hH.inA id (by rw [hb]; simp)
  obtain ⟨pv, hρ, bl, es, ck, rfl, hg, he⟩ := hH.som id _ hb
  unfold Rep at hx
  have hxv := hx.2.2 _ hρ
  have hiv := rk_val hq hi
  have hyv := rv_val hyv hy
  obtain ⟨es', ck', hrun, he'⟩ := update_run hu hm q yv hg he
  have hlt : bl < C.w.heap.size := (Array.getElem?_eq_some_iff.1 hg).1
  obtain ⟨h1, h2, h3⟩ := hH.upd hρ (g := bl) rfl (w := { C.w with heap := C.w.heap.setIfInBounds bl (.map es' ck') }) (by simp) (fun k hk => by simp [Ne.symm hk]) rfl rfl rfl (Nat.le_refl _)
  refine OpOK.skip (v := .any) (C' := C.at { C.w with heap := C.w.heap.setIfInBounds bl (.map es' ck') }) ?_ h ?_
  · simp [execOp, ho, hxv, hiv, hyv, hrun, Ctx.at]
  · refine ⟨h1, fun _ h => .inl h, h3 hA _ ⟨bl, es', ck', rfl, ?_, he'⟩, by unfold Rep; trivial, h2⟩
    simp [Ctx.at, hlt]

end
end Go.Sym
