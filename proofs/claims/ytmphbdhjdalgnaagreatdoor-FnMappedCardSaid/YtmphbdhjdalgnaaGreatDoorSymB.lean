/- The symbolic machine: regions, code, loops, functions. Definitions alone. -/
import Derived.Test.YtmphbdhjdalgnaaGreatDoorSymA
namespace Go.Sym
set_option linter.unusedVariables false
set_option linter.unusedSimpArgs false
set_option linter.unusedSectionVars false

noncomputable section run
variable [Globs] {R : Type} (E : Env)

/-- The names that a region's operations may give are free when it begins. -/
def AV.kill (ds : List Nat) : Nat → AV → AV
  | 0, _ => .any
  | n + 1, a => match a with
    | .own id => if ds.contains (id / 1000) then .any else .own id
    | .ptr id off => if ds.contains (id / 1000) then .any else .ptr id off
    | .rptr id i sz off => if ds.contains (id / 1000) then .any else .rptr id i sz off
    | .sub id lo sz => if ds.contains (id / 1000) then .any else .sub id lo sz
    | .mp id => if ds.contains (id / 1000) then .any else .mp id
    | .clo g cs => .clo g (cs.map (AV.kill ds n))
    | .agg cs => .agg (cs.map (AV.kill ds n))
    | .tup cs => .tup (cs.map (AV.kill ds n))
    | .vptr cs off => .vptr (cs.map (AV.kill ds n)) off
    | a => a

def Ob.kill (ds : List Nat) : Ob → Ob
  | .box t cs => .box t (cs.map (AV.kill ds 8))
  | .row t e ys => .row t e ys
  | .nest t el e yss h => .nest t el e yss (h.map fun p => (p.1, p.2.filter fun n => !ds.contains (n / 1000)))
  | .map m ps => .map m ps

/-- Does an operation make memory? -/
def makes (o : Oper) : Bool :=
  match o.op with
  | .alloc _ | .box .. | .buildSlice .. | .makeSlice .. | .build .. | .slice .. | .makeMap .. => true
  | .load t _ => Globs.nsr.contains t
  | .move (.const (.slice ..)) | .assign (.const (.slice ..)) => true
  | .call { callee := .builtin .append, .. } => true
  | .call { callee := .builtin _, .. } => false
  | .call _ => true
  | _ => false

/-- Places (a thousand names each) that a region gives anew. -/
def given (ops : List Oper) : List Nat :=
  ops.filterMap fun o => if makes o then some (o.dst.getD 0 + 1) else none

def killS (ds : List Nat) (s : S) : S :=
  { tm := fun t => (s.tm t).kill ds 8, hp := fun id => if ds.contains (id / 1000) then none else (s.hp id).map (Ob.kill ds) }

def enter (ops : List Oper) (s : S) : S :=
  match given ops with
  | [] => s
  | ds => killS ds s

def enterK (ops : List Oper) (s : S) (k : S → Option R) : Option R :=
  match given ops with
  | [] => k s
  | ds => k (killS ds s)

theorem enterK_eq (ops : List Oper) (s : S) (k : S → Option R) : enterK ops s k = k (enter ops s) := by
  unfold enterK enter; split <;> rfl

def put (o : Oper) (s : S) (v : AV) (u : Sets) : S :=
  { tm := match o.dst with
      | some d => setTm s.tm d v
      | none => s.tm
    hp := setHp s.hp u }

def putK (o : Oper) (s : S) (v : AV) (u : Sets) (k : S → Option R) : Option R :=
  fA v fun v => fU u fun u => match o.dst, u with
  | some d, [] => k { tm := setTm s.tm d v, hp := s.hp }
  | some d, u => k { tm := setTm s.tm d v, hp := setHp s.hp u }
  | none, u => k { tm := s.tm, hp := setHp s.hp u }

theorem putK_eq (o : Oper) (s : S) (v : AV) (u : Sets) (k : S → Option R) : putK o s v u k = k (put o s v u) := by
  simp only [putK, fA_eq, fU_eq, put]
  split <;> simp_all [setHp]

/-- One operation, its guard asked first. -/
def step (ops : Array Oper) (o : Oper) (s : S) (k : S → Option R) : Option R :=
  let go : Option R := aopN E s.hp (getv s.tm) o (o.dst.getD 0) fun v u => putK o s v u k
  match o.guard with
  | none => go
  | some (g, want) => match (ops[g]?).bind (·.dst) with
    | some t => match s.tm t with
      | .bool b => if want then br b go (putK o s (.tup []) [] k) else br b (putK o s (.tup []) [] k) go
      | .tup _ => putK o s (.tup []) [] k
      | _ => none
    | none => none

def runOps (ops : Array Oper) : List Oper → S → (S → Option R) → Option R
  | [], s, k => k s
  | o :: r, s, k => step E ops o s fun s' => runOps ops r s' k

inductive AX where
  | normal | exit (id : Nat) | ret

def firstRegion : Code → Nat
  | .region id _ _ => id
  | .seq a _ => firstRegion a
  | .block _ b => firstRegion b
  | .loop b => firstRegion b
  | _ => 0

/-- Names that an operation looks at. -/
def ids1 : AV → List Nat
  | .own id | .ptr id _ | .rptr id .. | .sub id .. | .mp id => [id]
  | _ => []

def holeOf (look : Nat → Option Ob) (id : Nat) : List Nat :=
  match look id with
  | some (.nest _ _ _ _ (some (_, some n))) => [n]
  | _ => []

def reads (look : Nat → Option Ob) (ρ : Operand → AV) (o : Oper) : List Nat :=
  match o.op with
  | .store _ x y => ids1 (ρ x) ++ (if Globs.nst.isEmpty then [] else ids1 (ρ y))
  | .buildSlice t _ ps => if Globs.nst.contains t then ps.toList.flatMap fun q => ids1 (ρ q.2) else []
  | .indexAddr t x _ => if Globs.nst.contains t = true then [] else ids1 (ρ x)
  | .load _ x | .convert _ _ x | .slice _ x .. | .lookup _ x _ _ | .mapUpdate _ x _ _ => ids1 (ρ x)
  | .call c => match c.callee with
    | .value f => (ρ f).ids look 9 ++ c.args.toList.flatMap fun x => (ρ x).ids look 8
    | _ => c.args.toList.flatMap fun x => ids1 (ρ x)
  | _ => []

def readsN (look : Nat → Option Ob) (ρ : Operand → AV) (o : Oper) : List Nat :=
  if Globs.nst.isEmpty then reads look ρ o else reads look ρ o ++ (reads look ρ o).flatMap (holeOf look)

/-- Names of which an operation looks at the shape alone. -/
def readsS (ρ : Operand → AV) (o : Oper) : List Nat :=
  match o.op with
  | .indexAddr t x _ => if Globs.nst.contains t = true then ids1 (ρ x) else []
  | _ => []

/-- Names whose shape an operation may change. -/
def wrS (ρ : Operand → AV) (o : Oper) (u : Sets) : List Nat :=
  match o.op with
  | .load _ x | .store _ x _ => (match ρ x with
    | .rptr id .. => (u.map (·.1)).filter fun j => !(j == id)
    | _ => u.map (·.1))
  | _ => u.map (·.1)

def wanted? (ops : Array Oper) (o : Oper) (s : S) : Option Bool :=
  match o.guard with
  | none => some true
  | some (g, want) => match (ops[g]?).bind (·.dst) with
    | some t => match s.tm t with
      | .bool b => some (b == want)
      | .tup _ => some false
      | _ => none
    | none => none

/-- What an operation writes and reads, in a region whose order is open. -/
structure Ent where
  wr : List Nat
  rd : List Nat
  ws : List Nat := []
  rs : List Nat := []

def entOf (ops : Array Oper) (o : Oper) (s : S) (u : Sets) : Ent :=
  ⟨u.map (·.1), match wanted? ops o s with
    | some true => readsN s.hp (getv s.tm) o
    | _ => [],
    wrS (getv s.tm) o u, match wanted? ops o s with
    | some true => readsS (getv s.tm) o
    | _ => []⟩

def slots (ops : Array Oper) (o : Oper) : List Tmp :=
  (o.op.operands.toList.filterMap fun
    | .tmp t => some t
    | _ => none) ++
  (match o.guard with
    | some (g, _) => ((ops[g]?).bind (·.dst)).toList
    | none => [])

def clashL (l m : List Nat) : Bool := l.any fun x => m.contains x

/-- Two operations may change places. -/
def free2 (ops : Array Oper) (x y : Oper) (a b : Ent) : Bool :=
  (match x.dst with
    | some d => !(slots ops y).contains d && y.dst != some d
    | none => true) &&
  (match y.dst with
    | some d => !(slots ops x).contains d
    | none => true) &&
  !clashL a.wr b.rd && !clashL a.wr b.wr && !clashL b.wr a.rd && !clashL a.ws b.rs && !clashL b.ws a.rs

def direct (o : Oper) : List Nat := o.after.toList.filterMap fun e => if Region.binds .any e then some e.on else none

/-- What must stand ahead of each operation, as bits. -/
def aheads : List Oper → List Nat → List Nat
  | [], _ => []
  | o :: r, acc =>
    let m := (direct o).foldl (fun s j => s ||| (2 ^ j ||| acc.getD j 0)) 0
    m :: aheads r (acc ++ [m])

def pairOk (ops : Array Oper) (oj : Oper) (ej : Ent) (bits j : Nat) (x : Oper × Ent × Nat) : Bool :=
  bits.testBit x.2.2 || free2 ops x.1 oj x.2.1 ej

def pairsOk (ops : Array Oper) : List Oper → List Ent → List Nat → Nat → List (Oper × Ent × Nat) → Bool
  | o :: os, e :: es, m :: ms, j, seen => (direct o).all (· < j) && seen.all (pairOk ops o e m j) && pairsOk ops os es ms (j + 1) (seen ++ [(o, e, j)])
  | [], [], [], _, _ => true
  | _, _, _, _, _ => false

def drawOk (ops : Array Oper) (log : List Ent) : Bool := pairsOk ops ops.toList log (aheads ops.toList []) 0 []

def stepE (ops : Array Oper) (o : Oper) (s : S) (k : S → Ent → Option R) : Option R :=
  let go : Option R := fNs (readsN s.hp (getv s.tm) o) fun rd => aopN E s.hp (getv s.tm) o (o.dst.getD 0) fun v u => fNs (u.map (·.1)) fun wr => fNs (wrS (getv s.tm) o u) fun ws => fNs (readsS (getv s.tm) o) fun rs => putK o s v u fun s' => k s' ⟨wr, rd, ws, rs⟩
  let no : Option R := putK o s (.tup []) [] fun s' => k s' ⟨[], [], [], []⟩
  match o.guard with
  | none => go
  | some (g, want) => match (ops[g]?).bind (·.dst) with
    | some t => match s.tm t with
      | .bool b => if want then br b go no else br b no go
      | .tup _ => no
      | _ => none
    | none => none

def runDraw (ops : Array Oper) : List Oper → List Ent → S → (S → Option R) → Option R
  | [], log, s, k => br (drawOk ops log) (k s) none
  | o :: r, log, s, k => stepE E ops o s fun s' e => runDraw ops r (log ++ [e]) s' k

def evC (lp : Code → S → (AX → S → Option R) → Option R) : Code → S → (AX → S → Option R) → Option R
  | .skip, s, k => k .normal s
  | .region _ ops d, s, k => enterK ops.toList s fun s => if d then runDraw E ops ops.toList [] s (k .normal) else runOps E ops ops.toList s (k .normal)
  | .seq a b, s, k => evC lp a s fun x s' => match x with
    | .normal => evC lp b s' k
    | x => k x s'
  | .cond c t e, s, k => match getv s.tm c with
    | .bool b => br b (evC lp t s k) (evC lp e s k)
    | .ub => both (evC lp t s k) (evC lp e s k)
    | _ => none
  | .block id b, s, k => evC lp b s fun x s' => match x with
    | .exit i => if i = id then k .normal s' else k (.exit i) s'
    | x => k x s'
  | .loop b, s, k => lp b s k
  | .exit id, s, k => k (.exit id) s
  | .ret, s, k => k .ret s
  | _, _, _ => none

/-- A state laid out: slots and their values, memory in order. -/
def mkS (lv : List Nat) (vs : List AV) (obs : List (Option Ob)) : S :=
  { tm := fun t => match (lv.zip vs).lookup t with
      | some v => v
      | none => .any
    hp := fun j => (obs[j]?).join }

def fOs {R : Type} : List (Option Ob) → (List (Option Ob) → R) → R
  | [], k => k []
  | o :: r, k => fO o fun o => fOs r fun r => k (o :: r)

theorem fOs_eq {R : Type} (l : List (Option Ob)) : ∀ k : List (Option Ob) → R, fOs l k = k l := by
  induction l with
  | nil => intro k; rfl
  | cons c r ih => intro k; simp only [fOs, fO_eq, ih]

def normL (lv : List Nat) (m : Nat) (s : S) : List Nat :=
  List.range m ++ (dedup [] ((lv.map s.tm).flatMap (AV.ids s.hp 8))).filter (m ≤ ·)

/-- What a loop's head knows: the live slots, the memory that they lead to, named in order. -/
def norm (lv : List Nat) (m : Nat) (s : S) : S :=
  mkS lv ((lv.map s.tm).map (AV.ren (idx (normL lv m s)) 8)) ((normL lv m s).map fun id => (s.hp id).map (Ob.ren (idx (normL lv m s))))

def normK (lv : List Nat) (m : Nat) (s : S) (k : S → Option R) : Option R :=
  fNs lv fun lv => fNs (normL lv m s) fun L =>
  fL fA ((lv.map s.tm).map (AV.ren (idx L) 8)) fun vs =>
  fOs (L.map fun id => (s.hp id).map (Ob.ren (idx L))) fun obs => k (mkS lv vs obs)

theorem normK_eq (lv : List Nat) (m : Nat) (s : S) (k : S → Option R) : normK lv m s k = k (norm lv m s) := by
  simp only [normK, fNs_eq, fL_eq fA_eq, fOs_eq, norm]

/-- What was taken out of slices of slices is put back. -/
def closeS (ids : List Nat) (s : S) : S := { tm := s.tm, hp := setHp s.hp (closeAll ids s.hp) }

def closeK (ids : List Nat) (s : S) (k : S → Option R) : Option R :=
  match closeAll ids s.hp with
  | [] => k s
  | cs => fU cs fun cs => k { tm := s.tm, hp := setHp s.hp cs }

theorem closeK_eq (ids : List Nat) (s : S) (k : S → Option R) : closeK ids s k = k (closeS ids s) := by
  unfold closeK closeS
  split
  · rename_i h; rw [h]; rfl
  · rw [fU_eq]

def ownsOf (vs : List AV) : List Nat := if Globs.nst.isEmpty then [] else vs.flatMap fun v => match v with
  | .own id => [id]
  | _ => []

/-- A loop's round at its head. -/
def lpRound (lp : Code → S → (AX → S → Option R) → Option R) (m : Nat) (b : Code) (s : S) (k : AX → S → Option R) : Option R :=
  evC E lp b s fun x s' => match x with
    | .normal => lp b s' k
    | x => closeK (ownsOf ((E.live (firstRegion b)).2.map s'.tm)) s' fun s' => normK (E.live (firstRegion b)).2 m s' (k x)

theorem lpAt_ex : ∃ f : (Code → S → (AX → S → Option R) → Option R) → Nat → Code → S → (AX → S → Option R) → Option R, f = lpRound E := ⟨_, rfl⟩
@[irreducible] def lpAt (lp : Code → S → (AX → S → Option R) → Option R) (m : Nat) (b : Code) (s : S) (k : AX → S → Option R) : Option R :=
  (lpAt_ex E).choose lp m b s k
theorem lpAt_def (lp : Code → S → (AX → S → Option R) → Option R) (m : Nat) (b : Code) (s : S) (k : AX → S → Option R) : lpAt E lp m b s k = lpRound E lp m b s k := by
  unfold lpAt
  rw [(lpAt_ex E).choose_spec]

def lp (m : Nat) : Nat → Code → S → (AX → S → Option R) → Option R
  | 0, _, _, _ => none
  | n + 1, b, s, k => closeK (ownsOf ((E.live (firstRegion b)).1.map s.tm)) s fun s => normK (E.live (firstRegion b)).1 m s fun s0 => lpAt E (lp m n) m b s0 k

/-- The loops of a text, in order. -/
def loopsOf : Code → List Code
  | .seq a b => loopsOf a ++ loopsOf b
  | .cond _ a b => loopsOf a ++ loopsOf b
  | .block _ b => loopsOf b
  | .loop b => b :: loopsOf b
  | _ => []

def loopAt (fn : Func) (i : Nat) : Code :=
  match fn.body with
  | some c => (loopsOf c).getD i .skip
  | none => .skip

/-- A function's results, packed: the memory of the call's own that they lead to, named in order. -/
def pack (m : Nat) (s : S) (v : AV) : Option (AV × List Ob) :=
  let L := List.range m ++ (dedup [] (v.ids s.hp 8)).filter (m ≤ ·)
  match gather s.hp (idx L) L with
  | some obs => some (v.ren (idx L) 8, obs)
  | none => none

def packK (m : Nat) (s : S) (v : AV) : Option (AV × List Ob) :=
  fNs (List.range m ++ (dedup [] (v.ids s.hp 8)).filter (m ≤ ·)) fun L =>
  match gather s.hp (idx L) L with
  | some obs => fA (v.ren (idx L) 8) fun v => fBs obs fun obs => some (v, obs)
  | none => none

theorem packK_eq (m : Nat) (s : S) (v : AV) : packK m s v = pack m s v := by
  unfold packK pack
  rw [fNs_eq]
  simp only
  cases h : gather s.hp (idx (List.range m ++ (dedup [] (v.ids s.hp 8)).filter (m ≤ ·))) (List.range m ++ (dedup [] (v.ids s.hp 8)).filter (m ≤ ·)) with
  | none => rfl
  | some p => simp only [fA_eq, fBs_eq]

def rvars (s : S) : List ResultVar → Option (List AV)
  | [] => some []
  | .tmp t :: r => (rvars s r).map (s.tm t :: ·)
  | .cell a t :: r => match aload E s.hp (fun v _ => some v) t (s.tm a), rvars s r with
    | some v, some vs => some (v :: vs)
    | _, _ => none

def one : List AV → AV
  | [v] => v
  | vs => .tup vs

def fin (fn : Func) (m : Nat) : AX → S → Option (AV × List Ob) := fun x s =>
  match x with
  | .exit _ => none
  | _ => match rvars E s fn.results.toList with
    | some vs => closeK (if Globs.nst.isEmpty then [] else (one vs).ids s.hp 8) s fun s => packK m s (one vs)
    | none => none

/-- A row's length, reckoned as a numeral. -/
def len0 : List Ob → Nat → Nat
  | [], n => n
  | _ :: r, n => len0 r (n + 1)
theorem len0_add (l : List Ob) : ∀ n, len0 l n = n + l.length := by
  induction l with
  | nil => intro n; rfl
  | cons o r ih => intro n; rw [len0, ih, List.length_cons]; omega
theorem len0_eq (l : List Ob) : len0 l 0 = l.length := by rw [len0_add]; omega

def evF (n : Nat) (fn : Func) (avs : List AV) (hin : List Ob) : Option (AV × List Ob) :=
  match fn.body with
  | some c => evC E (lp E (len0 hin 0) n) c { tm := fun t => avs.getD t .any, hp := fun i => hin[i]? } (fin E fn (len0 hin 0))
  | none => none
end run

end Go.Sym
