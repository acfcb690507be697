/- The symbolic machine: what a region, a block, a loop of the loaded program does, told on abstract values. Definitions alone. -/
import Derived.Calls
import Derived.Orders
import Derived.Below
namespace Go.Sym
set_option linter.unusedVariables false
set_option linter.unusedSimpArgs false
set_option linter.unusedSectionVars false

/-- What a slice's elements are. -/
inductive ET where
  | int (k : IntKind) | bool | str | pair (a b : ET) | lst (e : ET)
  deriving DecidableEq

@[reducible] def ET.T : ET → Type
  | .int _ => Int
  | .bool => Bool
  | .str => ByteArray
  | .pair a b => a.T × b.T
  | .lst e => List e.T

def ET.sz : ET → Nat
  | .pair a b => a.sz + b.sz
  | _ => 1

/-- No slice inside. -/
def ET.flat : ET → Bool
  | .pair a b => a.flat && b.flat
  | .lst _ => false
  | _ => true

def ET.dft : (e : ET) → e.T
  | .int _ => (0 : Int)
  | .bool => false
  | .str => ByteArray.empty
  | .pair a b => (a.dft, b.dft)
  | .lst _ => []

/-- Kinds of maps: of ints to ints, of pairs of ints to bools. -/
inductive MK where
  | ii | pb
  deriving DecidableEq
@[reducible] def MK.K : MK → Type
  | .ii => Int
  | .pb => Int × Int
@[reducible] def MK.V : MK → Type
  | .ii => Int
  | .pb => Bool
def MK.eq : (m : MK) → m.K → m.K → Bool
  | .ii, a, b => a == b
  | .pb, a, b => a.1 == b.1 && a.2 == b.2
def MK.z : (m : MK) → m.V
  | .ii => (0 : Int)
  | .pb => false
def mget (m : MK) (k : m.K) : List (m.K × m.V) → Option m.V
  | [] => none
  | p :: r => if m.eq k p.1 = true then some p.2 else mget m k r
def mput (m : MK) (k : m.K) (v : m.V) : List (m.K × m.V) → List (m.K × m.V)
  | [] => [(k, v)]
  | p :: r => if m.eq k p.1 = true then (k, v) :: r else p :: mput m k v r

/-- Tables of integers that lie in global variables, and are read only. -/
class Globs where
  tab : List (Nat × IntKind × List Int)
  /-- Types of slices of slices: what is made of them owns its rows. -/
  nst : List TypeId := []
  /-- The types of their rows. -/
  nsr : List TypeId := []
  /-- Global variables of one cell that hold a value of some kind. -/
  held : List (Nat × (Value → Prop)) := []

/-- Is the count of draws told? -/
class Dm where
  p : Prop

/-- Abstract values. -/
inductive AV where
  | any
  | bool (b : Bool)
  | int (k : IntKind) (n : Int)
  | str (s : ByteArray)
  | lst (e : ET) (ys : List e.T)
  | nils
  | zc (t : TypeId) (e : ET)
  | own (id : Nat)
  | ptr (id off : Nat)
  | rptr (id i sz off : Nat)
  | sub (id lo sz : Nat)
  | nilp
  | nilf
  | nili
  | nilm
  | ifn
  | ub
  | gp (g off : Nat)
  | mp (id : Nat)
  | clo (f : FuncId) (caps : List AV)
  | agg (cs : List AV)
  | tup (vs : List AV)
  | vptr (cs : List AV) (off : Nat)

/-- What lies in memory that the call owns: a variable, a slice's row. -/
inductive Ob where
  | box (t : TypeId) (cs : List AV)
  | row (t : TypeId) (e : ET) (ys : List e.T)
  | nest (t el : TypeId) (e : ET) (yss : List (List e.T)) (h : Option (Nat × Option Nat))
  | map (m : MK) (ps : List (m.K × m.V))

def MK.rk : (m : MK) → AV → Option m.K
  | .ii, .int .i64 n => some n
  | .pb, .agg [.int .i64 a, .int .i64 b] => some (a, b)
  | _, _ => none
def MK.rv : (m : MK) → AV → Option m.V
  | .ii, .int .i64 n => some n
  | .pb, .bool b => some b
  | _, _ => none
def MK.va : (m : MK) → m.V → AV
  | .ii, n => .int .i64 n
  | .pb, b => .bool b

/-- A value's cells. -/
def ET.avs : (e : ET) → e.T → List AV
  | .int k, n => [.int k n]
  | .bool, b => [.bool b]
  | .str, s => [.str s]
  | .pair a b, p => a.avs p.1 ++ b.avs p.2
  | .lst e, ys => [.lst e ys]

def ET.un : (e : ET) → List AV → Option e.T
  | .int k, cs => match cs with
    | [.int k' n] => if k = k' then some n else none
    | _ => none
  | .bool, cs => match cs with
    | [.bool b] => some b
    | _ => none
  | .str, cs => match cs with
    | [.str s] => some s
    | _ => none
  | .pair a b, cs => match a.un (cs.take a.sz), b.un (cs.drop a.sz) with
    | some x, some y => some (x, y)
    | _, _ => none
  | .lst e, cs => match cs with
    | [.lst e' ys] => if h : e' = e then some (h ▸ ys) else none
    | [.zc _ e'] => if e' = e then some [] else none
    | _ => none

structure FI where
  off : Nat
  sz : Nat
  agg : Bool

inductive TD where
  | int (k : IntKind) | bool | str | slc (t : TypeId) (e : ET) | strct (fs : List FI) | arr (n : Nat) (el : TypeId) | map (m : MK) | ifc | other

def TD.isStrct : TD → Bool
  | .strct _ | .arr .. => true
  | _ => false

structure TI where
  td : TD
  size : Nat
  bytes : Nat
  zero : List AV

structure Env where
  tab : List (TypeId × TI)
  fns : FuncId → List AV → List Ob → Option (AV × List Ob)
  lends : FuncId → Bool
  live : Nat → List Nat × List Nat

def Env.ty (E : Env) (t : TypeId) : Option TI := E.tab.lookup t

/-- A case: named, so that the reckoning stands still at it. -/
theorem br_ex (α : Type) : ∃ f : Bool → α → α → α, ∀ b x y, f b x y = bif b then x else y := ⟨_, fun _ _ _ => rfl⟩
@[irreducible] noncomputable def br {α : Type} (b : Bool) (x y : α) : α := (br_ex α).choose b x y
theorem br_def {α : Type} (b : Bool) (x y : α) : br b x y = bif b then x else y := by unfold br; exact (br_ex α).choose_spec b x y
theorem bnd_ex (α β : Type) : ∃ f : Option α → (α → Option β) → Option β, ∀ x k, f x k = x.bind k := ⟨_, fun _ _ => rfl⟩
@[irreducible] noncomputable def bnd {α β : Type} (x : Option α) (k : α → Option β) : Option β := (bnd_ex α β).choose x k
theorem bnd_def {α β : Type} (x : Option α) (k : α → Option β) : bnd x k = x.bind k := by unfold bnd; exact (bnd_ex α β).choose_spec x k

theorem br_t {α : Type} {b : Bool} {x y r : α} (h : b = true) (g : x = r) : br b x y = r := by subst h; rw [br_def]; exact g
theorem br_f {α : Type} {b : Bool} {x y r : α} (h : b = false) (g : y = r) : br b x y = r := by subst h; rw [br_def]; exact g
theorem br_c {α : Type} {b : Bool} {x y r : α} (h : b = true → x = r) (g : b = false → y = r) : br b x y = r := by
  cases b
  · exact br_f rfl (g rfl)
  · exact br_t rfl (h rfl)
theorem bnd_s {α β : Type} {x : Option α} {k : α → Option β} {a : α} {r : Option β} (h : x = some a) (g : k a = r) : bnd x k = r := by
  subst h; rw [bnd_def]; exact g

/-- What is told the same either way. -/
theorem both_ex2 (α : Type) : ∃ f : Option α → Option α → Option α, ∀ x y r, f x y = some r ↔ x = some r ∧ y = some r := by
  classical
  refine ⟨fun x y => if x = y then x else none, fun x y r => ⟨fun h => ?_, fun h => ?_⟩⟩
  · dsimp only at h
    split at h
    · rename_i e; exact ⟨h, e ▸ h⟩
    · cases h
  · dsimp only
    rw [if_pos (h.1.trans h.2.symm)]; exact h.1
@[irreducible] noncomputable def both {α : Type} (x y : Option α) : Option α := (both_ex2 α).choose x y
theorem both_iff {α : Type} {x y : Option α} {r : α} : both x y = some r ↔ x = some r ∧ y = some r := by unfold both; exact (both_ex2 α).choose_spec x y r
theorem both_i {α : Type} {x y : Option α} {r : α} (h : x = some r) (g : y = some r) : both x y = some r := both_iff.2 ⟨h, g⟩

abbrev Sets := List (Nat × Option Ob)

/-! Values are reckoned before they are laid down: the same values, sooner. -/
def fA0 {R : Type} (v : AV) (k : AV → R) : R :=
  match v with
  | .any => k .any
  | .bool b => k (.bool b)
  | .int d n => k (.int d n)
  | .str s => k (.str s)
  | .lst e ys => k (.lst e ys)
  | .nils => k .nils
  | .zc t e => k (.zc t e)
  | .own i => k (.own i)
  | .ptr i o => k (.ptr i o)
  | .rptr i j s o => k (.rptr i j s o)
  | .sub i l s => k (.sub i l s)
  | .nilp => k .nilp
  | .nilf => k .nilf
  | .nili => k .nili
  | .nilm => k .nilm
  | .ifn => k .ifn
  | .ub => k .ub
  | .gp g o => k (.gp g o)
  | .mp i => k (.mp i)
  | .clo f cs => k (.clo f cs)
  | .agg cs => k (.agg cs)
  | .tup cs => k (.tup cs)
  | .vptr cs o => k (.vptr cs o)
def fL {R : Type} (f : AV → (AV → R) → R) : List AV → (List AV → R) → R
  | [], k => k []
  | c :: r, k => f c fun c => fL f r fun r => k (c :: r)
def fz1 {R : Type} (v : AV) (k : AV → R) : R :=
  match v with
  | .clo f cs => fL fA0 cs fun cs => k (.clo f cs)
  | .agg cs => fL fA0 cs fun cs => k (.agg cs)
  | .vptr cs o => fL fA0 cs fun cs => k (.vptr cs o)
  | v => fA0 v k
def fz2 {R : Type} (v : AV) (k : AV → R) : R :=
  match v with
  | .clo f cs => fL fz1 cs fun cs => k (.clo f cs)
  | .agg cs => fL fz1 cs fun cs => k (.agg cs)
  | .vptr cs o => fL fz1 cs fun cs => k (.vptr cs o)
  | v => fA0 v k
def fz3 {R : Type} (v : AV) (k : AV → R) : R :=
  match v with
  | .clo f cs => fL fz2 cs fun cs => k (.clo f cs)
  | .agg cs => fL fz2 cs fun cs => k (.agg cs)
  | .vptr cs o => fL fz2 cs fun cs => k (.vptr cs o)
  | v => fA0 v k
def fA1 {R : Type} (v : AV) (k : AV → R) : R :=
  match v with
  | .clo f cs => fL fz3 cs fun cs => k (.clo f cs)
  | .agg cs => fL fz3 cs fun cs => k (.agg cs)
  | .vptr cs o => fL fz3 cs fun cs => k (.vptr cs o)
  | v => fA0 v k
def fA {R : Type} (v : AV) (k : AV → R) : R :=
  match v with
  | .clo f cs => fL fA1 cs fun cs => k (.clo f cs)
  | .tup cs => fL fA1 cs fun cs => k (.tup cs)
  | v => fA1 v k
def fH {R : Type} (h : Option (Nat × Option Nat)) (k : Option (Nat × Option Nat) → R) : R :=
  match h with
  | none => k none
  | some (i, none) => k (some (i, none))
  | some (i, some n) => k (some (i, some n))
def fO {R : Type} (o : Option Ob) (k : Option Ob → R) : R :=
  match o with
  | none => k none
  | some (.box t cs) => fL fA1 cs fun cs => k (some (.box t cs))
  | some (.row t e ys) => k (some (.row t e ys))
  | some (.nest t el e yss h) => fH h fun h => k (some (.nest t el e yss h))
  | some (.map m ps) => k (some (.map m ps))
def fU {R : Type} : Sets → (Sets → R) → R
  | [], k => k []
  | (i, o) :: r, k => fO o fun o => fU r fun r => k ((i, o) :: r)

theorem fA0_eq {R : Type} (v : AV) (k : AV → R) : fA0 v k = k v := by cases v <;> rfl
theorem fL_eq {R : Type} {f : AV → (AV → R) → R} (hf : ∀ v k, f v k = k v) (l : List AV) : ∀ k : List AV → R, fL f l k = k l := by
  induction l with
  | nil => intro k; rfl
  | cons c r ih => intro k; simp only [fL, hf, ih]
theorem fz1_eq {R : Type} (v : AV) (k : AV → R) : fz1 v k = k v := by cases v <;> first | rfl | exact fL_eq fA0_eq _ _
theorem fz2_eq {R : Type} (v : AV) (k : AV → R) : fz2 v k = k v := by cases v <;> first | rfl | exact fL_eq fz1_eq _ _
theorem fz3_eq {R : Type} (v : AV) (k : AV → R) : fz3 v k = k v := by cases v <;> first | rfl | exact fL_eq fz2_eq _ _
theorem fA1_eq {R : Type} (v : AV) (k : AV → R) : fA1 v k = k v := by cases v <;> first | rfl | exact fL_eq fz3_eq _ _
theorem fA_eq {R : Type} (v : AV) (k : AV → R) : fA v k = k v := by cases v <;> first | rfl | exact fL_eq fA1_eq _ _ | exact fA1_eq (.agg _) k | exact fA1_eq (.vptr _ _) k
theorem fH_eq {R : Type} (h : Option (Nat × Option Nat)) (k : Option (Nat × Option Nat) → R) : fH h k = k h := by
  match h with
  | none => rfl
  | some (i, none) => rfl
  | some (i, some n) => rfl
theorem fO_eq {R : Type} (o : Option Ob) (k : Option Ob → R) : fO o k = k o := by
  match o with
  | none => rfl
  | some (.box t cs) => exact fL_eq fA1_eq _ _
  | some (.row t e ys) => rfl
  | some (.nest t el e yss h) => exact fH_eq h fun h => k (some (.nest t el e yss h))
  | some (.map m ps) => rfl
theorem fU_eq {R : Type} (u : Sets) : ∀ k : Sets → R, fU u k = k u := by
  induction u with
  | nil => intro k; rfl
  | cons p r ih => intro k; obtain ⟨i, o⟩ := p; simp only [fU, fO_eq, ih]

structure S where
  tm : Nat → AV
  hp : Nat → Option Ob

def ns (d j : Nat) : Nat := 1000 * (d + 1) + j

def setHp (hp : Nat → Option Ob) : Sets → Nat → Option Ob
  | [] => hp
  | (i, o) :: r => fun k => if k = i then o else setHp hp r k

def setTm (tm : Nat → AV) (d : Nat) (v : AV) : Nat → AV := fun k => if k = d then v else tm k

def cval : Value → AV
  | .bool b => .bool b
  | .int k n => .int k n
  | .string s => .str s
  | .slice none 0 0 => .nils
  | .pointer none => .nilp
  | .nilFunc => .nilf
  | .nilIface => .nili
  | _ => .any

def getv (tm : Nat → AV) : Operand → AV
  | .tmp t => tm t
  | .const v => cval v
  | .func f => .clo f []
  | .global g => .gp g 0

/-- A cell that may be stored. -/
def AV.okCell : AV → Bool
  | .any | .agg _ | .tup _ | .sub .. => false
  | _ => true

def AV.cells : AV → Option (List AV)
  | .any | .tup _ => none
  | .agg cs => some cs
  | v => some [v]

/-- The zero value's slices get rows of their own. -/
def fresh (d : Nat) : Nat → List AV → List AV × Sets
  | _, [] => ([], [])
  | j, .zc t e :: r => let p := fresh d (j + 1) r; (.own (ns d j) :: p.1, (ns d j, some (.row t e [])) :: p.2)
  | j, c :: r => let p := fresh d (j + 1) r; (c :: p.1, p.2)

/-- nil of a slice's type. -/
def typed (E : Env) (d : Nat) (t : TypeId) (v : AV) : AV × Sets :=
  match v with
  | .nils => match E.ty t with
    | some ⟨.slc el e, _, _, _⟩ => (.own (ns d 0), [(ns d 0, some (.row el e []))])
    | _ => (.any, [])
  | v => (v, [])

/-- nil as an argument. -/
def typedArg (E : Env) (t : TypeId) (v : AV) : AV :=
  match v with
  | .nils => match E.ty t with
    | some ⟨.slc _ e, _, _, _⟩ => .lst e []
    | _ => .any
  | v => v

/-- What a callee that only reads sees of a value. -/
def AV.imm (look : Nat → Option Ob) : Nat → AV → AV
  | 0, _ => .any
  | n + 1, a => match a with
    | .own id => match look id with
      | some (.row _ e ys) => .lst e ys
      | some (.nest _ _ e yss none) => .lst (.lst e) yss
      | _ => .any
    | .ptr id off => match look id with
      | some (.box _ cs) => .vptr (cs.map (AV.imm look n)) off
      | _ => .any
    | .rptr .. | .sub .. | .mp _ => .any
    | .clo f caps => .clo f (caps.map (AV.imm look n))
    | .agg cs => .agg (cs.map (AV.imm look n))
    | .tup cs => .tup (cs.map (AV.imm look n))
    | .vptr cs off => .vptr (cs.map (AV.imm look n)) off
    | .zc _ e => .lst e []
    | a => a

/-- Does a value lead to memory of the call's own? -/
def AV.owns : Nat → AV → Bool
  | 0, _ => true
  | n + 1, a => match a with
    | .own _ | .ptr .. | .rptr .. | .sub .. | .mp _ => true
    | .clo _ cs | .agg cs | .tup cs | .vptr cs _ => cs.any (AV.owns n)
    | _ => false

/-- Does a value lead to memory that was there? -/
def AV.looksOut : Nat → AV → Bool
  | 0, _ => true
  | n + 1, a => match a with
    | .lst .. | .vptr .. => true
    | .clo _ cs | .agg cs | .tup cs => cs.any (AV.looksOut n)
    | _ => false

def Ob.looksOut : Ob → Bool
  | .box _ cs => cs.any (AV.looksOut 8)
  | .row _ e _ => !e.flat
  | .nest _ _ e _ _ => !e.flat
  | .map .. => false

/-- Names of the call's own memory, in their order. -/
def AV.ids (look : Nat → Option Ob) : Nat → AV → List Nat
  | 0, _ => []
  | n + 1, a => match a with
    | .own id | .rptr id .. | .sub id .. | .mp id => [id]
    | .ptr id _ => id :: (match look id with
      | some (.box _ cs) => cs.flatMap (AV.ids look n)
      | _ => [])
    | .clo _ cs | .agg cs | .tup cs | .vptr cs _ => cs.flatMap (AV.ids look n)
    | _ => []

/-- Names anew; what has none is forgotten. -/
def AV.ren (f : Nat → Option Nat) : Nat → AV → AV
  | 0, _ => .any
  | n + 1, a => match a with
    | .own id => match f id with
      | some j => .own j
      | none => .any
    | .ptr id off => match f id with
      | some j => .ptr j off
      | none => .any
    | .rptr id i sz off => match f id with
      | some j => .rptr j i sz off
      | none => .any
    | .sub id lo sz => match f id with
      | some j => .sub j lo sz
      | none => .any
    | .mp id => match f id with
      | some j => .mp j
      | none => .any
    | .clo g cs => .clo g (cs.map (AV.ren f n))
    | .agg cs => .agg (cs.map (AV.ren f n))
    | .tup cs => .tup (cs.map (AV.ren f n))
    | .vptr cs off => .vptr (cs.map (AV.ren f n)) off
    | a => a

def Ob.ren (f : Nat → Option Nat) : Ob → Ob
  | .box t cs => .box t (cs.map (AV.ren f 8))
  | .row t e ys => .row t e ys
  | .nest t el e yss h => .nest t el e yss (h.map fun p => (p.1, none))
  | .map m ps => .map m ps

def dedup : List Nat → List Nat → List Nat
  | _, [] => []
  | seen, a :: r => if seen.contains a then dedup seen r else a :: dedup (a :: seen) r

def idx (L : List Nat) (id : Nat) : Option Nat := L.findIdx? (· == id)

/-- The bound on what grows, in bytes. -/
def room : Nat := 140737488355328

/-- A string's bytes, as numbers; and back. -/
def strInts (s : ByteArray) : List Int := s.data.toList.map fun b => (b.toNat : Int)
def intsStr (ys : List Int) : ByteArray := ⟨(ys.map fun n => UInt8.ofNat n.toNat).toArray⟩
def strSrc : (e : ET) → AV → Option (List e.T)
  | .int .u8, .str s => some (strInts s)
  | _, _ => none

def fillSets (id : Nat) : Option Nat → Sets
  | some n => if n = id then [] else [(n, none)]
  | none => []

/-- What does not change of a slice of slices when a row is taken out or put in. -/
def shp : Option Ob → Option (TypeId × TypeId × ET × Nat)
  | some (.nest t el e yss _) => some (t, el, e, yss.length)
  | _ => none

/-- A row that was taken out of a slice of slices is put back. -/
def closeSets (look : Nat → Option Ob) (id : Nat) : Sets :=
  match look id with
  | some (.nest t el e yss (some (i, some n))) => match look n with
    | some (.row el2 e2 ys2) => if h : (e2 = e ∧ el2 = el) ∧ n ≠ id then [(id, some (.nest t el e (yss.set i (h.1.1 ▸ ys2)) none)), (n, none)] else []
    | _ => []
  | _ => []

def closeAll : List Nat → (Nat → Option Ob) → Sets
  | [], _ => []
  | id :: r, look => closeAll r (setHp look (closeSets look id)) ++ closeSets look id

noncomputable section ops
variable [Globs] {R : Type} (E : Env) (look : Nat → Option Ob) (ρ : Operand → AV) (o : Oper) (d : Nat) (k : AV → Sets → Option R)

def readCells (ti : TI) (cs : List AV) (off : Nat) : Option R :=
  match ti.td with
  | .strct _ => if off + ti.size ≤ cs.length then k (.agg ((cs.drop off).take ti.size)) [] else none
  | .arr .. => none
  | _ => match cs[off]? with
    | some c => k c []
    | none => none

def splice (old : List AV) (off : Nat) (cs : List AV) : List AV := old.take off ++ cs ++ old.drop (off + cs.length)

def aload (t : TypeId) (a : AV) : Option R :=
  match E.ty t with
  | none => none
  | some ti => match a with
    | .vptr cs off => readCells k ti cs off
    | .gp g off => match Globs.tab.lookup g with
      | some (kd, ns) => if ti.td.isStrct then none else br (decide (off < ns.length)) (k (.int kd (ns.getD off 0)) []) none
      | none => none
    | .ptr id off => match look id with
      | some (.box _ cs) => readCells k ti cs off
      | _ => none
    | .rptr id i sz off => match look id with
      | some (.row _ e ys) => if e.sz = sz then br (decide (i < ys.length)) (readCells k ti (e.avs (ys.getD i e.dft)) off) none else none
      | _ => none
    | _ => none

/-- A row of a slice of slices: taken out, or what is out. -/
def aloadN (t : TypeId) (id i sz off : Nat) (bt el : TypeId) (e : ET) (yss : List (List e.T)) (h : Option (Nat × Option Nat)) : Option R :=
  match E.ty t with
  | none => none
  | some ti => if (sz = 1 ∧ off = 0 ∧ ti.td.isStrct = false) ∧ Globs.nsr.contains t = true then (match h with
    | none => br (decide (i < yss.length)) (k (.own (ns d 0)) [(id, some (.nest bt el e yss (some (i, some (ns d 0))))), (ns d 0, some (.row el e (yss.getD i [])))]) none
    | some (hi, some tn) => br (decide (i = hi)) (k (.own tn) []) none
    | some (_, none) => none) else none

def aloadX (t : TypeId) (v : AV) : Option R :=
  match v with
  | .rptr id i sz off => match look id with
    | some (.nest bt el e yss h) => aloadN E d k t id i sz off bt el e yss h
    | _ => aload E look k t (.rptr id i sz off)
  | v => aload E look k t v

def astore (t : TypeId) (a v : AV) : Option R :=
  match E.ty t, v.cells with
  | some ti, some cs =>
    if cs.length = ti.size ∧ cs.all AV.okCell = true then
      match a with
      | .ptr id off => match look id with
        | some (.box bt old) => if off + cs.length ≤ old.length then k .any [(id, some (.box bt (splice old off cs)))] else none
        | _ => none
      | .rptr id i sz off => match look id with
        | some (.row bt e ys) =>
          if e.sz = sz ∧ off + cs.length ≤ sz then
            br (decide (i < ys.length)) (match e.un (splice (e.avs (ys.getD i e.dft)) off cs) with
              | some y => k .any [(id, some (.row bt e (ys.set i y)))]
              | none => none) none
          else none
        | some (.nest bt el e yss none) => match v with
          | .own id2 => match look id2 with
            | some (.row el2 e2 ys2) =>
              if h : (e2 = e ∧ el2 = el) ∧ (sz = 1 ∧ off = 0) ∧ id2 ≠ id ∧ Globs.nst.isEmpty = false then
                br (decide (i < yss.length)) (k .any [(id, some (.nest bt el e (yss.set i (h.1.1 ▸ ys2)) none)), (id2, none)]) none
              else none
            | _ => none
          | _ => none
        | some (.nest bt el e yss (some (hi, tn))) => match v with
          | .own id2 => match look id2 with
            | some (.row el2 e2 ys2) =>
              if h : (e2 = e ∧ el2 = el) ∧ (sz = 1 ∧ off = 0) ∧ id2 ≠ id ∧ Globs.nst.isEmpty = false then
                br (decide (i = hi)) (k .any ((id, some (.nest bt el e (yss.set i (h.1.1 ▸ ys2)) none)) :: (id2, none) :: fillSets id tn)) none
              else none
            | _ => none
          | _ => none
        | _ => none
      | _ => none
    else none
  | _, _ => none

def aint (op : BinOp) (kd : IntKind) (a b : Int) : Option R :=
  match op with
  | .add => k (.int kd (kd.wrap (a + b))) []
  | .sub => k (.int kd (kd.wrap (a - b))) []
  | .mul => k (.int kd (kd.wrap (a * b))) []
  | .quo => br (decide (b = 0)) none (k (.int kd (kd.wrap (a.tdiv b))) [])
  | .rem => br (decide (b = 0)) none (k (.int kd (a.tmod b)) [])
  | .and => k (.int kd (kd.wrap (BitVec.ofInt kd.bits a &&& BitVec.ofInt kd.bits b).toNat)) []
  | .or => k (.int kd (kd.wrap (BitVec.ofInt kd.bits a ||| BitVec.ofInt kd.bits b).toNat)) []
  | .xor => k (.int kd (kd.wrap (BitVec.ofInt kd.bits a ^^^ BitVec.ofInt kd.bits b).toNat)) []
  | .andNot => k (.int kd (kd.wrap (BitVec.ofInt kd.bits a &&& ~~~(BitVec.ofInt kd.bits b)).toNat)) []
  | .eql => k (.bool (a == b)) []
  | .neq => k (.bool (a != b)) []
  | .lss => k (.bool (decide (a < b))) []
  | .leq => k (.bool (decide (a ≤ b))) []
  | .gtr => k (.bool (decide (a > b))) []
  | .geq => k (.bool (decide (a ≥ b))) []
  | _ => none

/-- The greater, the less of two. -/
def amm (mx : Bool) (vs : List AV) : Option R :=
  match vs with
  | [.int kd a, .int kd' b] => if kd = kd' then k (.int kd (if mx then max a b else min a b)) [] else none
  | _ => none

def anil (eq : Bool) (v : AV) : Option R :=
  match v with
  | .lst _ ys => br (decide (0 < ys.length)) (k (.bool (!eq)) []) (k .ub [])
  | .nils | .zc .. => k (.bool eq) []
  | _ => none

/-- A piece of a slice that is only read, or of a string. -/
def aslice (t : TypeId) (v : AV) (lo hi : Option AV) : Option R :=
  match v, E.ty t with
  | .lst e ys, some ⟨.slc el _, _, _, _⟩ => match E.ty el with
    | some ti => if ti.size = e.sz then
        match lo, hi with
        | none, some (.int _ h) => br (decide (0 ≤ h) && decide (h ≤ ys.length)) (k (.lst e (ys.take h.toNat)) []) none
        | some (.int _ l), none => br (decide (0 ≤ l) && decide (l ≤ ys.length)) (k (.lst e (ys.drop l.toNat)) []) none
        | some (.int _ l), some (.int _ h) => br (decide (0 ≤ l) && (decide (l ≤ h) && decide (h ≤ ys.length))) (k (.lst e ((ys.take h.toNat).drop l.toNat)) []) none
        | _, _ => none
      else none
    | none => none
  | .str s, some ⟨.str, _, _, _⟩ => match lo, hi with
    | none, some (.int _ h) => br (decide (0 ≤ h) && decide (h ≤ s.size)) (k (.str (s.extract 0 h.toNat)) []) none
    | some (.int _ l), none => br (decide (0 ≤ l) && decide (l ≤ s.size)) (k (.str (s.extract l.toNat s.size)) []) none
    | some (.int _ l), some (.int _ h) => br (decide (0 ≤ l) && (decide (l ≤ h) && decide (h ≤ s.size))) (k (.str (s.extract l.toNat h.toNat)) []) none
    | _, _ => none
  | _, _ => none

/-- A piece of a row that the call owns: its end, to be read; its beginning, as the row from here on. -/
def asliceO (t : TypeId) (id : Nat) (lo hi : Option AV) : Option R :=
  match E.ty t, look id with
  | some ⟨.slc el _, _, _, _⟩, some (.row el' e ys) => match E.ty el with
    | some ti => if ti.size = e.sz ∧ el' = el then
        match lo, hi with
        | some (.int _ l), none => br (decide (0 ≤ l) && decide (l ≤ ys.length)) (k (.sub id l.toNat e.sz) []) none
        | none, some (.int _ h) => br (decide (0 ≤ h) && decide (h ≤ ys.length)) (k (.own (ns d 0)) [(id, none), (ns d 0, some (.row el' e (ys.take h.toNat)))]) none
        | _, _ => none
      else none
    | none => none
  | _, _ => none

/-- A struct of two ints. -/
def TI.pair (ti : TI) : Bool := match ti.td, ti.zero with
  | .strct _, [.int .i64 _, .int .i64 _] => true
  | _, _ => false
/-- A struct of a struct of two ints, a bool and an int. -/
def TI.quad (ti : TI) : Bool := match ti.td, ti.zero with
  | .strct _, [.int .i64 _, .int .i64 _, .bool _, .int .i64 _] => true
  | _, _ => false
def apair (op : BinOp) (t : TypeId) (xs ys : List AV) : Option R :=
  match xs, ys with
  | [.int .i64 a, .int .i64 b], [.int .i64 c, .int .i64 d] => match E.ty t with
    | some ti => if ti.pair = true then (match op with
      | .eql => k (.bool (a == c && b == d)) []
      | .neq => k (.bool (!(a == c && b == d))) []
      | _ => none) else none
    | none => none
  | [.int .i64 a, .int .i64 b, .bool p, .int .i64 e], [.int .i64 c, .int .i64 d, .bool q, .int .i64 f] => match E.ty t with
    | some ti => if ti.quad = true then (match op with
      | .eql => k (.bool ((a == c && b == d) && (p == q && e == f))) []
      | .neq => k (.bool (!((a == c && b == d) && (p == q && e == f)))) []
      | _ => none) else none
    | none => none
  | _, _ => none

def abin (op : BinOp) (t : TypeId) (x y : AV) : Option R :=
  match x, y with
  | v, .nils => match op, E.ty t with
    | .eql, some ⟨.slc _ _, _, _, _⟩ => anil k true v
    | .neq, some ⟨.slc _ _, _, _, _⟩ => anil k false v
    | _, _ => none
  | .int kd a, .int kd' b =>
    match op with
    | .shl => br (decide (b < 0)) none (k (.int kd (kd.wrap (a * 2 ^ min b.toNat kd.bits))) [])
    | .shr => br (decide (b < 0)) none (k (.int kd (a.fdiv (2 ^ min b.toNat kd.bits))) [])
    | _ => if kd = kd' then aint k op kd a b else none
  | .bool a, .bool b => match E.ty t with
    | some ⟨.bool, _, _, _⟩ => match op with
      | .eql => k (.bool (a == b)) []
      | .neq => k (.bool (!(a == b))) []
      | _ => none
    | _ => none
  | .str a, .str b => match op with
    | .eql => k (.bool (a.toList == b.toList)) []
    | .neq => k (.bool (!(a.toList == b.toList))) []
    | .add => br (decide (a.size + b.size ≤ 9223372036854775807)) (k (.str (a ++ b)) []) none
    | _ => none
  | .agg xs, .agg ys => apair E k op t xs ys
  | _, _ => none

/-- An interface value beside the literal nil. -/
def aifc (op : BinOp) (t : TypeId) (x : AV) : Option R := match E.ty t with
  | some ⟨.ifc, _, _, _⟩ => match op, x with
    | .eql, .nili => k (.bool true) []
    | .neq, .nili => k (.bool false) []
    | .eql, .ifn => k (.bool false) []
    | .neq, .ifn => k (.bool true) []
    | _, _ => none
  | _ => none

/-- What append takes: a slice's elements, if they can be told. -/
def asrc (e : ET) (v : AV) : Option (List e.T) :=
  match v with
  | .lst e' ys => if h : e' = e then some (h ▸ ys) else none
  | .own id => match look id with
    | some (.row _ e' ys) => if h : e' = e then some (h ▸ ys) else none
    | _ => none
  | .sub id lo sz => match look id with
    | some (.row _ e' ys) => if h : e' = e then (if e'.sz = sz then some (h ▸ ys.drop lo) else none) else none
    | _ => none
  | .nils | .zc .. => some []
  | _ => none

/-- The same; a string's bytes. -/
def asrcT (t0 t1 : Option TypeId) (e : ET) (v : AV) : Option (List e.T) :=
  if t0 == t1 then asrc look e v else
    match t1.bind E.ty with
    | some ⟨.str, _, _, _⟩ => strSrc e v
    | _ => none

/-- A slice of slices that the call owns, and another one behind it. -/
def anest (tt : TypeId) (s x : AV) : Option R :=
  match E.ty tt with
  | some ⟨.slc t0 (.lst _), _, _, _⟩ => match E.ty t0 with
    | some ⟨.slc _ _, sz, by_, [.zc _ _]⟩ => match s, x with
      | .own id, .own id3 => match look id, look id3 with
        | some (.nest t el e yss none), some (.nest t3 el3 e3 zss none) =>
          if h : ((e3 = e ∧ el3 = el) ∧ t3 = t) ∧ id ≠ id3 ∧ t = t0 ∧ sz = 1 ∧ by_ = 24 then
            br (decide ((yss.length + zss.length) * 24 ≤ room)) (k (.own (ns d 0)) [(id, none), (id3, none), (ns d 0, some (.nest t el e (yss ++ (h.1.1.1 ▸ zss)) none))]) none
          else none
        | _, _ => none
      | _, _ => none
    | _ => none
  | _ => none

def aappend (c : Call) : Option R :=
  match c.args.toList with
  | [s, x] =>
    match c.argTypes[0]?.bind E.ty with
    | some ⟨.slc el e, _, _, _⟩ =>
      match E.ty el with
      | none => none
      | some ti =>
        if ti.size = e.sz ∧ 1 ≤ ti.bytes then
          match asrcT E look c.argTypes[0]? c.argTypes[1]? e (ρ x) with
          | none => none
          | some zs => match ρ s with
            | .nils | .zc .. => br (decide (zs.length * ti.bytes ≤ room)) (k (.own (ns d 0)) [(ns d 0, some (.row el e zs))]) none
            | .own id => match look id with
              | some (.row el' e' ys) =>
                if h : e' = e ∧ el' = el then
                  br (decide ((ys.length + zs.length) * ti.bytes ≤ room)) (k (.own (ns d 0)) [(id, none), (ns d 0, some (.row el e ((h.1 ▸ ys : List e.T) ++ zs)))]) none
                else none
              | _ => none
            | _ => none
        else none
    | _ => none
  | _ => none

def lenFits (td : TD) (v : AV) : Bool :=
  match td, v with
  | .str, .str _ => true
  | .slc .., .str _ => false
  | .slc .., _ => true
  | _, _ => false

def alen (v : AV) : Option R :=
  match v with
  | .str s => k (.int .i64 (s.size : Int)) []
  | .lst _ ys => k (.int .i64 (ys.length : Int)) []
  | .nils | .zc .. => k (.int .i64 0) []
  | .own id => match look id with
    | some (.row _ _ ys) => k (.int .i64 (ys.length : Int)) []
    | some (.nest _ _ _ yss _) => k (.int .i64 (yss.length : Int)) []
    | _ => none
  | _ => none

/-- The caller's names for a callee's: what was lent, then new ones. -/
def back (d : Nat) (L : List Nat) (m : Nat) (j : Nat) : Option Nat := match L[j]? with
  | some id => some id
  | none => if j < m then some (ns d j) else none

def newSets (d : Nat) (L : List Nat) (m : Nat) : Nat → List Ob → Sets
  | _, [] => []
  | j, ob :: r => (L.getD j (ns d j), some (ob.ren (back d L m))) :: newSets d L m (j + 1) r

def gather (look : Nat → Option Ob) (f : Nat → Option Nat) : List Nat → Option (List Ob)
  | [] => some []
  | id :: r => match look id, gather look f r with
    | some o, some os => some (o.ren f :: os)
    | _, _ => none

def fB {R : Type} (o : Ob) (k : Ob → R) : R :=
  match o with
  | .box t cs => fL fA1 cs fun cs => k (.box t cs)
  | .row t e ys => k (.row t e ys)
  | .nest t el e yss h => fH h fun h => k (.nest t el e yss h)
  | .map m ps => k (.map m ps)

def fBs {R : Type} : List Ob → (List Ob → R) → R
  | [], k => k []
  | o :: r, k => fB o fun o => fBs r fun r => k (o :: r)

theorem fBs_eq {R : Type} (l : List Ob) : ∀ k : List Ob → R, fBs l k = k l := by
  induction l with
  | nil => intro k; rfl
  | cons c r ih =>
    intro k
    cases c with
    | box t cs => simp only [fBs, fB, fL_eq fA1_eq, ih]
    | row t e ys => simp only [fBs, fB, ih]
    | nest t el e yss h => simp only [fBs, fB, fH_eq, ih]
    | map m ps => simp only [fBs, fB, ih]

def fNs {R : Type} : List Nat → (List Nat → R) → R
  | [], k => k []
  | a :: r, k => fNs r fun r => k (a :: r)

theorem fNs_eq {R : Type} (l : List Nat) : ∀ k : List Nat → R, fNs l k = k l := by
  induction l with
  | nil => intro k; rfl
  | cons c r ih => intro k; simp only [fNs, ih]

/-- The names that a call lends. -/
def lent (avs : List AV) : List Nat := dedup [] (avs.flatMap (AV.ids look 8))

/-- A call of a function of the program: one that only reads what it is handed; one that may write it. -/
def acall (f : FuncId) (avs : List AV) : Option R :=
  if E.lends f then
    fNs (lent look avs) fun L =>
    match gather look (idx L) L with
    | none => none
    | some hin => fL fA (avs.map (AV.ren (idx L) 8)) fun as => fBs hin fun hin => bnd (E.fns f as hin) fun p =>
      if decide (1000 < p.2.length) || decide (p.2.length < L.length) || decide (1000 < L.length) then none
      else k (p.1.ren (back d L p.2.length) 8) (newSets d L p.2.length 0 p.2)
  else
    fL fA (avs.map (AV.imm look 8)) fun as => bnd (E.fns f as []) fun p =>
      if ((avs.any (AV.owns 8)) && (p.1.looksOut 8 || p.2.any Ob.looksOut)) || decide (1000 < p.2.length) then none
      else k (p.1.ren (back d [] p.2.length) 8) (newSets d [] p.2.length 0 p.2)

def apart (fs : List FI) : List AV → List (Nat × AV) → Option (List AV)
  | cs, [] => some cs
  | cs, (i, v) :: r => match fs[i]?, v.cells with
    | some fi, some vs => if vs.length = fi.sz ∧ fi.off + vs.length ≤ cs.length then apart fs (splice cs fi.off vs) r else none
    | _, _ => none

def elemsOf (e : ET) : Nat → List (Nat × AV) → Option (List e.T)
  | _, [] => some []
  | j, (i, v) :: r => if i = j then
      match v.cells with
      | some cs => match e.un cs, elemsOf e (j + 1) r with
        | some y, some ys => some (y :: ys)
        | _, _ => none
      | none => none
    else none

/-- A slice of slices, made. -/
def amakeN (t : TypeId) (l c : AV) : Option R :=
  match E.ty t with
  | some ⟨.slc el (.lst e), _, _, _⟩ => match E.ty el, l, c with
    | some ⟨.slc el' e', sz, by_, [.zc _ _]⟩, .int .i64 n, .int .i64 m =>
      if e' = e ∧ sz = 1 ∧ by_ = 24 then br (decide (0 ≤ n) && (decide (n = m) && decide (n * 24 ≤ room))) (k (.own (ns d 0)) [(ns d 0, some (.nest el el' e (List.replicate n.toNat []) none))]) none else none
    | _, _, _ => none
  | _ => none

/-- A literal of a slice of slices: of none, of one. -/
def abuildN (t : TypeId) (len : Nat) (parts : List (Nat × AV)) : Option R :=
  match E.ty t with
  | some ⟨.slc el (.lst e), _, _, _⟩ => match E.ty el with
    | some ⟨.slc el' e', sz, _, _⟩ =>
      if e' = e ∧ sz = 1 then match parts with
        | [] => if len = 0 then k (.own (ns d 0)) [(ns d 0, some (.nest el el' e [] none))] else none
        | [(0, .own id2)] => match look id2 with
          | some (.row el2 e2 ys2) => if h : (e2 = e ∧ el2 = el') ∧ len = 1 then k (.own (ns d 0)) [(id2, none), (ns d 0, some (.nest el el' e [h.1.1 ▸ ys2] none))] else none
          | _ => none
        | _ => none
      else none
    | _ => none
  | _ => none

/-- One operation. -/
def aop : Option R :=
  match o.op with
  | .move x | .assign x => match x with
    | .const (.slice ..) => let p := typed E d o.type (ρ x); k p.1 p.2
    | _ => k (ρ x) []
  | .pick c a b => match ρ c with
    | .bool t => br t (k (ρ a) []) (k (ρ b) [])
    | _ => none
  | .alloc t => match E.ty t with
    | some ti => let p := fresh d 1 ti.zero; k (.ptr (ns d 0) 0) ((ns d 0, some (.box t p.1)) :: p.2)
    | none => none
  | .box t x => match E.ty t, (ρ x).cells with
    | some _, some cs => k (.ptr (ns d 0) 0) [(ns d 0, some (.box t cs))]
    | _, _ => none
  | .build t parts => match E.ty t with
    | some ⟨.strct fs, _, _, zero⟩ => let p := fresh d 0 zero
      match apart fs p.1 (parts.toList.map fun q => (q.1, ρ q.2)) with
      | some cs => k (.agg cs) p.2
      | none => none
    | _ => none
  | .buildSlice t len parts => if Globs.nst.contains t then abuildN E look d k t len (parts.toList.map fun q => (q.1, ρ q.2)) else match E.ty t with
    | some ⟨.slc el e, _, _, _⟩ => match E.ty el, elemsOf e 0 (parts.toList.map fun q => (q.1, ρ q.2)) with
      | some ti, some ys => if ti.size = e.sz ∧ ys.length = len ∧ len ≤ 1000 ∧ e.sz ≤ 1000 then k (.own (ns d 0)) [(ns d 0, some (.row el e ys))] else none
      | _, _ => none
    | _ => none
  | .load t a => aloadX E look d k t (ρ a)
  | .store t a x => astore E look k t (ρ a) (ρ x)
  | .nilCheck x => match ρ x with
    | .ptr id off => k (.ptr id off) []
    | .vptr cs off => k (.vptr cs off) []
    | .rptr id i sz off => k (.rptr id i sz off) []
    | _ => none
  | .binOp op t x y _ => match y with
    | .const .nilIface => aifc E k op t (ρ x)
    | _ => abin E k op t (ρ x) (ρ y)
  | .unOp op _ x => match op, ρ x with
    | .not, .bool b => k (.bool (!b)) []
    | .not, .ub => k .ub []
    | .neg, .int kd n => k (.int kd (kd.wrap (-n))) []
    | _, _ => none
  | .convert s t x => match E.ty s, E.ty t, ρ x with
    | some _, some ⟨.int kd, _, _, _⟩, .int _ n => k (.int kd (kd.wrap n)) []
    | some ⟨.slc el (.int .u8), _, _, _⟩, some ⟨.str, _, _, _⟩, _ => match E.ty el, asrc look (.int .u8) (ρ x) with
      | some ⟨.int .u8, _, _, _⟩, some ys => k (.str (intsStr ys)) []
      | _, _ => none
    | _, _, _ => none
  | .makeFunc f first caps => match f, first.toList with
    | .func f, [] => k (.clo f (caps.toList.map ρ)) []
    | _, _ => none
  | .makeSlice t l c => if Globs.nst.contains t then amakeN E d k t (ρ l) (ρ c) else match E.ty t with
    | some ⟨.slc el e, _, _, _⟩ => match E.ty el, ρ l, ρ c with
      | some ti, .int .i64 n, .int .i64 m => match e.un ti.zero with
        | some z => if ti.size = e.sz ∧ 1 ≤ ti.bytes then br (decide (0 ≤ n) && (decide (n = m) && decide (n * ti.bytes ≤ room))) (k (.own (ns d 0)) [(ns d 0, some (.row el e (List.replicate n.toNat z)))]) none else none
        | none => none
      | _, _, _ => none
    | _ => none
  | .fieldAddr t x f => match E.ty t with
    | some ⟨.strct fs, _, _, _⟩ => match fs[f]? with
      | some fi => if fi.sz = 0 then none else match ρ x with
        | .ptr id off => k (.ptr id (off + fi.off)) []
        | .vptr cs off => k (.vptr cs (off + fi.off)) []
        | .rptr id i sz off => k (.rptr id i sz (off + fi.off)) []
        | _ => none
      | none => none
    | _ => none
  | .field t x f => match E.ty t, ρ x with
    | some ⟨.strct fs, _, _, _⟩, .agg cs => match fs[f]? with
      | some fi => if fi.agg then (if fi.off + fi.sz ≤ cs.length then k (.agg ((cs.drop fi.off).take fi.sz)) [] else none) else
          match cs[fi.off]? with
          | some c => k c []
          | none => none
      | none => none
    | _, _ => none
  | .indexAddr t x ix => match E.ty t, ρ ix with
    | some ⟨.slc el e, _, _, _⟩, .int _ i => match E.ty el with
      | some ti => if ti.size = e.sz then match ρ x with
        | .lst e' ys => if e' = e then br (decide (0 ≤ i) && decide (i < ys.length)) (k (.vptr (e'.avs (ys.getD i.toNat e'.dft)) 0) []) none else none
        | .own id => if Globs.nst.contains t = true then (match shp (look id) with
            | some (_, _, e', n) => if e = .lst e' then br (decide (0 ≤ i) && decide (i < n)) (k (.rptr id i.toNat 1 0) []) none else none
            | none => none)
          else (match look id with
            | some (.row _ e' ys) => if e' = e then br (decide (0 ≤ i) && decide (i < ys.length)) (k (.rptr id i.toNat e'.sz 0) []) none else none
            | _ => none)
        | _ => none
        else none
      | none => none
    | some ⟨.arr n el, _, _, _⟩, .int _ i => match E.ty el, ρ x with
      | some ti, .gp g off => if ti.size = 1 ∧ 1 < n then br (decide (0 ≤ i) && decide (i < n)) (k (.gp g (off + i.toNat)) []) none else none
      | _, _ => none
    | _, _ => none
  | .index t x ix => match E.ty t, ρ x, ρ ix with
    | some ⟨.str, _, _, _⟩, .str s, .int _ i => br (decide (0 ≤ i) && decide (i < s.size)) (k (.int .u8 ((s.data.toList.getD i.toNat 0).toNat : Int)) []) none
    | _, _, _ => none
  | .slice t x lo hi mx => match mx with
    | none => match ρ x with
      | .own id => asliceO E look d k t id (lo.map ρ) (hi.map ρ)
      | v => aslice E k t v (lo.map ρ) (hi.map ρ)
    | some _ => none
  | .makeMap t r => match E.ty t, r with
    | some ⟨.map m, _, _, _⟩, none => k (.mp (ns d 0)) [(ns d 0, some (.map m []))]
    | _, _ => none
  | .lookup t x i c => match E.ty t, ρ x with
    | some ⟨.map m, _, _, _⟩, .mp id => match look id with
      | some (.map m' ps) => if m' = m then (match m'.rk (ρ i) with
        | some q => if c then k (.tup [m'.va ((mget m' q ps).getD m'.z), .bool (mget m' q ps).isSome]) [] else k (m'.va ((mget m' q ps).getD m'.z)) []
        | none => none) else none
      | _ => none
    | _, _ => none
  | .mapUpdate t x i v => match E.ty t, ρ x with
    | some ⟨.map m, _, _, _⟩, .mp id => match look id with
      | some (.map m' ps) => if m' = m then (match m'.rk (ρ i), m'.rv (ρ v) with
        | some q, some y => k .any [(id, some (.map m' (mput m' q y ps)))]
        | _, _ => none) else none
      | _ => none
    | _, _ => none
  | .extract x i => match ρ x with
    | .tup vs => match vs[i]? with
      | some v => k v []
      | none => none
    | _ => none
  | .call c => match c.callee with
    | .builtin .len => match c.args.toList, c.argTypes[0]?.bind E.ty with
      | [x], some ti => if lenFits ti.td (ρ x) then alen look k (ρ x) else none
      | _, _ => none
    | .builtin .append => match c.args.toList, c.argTypes.toList with
      | [s, x], [t, t'] => if Globs.nst.contains t && t == t' then anest E look d k t (ρ s) (ρ x) else aappend E look ρ d k c
      | _, _ => aappend E look ρ d k c
    | .builtin .max => amm k true (c.args.toList.map ρ)
    | .builtin .min => amm k false (c.args.toList.map ρ)
    | .value f => match ρ f with
      | .clo g caps => if c.args.size = c.argTypes.size then acall E look d k g ((c.args.toList.zip c.argTypes.toList).map (fun q => typedArg E q.2 (ρ q.1)) ++ caps) else none
      | _ => none
    | _ => none
  | _ => none

/-- The slices of slices that an operation wants whole. -/
def closers : List Nat :=
  match o.op with
  | .call c => if Globs.nst.isEmpty then [] else c.args.toList.flatMap fun x => match ρ x with
    | .own id => [id]
    | _ => []
  | _ => []

/-- One operation, what it wants put back before. -/
def aopN : Option R :=
  match closeAll (closers ρ o) look with
  | [] => aop E look ρ o d k
  | cs => aop E (setHp look cs) ρ o d fun v u => k v (u ++ cs)
end ops

end Go.Sym
