/- The symbolic machine: small tools for the reckoning of a function. -/
import Derived.Test.YtmphbdhjdalgnaaGreatDoorSymTabM
import Derived.Test.YtmphbdhjdalgnaaGreatDoorSymWW
namespace Go.Sym
open Go.Proofs
set_option linter.unusedVariables false
set_option linter.unusedSimpArgs false
abbrev big : Nat := 4611686018427387904
abbrev i64 : ET := .int .i64

abbrev Tbl := FuncId → List AV → List Ob → Option (AV × List Ob)
@[reducible] def mkE (fns : Tbl) (lends : FuncId → Bool) (live : Nat → List Nat × List Nat) : Env := ⟨tab, fns, lends, live⟩
/-- A table of contracts. -/
def tb (l : List (FuncId × (List AV → List Ob → Option (AV × List Ob)))) : Tbl := fun f => match l.lookup f with
  | some K => K
  | none => fun _ _ => none
theorem facts_of [Dm] {l : List (FuncId × (List AV → List Ob → Option (AV × List Ob)))} {lends live} (h : ∀ p ∈ l, FnOk Tryz.prog p.1 p.2) : Facts Tryz.prog (mkE (tb l) lends live) := by
  refine ⟨tyOk rfl, fun f hf => ?_, mixed⟩
  obtain ⟨avs, hin, hf⟩ := hf
  have he : ∀ K, l.lookup f = some K → tb l f = K := fun K hK => by unfold tb; rw [hK]
  cases hK : l.lookup f with
  | none =>
    have : tb l f avs hin = none := by unfold tb; rw [hK]
    exact absurd this hf
  | some K =>
    show FnOk Tryz.prog f (tb l f)
    rw [he K hK]
    exact h _ (lookup_mem _ _ _ hK)

/-- What is told under a condition. -/
@[irreducible] def gd {α : Type} (p : Prop) [Decidable p] (x : α) : Option α := if p then some x else none
theorem gd_s {α : Type} {p : Prop} [Decidable p] {x : α} (h : p) : gd p x = some x := by unfold gd; exact if_pos h
theorem gd_o {α : Type} {p : Prop} [Decidable p] {x r : α} (h : gd p x = some r) : p ∧ x = r := by
  unfold gd at h
  split at h
  · exact ⟨by assumption, Option.some.inj h⟩
  · cases h

theorem bnd_g {α β : Type} {p : Prop} [Decidable p] {x : α} {k : α → Option β} {r : Option β} (h : p) (g : k x = r) : bnd (gd p x) k = r := bnd_s (gd_s h) g

theorem br_d {R : Type} {ops : Array Oper} {log : List Ent} {x y r : Option R} (g : x = r) (h : drawOk ops log = true) : br (drawOk ops log) x y = r := br_t h g
theorem br_tt {R : Type} {x y r : R} (g : x = r) : br true x y = r := br_t rfl g
theorem br_ff {R : Type} {x y r : R} (g : y = r) : br false x y = r := br_f rfl g

theorem br_nf {R : Type} {x y r : R} (g : x = r) : br (!false) x y = r := br_t rfl g
theorem br_nt {R : Type} {x y r : R} (g : y = r) : br (!true) x y = r := br_f rfl g

theorem dt {p : Prop} [Decidable p] (h : p) : decide p = true := decide_eq_true h
theorem df {p : Prop} [Decidable p] (h : ¬ p) : decide p = false := decide_eq_false h
theorem dt2 {p q : Prop} [Decidable p] [Decidable q] (h : p) (g : q) : (decide p && decide q) = true := by simp [h, g]
theorem ofd {p : Prop} [Decidable p] (h : decide p = true) : p := of_decide_eq_true h
theorem ofn {p : Prop} [Decidable p] (h : decide p = false) : ¬ p := of_decide_eq_false h

theorem ofnt {p : Prop} [Decidable p] (h : (!decide p) = true) : ¬ p := by simpa using h
theorem ofnf {p : Prop} [Decidable p] (h : (!decide p) = false) : p := by simpa using h
theorem bnt {b : Bool} (h : (!b) = true) : b = false := by cases b <;> simp_all
theorem bnf {b : Bool} (h : (!b) = false) : b = true := by cases b <;> simp_all
theorem okB {a b : Bool} (h : a = b) : some (AV.bool a, ([] : List Ob)) = some (AV.bool b, []) := by rw [h]
theorem okI {k : IntKind} {a b : Int} (h : a = b) : some (AV.int k a, ([] : List Ob)) = some (AV.int k b, []) := by rw [h]

theorem mk_ok {n b : Nat} (h : n * b ≤ 140737488355328) : (decide ((0 : Int) ≤ (n : Int)) && (decide ((n : Int) = (n : Int)) && decide ((n : Int) * (b : Nat) ≤ (room : Int)))) = true := by
  have h1 : (n : Int) * (b : Nat) ≤ (room : Int) := by unfold room; exact_mod_cast h
  simp [h1]

theorem maxLen_eq : maxLen = 9223372036854775807 := rfl
theorem wrap64 {n : Int} (h1 : -9223372036854775808 ≤ n) (h2 : n ≤ 9223372036854775807) : IntKind.i64.wrap n = n := by
  simp [IntKind.wrap, IntKind.bits, IntKind.signed]
  omega

@[simp] theorem dft_int (k : IntKind) : (ET.int k).dft = (0 : Int) := rfl
@[simp] theorem dft_bool : ET.bool.dft = false := rfl
@[simp] theorem dft_str : ET.str.dft = ByteArray.empty := rfl
@[simp] theorem dft_lst (e : ET) : (ET.lst e).dft = ([] : List e.T) := rfl
@[simp] theorem dft_pair (a b : ET) : (ET.pair a b).dft = (a.dft, b.dft) := rfl

theorem mem_getD {α : Type} {l : List α} {i : Nat} {d : α} (h : i < l.length) : l.getD i d ∈ l := by
  rw [List.getD_eq_getElem?_getD, List.getElem?_eq_getElem h]
  exact List.getElem_mem _
theorem getD_drop {α : Type} {l : List α} {i : Nat} {d : α} (h : i < l.length) : l.drop i = l.getD i d :: l.drop (i + 1) := by
  rw [List.drop_eq_getElem_cons h]
  simp [List.getD, h]
end Go.Sym
