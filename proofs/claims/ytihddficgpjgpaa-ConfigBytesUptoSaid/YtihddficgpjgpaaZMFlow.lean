/- MFlow: Ext, Flow, Fsym, Fcon, Fops, Fslice, one behind the other. -/
import Derived.StillTail
import Derived.Below
import Derived.Deep.Draws
import Derived.Test.YtihddficgpjgpaaZBase
import Derived.Test.YtihddficgpjgpaaZMTop
import Derived.Deep.MidRow
import Derived.Great.BuildSlice
import Derived.Laws.CopyOwn
import Derived.Test.YtihddficgpjgpaaZMLeq
import Derived.Test.YtihddficgpjgpaaZHead
import Derived.Test.YtihddficgpjgpaaZMRef
namespace Go.Proofs.Ytihddficgpjgpaa
open Go.RowKit
/-- What is known of a value: it stays true where memory is only added to. -/
structure Sym where
  on : World → Value → Prop
  mono : ∀ {w w' : World} {v : Value}, on w v → Below w.heap.size w w' → on w' v
/-- What is known of a slot's value, and where its operation ran at all. -/
def KnownV (k : Bool × Sym) (w : World) (v : Value) : Prop := (k.1 = true → k.2.on w v) ∧ (k.1 = false → v = undef)
def Known (K : Nat → Bool × Sym) (a : Act) (w : World) (s : Nat) : Prop := KnownV (K s) w (a.tmps.getD s undef)
def guardSlots (ops : Array Oper) (o : Oper) : List Nat := match o.guard with | none => [] | some (g, _) => ((ops[g]?).bind (·.dst)).toList
def dstsOf (l : List Oper) : List Nat := l.flatMap fun o => o.dst.toList
end Go.Proofs.Ytihddficgpjgpaa
namespace Go.Proofs.Ytihddficgpjgpaa
open Go.RowKit
def Sym.val (x : Value) : Sym := ⟨fun _ v => v = x, fun h _ => h⟩
def Sym.bool (b : Bool) : Sym := .val (.bool b)
section
variable {ops : Array Oper} {Q : Exit → Act → World → Prop} {K : Nat → Bool × Sym} {N : Nat}
/-- Where an operation runs. -/
def Gd (ops : Array Oper) (K : Nat → Bool × Sym) (g : Option (Nat × Bool)) (c : Bool) : Prop :=
  ∀ a w o, o.guard = g → (∀ s ∈ guardSlots ops o, Known K a w s) → Region.wanted o (yielded ops a.tmps) = c
theorem gd {g sg : Nat} {b cg x : Bool} (hs : (ops[g]?).bind (·.dst) = some sg) (hK : K sg = (cg, .bool x)) : Gd ops K (some (g, b)) (cg && (x == b)) := fun a w o hg hk => by
  have hk := hk sg (by simp [guardSlots, hg, hs])
  unfold Known KnownV at hk
  rw [hK] at hk
  have hy : ∀ u, a.tmps.getD sg undef = .bool u → yielded ops a.tmps g = some u := fun u hu => by
    unfold yielded
    rw [hs]
    rw [Array.getD_eq_getD_getElem?] at hu
    cases hq : a.tmps[sg]? with
    | none => rw [hq] at hu; cases hu
    | some q => rw [hq] at hu; simp at hu; subst hu; simp [hq]
  have hn : a.tmps.getD sg undef = undef → yielded ops a.tmps g = none := fun hu => by
    unfold yielded
    rw [hs]
    rw [Array.getD_eq_getD_getElem?] at hu
    cases hq : a.tmps[sg]? with
    | none => simp [hq]
    | some q => rw [hq] at hu; simp at hu; subst hu; simp [hq, undef]
  simp only [Region.wanted, hg]
  cases cg with
  | true => rw [hy x (hk.1 rfl)]; cases x <;> cases b <;> rfl
  | false => rw [hn (hk.2 rfl)]; rfl
end
theorem mem_dsts {l : List Oper} {s : Nat} (h : s ∈ dstsOf l) : ∃ (i : Nat) (o : Oper), l[i]? = some o ∧ o.dst = some s := by
  obtain ⟨o, ho, hs⟩ := List.mem_flatMap.1 h
  obtain ⟨i, hi, rfl⟩ := List.getElem_of_mem ho
  exact ⟨i, _, List.getElem?_eq_getElem hi, by simpa using hs⟩
end Go.Proofs.Ytihddficgpjgpaa
namespace Go.Proofs.Ytihddficgpjgpaa
open Go.RowKit Go.ChangeShapes Go.WideShapes
/-- A label that is in order, of at most n pairs. -/
structure OKL (l : Lab) (n : Nat) : Prop where
  good : Good l
  len : l.ps.length ≤ n
theorem Fine.okl {l : Lab} (h : Fine l) : OKL l 12 := ⟨h.good, h.len⟩
theorem okl_turn {a : Lab} {m : Nat} (f t : Int) (ha : OKL a m) : OKL (turnL f t a) (m + m) := ⟨good_turn f t ha.good, Nat.le_trans (merge_length _ _ _) (by have := ha.len; omega)⟩
theorem okl_raise {a : Lab} {m : Nat} (ha : OKL a m) : OKL (raiseL a) (m + m) := okl_turn 0 5 ha
theorem okl_rest {a : Lab} {m : Nat} (ha : OKL a m) : OKL (restL a) (m + m) := okl_turn 0 2 ha
theorem okl_of (d : Int) : OKL ⟨d, []⟩ 0 := ⟨good_of d, Nat.le_refl _⟩
end Go.Proofs.Ytihddficgpjgpaa
