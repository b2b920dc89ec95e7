/- More kinds of operations, by what they yield. -/
import Derived.Test.YtihddficgpjgpaaFcon
namespace Go.Proofs.Ytihddficgpjgpaa
open Go.RowKit

section
variable {ops : Array Oper} {Q : Exit → Act → World → Prop} {K : Nat → Bool × Sym} {N : Nat} {d : Nat} {t : TypeId} {p : String} {af : Array Edge} {g : Option (Nat × Bool)} {c : Bool} {x x2 : Operand}
theorem ok_eqb {a b : Bool} (hK : K d = (c, .bool (a == b))) (hg : Gd ops K g c) (hx : Opd K c x (.bool a)) (hx2 : Opd K c x2 (.bool b)) : OpOK Try.prog ops Q K N ⟨some d, .binOp .eql 4 x x2 4, t, p, af, g⟩ :=
  ok_bin hK hg hx hx2 fun w => by go_simp
theorem ok_neb {a b : Bool} (hK : K d = (c, .bool (a != b))) (hg : Gd ops K g c) (hx : Opd K c x (.bool a)) (hx2 : Opd K c x2 (.bool b)) : OpOK Try.prog ops Q K N ⟨some d, .binOp .neq 4 x x2 4, t, p, af, g⟩ :=
  ok_bin hK hg hx hx2 fun w => by go_simp; cases a <;> cases b <;> rfl
theorem ok_eqli {a b : Int} (hK : K d = (c, .bool (a == b))) (hg : Gd ops K g c) (hx : Opd K c x (.int a)) (hx2 : Opd K c x2 (.int b)) : OpOK Try.prog ops Q K N ⟨some d, .binOp .eql 3 x x2 3, t, p, af, g⟩ :=
  ok_bin hK hg hx hx2 fun w => by go_simp
theorem ok_neqi {a b : Int} (hK : K d = (c, .bool (a != b))) (hg : Gd ops K g c) (hx : Opd K c x (.int a)) (hx2 : Opd K c x2 (.int b)) : OpOK Try.prog ops Q K N ⟨some d, .binOp .neq 3 x x2 3, t, p, af, g⟩ :=
  ok_bin hK hg hx hx2 fun w => by go_simp
theorem ok_gtri {a b : Int} (hK : K d = (c, .bool (decide (b < a)))) (hg : Gd ops K g c) (hx : Opd K c x (.int a)) (hx2 : Opd K c x2 (.int b)) : OpOK Try.prog ops Q K N ⟨some d, .binOp .gtr 3 x x2 3, t, p, af, g⟩ :=
  ok_bin hK hg hx hx2 fun w => by go_simp
theorem ok_lssi {a b : Int} (hK : K d = (c, .bool (decide (a < b)))) (hg : Gd ops K g c) (hx : Opd K c x (.int a)) (hx2 : Opd K c x2 (.int b)) : OpOK Try.prog ops Q K N ⟨some d, .binOp .lss 3 x x2 3, t, p, af, g⟩ :=
  ok_bin hK hg hx hx2 fun w => by go_simp
theorem ok_neu {a b : Int} (hK : K d = (c, .bool (a != b))) (hg : Gd ops K g c) (hx : Opd K c x (.u32 a)) (hx2 : Opd K c x2 (.u32 b)) : OpOK Try.prog ops Q K N ⟨some d, .binOp .neq 70 x x2 70, t, p, af, g⟩ :=
  ok_bin hK hg hx hx2 fun w => by go_simp
end

def Sym.u8 (n : Int) : Sym := .val (.int .u8 n)
section
variable {w : World} {v1 v2 v3 : Value} {a b : Lab} {m n : Nat}
theorem c75j (ha : OKL a m) (hb : OKL b n) (hl : m + n ≤ 100000) (w : World) (v1 v2 v3 : Value) (h1 : (Sym.lab a).on w v1) (h2 : (Sym.lab b).on w v2) (h3 : (Sym.u8 106).on w v3) : Calls Try.prog 75 #[v1, v2, v3] w fun e w' => ∃ v, e = .returned v ∧ (Sym.lab (joinL a b)).on w' v ∧ Below w.heap.size w w' := by
  obtain rfl : v3 = .int .u8 106 := h3
  exact gives_lab (rmerge_any 106 max one_j v1 v2 a b w (on_lab h1) (on_lab h2) ha.good hb.good (by have := ha.len; have := hb.len; omega))
theorem c75m (ha : OKL a m) (hb : OKL b n) (hl : m + n ≤ 100000) (w : World) (v1 v2 v3 : Value) (h1 : (Sym.lab a).on w v1) (h2 : (Sym.lab b).on w v2) (h3 : (Sym.u8 109).on w v3) : Calls Try.prog 75 #[v1, v2, v3] w fun e w' => ∃ v, e = .returned v ∧ (Sym.lab (meetL a b)).on w' v ∧ Below w.heap.size w w' := by
  obtain rfl : v3 = .int .u8 109 := h3
  exact gives_lab (rmerge_any 109 min one_m v1 v2 a b w (on_lab h1) (on_lab h2) ha.good hb.good (by have := ha.len; have := hb.len; omega))
end
theorem same_ext' {a b : Lab} (ga : Good a) (gb : Good b) (h : ∀ x, a.lv x = b.lv x) : sameB a b = true := by
  rw [ext ga gb h]
  exact sameB_refl _
/-- Raised and lowered: itself, if it names no level above 4. -/
theorem lower_raise {a : Lab} (ga : Good a) (hu : Upto 4 a) : lowerL (raiseL a) = a := by
  have g1 : Good (raiseL a) := good_turn 0 5 ga
  refine ext (good_turn 5 0 g1) ga fun x => ?_
  have e1 : (lowerL (raiseL a)).lv x = turnF 5 0 ((raiseL a).lv x) := lv_turn 5 0 g1 x
  have e2 : (raiseL a).lv x = turnF 0 5 (a.lv x) := lv_turn 0 5 ga x
  have h := hu x
  rw [e1, e2]
  unfold turnF
  split <;> split <;> omega
end Go.Proofs.Ytihddficgpjgpaa
