/- More kinds of operations, by what they yield. -/
import Derived.Test.YtihddficgpjgpaaFcon
namespace Go.Proofs.Ytihddficgpjgpaa
open Go.RowKit

section
variable {ops : Array Oper} {Q : Exit → Act → World → Prop} {K : Nat → Bool × Sym} {N : Nat} {d : Nat} {t : TypeId} {p : String} {af : Array Edge} {g : Option (Nat × Bool)} {c : Bool} {x x2 : Operand}
theorem ok_eqb {a b : Bool} (hK : K d = (c, .bool (a == b))) (hg : Gd ops K g c) (hx : Opd K c x (.bool a)) (hx2 : Opd K c x2 (.bool b)) : OpOK Try.prog ops Q K N ⟨some d, .binOp .eql 4 x x2 4, t, p, af, g⟩ :=
  ok_bin hK hg hx hx2 fun w => by go_simp
theorem ok_neb {a b : Bool} (hK : K d = (c, .bool (a != b))) (hg : Gd ops K g c) (hx : Opd K c x (.bool a)) (hx2 : Opd K c x2 (.bool b)) : OpOK Try.prog ops Q K N ⟨some d, .binOp .neq 4 x x2 4, t, p, af, g⟩ :=
  ok_bin hK hg hx hx2 fun w => by go_simp; cases a <;> cases b <;> rfl
theorem ok_eqli {a b : Int} (hK : K d = (c, .bool (a == b))) (hg : Gd ops K g c) (hx : Opd K c x (.int a)) (hx2 : Opd K c x2 (.int b)) : OpOK Try.prog ops Q K N ⟨some d, .binOp .eql 3 x x2 3, t, p, af, g⟩ :=
  ok_bin hK hg hx hx2 fun w => by go_simp
theorem ok_neqi {a b : Int} (hK : K d = (c, .bool (a != b))) (hg : Gd ops K g c) (hx : Opd K c x (.int a)) (hx2 : Opd K c x2 (.int b)) : OpOK Try.prog ops Q K N ⟨some d, .binOp .neq 3 x x2 3, t, p, af, g⟩ :=
  ok_bin hK hg hx hx2 fun w => by go_simp
theorem ok_gtri {a b : Int} (hK : K d = (c, .bool (decide (b < a)))) (hg : Gd ops K g c) (hx : Opd K c x (.int a)) (hx2 : Opd K c x2 (.int b)) : OpOK Try.prog ops Q K N ⟨some d, .binOp .gtr 3 x x2 3, t, p, af, g⟩ :=
  ok_bin hK hg hx hx2 fun w => by go_simp
theorem ok_lssi {a b : Int} (hK : K d = (c, .bool (decide (a < b)))) (hg : Gd ops K g c) (hx : Opd K c x (.int a)) (hx2 : Opd K c x2 (.int b)) : OpOK Try.prog ops Q K N ⟨some d, .binOp .lss 3 x x2 3, t, p, af, g⟩ :=
  ok_bin hK hg hx hx2 fun w => by go_simp
theorem ok_neu {a b : Int} (hK : K d = (c, .bool (a != b))) (hg : Gd ops K g c) (hx : Opd K c x (.u32 a)) (hx2 : Opd K c x2 (.u32 b)) : OpOK Try.prog ops Q K N ⟨some d, .binOp .neq 70 x x2 70, t, p, af, g⟩ :=
  ok_bin hK hg hx hx2 fun w => by go_simp
end
end Go.Proofs.Ytihddficgpjgpaa
