/- Yonly: for PackOnly -/
import Derived.Test.YtihddficgpjgpaaYlabm
import Derived.Test.YtihddficgpjgpaaYlabx
namespace Go.Proofs.Ytihddficgpjgpaa.Y
open Go.RowKit Go.ChangeShapes Go.WideShapes Go.ChangeAt

theorem and_3 {d : Nat} {t : TypeId} {p : String} {af : Array Edge} {g : Option (Nat × Bool)} {x x2 : Operand} {a : Int} : Run2 Try.prog ⟨some d, .binOp .and 3 x x2 3, t, p, af, g⟩ x x2 (.int .i64 a) (.int .i64 3) (.int .i64 (bits .and .i64 a 3)) := fun ev w h1 h2 => by go_simp
section
variable {d : Nat} {t : TypeId} {p : String} {af : Array Edge} {g : Option (Nat × Bool)} {x x2 : Operand}
theorem b_neq_47 {a b : Int} : Run2 Try.prog ⟨some d, .binOp .neq 47 x x2 47, t, p, af, g⟩ x x2 (.int .i64 a) (.int .i64 b) (.bool (a != b)) := fun ev w h1 h2 => by go_simp
theorem b_eql_47 {a b : Int} : Run2 Try.prog ⟨some d, .binOp .eql 47 x x2 47, t, p, af, g⟩ x x2 (.int .i64 a) (.int .i64 b) (.bool (a == b)) := fun ev w h1 h2 => by go_simp
end
theorem i64_and3 (n : Int) : ∃ k : Nat, bits .and .i64 n 3 = (k : Int) ∧ k ≤ 3 := by
  have h : (BitVec.ofInt 64 n &&& BitVec.ofInt 64 3).toNat ≤ 3 := by
    rw [BitVec.toNat_and]
    exact Nat.and_le_right
  have e : bits .and .i64 n 3 = IntKind.i64.wrap (((BitVec.ofInt 64 n &&& BitVec.ofInt 64 3).toNat : Nat) : Int) := by rfl
  exact ⟨_, by rw [e, IntKind.wrap_i64]; omega, h⟩
theorem labsB_take {ls : List Lab} {i : Nat} {l : Lab} (h : ls[i]? = some l) : labsB (ls.take (i + 1)) = labsB (ls.take i) ++ labB l := by
  obtain ⟨hi, rfl⟩ := List.getElem?_eq_some_iff.1 h
  unfold labsB
  rw [List.take_succ_eq_append_getElem hi, List.flatMap_append]
  simp
theorem labsB_le (ls : List Lab) (i : Nat) : (labsB (ls.take i)).length ≤ (labsB ls).length := by
  have : labsB ls = labsB (ls.take i) ++ labsB (ls.drop i) := by unfold labsB; rw [← List.flatMap_append, List.take_append_drop]
  rw [this, List.length_append]
  omega
theorem labsB_byt (ls : List Lab) : Pk.Byt (labsB ls) := fun x hx => by
  obtain ⟨l, _, hx⟩ := List.mem_flatMap.1 hx
  exact byt_lab l x hx
theorem getL {ls : List Lab} {i : Nat} {l : Lab} (h : ls[i]? = some l) : l ∈ ls := List.mem_of_getElem? h

end Go.Proofs.Ytihddficgpjgpaa.Y
