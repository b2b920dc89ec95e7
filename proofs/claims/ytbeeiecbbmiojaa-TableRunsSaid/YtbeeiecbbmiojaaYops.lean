/- How each kind of operation of this program runs. -/
import Derived.Test.YtbeeiecbbmiojaaYown
import Derived.Test.YtbeeiecbbmiojaaChecked
namespace Go.Proofs.Ytbeeiecbbmiojaa.Y
open Go.RowKit

theorem mixed : Try.prog.follows .mixedOrders = true := by kernel_rfl
section
variable {d : Nat} {t : TypeId} {p : String} {af : Array Edge} {g : Option (Nat × Bool)} {x x2 : Operand}
theorem unfold_not : True := True.intro
theorem sz_69 : (Try.prog.info? 69).map (·.size) = some 5 := by kernel_rfl
theorem ld_3 : LoadRun Try.prog ⟨some d, .load 3 x, t, p, af, g⟩ x := fun ev w b off v h1 h2 => by go_simp
theorem ld_28 : LoadRun Try.prog ⟨some d, .load 28 x, t, p, af, g⟩ x := fun ev w b off v h1 h2 => by go_simp
theorem ld_4 : LoadRun Try.prog ⟨some d, .load 4 x, t, p, af, g⟩ x := fun ev w b off v h1 h2 => by go_simp
theorem fa_69_0 : FieldRun Try.prog ⟨some d, .fieldAddr 69 x 0, t, p, af, g⟩ x 0 := fun ev w b off h1 => by go_simp
theorem fa_69_1 : FieldRun Try.prog ⟨some d, .fieldAddr 69 x 1, t, p, af, g⟩ x 1 := fun ev w b off h1 => by go_simp
theorem fa_69_2 : FieldRun Try.prog ⟨some d, .fieldAddr 69 x 2, t, p, af, g⟩ x 2 := fun ev w b off h1 => by go_simp
theorem fa_69_3 : FieldRun Try.prog ⟨some d, .fieldAddr 69 x 3, t, p, af, g⟩ x 3 := fun ev w b off h1 => by go_simp
theorem fa_69_4 : FieldRun Try.prog ⟨some d, .fieldAddr 69 x 4, t, p, af, g⟩ x 4 := fun ev w b off h1 => by go_simp
theorem ix_41 : IndexRun Try.prog ⟨some d, .indexAddr 41 x x2, t, p, af, g⟩ x x2 5 := fun ev w b off len cap i h1 h2 h3 => by
  have hd : decide ((0 : Int) ≤ i) = true := by simp
  have hd2 : decide ((i : Int) < len) = true := by simp; omega
  go_simp
theorem ix_29 : IndexRun Try.prog ⟨some d, .indexAddr 29 x x2, t, p, af, g⟩ x x2 1 := fun ev w b off len cap i h1 h2 h3 => by
  have hd : decide ((0 : Int) ≤ i) = true := by simp
  have hd2 : decide ((i : Int) < len) = true := by simp; omega
  go_simp
theorem ln_41 : LenRun Try.prog ⟨some d, .call { callee := .builtin .len, args := #[x], argTypes := #[41] }, t, p, af, g⟩ x := fun ev w A len cap h1 => by go_simp
theorem ln_29 : LenRun Try.prog ⟨some d, .call { callee := .builtin .len, args := #[x], argTypes := #[29] }, t, p, af, g⟩ x := fun ev w A len cap h1 => by go_simp
theorem bx_69 : BoxRun Try.prog ⟨some d, .box 69 x, t, p, af, g⟩ x 69 := fun ev w cs h1 => by go_simp
theorem bx3 : True := True.intro
theorem al_69 : AllocRun Try.prog ⟨some d, .alloc 69, t, p, af, none⟩ 69 #[.int .i64 0, .int .u64 0, .int .i64 0, .int .i64 0, .bool false] := fun ev w => by go_simp
theorem b_eql_4 {a b : Bool} : Run2 Try.prog ⟨some d, .binOp .eql 4 x x2 4, t, p, af, g⟩ x x2 (.bool a) (.bool b) (.bool (a == b)) := fun ev w h1 h2 => by go_simp
theorem b_neq_4 {a b : Bool} : Run2 Try.prog ⟨some d, .binOp .neq 4 x x2 4, t, p, af, g⟩ x x2 (.bool a) (.bool b) (.bool (a != b)) := fun ev w h1 h2 => by go_simp; cases a <;> cases b <;> rfl
theorem b_eql_3 {a b : Int} : Run2 Try.prog ⟨some d, .binOp .eql 3 x x2 3, t, p, af, g⟩ x x2 (.int .i64 a) (.int .i64 b) (.bool (a == b)) := fun ev w h1 h2 => by go_simp
theorem b_neq_3 {a b : Int} : Run2 Try.prog ⟨some d, .binOp .neq 3 x x2 3, t, p, af, g⟩ x x2 (.int .i64 a) (.int .i64 b) (.bool (a != b)) := fun ev w h1 h2 => by go_simp
theorem b_lss_3 {a b : Int} : Run2 Try.prog ⟨some d, .binOp .lss 3 x x2 3, t, p, af, g⟩ x x2 (.int .i64 a) (.int .i64 b) (.bool (decide (a < b))) := fun ev w h1 h2 => by go_simp
theorem b_leq_3 {a b : Int} : Run2 Try.prog ⟨some d, .binOp .leq 3 x x2 3, t, p, af, g⟩ x x2 (.int .i64 a) (.int .i64 b) (.bool (decide (a ≤ b))) := fun ev w h1 h2 => by go_simp
theorem b_gtr_3 {a b : Int} : Run2 Try.prog ⟨some d, .binOp .gtr 3 x x2 3, t, p, af, g⟩ x x2 (.int .i64 a) (.int .i64 b) (.bool (decide (b < a))) := fun ev w h1 h2 => by go_simp
theorem b_geq_3 {a b : Int} : Run2 Try.prog ⟨some d, .binOp .geq 3 x x2 3, t, p, af, g⟩ x x2 (.int .i64 a) (.int .i64 b) (.bool (decide (b ≤ a))) := fun ev w h1 h2 => by go_simp
theorem b_add_3 {a b : Int} : Run2 Try.prog ⟨some d, .binOp .add 3 x x2 3, t, p, af, g⟩ x x2 (.int .i64 a) (.int .i64 b) (.int .i64 (IntKind.i64.wrap (a + b))) := fun ev w h1 h2 => by go_simp
theorem b_sub_3 {a b : Int} : Run2 Try.prog ⟨some d, .binOp .sub 3 x x2 3, t, p, af, g⟩ x x2 (.int .i64 a) (.int .i64 b) (.int .i64 (IntKind.i64.wrap (a - b))) := fun ev w h1 h2 => by go_simp
theorem b_mul_3 {a b : Int} : Run2 Try.prog ⟨some d, .binOp .mul 3 x x2 3, t, p, af, g⟩ x x2 (.int .i64 a) (.int .i64 b) (.int .i64 (IntKind.i64.wrap (a * b))) := fun ev w h1 h2 => by go_simp
theorem b_rem_3 {a b : Int} (hb : b ≠ 0) : Run2 Try.prog ⟨some d, .binOp .rem 3 x x2 3, t, p, af, g⟩ x x2 (.int .i64 a) (.int .i64 b) (.int .i64 (a.tmod b)) := fun ev w h1 h2 => by go_simp
theorem b_and_3 {a b : Int} : Run2 Try.prog ⟨some d, .binOp .and 3 x x2 3, t, p, af, g⟩ x x2 (.int .i64 a) (.int .i64 b) (.int .i64 (bits .and .i64 a b)) := fun ev w h1 h2 => by go_simp
theorem b_neq_28 {a b : Int} : Run2 Try.prog ⟨some d, .binOp .neq 28 x x2 28, t, p, af, g⟩ x x2 (.int .u64 a) (.int .u64 b) (.bool (a != b)) := fun ev w h1 h2 => by go_simp
theorem b_eql_28 {a b : Int} : Run2 Try.prog ⟨some d, .binOp .eql 28 x x2 28, t, p, af, g⟩ x x2 (.int .u64 a) (.int .u64 b) (.bool (a == b)) := fun ev w h1 h2 => by go_simp
theorem b_geq_28 {a b : Int} : Run2 Try.prog ⟨some d, .binOp .geq 28 x x2 28, t, p, af, g⟩ x x2 (.int .u64 a) (.int .u64 b) (.bool (decide (b ≤ a))) := fun ev w h1 h2 => by go_simp
theorem b_lss_28 {a b : Int} : Run2 Try.prog ⟨some d, .binOp .lss 28 x x2 28, t, p, af, g⟩ x x2 (.int .u64 a) (.int .u64 b) (.bool (decide (a < b))) := fun ev w h1 h2 => by go_simp
theorem b_neq_73 {a b : Int} : Run2 Try.prog ⟨some d, .binOp .neq 73 x x2 73, t, p, af, g⟩ x x2 (.int .i64 a) (.int .i64 b) (.bool (a != b)) := fun ev w h1 h2 => by go_simp
theorem b_eql_73 {a b : Int} : Run2 Try.prog ⟨some d, .binOp .eql 73 x x2 73, t, p, af, g⟩ x x2 (.int .i64 a) (.int .i64 b) (.bool (a == b)) := fun ev w h1 h2 => by go_simp
theorem bs_41 : BsRun Try.prog ⟨some d, .buildSlice 41 1 #[(0, x)], t, p, af, g⟩ x 5 69 := fun ev w cs h1 h2 => by
  obtain ⟨cs⟩ := cs
  match cs, h2 with
  | [a, b, c, d, e], _ => go_simp
theorem inc_3 {i : Nat} (h : i + 1 < 9223372036854775808) : Run2 Try.prog ⟨some d, .binOp .add 3 x x2 3, t, p, af, g⟩ x x2 (.int .i64 i) (.int .i64 1) (.int .i64 ((i + 1 : Nat) : Int)) := fun ev w h1 h2 => by rw [← wrap_inc h]; exact b_add_3 ev w h1 h2
end
end Go.Proofs.Ytbeeiecbbmiojaa.Y
