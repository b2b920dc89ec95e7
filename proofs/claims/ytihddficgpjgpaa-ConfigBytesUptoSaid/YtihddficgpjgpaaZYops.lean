/- How each kind of operation of this program runs. -/
import Derived.Test.YtihddficgpjgpaaZYown
import Derived.Test.YtihddficgpjgpaaChecked
namespace Go.Proofs.Ytihddficgpjgpaa.Y
open Go.RowKit
theorem mixed : Try.prog.follows .mixedOrders = true := by kernel_rfl
section
variable {d : Nat} {t : TypeId} {p : String} {af : Array Edge} {g : Option (Nat × Bool)} {x x2 : Operand}
theorem sz_36 : (Try.prog.info? 36).map (·.size) = some 2 := by kernel_rfl
theorem sz_39 : (Try.prog.info? 39).map (·.size) = some 2 := by kernel_rfl
theorem sz_90 : (Try.prog.info? 90).map (·.size) = some 2 := by kernel_rfl
theorem ld_3 : LoadRun Try.prog ⟨some d, .load 3 x, t, p, af, g⟩ x := fun ev w b off v h1 h2 => by go_simp
theorem ld_37 : LoadRun Try.prog ⟨some d, .load 37 x, t, p, af, g⟩ x := fun ev w b off v h1 h2 => by go_simp
theorem ld_70 : LoadRun Try.prog ⟨some d, .load 70 x, t, p, af, g⟩ x := fun ev w b off v h1 h2 => by go_simp
theorem ld_4 : LoadRun Try.prog ⟨some d, .load 4 x, t, p, af, g⟩ x := fun ev w b off v h1 h2 => by go_simp
theorem fa_39_0 : FieldRun Try.prog ⟨some d, .fieldAddr 39 x 0, t, p, af, g⟩ x 0 := fun ev w b off h1 => by go_simp
theorem fa_39_1 : FieldRun Try.prog ⟨some d, .fieldAddr 39 x 1, t, p, af, g⟩ x 1 := fun ev w b off h1 => by go_simp
theorem fa_90_0 : FieldRun Try.prog ⟨some d, .fieldAddr 90 x 0, t, p, af, g⟩ x 0 := fun ev w b off h1 => by go_simp
theorem fa_90_1 : FieldRun Try.prog ⟨some d, .fieldAddr 90 x 1, t, p, af, g⟩ x 1 := fun ev w b off h1 => by go_simp
theorem ix_37 : IndexRun Try.prog ⟨some d, .indexAddr 37 x x2, t, p, af, g⟩ x x2 2 := fun ev w b off len cap i h1 h2 h3 => by
  have hd : decide ((0 : Int) ≤ i) = true := by simp
  have hd2 : decide ((i : Int) < len) = true := by simp; omega
  go_simp
theorem ln_37 : LenRun Try.prog ⟨some d, .call { callee := .builtin .len, args := #[x], argTypes := #[37] }, t, p, af, g⟩ x := fun ev w A len cap h1 => by go_simp
theorem ln_75 : LenRun Try.prog ⟨some d, .call { callee := .builtin .len, args := #[x], argTypes := #[75] }, t, p, af, g⟩ x := fun ev w A len cap h1 => by go_simp
theorem bx_39 : BoxRun Try.prog ⟨some d, .box 39 x, t, p, af, g⟩ x 39 := fun ev w cs h1 => by go_simp
theorem al_39 : AllocRun Try.prog ⟨some d, .alloc 39, t, p, af, none⟩ 39 #[.int .i64 0, .slice none 0 0] := fun ev w => by go_simp
theorem al_90 : AllocRun Try.prog ⟨some d, .alloc 90, t, p, af, none⟩ 90 #[.int .u32 0, .int .i64 0] := fun ev w => by go_simp
theorem b_eql_3 {a b : Int} : Run2 Try.prog ⟨some d, .binOp .eql 3 x x2 3, t, p, af, g⟩ x x2 (.int .i64 a) (.int .i64 b) (.bool (a == b)) := fun ev w h1 h2 => by go_simp
theorem b_neq_3 {a b : Int} : Run2 Try.prog ⟨some d, .binOp .neq 3 x x2 3, t, p, af, g⟩ x x2 (.int .i64 a) (.int .i64 b) (.bool (a != b)) := fun ev w h1 h2 => by go_simp
theorem b_lss_3 {a b : Int} : Run2 Try.prog ⟨some d, .binOp .lss 3 x x2 3, t, p, af, g⟩ x x2 (.int .i64 a) (.int .i64 b) (.bool (decide (a < b))) := fun ev w h1 h2 => by go_simp
theorem b_leq_3 {a b : Int} : Run2 Try.prog ⟨some d, .binOp .leq 3 x x2 3, t, p, af, g⟩ x x2 (.int .i64 a) (.int .i64 b) (.bool (decide (a ≤ b))) := fun ev w h1 h2 => by go_simp
theorem b_gtr_3 {a b : Int} : Run2 Try.prog ⟨some d, .binOp .gtr 3 x x2 3, t, p, af, g⟩ x x2 (.int .i64 a) (.int .i64 b) (.bool (decide (b < a))) := fun ev w h1 h2 => by go_simp
theorem b_geq_3 {a b : Int} : Run2 Try.prog ⟨some d, .binOp .geq 3 x x2 3, t, p, af, g⟩ x x2 (.int .i64 a) (.int .i64 b) (.bool (decide (b ≤ a))) := fun ev w h1 h2 => by go_simp
theorem b_add_3 {a b : Int} : Run2 Try.prog ⟨some d, .binOp .add 3 x x2 3, t, p, af, g⟩ x x2 (.int .i64 a) (.int .i64 b) (.int .i64 (IntKind.i64.wrap (a + b))) := fun ev w h1 h2 => by go_simp
theorem b_sub_3 {a b : Int} : Run2 Try.prog ⟨some d, .binOp .sub 3 x x2 3, t, p, af, g⟩ x x2 (.int .i64 a) (.int .i64 b) (.int .i64 (IntKind.i64.wrap (a - b))) := fun ev w h1 h2 => by go_simp
theorem b_rem_3 {a b : Int} (hb : b ≠ 0) : Run2 Try.prog ⟨some d, .binOp .rem 3 x x2 3, t, p, af, g⟩ x x2 (.int .i64 a) (.int .i64 b) (.int .i64 (a.tmod b)) := fun ev w h1 h2 => by go_simp
theorem b_lss_70 {a b : Int} : Run2 Try.prog ⟨some d, .binOp .lss 70 x x2 70, t, p, af, g⟩ x x2 (.int .u32 a) (.int .u32 b) (.bool (decide (a < b))) := fun ev w h1 h2 => by go_simp
theorem b_leq_70 {a b : Int} : Run2 Try.prog ⟨some d, .binOp .leq 70 x x2 70, t, p, af, g⟩ x x2 (.int .u32 a) (.int .u32 b) (.bool (decide (a ≤ b))) := fun ev w h1 h2 => by go_simp
theorem b_geq_70 {a b : Int} : Run2 Try.prog ⟨some d, .binOp .geq 70 x x2 70, t, p, af, g⟩ x x2 (.int .u32 a) (.int .u32 b) (.bool (decide (b ≤ a))) := fun ev w h1 h2 => by go_simp
theorem inc_3 {i : Nat} (h : i + 1 < 9223372036854775808) : Run2 Try.prog ⟨some d, .binOp .add 3 x x2 3, t, p, af, g⟩ x x2 (.int .i64 i) (.int .i64 1) (.int .i64 ((i + 1 : Nat) : Int)) := fun ev w h1 h2 => by rw [← wrap_inc h]; exact b_add_3 ev w h1 h2
end
end Go.Proofs.Ytihddficgpjgpaa.Y
