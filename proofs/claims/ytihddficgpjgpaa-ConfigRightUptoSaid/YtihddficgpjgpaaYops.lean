/- How each kind of operation of this program runs. -/
import Derived.Test.YtihddficgpjgpaaYown
import Derived.Test.YtihddficgpjgpaaChecked
namespace Go.Proofs.Ytihddficgpjgpaa.Y
open Go.RowKit

theorem mixed : Try.prog.follows .mixedOrders = true := by kernel_rfl
section
variable {d : Nat} {t : TypeId} {p : String} {af : Array Edge} {g : Option (Nat × Bool)} {x x2 : Operand}
theorem unfold_not : True := True.intro
theorem sz_36 : (Try.prog.info? 36).map (·.size) = some 2 := by kernel_rfl
theorem sz_39 : (Try.prog.info? 39).map (·.size) = some 2 := by kernel_rfl
theorem sz_83 : (Try.prog.info? 83).map (·.size) = some 4 := by kernel_rfl
theorem sz_93 : (Try.prog.info? 93).map (·.size) = some 4 := by kernel_rfl
theorem sz_90 : (Try.prog.info? 90).map (·.size) = some 2 := by kernel_rfl
theorem sz_74 : (Try.prog.info? 74).map (·.size) = some 8 := by kernel_rfl
theorem sz_80 : (Try.prog.info? 80).map (·.size) = some 4 := by kernel_rfl
theorem sz_92 : (Try.prog.info? 92).map (·.size) = some 6 := by kernel_rfl
theorem sz_69 : (Try.prog.info? 69).map (·.size) = some 2 := by kernel_rfl
theorem ld_3 : LoadRun Try.prog ⟨some d, .load 3 x, t, p, af, g⟩ x := fun ev w b off v h1 h2 => by go_simp
theorem ld_37 : LoadRun Try.prog ⟨some d, .load 37 x, t, p, af, g⟩ x := fun ev w b off v h1 h2 => by go_simp
theorem ld_70 : LoadRun Try.prog ⟨some d, .load 70 x, t, p, af, g⟩ x := fun ev w b off v h1 h2 => by go_simp
theorem ld_75 : LoadRun Try.prog ⟨some d, .load 75 x, t, p, af, g⟩ x := fun ev w b off v h1 h2 => by go_simp
theorem ld_4 : LoadRun Try.prog ⟨some d, .load 4 x, t, p, af, g⟩ x := fun ev w b off v h1 h2 => by go_simp
theorem fa_39_0 : FieldRun Try.prog ⟨some d, .fieldAddr 39 x 0, t, p, af, g⟩ x 0 := fun ev w b off h1 => by go_simp
theorem fa_39_1 : FieldRun Try.prog ⟨some d, .fieldAddr 39 x 1, t, p, af, g⟩ x 1 := fun ev w b off h1 => by go_simp
theorem fa_83_0 : FieldRun Try.prog ⟨some d, .fieldAddr 83 x 0, t, p, af, g⟩ x 0 := fun ev w b off h1 => by go_simp
theorem fa_83_1 : FieldRun Try.prog ⟨some d, .fieldAddr 83 x 1, t, p, af, g⟩ x 2 := fun ev w b off h1 => by go_simp
theorem fa_93_0 : FieldRun Try.prog ⟨some d, .fieldAddr 93 x 0, t, p, af, g⟩ x 0 := fun ev w b off h1 => by go_simp
theorem fa_93_1 : FieldRun Try.prog ⟨some d, .fieldAddr 93 x 1, t, p, af, g⟩ x 2 := fun ev w b off h1 => by go_simp
theorem fa_90_0 : FieldRun Try.prog ⟨some d, .fieldAddr 90 x 0, t, p, af, g⟩ x 0 := fun ev w b off h1 => by go_simp
theorem fa_90_1 : FieldRun Try.prog ⟨some d, .fieldAddr 90 x 1, t, p, af, g⟩ x 1 := fun ev w b off h1 => by go_simp
theorem ia_69_0 : ArrRun Try.prog ⟨some d, .indexAddr 69 x (.const (.int .i64 (0 : Nat))), t, p, af, g⟩ x (0 * 1) := fun ev w b off hc h1 => by
  have h2 := hc (.int .i64 (0 : Nat))
  go_simp
theorem ia_69_1 : ArrRun Try.prog ⟨some d, .indexAddr 69 x (.const (.int .i64 (1 : Nat))), t, p, af, g⟩ x (1 * 1) := fun ev w b off hc h1 => by
  have h2 := hc (.int .i64 (1 : Nat))
  go_simp
theorem ia_74_0 : ArrRun Try.prog ⟨some d, .indexAddr 74 x (.const (.int .i64 (0 : Nat))), t, p, af, g⟩ x (0 * 2) := fun ev w b off hc h1 => by
  have h2 := hc (.int .i64 (0 : Nat))
  go_simp
theorem ia_74_1 : ArrRun Try.prog ⟨some d, .indexAddr 74 x (.const (.int .i64 (1 : Nat))), t, p, af, g⟩ x (1 * 2) := fun ev w b off hc h1 => by
  have h2 := hc (.int .i64 (1 : Nat))
  go_simp
theorem ia_74_2 : ArrRun Try.prog ⟨some d, .indexAddr 74 x (.const (.int .i64 (2 : Nat))), t, p, af, g⟩ x (2 * 2) := fun ev w b off hc h1 => by
  have h2 := hc (.int .i64 (2 : Nat))
  go_simp
theorem ia_74_3 : ArrRun Try.prog ⟨some d, .indexAddr 74 x (.const (.int .i64 (3 : Nat))), t, p, af, g⟩ x (3 * 2) := fun ev w b off hc h1 => by
  have h2 := hc (.int .i64 (3 : Nat))
  go_simp
theorem ia_80_0 : ArrRun Try.prog ⟨some d, .indexAddr 80 x (.const (.int .i64 (0 : Nat))), t, p, af, g⟩ x (0 * 2) := fun ev w b off hc h1 => by
  have h2 := hc (.int .i64 (0 : Nat))
  go_simp
theorem ia_80_1 : ArrRun Try.prog ⟨some d, .indexAddr 80 x (.const (.int .i64 (1 : Nat))), t, p, af, g⟩ x (1 * 2) := fun ev w b off hc h1 => by
  have h2 := hc (.int .i64 (1 : Nat))
  go_simp
theorem ia_92_0 : ArrRun Try.prog ⟨some d, .indexAddr 92 x (.const (.int .i64 (0 : Nat))), t, p, af, g⟩ x (0 * 2) := fun ev w b off hc h1 => by
  have h2 := hc (.int .i64 (0 : Nat))
  go_simp
theorem ia_92_1 : ArrRun Try.prog ⟨some d, .indexAddr 92 x (.const (.int .i64 (1 : Nat))), t, p, af, g⟩ x (1 * 2) := fun ev w b off hc h1 => by
  have h2 := hc (.int .i64 (1 : Nat))
  go_simp
theorem ia_92_2 : ArrRun Try.prog ⟨some d, .indexAddr 92 x (.const (.int .i64 (2 : Nat))), t, p, af, g⟩ x (2 * 2) := fun ev w b off hc h1 => by
  have h2 := hc (.int .i64 (2 : Nat))
  go_simp
theorem ix_37 : IndexRun Try.prog ⟨some d, .indexAddr 37 x x2, t, p, af, g⟩ x x2 2 := fun ev w b off len cap i h1 h2 h3 => by
  have hd : decide ((0 : Int) ≤ i) = true := by simp
  have hd2 : decide ((i : Int) < len) = true := by simp; omega
  go_simp
theorem ix_75 : IndexRun Try.prog ⟨some d, .indexAddr 75 x x2, t, p, af, g⟩ x x2 1 := fun ev w b off len cap i h1 h2 h3 => by
  have hd : decide ((0 : Int) ≤ i) = true := by simp
  have hd2 : decide ((i : Int) < len) = true := by simp; omega
  go_simp
theorem ln_37 : LenRun Try.prog ⟨some d, .call { callee := .builtin .len, args := #[x], argTypes := #[37] }, t, p, af, g⟩ x := fun ev w A len cap h1 => by go_simp
theorem ln_75 : LenRun Try.prog ⟨some d, .call { callee := .builtin .len, args := #[x], argTypes := #[75] }, t, p, af, g⟩ x := fun ev w A len cap h1 => by go_simp
theorem bx_36 : BoxRun Try.prog ⟨some d, .box 36 x, t, p, af, g⟩ x 36 := fun ev w cs h1 => by go_simp
theorem bx_39 : BoxRun Try.prog ⟨some d, .box 39 x, t, p, af, g⟩ x 39 := fun ev w cs h1 => by go_simp
theorem bx_69 : BoxRun Try.prog ⟨some d, .box 69 x, t, p, af, g⟩ x 69 := fun ev w cs h1 => by go_simp
theorem bx_74 : BoxRun Try.prog ⟨some d, .box 74 x, t, p, af, g⟩ x 74 := fun ev w cs h1 => by go_simp
theorem bx_80 : BoxRun Try.prog ⟨some d, .box 80 x, t, p, af, g⟩ x 80 := fun ev w cs h1 => by go_simp
theorem bx_83 : BoxRun Try.prog ⟨some d, .box 83 x, t, p, af, g⟩ x 83 := fun ev w cs h1 => by go_simp
theorem bx_92 : BoxRun Try.prog ⟨some d, .box 92 x, t, p, af, g⟩ x 92 := fun ev w cs h1 => by go_simp
theorem bx_93 : BoxRun Try.prog ⟨some d, .box 93 x, t, p, af, g⟩ x 93 := fun ev w cs h1 => by go_simp
theorem al_39 : AllocRun Try.prog ⟨some d, .alloc 39, t, p, af, none⟩ 39 #[.int .i64 0, .slice none 0 0] := fun ev w => by go_simp
theorem al_83 : AllocRun Try.prog ⟨some d, .alloc 83, t, p, af, none⟩ 83 #[.int .i64 0, .slice none 0 0, .int .i64 0, .slice none 0 0] := fun ev w => by go_simp
theorem al_93 : AllocRun Try.prog ⟨some d, .alloc 93, t, p, af, none⟩ 93 #[.int .i64 0, .slice none 0 0, .int .i64 0, .slice none 0 0] := fun ev w => by go_simp
theorem al_90 : AllocRun Try.prog ⟨some d, .alloc 90, t, p, af, none⟩ 90 #[.int .u32 0, .int .i64 0] := fun ev w => by go_simp
theorem bd_83 : BuildRun2 Try.prog ⟨some d, .build 83 #[(0, x), (1, x2)], t, p, af, g⟩ x x2 2 2 := fun ev w c1 c2 h1 h2 h3 h4 => by
  match c1, c2, h3, h4 with
  | [a0, a1], [b0, b1], _, _ => go_simp
theorem bd_93 : BuildRun2 Try.prog ⟨some d, .build 93 #[(0, x), (1, x2)], t, p, af, g⟩ x x2 2 2 := fun ev w c1 c2 h1 h2 h3 h4 => by
  match c1, c2, h3, h4 with
  | [a0, a1], [b0, b1], _, _ => go_simp
theorem b_eql_4 {a b : Bool} : Run2 Try.prog ⟨some d, .binOp .eql 4 x x2 4, t, p, af, g⟩ x x2 (.bool a) (.bool b) (.bool (a == b)) := fun ev w h1 h2 => by go_simp
theorem b_neq_4 {a b : Bool} : Run2 Try.prog ⟨some d, .binOp .neq 4 x x2 4, t, p, af, g⟩ x x2 (.bool a) (.bool b) (.bool (a != b)) := fun ev w h1 h2 => by go_simp; cases a <;> cases b <;> rfl
theorem b_eql_3 {a b : Int} : Run2 Try.prog ⟨some d, .binOp .eql 3 x x2 3, t, p, af, g⟩ x x2 (.int .i64 a) (.int .i64 b) (.bool (a == b)) := fun ev w h1 h2 => by go_simp
theorem b_neq_3 {a b : Int} : Run2 Try.prog ⟨some d, .binOp .neq 3 x x2 3, t, p, af, g⟩ x x2 (.int .i64 a) (.int .i64 b) (.bool (a != b)) := fun ev w h1 h2 => by go_simp
theorem b_lss_3 {a b : Int} : Run2 Try.prog ⟨some d, .binOp .lss 3 x x2 3, t, p, af, g⟩ x x2 (.int .i64 a) (.int .i64 b) (.bool (decide (a < b))) := fun ev w h1 h2 => by go_simp
theorem b_leq_3 {a b : Int} : Run2 Try.prog ⟨some d, .binOp .leq 3 x x2 3, t, p, af, g⟩ x x2 (.int .i64 a) (.int .i64 b) (.bool (decide (a ≤ b))) := fun ev w h1 h2 => by go_simp
theorem b_gtr_3 {a b : Int} : Run2 Try.prog ⟨some d, .binOp .gtr 3 x x2 3, t, p, af, g⟩ x x2 (.int .i64 a) (.int .i64 b) (.bool (decide (b < a))) := fun ev w h1 h2 => by go_simp
theorem b_geq_3 {a b : Int} : Run2 Try.prog ⟨some d, .binOp .geq 3 x x2 3, t, p, af, g⟩ x x2 (.int .i64 a) (.int .i64 b) (.bool (decide (b ≤ a))) := fun ev w h1 h2 => by go_simp
theorem b_add_3 {a b : Int} : Run2 Try.prog ⟨some d, .binOp .add 3 x x2 3, t, p, af, g⟩ x x2 (.int .i64 a) (.int .i64 b) (.int .i64 (IntKind.i64.wrap (a + b))) := fun ev w h1 h2 => by go_simp
theorem b_sub_3 {a b : Int} : Run2 Try.prog ⟨some d, .binOp .sub 3 x x2 3, t, p, af, g⟩ x x2 (.int .i64 a) (.int .i64 b) (.int .i64 (IntKind.i64.wrap (a - b))) := fun ev w h1 h2 => by go_simp
theorem b_rem_3 {a b : Int} (hb : b ≠ 0) : Run2 Try.prog ⟨some d, .binOp .rem 3 x x2 3, t, p, af, g⟩ x x2 (.int .i64 a) (.int .i64 b) (.int .i64 (a.tmod b)) := fun ev w h1 h2 => by go_simp
theorem b_and_3 {a b : Int} : Run2 Try.prog ⟨some d, .binOp .and 3 x x2 3, t, p, af, g⟩ x x2 (.int .i64 a) (.int .i64 b) (.int .i64 (bits .and .i64 a b)) := fun ev w h1 h2 => by go_simp
theorem b_eql_70 {a b : Int} : Run2 Try.prog ⟨some d, .binOp .eql 70 x x2 70, t, p, af, g⟩ x x2 (.int .u32 a) (.int .u32 b) (.bool (a == b)) := fun ev w h1 h2 => by go_simp
theorem b_neq_70 {a b : Int} : Run2 Try.prog ⟨some d, .binOp .neq 70 x x2 70, t, p, af, g⟩ x x2 (.int .u32 a) (.int .u32 b) (.bool (a != b)) := fun ev w h1 h2 => by go_simp
theorem b_lss_70 {a b : Int} : Run2 Try.prog ⟨some d, .binOp .lss 70 x x2 70, t, p, af, g⟩ x x2 (.int .u32 a) (.int .u32 b) (.bool (decide (a < b))) := fun ev w h1 h2 => by go_simp
theorem b_leq_70 {a b : Int} : Run2 Try.prog ⟨some d, .binOp .leq 70 x x2 70, t, p, af, g⟩ x x2 (.int .u32 a) (.int .u32 b) (.bool (decide (a ≤ b))) := fun ev w h1 h2 => by go_simp
theorem b_gtr_70 {a b : Int} : Run2 Try.prog ⟨some d, .binOp .gtr 70 x x2 70, t, p, af, g⟩ x x2 (.int .u32 a) (.int .u32 b) (.bool (decide (b < a))) := fun ev w h1 h2 => by go_simp
theorem b_geq_70 {a b : Int} : Run2 Try.prog ⟨some d, .binOp .geq 70 x x2 70, t, p, af, g⟩ x x2 (.int .u32 a) (.int .u32 b) (.bool (decide (b ≤ a))) := fun ev w h1 h2 => by go_simp
theorem b_add_70 {a b : Int} : Run2 Try.prog ⟨some d, .binOp .add 70 x x2 70, t, p, af, g⟩ x x2 (.int .u32 a) (.int .u32 b) (.int .u32 (IntKind.u32.wrap (a + b))) := fun ev w h1 h2 => by go_simp
theorem b_and_70 {a b : Int} : Run2 Try.prog ⟨some d, .binOp .and 70 x x2 70, t, p, af, g⟩ x x2 (.int .u32 a) (.int .u32 b) (.int .u32 (bits .and .u32 a b)) := fun ev w h1 h2 => by go_simp
theorem cv_3_70 {a : Int} : Run1 Try.prog ⟨some d, .convert 3 70 x, t, p, af, g⟩ x (.int .i64 a) (.int .u32 (IntKind.u32.wrap a)) := fun ev w h1 => by go_simp
theorem inc_3 {i : Nat} (h : i + 1 < 9223372036854775808) : Run2 Try.prog ⟨some d, .binOp .add 3 x x2 3, t, p, af, g⟩ x x2 (.int .i64 i) (.int .i64 1) (.int .i64 ((i + 1 : Nat) : Int)) := fun ev w h1 h2 => by rw [← wrap_inc h]; exact b_add_3 ev w h1 h2
theorem fo_39_1 : FieldOf1 Try.prog ⟨some d, .field 39 x 1, t, p, af, g⟩ x 1 2 := fun ev w c1 c3 v h1 h2 h3 => by
  match c1, c3, h2, h3 with
  | [a], [], _, _ =>
    have e : (Instr.field 39 (.agg #[a, v]) 1).run Try.prog w = .ok v w := by kernel_rfl
    go_simp
theorem incu_70 {i : Nat} (h : i + 2 < 4294967296) : Run2 Try.prog ⟨some d, .binOp .add 70 x x2 70, t, p, af, g⟩ x x2 (.int .u32 ((i : Int) + 1)) (.int .u32 1) (.int .u32 (((i + 1 : Nat) : Int) + 1)) := fun ev w h1 h2 => by
  rw [show (((i + 1 : Nat) : Int) + 1) = IntKind.u32.wrap (((i : Int) + 1) + 1) by rw [IntKind.wrap_u32]; omega]; exact b_add_70 ev w h1 h2
end
end Go.Proofs.Ytihddficgpjgpaa.Y
