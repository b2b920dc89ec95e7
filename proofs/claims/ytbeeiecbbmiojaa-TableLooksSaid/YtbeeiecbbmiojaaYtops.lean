/- Ytops: the operations on tables -/
import Derived.Test.YtbeeiecbbmiojaaYtp
import Derived.Test.YtbeeiecbbmiojaaYops
namespace Go.Proofs.Ytbeeiecbbmiojaa.Y
open Go.RowKit Go.ChangeShapes Go.WideShapes Go.ChangeAt Go.ChangeMaps Go.MapKept

def RunC (P : Program) (o : Oper) (x : Operand) (v r : Value) : Prop := ∀ (ev : Operand → Value) (w : World), (∀ v, ev (.const v) = v) → ev x = v → (execOp ev o).run P w = .ok (.value r) w
section
variable {d : Nat} {t : TypeId} {p : String} {af : Array Edge} {g : Option (Nat × Bool)} {x x2 : Operand}
theorem fa_48_1 : FieldRun Try.prog ⟨some d, .fieldAddr 48 x 1, t, p, af, g⟩ x 2 := fun ev w b off h1 => by go_simp
theorem fa_48_2 : FieldRun Try.prog ⟨some d, .fieldAddr 48 x 2, t, p, af, g⟩ x 3 := fun ev w b off h1 => by go_simp
theorem fa_48_4 : FieldRun Try.prog ⟨some d, .fieldAddr 48 x 4, t, p, af, g⟩ x 6 := fun ev w b off h1 => by go_simp
theorem fa_48_9 : FieldRun Try.prog ⟨some d, .fieldAddr 48 x 9, t, p, af, g⟩ x 15 := fun ev w b off h1 => by go_simp
theorem fa_48_13 : FieldRun Try.prog ⟨some d, .fieldAddr 48 x 13, t, p, af, g⟩ x 19 := fun ev w b off h1 => by go_simp
theorem fa_104_0 : FieldRun Try.prog ⟨some d, .fieldAddr 104 x 0, t, p, af, g⟩ x 0 := fun ev w b off h1 => by go_simp
theorem fa_66_4 : FieldRun Try.prog ⟨some d, .fieldAddr 66 x 4, t, p, af, g⟩ x 21 := fun ev w b off h1 => by go_simp
theorem ld_27 : LoadRun Try.prog ⟨some d, .load 27 x, t, p, af, g⟩ x := fun ev w b off v h1 h2 => by go_simp
theorem ld_29 : LoadRun Try.prog ⟨some d, .load 29 x, t, p, af, g⟩ x := fun ev w b off v h1 h2 => by go_simp
theorem ld_42 : LoadRun Try.prog ⟨some d, .load 42 x, t, p, af, g⟩ x := fun ev w b off v h1 h2 => by go_simp
theorem ld_102 : LoadRun Try.prog ⟨some d, .load 102 x, t, p, af, g⟩ x := fun ev w b off v h1 h2 => by go_simp
theorem b_eqP {r : Option Nat} : Run2 Try.prog ⟨some d, .binOp .eql 27 x x2 27, t, p, af, g⟩ x x2 (optP r) (.pointer none) (.bool r.isNone) := fun ev w h1 h2 => by cases r <;> (simp only [optP] at h1; go_simp)
theorem b_neP {r : Option Nat} : Run2 Try.prog ⟨some d, .binOp .neq 27 x x2 27, t, p, af, g⟩ x x2 (optP r) (.pointer none) (.bool r.isSome) := fun ev w h1 h2 => by cases r <;> (simp only [optP] at h1; go_simp)
theorem ln_49 : LenRun Try.prog ⟨some d, .call { callee := .builtin .len, args := #[x], argTypes := #[49] }, t, p, af, g⟩ x := fun ev w A len cap h1 => by go_simp
theorem bd_104 {m : Nat} : Run1 Try.prog ⟨some d, .build 104 #[(0, x)], t, p, af, g⟩ x (.map (some m)) (.agg #[.map (some m)]) := fun ev w h1 => by go_simp
theorem bd_48a {n k : Int} : DoneRun Try.prog ⟨some d, .build 48 #[(1, .const (.int .u64 n)), (2, .const (.int .i64 k))], t, p, af, g⟩ (.agg #[.slice none 0 0, .int .u64 0, .int .u64 n, .int .i64 k, .int .i64 0, .slice none 0 0, .int .u64 0, .int .u64 0, .int .i64 0, .int .i64 0, .int .i64 0, .int .i64 0, .int .u64 0, .int .u64 0, .int .u64 0, .slice none 0 0, .slice none 0 0, .int .u64 0, .slice none 0 0, nilP, .int .i64 0, .slice none 0 0, .int .u64 0, .int .u64 0, .slice none 0 0, .slice none 0 0, .slice none 0 0, .slice none 0 0, .slice none 0 0, .slice none 0 0, .slice none 0 0, .slice none 0 0, .int .i64 0, .int .i64 0, .int .i64 0, .slice none 0 0]) := fun ev w h => by go_simp
theorem bd_48b {n k h : Int} : RunC Try.prog ⟨some d, .build 48 #[(1, x), (2, .const (.int .i64 k)), (4, .const (.int .u64 h))], t, p, af, g⟩ x (.int .u64 n) (.agg #[.slice none 0 0, .int .u64 0, .int .u64 n, .int .i64 k, .int .i64 0, .slice none 0 0, .int .u64 h, .int .u64 0, .int .i64 0, .int .i64 0, .int .i64 0, .int .i64 0, .int .u64 0, .int .u64 0, .int .u64 0, .slice none 0 0, .slice none 0 0, .int .u64 0, .slice none 0 0, nilP, .int .i64 0, .slice none 0 0, .int .u64 0, .int .u64 0, .slice none 0 0, .slice none 0 0, .slice none 0 0, .slice none 0 0, .slice none 0 0, .slice none 0 0, .slice none 0 0, .slice none 0 0, .int .i64 0, .int .i64 0, .int .i64 0, .slice none 0 0]) := fun ev w hc h1 => by go_simp
end
section
variable {U : Prop} {ops : Array Oper} {Q : Exit → Act → World → Prop} {N d : Nat} {e : Env} {t : TypeId} {p : String} {af : Array Edge} {g : Option (Nat × Bool)} {c : Bool} {x x2 : Operand}
theorem p_run1 {op : Op} {v r : Value} (hx : OpdE e c x (.val v)) (hr : Run1 Try.prog ⟨some d, op, t, p, af, g⟩ x v r) (hs : ∀ s ∈ slotsOf x, s ∈ op.operands.toList.flatMap slotsOf) (hg : GdE ops e g c) : Pays U Try.prog ops Q N e ⟨some d, op, t, p, af, g⟩ (c, .val r) :=
  pVal hg fun e a w F hk => ⟨r, hr _ w (hx a w F (fun s h => hk s (hs s h)) e), rfl⟩
theorem p_runC {op : Op} {v r : Value} (hx : OpdE e c x (.val v)) (hr : RunC Try.prog ⟨some d, op, t, p, af, g⟩ x v r) (hs : ∀ s ∈ slotsOf x, s ∈ op.operands.toList.flatMap slotsOf) (hg : GdE ops e g c) : Pays U Try.prog ops Q N e ⟨some d, op, t, p, af, g⟩ (c, .val r) :=
  pVal hg fun e a w F hk => ⟨r, hr _ w (fun _ => rfl) (hx a w F (fun s h => hk s (hs s h)) e), rfl⟩
end
theorem Try.underlying102 : Try.prog.underlying 102 = some (.map 28 27) := by kernel_rfl
theorem Try.underlying28 : Try.prog.underlying 28 = some (.int .u64) := by kernel_rfl
theorem zero27 (w : World) : (zeroValue 27).run Try.prog w = .ok (.pointer none) w := by go_simp
theorem tab_look (t : Tab) (n : Int) : (t.vals.lookup n).getD (.pointer none) = optP (t.tm.lookup n) := by
  rw [t.look]
  cases t.tm.lookup n <;> rfl
theorem at_tab {w : World} {B gT gM : Nat} {t : Tab} {kv : Nat → Value} (h : TabAt w B gT gM t kv) {v : Value} (hv : v = ptrV gT) : (Sym.tab gT gM 104 t.vals).on w noF v := ⟨hv, h.tb, h.mp, fun _ h => h, fun _ h => h⟩
theorem at_obj {w : World} {g : Nat} {T : TypeId} {cs : Array Value} (h : Blk w g T cs) {v : Value} (hv : v = ptrV g) : (Sym.bp g T cs 0).on w noF v := ⟨hv, h, fun _ h => h⟩
theorem bx_104 {d : Nat} {t : TypeId} {p : String} {af : Array Edge} {g : Option (Nat × Bool)} {x : Operand} : BoxRun Try.prog ⟨some d, .box 104 x, t, p, af, g⟩ x 104 := fun ev w cs h1 => by go_simp
theorem bx_48 {d : Nat} {t : TypeId} {p : String} {af : Array Edge} {g : Option (Nat × Bool)} {x : Operand} : BoxRun Try.prog ⟨some d, .box 48 x, t, p, af, g⟩ x 48 := fun ev w cs h1 => by go_simp
theorem vals_len (t : Tab) : t.vals.length = t.tm.length := List.length_map _

end Go.Proofs.Ytbeeiecbbmiojaa.Y
