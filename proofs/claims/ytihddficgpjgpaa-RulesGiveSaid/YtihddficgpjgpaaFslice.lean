/- Slices of categories, by what is known of them: their length, their elements. -/
import Derived.Test.YtihddficgpjgpaaFops
namespace Go.Proofs.Ytihddficgpjgpaa
open Go.RowKit

def Sym.u32s (l : List Int) : Sym := ⟨fun w v => ∃ A c, v = .slice A l.length c ∧ IntsAt .u32 w w.heap.size A l, by
  rintro w w' v ⟨A, c, h1, h2⟩ hb
  exact ⟨A, c, h1, (h2.below hb).more hb.size⟩⟩
def Sym.u32at (n : Int) : Sym := ⟨fun w v => ∃ b o, v = .pointer (some ⟨b, o, none⟩) ∧ b < w.heap.size ∧ w.cell? ⟨b, o, none⟩ = some (.int .u32 n), by
  rintro w w' v ⟨b, o, h1, h2, h3⟩ hb
  exact ⟨b, o, h1, Nat.lt_of_lt_of_le h2 hb.size, (hb.cell (p := ⟨b, o, none⟩) h2).trans h3⟩⟩
theorem own_u32s {w : World} {B : Nat} {v : Value} {l : List Int} (h : w.ownsRow B 70 1 v l.length (u32s l)) : (Sym.u32s l).on w v := by
  obtain ⟨A, c, rfl⟩ := own_slice h
  refine ⟨A, c, rfl, fun hl => ?_⟩
  obtain ⟨g, cur, rfl, hb, hB, h1, h2, h3, h4⟩ := own_blk h hl
  refine ⟨g, 0, rfl, hB.lt, fun i hi => ?_⟩
  have e : (u32s l)[i]? = some (.int .u32 l[i]) := by simp [u32s, hi]
  rw [← h4, List.getElem?_take, if_pos (by omega)] at e
  refine (hB.cell _).trans ?_
  rw [Nat.zero_add, ← e]; simp
section
variable {a : Lab} {m : Nat}
theorem c56 (ha : OKL a m) (hl : m ≤ 100000) (w : World) (v1 : Value) (h1 : (Sym.lab a).on w v1) : Calls Try.prog 56 #[v1] w fun e w' => ∃ v, e = .returned v ∧ (Sym.u32s (ownsL a)).on w' v ∧ Below w.heap.size w w' :=
  (owns_any v1 a w (on_lab h1) (by have := ha.len; omega)).mono fun _ _ ⟨v, h1, h2, h3⟩ => ⟨v, h1, own_u32s h2, h3⟩
theorem c80 (ha : OKL a m) (hl : m ≤ 100000) (w : World) (v1 : Value) (h1 : (Sym.lab a).on w v1) : Calls Try.prog 80 #[v1] w fun e w' => ∃ v, e = .returned v ∧ (Sym.u32s (ownsL a)).on w' v ∧ Below w.heap.size w w' :=
  (rowns_any v1 a w (on_lab h1) (by have := ha.len; omega)).mono fun _ _ ⟨v, h1, h2, h3⟩ => ⟨v, h1, own_u32s h2, h3⟩
end
section
variable {ops : Array Oper} {Q : Exit → Act → World → Prop} {K : Nat → Bool × Sym} {N : Nat} {d : Nat} {t : TypeId} {p : String} {af : Array Edge} {g : Option (Nat × Bool)} {c : Bool} {x x2 : Operand}
theorem ok_len {l : List Int} (hK : K d = (c, .int l.length)) (hg : Gd ops K g c) (hx : Opd K c x (.u32s l)) : OpOK Try.prog ops Q K N ⟨some d, .call { callee := .builtin .len, args := #[x], argTypes := #[75] }, t, p, af, g⟩ :=
  okVal hK hg rfl fun e a w hk => by
    obtain ⟨A, cp, h1, h2⟩ := hx a w (fun s hs => hk s (by simp [Op.operands, Call.operands, hs])) e
    refine ⟨_, ?_, rfl⟩
    have hv : a.eval x = .slice A l.length cp := h1
    clear h1
    generalize a.eval = r at hv ⊢
    go_simp
theorem ok_index {l : List Int} {i : Nat} {n : Int} (hK : K d = (c, .u32at n)) (hg : Gd ops K g c) (hx : Opd K c x (.u32s l)) (hx2 : Opd K c x2 (.int i)) (hn : l[i]? = some n) (hl : l.length ≤ 100000) : OpOK Try.prog ops Q K N ⟨some d, .indexAddr 75 x x2, t, p, af, g⟩ :=
  okVal hK hg rfl fun e a w hk => by
    obtain ⟨A, cp, h1, h2⟩ := hx a w (fun s hs => hk s (by simp [Op.operands, hs])) e
    have h3 : a.eval x2 = .int .i64 i := hx2 a w (fun s hs => hk s (by simp [Op.operands, hs])) e
    obtain ⟨hi, rfl⟩ := List.getElem?_eq_some_iff.1 hn
    obtain ⟨b, off, rfl, hb, hc⟩ := h2 (by omega)
    refine ⟨.pointer (some ⟨b, off + i, none⟩), ?_, b, off + i, rfl, hb, hc i hi⟩
    have hv : a.eval x = .slice (some ⟨b, off, none⟩) l.length cp := h1
    have hd : decide ((0 : Int) ≤ i) = true := by simp
    have hd2 : decide ((i : Int) < l.length) = true := by simp; omega
    clear h1
    generalize a.eval = r at hv h3 ⊢
    go_simp
theorem ok_loadU {n : Int} (hK : K d = (c, .u32 n)) (hg : Gd ops K g c) (hx : Opd K c x (.u32at n)) : OpOK Try.prog ops Q K N ⟨some d, .load 70 x, t, p, af, g⟩ :=
  okVal hK hg rfl fun e a w hk => by
    obtain ⟨b, o, h1, h2, h3⟩ := hx a w (fun s hs => hk s (by simp [Op.operands, hs])) e
    refine ⟨_, ?_, rfl⟩
    have hv : a.eval x = .pointer (some ⟨b, o, none⟩) := h1
    clear h1
    generalize a.eval = r at hv ⊢
    go_simp
end
end Go.Proofs.Ytihddficgpjgpaa
