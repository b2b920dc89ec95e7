/- What a caller hands to the laws on labels and rules: seeds, rows of seeds, labels, pairs of numbers. -/
import Derived.Test.YtihddficgpjgpaaYrules
import Derived.Test.YtihddficgpjgpaaYright
import Derived.Test.YtihddficgpjgpaaHead
import Derived.Test.YtihddficgpjgpaaRow
namespace Go.Proofs.Ytihddficgpjgpaa.Y
open Go.RowKit Go.ChangeShapes Go.WideShapes

theorem opens_ints : Opens Try.prog 34 (Lay.sl (Lay.int .i64)) (fun l => l.length ≤ maxLen ∧ ∀ x ∈ l, (Lit.int .i64 x).wf = true) := opens_slice ⟨0⟩ Try.underlying34 (by kernel_rfl) (by decide) (opens_int Try.underlying3)
theorem opens_seed : Opens Try.prog 36 sdL (fun _ => True) := fun enc w fuel cs d ps h hlt => by
  obtain ⟨⟨D, L⟩, ⟨_, h1, _⟩, h2⟩ := opens_struct (L := seedL0) (fs := [_, _]) Try.underlying36 (by kernel_rfl) (fs_cons rfl (by kernel_rfl) (opens_int Try.underlying3) (fs_last rfl (by kernel_rfl) opens_ints)) enc w fuel cs d ps h hlt
  exact ⟨seedL D L, True.intro, D, L, rfl, Nat.le_trans h1 (by unfold maxLen; omega), h2⟩
theorem opens_seeds4 : Opens Try.prog 74 (Lay.arr sdL 4) (fun _ => True) := opens_mono (fun _ _ => True.intro) (opens_arr Try.underlying74 (by kernel_rfl) (by kernel_rfl) opens_seed)
theorem opens_seeds2 : Opens Try.prog 80 (Lay.arr sdL 2) (fun _ => True) := opens_mono (fun _ _ => True.intro) (opens_arr Try.underlying80 (by kernel_rfl) (by kernel_rfl) opens_seed)
theorem opens_seeds3 : Opens Try.prog 92 (Lay.arr sdL 3) (fun _ => True) := opens_mono (fun _ _ => True.intro) (opens_arr Try.underlying92 (by kernel_rfl) (by kernel_rfl) opens_seed)
theorem opens_int2 : Opens Try.prog 69 (Lay.arr (Lay.int .i64) 2) (fun l => ∀ x ∈ l, (Lit.int .i64 x).wf = true) := opens_arr Try.underlying69 (by kernel_rfl) (by kernel_rfl) (opens_int Try.underlying3)
theorem opens_pairs : Opens Try.prog 37 (Lay.sl pairL) (fun l => l.length ≤ maxLen) := opens_mono (fun _ h => h.1) (opens_slice ⟨(0, 0)⟩ Try.underlying37 (by kernel_rfl) (by decide) (opens_struct (L := pairL) (ok := fun _ => True) (fs := [_, _]) Try.underlying90 (by kernel_rfl) (fun enc w n cs xs a b c d => by
  obtain ⟨x, _, h⟩ := fs_cons (B := Lay.int .i64) rfl (by kernel_rfl) (opens_int Try.underlying70) (fs_last rfl (by kernel_rfl) (opens_int Try.underlying3)) enc w n cs xs a b c d
  exact ⟨x, True.intro, h⟩)))
theorem opens_raw : Opens Try.prog 39 rawL (fun l => l.ps.length ≤ maxLen) := opens_via (fun x => ⟨x.1, x.2⟩) (fun _ => rfl) (fun _ h => h.2) (opens_struct (fs := [_, _]) Try.underlying39 (by kernel_rfl) (fs_cons rfl (by kernel_rfl) (opens_int Try.underlying3) (fs_last rfl (by kernel_rfl) opens_pairs)))
theorem arr4 {w : World} {F : Cell → Prop} {v : Value} {l : List Lab} (h : (Sym.st (Lay.arr sdL 4) l).on w F v) : ∃ a b c d, l = [a, b, c, d] ∧ Fine a ∧ Fine b ∧ Fine c ∧ Fine d := by
  obtain ⟨cs, _, h1, h2⟩ := h
  match l, h1 with
  | [a, b, c, d], _ =>
    obtain ⟨_, _, _, ha, _, _, _, hb, _, _, _, hc, _, _, _, hd, _⟩ := h2
    exact ⟨a, b, c, d, rfl, sd_fine ha, sd_fine hb, sd_fine hc, sd_fine hd⟩
theorem arr3 {w : World} {F : Cell → Prop} {v : Value} {l : List Lab} (h : (Sym.st (Lay.arr sdL 3) l).on w F v) : ∃ a b c, l = [a, b, c] ∧ Fine a ∧ Fine b ∧ Fine c := by
  obtain ⟨cs, _, h1, h2⟩ := h
  match l, h1 with
  | [a, b, c], _ =>
    obtain ⟨_, _, _, ha, _, _, _, hb, _, _, _, hc, _⟩ := h2
    exact ⟨a, b, c, rfl, sd_fine ha, sd_fine hb, sd_fine hc⟩
theorem arr2 {w : World} {F : Cell → Prop} {v : Value} {l : List Lab} (h : (Sym.st (Lay.arr sdL 2) l).on w F v) : ∃ a b, l = [a, b] ∧ Fine a ∧ Fine b := by
  obtain ⟨cs, _, h1, h2⟩ := h
  match l, h1 with
  | [a, b], _ =>
    obtain ⟨_, _, _, ha, _, _, _, hb, _⟩ := h2
    exact ⟨a, b, rfl, sd_fine ha, sd_fine hb⟩
end Go.Proofs.Ytihddficgpjgpaa.Y
