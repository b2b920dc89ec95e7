/- Rows of cells in memory of the call's own: what a run of stores leaves of a block that is known whole; clear and append within a row. No program in sight. -/
import Derived.Test.YtbeeiecbbmiojaaOpen
import Derived.Laws.IdiomCopy
import Derived.Lib.SliceRun
import Derived.Deep.RegionLaw
import Derived.Maps.AppendAt
import Derived.RangeFuncBox
namespace Go.Proofs.Ytbeeiecbbmiojaa
open Go.RowKit

def over (cs : Array Value) (o : Nat) (vs : List Value) : Array Value := (cs.toList.take o ++ vs ++ cs.toList.drop (o + vs.length)).toArray

theorem over_size (cs : Array Value) (o : Nat) (vs : List Value) (h : o + vs.length ≤ cs.size) : (over cs o vs).size = cs.size := by
  simp [over]; omega
theorem over_list (cs : Array Value) (o : Nat) (vs : List Value) : (over cs o vs).toList = cs.toList.take o ++ vs ++ cs.toList.drop (o + vs.length) := by simp [over]
theorem over_nil (cs : Array Value) (o : Nat) : over cs o [] = cs := by simp [over]

theorem over_cons (cs : Array Value) (o : Nat) (v : Value) (vs : List Value) (h : o + (vs.length + 1) ≤ cs.size) : over (cs.setIfInBounds o v) (o + 1) vs = over cs o (v :: vs) := by
  apply Array.toList_inj.1
  rw [over_list, over_list]
  obtain ⟨l⟩ := cs
  simp only [List.size_toArray] at h
  simp only [List.setIfInBounds_toArray]
  rw [List.take_set, List.drop_set_of_lt (by omega), List.take_succ_eq_append_getElem (by omega), List.set_append_right _ _ (by simp; omega)]
  simp only [List.length_take, show o - min o l.length = 0 by omega, List.set_cons_zero, List.length_cons]
  rw [show o + (vs.length + 1) = o + 1 + vs.length by omega]
  simp

theorem Blk.setCells {w : World} {g : Nat} {t : TypeId} : ∀ (vs : List Value) {cs : Array Value} (o : Nat), Blk w g t cs → o + vs.length ≤ cs.size → Blk (w.setCells g o vs) g t (over cs o vs) := by
  intro vs
  induction vs generalizing w with
  | nil => intro cs o h _; rw [over_nil]; exact h
  | cons v vs ih =>
    intro cs o h hl
    simp only [List.length_cons] at hl
    have := ih (o + 1) (h.set_ o v) (by simp; omega)
    rwa [over_cons cs o v vs hl] at this

theorem only_setCells {a : World} {g : Nat} : ∀ (vs : List Value) (o : Nat) {w : World}, a.grownBy w (some g) → a.grownBy (w.setCells g o vs) (some g)
  | [], _, _, h => h
  | v :: vs, o, _, h => only_setCells vs (o + 1) (only_setCell h (.inl rfl) v)

theorem setCells_drew (g : Nat) : ∀ (vs : List Value) (o : Nat) (w : World), w.drew.setCells g o vs = (w.setCells g o vs).drew
  | [], _, _ => rfl
  | v :: vs, o, w => setCells_drew g vs (o + 1) (w.setCell ⟨g, o, none⟩ v)

section
variable {P : Program} (w : World)
/-- 'clear(s)', s a slice of n > 0 elements of whatever cells: each cell holds the zero value's. -/
theorem run_clear_rows (t e ty : TypeId) (z : Value) (ht : P.underlying t = some (.slice e)) (hv : ∀ w, (zeroValue e).run P w = .ok z w) (b o n c : Nat) (h1 : ∀ u ∈ (Builtin.zeroCells z.cells n).toList, u.oneCell' = true) (hn : 0 < n)
    (hc : ∀ j, j < (Builtin.zeroCells z.cells n).toList.length → (w.cell? ⟨b, o + j, none⟩).isSome = true) (hf : ∀ j, j < (Builtin.zeroCells z.cells n).toList.length → w.frozen? ⟨b, o + j, none⟩ = false) :
    (Builtin.clear_ #[t] ty #[.slice (some ⟨b, o, none⟩) n c]).run P w = .ok (.tuple #[]) (w.setCells b o (Builtin.zeroCells z.cells n).toList) := by
  have hst := run_storeCells_cells (P := P) b o (Builtin.zeroCells z.cells n).toList 0 w (by simpa using hc) (by simpa using hf) h1
  simp only [Nat.add_zero] at hst
  obtain ⟨m, rfl⟩ : ∃ m, n = m + 1 := ⟨n - 1, by omega⟩
  simp [Builtin.clear_, run_underlying ht, hv, hst]
end

/-- The cells of a slice of the call's own, its row known whole. -/
theorem own_blk {w : World} {base : Nat} {e : TypeId} {size : Nat} {A : Option Addr} {n c : Nat} {xs : List Value} (h : w.ownsRow base e size (.slice A n c) n xs) (hn : 0 < n) :
    ∃ g cur, A = some ⟨g, 0, none⟩ ∧ base ≤ g ∧ Blk w g e cur ∧ n ≤ c ∧ c ≤ maxLen ∧ cur.size = c * size ∧ cur.toList.take (n * size) = xs := by
  rcases h.2 with ⟨h0, h1⟩ | ⟨g, cap, cur, hv, hb, hg, h1, h2, h3, h4⟩
  · omega
  · injection hv with h5 h6 h7
    subst h7
    exact ⟨g, cur, h5, hb, hg, h1, h2, h3, h4⟩
theorem own_of_blk {w : World} {base g : Nat} {e : TypeId} {size n c : Nat} {cur : Array Value} {xs : List Value} (hb : Blk w g e cur) (hg : base ≤ g) (hn : n ≤ c) (hc : c ≤ maxLen) (hs : cur.size = c * size)
    (hx : cur.toList.take (n * size) = xs) : w.ownsRow base e size (.slice (some ⟨g, 0, none⟩) n c) n xs := by
  refine ⟨?_, .inr ⟨g, c, cur, rfl, hg, hb, hn, hc, hs, hx⟩⟩
  rw [← hx, List.length_take, Array.length_toList, hs]
  exact Nat.min_eq_left (Nat.mul_le_mul_right _ hn)

end Go.Proofs.Ytbeeiecbbmiojaa
