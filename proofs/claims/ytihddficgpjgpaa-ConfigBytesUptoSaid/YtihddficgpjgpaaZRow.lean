/- Rows of cells in memory of the call's own: what a run of stores leaves of a block that is known whole; clear and append within a row. No program in sight. -/
import Derived.Test.YtihddficgpjgpaaZOpen
import Derived.Laws.IdiomCopy
import Derived.Lib.SliceRun
import Derived.Deep.RegionLaw
import Derived.Maps.AppendAt
import Derived.RangeFuncBox
namespace Go.Proofs.Ytihddficgpjgpaa
open Go.RowKit
def over (cs : Array Value) (o : Nat) (vs : List Value) : Array Value := (cs.toList.take o ++ vs ++ cs.toList.drop (o + vs.length)).toArray
theorem over_list (cs : Array Value) (o : Nat) (vs : List Value) : (over cs o vs).toList = cs.toList.take o ++ vs ++ cs.toList.drop (o + vs.length) := by simp [over]
theorem over_nil (cs : Array Value) (o : Nat) : over cs o [] = cs := by simp [over]
theorem over_cons (cs : Array Value) (o : Nat) (v : Value) (vs : List Value) (h : o + (vs.length + 1) ≤ cs.size) : over (cs.setIfInBounds o v) (o + 1) vs = over cs o (v :: vs) := by
  apply Array.toList_inj.1
  rw [over_list, over_list]
  obtain ⟨l⟩ := cs
  simp only [List.size_toArray] at h
  simp only [List.setIfInBounds_toArray]
  rw [List.take_set, List.drop_set_of_lt (by omega), List.take_succ_eq_append_getElem (by omega), List.set_append_right _ _ (by simp; omega)]
  simp only [List.length_take, show o - min o l.length = 0 by omega, List.set_cons_zero, List.length_cons]
  rw [show o + (vs.length + 1) = o + 1 + vs.length by omega]
  simp
theorem Blk.setCells {w : World} {g : Nat} {t : TypeId} : ∀ (vs : List Value) {cs : Array Value} (o : Nat), Blk w g t cs → o + vs.length ≤ cs.size → Blk (w.setCells g o vs) g t (over cs o vs) := by
  intro vs
  induction vs generalizing w with
  | nil => intro cs o h _; rw [over_nil]; exact h
  | cons v vs ih =>
    intro cs o h hl
    simp only [List.length_cons] at hl
    have := ih (o + 1) (h.set_ o v) (by simp; omega)
    rwa [over_cons cs o v vs hl] at this
theorem only_setCells {a : World} {g : Nat} : ∀ (vs : List Value) (o : Nat) {w : World}, a.grownBy w (some g) → a.grownBy (w.setCells g o vs) (some g)
  | [], _, _, h => h
  | v :: vs, o, _, h => only_setCells vs (o + 1) (only_setCell h (.inl rfl) v)
/-- The cells of a slice of the call's own, its row known whole. -/
theorem own_blk {w : World} {base : Nat} {e : TypeId} {size : Nat} {A : Option Addr} {n c : Nat} {xs : List Value} (h : w.ownsRow base e size (.slice A n c) n xs) (hn : 0 < n) :
    ∃ g cur, A = some ⟨g, 0, none⟩ ∧ base ≤ g ∧ Blk w g e cur ∧ n ≤ c ∧ c ≤ maxLen ∧ cur.size = c * size ∧ cur.toList.take (n * size) = xs := by
  rcases h.2 with ⟨h0, h1⟩ | ⟨g, cap, cur, hv, hb, hg, h1, h2, h3, h4⟩
  · omega
  · injection hv with h5 h6 h7
    subst h7
    exact ⟨g, cur, h5, hb, hg, h1, h2, h3, h4⟩
end Go.Proofs.Ytihddficgpjgpaa
