/- Rows of bytes: what two of them are against one another; a number put behind one. -/
import Derived.Test.YtihddficgpjgpaaZReads
import Derived.Test.YtihddficgpjgpaaZOpen
import Derived.Test.YtihddficgpjgpaaZBits
import Derived.Laws.BytesString
import Derived.Laws.IdiomStrings
import Derived.Outline
import Derived.BigQuiet
import Derived.BigRegion
import Derived.WalkSpells
import Derived.WalkLawsBesides
import Derived.Deep.LoopGhost
import Derived.RangeFuncBox
namespace Go.Proofs.Ytihddficgpjgpaa
open Go.RowKit Go.ChangeShapes Go.WideShapes
theorem own_slice {w : World} {B e size n : Nat} {v : Value} {xs : List Value} (h : w.ownsRow B e size v n xs) : ∃ A c, v = .slice A n c := by
  rcases h.2 with ⟨rfl, rfl⟩ | ⟨g, cap, cur, rfl, _⟩
  · exact ⟨none, 0, rfl⟩
  · exact ⟨_, _, rfl⟩
theorem own_base {w : World} {base : Nat} {e : TypeId} {size n b : Nat} {v : Value} {xs : List Value} (h : w.ownsRow base e size v n xs) (hb : v.ownBlock = some b) : base ≤ b := by
  rcases h.2 with ⟨rfl, _⟩ | ⟨g', cap, cur, rfl, hB, _⟩
  · simp [Value.ownBlock] at hb
  · simp [Value.ownBlock] at hb; omega
theorem own_ints {k : IntKind} {w : World} {B : Nat} {e : TypeId} {q : List Int} {A : Option Addr} {c : Nat} (h : w.ownsRow B e 1 (.slice A q.length c) q.length (q.map (Value.int k))) : IntsAt k w w.heap.size A q := fun hq => by
  obtain ⟨g', cur, rfl, hb, hB, h1, h2, h3, h4⟩ := own_blk h hq
  refine ⟨g', 0, rfl, hB.lt, fun i hi => ?_⟩
  refine (hB.cell _).trans ?_
  have : (q.map (Value.int k))[i]? = some (.int k q[i]) := by simp [hi]
  rw [← h4, List.getElem?_take, if_pos (by omega)] at this
  rw [Nat.zero_add, ← this]; simp
theorem own_cap {w : World} {B : Nat} {e : TypeId} {n size : Nat} {xs : List Value} {A : Option Addr} {c : Nat} (h : w.ownsRow B e size (.slice A n c) n xs) : n ≤ c := by
  rcases Nat.eq_zero_or_pos n with h0 | h0
  · omega
  · obtain ⟨_, _, _, _, _, h, _⟩ := own_blk h h0; exact h
/-- A byte. -/
def b8 (x : Int) : UInt8 := UInt8.ofNat x.toNat
end Go.Proofs.Ytihddficgpjgpaa
