/- MLab: Find, Ins, Del, With, one behind the other. -/
import Derived.Test.YtihddficgpjgpaaZMTop
import Derived.Test.YtihddficgpjgpaaZRow
import Derived.Test.YtihddficgpjgpaaZReads
import Derived.Lib.AppendZerosOnto
import Derived.Lib.Overlaps
import Derived.Laws.Externs
import Derived.Laws.NewBlocks
import Derived.Laws.IdiomCopy
import Derived.Lib.JoinLaws
import Derived.Deep.RegionHeld3
import Derived.Deep.DeepCutAuto
import Derived.Deep.CutBlock
namespace Go.Proofs.Ytihddficgpjgpaa
open Go.RowKit Go.ChangeShapes Go.WideShapes Go.Shelf
theorem own_below {w w' : World} {B n size : Nat} {e : TypeId} {v : Value} {xs : List Value} (h : w.ownsRow B e size v n xs) (hb : Below w.heap.size w w') : w'.ownsRow B e size v n xs := by
  refine ⟨h.1, ?_⟩
  rcases h.2 with h1 | ⟨g', cap, cur, h0, h1, h2, h3⟩
  · exact .inl h1
  · exact .inr ⟨g', cap, cur, h0, h1, Blk.below (g := g') h2 hb (Blk.lt (g := g') h2), h3⟩
end Go.Proofs.Ytihddficgpjgpaa
