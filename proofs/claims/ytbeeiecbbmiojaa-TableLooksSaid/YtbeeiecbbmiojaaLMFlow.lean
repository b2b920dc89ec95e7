/- MFlow: the laws of labels, in this seat's numbers. -/
import Derived.StillTail
import Derived.Below
import Derived.Deep.Draws
import Derived.Test.YtbeeiecbbmiojaaBase
import Derived.Test.YtbeeiecbbmiojaaLMTop
import Derived.Deep.MidRow
import Derived.Great.BuildSlice
import Derived.Laws.CopyOwn
import Derived.Test.YtbeeiecbbmiojaaLMLeq
import Derived.Test.YtbeeiecbbmiojaaFrame
import Derived.Test.YtbeeiecbbmiojaaLMRef
namespace Go.Proofs.Ytbeeiecbbmiojaa.Lb
open Go.RowKit Go.ChangeShapes Go.WideShapes
/-- A label that is in order, of at most n pairs. -/
structure OKL (l : Lab) (n : Nat) : Prop where
  good : Good l
  len : l.ps.length ≤ n
theorem okl_turn {a : Lab} {m : Nat} (f t : Int) (ha : OKL a m) : OKL (turnL f t a) (m + m) := ⟨good_turn f t ha.good, Nat.le_trans (merge_length _ _ _) (by have := ha.len; omega)⟩
theorem okl_raise {a : Lab} {m : Nat} (ha : OKL a m) : OKL (raiseL a) (m + m) := okl_turn 0 5 ha
theorem okl_rest {a : Lab} {m : Nat} (ha : OKL a m) : OKL (restL a) (m + m) := okl_turn 0 2 ha
theorem okl_with {a : Lab} {m : Nat} (ha : OKL a m) {c : Int} (hc : 0 < c) (v : Int) : OKL (withL a c v) (m + 1) := ⟨good_with ha.good hc v, Nat.le_trans (with_length _ _ _ _) (by have := ha.len; omega)⟩
theorem okl_of (d : Int) : OKL ⟨d, []⟩ 0 := ⟨good_of d, Nat.le_refl _⟩
end Go.Proofs.Ytbeeiecbbmiojaa.Lb
