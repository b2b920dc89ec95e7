/- Yat: a variable that holds a configuration that was read -/
import Derived.Test.YtihddficgpjgpaaZYdec
import Derived.Test.YtihddficgpjgpaaZYctl
namespace Go.Proofs.Ytihddficgpjgpaa.Y
open Go.RowKit Go.ChangeShapes Go.WideShapes Go.ChangeAt
theorem at_blk2 {α : Type} {L : Lay α} {x : α} {w : World} {F : Cell → Prop} {g : Nat} {T : TypeId} {cs : Array Value} (hB : Blk w g T cs) (hL : L.on w F cs.toList x) {v : Value} (hv : v = .pointer (some ⟨g, 0, none⟩)) : (Sym.at L x).on w noF v := by
  subst hv
  exact at_of_blk hB (L.mono hL (.refl _ _) fun _ _ h => h.elim) fun _ h => h
theorem plan_dat {c : Cf} {o : Ob} (h : okCB 1048576 c) (ho : o ∈ (planC c).obs) : Pk.Byt o.dat := by
  obtain ⟨p, hp, rfl⟩ := List.mem_map.1 ho
  exact fun x hx => byt_wf (h.2.2.2.2.2.2 p hp).2.2.2.2.2.2.1.2.2 x (obK_dat hx)
end Go.Proofs.Ytihddficgpjgpaa.Y
