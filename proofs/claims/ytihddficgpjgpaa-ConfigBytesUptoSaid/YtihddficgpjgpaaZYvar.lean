/- Variables of a call's own whose fields are stored to. No program in sight. -/
import Derived.Test.YtihddficgpjgpaaZYown
namespace Go.Proofs.Ytihddficgpjgpaa.Y
open Go.RowKit
section
variable {P : Program} {Q : Exit → Act → World → Prop} {a : Act} {w : World}
/-- One cell is stored. -/
theorem wpList_store_cell {ops : Array Oper} {rest : List Oper} {op : Oper} (hgd : op.guard = none) (ty : TypeId) (x y : Operand) (ho : op.op = .store ty x y)
    (b o : Nat) (v : Value) (hx : a.eval x = .pointer (some ⟨b, o, none⟩)) (hy : a.eval y = v) (hvc : v.cells = #[v]) (hc : (w.cell? ⟨b, o, none⟩).isSome = true) (hf : w.frozen? ⟨b, o, none⟩ = false) (hi : (P.info? ty).map (·.size) = some 1) (h1 : v.oneCell' = true)
    (h : wpList P ops Q rest (a.put op.dst undef) (w.setCells b o [v])) : wpList P ops Q (op :: rest) a w := by
  have := run_storeCells_cells (P := P) b o [v] 0 w (fun j hj => by have : j = 0 := by simpa using hj
                                                                    subst this; simpa using hc) (fun j hj => by have : j = 0 := by simpa using hj
                                                                                                                subst this; simpa using hf) (fun u hu => by simp at hu; subst hu; exact h1)
  refine wpList_plain hgd fun _ hK => ?_
  unfold Oper.wp execOp
  cases hq : P.info? ty with
  | none => simp [hq] at hi
  | some i =>
    have hs : i.size = 1 := by simpa [hq] using hi
    simp only [Nat.add_zero] at this
    have hr : (storeVar ty ⟨b, o, none⟩ v).run P w = .ok () (w.setCells b o [v]) := by
      simp [storeVar, sizeOf, typeInfo, hq, hvc, hs, this]
    simp only [ho, hx, hy, Instr.storeAt, Instr.sureAddr, Sem.run_bind, Sem.run_pure, Result.andThen_ok, hr]
    exact hK _ _ h
end
section
variable {U : Prop} {N : Nat} {e : Env} {F : Cell → Prop} {a : Act} {w w' : World} {g : Nat}
theorem keeps_setCells {o : Nat} {vs : List Value} (hF : ∀ o, F (g, o)) : Keeps F w (w.setCells g o vs) := by
  have G : w.grownBy (w.setCells g o vs) (some g) := only_setCells vs o (only_refl w (some g))
  refine ⟨G.size, fun k hk hn => World.cell?_of_block (G.block k.1 hk fun e => hn ?_), fun b hb hn => G.block b hb fun e => hn 0 ?_⟩
  · injection e with e; rw [show k = (g, k.2) from by rw [← e]]; exact hF _
  · injection e with e; rw [e]; exact hF 0
/-- A variable known by its cells. -/
theorem at_of_blk {α : Type} {L : Lay α} {x : α} {T : TypeId} {cs : Array Value} (hB : Blk w g T cs) (hL : L.on w F cs.toList x) (hF : ∀ o, ¬ F (g, o)) : (Sym.at L x).on w F (.pointer (some ⟨g, 0, none⟩)) := ⟨g, 0, cs.toList, rfl, hB.lt, hL, fun j hj => ⟨hF _, by rw [hB.cell]; simp⟩⟩
end
end Go.Proofs.Ytihddficgpjgpaa.Y
