/- Ylim: for ConfigLimits -/
import Derived.Test.YtihddficgpjgpaaZYfit20
import Derived.Test.YtihddficgpjgpaaZYdraw
namespace Go.Proofs.Ytihddficgpjgpaa.Y
open Go.RowKit Go.ChangeShapes Go.WideShapes Go.ChangeAt
section
variable {d : Nat} {t : TypeId} {p : String} {af : Array Edge} {g : Option (Nat × Bool)} {x x2 : Operand}
theorem bs_57 : BsRun Try.prog ⟨some d, .buildSlice 57 1 #[(0, x)], t, p, af, g⟩ x 12 67 := fun ev w cs h1 h2 => by
  obtain ⟨cs⟩ := cs
  match cs, h2 with
  | [a0, a1, a2, a3, a4, a5, a6, a7, a8, a9, a10, a11], _ => go_simp
theorem al_59 : AllocRun Try.prog ⟨some d, .alloc 59, t, p, af, none⟩ 59 #[.int .i64 0, .int .i64 0, .int .i64 0, .slice none 0 0, .slice none 0 0] := fun ev w => by go_simp
end
theorem lab0_of {w : World} {F : Cell → Prop} (d : Int) : (labL 12).on w F [.int .i64 d, .slice none 0 0] ⟨d, []⟩ := by
  obtain ⟨cs, e, h⟩ := labd_on (d := d) (w := w) (F := F)
  injection e with e
  have : cs = [.int .i64 d, .slice none 0 0] := by
    have := congrArg Array.toList e
    simpa using this.symm
  rw [this] at h
  exact h
theorem nil_of {α : Type} {L : Lay α} {w : World} {F : Cell → Prop} : (Lay.sl L).on w F [.slice none 0 0] ([] : List α) := ⟨none, 0, rfl, fun h => absurd h (by simp), Nat.le_refl _⟩
theorem cf_of {w : World} {F : Cell → Prop} {a b c : Int} {v u : Value} {l : List (Int × Int)} {os : List Ob} (h1 : (Lay.sl slotL).on w F [v] l) (h2 : (Lay.sl obL).on w F [u] os) : cfL.on w F [.int .i64 a, .int .i64 b, .int .i64 c, v, u] ⟨a, b, c, l, os⟩ := ⟨[_], _, rfl, rfl, [_], _, rfl, rfl, [_], _, rfl, rfl, [_], [_], rfl, h1, h2⟩
abbrev slE (s : Int × Int) : List Value := [.int .u64 s.1, .int .i64 s.2]
theorem slF : Flat slotL slE := fun w F cs x => Flat.pr (Flat.int .u64) (Flat.int .i64) w F cs x
theorem Try.info64s : (Try.prog.info? 64).map (fun i => (i.zero, i.size, i.bytes)) = some (some (.agg #[.int .u64 0, .int .i64 0]), 2, 16) := by kernel_rfl
theorem Try.info67s : (Try.prog.info? 67).map (fun i => (i.zero, i.size, i.bytes)) = some (some (.agg #[.int .i64 0, .int .i64 0, .int .i64 0, .slice none 0 0, .int .i64 0, .slice none 0 0, .int .i64 0, .int .i64 0, .slice none 0 0, .slice none 0 0, .int .i64 0, .int .i64 0]), 12, 160) := by kernel_rfl
theorem Try.underlying53 : Try.prog.underlying 53 = some (.slice 64) := by kernel_rfl
theorem Try.underlying57 : Try.prog.underlying 57 = some (.slice 67) := by kernel_rfl
section
variable {U : Prop} {P : Program} {Q : Exit → Act → World → Prop} {N : Nat} {e e2 : Env} {F F' : Cell → Prop} {a : Act} {w : World} {ops : Array Oper} {rest : List Oper} {o : Oper}
/-- A block of one's own is laid anew. -/
theorem row_F {gq : Nat} {T T' : TypeId} {z cs : Array Value} (t s : Nat) (h : StE U N e F a w) (h1 : o.op = .store T (.tmp t) (.tmp s)) (h2 : o.dst = none) (h3 : o.guard = none) (hx : e.lookup s = some (true, .val (.agg cs)))
    (hg : e.lookup t = some (true, .val (.pointer (some ⟨gq, 0, none⟩)))) (hB : Blk w gq T' z) (hz : z.size = cs.size) (h4 : (P.info? T).map (·.size) = some cs.size) (h5 : cs.all (fun u => u.oneCell') = true) (hv : ValsB e e2) (hF : ∀ w', Blk w' gq T' cs → w.grownBy w' (some gq) → FOK U F' w')
    (hQ : ∀ a' w', Blk w' gq T' cs → w.grownBy w' (some gq) → StE U N e2 F' a' w' → wpList P ops Q rest a' w') : wpList P ops Q (o :: rest) a w := by
  have hB' := setRow_heap w gq z cs T' (0, 0) hB
  have G : w.grownBy (w.setRow gq cs) (some gq) := ⟨rfl, rfl, rfl, by rw [size_setRow]; exact Nat.le_refl _, fun k _ hk => setRow_other w gq k cs (fun e => hk (by rw [e]))⟩
  exact wpList_store_rowTo h3 T (.tmp t) (.tmp s) h1 h2 gq cs (h.get t hg) (h.get s hx) T' z hB h4 hz h5 (hQ _ _ hB' G (h.vals (hF _ hB' G) hv))
/-- One cell of it. -/
theorem cell_F {gq k : Nat} {T T' : TypeId} {z : Array Value} {v : Value} {xo yo : Operand} (h : StE U N e F a w) (h1 : o.op = .store T xo yo) (h2 : o.dst = none) (h3 : o.guard = none) (hx : OpdE e true xo (.val (.pointer (some ⟨gq, k, none⟩)))) (hy : OpdE e true yo (.val v)) (hB : Blk w gq T' z) (hk : k < z.size) (hvc : v.cells = #[v]) (hi : (P.info? T).map (·.size) = some 1) (hone : v.oneCell' = true) (hv : ValsB e e2) (hF : ∀ w', Blk w' gq T' (z.setIfInBounds k v) → w.grownBy w' (some gq) → FOK U F' w')
    (hQ : ∀ a' w', Blk w' gq T' (z.setIfInBounds k v) → w.grownBy w' (some gq) → StE U N e2 F' a' w' → wpList P ops Q rest a' w') : wpList P ops Q (o :: rest) a w := by
  refine wpList_store_cell h3 T xo yo h1 gq k v (hx a w F (fun s _ => h.known s) rfl) (hy a w F (fun s _ => h.known s) rfl) hvc (by rw [hB.cell]; simp [hk]) (hB.frozen k) hi hone ?_
  rw [h2]
  have G : w.grownBy (w.setCells gq k [v]) (some gq) := only_setCells [v] k (only_refl w (some gq))
  exact hQ _ _ (hB.set_ k v) G (h.vals (hF _ (hB.set_ k v) G) hv)
end
end Go.Proofs.Ytihddficgpjgpaa.Y
