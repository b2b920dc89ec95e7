/- Ylim: for ConfigLimits -/
import Derived.Test.YtihddficgpjgpaaYfit20
import Derived.Test.YtihddficgpjgpaaYdraw
namespace Go.Proofs.Ytihddficgpjgpaa.Y
open Go.RowKit Go.ChangeShapes Go.WideShapes Go.ChangeAt

section
variable {d : Nat} {t : TypeId} {p : String} {af : Array Edge} {g : Option (Nat × Bool)} {x x2 : Operand}
theorem bd67_6 : ∀ (ev : Operand → Value) (w : World) (k l : Int) (A : Option Addr) (n m : Nat), ev x = .int .i64 k → ev x2 = .agg #[.int .i64 l, .slice A n m] → (execOp ev ⟨some d, .build 67 #[(0, x), (2, x2)], t, p, af, g⟩).run Try.prog w = .ok (.value (.agg #[.int .i64 k, .int .i64 0, .int .i64 l, .slice A n m, .int .i64 0, .slice none 0 0, .int .i64 0, .int .i64 0, .slice none 0 0, .slice none 0 0, .int .i64 0, .int .i64 0])) w := fun ev w k l A n m h1 h2 => by go_simp
theorem bd67_7 {x3 : Operand} : ∀ (ev : Operand → Value) (w : World) (k l q : Int) (A : Option Addr) (n m : Nat), ev x = .int .i64 k → ev x2 = .agg #[.int .i64 l, .slice A n m] → ev x3 = .int .i64 q → (execOp ev ⟨some d, .build 67 #[(0, x), (2, x2), (4, x3)], t, p, af, g⟩).run Try.prog w = .ok (.value (.agg #[.int .i64 k, .int .i64 0, .int .i64 l, .slice A n m, .int .i64 0, .slice none 0 0, .int .i64 q, .int .i64 0, .slice none 0 0, .slice none 0 0, .int .i64 0, .int .i64 0])) w := fun ev w k l q A n m h1 h2 h3 => by go_simp
theorem bs_57 : BsRun Try.prog ⟨some d, .buildSlice 57 1 #[(0, x)], t, p, af, g⟩ x 12 67 := fun ev w cs h1 h2 => by
  obtain ⟨cs⟩ := cs
  match cs, h2 with
  | [a0, a1, a2, a3, a4, a5, a6, a7, a8, a9, a10, a11], _ => go_simp
theorem al_59 : AllocRun Try.prog ⟨some d, .alloc 59, t, p, af, none⟩ 59 #[.int .i64 0, .int .i64 0, .int .i64 0, .slice none 0 0, .slice none 0 0] := fun ev w => by go_simp
end
theorem lab0_of {w : World} {F : Cell → Prop} (d : Int) : (labL 12).on w F [.int .i64 d, .slice none 0 0] ⟨d, []⟩ := by
  obtain ⟨cs, e, h⟩ := labd_on (d := d) (w := w) (F := F)
  injection e with e
  have : cs = [.int .i64 d, .slice none 0 0] := by
    have := congrArg Array.toList e
    simpa using this.symm
  rw [this] at h
  exact h
theorem nil_of {α : Type} {L : Lay α} {w : World} {F : Cell → Prop} : (Lay.sl L).on w F [.slice none 0 0] ([] : List α) := ⟨none, 0, rfl, fun h => absurd h (by simp), Nat.le_refl _⟩
/-- The cells of an object whose labels have no pairs. -/
theorem ob_of {w : World} {F : Cell → Prop} (k p l c pg nm sp pc : Int) : obL.on w F [.int .i64 k, .int .i64 p, .int .i64 l, .slice none 0 0, .int .i64 c, .slice none 0 0, .int .i64 pg, .int .i64 nm, .slice none 0 0, .slice none 0 0, .int .i64 sp, .int .i64 pc] ⟨k, p, ⟨l, []⟩, ⟨c, []⟩, pg, nm, [], [], sp, pc⟩ :=
  ⟨[_], _, rfl, rfl, [_], _, rfl, rfl, [_, _], _, rfl, lab0_of l, [_, _], _, rfl, lab0_of c, [_], _, rfl, rfl, [_], _, rfl, rfl, [_], _, rfl, nil_of, [_], _, rfl, nil_of, [_], [_], rfl, rfl, rfl⟩
theorem cf_of {w : World} {F : Cell → Prop} {a b c : Int} {v u : Value} {l : List (Int × Int)} {os : List Ob} (h1 : (Lay.sl slotL).on w F [v] l) (h2 : (Lay.sl obL).on w F [u] os) : cfL.on w F [.int .i64 a, .int .i64 b, .int .i64 c, v, u] ⟨a, b, c, l, os⟩ := ⟨[_], _, rfl, rfl, [_], _, rfl, rfl, [_], _, rfl, rfl, [_], [_], rfl, h1, h2⟩
abbrev slE (s : Int × Int) : List Value := [.int .u64 s.1, .int .i64 s.2]
theorem slF : Flat slotL slE := fun w F cs x => Flat.pr (Flat.int .u64) (Flat.int .i64) w F cs x
theorem slots_of {w : World} {F : Cell → Prop} {g : Nat} {l : List (Int × Int)} (h : Blk w g 64 (l.flatMap slE).toArray) (hl : l.length ≤ 1000) (hF : ∀ o, ¬ F (g, o)) : (Lay.sl slotL).on w F [.slice (some ⟨g, 0, none⟩) l.length l.length] l := by
  have ho : w.ownsRow 0 64 2 (.slice (some ⟨g, 0, none⟩) l.length l.length) l.length (l.flatMap slE) := own_of_blk h (Nat.zero_le _) (Nat.le_refl _) (by unfold maxLen; omega) (by rw [List.size_toArray]; exact slF.length l) (by
    rw [List.take_of_length_le]
    exact Nat.le_of_eq (slF.length l))
  exact sl_of_own slF ho fun x o hx _ => by cases hx; exact hF o
theorem slots_set (l1 l2 : List (Int × Int)) (x : Int × Int) (v : Int) : ((l1 ++ x :: l2).flatMap slE).toArray.setIfInBounds (l1.length * 2 + 1) (.int .i64 v) = ((l1 ++ (x.1, v) :: l2).flatMap slE).toArray := by
  have e : (l1.flatMap slE).length = l1.length * 2 := slF.length l1
  rw [List.setIfInBounds_toArray]
  congr 1
  rw [List.flatMap_append, List.flatMap_append, List.set_append_right _ _ (by omega), e, show l1.length * 2 + 1 - l1.length * 2 = 1 by omega]
  rfl
def rowsAt (n i : Nat) : List (Int × Int) := List.replicate i (0, 1) ++ List.replicate (n - i) (0, 0)
theorem rowsAt_set {n i : Nat} (h : i < n) : ((rowsAt n i).flatMap slE).toArray.setIfInBounds (i * 2 + 1) (.int .i64 1) = ((rowsAt n (i + 1)).flatMap slE).toArray := by
  unfold rowsAt
  rw [show n - i = (n - (i + 1)) + 1 by omega, List.replicate_succ]
  have := slots_set (List.replicate i (0, 1)) (List.replicate (n - (i + 1)) (0, 0)) (0, 0) 1
  rw [List.length_replicate] at this
  rw [this, List.replicate_succ' (n := i)]
  simp
theorem rowsAt_len {n i : Nat} (h : i ≤ n) : (rowsAt n i).length = n := by unfold rowsAt; simp; omega
theorem rowsAt_end (n : Nat) : rowsAt n n = List.replicate n (0, 1) := by unfold rowsAt; simp
theorem nou64 (l : List (Int × Int)) (x : Int) : Value.int .u32 x ∉ (l.flatMap slE).toArray.toList := fun h => by
  obtain ⟨s, _, hs⟩ := List.mem_flatMap.1 h
  simp [slE] at hs
theorem Try.info64s : (Try.prog.info? 64).map (fun i => (i.zero, i.size, i.bytes)) = some (some (.agg #[.int .u64 0, .int .i64 0]), 2, 16) := by kernel_rfl
theorem Try.info67s : (Try.prog.info? 67).map (fun i => (i.zero, i.size, i.bytes)) = some (some (.agg #[.int .i64 0, .int .i64 0, .int .i64 0, .slice none 0 0, .int .i64 0, .slice none 0 0, .int .i64 0, .int .i64 0, .slice none 0 0, .slice none 0 0, .int .i64 0, .int .i64 0]), 12, 160) := by kernel_rfl
theorem Try.underlying53 : Try.prog.underlying 53 = some (.slice 64) := by kernel_rfl
theorem Try.underlying57 : Try.prog.underlying 57 = some (.slice 67) := by kernel_rfl
theorem made64 {n : Nat} (h : n = 8 ∨ n = 9) : madeCells (Value.agg #[.int .u64 0, .int .i64 0]).cells (n * 2) = ((rowsAt n 0).flatMap slE).toArray := by
  rcases h with rfl | rfl <;> kernel_rfl
theorem mk53 {d : Nat} {t : TypeId} {p : String} {af : Array Edge} {g : Option (Nat × Bool)} {x x2 : Operand} {n : Nat} (hn : n = 8 ∨ n = 9) : ∀ (ev : Operand → Value) (w : World), ev x = .int .i64 (n : Int) → ev x2 = .int .i64 (n : Int) → (execOp ev ⟨some d, .makeSlice 53 x x2, t, p, af, g⟩).run Try.prog w = .ok (.value (.slice (some ⟨w.heap.size, 0, none⟩) n n)) (w.alloc (.cells ((rowsAt n 0).flatMap slE).toArray 64)) := fun ev w h1 h2 => by
  obtain ⟨i0, hi0, hz0, hz1, hz2⟩ := info_parts Try.info64s
  have hr := run_make (P := Try.prog) w 53 64 i0 _ Try.underlying53 hi0 hz0 .i64 .i64 (n : Int) (n : Int) (by omega) (Int.le_refl _) (by rw [hz2]; omega) (by omega)
  rw [hz1, Int.toNat_natCast, made64 hn] at hr
  simp only [execOp, h1, h2, Sem.run_bind, hr, Result.andThen_ok]
  rfl
section
variable {U : Prop} {P : Program} {Q : Exit → Act → World → Prop} {N : Nat} {e e2 : Env} {F F' : Cell → Prop} {a : Act} {w : World} {ops : Array Oper} {rest : List Oper} {o : Oper}
theorem fok_row {g : Nat} {T : TypeId} {cs : Array Value} (hB : Blk w g T cs) (h : U → ∀ x : Int, Value.int .u32 x ∉ cs.toList) : FOK U (AtB g) w := ⟨fun k hk => by unfold AtB at hk; rw [hk]; exact hB.lt, fun u k hk o x => by unfold AtB at hk; rw [hk]; exact nou_cells hB (h u) o x⟩
/-- A variable is made; what may be written stays. -/
theorem alloc_F {d : Nat} {u : TypeId} {z : Array Value} (h : StE U N e F a w) (hd : o.dst = some d) (hdN : decide (d < N) = true) (hgd : o.guard = none) (v : Nat → Value) (hr : (execOp a.eval o).run P w = .ok (.value (v w.heap.size)) (w.alloc (.cells z u)))
    (hQ : ∀ g a' w', Blk w' g u z → w.heap.size ≤ g → Below w.heap.size w w' → StE U N ((d, true, .val (v g)) :: e) F a' w' → wpList P ops Q rest a' w') : wpList P ops Q (o :: rest) a w := by
  have hb : Below w.heap.size w (w.alloc (.cells z u)) := (Below.refl _ _).alloc (Nat.le_refl _) _
  have hB := Blk.new w u z
  refine wpList_plain hgd fun K hK => ?_
  unfold Oper.wp
  rw [hr]
  refine hK _ _ ?_
  rw [hd]
  exact hQ _ _ _ hB (Nat.le_refl _) hb (h.put hb (by simpa using hdN) ⟨fun _ => rfl, fun e => by cases e⟩)
/-- A block of one's own is laid anew. -/
theorem row_F {gq : Nat} {T T' : TypeId} {z cs : Array Value} (t s : Nat) (h : StE U N e F a w) (h1 : o.op = .store T (.tmp t) (.tmp s)) (h2 : o.dst = none) (h3 : o.guard = none) (hx : e.lookup s = some (true, .val (.agg cs)))
    (hg : e.lookup t = some (true, .val (.pointer (some ⟨gq, 0, none⟩)))) (hB : Blk w gq T' z) (hz : z.size = cs.size) (h4 : (P.info? T).map (·.size) = some cs.size) (h5 : cs.all (fun u => u.oneCell') = true) (hv : ValsB e e2) (hF : ∀ w', Blk w' gq T' cs → w.grownBy w' (some gq) → FOK U F' w')
    (hQ : ∀ a' w', Blk w' gq T' cs → w.grownBy w' (some gq) → StE U N e2 F' a' w' → wpList P ops Q rest a' w') : wpList P ops Q (o :: rest) a w := by
  have hB' := setRow_heap w gq z cs T' (0, 0) hB
  have G : w.grownBy (w.setRow gq cs) (some gq) := ⟨rfl, rfl, rfl, by rw [size_setRow]; exact Nat.le_refl _, fun k _ hk => setRow_other w gq k cs (fun e => hk (by rw [e]))⟩
  exact wpList_store_rowTo h3 T (.tmp t) (.tmp s) h1 h2 gq cs (h.get t hg) (h.get s hx) T' z hB h4 hz h5 (hQ _ _ hB' G (h.vals (hF _ hB' G) hv))
/-- One cell of it. -/
theorem cell_F {gq k : Nat} {T T' : TypeId} {z : Array Value} {v : Value} {xo yo : Operand} (h : StE U N e F a w) (h1 : o.op = .store T xo yo) (h2 : o.dst = none) (h3 : o.guard = none) (hx : OpdE e true xo (.val (.pointer (some ⟨gq, k, none⟩)))) (hy : OpdE e true yo (.val v)) (hB : Blk w gq T' z) (hk : k < z.size) (hvc : v.cells = #[v]) (hi : (P.info? T).map (·.size) = some 1) (hone : v.oneCell' = true) (hv : ValsB e e2) (hF : ∀ w', Blk w' gq T' (z.setIfInBounds k v) → w.grownBy w' (some gq) → FOK U F' w')
    (hQ : ∀ a' w', Blk w' gq T' (z.setIfInBounds k v) → w.grownBy w' (some gq) → StE U N e2 F' a' w' → wpList P ops Q rest a' w') : wpList P ops Q (o :: rest) a w := by
  refine wpList_store_cell h3 T xo yo h1 gq k v (hx a w F (fun s _ => h.known s) rfl) (hy a w F (fun s _ => h.known s) rfl) hvc (by rw [hB.cell]; simp [hk]) (hB.frozen k) hi hone ?_
  rw [h2]
  have G : w.grownBy (w.setCells gq k [v]) (some gq) := only_setCells [v] k (only_refl w (some gq))
  exact hQ _ _ (hB.set_ k v) G (h.vals (hF _ (hB.set_ k v) G) hv)
theorem StE.toF (h : StE U N e F a w) (hF : FOK U F' w) (hv : ValsB e e2) : StE U N e2 F' a w := h.vals hF hv
theorem p_bd59_v {d : Nat} {t : TypeId} {p : String} {af : Array Edge} {g : Option (Nat × Bool)} {c : Bool} {x x2 x3 x4 : Operand} {n m q : Int} {A : Option Addr} {i j : Nat} (hg : GdE ops e g c) (hx : OpdE e c x (.int .i64 n)) (hx2 : OpdE e c x2 (.int .i64 m)) (hx3 : OpdE e c x3 (.int .i64 q)) (hx4 : OpdE e c x4 (.val (.slice A i j))) : Pays U Try.prog ops Q N e ⟨some d, .build 59 #[(0, x), (1, x2), (2, x3), (3, x4)], t, p, af, g⟩ (c, .val (.agg #[.int .i64 n, .int .i64 m, .int .i64 q, .slice A i j, .slice none 0 0])) :=
  pVal hg fun e a w F hk => ⟨_, bd59_4 _ w (hx a w F (fun s hs => hk s (by simp [Op.operands, hs])) e) (hx2 a w F (fun s hs => hk s (by simp [Op.operands, hs])) e) (hx3 a w F (fun s hs => hk s (by simp [Op.operands, hs])) e) (hx4 a w F (fun s hs => hk s (by simp [Op.operands, hs])) e), rfl⟩
theorem p_bd67_6 {d : Nat} {t : TypeId} {p : String} {af : Array Edge} {g : Option (Nat × Bool)} {c : Bool} {x x2 : Operand} {k l : Int} (hg : GdE ops e g c) (hx : OpdE e c x (.int .i64 k)) (hx2 : OpdE e c x2 (.val (.agg #[.int .i64 l, .slice none 0 0]))) : Pays U Try.prog ops Q N e ⟨some d, .build 67 #[(0, x), (2, x2)], t, p, af, g⟩ (c, .st obL ⟨k, 0, ⟨l, []⟩, ⟨0, []⟩, 0, 0, [], [], 0, 0⟩) :=
  pVal hg fun e a w F hk => ⟨_, bd67_6 _ w k l none 0 0 (hx a w F (fun s hs => hk s (by simp [Op.operands, hs])) e) (hx2 a w F (fun s hs => hk s (by simp [Op.operands, hs])) e), _, rfl, ob_of k 0 l 0 0 0 0 0⟩
theorem p_bd67_7 {d : Nat} {t : TypeId} {p : String} {af : Array Edge} {g : Option (Nat × Bool)} {c : Bool} {x x2 x3 : Operand} {k l q : Int} (hg : GdE ops e g c) (hx : OpdE e c x (.int .i64 k)) (hx2 : OpdE e c x2 (.val (.agg #[.int .i64 l, .slice none 0 0]))) (hx3 : OpdE e c x3 (.int .i64 q)) : Pays U Try.prog ops Q N e ⟨some d, .build 67 #[(0, x), (2, x2), (4, x3)], t, p, af, g⟩ (c, .st obL ⟨k, 0, ⟨l, []⟩, ⟨0, []⟩, q, 0, [], [], 0, 0⟩) :=
  pVal hg fun e a w F hk => ⟨_, bd67_7 _ w k l q none 0 0 (hx a w F (fun s hs => hk s (by simp [Op.operands, hs])) e) (hx2 a w F (fun s hs => hk s (by simp [Op.operands, hs])) e) (hx3 a w F (fun s hs => hk s (by simp [Op.operands, hs])) e), _, rfl, ob_of k 0 l 0 q 0 0 0⟩
end
theorem i64_and1 (n : Int) : ∃ m : Int, bits .and .i64 n 1 = m ∧ (m = 0 ∨ m = 1) := by
  have h : (BitVec.ofInt 64 n &&& BitVec.ofInt 64 1).toNat ≤ 1 := by
    rw [BitVec.toNat_and]
    exact Nat.and_le_right
  have e : bits .and .i64 n 1 = IntKind.i64.wrap (((BitVec.ofInt 64 n &&& BitVec.ofInt 64 1).toNat : Nat) : Int) := by rfl
  refine ⟨_, rfl, ?_⟩
  rw [e, IntKind.wrap_i64]
  omega
theorem sixtyfour {n : Nat} {m : Int} (hm : m = 0 ∨ m = 1) (hn : (n : Int) = 64 + m) : (rightC ⟨1, 100, 9, [(0, 1)], List.replicate n ⟨6, 0, ⟨2, []⟩, ⟨0, []⟩, 0, 0, [], [], 0, 0⟩⟩ == (m == 0)) = true := by
  rcases hm with rfl | rfl
  · obtain rfl : n = 64 := by omega
    kernel_rfl
  · obtain rfl : n = 65 := by omega
    kernel_rfl
theorem eights {n : Nat} {m : Int} (hm : m = 0 ∨ m = 1) (hn : (n : Int) = 8 + m) : (rightC ⟨1, 100, 9, List.replicate n (0, 1), []⟩ == (m == 0)) = true := by
  rcases hm with rfl | rfl
  · obtain rfl : n = 8 := by omega
    kernel_rfl
  · obtain rfl : n = 9 := by omega
    kernel_rfl

end Go.Proofs.Ytihddficgpjgpaa.Y
